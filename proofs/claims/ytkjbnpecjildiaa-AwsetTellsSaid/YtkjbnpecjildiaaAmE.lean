/- Boxes that hold rows of plain elements: what simp needs of them. No project text. -/
import Derived.Test.YtkjbnpecjildiaaAmD
import Derived.Shelf.Spec.SlicesGrow
import Derived.Shelf.Small.Strs
set_option linter.unusedSimpArgs false
set_option linter.unusedVariables false
namespace Go.AM

/-- A cell that no mark touches. -/
def AV.calm : AV → Bool
  | .any | .b _ | .i _ _ | .s _ | .nil | .nofn | .ab _ _ _ _ => true
  | .sl .fro _ _ => true
  | _ => false
def Calm (cs : List AV) : Prop := ∀ c ∈ cs, c.calm = true

theorem Calm.append {a b : List AV} (h1 : Calm a) (h2 : Calm b) : Calm (a ++ b) := fun c hc => by
  rcases List.mem_append.1 hc with h | h
  · exact h1 c h
  · exact h2 c h
theorem Calm.take {a : List AV} (h : Calm a) (n : Nat) : Calm (a.take n) := fun c hc => h c (List.mem_of_mem_take hc)
theorem Calm.drop {a : List AV} (h : Calm a) (n : Nat) : Calm (a.drop n) := fun c hc => h c (List.mem_of_mem_drop hc)
theorem Calm.replicate (n : Nat) {x : AV} (hx : x.calm = true) : Calm (List.replicate n x) := fun c hc => by rw [List.eq_of_mem_replicate hc]; exact hx

theorem tr_calm {h : Place → AV → AV} (hl : ∀ p x, x.calm = true → h p x = x) {x : AV} (hx : x.calm = true) (p : Place) : x.tr h p = x := by
  cases x <;> first | exact hl _ _ hx | (simp [AV.calm] at hx; done)
theorem trC_calm {h : Place → AV → AV} (hl : ∀ p x, x.calm = true → h p x = x) (id : Nat) : ∀ (k : Nat) (cs : List AV), Calm cs → AV.trC h id k cs = cs
  | _, [], _ => rfl
  | k, x :: xs, hc => by rw [AV.trC, tr_calm hl (hc x (by simp)), trC_calm hl id (k + 1) xs fun c h => hc c (by simp [h])]

theorem take_calm (Q) (p : Place) (x : AV) (hx : x.calm = true) : takeLeaf Q p x = x := by
  cases x <;> first | rfl | (simp [AV.calm] at hx; done) | skip
  rename_i g sz xs; cases g <;> first | rfl | (simp [AV.calm] at hx; done)
theorem fz_calm (F) (p : Place) (x : AV) (hx : x.calm = true) : fzLeaf F p x = x := by
  cases x <;> first | rfl | (simp [AV.calm] at hx; done) | skip
  rename_i g sz xs; cases g <;> first | rfl | (simp [AV.calm] at hx; done)
theorem view_calm (p : Place) (x : AV) (hx : x.calm = true) : viewLeaf p x = x := by
  cases x <;> first | rfl | (simp [AV.calm] at hx; done) | skip
  rename_i g sz xs; cases g <;> first | rfl | (simp [AV.calm] at hx; done)
theorem kill_calm (b) (p : Place) (x : AV) (hx : x.calm = true) : killBLeaf b p x = x := by
  cases x <;> first | rfl | (simp [AV.calm] at hx; done)

@[simp] theorem trC_take {Q id k cs} (h : Calm cs) : AV.trC (takeLeaf Q) id k cs = cs := trC_calm (take_calm Q) id k cs h
@[simp] theorem trC_fz {F id k cs} (h : Calm cs) : AV.trC (fzLeaf F) id k cs = cs := trC_calm (fz_calm F) id k cs h
@[simp] theorem trC_view {id k cs} (h : Calm cs) : AV.trC viewLeaf id k cs = cs := trC_calm view_calm id k cs h
@[simp] theorem trC_killB {b id k cs} (h : Calm cs) : AV.trC (killBLeaf b) id k cs = cs := trC_calm (kill_calm b) id k cs h
attribute [simp] AV.fitsL_refl

/-- Rows of elements, encoded alike, and what lies behind them. -/
def boxR {α : Type} (enc : α → List AV) (l : List α) (pad : List AV) : List AV := (l.map enc).flatten ++ pad

structure EncOk {α : Type} (enc : α → List AV) (k : Nat) : Prop where
  len : ∀ x, (enc x).length = k
  calm : ∀ x, Calm (enc x)

section
variable {α : Type} {enc : α → List AV} {k : Nat} (hk : EncOk enc k)
include hk
theorem rows_len (l : List α) : (l.map enc).flatten.length = l.length * k := by
  induction l with
  | nil => simp
  | cons x l ih => simp [hk.len, Nat.add_mul] at ih ⊢; omega
theorem boxR_len (l : List α) (pad : List AV) : (boxR enc l pad).length = l.length * k + pad.length := by
  unfold boxR
  rw [List.length_append, rows_len hk]
theorem boxR_calm {l : List α} {pad : List AV} (hp : Calm pad) : Calm (boxR enc l pad) := by
  refine Calm.append (fun c hc => ?_) hp
  obtain ⟨y, hy, hc⟩ := List.mem_flatten.1 hc
  obtain ⟨x, _, rfl⟩ := List.mem_map.1 hy
  exact hk.calm x c hc
theorem boxR_cut (l : List α) (pad : List AV) (i : Nat) (h : i < l.length) : boxR enc l pad = ((l.take i).map enc).flatten ++ (enc l[i] ++ (((l.drop (i + 1)).map enc).flatten ++ pad)) ∧ ((l.take i).map enc).flatten.length = i * k := by
  have e : l = l.take i ++ l[i] :: l.drop (i + 1) := by rw [List.getElem_cons_drop, List.take_append_drop]
  refine ⟨?_, by rw [rows_len hk, List.length_take, Nat.min_eq_left (by omega)]⟩
  unfold boxR
  have e2 : l.map enc = (l.take i).map enc ++ enc l[i] :: (l.drop (i + 1)).map enc := by
    rw [← List.map_cons, ← List.map_append, ← e]
  rw [e2, List.flatten_append, List.flatten_cons, List.append_assoc, List.append_assoc]
theorem boxR_get (l : List α) (pad : List AV) (i : Nat) (h : i < l.length) : ((boxR enc l pad).drop (i * k)).take k = enc l[i] := by
  obtain ⟨e, e3⟩ := boxR_cut hk l pad i h
  rw [e, ← e3, List.drop_left]
  have := hk.len l[i]
  rw [← this, List.take_left]
theorem boxR_set (l : List α) (pad : List AV) (i : Nat) (h : i < l.length) (x : α) : (boxR enc l pad).take (i * k) ++ (enc x ++ (boxR enc l pad).drop (i * k + k)) = boxR enc (l.set i x) pad := by
  obtain ⟨e, e3⟩ := boxR_cut hk l pad i h
  have e4 : l.set i x = l.take i ++ x :: l.drop (i + 1) := by rw [List.set_eq_take_append_cons_drop, if_pos h]
  rw [e]
  have hd : (((l.take i).map enc).flatten ++ (enc l[i] ++ (((l.drop (i + 1)).map enc).flatten ++ pad))).drop (i * k + k) = ((l.drop (i + 1)).map enc).flatten ++ pad := by
    rw [← List.append_assoc, List.drop_left' (by rw [List.length_append, e3, hk.len])]
  rw [hd, ← e3, List.take_left, e4]
  unfold boxR
  rw [List.map_append, List.map_cons, List.flatten_append, List.flatten_cons, List.append_assoc, List.append_assoc]
theorem boxR_clear (l : List α) (pad zs : List AV) (i : Nat) (h : i ≤ l.length) (hz : zs.length = (l.length - i) * k) : (boxR enc l pad).take (i * k) ++ (zs ++ (boxR enc l pad).drop (i * k + zs.length)) = boxR enc (l.take i) (zs ++ pad) := by
  have e : l.map enc = (l.take i).map enc ++ (l.drop i).map enc := by rw [← List.map_append, List.take_append_drop]
  have e3 : ((l.take i).map enc).flatten.length = i * k := by rw [rows_len hk, List.length_take, Nat.min_eq_left h]
  have hd : (boxR enc l pad).drop (i * k + zs.length) = pad := by
    unfold boxR
    refine List.drop_left' ?_
    rw [rows_len hk, hz, ← Nat.add_mul]
    congr 1; omega
  have ht : (boxR enc l pad).take (i * k) = ((l.take i).map enc).flatten := by
    unfold boxR
    rw [e, List.flatten_append, List.append_assoc, ← e3, List.take_left]
  rw [hd, ht]
  rfl
end
end Go.AM
namespace Go.AM
theorem Calm.still {cs : List AV} (h : Calm cs) : ∀ x ∈ cs, x.still = true := by
  intro x hx
  have := h x hx
  cases x <;> first | rfl | (simp [AV.calm] at this; done) | skip
  rename_i g sz xs; cases g <;> first | rfl | (simp [AV.calm] at this; done)
theorem Calm.zeros {zero : List AV} (h : Calm zero) : ∀ n, Calm (zerosL zero n)
  | 0 => fun c hc => by simp [zerosL] at hc
  | n + 1 => h.append (Calm.zeros h n)
end Go.AM
namespace Go.AM
theorem Calm.freeL {cs : List AV} (h : Calm cs) : AV.freeL cs = true := by
  rw [AV.freeL_iff]
  intro x hx
  have := h x hx
  cases x <;> first | rfl | (simp [AV.calm] at this; done) | skip
  rename_i g sz xs; cases g <;> first | rfl | (simp [AV.calm] at this; done)
end Go.AM
namespace Go.AM
@[simp] theorem wrap_i0 : IntKind.i64.wrap 0 = 0 := by decide
@[simp] theorem wrap_i1 : IntKind.i64.wrap 1 = 1 := by decide
@[simp] theorem wrap_u0 : IntKind.u64.wrap 0 = 0 := by decide
@[simp] theorem wrap_b0 : IntKind.u8.wrap 0 = 0 := by decide
end Go.AM
namespace Go.AM
open Go.Proofs

theorem dotC_ok : EncOk dotC 2 := ⟨fun _ => rfl, fun x c hc => by simp [dotC] at hc; rcases hc with rfl | rfl <;> rfl⟩
theorem dotR_get (l : List Dot) (pad : List AV) (i : Nat) (h : i < l.length) : ((boxR dotC l pad).drop (i * 2)).take 2 = [.i .i64 l[i].1, .i .i64 l[i].2] := boxR_get dotC_ok l pad i h
theorem dotR_set (l : List Dot) (pad : List AV) (i : Nat) (h : i < l.length) (x : Dot) : (boxR dotC l pad).take (i * 2) ++ .i .i64 x.1 :: .i .i64 x.2 :: (boxR dotC l pad).drop (i * 2 + 2) = boxR dotC (l.set i x) pad := boxR_set dotC_ok l pad i h x

def compN (l : List Dot) : Nat → List Dot
  | 0 => []
  | i + 1 => match l[i]? with
    | none => compN l i
    | some x => if 0 < i ∧ l[i - 1]? = some x then compN l i else compN l i ++ [x]
def compD (l : List Dot) : List Dot := compN l l.length
theorem compN_le (l : List Dot) : ∀ i, (compN l i).length ≤ i
  | 0 => by simp [compN]
  | i + 1 => by
    have := compN_le l i
    unfold compN
    split
    · omega
    · split
      · omega
      · simp; omega
theorem compN_pos (l : List Dot) : ∀ i, 0 < i → i ≤ l.length → 0 < (compN l i).length
  | 0, h, _ => by omega
  | 1, _, h => by
    unfold compN
    rw [List.getElem?_eq_getElem (show 0 < l.length by omega)]
    simp [compN]
  | i + 2, _, h => by
    have := compN_pos l (i + 1) (by omega) (by omega)
    unfold compN
    split
    · exact this
    · split
      · exact this
      · simp
theorem compN_eq (l : List Dot) (k m : Nat) (hm : m = k + 1) (h : m < l.length) (he : l[m] = l[k]) : compN l (m + 1) = compN l m := by
  subst hm
  conv => lhs; unfold compN
  rw [List.getElem?_eq_getElem h]
  simp [List.getElem?_eq_getElem (show k < l.length by omega), he]
theorem compN_ne (l : List Dot) (k m : Nat) (hm : m = k + 1) (h : m < l.length) (he : l[m] ≠ l[k]) : compN l (m + 1) = compN l m ++ [l[m]] := by
  subst hm
  conv => lhs; unfold compN
  rw [List.getElem?_eq_getElem h]
  simp [List.getElem?_eq_getElem (show k < l.length by omega), Ne.symm he]

set_option maxRecDepth 8000 in
set_option maxHeartbeats 1000000 in
theorem c_Compact_Dot (l : List Dot) (cap : Nat) (hc : l.length ≤ cap) (hl : l.length ≤ 1000000) (h2 : 2 ≤ l.length) (pad : List AV) (hp : pad.length = (cap - l.length) * 2) (hpad : Calm pad) : Proc Try.prog 1 88 [.bs 0 0 l.length cap] [(0, boxR dotC l pad)] (.bs 0 0 (compD l).length cap) [(0, boxR dotC (compD l) (zerosL [.i .i64 0, .i .i64 0] (l.length - (compD l).length) ++ pad))] := by
  have hC : ∀ l', Calm (boxR dotC l' pad) := fun l' => boxR_calm dotC_ok hpad
  have hL : ∀ l', (boxR dotC l' pad).length = l'.length * 2 + pad.length := fun l' => boxR_len dotC_ok l' pad
  refine proc_of (cxb Try.prog 61 1 [0, 2, 3, 4, 5, 8, 13, 25, 32, 44] [] [2]) 60 [.tmp 2] Try.func88 rfl rfl rfl rfl rfl rfl (Nat.le_refl _) rfl ?_
  refine AWp.go [0] [0] fun K hK => ?_
  simp [hC]
  first | refine hK _ _ ?_ | refine ⟨by omega, hK _ _ ?_⟩ | refine ⟨by omega, by omega, hK _ _ ?_⟩
  clear hK K
  refine AWp.seq ?_
  refine AWp.go [0, 8] [0] fun K hK => ?_
  simp [hC]
  first | refine hK _ _ ?_ | refine ⟨by omega, hK _ _ ?_⟩ | refine ⟨by omega, by omega, hK _ _ ?_⟩
  clear hK K
  by_cases h : 2 ≤ l.length
  · refine AWp.cond (t := false) (by first | (simp; done) | (simp; omega)) (by simp) (fun _ => ?_)
    refine AWp.skip ?_
    show AWp _ _ _ _
    refine AWp.seq ?_
    refine AWp.go [0, 3] [0] fun K hK => ?_
    simp [hC]
    first | refine hK _ _ ?_ | refine ⟨by omega, hK _ _ ?_⟩ | refine ⟨by omega, by omega, hK _ _ ?_⟩
    clear hK K
    refine AWp.block (AWp.while (fun i : Nat => [(0, .bs 0 0 l.length cap), (3, .i .i64 (i + 1))]) (fun i => [(0, boxR dotC l pad)]) (fun i => i + 1 ≤ l.length ∧ compN l (i + 1) = l.take (i + 1)) (fun i => l.length - i) [0, 3] [0] 0 (by exact ⟨by omega, by simp [compN, List.getElem?_eq_getElem (show 0 < l.length by omega)]; rw [List.take_succ_eq_append_getElem (show 0 < l.length by omega)]; simp⟩) (by simp [hC]) ?_)
    intro i hi
    refine AWp.seq ?_
    refine AWp.go [0, 3, 13] [0] fun K hK => ?_
    simp [hC]
    first | refine hK _ _ ?_ | refine ⟨by omega, hK _ _ ?_⟩ | refine ⟨by omega, by omega, hK _ _ ?_⟩
    clear hK K
    by_cases h : i + 1 < l.length
    · refine AWp.cond (t := true) (by first | (simp; done) | (simp; omega)) (fun _ => ?_) (by simp)
      have w1 : IntKind.i64.wrap ((i : Int) + 1) = i + 1 := wrap64 (by omega) (by omega)
      have w0 : IntKind.i64.wrap (i : Int) = i := wrap64 (by omega) (by omega)
      refine AWp.skip ?_
      show AWp _ _ _ _
      refine AWp.seq ?_
      refine AWp.block ?_
      refine AWp.stepD 10 (fun _ => .any) [0, 3, 25] [0] [(0, .bs 0 0 l.length cap), (3, .i .i64 (i + 1)), (25, .b (decide (l[i + 1] = l[i])))] [(0, boxR dotC l pad)] mix (by kernel_rfl) ?_ ?_
      · simp [w0, hC, hL, dotR_get l pad (i + 1) h, dotR_get l pad i (by omega)]
        refine ⟨by omega, by omega, by omega, by omega, ?_⟩
        by_cases h1 : l[i + 1].1 = l[i].1 <;> by_cases h2 : l[i + 1].2 = l[i].2 <;> simp [h1, h2, Prod.ext_iff]
      by_cases he : l[i + 1] = l[i]
      · refine AWp.cond (t := true) (by first | (simp [he]; done) | (simp [he]; omega)) (fun _ => ?_) (by simp)
        have hc0 : compN l (i + 2) = l.take (i + 1) := by rw [compN_eq l i (i + 1) rfl h he, hi.2]
        refine AWp.step [0, 3, 4] [0] [(0, .bs 0 0 l.length cap), (3, .i .i64 (i + 1)), (4, .bs 0 ((i + 1) * 2) (l.length - (i + 1)) (cap - (i + 1)))] [(0, boxR dotC l pad)] ?_ ?_
        · simp [hC]
          omega
        refine AWp.seq ?_
        refine AWp.go [0, 3, 4, 5] [0] fun K hK => ?_
        simp [hC]
        first | refine hK _ _ ?_ | refine ⟨by omega, hK _ _ ?_⟩ | refine ⟨by omega, by omega, hK _ _ ?_⟩
        clear hK K
        refine AWp.block (AWp.while (fun p : Nat × List Dot => [(0, .bs 0 0 l.length cap), (3, .i .i64 (compN l (i + 2 + p.1)).length), (4, .bs 0 ((i + 1) * 2) (l.length - (i + 1)) (cap - (i + 1))), (5, .i .i64 (p.1 + 1))]) (fun p => [(0, boxR dotC p.2 pad)]) (fun p => p.2.length = l.length ∧ i + 2 + p.1 ≤ l.length ∧ (compN l (i + 2 + p.1)).length ≤ i + 1 + p.1 ∧ p.2.take (compN l (i + 2 + p.1)).length = compN l (i + 2 + p.1) ∧ ∀ k, i + 1 + p.1 ≤ k → p.2[k]? = l[k]?) (fun p => l.length - p.1) [0, 3, 4, 5] [0] (0, l) (by exact ⟨rfl, by dsimp only; omega, by simp [hc0]; omega, by simp [hc0], fun _ _ => rfl⟩) (by simp [hc0, hC]; omega) ?_)
        rintro ⟨j, c⟩ ⟨hcl, hj2, hk3, hj3, hj4⟩
        dsimp only at hcl hj2 hk3 hj3 hj4
        try dsimp only
        refine AWp.seq ?_
        refine AWp.go [0, 3, 4, 5, 32] [0] fun K hK => ?_
        simp [hC]
        first | refine hK _ _ ?_ | refine ⟨by omega, hK _ _ ?_⟩ | refine ⟨by omega, by omega, hK _ _ ?_⟩
        clear hK K
        by_cases h3 : i + 2 + j < l.length
        · refine AWp.cond (t := true) (by first | (simp; done) | (simp; omega)) (fun _ => ?_) (by simp)
          have v1 : IntKind.i64.wrap ((j : Int) + 1) = j + 1 := wrap64 (by omega) (by omega)
          have v0 : IntKind.i64.wrap (j : Int) = j := wrap64 (by omega) (by omega)
          have v2 : IntKind.i64.wrap ((j : Int) + 1 + 1) = j + 1 + 1 := wrap64 (by omega) (by omega)
          have hle := compN_le l (i + 2 + j)
          have v3 : IntKind.i64.wrap (((compN l (i + 2 + j)).length : Int) + 1) = (compN l (i + 2 + j)).length + 1 := wrap64 (by omega) (by omega)
          have q1 : c[i + 2 + j]'(by omega) = l[i + 2 + j] := by have := hj4 (i + 2 + j) (by omega); rw [List.getElem?_eq_getElem (by omega), List.getElem?_eq_getElem (by omega)] at this; exact Option.some.inj this
          have q2 : c[i + 1 + j]'(by omega) = l[i + 1 + j] := by have := hj4 (i + 1 + j) (by omega); rw [List.getElem?_eq_getElem (by omega), List.getElem?_eq_getElem (by omega)] at this; exact Option.some.inj this
          have g1 : ((boxR dotC c pad).drop ((i + 1 + (j + 1)) * 2)).take 2 = [.i .i64 l[i + 2 + j].1, .i .i64 l[i + 2 + j].2] := by rw [← q1, ← dotR_get c pad (i + 2 + j) (by omega)]; congr 3; omega
          have g2 : ((boxR dotC c pad).drop ((i + 1 + j) * 2)).take 2 = [.i .i64 l[i + 1 + j].1, .i .i64 l[i + 1 + j].2] := by rw [← q2, ← dotR_get c pad (i + 1 + j) (by omega)]
          refine AWp.skip ?_
          show AWp _ _ _ _
          refine AWp.seq ?_
          refine AWp.block ?_
          refine AWp.stepD 10 (fun _ => .any) [0, 3, 4, 5, 44] [0] [(0, .bs 0 0 l.length cap), (3, .i .i64 (compN l (i + 2 + j)).length), (4, .bs 0 ((i + 1) * 2) (l.length - (i + 1)) (cap - (i + 1))), (5, .i .i64 (j + 1)), (44, .b (!decide (l[i + 2 + j] = l[i + 1 + j])))] [(0, boxR dotC c pad)] mix (by kernel_rfl) ?_ ?_
          · simp [hC, hL, v0, ← Nat.add_mul, g1, g2]
            refine ⟨by omega, by omega, by omega, by omega, ?_⟩
            by_cases h1 : l[i + 2 + j].1 = l[i + 1 + j].1 <;> by_cases h2 : l[i + 2 + j].2 = l[i + 1 + j].2 <;> simp [h1, h2, Prod.ext_iff]
          by_cases he2 : l[i + 2 + j] = l[i + 1 + j]
          · refine AWp.cond (t := false) (by first | (simp [he2]; done) | (simp [he2]; omega)) (by simp) (fun _ => ?_)
            refine AWp.skip ?_
            show AWp _ _ _ _
            refine AWp.goLast [0, 3, 4, 5] [0] fun K hK => ?_
            simp [hC]
            first | refine hK _ _ ?_ | refine ⟨by omega, hK _ _ ?_⟩ | refine ⟨by omega, by omega, hK _ _ ?_⟩
            clear hK K
            have hcn : compN l (i + 2 + j + 1) = compN l (i + 2 + j) := compN_eq l (i + 1 + j) (i + 2 + j) (by omega) h3 he2
            refine ⟨(j + 1, c), ⟨hcl, by dsimp only; omega, ?_, ?_, ?_⟩, by dsimp only; omega, ?_⟩
            · dsimp only; rw [show i + 2 + (j + 1) = i + 2 + j + 1 by omega, hcn]; omega
            · dsimp only; rw [show i + 2 + (j + 1) = i + 2 + j + 1 by omega, hcn]; exact hj3
            · intro k hk
              exact hj4 k (by dsimp only at hk; omega)
            · simp [hC, v2, show i + 2 + (j + 1) = i + 2 + j + 1 by omega, hcn]
          · refine AWp.cond (t := true) (by first | (simp [he2]; done) | (simp [he2]; omega)) (fun _ => ?_) (by simp)
            refine AWp.step [0, 3, 4, 5] [0] [(0, .bs 0 0 l.length cap), (3, .i .i64 (compN l (i + 2 + j)).length), (4, .bs 0 ((i + 1) * 2) (l.length - (i + 1)) (cap - (i + 1))), (5, .i .i64 (j + 1))] [(0, boxR dotC (c.set (compN l (i + 2 + j)).length l[i + 2 + j]) pad)] ?_ ?_
            · have hs := dotR_set c pad (compN l (i + 2 + j)).length (by omega) l[i + 2 + j]
              simp [hC, hL, ← Nat.add_mul, g1, hs]
              omega
            refine AWp.goLast [0, 3, 4, 5] [0] fun K hK => ?_
            simp [hC]
            first | refine hK _ _ ?_ | refine ⟨by omega, hK _ _ ?_⟩ | refine ⟨by omega, by omega, hK _ _ ?_⟩
            clear hK K
            show AWp _ _ _ _
            refine AWp.goLast [0, 3, 4, 5] [0] fun K hK => ?_
            simp [hC]
            first | refine hK _ _ ?_ | refine ⟨by omega, hK _ _ ?_⟩ | refine ⟨by omega, by omega, hK _ _ ?_⟩
            clear hK K
            have hcn : compN l (i + 2 + j + 1) = compN l (i + 2 + j) ++ [l[i + 2 + j]] := compN_ne l (i + 1 + j) (i + 2 + j) (by omega) h3 he2
            refine ⟨(j + 1, c.set (compN l (i + 2 + j)).length l[i + 2 + j]), ⟨by simpa using hcl, by dsimp only; omega, ?_, ?_, ?_⟩, by dsimp only; omega, ?_⟩
            · dsimp only; rw [show i + 2 + (j + 1) = i + 2 + j + 1 by omega, hcn]; simp; omega
            · dsimp only; rw [show i + 2 + (j + 1) = i + 2 + j + 1 by omega, hcn, List.length_append, List.length_singleton, List.take_succ_eq_append_getElem (by simp; omega), List.getElem_set_self, List.take_set_of_le (Nat.le_refl _), hj3]
            · intro k hk
              dsimp only at hk
              rw [List.getElem?_set_ne (by omega)]
              exact hj4 k (by omega)
            · simp [hC, v2, v3, show i + 2 + (j + 1) = i + 2 + j + 1 by omega, hcn]
        · refine AWp.cond (t := false) (by first | (simp; done) | (simp; omega)) (by simp) (fun _ => ?_)
          refine AWp.exit ?_
          show AWp _ _ _ _
          have hjn : i + 2 + j = l.length := by omega
          have hD : compN l (i + 2 + j) = compD l := by rw [hjn]; rfl
          rw [hD] at hj3 hk3
          have hcl2 := boxR_clear dotC_ok c pad (zerosL [.i .i64 0, .i .i64 0] (l.length - (compD l).length)) (compD l).length (by omega) (by rw [zerosL_length, hcl]; rfl)
          rw [hj3] at hcl2
          have hC2 : ∀ l' n, Calm (boxR dotC l' (zerosL [.i .i64 0, .i .i64 0] n ++ pad)) := fun l' n => boxR_calm dotC_ok ((Calm.zeros (fun c hc => by simp at hc; subst hc; rfl) n).append hpad)
          refine AWp.step [0, 3] [0] [(0, .bs 0 0 l.length cap), (3, .i .i64 (compD l).length)] [(0, boxR dotC (compD l) (zerosL [.i .i64 0, .i .i64 0] (l.length - (compD l).length) ++ pad))] ?_ ?_
          · simp [hL, hD, show ¬ cap = (compD l).length by omega, zerosL_length] at hcl2 ⊢
            simp [hcl2, hC2]
            refine ⟨by omega, by omega, (((hC c).drop _).take _).freeL⟩
          refine AWp.go [2] [0] fun K hK => ?_
          simp [hC2]
          refine ⟨by omega, hK _ _ ?_⟩
          clear hK K
          refine AWp.ret ?_
          simp [hC2]
          intro x hx
          simpa using (hC2 _ _).still x hx
      · refine AWp.cond (t := false) (by first | (simp [he]; done) | (simp [he]; omega)) (by simp) (fun _ => ?_)
        refine AWp.skip ?_
        show AWp _ _ _ _
        refine AWp.goLast [0, 3] [0] fun K hK => ?_
        simp [hC]
        first | refine hK _ _ ?_ | refine ⟨by omega, hK _ _ ?_⟩ | refine ⟨by omega, by omega, hK _ _ ?_⟩
        clear hK K
        refine ⟨i + 1, ⟨by omega, ?_⟩, by omega, ?_⟩
        · rw [compN_ne l i (i + 1) rfl h he, hi.2, ← List.take_succ_eq_append_getElem h]
        · have w2 : IntKind.i64.wrap ((i : Int) + 1 + 1) = i + 1 + 1 := wrap64 (by omega) (by omega)
          simp [w2, hC]
    · refine AWp.cond (t := false) (by first | (simp; done) | (simp; omega)) (by simp) (fun _ => ?_)
      refine AWp.exit ?_
      show AWp _ _ _ _
      have hcd : compD l = l := by
        have hii : i + 1 = l.length := by omega
        rw [compD, ← hii, hi.2, hii, List.take_length]
      refine AWp.go [2] [0] fun K hK => ?_
      simp [hC]
      first | refine hK _ _ ?_ | refine ⟨by omega, hK _ _ ?_⟩ | refine ⟨by omega, by omega, hK _ _ ?_⟩
      clear hK K
      refine AWp.ret ?_
      simp [hcd, zerosL, hC]
      intro x hx
      simpa using (hC l).still x hx
  · refine AWp.cond (t := true) (by first | (simp; done) | (simp; omega)) (fun _ => ?_) (by simp)
    omega

theorem compD_le (l : List Dot) : (compD l).length ≤ l.length := compN_le l l.length
theorem dots_data (l : List Dot) : ((dotsAV l).flatten.all fun c => c.data && c.cellOk) = true := by
  rw [List.all_eq_true]
  intro c hc
  obtain ⟨y, hy, hc⟩ := List.mem_flatten.1 hc
  obtain ⟨x, _, rfl⟩ := List.mem_map.1 hy
  simp [dotC] at hc
  rcases hc with rfl | rfl <;> rfl

theorem h_Compact_Dot (l : List Dot) (hl : l.length ≤ 1000000) (h2 : 2 ≤ l.length) : HProc Try.prog 88 2 (dotsAV l) [] (dotsAV (compD l)) := by
  refine hproc_box rfl rfl (fun z hz => ?_) (dots_data _) (by simpa using compD_le l) fun cap hcap => ⟨zerosL [.i .i64 0, .i .i64 0] (l.length - (compD l).length) ++ List.replicate ((cap - l.length) * 2) .any, ?_, ?_⟩
  · obtain ⟨x, _, rfl⟩ := List.mem_map.1 hz; rfl
  · have h3 := compD_le l
    have h4 := rows_len dotC_ok (compD l)
    have h5 : ((dotsAV (compD l)).flatten).length = (compD l).length * 2 := h4
    simp at hcap
    simp only [List.length_append, zerosL_length, List.length_replicate, h5]
    simp; omega
  · simp at hcap
    have := c_Compact_Dot l cap hcap hl h2 (List.replicate ((cap - l.length) * 2) .any) (by simp) (Calm.replicate _ rfl)
    simpa [boxR, dotsAV] using this

set_option maxRecDepth 40000 in
theorem c_Len64_0 : Pure Try.prog 127 [.i .u64 0] (.i .i64 0) := by
  refine proc_of (cx Try.prog 25 [0, 2, 4, 8, 14] [2]) 24 [.tmp 2] Try.func127 rfl rfl rfl rfl rfl rfl (Nat.le_refl _) rfl ?_
  refine AWp.go [0, 2] [] fun K hK => ?_
  simp
  first | refine hK _ _ ?_ | refine ⟨by omega, hK _ _ ?_⟩ | refine ⟨by omega, by omega, hK _ _ ?_⟩
  clear hK K
  refine AWp.seq ?_
  refine AWp.go [0, 2, 4] [] fun K hK => ?_
  simp
  first | refine hK _ _ ?_ | refine ⟨by omega, hK _ _ ?_⟩ | refine ⟨by omega, by omega, hK _ _ ?_⟩
  clear hK K
  refine AWp.cond (t := false) (by first | (simp; done) | (simp; omega)) (by simp) (fun _ => ?_)
  refine AWp.skip ?_
  show AWp _ _ _ _
  refine AWp.seq ?_
  refine AWp.go [0, 2, 8] [] fun K hK => ?_
  simp
  first | refine hK _ _ ?_ | refine ⟨by omega, hK _ _ ?_⟩ | refine ⟨by omega, by omega, hK _ _ ?_⟩
  clear hK K
  refine AWp.cond (t := false) (by first | (simp; done) | (simp; omega)) (by simp) (fun _ => ?_)
  refine AWp.skip ?_
  show AWp _ _ _ _
  refine AWp.seq ?_
  refine AWp.go [0, 2, 14] [] fun K hK => ?_
  simp
  first | refine hK _ _ ?_ | refine ⟨by omega, hK _ _ ?_⟩ | refine ⟨by omega, by omega, hK _ _ ?_⟩
  clear hK K
  refine AWp.cond (t := false) (by first | (simp; done) | (simp; omega)) (by simp) (fun _ => ?_)
  refine AWp.skip ?_
  show AWp _ _ _ _
  refine AWp.go [2] [] fun K hK => ?_
  simp
  refine ⟨by decide, hK _ _ ?_⟩
  clear hK K
  refine AWp.ret ?_
  simp

theorem c_Len_0 : Pure Try.prog 111 [.i .u64 0] (.i .i64 0) := by
  refine proc_of (cx Try.prog 8 [0, 2] [2]) 7 [.tmp 2] Try.func111 rfl rfl rfl rfl rfl rfl (Nat.le_refl _) rfl ?_
  refine AWp.go [0] [] fun K hK => ?_
  simp
  first | refine hK _ _ ?_ | refine ⟨by omega, hK _ _ ?_⟩ | refine ⟨by omega, by omega, hK _ _ ?_⟩
  clear hK K
  refine AWp.seq ?_
  refine AWp.cond (t := false) (by first | (simp; done) | (simp; omega)) (by simp) (fun _ => ?_)
  refine AWp.skip ?_
  show AWp _ _ _ _
  refine AWp.go [2] [] fun K hK => ?_
  simp
  refine call_pure (c_Len64_0) (by simp) ?_
  simp
  first | refine hK _ _ ?_ | refine ⟨by omega, hK _ _ ?_⟩ | refine ⟨by omega, by omega, hK _ _ ?_⟩
  clear hK K
  refine AWp.ret ?_
  simp

theorem c_insertion_0 (g : Nat) : Pure Try.prog 118 [.sl .fro 2 [], .i .i64 0, .i .i64 0, .fn g [] []] (.tup []) := by
  refine proc_of (cx Try.prog 53 [0, 1, 2, 3, 8, 9, 14, 34] []) 49 [] Try.func118 rfl rfl rfl rfl rfl rfl (Nat.le_refl _) rfl ?_
  refine AWp.go [0, 1, 2, 3, 8] [] fun K hK => ?_
  simp
  first | refine hK _ _ ?_ | refine ⟨by omega, hK _ _ ?_⟩ | refine ⟨by omega, by omega, hK _ _ ?_⟩
  clear hK K
  refine AWp.block (AWp.while (fun i : Nat => [(0, .sl .fro 2 []), (1, .i .i64 0), (2, .i .i64 0), (3, .fn g [] []), (8, .i .i64 1)]) (fun i => []) (fun i => True) (fun i => 0) [0, 1, 2, 3, 8] [] 0 (by simp) (by simp) ?_)
  intro i hi
  refine AWp.seq ?_
  refine AWp.go [0, 1, 2, 3, 8, 14] [] fun K hK => ?_
  simp
  first | refine hK _ _ ?_ | refine ⟨by omega, hK _ _ ?_⟩ | refine ⟨by omega, by omega, hK _ _ ?_⟩
  clear hK K
  refine AWp.cond (t := false) (by first | (simp; done) | (simp; omega)) (by simp) (fun _ => ?_)
  refine AWp.exit ?_
  simp

theorem c_pdq_0 (g : Nat) : Pure Try.prog 110 [.sl .fro 2 [], .i .i64 0, .i .i64 0, .i .i64 0, .fn g [] []] (.tup []) := by
  refine proc_of (cx Try.prog 148 [0, 1, 2, 3, 4, 10, 11, 12, 13, 14, 15, 16, 17, 18, 19, 20, 25, 32, 39, 56, 75, 80, 97, 125] []) 143 [] Try.func110 rfl rfl rfl rfl rfl rfl (Nat.le_refl _) rfl ?_
  refine AWp.go [0, 1, 2, 3, 4, 10] [] fun K hK => ?_
  simp
  first | refine hK _ _ ?_ | refine ⟨by omega, hK _ _ ?_⟩ | refine ⟨by omega, by omega, hK _ _ ?_⟩
  clear hK K
  refine AWp.go [0, 1, 2, 3, 4, 10, 11] [] fun K hK => ?_
  simp
  first | refine hK _ _ ?_ | refine ⟨by omega, hK _ _ ?_⟩ | refine ⟨by omega, by omega, hK _ _ ?_⟩
  clear hK K
  refine AWp.block (AWp.while (fun i : Nat => [(0, .sl .fro 2 []), (1, .i .i64 0), (2, .i .i64 0), (3, .i .i64 0), (4, .fn g [] []), (10, .b true), (11, .b true)]) (fun i => []) (fun i => True) (fun i => 0) [0, 1, 2, 3, 4, 10, 11] [] 0 (by simp) (by simp) ?_)
  intro i hi
  refine AWp.block ?_
  refine AWp.go [0, 1, 2, 3, 4, 10, 11, 12] [] fun K hK => ?_
  simp
  first | refine hK _ _ ?_ | refine ⟨by omega, hK _ _ ?_⟩ | refine ⟨by omega, by omega, hK _ _ ?_⟩
  clear hK K
  refine AWp.seq ?_
  refine AWp.go [0, 1, 2, 3, 4, 10, 11, 12, 25] [] fun K hK => ?_
  simp
  first | refine hK _ _ ?_ | refine ⟨by omega, hK _ _ ?_⟩ | refine ⟨by omega, by omega, hK _ _ ?_⟩
  clear hK K
  refine AWp.cond (t := true) (by first | (simp; done) | (simp; omega)) (fun _ => ?_) (by simp)
  refine AWp.go [] [] fun K hK => ?_
  simp
  refine call_pure (c_insertion_0 g) (by simp) ?_
  simp
  first | refine hK _ _ ?_ | refine ⟨by omega, hK _ _ ?_⟩ | refine ⟨by omega, by omega, hK _ _ ?_⟩
  clear hK K
  refine AWp.ret ?_
  simp

theorem c_SortFunc_0 (g : Nat) : Pure Try.prog 86 [.sl .fro 2 [], .fn g [] []] (.tup []) := by
  refine proc_of (cx Try.prog 14 [0, 1, 4] []) 12 [] Try.func86 rfl rfl rfl rfl rfl rfl (Nat.le_refl _) rfl ?_
  refine AWp.go [0, 1, 4] [] fun K hK => ?_
  simp
  first | refine hK _ _ ?_ | refine ⟨by omega, hK _ _ ?_⟩ | refine ⟨by omega, by omega, hK _ _ ?_⟩
  clear hK K
  refine AWp.goLast [] [] fun K hK => ?_
  simp
  refine call_pure (c_Len_0) (by simp) ?_
  simp
  refine call_pure (c_pdq_0 g) (by simp) ?_
  simp
  first | refine hK _ _ ?_ | refine ⟨by omega, hK _ _ ?_⟩ | refine ⟨by omega, by omega, hK _ _ ?_⟩
  clear hK K
  simp
end Go.AM
namespace Go.AM

theorem pure_new0 {P : Program} {f sz : Nat} {args : List AV} (hf : ∃ fn c, P.funcs[f]? = some fn ∧ fn.body = some c ∧ (fn.name == "runtime.NumGoroutine") = false)
    (h : ∀ (w : World) (E : Env) (vs : Array Value), args.length = vs.size → (∀ (k : Nat) c, args[k]? = some c → Val E .no c (vs.getD k undef)) →
      Calls P f vs w fun e w' => ∃ cap cells T, e = .returned (.slice (some ⟨w.heap.size, 0, none⟩) 0 cap) ∧ w' = w.drew.alloc (.cells cells T) ∧ cells.size = cap * sz) : Pure P f args (.sl .own sz []) := by
  refine ⟨hf, fun w β ω Pub vs R hω hl hv => ?_⟩
  refine (h w _ vs hl hv).mono ?_
  rintro e w' ⟨cap, cells, T, rfl, rfl, hcs⟩
  have hω0 : ∀ bk, ω bk = none := fun bk => by
    cases hq : ω bk with
    | none => rfl
    | some q => have := hω bk q hq; cases q <;> simp [inBx] at this
  have hh : ∀ bk, bk < w.heap.size → (w.drew.alloc (.cells cells T)).heap[bk]? = w.heap[bk]? := fun bk hb => by
    show (w.heap.push _)[bk]? = _
    rw [Array.getElem?_push, if_neg (by omega)]
  have hn : (w.drew.alloc (.cells cells T)).heap[w.heap.size]? = some (.cells cells T (0, 0)) := by
    show (w.heap.push _)[w.heap.size]? = _
    rw [Array.getElem?_push, if_pos rfl]
  have hs : (w.drew.alloc (.cells cells T)).heap.size = w.heap.size + 1 := by
    show (w.heap.push _).size = _
    simp
  have hpl : ∀ bk, Pub bk → bk < w.heap.size := fun bk h => (R.pub bk h).1
  refine ⟨_, ⟨w.drew.alloc (.cells cells T), β, fun bk => if bk = w.heap.size then some (.slot 0 []) else none, Pub, St.ofBoxes [], #[]⟩, rfl, rfl, ⟨⟨rfl, fun t => .any _ _, fun id cs h => (by cases h), fun bk h => ⟨?_, ?_⟩, fun bk q h => ?_, fun id h => by cases h⟩, ⟨rfl, rfl, rfl, ?_, fun k hk _ => hh k hk, fun k q h => ?_, fun _ h => h, fun _ h => .inl h, fun _ _ => rfl⟩⟩, rfl, fun bk q h => ?_, ?_⟩
  · show bk < (w.drew.alloc _).heap.size
    rw [hs]; have := hpl bk h; omega
  · have := hpl bk h
    show (if bk = w.heap.size then some (Place.slot 0 []) else none) = none
    rw [if_neg (by omega)]
  · show bk < (w.drew.alloc _).heap.size
    rw [hs]
    have h' : (if bk = w.heap.size then some (Place.slot 0 []) else none) = some q := h
    split at h'
    · omega
    · cases h'
  · show w.heap.size ≤ (w.drew.alloc _).heap.size
    rw [hs]; omega
  · left
    have h' : (if k = w.heap.size then some (Place.slot 0 []) else none) = some q := h
    split at h'
    · show w.heap.size ≤ k; omega
    · cases h'
  · right
    have h' : (if bk = w.heap.size then some (Place.slot 0 []) else none) = some q := h
    split at h'
    · exact ⟨[], (Option.some.inj h').symm⟩
    · cases h'
  · refine .sl _ .own sz [] w.heap.size 0 cap (Nat.zero_le _) ⟨fun x hx => by simp at hx, fun k c hk => by simp at hk⟩ ⟨?_, cells, T, hn, rfl, hcs⟩ trivial
    show (if w.heap.size = w.heap.size then some (Place.slot 0 []) else none) = _
    rw [if_pos rfl]
end Go.AM
namespace Go.AM
open Go.Proofs Go.Shelf Go.RowKit Go.Lib
theorem pure_grow {P : Program} {ρ : Ren} (L : Lays8.n4 P ρ) {y : TI} (hy : ti P (ρ.t 25) = some y) (hs : 0 < y.size) (n : Nat) (h0 : 0 < n) (hb : n * y.bytes ≤ 140737488355328) (hn : n ≤ 4611686018427387904) :
    Pure P (ρ.f 4) [.sl .nl y.size [], .i .i64 n] (.sl .own y.size []) := by
  obtain ⟨oy⟩ := ti_ok hy
  obtain ⟨nm, h1, h2⟩ := L.f4
  refine pure_new0 ⟨_, _, h2, rfl, h1⟩ fun w E vs hl hv => ?_
  have hvs : vs = #[.slice none 0 0, .int .i64 n] := by
    have e0 := hv 0 _ rfl
    have e1 := hv 1 _ rfl
    have e2 : vs.getD 0 undef = .slice none 0 0 := by
      generalize vs.getD 0 undef = v at e0
      cases e0 with
      | sl0 => rfl
      | sl _ _ _ _ _ _ _ _ _ hg => exact hg.elim
    have e3 : vs.getD 1 undef = .int .i64 n := by
      generalize vs.getD 1 undef = v at e1
      cases e1; rfl
    have hsz : vs.size = 2 := hl.symm
    apply Array.ext
    · rw [hsz]; rfl
    · intro j hj hj2
      rw [hsz] at hj
      match j, hj with
      | 0, _ => rw [Array.getD_eq_getD_getElem?, Array.getElem?_eq_getElem (by omega)] at e2; exact e2
      | 1, _ => rw [Array.getD_eq_getD_getElem?, Array.getElem?_eq_getElem (by omega)] at e3; exact e3
  subst hvs
  have := Any8.slices_Grow_grow L oy.i oy.z oy.info oy.zero (by rw [oy.size]; exact hs) none 0 0 n [] w (Nat.le_refl _) (by omega) (by rw [oy.bytes, Nat.zero_add]; exact hb) (by omega) (by simp) (fun _ => rfl) (fun a h => by cases h)
  refine this.mono ?_
  rintro e w' ⟨rfl, rfl⟩
  refine ⟨_, _, _, rfl, rfl, ?_⟩
  have hg : n ≤ grownCap w (0 + n) 0 (ρ.t 25) := by have := grownCap_ge w (0 + n) 0 (ρ.t 25); omega
  simp only [Array.size_append, size_zeroCells, oy.zcs]
  simp only [List.size_toArray, List.length_nil, Nat.zero_add, Nat.sub_zero] at *
  rw [← Nat.add_mul]
  congr 1; omega
end Go.AM
namespace Go.AM
/-- Rows of rows. -/
def rowsL (sz : Nat) (ls : List (List (List AV))) : List (List AV) := ls.map fun l => [.sl .fro sz l]
@[simp] theorem rowsL_length (sz ls) : (rowsL sz ls).length = ls.length := by simp [rowsL]
theorem rowsL_get (sz) (ls : List (List (List AV))) (i : Nat) (h : i < ls.length) : (rowsL sz ls)[i]? = some [.sl .fro sz ls[i]] := by simp [rowsL, h]
@[simp] theorem rowsL_getElem (sz) (ls : List (List (List AV))) (i : Nat) (h : i < (rowsL sz ls).length) : (rowsL sz ls)[i] = [.sl .fro sz (ls[i]'(by simpa using h))] := by simp [rowsL]
def lenTo {α : Type} (ls : List (List α)) (i : Nat) : Nat := (ls.take i).flatten.length
theorem lenTo_succ {α : Type} (ls : List (List α)) (i : Nat) (h : i < ls.length) : lenTo ls (i + 1) = lenTo ls i + ls[i].length := by
  unfold lenTo
  rw [List.take_succ_eq_append_getElem h, List.flatten_append, List.length_append]
  simp only [List.flatten_cons, List.flatten_nil, List.append_nil]
theorem lenTo_le {α : Type} (ls : List (List α)) (i : Nat) : lenTo ls i ≤ ls.flatten.length := by
  unfold lenTo
  conv => rhs; rw [← List.take_append_drop i ls, List.flatten_append, List.length_append]
  omega
end Go.AM
namespace Go.AM
section
variable {C : Cx} {Q : Exit → St → Prop} {st : St}
theorem AWp.lastT (tr : Ot) (ks kb : List Nat) (l : List (Nat × AV)) (bx : Boxes) {id : Nat} {ops : Array Oper} (hmix : C.P.follows .mixedOrders = true) (hok : tr.okAll ops = true)
    (h : atree C ops ops.toList tr st fun s => s.sees ks kb l bx) (h2 : Q .normal (St.of l bx)) : AWp C (.region id ops true) st Q := by
  refine AWp.postFit (AWp.post (fun _ => (ks, kb)) ((AWp.tree (Q := fun e s => thenQ (fun s => s.sees ks kb l bx) (fun _ _ => False) e s) tr hmix hok h).mono ?_))
  intro e s hs
  cases e with
  | normal => exact ⟨_, St.sees_fits hs, h2⟩
  | _ => exact hs.elim
end
end Go.AM
namespace Go.AM
theorem ren_calm (f : Nat → Option Nat) {x : AV} (hx : x.calm = true) : x.ren f = x := by
  cases x <;> first | rfl | (simp [AV.calm] at hx; done)
@[simp] theorem map_ren_calm {f : Nat → Option Nat} {cs : List AV} (h : Calm cs) : cs.map (AV.ren f) = cs := by
  have : cs.map (AV.ren f) = cs.map id := List.map_congr_left fun c hc => ren_calm f (h c hc)
  rw [this, List.map_id]
end Go.AM
namespace Go.AM
/-- A result whose new rows are given up. -/
theorem Pure.fro {P : Program} {f : Nat} {args : List AV} {r : AV} (h : Pure P f args r) : Pure P f args (r.tr (fzLeaf (isSlotOf 0)) (.slot 0 [])) := by
  refine ⟨h.1, fun w β ω Pub vs R hω hl hv => ?_⟩
  refine (h.2 w β ω Pub vs R hω hl hv).mono ?_
  rintro e w' ⟨v, E', rfl, rfl, I, hst, ho, hr⟩
  have I2 := I.fz (isSlotOf 0) fun _ => rfl
  refine ⟨v, E'.fz (isSlotOf 0), rfl, rfl, I2, ?_, fun bk q hq => ?_, ?_⟩
  · show E'.st.fz (isSlotOf 0) = _
    rw [hst]
    rfl
  · have h' : (E'.fz (isSlotOf 0)).ω bk = some q := hq
    simp only [Env.fz] at h'
    split at h'
    · rename_i q' hq'
      split at h'
      · cases h'
      · cases h'; exact ho bk q hq'
    · cases h'
  · exact hr.fz _
end Go.AM
namespace Go.AM
open Go.Proofs

end Go.AM
namespace Go.AM
open Go.Proofs

theorem sortD_length (l : List Dot) : (sortD l).length = l.length := by simp [sortD, List.length_mergeSort]
def ordP (l : List Dot) : List Dot := compD (sortD l)

theorem compD_one (l : List Dot) (h : l.length = 1) : compD l = l := by
  match l, h with
  | [x], _ => simp [compD, compN]

theorem c_Compact_0 (xs : List (List AV)) (h : xs.length < 2) : Pure Try.prog 88 [.sl .fro 2 xs] (.sl .fro 2 xs) := by
  refine proc_of (cx Try.prog 61 [0, 2, 3, 4, 5, 8, 13, 25, 32, 44] [2]) 60 [.tmp 2] Try.func88 rfl rfl rfl rfl rfl rfl (Nat.le_refl _) rfl ?_
  refine AWp.go [0] [] fun K hK => ?_
  simp
  first | refine hK _ _ ?_ | refine ⟨by omega, hK _ _ ?_⟩ | refine ⟨by omega, by omega, hK _ _ ?_⟩
  clear hK K
  refine AWp.seq ?_
  refine AWp.go [0, 8] [] fun K hK => ?_
  simp
  first | refine hK _ _ ?_ | refine ⟨by omega, hK _ _ ?_⟩ | refine ⟨by omega, by omega, hK _ _ ?_⟩
  clear hK K
  refine AWp.cond (t := true) (by first | (simp; done) | (simp; omega)) (fun _ => ?_) (by simp)
  refine AWp.go [2] [] fun K hK => ?_
  simp
  first | refine hK _ _ ?_ | refine ⟨by omega, hK _ _ ?_⟩ | refine ⟨by omega, by omega, hK _ _ ?_⟩
  clear hK K
  refine AWp.ret ?_
  simp

set_option maxRecDepth 8000 in
theorem c_dots_Order (l : List Dot) (hlen : l.length ≤ 1000000) : Pure Try.prog 52 [.sl .fro 2 (dotsAV l)] (.sl .fro 2 (dotsAV (ordP l))) := by
  refine proc_of (cx Try.prog 10 [0, 2, 3] [2]) 9 [.tmp 2] Try.func52 rfl rfl rfl rfl rfl rfl (Nat.le_refl _) rfl ?_
  refine AWp.go [0] [] fun K hK => ?_
  simp
  first | refine hK _ _ ?_ | refine ⟨by omega, hK _ _ ?_⟩ | refine ⟨by omega, by omega, hK _ _ ?_⟩
  clear hK K
  refine AWp.go [3] [] fun K hK => ?_
  simp
  refine call_pure (c_Clone_Dot (dotsAV l) (by simp; omega)) (by simp) ?_
  simp
  refine hK _ _ ?_
  clear hK K
  have hs := sortD_length l
  by_cases h0 : l = []
  subst h0
  · refine AWp.step [3] [] [(3, .sl .own 2 [])] [] ?_ ?_
    · simp
      refine call_pure (c_SortFunc_0 87) (by simp) ?_
      simp
    refine AWp.go [2] [] fun K hK => ?_
    simp
    refine call_pure (c_Compact_0 [] (by simp)) (by simp) ?_
    simp
    refine hK _ _ ?_
    refine AWp.ret ?_
    simp [ordP, sortD, compD, compN]
  refine AWp.step [3] [] [(3, .sl .own 2 (dotsAV (sortD l)))] [] ?_ ?_
  · simp
    refine call_lend (l106 l (by omega)) ⟨_, rfl, rfl, rfl⟩ (by simpa [dotsAV] using h0) (by simp) (by simp) ?_
    simp
  by_cases h1 : l.length = 1
  · refine AWp.go [2] [] fun K hK => ?_
    simp
    refine call_pure (c_Compact_0 (dotsAV (sortD l)) (by simp; omega)) (by simp) ?_
    simp
    refine hK _ _ ?_
    refine AWp.ret ?_
    have : compD (sortD l) = sortD l := compD_one _ (by omega)
    simp [ordP, this]
  refine AWp.go [2] [] fun K hK => ?_
  simp
  refine call_hand (h_Compact_Dot (sortD l) (by omega) (by have := List.length_pos_iff.2 h0; omega)) ⟨_, rfl, rfl, rfl⟩ (by intro h; have := congrArg List.length h; simp [dotsAV] at this; rw [this] at hs; exact h0 (List.eq_nil_of_length_eq_zero hs.symm)) (by simp) ?_
  simp
  first | refine hK _ _ ?_ | refine ⟨by omega, hK _ _ ?_⟩ | refine ⟨by omega, by omega, hK _ _ ?_⟩
  clear hK K
  refine AWp.frz [2] ?_
  simp
  refine AWp.ret ?_
  simp [ordP]

theorem plainL_len (u : List Int) (h : clockOk u = true) : (plainL (ofL u)).length = u.length ↔ plainL (ofL u) = u := by
  refine ⟨fun hl => ?_, fun hl => by rw [hl]⟩
  have h5 := clockOk_len h
  unfold plainL at hl ⊢
  have e : ofL u = u ++ List.replicate (5 - u.length) 0 := by unfold ofL; rw [if_pos h]
  rw [e, List.length_take, List.length_append, List.length_replicate] at hl
  rw [e]
  have hn : plainN (u ++ List.replicate (5 - u.length) 0) 5 = u.length := by
    have := plainN_le (u ++ List.replicate (5 - u.length) 0) 5
    omega
  rw [hn, List.take_left]

theorem moreOk_alt (u : List Int) (l : List Dot) (i : Nat) (h : i < l.length) : moreOk u l i = (mayD l[i] && decide (getC u l[i].1 < l[i].2 - 1) && (!decide (0 < i) || ltD (l.getD (i - 1) (0, 0)) l[i])) := by
  unfold moreOk
  rw [List.getElem?_eq_getElem h]
  have : (getC u l[i].1 + 1 < l[i].2) = (getC u l[i].1 < l[i].2 - 1) := by simp; omega
  simp only [this]

end Go.AM
namespace Go.AM
open Go.Proofs


theorem any_mem {α : Type} [DecidableEq α] (l : List α) (d : α) : (l.any fun x => decide (x = d)) = decide (d ∈ l) := by
  rw [Bool.eq_iff_iff, List.any_eq_true]
  simp



/-- One round of settling. -/
def setStep (s : Seen) (d : Dot) : Seen :=
  if d.2 ≤ getC s.upto d.1 then s else if d.2 = getC s.upto d.1 + 1 then ⟨setC s.upto d.1 d.2, s.more⟩ else ⟨s.upto, s.more ++ [d]⟩
def setTo (u : List Int) (l : List Dot) (i : Nat) : Seen := ((ordP l).take i).foldl setStep ⟨plainL (ofL u), []⟩
theorem setTo_succ (u : List Int) (l : List Dot) (i : Nat) (h : i < (ordP l).length) : setTo u l (i + 1) = setStep (setTo u l i) (ordP l)[i] := by
  unfold setTo
  rw [List.take_succ_eq_append_getElem h, List.foldl_append]
  rfl
theorem plainL_len5 (f : List Int) : (plainL f).length ≤ 5 := by
  have := plainN_le f 5
  simp [plainL]; omega
theorem setC_len (u : List Int) (r n : Int) : (setC u r n).length ≤ 5 := by
  unfold setC
  split
  · exact plainL_len5 _
  · simp
theorem setTo_le (u : List Int) (l : List Dot) : ∀ i, i ≤ (ordP l).length → (setTo u l i).upto.length ≤ 5 ∧ (setTo u l i).more.length ≤ i
  | 0, _ => ⟨plainL_len5 _, by simp [setTo]⟩
  | i + 1, h => by
    have ih := setTo_le u l i (by omega)
    rw [setTo_succ u l i (by omega)]
    unfold setStep
    split
    · omega
    · split
      · exact ⟨setC_len _ _ _, by simp; omega⟩
      · simp; omega
theorem ordP_length (l : List Dot) : (ordP l).length ≤ l.length := by
  have := compD_le (sortD l)
  rw [sortD_length] at this
  exact this
def settled (u : List Int) (l : List Dot) : Seen := setTo u l (ordP l).length
def fullE (s : Seen) : Int := if s.more.length ≤ 1000 then 0 else 6
def fullS (s : Seen) : Seen := if s.more.length ≤ 1000 then s else ⟨[], []⟩

end Go.AM
namespace Go.AM

def rowQ (t id : Nat) (p : Place) : Option Place := if p = .slot t [] then some (.box id) else none

/-- A slot's own row becomes a box. -/
def St.unown (st : St) (t id sz : Nat) (xs : List (List AV)) (cap : Nat) : St :=
  (((st.take (rowQ t id)).killB id).put t (.bs id 0 xs.length cap)).setBox id (some (xs.flatten ++ List.replicate ((cap - xs.length) * sz) .any))

theorem abs_killB (st : St) (id : Nat) (q : Place) (sz : Nat) (xs : List (List AV)) : st.abs q = .sl .own sz xs ↔ (st.killB id).abs q = .sl .own sz xs := by
  have aux : ∀ (p : Place) (x : AV) sz xs, x = .sl .own sz xs ↔ x.tr (killBLeaf id) p = .sl .own sz xs := by
    intro p x sz xs
    cases x with
    | agg cs => simp [AV.tr]
    | tup cs => simp [AV.tr]
    | fn f fi ca => simp [AV.tr]
    | ptr i off => simp only [AV.tr, killBLeaf]; split <;> simp
    | bs i off n cap => simp only [AV.tr, killBLeaf]; split <;> simp
    | _ => simp [AV.tr, killBLeaf]
  unfold St.killB
  rw [St.abs_tr (fun _ => rfl) (killBLeaf_leaf id)]
  cases q with
  | slot t π => exact aux _ _ _ _
  | cell i off => exact aux _ _ _ _
  | _ => simp [St.abs]

theorem abs_take (st : St) (Q : Place → Option Place) (q : Place) (sz : Nat) (xs : List (List AV)) (h : (st.take Q).abs q = .sl .own sz xs) : st.abs q = .sl .own sz xs ∧ Q q = none := by
  have aux : ∀ (p : Place) (x : AV), x.tr (takeLeaf Q) p = .sl .own sz xs → x = .sl .own sz xs ∧ Q p = none := by
    intro p x h
    cases x with
    | agg cs => simp [AV.tr] at h
    | tup cs => simp [AV.tr] at h
    | fn f fi ca => simp [AV.tr] at h
    | sl g s ys =>
      rw [AV.tr_leaf rfl] at h
      cases g with
      | own =>
        simp only [takeLeaf] at h
        split at h
        · cases h
        · rename_i hq
          exact ⟨h, by simpa using hq⟩
      | vw q ex =>
        simp only [takeLeaf] at h
        split at h <;> cases h
      | _ => simp [takeLeaf] at h
    | pt g ix cells off =>
      rw [AV.tr_leaf rfl] at h
      cases g with
      | vw q ex =>
        simp only [takeLeaf] at h
        split at h <;> cases h
      | _ => simp [takeLeaf] at h
    | _ => simp [AV.tr, takeLeaf] at h
  unfold St.take at h
  rw [St.abs_tr (fun _ => rfl) (takeLeaf_leaf Q)] at h
  cases q with
  | slot t π => exact aux _ _ h
  | cell i off => exact aux _ _ h
  | _ => simp [St.abs] at h

theorem Rel.unown {N : Nat} {E : Env} (R : Rel N E) {t id bk sz cap : Nat} {xs : List (List AV)} {arr : Array Value} {T : TypeId} (htN : t < N) (ht : E.st.slots t = .sl .own sz xs) (hω : E.ω bk = some (.slot t [])) (hg : E.w.heap[bk]? = some (.cells arr T (0, 0)))
    (ha : arr.size = cap * sz) (hc : xs.length ≤ cap) (hrow : Row E.Pub E.w bk 0 sz xs) (hown0 : ∀ j sz xs, E.st.abs (.cell id j) ≠ .sl .own sz xs) (htm : E.tm.getD t undef = .slice (some ⟨bk, 0, none⟩) xs.length cap) (hid2 : parkM ≤ id → bk + parkM = id) :
    Rel N ⟨E.w, (fun i => if i = id then bk else E.β i), (E.take (rowQ t id)).ω, E.Pub, E.st.unown t id sz xs cap, E.tm⟩ := by
  let E1 := E.take (rowQ t id)
  let E' : Env := ⟨E.w, (fun i => if i = id then bk else E.β i), (E.take (rowQ t id)).ω, E.Pub, E.st.unown t id sz xs cap, E.tm⟩
  have R1 : Rel N E1 := R.take (rowQ t id) fun _ => by simp [rowQ]
  have R2 := R1.killB id
  have hown1 : ∀ j sz xs, E1.st.abs (.cell id j) ≠ .sl .own sz xs := fun j sz xs h => hown0 j sz xs (abs_take E.st _ _ _ _ h).1
  have hq : ∀ q sz xs, E1.st.abs q = .sl .own sz xs → rootNe t q ∧ (∀ j, q ≠ .cell id j) ∧ q ≠ .box id := by
    intro q sz' xs' h
    refine ⟨?_, fun j e => hown1 j sz' xs' (e ▸ h), fun e => by subst e; simp [St.abs] at h⟩
    obtain ⟨h1, h2⟩ := abs_take E.st _ _ _ _ h
    cases q with
    | slot t' π =>
      show t' ≠ t
      rintro rfl
      cases π with
      | nil => simp [rowQ] at h2
      | cons k π =>
        simp only [St.abs, ht, AV.at] at h1
        cases h1
    | _ => trivial
  have hno : rootNe t Place.no ∧ (∀ j, Place.no ≠ .cell id j) ∧ Place.no ≠ .box id := ⟨trivial, by simp, by simp⟩
  have hst : Stays (fun q => rootNe t q ∧ (∀ j, q ≠ .cell id j) ∧ q ≠ .box id) (fun i => i ≠ id) { E1 with st := E1.st.killB id } E' := by
    refine ⟨fun bk h => ⟨h, rfl⟩, fun bk q _ h => ⟨h, rfl⟩, fun i hi => by show (if i = id then bk else E.β i) = E.β i; rw [if_neg hi], ?_, ?_⟩
    · intro q u sz xs hr hab hc
      cases q with
      | slot t π => exact hc
      | cell i off =>
        have hi : i ≠ id := fun e => hr.2.1 off (by rw [e])
        show E.w.cell? ⟨if i = id then bk else E.β i, off, none⟩ = some u
        rw [if_neg hi]; exact hc
      | box _ => simp [Env.con] at hc
      | no => simp [Env.con] at hc
    · intro q sz xs hr hab
      cases q with
      | slot t' π =>
        have hne : t' ≠ t := hr.1
        show ((if t' = t then _ else ((E.st.take (rowQ t id)).killB id).slots t') : AV).at π = _
        rw [if_neg hne]; exact hab
      | cell i off =>
        have hi : i ≠ id := fun e => hr.2.1 off (by rw [e])
        show ((((E.st.unown t id _ _ cap).boxes i).getD []).getD off .any) = _
        simp only [St.unown, St.setBox, hi, if_false]; exact hab
      | box _ => simp [St.abs] at hab
      | no => simp [St.abs] at hab
  refine { size := R.size, slots := fun t' => ?_, boxes := fun i csi h => ?_, pub := R1.pub, own := R1.own, abs := fun i h hm => ?_ }
  · show Val E' (.slot t' []) (if t' = t then _ else ((E.st.take (rowQ t id)).killB id).slots t') (E.tm.getD t' undef)
    by_cases he : t' = t
    · subst he
      rw [if_pos rfl, htm]
      have := Val.bs (E := E') (.slot t' []) id 0 xs.length cap
      have hb : E'.β id = bk := by show (if id = id then bk else _) = bk; rw [if_pos rfl]
      rw [hb] at this
      exact this
    · rw [if_neg he]
      exact (R2.slots t').mono hst (R1.leansSlot hq hno t').killB
  · by_cases hi : i = id
    · subst hi
      have hcs : csi = xs.flatten ++ List.replicate ((cap - xs.length) * sz) .any := by
        have h' : (E.st.unown t i sz xs cap).boxes i = some csi := h
        simp only [St.unown, St.setBox, if_true] at h'
        exact (Option.some.inj h').symm
      have hb : E'.β i = bk := by show (if i = i then bk else _) = bk; rw [if_pos rfl]
      subst hcs
      have hfl := flatten_length hrow.1
      refine ⟨?_, arr, T, by rw [hb]; exact hg, ?_, fun j c hj => ?_⟩
      · rw [hb]
        show (match E.ω bk with | some q => some ((rowQ t i q).getD q) | none => none) = _
        rw [hω]
        simp [rowQ]
      · rw [ha, List.length_append, hfl, List.length_replicate, ← Nat.add_mul]
        congr 1; omega
      · by_cases hlt : j < xs.flatten.length
        · rw [List.getElem?_append_left hlt] at hj
          obtain ⟨u, hu, hd⟩ := hrow.2 j c hj
          have hja : j < arr.size := by
            rw [ha]
            rw [hfl] at hlt
            exact Nat.lt_of_lt_of_le hlt (Nat.mul_le_mul_right _ hc)
          have hue : arr.getD j undef = u := by
            simp [World.cell?, hg] at hu
            rw [Array.getD_eq_getD_getElem?]
            rw [hu]; rfl
          rw [hue]
          exact Dat.val (E := E') hd.1 _
        · rw [List.getElem?_append_right (by omega), List.getElem?_replicate] at hj
          split at hj
          · cases hj; exact .any _ _
          · cases hj
    · have h' : ((E.st.take (rowQ t id)).killB id).boxes i = some csi := by
        have h'' : (E.st.unown t id sz xs cap).boxes i = some csi := h
        simp only [St.unown, St.setBox, hi, if_false] at h''
        exact h''
      obtain ⟨h1, arr0, T0, h2, h3, h4⟩ := R2.boxes i csi h'
      have hbi : E'.β i = E.β i := by show (if i = id then bk else E.β i) = E.β i; rw [if_neg hi]
      refine ⟨by rw [hbi]; exact h1, arr0, T0, by rw [hbi]; exact h2, h3, fun j c hj => ?_⟩
      have h5 := h4 j c hj
      simp only [St.killB, St.tr, Option.map_eq_some_iff] at h'
      obtain ⟨cs0, hb0, rfl⟩ := h'
      rw [AV.trC_get] at hj
      obtain ⟨c0, hc0, rfl⟩ := Option.map_eq_some_iff.1 hj
      have := (R1.leansCell hq hno (show E1.st.boxes i = some cs0 from hb0) hc0).killB (id := id)
      simp only [Nat.zero_add] at this h5 ⊢
      exact h5.mono hst this
  · by_cases hi : i = id
    · subst hi
      show (if i = i then bk else _) + parkM = i
      rw [if_pos rfl]; exact hid2 hm
    · show (if i = id then bk else E.β i) + parkM = i
      rw [if_neg hi]
      refine R2.abs i ?_ hm
      have h' : ((E.st.unown t id sz xs cap).boxes i).isSome = true := h
      simp only [St.unown, St.setBox, hi, if_false] at h'
      exact h'
end Go.AM
namespace Go.AM
/-- A box's row becomes a slot's own. -/
def St.reown (st : St) (d id sz : Nat) (ys : List (List AV)) : St := ((st.killB id).setBox id none).put d (.sl .own sz ys)

theorem Rel.reown {N : Nat} {E : Env} (R : Rel N E) {d id sz cap : Nat} {ys : List (List AV)} {pad : List AV} (hsz : 0 < sz) (hs : E.st.slots d = .bs id 0 ys.length cap) (hb : E.st.boxes id = some (ys.flatten ++ pad)) (hlen : (ys.flatten ++ pad).length = cap * sz)
    (hy : ∀ y ∈ ys, y.length = sz) (hdat : (ys.flatten.all fun c => c.data && c.cellOk) = true) (hfr : AV.freeL (ys.flatten ++ pad) = true) :
    Rel N ⟨E.w, E.β, (fun bk => if E.ω bk = some (.box id) then some (.slot d []) else E.ω bk), E.Pub, E.st.reown d id sz ys, E.tm⟩ := by
  let E' : Env := ⟨E.w, E.β, (fun bk => if E.ω bk = some (.box id) then some (.slot d []) else E.ω bk), E.Pub, E.st.reown d id sz ys, E.tm⟩
  have R2 := R.killB id
  have hq : ∀ q sz xs, E.st.abs q = .sl .own sz xs → rootNe d q ∧ (∀ j, q ≠ .cell id j) ∧ q ≠ .box id := by
    intro q sz' xs' h
    refine ⟨?_, fun j e => ?_, fun e => by subst e; simp [St.abs] at h⟩
    · cases q with
      | slot t' π =>
        show t' ≠ d
        rintro rfl
        cases π with
        | nil =>
          simp only [St.abs, hs] at h
          cases h
        | cons k π =>
          simp only [St.abs, hs, AV.at] at h
          cases h
      | _ => trivial
    · subst e
      simp only [St.abs, hb, Option.getD_some, List.getD_eq_getElem?_getD] at h
      cases hj : (ys.flatten ++ pad)[j]? with
      | none => rw [hj] at h; cases h
      | some c =>
        rw [hj] at h
        have := AV.freeL_get hfr hj
        simp only [Option.getD_some] at h
        rw [h] at this
        simp [AV.free] at this
  have hno : rootNe d Place.no ∧ (∀ j, Place.no ≠ .cell id j) ∧ Place.no ≠ .box id := ⟨trivial, by simp, by simp⟩
  have hst : Stays (fun q => rootNe d q ∧ (∀ j, q ≠ .cell id j) ∧ q ≠ .box id) (fun i => i ≠ id) { E with st := E.st.killB id } E' := by
    refine ⟨fun bk h => ⟨h, rfl⟩, fun bk q hq h => ⟨?_, rfl⟩, fun i hi => rfl, ?_, ?_⟩
    · show (if E.ω bk = some (.box id) then some (Place.slot d []) else E.ω bk) = some q
      have h' : E.ω bk = some q := h
      rw [h', if_neg (by simp [hq.2.2])]
    · intro q u sz xs hr hab hc
      cases q <;> exact hc
    · intro q sz xs hr hab
      cases q with
      | slot t' π =>
        have hne : t' ≠ d := hr.1
        show ((if t' = d then _ else (E.st.killB id).slots t') : AV).at π = _
        rw [if_neg hne]; exact hab
      | cell i off =>
        have hi : i ≠ id := fun e => hr.2.1 off (by rw [e])
        show ((((E.st.reown d id _ ys).boxes i).getD []).getD off .any) = _
        simp only [St.reown, St.put, St.setBox, hi, if_false]; exact hab
      | box _ => simp [St.abs] at hab
      | no => simp [St.abs] at hab
  obtain ⟨g1, arr, T, g2, g3, g4⟩ := R.boxes id _ hb
  refine { size := R.size, slots := fun t' => ?_, boxes := fun i csi h => ?_, pub := fun bk h => ⟨(R.pub bk h).1, ?_⟩, own := fun bk q h => ?_, abs := fun i h hm => ?_ }
  · show Val E' (.slot t' []) (if t' = d then _ else (E.st.killB id).slots t') (E.tm.getD t' undef)
    by_cases he : t' = d
    · subst he
      rw [if_pos rfl]
      have hv := R.slots t'
      rw [hs] at hv
      generalize E.tm.getD t' undef = v at hv
      cases hv
      have hfl := flatten_length hy
      have hcap : ys.length ≤ cap := by
        rw [List.length_append, hfl] at hlen
        exact Nat.le_of_mul_le_mul_right (by omega : ys.length * sz ≤ cap * sz) hsz
      refine .sl _ .own sz ys (E.β id) 0 cap hcap ⟨hy, fun j c hj => ?_⟩ ⟨?_, arr, T, g2, rfl, by rw [g3]; exact hlen⟩ trivial
      · have hlt := (List.getElem?_eq_some_iff.1 hj).1
        have hvc := g4 j c (by rw [List.getElem?_append_left hlt]; exact hj)
        have hja : j < arr.size := by rw [g3, List.length_append]; omega
        rw [List.all_eq_true] at hdat
        have hcc := hdat c (List.mem_of_getElem? hj)
        simp only [Bool.and_eq_true] at hcc
        rw [Array.getD_eq_getD_getElem?, Array.getElem?_eq_getElem hja] at hvc
        refine ⟨arr[j], ?_, hvc.dat hcc.1, oneCell_dat (hvc.dat hcc.1) hcc.2⟩
        show E.w.cell? _ = _
        simp [World.cell?, g2, hja]
      · show (if E.ω (E.β id) = some (.box id) then some (Place.slot t' []) else E.ω (E.β id)) = _
        rw [if_pos g1]
    · rw [if_neg he]
      exact (R2.slots t').mono hst (R.leansSlot hq hno t').killB
  · by_cases hi : i = id
    · subst hi
      have h' : (E.st.reown d i sz ys).boxes i = some csi := h
      simp only [St.reown, St.put, St.setBox, if_true] at h'
      cases h'
    · have h' : (E.st.killB id).boxes i = some csi := by
        have h'' : (E.st.reown d id sz ys).boxes i = some csi := h
        simp only [St.reown, St.put, St.setBox, hi, if_false] at h''
        exact h''
      obtain ⟨h1, arr0, T0, h2, h3, h4⟩ := R2.boxes i csi h'
      refine ⟨?_, arr0, T0, h2, h3, fun j c hj => ?_⟩
      · show (if E.ω (E.β i) = some (.box id) then some (Place.slot d []) else E.ω (E.β i)) = _
        have h1' : E.ω (E.β i) = some (.box i) := h1
        rw [h1', if_neg (by simp [hi])]
      · have h5 := h4 j c hj
        simp only [St.killB, St.tr, Option.map_eq_some_iff] at h'
        obtain ⟨cs0, hb0, rfl⟩ := h'
        rw [AV.trC_get] at hj
        obtain ⟨c0, hc0, rfl⟩ := Option.map_eq_some_iff.1 hj
        have := (R.leansCell hq hno hb0 hc0).killB (id := id)
        simp only [Nat.zero_add] at this h5 ⊢
        exact h5.mono hst this
  · show (if E.ω bk = some (.box id) then some (Place.slot d []) else E.ω bk) = none
    rw [(R.pub bk h).2, if_neg (by simp)]
  · have h' : (if E.ω bk = some (.box id) then some (Place.slot d []) else E.ω bk) = some q := h
    split at h'
    · rename_i h2; exact R.own bk _ h2
    · exact R.own bk q h'
  · by_cases hi : i = id
    · subst hi
      have h' : ((E.st.reown d i sz ys).boxes i).isSome = true := h
      simp [St.reown, St.put, St.setBox] at h'
    · have h' : ((E.st.reown d id sz ys).boxes i).isSome = true := h
      simp only [St.reown, St.put, St.setBox, hi, if_false] at h'
      exact R2.abs i h' hm

theorem Inv.unown {N : Nat} {S : Start} {E : Env} (I : Inv N S E) {t id sz : Nat} {xs : List (List AV)} (htN : t < N) (ht : E.st.slots t = .sl .own sz xs) (hne : xs ≠ []) (hid : E.st.boxes id = none) (hk : S.k ≤ id) (hp : id < parkM) :
    ∃ cap E', xs.length ≤ cap ∧ E'.w = E.w ∧ E'.tm = E.tm ∧ Inv N S E' ∧ E'.st = E.st.unown t id sz xs cap := by
  have hv := I.rel.slots t
  rw [ht] at hv
  generalize hvv : E.tm.getD t undef = v at hv
  cases hv with
  | sl0 => exact absurd rfl hne
  | sl _ _ _ _ bk off cap hc hr hg ha =>
    obtain ⟨h1, arr, T, h2, h3, h4⟩ := hg
    subst h3
    have R' := I.rel.unown (id := id) htN ht h1 h2 h4 hc hr (fun j sz xs h => by simp [St.abs, hid] at h) hvv (fun h => by omega)
    refine ⟨cap, ⟨E.w, (fun i => if i = id then bk else E.β i), (E.take (rowQ t id)).ω, E.Pub, E.st.unown t id sz xs cap, E.tm⟩, hc, rfl, rfl, ⟨R', ⟨I.fr.os, I.fr.tape, I.fr.output, I.fr.size, I.fr.block, fun k q h => ?_, I.fr.pub0, I.fr.pub1, fun i hi => ?_⟩⟩, rfl⟩
    · have h' : (match E.ω k with | some q => some ((rowQ t id q).getD q) | none => none) = some q := h
      split at h'
      · rename_i q' hq'; exact I.fr.own k q' hq'
      · cases h'
    · show (if i = id then bk else E.β i) = _
      rw [if_neg (by omega)]
      exact I.fr.beta i hi

/-- The same, where the row may be nil. -/
theorem Inv.unown0 {N : Nat} {S : Start} {E : Env} (I : Inv N S E) {t id sz : Nat} {xs : List (List AV)} (htN : t < N) (ht : E.st.slots t = .sl .own sz xs) (hid : E.st.boxes id = none) (hk : S.k ≤ id) (hp : id < parkM) :
    (xs = [] ∧ ∃ E', E'.w = E.w ∧ E'.tm = E.tm ∧ Inv N S E' ∧ E'.st = (E.st.take (rowQ t id)).put t (.sl .nl sz [])) ∨ ∃ cap E', xs.length ≤ cap ∧ E'.w = E.w ∧ E'.tm = E.tm ∧ Inv N S E' ∧ E'.st = E.st.unown t id sz xs cap := by
  have hv := I.rel.slots t
  rw [ht] at hv
  generalize hvv : E.tm.getD t undef = v at hv
  cases hv with
  | sl0 =>
    left
    refine ⟨rfl, ?_⟩
    have I1 := I.take (rowQ t id) fun _ => by simp [rowQ]
    have hno : NoOwn ((E.take (rowQ t id)).st.slots t) := by
      intro π sz' xs' h
      obtain ⟨h1, h2⟩ := abs_take E.st (rowQ t id) (.slot t π) sz' xs' h
      cases π with
      | nil => simp [rowQ] at h2
      | cons k π =>
        simp only [St.abs, ht, AV.at] at h1
        cases h1
    have I2 := I1.putq t (.sl .nl sz []) (.slice none 0 0) htN hno rfl (.sl0 _ _ _ (by simp) trivial)
    refine ⟨{ E.take (rowQ t id) with st := (E.take (rowQ t id)).st.put t (.sl .nl sz []), tm := (E.take (rowQ t id)).tm.setIfInBounds t (.slice none 0 0) }, rfl, ?_, I2, rfl⟩
    show E.tm.setIfInBounds t (.slice none 0 0) = E.tm
    exact tm_set_same _ _ _ hvv
  | sl _ _ _ _ bk off cap hc hr hg ha =>
    right
    obtain ⟨h1, arr, T, h2, h3, h4⟩ := hg
    subst h3
    have R' := I.rel.unown (id := id) htN ht h1 h2 h4 hc hr (fun j sz xs h => by simp [St.abs, hid] at h) hvv (fun h => by omega)
    refine ⟨cap, ⟨E.w, (fun i => if i = id then bk else E.β i), (E.take (rowQ t id)).ω, E.Pub, E.st.unown t id sz xs cap, E.tm⟩, hc, rfl, rfl, ⟨R', ⟨I.fr.os, I.fr.tape, I.fr.output, I.fr.size, I.fr.block, fun k q h => ?_, I.fr.pub0, I.fr.pub1, fun i hi => ?_⟩⟩, rfl⟩
    · have h' : (match E.ω k with | some q => some ((rowQ t id q).getD q) | none => none) = some q := h
      split at h'
      · rename_i q' hq'; exact I.fr.own k q' hq'
      · cases h'
    · show (if i = id then bk else E.β i) = _
      rw [if_neg (by omega)]
      exact I.fr.beta i hi

theorem Inv.reown {N : Nat} {S : Start} {E : Env} (I : Inv N S E) {d id sz cap : Nat} {ys : List (List AV)} {pad : List AV} (hsz : 0 < sz) (hs : E.st.slots d = .bs id 0 ys.length cap) (hb : E.st.boxes id = some (ys.flatten ++ pad)) (hlen : (ys.flatten ++ pad).length = cap * sz)
    (hy : ∀ y ∈ ys, y.length = sz) (hdat : (ys.flatten.all fun c => c.data && c.cellOk) = true) (hfr : AV.freeL (ys.flatten ++ pad) = true) :
    ∃ E', E'.w = E.w ∧ E'.tm = E.tm ∧ Inv N S E' ∧ E'.st = E.st.reown d id sz ys := by
  refine ⟨⟨E.w, E.β, (fun bk => if E.ω bk = some (.box id) then some (.slot d []) else E.ω bk), E.Pub, E.st.reown d id sz ys, E.tm⟩, rfl, rfl, ⟨I.rel.reown hsz hs hb hlen hy hdat hfr, ⟨I.fr.os, I.fr.tape, I.fr.output, I.fr.size, I.fr.block, fun k q h => ?_, I.fr.pub0, I.fr.pub1, I.fr.beta⟩⟩, rfl⟩
  have h' : (if E.ω k = some (.box id) then some (Place.slot d []) else E.ω k) = some q := h
  split at h'
  · rename_i h2; exact I.fr.own k _ h2
  · exact I.fr.own k q h'

/-- Operations of a region from one on, as they turn a state; ghost steps may stand between them. -/
def SOps (C : Cx) (ops : Array Oper) (k : Nat) (l : List Oper) (st : St) (K : St → Prop) : Prop :=
  ∀ (S : Start) (E : Env) (a : Act), S.k ≤ C.base → Inv C.N S E → a.tmps = E.tm → a.defers = [] → E.st = st → ∀ R : Exit → Act → World → Prop,
    (∀ E a, Inv C.N S E → a.tmps = E.tm → a.defers = [] → K E.st → R .normal a E.w) → wpOps C.P ops R (List.range' k l.length) a E.w

section
variable {C : Cx} {Q : Exit → St → Prop} {st : St}
theorem SOps.nil {ops : Array Oper} {k : Nat} {K : St → Prop} (h : K st) : SOps C ops k [] st K := by
  intro S E a hb I ha hd he R hR
  exact hR E a I ha hd (by rw [he]; exact h)

theorem aops_soundQ {S : Start} (hbase : S.k ≤ C.base) {ops : Array Oper} {K : St → Prop} {R : Exit → Act → World → Prop} : ∀ (l r : List Oper) (k : Nat), ops.toList.drop k = l ++ r →
    (∀ E a, Inv C.N S E → a.tmps = E.tm → a.defers = [] → K E.st → wpOps C.P ops R (List.range' (k + l.length) r.length) a E.w) →
    ∀ (E : Env) (a : Act), Inv C.N S E → a.tmps = E.tm → a.defers = [] → aops C ops l E.st K → wpOps C.P ops R (List.range' k (l ++ r).length) a E.w := by
  intro l
  induction l with
  | nil => intro r k _ hR E a I ha hd h; exact hR E a I ha hd h
  | cons o l ih =>
    intro r k hl hR E a I ha hd h
    have ho : ops[k]? = some o := by
      rw [← Array.getElem?_toList]
      have := congrArg (·[0]?) hl
      simpa [List.getElem?_drop] using this
    have hrest : ops.toList.drop (k + 1) = l ++ r := by
      have := congrArg List.tail hl
      simpa [List.tail_drop] using this
    rw [List.cons_append, List.length_cons, List.range'_succ]
    simp only [wpOps]
    have := aops_head (C := C) (ops := ops) (R := R) (next := wpOps C.P ops R (List.range' (k + 1) (l ++ r).length)) I hbase ha hd ho h fun E' a' I' ha' hd' h' =>
      ih r (k + 1) hrest (fun E a I ha hd hK => by rw [show k + 1 + l.length = k + (o :: l).length by simp; omega]; exact hR E a I ha hd hK) E' a' I' ha' hd' h'
    exact this

theorem SOps.cut (n : Nat) {ops : Array Oper} {k : Nat} {l : List Oper} {K : St → Prop} (hl : ops.toList.drop k = l) (h : ∀ K' : St → Prop, (∀ m bx, SOps C ops (k + (l.take n).length) (l.drop n) (St.of m bx) K → K' (St.of m bx)) → aops C ops (l.take n) st K') : SOps C ops k l st K := by
  intro S E a hb I ha hd he R hR
  have h1 := h (fun s => SOps C ops (k + (l.take n).length) (l.drop n) s K) fun _ _ h => h
  have := aops_soundQ (C := C) hb (ops := ops) (K := fun s => SOps C ops (k + (l.take n).length) (l.drop n) s K) (R := R) (l.take n) (l.drop n) k (by rw [List.take_append_drop]; exact hl)
    (fun E a I ha hd hK => hK S E a hb I ha hd rfl R hR) E a I ha hd (by rw [he]; exact h1)
  rwa [List.take_append_drop] at this

theorem SOps.unown (t id : Nat) {sz : Nat} {xs : List (List AV)} {ops : Array Oper} {k : Nat} {l : List Oper} {K : St → Prop} (ht : st.slots t = .sl .own sz xs) (hN : t < C.N) (hne : xs ≠ []) (hid : st.boxes id = none) (hb : C.base ≤ id ∧ id < 1000000)
    (h : ∀ cap, xs.length ≤ cap → SOps C ops k l (st.unown t id sz xs cap) K) : SOps C ops k l st K := by
  intro S E a hbs I ha hd he R hR
  subst he
  obtain ⟨cap, E', h1, h2, h3, h4, h5⟩ := I.unown hN ht hne hid (Nat.le_trans hbs hb.1) hb.2
  have := h cap h1 S E' a hbs h4 (by rw [ha, h3]) hd h5 R hR
  rwa [h2] at this

theorem SOps.unown0 (t id : Nat) {sz : Nat} {xs : List (List AV)} {ops : Array Oper} {k : Nat} {l : List Oper} {K : St → Prop} (ht : st.slots t = .sl .own sz xs) (hN : t < C.N) (hid : st.boxes id = none) (hb : C.base ≤ id ∧ id < 1000000)
    (h0 : xs = [] → SOps C ops k l ((st.take (rowQ t id)).put t (.sl .nl sz [])) K) (h : ∀ cap, xs.length ≤ cap → SOps C ops k l (st.unown t id sz xs cap) K) : SOps C ops k l st K := by
  intro S E a hbs I ha hd he R hR
  subst he
  rcases I.unown0 hN ht hid (Nat.le_trans hbs hb.1) hb.2 with ⟨h1, E', h2, h3, h4, h5⟩ | ⟨cap, E', h1, h2, h3, h4, h5⟩
  · have := h0 h1 S E' a hbs h4 (by rw [ha, h3]) hd h5 R hR
    rwa [h2] at this
  · have := h cap h1 S E' a hbs h4 (by rw [ha, h3]) hd h5 R hR
    rwa [h2] at this

theorem AWp.unown0 (t id : Nat) {sz : Nat} {xs : List (List AV)} {c : Code} (ht : st.slots t = .sl .own sz xs) (hN : t < C.N) (hid : st.boxes id = none) (hb : C.base ≤ id ∧ id < 1000000)
    (h0 : xs = [] → AWp C c ((st.take (rowQ t id)).put t (.sl .nl sz [])) Q) (h : ∀ cap, xs.length ≤ cap → AWp C c (st.unown t id sz xs cap) Q) : AWp C c st Q := by
  intro S E a hbs I ha hd he
  subst he
  rcases I.unown0 hN ht hid (Nat.le_trans hbs hb.1) hb.2 with ⟨h1, E', h2, h3, h4, h5⟩ | ⟨cap, E', h1, h2, h3, h4, h5⟩
  · have := h0 h1 S E' a hbs h4 (by rw [ha, h3]) hd h5
    rwa [h2] at this
  · have := h cap h1 S E' a hbs h4 (by rw [ha, h3]) hd h5
    rwa [h2] at this

theorem SOps.reown (d id cap : Nat) {sz : Nat} (ys : List (List AV)) (pad : List AV) {ops : Array Oper} {k : Nat} {l : List Oper} {K : St → Prop} (hsz : 0 < sz) (hs : st.slots d = .bs id 0 ys.length cap) (hbx : st.boxes id = some (ys.flatten ++ pad)) (hlen : (ys.flatten ++ pad).length = cap * sz)
    (hy : ∀ y ∈ ys, y.length = sz) (hdat : (ys.flatten.all fun c => c.data && c.cellOk) = true) (hfr : AV.freeL (ys.flatten ++ pad) = true) (h : SOps C ops k l (st.reown d id sz ys) K) : SOps C ops k l st K := by
  intro S E a hbs I ha hd he R hR
  subst he
  obtain ⟨E', h2, h3, h4, h5⟩ := I.reown hsz hs hbx hlen hy hdat hfr
  have := h S E' a hbs h4 (by rw [ha, h3]) hd h5 R hR
  rwa [h2] at this

theorem AWp.sregion {id : Nat} {ops : Array Oper} (h : SOps C ops 0 ops.toList st (Q .normal)) : AWp C (.region id ops false) st Q := by
  intro S E a hb I ha hd he
  refine wp_region ?_
  have := h S E a hb I ha hd he (APost C S Q) (fun E a I ha hd h => ⟨E, rfl, I, ha, hd, h⟩)
  rw [List.range_eq_range']
  simpa using this

/-- A region with ghost steps between its operations. -/
theorem AWp.goS (ks kb : List Nat) {id : Nat} {ops : Array Oper} {y : Code} (h : ∀ K : St → Prop, (∀ l bx, AWp C y (St.of l bx) Q → K (St.of l bx)) → SOps C ops 0 ops.toList st fun s => K (St.of (seeS ks kb s ks) (seeB ks kb s kb))) : AWp C (.seq (.region id ops false) y) st Q := by
  refine AWp.seq (AWp.post (fun _ => (ks, kb)) ((AWp.sregion (Q := fun e s => thenQ (fun s => AWp C y (s.clean ks kb) Q) (fun _ _ => False) e s) ?_).mono ?_))
  · have := h (fun s => AWp C y s Q) fun _ _ h => h
    simp only [← St.clean_eq] at this
    exact this
  · intro e s hs
    cases e with
    | normal => exact hs
    | _ => exact hs.elim

theorem AWp.unown (t id : Nat) {sz : Nat} {xs : List (List AV)} {c : Code} (ht : st.slots t = .sl .own sz xs) (hN : t < C.N) (hne : xs ≠ []) (hid : st.boxes id = none) (hb : C.base ≤ id ∧ id < 1000000) (h : ∀ cap, xs.length ≤ cap → AWp C c (st.unown t id sz xs cap) Q) : AWp C c st Q := by
  intro S E a hbs I ha hd he
  subst he
  obtain ⟨cap, E', h1, h2, h3, h4, h5⟩ := I.unown hN ht hne hid (Nat.le_trans hbs hb.1) hb.2
  have := h cap h1 S E' a hbs h4 (by rw [ha, h3]) hd h5
  rwa [h2] at this

theorem AWp.reown (d id cap : Nat) {sz : Nat} (ys : List (List AV)) (pad : List AV) {c : Code} (hsz : 0 < sz) (hs : st.slots d = .bs id 0 ys.length cap) (hbx : st.boxes id = some (ys.flatten ++ pad)) (hlen : (ys.flatten ++ pad).length = cap * sz)
    (hy : ∀ y ∈ ys, y.length = sz) (hdat : (ys.flatten.all fun c => c.data && c.cellOk) = true) (hfr : AV.freeL (ys.flatten ++ pad) = true) (h : AWp C c (st.reown d id sz ys) Q) : AWp C c st Q := by
  intro S E a hbs I ha hd he
  subst he
  obtain ⟨E', h2, h3, h4, h5⟩ := I.reown hsz hs hbx hlen hy hdat hfr
  have := h S E' a hbs h4 (by rw [ha, h3]) hd h5
  rwa [h2] at this
end
attribute [simp] St.unown St.reown rowQ
end Go.AM
namespace Go.AM
@[simp] theorem St.of_setNone {m : List (Nat × AV)} {bx : Boxes} {id : Nat} : (St.of m bx).setBox id none = (St.of m bx).dropB [id] := by
  refine St.ext' (fun t => rfl) (fun i => ?_)
  show (if i = id then none else (St.of m bx).boxes i) = if [id].contains i then none else (St.of m bx).boxes i
  by_cases h : i = id
  · subst h; simp
  · simp [h]
end Go.AM
namespace Go.AM
open Go.Proofs

theorem idxI_cases {α : Type} (p : α → Bool) (l : List α) : (idxI p l = -1 ∧ l.filter (fun x => !p x) = l) ∨ ∃ i, ∃ h : i < l.length, idxI p l = (i : Int) ∧ (l.take i).filter (fun x => !p x) = l.take i ∧ p l[i] = true := by
  unfold idxI
  cases h : l.findIdx? p with
  | none =>
    left
    rw [List.findIdx?_eq_none_iff] at h
    exact ⟨rfl, List.filter_eq_self.2 fun x hx => by simp [h x hx]⟩
  | some i =>
    right
    rw [List.findIdx?_eq_some_iff_getElem] at h
    obtain ⟨hi, hp, hn⟩ := h
    refine ⟨i, hi, rfl, List.filter_eq_self.2 fun x hx => ?_, hp⟩
    obtain ⟨k, hk, rfl⟩ := List.mem_take_iff_getElem.1 hx
    have := hn k (by omega)
    simpa using this
set_option maxRecDepth 8000 in
theorem c_IndexFuncB_Dot (l : List Dot) (pad : List AV) (cap : Nat) (g : Nat) (p : Dot → Bool) (cs : List AV) (hpad : Calm pad) (hcs : Calm cs) (hg : ∀ n, Proc Try.prog 1 g [.agg (dotC n), .ptr 0 0] [(0, cs)] (.b (p n)) [(0, cs)]) (hl : l.length ≤ 1000000) : Proc Try.prog 2 107 [.bs 0 0 l.length cap, .fn g [] [.ptr 1 0]] [(0, boxR dotC l pad), (1, cs)] (.i .i64 (idxI p l)) [(0, boxR dotC l pad), (1, cs)] := by
  have hC : Calm (boxR dotC l pad) := boxR_calm dotC_ok hpad
  have hL : (boxR dotC l pad).length = l.length * 2 + pad.length := boxR_len dotC_ok l pad
  refine proc_of (cxb Try.prog 19 2 [0, 1, 4, 5, 7, 8, 9, 16] [] [4]) 17 [.tmp 4] Try.func107 rfl rfl rfl rfl rfl rfl (Nat.le_refl _) rfl ?_
  refine AWp.go [0, 1] [0, 1] fun K hK => ?_
  simp [hC, hcs]
  first | refine hK _ _ ?_ | refine ⟨by omega, hK _ _ ?_⟩ | refine ⟨by omega, by omega, hK _ _ ?_⟩
  clear hK K
  refine AWp.seq ?_
  refine AWp.go [0, 1, 7, 8] [0, 1] fun K hK => ?_
  simp [hC, hcs]
  first | refine hK _ _ ?_ | refine ⟨by omega, hK _ _ ?_⟩ | refine ⟨by omega, by omega, hK _ _ ?_⟩
  clear hK K
  refine AWp.block (AWp.while (fun i : Nat => [(0, .bs 0 0 l.length cap), (1, .fn g [] [.ptr 1 0]), (7, .i .i64 l.length), (8, .i .i64 i)]) (fun i => [(0, boxR dotC l pad), (1, cs)]) (fun i => i ≤ l.length ∧ ∀ k (hk : k < i) (hk2 : k < l.length), p l[k] = false) (fun i => l.length - i) [0, 1, 7, 8] [0, 1] 0 (by simp) (by simp [hC, hcs]) ?_)
  rintro i ⟨hi, hall⟩
  refine AWp.go [0, 1, 7, 8, 9] [0, 1] fun K hK => ?_
  simp [hC, hcs]
  first | refine hK _ _ ?_ | refine ⟨by omega, hK _ _ ?_⟩ | refine ⟨by omega, by omega, hK _ _ ?_⟩
  clear hK K
  refine AWp.seq ?_
  by_cases h : i < l.length
  · refine AWp.cond (t := true) (by first | (simp [h]; done) | (simp [h]; omega)) (fun _ => ?_) (by simp)
    refine AWp.skip ?_
    show AWp _ _ _ _
    refine AWp.seq ?_
    refine AWp.block ?_
    refine AWp.go [0, 1, 5, 7, 8] [0, 1] fun K hK => ?_
    simp [hC, hcs]
    first | refine hK _ _ ?_ | refine ⟨by omega, hK _ _ ?_⟩ | refine ⟨by omega, by omega, hK _ _ ?_⟩
    clear hK K
    refine AWp.go [0, 1, 5, 7, 8, 16] [0, 1] fun K hK => ?_
    simp [h, dotR_get l pad i h, hL]
    refine ⟨by omega, ?_⟩
    refine call_proc [(0, 1)] none (hg l[i]) (by simp [dotC]) (by simp) ?_
    simp [hC, hcs]
    refine ⟨by simpa using hcs.still, hK _ _ ?_⟩
    clear hK K
    cases hp : p l[i]
    · refine AWp.cond (t := false) (by simp) (by simp) (fun _ => ?_)
      refine AWp.skip ?_
      show AWp _ _ _ _
      refine AWp.goLast [0, 1, 7, 8] [0, 1] fun K hK => ?_
      simp [hC, hcs]
      first | refine hK _ _ ?_ | refine ⟨by omega, hK _ _ ?_⟩ | refine ⟨by omega, by omega, hK _ _ ?_⟩
      clear hK K
      refine ⟨i + 1, ⟨by omega, fun k hk hk2 => ?_⟩, by omega, ?_⟩
      · by_cases hki : k = i
        · subst hki; exact hp
        · exact hall k (by omega) hk2
      · simp [hC, hcs]
        exact wrap64 (by omega) (by omega)
    · refine AWp.cond (t := true) (by simp) (fun _ => ?_) (by simp)
      refine AWp.go [4] [0, 1] fun K hK => ?_
      simp [hC, hcs]
      first | refine hK _ _ ?_ | refine ⟨by omega, hK _ _ ?_⟩ | refine ⟨by omega, by omega, hK _ _ ?_⟩
      clear hK K
      refine AWp.ret ?_
      rw [idxI_at p l i h (fun k hk => hall k hk (by omega)) hp]
      simp [hC, hcs]
      intro id cs1 hid
      rw [hid]
      have hc1 : Calm cs1 := by
        split at hid
        · cases hid; exact hC
        · split at hid
          · cases hid; exact hcs
          · cases hid
      exact ⟨AV.fitsL_refl _, by simpa using hc1.still⟩
  · refine AWp.cond (t := false) (by first | (simp [h]; done) | (simp [h]; omega)) (by simp) (fun _ => ?_)
    refine AWp.exit ?_
    show AWp _ _ _ _
    refine AWp.go [4] [0, 1] fun K hK => ?_
    simp [hC, hcs]
    first | refine hK _ _ ?_ | refine ⟨by omega, hK _ _ ?_⟩ | refine ⟨by omega, by omega, hK _ _ ?_⟩
    clear hK K
    refine AWp.ret ?_
    rw [idxI_none p l fun k hk => hall k (by omega) hk]
    simp [hC, hcs]
    intro id cs1 hid
    rw [hid]
    have hc1 : Calm cs1 := by
      split at hid
      · cases hid; exact hC
      · split at hid
        · cases hid; exact hcs
        · cases hid
    exact ⟨AV.fitsL_refl _, by simpa using hc1.still⟩
set_option maxRecDepth 8000 in
set_option maxHeartbeats 2000000 in
theorem c_DeleteFuncB_Dot (l : List Dot) (pad : List AV) (cap : Nat) (g : Nat) (p : Dot → Bool) (cs : List AV) (hc : l.length ≤ cap) (hpad : Calm pad) (hp : pad.length = (cap - l.length) * 2) (hcs : Calm cs) (hg : ∀ n, Proc Try.prog 1 g [.agg (dotC n), .ptr 0 0] [(0, cs)] (.b (p n)) [(0, cs)]) (hl : l.length ≤ 1000000) : Proc Try.prog 2 82 [.bs 0 0 l.length cap, .fn g [] [.ptr 1 0]] [(0, boxR dotC l pad), (1, cs)] (.bs 0 0 (l.filter fun x => !p x).length cap) [(0, boxR dotC (l.filter fun x => !p x) (zerosL [.i .i64 0, .i .i64 0] (l.length - (l.filter fun x => !p x).length) ++ pad)), (1, cs)] := by
  have hC : ∀ l', Calm (boxR dotC l' pad) := fun l' => boxR_calm dotC_ok hpad
  have hL : ∀ l', (boxR dotC l' pad).length = l'.length * 2 + pad.length := fun l' => boxR_len dotC_ok l' pad
  have hC2 : ∀ l' n, Calm (boxR dotC l' (zerosL [.i .i64 0, .i .i64 0] n ++ pad)) := fun l' n => boxR_calm dotC_ok ((Calm.zeros (fun c hc => by simp at hc; rcases hc with rfl | rfl <;> rfl) n).append hpad)
  have hfl : (l.filter fun x => !p x).length ≤ l.length := List.length_filter_le _ _
  refine proc_of (cxb Try.prog 42 2 [0, 1, 4, 5, 6, 7, 12, 19, 29] [] [4]) 40 [.tmp 4] Try.func82 rfl rfl rfl rfl rfl rfl (Nat.le_refl _) rfl ?_
  refine AWp.go [0, 1] [0, 1] fun K hK => ?_
  simp [hC, hcs]
  first | refine hK _ _ ?_ | refine ⟨by omega, hK _ _ ?_⟩ | refine ⟨by omega, by omega, hK _ _ ?_⟩
  clear hK K
  refine AWp.go [0, 1, 5] [0, 1] fun K hK => ?_
  simp
  refine call_proc [(0, 0), (1, 1)] none (c_IndexFuncB_Dot l pad cap g p cs hpad hcs hg hl) (by simp) (by simp) ?_
  simp [hC, hcs]
  refine ⟨⟨by simpa using (hC l).still, by simpa using hcs.still⟩, hK _ _ ?_⟩
  clear hK K
  refine AWp.seq ?_
  refine AWp.go [0, 1, 5, 12] [0, 1] fun K hK => ?_
  simp [hC, hcs]
  first | refine hK _ _ ?_ | refine ⟨by omega, hK _ _ ?_⟩ | refine ⟨by omega, by omega, hK _ _ ?_⟩
  clear hK K
  by_cases h0 : idxI p l = -1
  · refine AWp.cond (t := true) (by first | (simp [h0]; done) | (simp [h0]; omega)) (fun _ => ?_) (by simp)
    refine AWp.go [4] [0, 1] fun K hK => ?_
    simp [hC, hcs]
    first | refine hK _ _ ?_ | refine ⟨by omega, hK _ _ ?_⟩ | refine ⟨by omega, by omega, hK _ _ ?_⟩
    clear hK K
    refine AWp.ret ?_
    have hf := (idxI_cases p l).resolve_right (fun ⟨i, _, h, _⟩ => by omega)
    rw [hf.2]
    simp [zerosL, hC, hcs]
    intro id cs1 hid
    rw [hid]
    have hc1 : Calm cs1 := by
      split at hid
      · cases hid; exact hC l
      · split at hid
        · cases hid; exact hcs
        · cases hid
    exact ⟨AV.fitsL_refl _, by simpa using hc1.still⟩
  · refine AWp.cond (t := false) (by first | (simp [h0]; done) | (simp [h0]; omega)) (by simp) (fun _ => ?_)
    obtain ⟨i0, hi0, hidx, htk, hpt⟩ := (idxI_cases p l).resolve_left (fun h => h0 h.1)
    rw [hidx]
    have hft : (l.take (i0 + 1)).filter (fun x => !p x) = l.take i0 := by
      rw [List.take_succ_eq_append_getElem hi0, List.filter_append, htk]
      simp [hpt]
    refine AWp.skip ?_
    show AWp _ _ _ _
    refine AWp.seq ?_
    refine AWp.go [0, 1, 5, 6] [0, 1] fun K hK => ?_
    simp [hC, hcs]
    first | refine hK _ _ ?_ | refine ⟨by omega, hK _ _ ?_⟩ | refine ⟨by omega, by omega, hK _ _ ?_⟩
    clear hK K
    refine AWp.block (AWp.while (fun q : Nat × List Dot => [(0, .bs 0 0 l.length cap), (1, .fn g [] [.ptr 1 0]), (5, .i .i64 ((l.take (i0 + 1 + q.1)).filter fun x => !p x).length), (6, .i .i64 (i0 + 1 + q.1))]) (fun q => [(0, boxR dotC q.2 pad), (1, cs)]) (fun q => q.2.length = l.length ∧ i0 + 1 + q.1 ≤ l.length ∧ ((l.take (i0 + 1 + q.1)).filter fun x => !p x).length ≤ i0 + q.1 ∧ q.2.take ((l.take (i0 + 1 + q.1)).filter fun x => !p x).length = (l.take (i0 + 1 + q.1)).filter (fun x => !p x) ∧ ∀ k, i0 + 1 + q.1 ≤ k → q.2[k]? = l[k]?) (fun q => l.length - q.1) [0, 1, 5, 6] [0, 1] (0, l) (by exact ⟨rfl, by dsimp only; omega, by dsimp only; rw [Nat.add_zero, hft]; simp; omega, by dsimp only; rw [Nat.add_zero, hft]; simp, fun _ _ => rfl⟩) (by have w0 : IntKind.i64.wrap ((i0 : Int) + 1) = i0 + 1 := wrap64 (by omega) (by omega); simp [hft, w0, hC, hcs]; omega) ?_)
    rintro ⟨j, c⟩ ⟨hcl, hj2, hk3, hj3, hj4⟩
    dsimp only at hcl hj2 hk3 hj3 hj4
    try dsimp only
    refine AWp.seq ?_
    refine AWp.go [0, 1, 5, 6, 19] [0, 1] fun K hK => ?_
    simp [hC, hcs]
    first | refine hK _ _ ?_ | refine ⟨by omega, hK _ _ ?_⟩ | refine ⟨by omega, by omega, hK _ _ ?_⟩
    clear hK K
    by_cases h : i0 + 1 + j < l.length
    · refine AWp.cond (t := true) (by first | (simp; done) | (simp; omega)) (fun _ => ?_) (by simp)
      have v1 : IntKind.i64.wrap ((i0 : Int) + 1 + j + 1) = i0 + 1 + j + 1 := wrap64 (by omega) (by omega)
      have v3 : IntKind.i64.wrap ((((l.take (i0 + 1 + j)).filter fun x => !p x).length : Int) + 1) = ((l.take (i0 + 1 + j)).filter fun x => !p x).length + 1 := wrap64 (by omega) (by omega)
      have q1 : c[i0 + 1 + j]'(by omega) = l[i0 + 1 + j] := by have := hj4 (i0 + 1 + j) (by omega); rw [List.getElem?_eq_getElem (by omega), List.getElem?_eq_getElem (by omega)] at this; exact Option.some.inj this
      have g1 := dotR_get c pad (i0 + 1 + j) (by omega)
      rw [q1] at g1
      have e0 : ((i0 : Int) + 1 + j).toNat = i0 + 1 + j := by omega
      refine AWp.skip ?_
      show AWp _ _ _ _
      refine AWp.seq ?_
      refine AWp.block ?_
      refine AWp.go [0, 1, 5, 6, 7] [0, 1, 9] fun K hK => ?_
      simp [e0, g1, hC, hL, hcs]
      refine ⟨by omega, by omega, hK _ _ ?_⟩
      clear hK K
      refine AWp.go [0, 1, 5, 6, 7, 29] [0, 1, 9] fun K hK => ?_
      simp
      refine call_proc [(0, 1)] none (hg l[i0 + 1 + j]) (by simp [dotC]) (by simp) ?_
      simp [hC, hcs]
      refine ⟨by simpa using hcs.still, hK _ _ ?_⟩
      clear hK K
      cases hp2 : p l[i0 + 1 + j]
      · refine AWp.cond (t := true) (by simp) (fun _ => ?_) (by simp)
        refine AWp.step [0, 1, 5, 6] [0, 1] [(0, .bs 0 0 l.length cap), (1, .fn g [] [.ptr 1 0]), (5, .i .i64 ((l.take (i0 + 1 + j)).filter fun x => !p x).length), (6, .i .i64 (i0 + 1 + j))] [(0, boxR dotC (c.set ((l.take (i0 + 1 + j)).filter fun x => !p x).length l[i0 + 1 + j]) pad), (1, cs)] ?_ ?_
        · have hs := dotR_set c pad ((l.take (i0 + 1 + j)).filter fun x => !p x).length (by omega) l[i0 + 1 + j]
          simp [hC, hL, hcs, hs]
          omega
        refine AWp.goLast [0, 1, 5, 6] [0, 1] fun K hK => ?_
        simp [hC, hcs]
        first | refine hK _ _ ?_ | refine ⟨by omega, hK _ _ ?_⟩ | refine ⟨by omega, by omega, hK _ _ ?_⟩
        clear hK K
        show AWp _ _ _ _
        refine AWp.goLast [0, 1, 5, 6] [0, 1] fun K hK => ?_
        simp [hC, hcs]
        first | refine hK _ _ ?_ | refine ⟨by omega, hK _ _ ?_⟩ | refine ⟨by omega, by omega, hK _ _ ?_⟩
        clear hK K
        have hcn : (l.take (i0 + 1 + (j + 1))).filter (fun x => !p x) = (l.take (i0 + 1 + j)).filter (fun x => !p x) ++ [l[i0 + 1 + j]] := by
          rw [show i0 + 1 + (j + 1) = i0 + 1 + j + 1 by omega, List.take_succ_eq_append_getElem h, List.filter_append]
          simp [hp2]
        refine ⟨(j + 1, c.set ((l.take (i0 + 1 + j)).filter fun x => !p x).length l[i0 + 1 + j]), ⟨by simpa using hcl, by dsimp only; omega, ?_, ?_, ?_⟩, by dsimp only; omega, ?_⟩
        · dsimp only; rw [hcn]; simp; omega
        · dsimp only; rw [hcn, List.length_append, List.length_singleton, List.take_succ_eq_append_getElem (by simp; omega), List.getElem_set_self, List.take_set_of_le (Nat.le_refl _), hj3]
        · intro k hk
          dsimp only at hk
          rw [List.getElem?_set_ne (by omega)]
          exact hj4 k (by omega)
        · simp [hC, hcs, v1, v3, hcn]
          omega
      · refine AWp.cond (t := false) (by simp) (by simp) (fun _ => ?_)
        refine AWp.skip ?_
        show AWp _ _ _ _
        refine AWp.goLast [0, 1, 5, 6] [0, 1] fun K hK => ?_
        simp [hC, hcs]
        first | refine hK _ _ ?_ | refine ⟨by omega, hK _ _ ?_⟩ | refine ⟨by omega, by omega, hK _ _ ?_⟩
        clear hK K
        have hcn : (l.take (i0 + 1 + (j + 1))).filter (fun x => !p x) = (l.take (i0 + 1 + j)).filter (fun x => !p x) := by
          rw [show i0 + 1 + (j + 1) = i0 + 1 + j + 1 by omega, List.take_succ_eq_append_getElem h, List.filter_append]
          simp [hp2]
        refine ⟨(j + 1, c), ⟨hcl, by dsimp only; omega, ?_, ?_, ?_⟩, by dsimp only; omega, ?_⟩
        · dsimp only; rw [hcn]; omega
        · dsimp only; rw [hcn]; exact hj3
        · intro k hk
          exact hj4 k (by dsimp only at hk; omega)
        · simp [hC, hcs, v1, hcn]
          omega
    · refine AWp.cond (t := false) (by first | (simp; done) | (simp; omega)) (by simp) (fun _ => ?_)
      refine AWp.exit ?_
      show AWp _ _ _ _
      have hjn : i0 + 1 + j = l.length := by omega
      rw [hjn, List.take_length] at hk3 hj3 ⊢
      have hcl2 := boxR_clear dotC_ok c pad (zerosL [.i .i64 0, .i .i64 0] (l.length - (l.filter fun x => !p x).length)) (l.filter fun x => !p x).length (by omega) (by rw [zerosL_length, hcl]; rfl)
      rw [hj3] at hcl2
      refine AWp.step [0, 5] [0, 1] [(0, .bs 0 0 l.length cap), (5, .i .i64 (l.filter fun x => !p x).length)] [(0, boxR dotC (l.filter fun x => !p x) (zerosL [.i .i64 0, .i .i64 0] (l.length - (l.filter fun x => !p x).length) ++ pad)), (1, cs)] ?_ ?_
      · simp [hL, hcs, show ¬ cap = (l.filter fun x => !p x).length by omega, zerosL_length] at hcl2 ⊢
        simp [hcl2, hC2]
        refine ⟨by omega, by omega, (((hC c).drop _).take _).freeL⟩
      refine AWp.go [4] [0, 1] fun K hK => ?_
      simp [hcs]
      refine ⟨by omega, hK _ _ ?_⟩
      clear hK K
      refine AWp.ret ?_
      simp [hC2, hcs]
      intro id cs1 hid
      rw [hid]
      have hc1 : Calm cs1 := by
        split at hid
        · cases hid; exact hC2 _ _
        · split at hid
          · cases hid; exact hcs
          · cases hid
      exact ⟨AV.fitsL_refl _, by simpa using hc1.still⟩

theorem c_IndexFunc_Dot_0 (g : Nat) (cs : List AV) (hcs : Calm cs) : Proc Try.prog 1 107 [.sl .fro 2 [], .fn g [] [.ptr 0 0]] [(0, cs)] (.i .i64 (-1)) [(0, cs)] := by
  refine proc_of (cxb Try.prog 19 1 [0, 1, 4, 5, 7, 8, 9, 16] [] [4]) 17 [.tmp 4] Try.func107 rfl rfl rfl rfl rfl rfl (Nat.le_refl _) rfl ?_
  refine AWp.go [0, 1] [0] fun K hK => ?_
  simp [hcs]
  first | refine hK _ _ ?_ | refine ⟨by omega, hK _ _ ?_⟩ | refine ⟨by omega, by omega, hK _ _ ?_⟩
  clear hK K
  refine AWp.seq ?_
  refine AWp.go [0, 1, 7, 8] [0] fun K hK => ?_
  simp [hcs]
  first | refine hK _ _ ?_ | refine ⟨by omega, hK _ _ ?_⟩ | refine ⟨by omega, by omega, hK _ _ ?_⟩
  clear hK K
  refine AWp.block (AWp.while (fun i : Nat => [(0, .sl .fro 2 []), (1, .fn g [] [.ptr 0 0]), (7, .i .i64 0), (8, .i .i64 0)]) (fun i => [(0, cs)]) (fun i => True) (fun i => 0) [0, 1, 7, 8] [0] 0 (by simp) (by simp [hcs]) ?_)
  intro i hi
  refine AWp.go [0, 1, 7, 8, 9] [0] fun K hK => ?_
  simp [hcs]
  first | refine hK _ _ ?_ | refine ⟨by omega, hK _ _ ?_⟩ | refine ⟨by omega, by omega, hK _ _ ?_⟩
  clear hK K
  refine AWp.seq ?_
  refine AWp.cond (t := false) (by first | (simp; done) | (simp; omega)) (by simp) (fun _ => ?_)
  refine AWp.exit ?_
  show AWp _ _ _ _
  refine AWp.go [4] [0] fun K hK => ?_
  simp [hcs]
  first | refine hK _ _ ?_ | refine ⟨by omega, hK _ _ ?_⟩ | refine ⟨by omega, by omega, hK _ _ ?_⟩
  clear hK K
  refine AWp.ret ?_
  simp [hcs]
  simpa using hcs.still

theorem c_DeleteFunc_Dot_0 (g : Nat) (cs : List AV) (hcs : Calm cs) : Proc Try.prog 1 82 [.sl .nl 2 [], .fn g [] [.ptr 0 0]] [(0, cs)] (.sl .nl 2 []) [(0, cs)] := by
  refine proc_of (cxb Try.prog 42 1 [0, 1, 4, 5, 6, 7, 12, 19, 29] [] [4]) 40 [.tmp 4] Try.func82 rfl rfl rfl rfl rfl rfl (Nat.le_refl _) rfl ?_
  refine AWp.go [0, 1] [0] fun K hK => ?_
  simp [hcs]
  first | refine hK _ _ ?_ | refine ⟨by omega, hK _ _ ?_⟩ | refine ⟨by omega, by omega, hK _ _ ?_⟩
  clear hK K
  refine AWp.go [0, 1, 5] [0] fun K hK => ?_
  simp
  refine call_proc [(0, 0)] none (c_IndexFunc_Dot_0 g cs hcs) (by simp) (by simp) ?_
  simp [hcs]
  refine ⟨by simpa using hcs.still, hK _ _ ?_⟩
  clear hK K
  refine AWp.seq ?_
  refine AWp.go [0, 1, 5, 12] [0] fun K hK => ?_
  simp [hcs]
  first | refine hK _ _ ?_ | refine ⟨by omega, hK _ _ ?_⟩ | refine ⟨by omega, by omega, hK _ _ ?_⟩
  clear hK K
  refine AWp.cond (t := true) (by first | (simp; done) | (simp; omega)) (fun _ => ?_) (by simp)
  refine AWp.go [4] [0] fun K hK => ?_
  simp [hcs]
  first | refine hK _ _ ?_ | refine ⟨by omega, hK _ _ ?_⟩ | refine ⟨by omega, by omega, hK _ _ ?_⟩
  clear hK K
  refine AWp.ret ?_
  simp [hcs]
  simpa using hcs.still

set_option maxRecDepth 8000 in
theorem c_rwset_unknown1 (c : List Int) (hc : c.length ≤ 1000000) (d : Dot) : Proc Try.prog 1 83 [.agg (dotC d), .ptr 0 0] [(0, [.sl .fro 1 (intsAV c)])] (.b (decide (d.2 ≤ getC c d.1))) [(0, [.sl .fro 1 (intsAV c)])] := by
  refine proc_of (cxb Try.prog 11 1 [1, 2, 3] [] [3]) 9 [.tmp 3] Try.func83 rfl rfl rfl rfl rfl rfl (Nat.le_refl _) rfl ?_
  refine AWp.go [1, 2] [0, 3] fun K hK => ?_
  simp [dotC]
  first | refine hK _ _ ?_ | refine ⟨by omega, hK _ _ ?_⟩ | refine ⟨by omega, by omega, hK _ _ ?_⟩
  clear hK K
  have g1 := c102 c d.1 (by omega)
  refine AWp.goD 8 (fun _ => .i .i64 (getC c d.1)) [3] [0] mix (by kernel_rfl) fun K hK => ?_
  simp [g1]
  refine hK _ _ ?_
  clear hK K
  refine AWp.ret ?_
  simp

theorem dots_dat2 (l : List Dot) : ((dotsAV l).flatten.all fun c => c.data && c.cellOk) = true := by
  rw [List.all_eq_true]
  intro c hc
  obtain ⟨y, hy, hc⟩ := List.mem_flatten.1 hc
  obtain ⟨x, _, rfl⟩ := List.mem_map.1 hy
  simp [dotC] at hc
  rcases hc with rfl | rfl <;> rfl

/-- The dots that a clock has not. -/
def leftD (l : List Dot) (c : List Int) : List Dot := l.filter fun d => !decide (d.2 ≤ getC c d.1)

set_option maxRecDepth 8000 in
set_option maxHeartbeats 1000000 in
theorem c_rwset_unknown (l : List Dot) (c : List Int) (hl : l.length ≤ 1000000) (hc : c.length ≤ 1000000) : Pure Try.prog 50 [.sl .fro 2 (dotsAV l), .sl .fro 1 (intsAV c)] (.sl .own 2 (dotsAV (leftD l c))) := by
  refine proc_of (cx Try.prog 9 [0, 3, 4] [4]) 7 [.tmp 4] Try.func50 rfl rfl rfl rfl rfl rfl (Nat.le_refl _) rfl ?_
  refine AWp.go [0, 3] [3] fun K hK => ?_
  simp
  first | refine hK _ _ ?_ | refine ⟨by omega, hK _ _ ?_⟩ | refine ⟨by omega, by omega, hK _ _ ?_⟩
  clear hK K
  have hcs : Calm [AV.sl .fro 1 (intsAV c)] := fun x hx => by simp at hx; subst hx; rfl
  refine AWp.goS [4] [] fun K hK => ?_
  refine SOps.cut 2 rfl fun K' hK' => ?_
  simp
  refine call_pure (c_Clone_Dot (dotsAV l) (by simp; omega)) (by simp) ?_
  simp
  refine hK' _ _ ?_
  clear hK'
  refine SOps.unown0 6 100 rfl (by simp) rfl (by simp) (fun h0 => ?_) fun cap hcap => ?_
  · have h0 : l = [] := by simpa [dotsAV] using h0
    subst h0
    simp
    refine SOps.cut 3 rfl fun K' hK' => ?_
    simp
    refine call_procK [(0, 3)] none (c_DeleteFunc_Dot_0 83 _ hcs) (by simp) (by simp) ?_
    simp
    refine hK' _ _ (SOps.nil ?_)
    simp
    refine hK _ _ (AWp.ret ?_)
    simp [leftD]
  simp at hcap
  have hcc : Calm (boxR dotC l (List.replicate ((cap - l.length) * 2) AV.any)) := boxR_calm dotC_ok (Calm.replicate _ rfl)
  have hdf := c_DeleteFuncB_Dot l (List.replicate ((cap - l.length) * 2) AV.any) cap 83 (fun d => decide (d.2 ≤ getC c d.1)) _ hcap (Calm.replicate _ rfl) (by simp) hcs (fun n => c_rwset_unknown1 c hc n) hl
  have e0 : (dotsAV l).flatten ++ List.replicate ((cap - l.length) * 2) AV.any = boxR dotC l (List.replicate ((cap - l.length) * 2) AV.any) := rfl
  have hst := (boxR_calm (l := leftD l c) dotC_ok ((Calm.zeros (zero := [AV.i .i64 0, AV.i .i64 0]) (fun c hc => by simp at hc; subst hc; rfl) (l.length - (leftD l c).length)).append (Calm.replicate ((cap - l.length) * 2) (x := AV.any) rfl)))
  have hlf : (leftD l c).length ≤ l.length := List.length_filter_le _ _
  have hrl := rows_len dotC_ok (leftD l c)
  rw [show (l.filter fun d => !decide (d.2 ≤ getC c d.1)) = leftD l c from rfl] at hdf
  simp [e0]
  refine SOps.cut 2 rfl fun K2 hK2 => ?_
  simp
  refine call_proc [(0, 100), (1, 3)] none hdf (by simp) (by simp) ?_
  simp [hcc, hst]
  refine ⟨by simpa using hcc.still, by simpa using hst.still, hK2 _ _ ?_⟩
  refine SOps.reown 8 100 cap (sz := 2) (dotsAV (leftD l c)) (zerosL [.i .i64 0, .i .i64 0] (l.length - (leftD l c).length) ++ List.replicate ((cap - l.length) * 2) AV.any) (by simp) (by simp) rfl ?_ (fun z hz => ?_) (dots_dat2 _) hst.freeL ?_
  · have h5 : ((dotsAV (leftD l c)).flatten).length = (leftD l c).length * 2 := hrl
    simp only [List.length_append, zerosL_length, List.length_replicate, h5]
    simp; omega
  · obtain ⟨x, _, rfl⟩ := List.mem_map.1 hz; rfl
  simp
  refine SOps.cut 1 rfl fun K3 hK3 => ?_
  simp
  refine hK3 _ _ (SOps.nil ?_)
  simp
  refine hK _ _ ?_
  clear hK3 hK2 hK K
  refine AWp.ret ?_
  simp
end Go.AM
namespace Go.AM

/-! ### clocks -/
def okN (n : Int) : Prop := 0 ≤ n ∧ n ≤ 1048576

theorem clockOk_iff (c : List Int) : clockOk c = true ↔ c.length ≤ 5 ∧ ∀ n ∈ c, okN n := by
  simp only [clockOk, Bool.and_eq_true, decide_eq_true_eq, Bool.not_eq_true', List.any_eq_false]
  refine and_congr Iff.rfl ⟨fun h n hn => ?_, fun h n hn => ?_⟩
  · have := h n hn
    simp [badN] at this
    exact this
  · have := h n hn
    simp [badN, okN] at this ⊢
    exact this

theorem plainN_zero (f : List Int) : ∀ n k, plainN f n ≤ k → k < n → f.getD k 0 = 0
  | 0, k, _, h => by omega
  | n + 1, k, h1, h2 => by
    unfold plainN at h1
    split at h1
    · rename_i h0
      by_cases hk : k = n
      · rw [hk]; exact h0
      · exact plainN_zero f n k h1 (by omega)
    · omega

theorem plainN_last (f : List Int) : ∀ n, 0 < plainN f n → f.getD (plainN f n - 1) 0 ≠ 0
  | 0, h => by simp [plainN] at h
  | n + 1, h => by
    unfold plainN at h ⊢
    split
    · rename_i h0
      rw [if_pos h0] at h
      exact plainN_last f n h
    · rename_i h0
      simpa using h0

theorem ofL_plainL {f : List Int} (hf : f.length = 5) (hok : ∀ n ∈ f, okN n) : clockOk (plainL f) = true ∧ ofL (plainL f) = f := by
  have h5 := plainN_le f 5
  have hc : clockOk (plainL f) = true := by
    rw [clockOk_iff]
    refine ⟨plainL_len5 f, fun n hn => hok n (List.mem_of_mem_take hn)⟩
  refine ⟨hc, ?_⟩
  unfold ofL
  rw [if_pos hc]
  have hl : (plainL f).length = plainN f 5 := by unfold plainL; rw [List.length_take]; omega
  apply List.ext_getElem
  · rw [List.length_append, hl, List.length_replicate, hf]; omega
  · intro i h1 h2
    by_cases hi : i < plainN f 5
    · rw [List.getElem_append_left (by omega)]
      simp [plainL]
    · rw [List.getElem_append_right (by omega), List.getElem_replicate]
      have := plainN_zero f 5 i (by omega) (by omega)
      rw [List.getD_eq_getElem?_getD, List.getElem?_eq_getElem h2] at this
      exact this.symm

theorem ofL_ok (c : List Int) : (ofL c).length = 5 ∧ ∀ n ∈ ofL c, okN n := by
  refine ⟨ofL_length c, fun n hn => ?_⟩
  unfold ofL at hn
  split at hn
  · rename_i h
    rw [clockOk_iff] at h
    rcases List.mem_append.1 hn with h1 | h1
    · exact h.2 n h1
    · rw [List.eq_of_mem_replicate h1]; exact ⟨by omega, by omega⟩
  · simp at hn; subst hn; exact ⟨by omega, by omega⟩

/-- Two lists of five are the same if they are at each place. -/
theorem five_ext {f g : List Int} (hf : f.length = 5) (hg : g.length = 5) (h : ∀ k, k < 5 → f.getD k 0 = g.getD k 0) : f = g := by
  apply List.ext_getElem (by omega)
  intro i h1 h2
  have := h i (by omega)
  rw [List.getD_eq_getElem?_getD, List.getD_eq_getElem?_getD, List.getElem?_eq_getElem h1, List.getElem?_eq_getElem h2] at this
  exact this

/-- A plain clock. -/
def Pl (u : List Int) : Prop := clockOk u = true ∧ plainL (ofL u) = u

theorem Pl.plain {f : List Int} (hf : f.length = 5) (hok : ∀ n ∈ f, okN n) : Pl (plainL f) := by
  obtain ⟨h1, h2⟩ := ofL_plainL hf hok
  exact ⟨h1, by rw [h2]⟩
theorem Pl.of (c : List Int) : Pl (plainL (ofL c)) := Pl.plain (ofL_ok c).1 (ofL_ok c).2

theorem Pl.ext {u v : List Int} (hu : Pl u) (hv : Pl v) (h : ∀ rep, 1 ≤ rep → rep ≤ 5 → getC u rep = getC v rep) : u = v := by
  rw [← hu.2, ← hv.2]
  congr 1
  refine five_ext (ofL_length u) (ofL_length v) fun k hk => ?_
  have := h (k + 1) (by omega) (by omega)
  rwa [getC_at u k hk, getC_at v k hk] at this

theorem getC_plainL {f : List Int} (hf : f.length = 5) (hok : ∀ n ∈ f, okN n) (rep : Int) : getC (plainL f) rep = if 1 ≤ rep ∧ rep ≤ 5 then f.getD (rep - 1).toNat 0 else 0 := by
  unfold getC
  rw [(ofL_plainL hf hok).2]
theorem getC_plain (c : List Int) (rep : Int) : getC (plainL (ofL c)) rep = getC c rep := by
  rw [getC_plainL (ofL_ok c).1 (ofL_ok c).2]
  rfl

theorem set_ok (c : List Int) (k : Nat) (n : Int) (hn : okN n) : ((ofL c).set k n).length = 5 ∧ ∀ m ∈ (ofL c).set k n, okN m := by
  refine ⟨by rw [List.length_set, ofL_length], fun m hm => ?_⟩
  rcases List.mem_or_eq_of_mem_set hm with h | h
  · exact (ofL_ok c).2 m h
  · rw [h]; exact hn
theorem setC_pl (u : List Int) {r n : Int} (hr : 1 ≤ r ∧ r ≤ 5) (hn : okN n) : Pl (setC u r n) := by
  unfold setC
  rw [if_pos ⟨hr, hn⟩]
  exact Pl.plain (set_ok u _ n hn).1 (set_ok u _ n hn).2
theorem getC_setC (u : List Int) {r n : Int} (hr : 1 ≤ r ∧ r ≤ 5) (hn : okN n) (q : Int) : getC (setC u r n) q = if q = r then n else getC u q := by
  unfold setC
  rw [if_pos ⟨hr, hn⟩, getC_plainL (set_ok u _ n hn).1 (set_ok u _ n hn).2]
  by_cases hq : 1 ≤ q ∧ q ≤ 5
  · rw [if_pos hq]
    have hlen := ofL_length u
    by_cases he : q = r
    · subst he
      rw [if_pos rfl, List.getD_eq_getElem?_getD, List.getElem?_set_self (by omega)]
      rfl
    · rw [if_neg he, List.getD_eq_getElem?_getD, List.getElem?_set_ne (by omega)]
      unfold getC
      rw [if_pos hq, List.getD_eq_getElem?_getD]
  · rw [if_neg hq, if_neg (by omega)]
    unfold getC
    rw [if_neg hq]

/-- The document's set is the program's. -/
theorem refSet_eq (u : List Int) {r n : Int} (hr : 1 ≤ r ∧ r ≤ 5) (hn : okN n) : plainL (ofL ((List.range 5).map fun k : Nat => if (k : Int) + 1 = r then n else getC u (k + 1))) = setC u r n := by
  unfold setC
  rw [if_pos ⟨hr, hn⟩]
  congr 1
  have hf : ∀ m ∈ ((List.range 5).map fun k : Nat => if (k : Int) + 1 = r then n else getC u (k + 1)), okN m := by
    intro m hm
    obtain ⟨k, hk, rfl⟩ := List.mem_map.1 hm
    split
    · exact hn
    · exact getC_range u _
  have e : ofL ((List.range 5).map fun k : Nat => if (k : Int) + 1 = r then n else getC u (k + 1)) = (List.range 5).map fun k : Nat => if (k : Int) + 1 = r then n else getC u (k + 1) := by
    unfold ofL
    rw [if_pos]
    · simp
    · rw [clockOk_iff]; exact ⟨by simp, hf⟩
  rw [e]
  refine five_ext (by simp) (by rw [List.length_set, ofL_length]) fun k hk => ?_
  rw [List.getD_eq_getElem?_getD, List.getElem?_map, List.getElem?_range hk]
  simp only [Option.map_some, Option.getD_some]
  rw [getC_at u k hk]
  have hlen := ofL_length u
  by_cases he : (k : Int) + 1 = r
  · subst he
    rw [if_pos rfl, List.getD_eq_getElem?_getD, show ((k : Int) + 1 - 1).toNat = k by omega, List.getElem?_set_self (by omega)]
    rfl
  · rw [if_neg he, List.getD_eq_getElem?_getD, List.getD_eq_getElem?_getD, List.getElem?_set_ne (by omega)]

/-! ### order -/
def LT (a b : Dot) : Prop := a.1 < b.1 ∨ a.1 = b.1 ∧ a.2 < b.2
theorem ltD_iff (a b : Dot) : ltD a b = true ↔ LT a b := by simp [ltD, LT]
theorem LT.trans {a b c : Dot} (h1 : LT a b) (h2 : LT b c) : LT a c := by unfold LT at *; omega
theorem LT.irrefl (a : Dot) : ¬ LT a a := by unfold LT; omega
theorem LT.tri (a b : Dot) : LT a b ∨ a = b ∨ LT b a := by
  unfold LT
  rcases a with ⟨a1, a2⟩
  rcases b with ⟨b1, b2⟩
  simp only [Prod.mk.injEq]
  omega
abbrev Sorted (l : List Dot) : Prop := l.Pairwise LT

theorem Sorted.ext : ∀ {l m : List Dot}, Sorted l → Sorted m → (∀ d, d ∈ l ↔ d ∈ m) → l = m
  | [], [], _, _, _ => rfl
  | [], y :: m, _, _, h => by have := (h y).2 (by simp); simp at this
  | x :: l, [], _, _, h => by have := (h x).1 (by simp); simp at this
  | x :: l, y :: m, h1, h2, h => by
    rw [Sorted, List.pairwise_cons] at h1 h2
    have hxy : x = y := by
      rcases LT.tri x y with h3 | h3 | h3
      · exfalso
        rcases List.mem_cons.1 ((h x).1 (by simp)) with h4 | h4
        · subst h4; exact LT.irrefl _ h3
        · exact LT.irrefl _ ((h2.1 x h4).trans h3)
      · exact h3
      · exfalso
        rcases List.mem_cons.1 ((h y).2 (by simp)) with h4 | h4
        · subst h4; exact LT.irrefl _ h3
        · exact LT.irrefl _ ((h1.1 y h4).trans h3)
    subst hxy
    congr 1
    refine Sorted.ext h1.2 h2.2 fun d => ⟨fun hd => ?_, fun hd => ?_⟩
    · rcases List.mem_cons.1 ((h d).1 (by simp [hd])) with h4 | h4
      · subst h4; exact absurd (h1.1 d hd) (LT.irrefl _)
      · exact h4
    · rcases List.mem_cons.1 ((h d).2 (by simp [hd])) with h4 | h4
      · subst h4; exact absurd (h2.1 d hd) (LT.irrefl _)
      · exact h4

theorem mem_putD (l : List Dot) (d x : Dot) : x ∈ putD l d ↔ x ∈ l ∨ x = d := by
  induction l with
  | nil => simp [putD]
  | cons y l ih =>
    unfold putD
    split
    · simp [ih, or_assoc]
    · split
      · rename_i h; subst h
        simp
        intro h; exact .inl h
      · simp; constructor
        · rintro (h | h | h) <;> simp [h]
        · rintro ((h | h) | h) <;> simp [h]
theorem sorted_putD {l : List Dot} (h : Sorted l) (d : Dot) : Sorted (putD l d) := by
  induction l with
  | nil => simp [putD, Sorted]
  | cons y l ih =>
    rw [Sorted, List.pairwise_cons] at h
    unfold putD
    split
    · rename_i hl
      rw [ltD_iff] at hl
      rw [Sorted, List.pairwise_cons]
      refine ⟨fun a ha => ?_, ih h.2⟩
      rcases (mem_putD l d a).1 ha with h1 | h1
      · exact h.1 a h1
      · subst h1; exact hl
    · rename_i hl
      rw [ltD_iff] at hl
      split
      · rw [Sorted, List.pairwise_cons]; exact h
      · rename_i hne
        rw [Sorted, List.pairwise_cons]
        refine ⟨fun a ha => ?_, by rw [List.pairwise_cons]; exact h⟩
        have hdy : LT d y := by
          rcases LT.tri y d with h1 | h1 | h1
          · exact absurd h1 hl
          · exact absurd h1 hne
          · exact h1
        rcases List.mem_cons.1 ha with h1 | h1
        · subst h1; exact hdy
        · exact hdy.trans (h.1 a h1)
theorem ordD_spec (l : List Dot) : Sorted (ordD l) ∧ ∀ d, d ∈ ordD l ↔ d ∈ l := by
  have key : ∀ (l m : List Dot), Sorted m → Sorted (l.foldl putD m) ∧ ∀ d, d ∈ l.foldl putD m ↔ d ∈ m ∨ d ∈ l := by
    intro l
    induction l with
    | nil => intro m h; exact ⟨h, fun d => by simp⟩
    | cons x l ih =>
      intro m h
      obtain ⟨h1, h2⟩ := ih (putD m x) (sorted_putD h x)
      refine ⟨h1, fun d => ?_⟩
      rw [List.foldl_cons, h2, mem_putD, List.mem_cons, or_assoc]
  obtain ⟨h1, h2⟩ := key l [] (by simp [Sorted])
  exact ⟨h1, fun d => by have := h2 d; simpa [ordD] using this⟩

def LE (a b : Dot) : Prop := ¬ LT b a
theorem sortD_sorted (l : List Dot) : (sortD l).Pairwise LE ∧ ∀ d, d ∈ sortD l ↔ d ∈ l := by
  refine ⟨?_, fun d => by simp [sortD]⟩
  have := List.pairwise_mergeSort (le := fun x y => !ltD y x) (fun a b c h1 h2 => by
      simp only [Bool.not_eq_true', ← Bool.not_eq_true, ltD_iff] at *
      intro h
      rcases LT.tri b c with h3 | h3 | h3
      · exact h1 (h3.trans h)
      · subst h3; exact h1 h
      · exact h2 h3) (fun a b => by
      simp only [Bool.or_eq_true, Bool.not_eq_true', ← Bool.not_eq_true, ltD_iff]
      rcases LT.tri a b with h | h | h
      · exact .inl fun h2 => LT.irrefl _ (h.trans h2)
      · subst h; exact .inl (LT.irrefl _)
      · exact .inr fun h2 => LT.irrefl _ (h.trans h2)) l
  refine this.imp fun {a b} h => ?_
  simp only [Bool.not_eq_true', ← Bool.not_eq_true, ltD_iff] at h
  exact h

theorem compN_spec {l : List Dot} (h : l.Pairwise LE) : ∀ i, i ≤ l.length → Sorted (compN l i) ∧ (∀ d, d ∈ compN l i ↔ d ∈ l.take i)
  | 0, _ => ⟨by simp [compN, Sorted], fun d => by simp [compN]⟩
  | i + 1, hi => by
    obtain ⟨h1, h2⟩ := compN_spec h i (by omega)
    have hl : i < l.length := by omega
    have hx : l[i]? = some l[i] := List.getElem?_eq_getElem hl
    have htk : l.take (i + 1) = l.take i ++ [l[i]] := List.take_succ_eq_append_getElem hl
    unfold compN
    rw [hx]
    simp only
    split
    · rename_i hc
      refine ⟨h1, fun d => ?_⟩
      rw [h2, htk, List.mem_append, List.mem_singleton]
      refine ⟨.inl, fun hd => hd.elim id fun hd => ?_⟩
      subst hd
      have hp : i - 1 < l.length := by omega
      have := hc.2
      rw [List.getElem?_eq_getElem hp] at this
      rw [← Option.some.inj this]
      rw [List.mem_take_iff_getElem]
      exact ⟨i - 1, by omega, rfl⟩
    · rename_i hc
      refine ⟨?_, fun d => by rw [List.mem_append, h2, htk, List.mem_append]⟩
      rw [Sorted, List.pairwise_append]
      refine ⟨h1, by simp, fun a ha b hb => ?_⟩
      simp at hb
      subst hb
      rw [h2, List.mem_take_iff_getElem] at ha
      obtain ⟨k, hk, rfl⟩ := ha
      have hki : k < i := by omega
      rw [List.pairwise_iff_getElem] at h
      rcases LT.tri l[k] l[i] with h3 | h3 | h3
      · exact h3
      · exfalso
        refine hc ⟨by omega, ?_⟩
        have hp : i - 1 < l.length := by omega
        rw [List.getElem?_eq_getElem hp]
        have h4 : LE l[i - 1] l[i] := h (i - 1) i hp hl (by omega)
        have h5 : LE l[k] l[i - 1] := by
          by_cases he : k = i - 1
          · subst he; exact LT.irrefl _
          · exact h k (i - 1) (by omega) hp (by omega)
        rcases LT.tri l[i - 1] l[i] with h6 | h6 | h6
        · rw [← h3] at h6; exact absurd h6 h5
        · rw [h6]
        · exact absurd h6 h4
      · exact absurd h3 (h k i (by omega) hl hki)
theorem ordP_spec (l : List Dot) : Sorted (ordP l) ∧ ∀ d, d ∈ ordP l ↔ d ∈ l := by
  obtain ⟨h1, h2⟩ := sortD_sorted l
  obtain ⟨h3, h4⟩ := compN_spec h1 (sortD l).length (Nat.le_refl _)
  refine ⟨h3, fun d => ?_⟩
  have := h4 d
  rw [List.take_length, h2] at this
  exact this
theorem ordP_eq (l : List Dot) : ordP l = ordD l := Sorted.ext (ordP_spec l).1 (ordD_spec l).1 fun d => by rw [(ordP_spec l).2, (ordD_spec l).2]
theorem ordP_sorted {l : List Dot} (h : Sorted l) : ordP l = l := Sorted.ext (ordP_spec l).1 h (ordP_spec l).2
end Go.AM
namespace Go.AM
open Go.Proofs

structure Entry where
  key : ByteArray
  live : List Dot
  dead : List Dot
def entC (e : Entry) : List AV := [.s e.key, .sl .fro 2 (dotsAV e.live), .sl .fro 2 (dotsAV e.dead)]
def entsAV (l : List Entry) : List (List AV) := l.map entC
@[simp] theorem entsAV_length (l : List Entry) : (entsAV l).length = l.length := by simp [entsAV]
@[simp] theorem entsAV_getElem (l : List Entry) (i : Nat) (h : i < (entsAV l).length) : (entsAV l)[i] = [.s (l[i]'(by simpa using h)).key, .sl .fro 2 (dotsAV (l[i]'(by simpa using h)).live), .sl .fro 2 (dotsAV (l[i]'(by simpa using h)).dead)] := by simp [entsAV, entC]

def eqK (a b : ByteArray) : Bool := a.toList == b.toList
def ltK (a b : ByteArray) : Bool := Op.bytesLess a.toList b.toList
def leK (a b : ByteArray) : Bool := ltK a b || eqK a b
def keyOk (k : ByteArray) : Bool := !eqK k ByteArray.empty && decide ((k.size : Int) ≤ 32)

theorem c_rwset_right (k : ByteArray) : Pure Try.prog 55 [.s k] (.b (keyOk k)) := by
  refine proc_of (cx Try.prog 10 [0, 2] [2]) 9 [.tmp 2] Try.func55 rfl rfl rfl rfl rfl rfl (Nat.le_refl _) rfl ?_
  refine AWp.go [0] [] fun K hK => ?_
  simp
  first | refine hK _ _ ?_ | refine ⟨by omega, hK _ _ ?_⟩ | refine ⟨by omega, by omega, hK _ _ ?_⟩
  clear hK K
  refine AWp.step [2] [] [(2, .b (keyOk k))] [] ?_ ?_
  · by_cases h1 : k.toList = [] <;> by_cases h2 : (k.size : Int) ≤ 32 <;> simp [h1, h2, keyOk, eqK]
  refine AWp.ret ?_
  simp

theorem c_ref08_Key (k : ByteArray) : Pure Try.prog 17 [.s k] (.b (keyOk k)) := by
  refine proc_of (cx Try.prog 10 [0, 2] [2]) 9 [.tmp 2] Try.func17 rfl rfl rfl rfl rfl rfl (Nat.le_refl _) rfl ?_
  refine AWp.go [0] [] fun K hK => ?_
  simp
  first | refine hK _ _ ?_ | refine ⟨by omega, hK _ _ ?_⟩ | refine ⟨by omega, by omega, hK _ _ ?_⟩
  clear hK K
  refine AWp.step [2] [] [(2, .b (keyOk k))] [] ?_ ?_
  · by_cases h1 : k.toList = [] <;> by_cases h2 : (k.size : Int) ≤ 32 <;> simp [h1, h2, keyOk, eqK]
  refine AWp.ret ?_
  simp

/-- May the i-th dot stand there? -/
def rowOk (l : List Dot) (i : Nat) : Bool := match l[i]? with
  | some d => mayD d && (!decide (0 < i) || ltD (l.getD (i - 1) (0, 0)) d)
  | none => false
def rowsB (l : List Dot) : Bool := (List.range l.length).all (rowOk l)

set_option maxRecDepth 8000 in
set_option maxHeartbeats 1000000 in
theorem c_rwset_rows (l : List Dot) (hlen : l.length ≤ 1000000) : Pure Try.prog 56 [.sl .fro 2 (dotsAV l)] (.b (rowsB l)) := by
  refine proc_of (cx Try.prog 30 [0, 2, 3, 4, 5, 6, 7, 8, 28] [2]) 29 [.tmp 2] Try.func56 rfl rfl rfl rfl rfl rfl (Nat.le_refl _) rfl ?_
  refine AWp.go [0] [] fun K hK => ?_
  simp
  first | refine hK _ _ ?_ | refine ⟨by omega, hK _ _ ?_⟩ | refine ⟨by omega, by omega, hK _ _ ?_⟩
  clear hK K
  refine AWp.seq ?_
  refine AWp.go [0, 5, 6, 7] [] fun K hK => ?_
  simp
  first | refine hK _ _ ?_ | refine ⟨by omega, hK _ _ ?_⟩ | refine ⟨by omega, by omega, hK _ _ ?_⟩
  clear hK K
  refine AWp.block (AWp.while (fun i : Nat => [(0, .sl .fro 2 (dotsAV l)), (5, .sl .fro 2 (dotsAV l)), (6, .i .i64 l.length), (7, .i .i64 i)]) (fun i => []) (fun i => i ≤ l.length ∧ ∀ k, k < i → rowOk l k = true) (fun i => l.length - i) [0, 5, 6, 7] [] 0 (by simp) (by simp) ?_)
  rintro i ⟨hi, hall⟩
  refine AWp.go [0, 5, 6, 7, 8] [] fun K hK => ?_
  simp
  first | refine hK _ _ ?_ | refine ⟨by omega, hK _ _ ?_⟩ | refine ⟨by omega, by omega, hK _ _ ?_⟩
  clear hK K
  refine AWp.seq ?_
  by_cases h : i < l.length
  · refine AWp.cond (t := true) (by first | (simp [h]; done) | (simp [h]; omega)) (fun _ => ?_) (by simp)
    refine AWp.skip ?_
    show AWp _ _ _ _
    refine AWp.seq ?_
    refine AWp.block ?_
    refine AWp.go [0, 3, 4, 5, 6, 7] [4] fun K hK => ?_
    simp [h]
    first | refine hK _ _ ?_ | refine ⟨by omega, hK _ _ ?_⟩ | refine ⟨by omega, by omega, hK _ _ ?_⟩
    clear hK K
    refine AWp.stepD 17 (fun k => if k = 1 then .b (mayD l[i]) else if k = 13 then .b (ltD (l.getD (i - 1) (0, 0)) l[i]) else .any) [0, 5, 6, 7, 28] [] [(0, .sl .fro 2 (dotsAV l)), (5, .sl .fro 2 (dotsAV l)), (6, .i .i64 l.length), (7, .i .i64 i), (28, .b (!rowOk l i))] [] mix (by kernel_rfl) ?_ ?_
    · have g1 := c_dots_May l[i]
      simp [dotC] at g1
      cases q1 : mayD l[i]
      · rw [q1] at g1
        simp [rowOk, h, q1, g1]
      rw [q1] at g1
      by_cases q3 : 0 < i
      · obtain ⟨j, rfl⟩ : ∃ j, i = j + 1 := ⟨i - 1, by omega⟩
        have hj : j < l.length := by omega
        have w2 : IntKind.i64.wrap (j : Int) = j := wrap64 (by omega) (by omega)
        have g3 := c_dots_Less l[j] l[j + 1]
        simp [dotC] at g3
        simp [rowOk, h, hj, q1, w2, g1]
        exact g3
      · simp [rowOk, h, q1, q3, g1]
    cases hp : rowOk l i
    · refine AWp.cond (t := true) (by simp) (fun _ => ?_) (by simp)
      refine AWp.go [2] [] fun K hK => ?_
      simp
      first | refine hK _ _ ?_ | refine ⟨by omega, hK _ _ ?_⟩ | refine ⟨by omega, by omega, hK _ _ ?_⟩
      clear hK K
      refine AWp.ret ?_
      simp [rowsB, range_not h hp]
    · refine AWp.cond (t := false) (by simp) (by simp) (fun _ => ?_)
      refine AWp.skip ?_
      show AWp _ _ _ _
      refine AWp.goLast [0, 5, 6, 7] [] fun K hK => ?_
      simp
      first | refine hK _ _ ?_ | refine ⟨by omega, hK _ _ ?_⟩ | refine ⟨by omega, by omega, hK _ _ ?_⟩
      clear hK K
      refine ⟨i + 1, ⟨by omega, fun k hk => ?_⟩, by omega, ?_⟩
      · by_cases hki : k = i
        · subst hki; exact hp
        · exact hall k (by omega)
      · simp
        exact wrap64 (by omega) (by omega)
  · refine AWp.cond (t := false) (by first | (simp [h]; done) | (simp [h]; omega)) (by simp) (fun _ => ?_)
    refine AWp.exit ?_
    show AWp _ _ _ _
    obtain rfl : i = l.length := by omega
    refine AWp.go [2] [] fun K hK => ?_
    simp
    first | refine hK _ _ ?_ | refine ⟨by omega, hK _ _ ?_⟩ | refine ⟨by omega, by omega, hK _ _ ?_⟩
    clear hK K
    refine AWp.ret ?_
    rw [rowsB, range_all hall]
    simp

/-- The document's rows. -/
def rowsR (l : List Dot) : Bool := l.all mayD && decide (ordD l = l)
theorem Sorted.of_adj {l : List Dot} (h : ∀ i (hi : i + 1 < l.length), LT (l[i]'(by omega)) l[i + 1]) : Sorted l := by
  induction l with
  | nil => exact List.Pairwise.nil
  | cons a l ih =>
    have hl : Sorted l := ih fun i hi => h (i + 1) (by simpa using hi)
    refine List.Pairwise.cons (fun b hb => ?_) hl
    match l, hl, hb, h with
    | c :: m, hl, hb, h =>
      have h0 : LT a c := by simpa using h 0 (by simp)
      rcases List.mem_cons.1 hb with rfl | hb
      · exact h0
      · exact h0.trans (List.rel_of_pairwise_cons hl hb)
theorem rowsB_iff (l : List Dot) : rowsB l = true ↔ (∀ d ∈ l, mayD d = true) ∧ Sorted l := by
  unfold rowsB
  rw [List.all_eq_true]
  constructor
  · intro h
    refine ⟨fun d hd => ?_, Sorted.of_adj fun i hi => ?_⟩
    · obtain ⟨k, hk, rfl⟩ := List.mem_iff_getElem.1 hd
      have := h k (by simpa using hk)
      simp [rowOk, hk] at this
      exact this.1
    · have := h (i + 1) (by simpa using hi)
      have hi' : i < l.length := by omega
      simp [rowOk, hi, hi'] at this
      exact (ltD_iff _ _).1 this.2
  · rintro ⟨h1, h2⟩ i hi
    have hi : i < l.length := by simpa using hi
    simp [rowOk, hi, h1 _ (List.getElem_mem hi)]
    by_cases h0 : i = 0
    · exact .inl h0
    · have hi' : i - 1 < l.length := by omega
      right
      simp [hi']
      exact (ltD_iff _ _).2 (List.pairwise_iff_getElem.1 h2 (i - 1) i hi' hi (by omega))
theorem rowsR_iff (l : List Dot) : rowsR l = true ↔ (∀ d ∈ l, mayD d = true) ∧ Sorted l := by
  simp [rowsR]
  intro _
  constructor
  · intro h; rw [← h]; exact (ordD_spec l).1
  · intro h; rw [← ordP_eq]; exact ordP_sorted h
theorem rowsB_eq (l : List Dot) : rowsB l = rowsR l := by rw [Bool.eq_iff_iff, rowsB_iff, rowsR_iff]

set_option maxRecDepth 8000 in
theorem c_ref08_Rows (l : List Dot) (hlen : l.length ≤ 1000000) : Pure Try.prog 57 [.sl .fro 2 (dotsAV l)] (.b (rowsB l)) := by
  rw [rowsB_eq]
  refine proc_of (cx Try.prog 11 [0, 2] [2]) 10 [.tmp 2] Try.func57 rfl rfl rfl rfl rfl rfl (Nat.le_refl _) rfl ?_
  refine AWp.go [0] [] fun K hK => ?_
  simp
  first | refine hK _ _ ?_ | refine ⟨by omega, hK _ _ ?_⟩ | refine ⟨by omega, by omega, hK _ _ ?_⟩
  clear hK K
  refine AWp.step [2] [] [(2, .b (rowsR l))] [] ?_ ?_
  · have g1 := c_ref04_All l (by omega)
    have g2 := c_ref04_Order l (by omega)
    have g3 := c_ref04_Dots (ordD l) l (by have := ordD_length l l.length (by omega); simp at this; omega)
    simp
    refine call_pure g1 (by simp) ?_
    cases q1 : l.all mayD
    · simp [rowsR, q1]
    · simp [rowsR, q1]
      refine call_pure g2 (by simp) ?_
      simp
      refine call_pure g3 (by simp) ?_
      simp
  refine AWp.ret ?_
  simp

def lightE (e : Entry) : Bool := !decide ((100 : Int) < e.key.size) && !decide ((30 : Int) < e.live.length) && !decide ((30 : Int) < e.dead.length)
def lightB (s : List Entry) : Bool := s.all lightE && decide (s.length ≤ 30)

set_option maxRecDepth 8000 in
set_option maxHeartbeats 1000000 in
theorem c_law08_Light (s : List Entry) (hlen : s.length ≤ 9223372036854775807) : Pure Try.prog 11 [.sl .fro 3 (entsAV s)] (.b (lightB s)) := by
  refine proc_of (cx Try.prog 42 [0, 2, 3, 11, 38] [2]) 41 [.tmp 2] Try.func11 rfl rfl rfl rfl rfl rfl (Nat.le_refl _) rfl ?_
  refine AWp.go [0] [] fun K hK => ?_
  simp
  first | refine hK _ _ ?_ | refine ⟨by omega, hK _ _ ?_⟩ | refine ⟨by omega, by omega, hK _ _ ?_⟩
  clear hK K
  refine AWp.seq ?_
  refine AWp.go [0, 3] [] fun K hK => ?_
  simp
  first | refine hK _ _ ?_ | refine ⟨by omega, hK _ _ ?_⟩ | refine ⟨by omega, by omega, hK _ _ ?_⟩
  clear hK K
  refine AWp.block (AWp.while (fun i : Nat => [(0, .sl .fro 3 (entsAV s)), (3, .i .i64 i)]) (fun i => []) (fun i => i ≤ s.length ∧ ∀ k (hk : k < i) (hk2 : k < s.length), lightE s[k] = true) (fun i => s.length - i) [0, 3] [] 0 (by simp) (by simp) ?_)
  rintro i ⟨hi, hall⟩
  refine AWp.seq ?_
  refine AWp.step [0, 3, 11] [] [(0, .sl .fro 3 (entsAV s)), (3, .i .i64 i), (11, .b (decide (i < s.length) && decide (i ≤ 30)))] [] ?_ ?_
  · by_cases h : i < s.length <;> simp [h]
    constructor <;> omega
  by_cases h : i < s.length ∧ i ≤ 30
  · refine AWp.cond (t := true) (by simp at h ⊢; omega) (fun _ => ?_) (by simp)
    refine AWp.skip ?_
    show AWp _ _ _ _
    refine AWp.seq ?_
    refine AWp.block ?_
    refine AWp.step [0, 3, 38] [] [(0, .sl .fro 3 (entsAV s)), (3, .i .i64 i), (38, .b (!lightE s[i]))] [] ?_ ?_
    · have h1 := h.1
      by_cases q1 : (100 : Int) < s[i].key.size
      · simp [h1, q1, lightE]
      by_cases q2 : (30 : Int) < s[i].live.length
      · simp [h1, q1, q2, lightE]
      by_cases q3 : (30 : Int) < s[i].dead.length <;> simp [h1, q1, q2, q3, lightE]
    cases hp : lightE s[i]
    · refine AWp.cond (t := true) (by simp) (fun _ => ?_) (by simp)
      refine AWp.go [2] [] fun K hK => ?_
      simp
      first | refine hK _ _ ?_ | refine ⟨by omega, hK _ _ ?_⟩ | refine ⟨by omega, by omega, hK _ _ ?_⟩
      clear hK K
      refine AWp.ret ?_
      simp [lightB, all_not h.1 hp]
    · refine AWp.cond (t := false) (by simp) (by simp) (fun _ => ?_)
      refine AWp.skip ?_
      show AWp _ _ _ _
      refine AWp.goLast [0, 3] [] fun K hK => ?_
      simp
      first | refine hK _ _ ?_ | refine ⟨by omega, hK _ _ ?_⟩ | refine ⟨by omega, by omega, hK _ _ ?_⟩
      clear hK K
      refine ⟨i + 1, ⟨by omega, fun k hk hk2 => ?_⟩, by omega, ?_⟩
      · by_cases hki : k = i
        · subst hki; exact hp
        · exact hall k (by omega) hk2
      · simp
        exact wrap64 (by omega) (by omega)
  · refine AWp.cond (t := false) (by simp at h ⊢; omega) (by simp) (fun _ => ?_)
    refine AWp.exit ?_
    show AWp _ _ _ _
    refine AWp.go [2] [] fun K hK => ?_
    simp
    first | refine hK _ _ ?_ | refine ⟨by omega, hK _ _ ?_⟩ | refine ⟨by omega, by omega, hK _ _ ?_⟩
    clear hK K
    refine AWp.ret ?_
    by_cases hs : s.length ≤ 30
    · have : i = s.length := by omega
      rw [lightB, all_of fun k hk => hall k (by omega) hk]
      simp
      omega
    · simp [lightB, hs]
      omega

def Fine (s : List Entry) : Prop := s.length ≤ 1000000 ∧ ∀ e ∈ s, e.live.length ≤ 1000000 ∧ e.dead.length ≤ 1000000
/-- May an entry stand behind a key? -/
def entOk (p : ByteArray) (e : Entry) : Bool := keyOk e.key && !leK e.key p && !decide ((e.live.length : Int) + e.dead.length = 0) && rowsB e.live && rowsB e.dead
def prevK (s : List Entry) (i : Nat) : ByteArray := if i = 0 then ByteArray.empty else match s[i - 1]? with
  | some e => e.key
  | none => ByteArray.empty
def entAt (s : List Entry) (i : Nat) : Bool := match s[i]? with
  | some e => entOk (prevK s i) e
  | none => false
def setOk (s : List Entry) : Bool := decide ((s.length : Int) ≤ 4000) && (List.range s.length).all (entAt s)
theorem prevK_succ (s : List Entry) (i : Nat) (h : i < s.length) : prevK s (i + 1) = s[i].key := by simp [prevK, h]

set_option maxRecDepth 8000 in
set_option maxHeartbeats 2000000 in
theorem c_rwset_Check (s : List Entry) (hs : Fine s) : Pure Try.prog 15 [.sl .fro 3 (entsAV s)] (.i .i64 (if setOk s then 0 else 1)) := by
  refine proc_of (cx Try.prog 50 [0, 2, 3, 5, 8, 9, 10, 11, 12, 46] [2]) 49 [.tmp 2] Try.func15 rfl rfl rfl rfl rfl rfl (Nat.le_refl _) rfl ?_
  refine AWp.go [0] [] fun K hK => ?_
  simp
  first | refine hK _ _ ?_ | refine ⟨by omega, hK _ _ ?_⟩ | refine ⟨by omega, by omega, hK _ _ ?_⟩
  clear hK K
  refine AWp.seq ?_
  refine AWp.go [0, 8] [] fun K hK => ?_
  simp
  first | refine hK _ _ ?_ | refine ⟨by omega, hK _ _ ?_⟩ | refine ⟨by omega, by omega, hK _ _ ?_⟩
  clear hK K
  by_cases h : (4000 : Int) < s.length
  · refine AWp.cond (t := true) (by first | (simp [h]; done) | (simp [h]; omega)) (fun _ => ?_) (by simp)
    refine AWp.go [2] [] fun K hK => ?_
    simp
    first | refine hK _ _ ?_ | refine ⟨by omega, hK _ _ ?_⟩ | refine ⟨by omega, by omega, hK _ _ ?_⟩
    clear hK K
    refine AWp.ret ?_
    simp [setOk]
    omega
  · refine AWp.cond (t := false) (by first | (simp [h]; done) | (simp [h]; omega)) (by simp) (fun _ => ?_)
    refine AWp.skip ?_
    show AWp _ _ _ _
    refine AWp.go [0, 3] [] fun K hK => ?_
    simp
    first | refine hK _ _ ?_ | refine ⟨by omega, hK _ _ ?_⟩ | refine ⟨by omega, by omega, hK _ _ ?_⟩
    clear hK K
    refine AWp.seq ?_
    refine AWp.go [3, 9, 10, 11] [] fun K hK => ?_
    simp
    first | refine hK _ _ ?_ | refine ⟨by omega, hK _ _ ?_⟩ | refine ⟨by omega, by omega, hK _ _ ?_⟩
    clear hK K
    refine AWp.block (AWp.while (fun i : Nat => [(3, .s (prevK s i)), (9, .sl .fro 3 (entsAV s)), (10, .i .i64 s.length), (11, .i .i64 i)]) (fun i => []) (fun i => i ≤ s.length ∧ ∀ k, k < i → entAt s k = true) (fun i => s.length - i) [3, 9, 10, 11] [] 0 (by simp) (by simp [prevK]; rfl) ?_)
    rintro i ⟨hi, hall⟩
    refine AWp.go [3, 9, 10, 11, 12] [] fun K hK => ?_
    simp
    first | refine hK _ _ ?_ | refine ⟨by omega, hK _ _ ?_⟩ | refine ⟨by omega, by omega, hK _ _ ?_⟩
    clear hK K
    refine AWp.seq ?_
    by_cases h2 : i < s.length
    · refine AWp.cond (t := true) (by first | (simp [h2]; done) | (simp [h2]; omega)) (fun _ => ?_) (by simp)
      refine AWp.skip ?_
      show AWp _ _ _ _
      refine AWp.seq ?_
      refine AWp.block ?_
      refine AWp.go [3, 5, 9, 10, 11] [5] fun K hK => ?_
      simp [h2]
      first | refine hK _ _ ?_ | refine ⟨by omega, hK _ _ ?_⟩ | refine ⟨by omega, by omega, hK _ _ ?_⟩
      clear hK K
      refine AWp.seq ?_
      refine AWp.step [5, 9, 10, 11, 46] [5] [(5, .ptr 5 0), (9, .sl .fro 3 (entsAV s)), (10, .i .i64 s.length), (11, .i .i64 i), (46, .b (!entOk (prevK s i) s[i]))] [(5, [.s s[i].key, .sl .fro 2 (dotsAV s[i].live), .sl .fro 2 (dotsAV s[i].dead)])] ?_ ?_
      · have hl := hs.2 _ (List.getElem_mem h2)
        have g1 := c_rwset_right s[i].key
        have g2 := c_rwset_rows s[i].live hl.1
        have g3 := c_rwset_rows s[i].dead hl.2
        have w1 : IntKind.i64.wrap ((s[i].live.length : Int) + s[i].dead.length) = (s[i].live.length : Int) + s[i].dead.length := wrap64 (by omega) (by omega)
        simp
        refine call_pure g1 (by simp) ?_
        cases q1 : keyOk s[i].key
        · simp [entOk, q1]
        by_cases q2 : leK s[i].key (prevK s i) = true
        · have q3 := q2
          simp [leK, ltK, eqK] at q2
          rcases q2 with q2 | q2 <;> simp [entOk, q1, q2, q3]
        simp at q2
        have q3 := q2
        simp [leK, ltK, eqK] at q2
        by_cases q4 : (s[i].live.length : Int) + s[i].dead.length = 0
        · simp [entOk, q1, q2, q3, q4]
        simp [q2, q4, w1]
        refine call_pure g2 (by simp) ?_
        cases q5 : rowsB s[i].live
        · simp [entOk, q5]
        simp
        refine call_pure g3 (by simp) ?_
        simp [entOk, q1, q3, q4, q5]
      cases hp : entOk (prevK s i) s[i]
      · refine AWp.cond (t := true) (by simp) (fun _ => ?_) (by simp)
        refine AWp.go [2] [] fun K hK => ?_
        simp
        first | refine hK _ _ ?_ | refine ⟨by omega, hK _ _ ?_⟩ | refine ⟨by omega, by omega, hK _ _ ?_⟩
        clear hK K
        refine AWp.ret ?_
        simp [setOk, range_not (p := entAt s) h2 (by simp [entAt, h2, hp])]
      · refine AWp.cond (t := false) (by simp) (by simp) (fun _ => ?_)
        refine AWp.skip ?_
        show AWp _ _ _ _
        refine AWp.goLast [3, 9, 10, 11] [] fun K hK => ?_
        simp
        first | refine hK _ _ ?_ | refine ⟨by omega, hK _ _ ?_⟩ | refine ⟨by omega, by omega, hK _ _ ?_⟩
        clear hK K
        show AWp _ _ _ _
        refine AWp.goLast [3, 9, 10, 11] [] fun K hK => ?_
        simp
        first | refine hK _ _ ?_ | refine ⟨by omega, hK _ _ ?_⟩ | refine ⟨by omega, by omega, hK _ _ ?_⟩
        clear hK K
        refine ⟨i + 1, ⟨by omega, fun k hk => ?_⟩, by omega, ?_⟩
        · by_cases hki : k = i
          · subst hki; simp [entAt, h2, hp]
          · exact hall k (by omega)
        · simp [prevK_succ s i h2]
          exact wrap64 (by omega) (by omega)
    · refine AWp.cond (t := false) (by first | (simp [h2]; done) | (simp [h2]; omega)) (by simp) (fun _ => ?_)
      refine AWp.exit ?_
      show AWp _ _ _ _
      obtain rfl : i = s.length := by omega
      refine AWp.go [2] [] fun K hK => ?_
      simp
      first | refine hK _ _ ?_ | refine ⟨by omega, hK _ _ ?_⟩ | refine ⟨by omega, by omega, hK _ _ ?_⟩
      clear hK K
      refine AWp.ret ?_
      rw [setOk, range_all hall]
      simp
      omega
end Go.AM
namespace Go.AM
open Go.Proofs
theorem leK_empty {k : ByteArray} (h : keyOk k = true) : leK k ByteArray.empty = false := by
  simp [keyOk, eqK] at h
  simp [leK, ltK, eqK, h.1]
  cases k.toList <;> simp_all [Op.bytesLess]
theorem entAt_zero (e : Entry) : entOk ByteArray.empty e = (keyOk e.key && !decide ((e.live.length : Int) + e.dead.length = 0) && rowsB e.live && rowsB e.dead) := by
  cases h : keyOk e.key
  · simp [entOk, h]
  · simp [entOk, h, leK_empty h]

set_option maxRecDepth 8000 in
set_option maxHeartbeats 2000000 in
theorem c_ref09_May (s : List Entry) (hs : Fine s) : Pure Try.prog 16 [.sl .fro 3 (entsAV s)] (.b (setOk s)) := by
  refine proc_of (cx Try.prog 59 [0, 2, 3, 4, 8, 55] [2]) 58 [.tmp 2] Try.func16 rfl rfl rfl rfl rfl rfl (Nat.le_refl _) rfl ?_
  refine AWp.go [0] [] fun K hK => ?_
  simp
  first | refine hK _ _ ?_ | refine ⟨by omega, hK _ _ ?_⟩ | refine ⟨by omega, by omega, hK _ _ ?_⟩
  clear hK K
  refine AWp.seq ?_
  refine AWp.go [0, 3] [] fun K hK => ?_
  simp
  first | refine hK _ _ ?_ | refine ⟨by omega, hK _ _ ?_⟩ | refine ⟨by omega, by omega, hK _ _ ?_⟩
  clear hK K
  refine AWp.block (AWp.while (fun i : Nat => [(0, .sl .fro 3 (entsAV s)), (3, .i .i64 i)]) (fun i => []) (fun i => i ≤ s.length ∧ ∀ k, k < i → entAt s k = true) (fun i => s.length - i) [0, 3] [] 0 (by simp) (by simp) ?_)
  rintro i ⟨hi, hall⟩
  have hlen := hs.1
  refine AWp.seq ?_
  refine AWp.go [0, 3, 8] [] fun K hK => ?_
  simp
  first | refine hK _ _ ?_ | refine ⟨by omega, hK _ _ ?_⟩ | refine ⟨by omega, by omega, hK _ _ ?_⟩
  clear hK K
  by_cases h2 : i < s.length
  · refine AWp.cond (t := true) (by first | (simp [h2]; done) | (simp [h2]; omega)) (fun _ => ?_) (by simp)
    refine AWp.skip ?_
    show AWp _ _ _ _
    refine AWp.seq ?_
    refine AWp.block ?_
    refine AWp.go [0, 3, 4] [4] fun K hK => ?_
    simp [h2]
    first | refine hK _ _ ?_ | refine ⟨by omega, hK _ _ ?_⟩ | refine ⟨by omega, by omega, hK _ _ ?_⟩
    clear hK K
    refine AWp.stepD 41 (fun k => if k = 2 then .b (keyOk s[i].key) else if k = 32 then .b (rowsB s[i].live) else if k = 38 then .b (rowsB s[i].dead) else .any) [0, 3, 55] [] [(0, .sl .fro 3 (entsAV s)), (3, .i .i64 i), (55, .b (!entOk (prevK s i) s[i]))] [] mix (by kernel_rfl) ?_ ?_
    · have hl := hs.2 _ (List.getElem_mem h2)
      have g1 := c_ref08_Key s[i].key
      have g2 := c_ref08_Rows s[i].live hl.1
      have g3 := c_ref08_Rows s[i].dead hl.2
      have w1 : IntKind.i64.wrap ((s[i].live.length : Int) + s[i].dead.length) = (s[i].live.length : Int) + s[i].dead.length := wrap64 (by omega) (by omega)
      cases q1 : keyOk s[i].key
      · rw [q1] at g1
        simp [entOk, q1, g1]
      rw [q1] at g1
      by_cases q4 : (s[i].live.length : Int) + s[i].dead.length = 0
      · by_cases h0 : 0 < i
        · obtain ⟨j, rfl⟩ : ∃ j, i = j + 1 := ⟨i - 1, by omega⟩
          have hj : j < s.length := by omega
          have w2 : IntKind.i64.wrap (j : Int) = j := wrap64 (by omega) (by omega)
          by_cases q2 : leK s[j + 1].key s[j].key = true
          · have q3 := q2
            simp [leK, ltK, eqK] at q2
            rcases q2 with q2 | q2 <;> simp [entOk, q1, q2, q3, q4, w2, g1, prevK, hj]
          simp at q2
          have q3 := q2
          simp [leK, ltK, eqK] at q2
          simp [entOk, q1, q2, q3, q4, w2, g1, prevK, hj]
        · simp [entOk, q1, q4, g1, h0]
      by_cases h0 : 0 < i
      · obtain ⟨j, rfl⟩ : ∃ j, i = j + 1 := ⟨i - 1, by omega⟩
        have hj : j < s.length := by omega
        have w2 : IntKind.i64.wrap (j : Int) = j := wrap64 (by omega) (by omega)
        by_cases q2 : leK s[j + 1].key s[j].key = true
        · have q3 := q2
          simp [leK, ltK, eqK] at q2
          rcases q2 with q2 | q2 <;> simp [entOk, q1, q2, q3, q4, w2, g1, prevK, hj]
        simp at q2
        have q3 := q2
        simp [leK, ltK, eqK] at q2
        cases q5 : rowsB s[j + 1].live
        · rw [q5] at g2
          simp [entOk, q1, q2, q3, q4, q5, w1, w2, g1, g2, prevK, hj]
        rw [q5] at g2
        cases q6 : rowsB s[j + 1].dead <;> rw [q6] at g3 <;> simp [entOk, q1, q2, q3, q4, q5, q6, w1, w2, g1, g2, g3, prevK, hj]
      · obtain rfl : i = 0 := by omega
        have q3 := leK_empty q1
        have e3 : prevK s 0 = ByteArray.empty := rfl
        cases q5 : rowsB s[0].live
        · rw [q5] at g2
          simp [entOk, q1, q4, q5, w1, g1, g2]
        rw [q5] at g2
        cases q6 : rowsB s[0].dead <;> rw [q6] at g3 <;> simp [entOk, q1, q3, q4, q5, q6, w1, g1, g2, g3, e3]
    cases hp : entOk (prevK s i) s[i]
    · refine AWp.cond (t := true) (by simp) (fun _ => ?_) (by simp)
      refine AWp.go [2] [] fun K hK => ?_
      simp
      first | refine hK _ _ ?_ | refine ⟨by omega, hK _ _ ?_⟩ | refine ⟨by omega, by omega, hK _ _ ?_⟩
      clear hK K
      refine AWp.ret ?_
      simp [setOk, range_not (p := entAt s) h2 (by simp [entAt, h2, hp])]
    · refine AWp.cond (t := false) (by simp) (by simp) (fun _ => ?_)
      refine AWp.skip ?_
      show AWp _ _ _ _
      refine AWp.goLast [0, 3] [] fun K hK => ?_
      simp
      first | refine hK _ _ ?_ | refine ⟨by omega, hK _ _ ?_⟩ | refine ⟨by omega, by omega, hK _ _ ?_⟩
      clear hK K
      refine ⟨i + 1, ⟨by omega, fun k hk => ?_⟩, by omega, ?_⟩
      · by_cases hki : k = i
        · subst hki; simp [entAt, h2, hp]
        · exact hall k (by omega)
      · simp
        exact wrap64 (by omega) (by omega)
  · refine AWp.cond (t := false) (by first | (simp [h2]; done) | (simp [h2]; omega)) (by simp) (fun _ => ?_)
    refine AWp.exit ?_
    show AWp _ _ _ _
    obtain rfl : i = s.length := by omega
    refine AWp.go [2] [] fun K hK => ?_
    simp
    first | refine hK _ _ ?_ | refine ⟨by omega, hK _ _ ?_⟩ | refine ⟨by omega, by omega, hK _ _ ?_⟩
    clear hK K
    refine AWp.ret ?_
    rw [setOk, range_all hall]
    simp

def sameE (a b : Entry) : Bool := eqK a.key b.key && decide (a.live = b.live) && decide (a.dead = b.dead)
def sameB (a b : List Entry) : Bool := decide (a.length = b.length) && (List.range a.length).all fun i => match a[i]?, b[i]? with
  | some x, some y => sameE x y
  | _, _ => false

set_option maxRecDepth 8000 in
set_option maxHeartbeats 2000000 in
theorem c_ref08_Same (a b : List Entry) (ha : Fine a) (hb : Fine b) : Pure Try.prog 20 [.sl .fro 3 (entsAV a), .sl .fro 3 (entsAV b)] (.b (sameB a b)) := by
  refine proc_of (cx Try.prog 56 [0, 1, 4, 5, 10, 14, 55] [4]) 54 [.tmp 4] Try.func20 rfl rfl rfl rfl rfl rfl (Nat.le_refl _) rfl ?_
  refine AWp.go [0, 1] [] fun K hK => ?_
  simp
  first | refine hK _ _ ?_ | refine ⟨by omega, hK _ _ ?_⟩ | refine ⟨by omega, by omega, hK _ _ ?_⟩
  clear hK K
  refine AWp.seq ?_
  refine AWp.go [0, 1, 10] [] fun K hK => ?_
  simp
  first | refine hK _ _ ?_ | refine ⟨by omega, hK _ _ ?_⟩ | refine ⟨by omega, by omega, hK _ _ ?_⟩
  clear hK K
  by_cases hab : ¬ (a.length : Int) = b.length
  · refine AWp.cond (t := true) (by first | (simp [hab]; done) | (simp [hab]; omega)) (fun _ => ?_) (by simp)
    refine AWp.go [4] [] fun K hK => ?_
    simp
    first | refine hK _ _ ?_ | refine ⟨by omega, hK _ _ ?_⟩ | refine ⟨by omega, by omega, hK _ _ ?_⟩
    clear hK K
    refine AWp.ret ?_
    have : ¬ a.length = b.length := by omega
    simp [sameB, this]
  · refine AWp.cond (t := false) (by first | (simp; done) | (simp; omega)) (by simp) (fun _ => ?_)
    refine AWp.skip ?_
    show AWp _ _ _ _
    refine AWp.seq ?_
    refine AWp.go [0, 1, 5] [] fun K hK => ?_
    simp
    first | refine hK _ _ ?_ | refine ⟨by omega, hK _ _ ?_⟩ | refine ⟨by omega, by omega, hK _ _ ?_⟩
    clear hK K
    refine AWp.block (AWp.while (fun i : Nat => [(0, .sl .fro 3 (entsAV a)), (1, .sl .fro 3 (entsAV b)), (5, .i .i64 i)]) (fun i => []) (fun i => i ≤ a.length ∧ ∀ k, k < i → (match a[k]?, b[k]? with | some x, some y => sameE x y | _, _ => false) = true) (fun i => a.length - i) [0, 1, 5] [] 0 (by simp) (by simp) ?_)
    rintro i ⟨hi, hall⟩
    have hlen := ha.1
    have hab2 : a.length = b.length := by omega
    refine AWp.seq ?_
    refine AWp.go [0, 1, 5, 14] [] fun K hK => ?_
    simp
    first | refine hK _ _ ?_ | refine ⟨by omega, hK _ _ ?_⟩ | refine ⟨by omega, by omega, hK _ _ ?_⟩
    clear hK K
    by_cases h2 : i < a.length
    · refine AWp.cond (t := true) (by first | (simp [h2]; done) | (simp [h2]; omega)) (fun _ => ?_) (by simp)
      refine AWp.skip ?_
      show AWp _ _ _ _
      refine AWp.seq ?_
      refine AWp.block ?_
      refine AWp.stepD 39 (fun k => if k = 22 then .b (decide (a[i].live = (b[i]'(by omega)).live)) else if k = 36 then .b (decide (a[i].dead = (b[i]'(by omega)).dead)) else .any) [0, 1, 5, 55] [] [(0, .sl .fro 3 (entsAV a)), (1, .sl .fro 3 (entsAV b)), (5, .i .i64 i), (55, .b (!sameE a[i] (b[i]'(by omega))))] [] mix (by kernel_rfl) ?_ ?_
      · have hla := ha.2 _ (List.getElem_mem h2)
        have h3 : i < b.length := by omega
        have g2 := c_ref04_Dots a[i].live b[i].live (by omega)
        have g3 := c_ref04_Dots a[i].dead b[i].dead (by omega)
        by_cases q1 : a[i].key.toList = b[i].key.toList
        · by_cases q2 : a[i].live = b[i].live
          · rw [q2] at g2
            by_cases q3 : a[i].dead = b[i].dead
            · rw [q3] at g3
              simp at g2 g3
              simp [h2, h3, sameE, eqK, q1, q2, q3, g2, g3]
            · simp [q3] at g2 g3
              simp [h2, h3, sameE, eqK, q1, q2, q3, g2, g3]
          · simp [q2] at g2
            simp [h2, h3, sameE, eqK, q1, q2, g2]
        · have q1' : (a[i].key.toList == b[i].key.toList) = false := by simpa using q1
          simp [h2, h3, sameE, eqK, q1']
      cases hp : sameE a[i] (b[i]'(by omega))
      · refine AWp.cond (t := true) (by simp) (fun _ => ?_) (by simp)
        refine AWp.go [4] [] fun K hK => ?_
        simp
        first | refine hK _ _ ?_ | refine ⟨by omega, hK _ _ ?_⟩ | refine ⟨by omega, by omega, hK _ _ ?_⟩
        clear hK K
        refine AWp.ret ?_
        rw [sameB, range_not (i := i) h2 (by simp [h2, show i < b.length by omega, hp])]
        simp
      · refine AWp.cond (t := false) (by simp) (by simp) (fun _ => ?_)
        refine AWp.skip ?_
        show AWp _ _ _ _
        refine AWp.goLast [0, 1, 5] [] fun K hK => ?_
        simp
        first | refine hK _ _ ?_ | refine ⟨by omega, hK _ _ ?_⟩ | refine ⟨by omega, by omega, hK _ _ ?_⟩
        clear hK K
        refine ⟨i + 1, ⟨by omega, fun k hk => ?_⟩, by omega, ?_⟩
        · by_cases hki : k = i
          · subst hki; simp [h2, show k < b.length by omega, hp]
          · exact hall k (by omega)
        · simp
          exact wrap64 (by omega) (by omega)
    · refine AWp.cond (t := false) (by first | (simp [h2]; done) | (simp [h2]; omega)) (by simp) (fun _ => ?_)
      refine AWp.exit ?_
      show AWp _ _ _ _
      obtain rfl : i = a.length := by omega
      refine AWp.go [4] [] fun K hK => ?_
      simp
      first | refine hK _ _ ?_ | refine ⟨by omega, hK _ _ ?_⟩ | refine ⟨by omega, by omega, hK _ _ ?_⟩
      clear hK K
      refine AWp.ret ?_
      rw [sameB, range_all hall]
      simp [hab2]

def emptyE (k : ByteArray) : Entry := ⟨k, [], []⟩
theorem find_at {α : Type} {p : α → Bool} {l : List α} (i : Nat) (hi : i < l.length) (h0 : ∀ j (hj : j < i), p (l[j]'(by omega)) = false) (h1 : p l[i] = true) : l.find? p = some l[i] := by
  rw [List.find?_eq_some_iff_getElem]
  exact ⟨h1, i, hi, rfl, fun j hj => by simp [h0 j hj]⟩
def getE (s : List Entry) (k : ByteArray) : Entry := (s.find? fun e => eqK e.key k).getD (emptyE k)

set_option maxRecDepth 8000 in
set_option maxHeartbeats 2000000 in
theorem c_ref08_Get (s : List Entry) (k : ByteArray) (hs : Fine s) : Pure Try.prog 44 [.sl .fro 3 (entsAV s), .s k] (.agg (entC (getE s k))) := by
  refine proc_of (cx Try.prog 25 [0, 1, 4, 5, 9, 18] [4]) 23 [.cell 4 60] Try.func44 rfl rfl rfl rfl rfl rfl (Nat.le_refl _) rfl ?_
  refine AWp.go [0, 1, 4] [4] fun K hK => ?_
  simp
  first | refine hK _ _ ?_ | refine ⟨by omega, hK _ _ ?_⟩ | refine ⟨by omega, by omega, hK _ _ ?_⟩
  clear hK K
  refine AWp.seq ?_
  refine AWp.go [0, 1, 4, 5] [4] fun K hK => ?_
  simp
  first | refine hK _ _ ?_ | refine ⟨by omega, hK _ _ ?_⟩ | refine ⟨by omega, by omega, hK _ _ ?_⟩
  clear hK K
  refine AWp.block (AWp.while (fun i : Nat => [(0, .sl .fro 3 (entsAV s)), (1, .s k), (4, .ptr 4 0), (5, .i .i64 i)]) (fun i => [(4, [.s ByteArray.empty, .sl .nl 2 [], .sl .nl 2 []])]) (fun i => i ≤ s.length ∧ ∀ k' (hk : k' < i) (hk2 : k' < s.length), eqK s[k'].key k = false) (fun i => s.length - i) [0, 1, 4, 5] [4] 0 (by simp) (by simp) ?_)
  rintro i ⟨hi, hall⟩
  have hlen := hs.1
  refine AWp.seq ?_
  refine AWp.go [0, 1, 4, 5, 9] [4] fun K hK => ?_
  simp
  first | refine hK _ _ ?_ | refine ⟨by omega, hK _ _ ?_⟩ | refine ⟨by omega, by omega, hK _ _ ?_⟩
  clear hK K
  by_cases h2 : i < s.length
  · refine AWp.cond (t := true) (by first | (simp [h2]; done) | (simp [h2]; omega)) (fun _ => ?_) (by simp)
    refine AWp.skip ?_
    show AWp _ _ _ _
    refine AWp.seq ?_
    refine AWp.block ?_
    refine AWp.go [0, 1, 4, 5, 18] [4] fun K hK => ?_
    simp [h2]
    first | refine hK _ _ ?_ | refine ⟨by omega, hK _ _ ?_⟩ | refine ⟨by omega, by omega, hK _ _ ?_⟩
    clear hK K
    by_cases hp : eqK s[i].key k = true
    · refine AWp.cond (t := true) (by simp [eqK] at hp; simp [hp]) (fun _ => ?_) (by simp)
      refine AWp.go [4] [4] fun K hK => ?_
      simp [h2]
      first | refine hK _ _ ?_ | refine ⟨by omega, hK _ _ ?_⟩ | refine ⟨by omega, by omega, hK _ _ ?_⟩
      clear hK K
      refine AWp.ret ?_
      have e : getE s k = s[i] := by rw [getE, find_at i h2 (fun j hj => hall j hj (by omega)) hp]; rfl
      rw [e]
      simp [entC]
    · refine AWp.cond (t := false) (by simp [eqK] at hp; simp [hp]) (by simp) (fun _ => ?_)
      refine AWp.skip ?_
      show AWp _ _ _ _
      refine AWp.goLast [0, 1, 4, 5] [4] fun K hK => ?_
      simp
      first | refine hK _ _ ?_ | refine ⟨by omega, hK _ _ ?_⟩ | refine ⟨by omega, by omega, hK _ _ ?_⟩
      clear hK K
      refine ⟨i + 1, ⟨by omega, fun j hj hj2 => ?_⟩, by omega, ?_⟩
      · by_cases hji : j = i
        · subst hji; simpa using hp
        · exact hall j (by omega) hj2
      · simp
        exact wrap64 (by omega) (by omega)
  · refine AWp.cond (t := false) (by first | (simp [h2]; done) | (simp [h2]; omega)) (by simp) (fun _ => ?_)
    refine AWp.exit ?_
    show AWp _ _ _ _
    refine AWp.go [4] [4] fun K hK => ?_
    simp
    first | refine hK _ _ ?_ | refine ⟨by omega, hK _ _ ?_⟩ | refine ⟨by omega, by omega, hK _ _ ?_⟩
    clear hK K
    refine AWp.ret ?_
    have e : getE s k = emptyE k := by
      have : s.find? (fun e => eqK e.key k) = none := by
        rw [List.find?_eq_none]
        intro x hx
        obtain ⟨j, hj, rfl⟩ := List.mem_iff_getElem.1 hx
        simp [hall j (by omega) hj]
      rw [getE, this]; rfl
    rw [e]
    simp [entC, emptyE, dotsAV]
theorem leftD_succ (l : List Dot) (c : List Int) (i : Nat) (h : i < l.length) : leftD (l.take (i + 1)) c = if l[i].2 ≤ getC c l[i].1 then leftD (l.take i) c else leftD (l.take i) c ++ [l[i]] := by
  unfold leftD
  rw [List.take_succ_eq_append_getElem h, List.filter_append]
  by_cases q : l[i].2 ≤ getC c l[i].1 <;> simp [q]
theorem leftD_len (l : List Dot) (c : List Int) : (leftD l c).length ≤ l.length := List.length_filter_le _ _

set_option maxRecDepth 8000 in
set_option maxHeartbeats 2000000 in
theorem c_ref08_Left (l : List Dot) (c : List Int) (hl : l.length ≤ 1000000) (hc : c.length ≤ 1000000) : Pure Try.prog 59 [.sl .fro 2 (dotsAV l), .sl .fro 1 (intsAV c)] (.sl .own 2 (dotsAV (leftD l c))) := by
  refine proc_of (cx Try.prog 35 [0, 1, 4, 5, 6, 11, 26] [4]) 33 [.tmp 4] Try.func59 rfl rfl rfl rfl rfl rfl (Nat.le_refl _) rfl ?_
  refine AWp.go [0, 1] [] fun K hK => ?_
  simp
  first | refine hK _ _ ?_ | refine ⟨by omega, hK _ _ ?_⟩ | refine ⟨by omega, by omega, hK _ _ ?_⟩
  clear hK K
  refine AWp.go [0, 1, 5] [] fun K hK => ?_
  simp
  first | refine hK _ _ ?_ | refine ⟨by omega, hK _ _ ?_⟩ | refine ⟨by omega, by omega, hK _ _ ?_⟩
  clear hK K
  refine AWp.seq ?_
  refine AWp.go [0, 1, 5, 6] [] fun K hK => ?_
  simp
  first | refine hK _ _ ?_ | refine ⟨by omega, hK _ _ ?_⟩ | refine ⟨by omega, by omega, hK _ _ ?_⟩
  clear hK K
  refine AWp.block (AWp.while (fun i : Nat => [(0, .sl .fro 2 (dotsAV l)), (1, .sl .fro 1 (intsAV c)), (5, .sl .own 2 (dotsAV (leftD (l.take i) c))), (6, .i .i64 i)]) (fun i => []) (fun i => i ≤ l.length) (fun i => l.length - i) [0, 1, 5, 6] [] 0 (by simp) (by simp [leftD, dotsAV]) ?_)
  intro i hi
  have hll := leftD_len (l.take i) c
  simp at hll
  refine AWp.seq ?_
  refine AWp.go [0, 1, 5, 6, 11] [] fun K hK => ?_
  simp
  first | refine hK _ _ ?_ | refine ⟨by omega, hK _ _ ?_⟩ | refine ⟨by omega, by omega, hK _ _ ?_⟩
  clear hK K
  by_cases h2 : i < l.length
  · refine AWp.cond (t := true) (by first | (simp [h2]; done) | (simp [h2]; omega)) (fun _ => ?_) (by simp)
    refine AWp.skip ?_
    show AWp _ _ _ _
    refine AWp.seq ?_
    refine AWp.block ?_
    refine AWp.stepD 13 (fun k => if k = 11 then .i .i64 (getC c l[i].1) else .any) [0, 1, 5, 6, 26] [] [(0, .sl .fro 2 (dotsAV l)), (1, .sl .fro 1 (intsAV c)), (5, .sl .own 2 (dotsAV (leftD (l.take i) c))), (6, .i .i64 i), (26, .b (!decide (l[i].2 ≤ getC c l[i].1)))] [] mix (by kernel_rfl) ?_ ?_
    · have g1 := c_ref03_Get c l[i].1 (by omega)
      by_cases q1 : l[i].2 ≤ getC c l[i].1 <;> simp [h2, q1, g1]
      omega
    by_cases hp : l[i].2 ≤ getC c l[i].1
    · refine AWp.cond (t := false) (by simp; omega) (by simp) (fun _ => ?_)
      refine AWp.skip ?_
      show AWp _ _ _ _
      refine AWp.goLast [0, 1, 5, 6] [] fun K hK => ?_
      simp
      first | refine hK _ _ ?_ | refine ⟨by omega, hK _ _ ?_⟩ | refine ⟨by omega, by omega, hK _ _ ?_⟩
      clear hK K
      refine ⟨i + 1, by omega, by omega, ?_⟩
      simp [leftD_succ _ _ _ h2, hp, dotsAV]
      exact wrap64 (by omega) (by omega)
    · refine AWp.cond (t := true) (by simp; omega) (fun _ => ?_) (by simp)
      refine AWp.goLast [0, 1, 5, 6] [] fun K hK => ?_
      simp [h2]
      first | refine hK _ _ ?_ | refine ⟨by omega, hK _ _ ?_⟩ | refine ⟨by omega, by omega, hK _ _ ?_⟩
      clear hK K
      show AWp _ _ _ _
      refine AWp.goLast [0, 1, 5, 6] [] fun K hK => ?_
      simp
      first | refine hK _ _ ?_ | refine ⟨by omega, hK _ _ ?_⟩ | refine ⟨by omega, by omega, hK _ _ ?_⟩
      clear hK K
      refine ⟨i + 1, by omega, by omega, ?_⟩
      simp [leftD_succ _ _ _ h2, hp, dotsAV, dotC]
      exact wrap64 (by omega) (by omega)
  · refine AWp.cond (t := false) (by first | (simp [h2]; done) | (simp [h2]; omega)) (by simp) (fun _ => ?_)
    refine AWp.exit ?_
    show AWp _ _ _ _
    obtain rfl : i = l.length := by omega
    refine AWp.go [4] [] fun K hK => ?_
    simp
    first | refine hK _ _ ?_ | refine ⟨by omega, hK _ _ ?_⟩ | refine ⟨by omega, by omega, hK _ _ ?_⟩
    clear hK K
    refine AWp.ret ?_
    simp
end Go.AM
namespace Go.AM

theorem pure_int {P : Program} {f : Nat} {args : List AV} {k : IntKind} {n : Int} (hf : ∃ fn c, P.funcs[f]? = some fn ∧ fn.body = some c ∧ (fn.name == "runtime.NumGoroutine") = false)
    (h : ∀ (w : World) (E : Env) (vs : Array Value), args.length = vs.size → (∀ (k : Nat) c, args[k]? = some c → Val E .no c (vs.getD k undef)) →
      Calls P f vs w fun e w' => e = .returned (.int k n) ∧ w' = w) : Pure P f args (.i k n) := by
  refine ⟨hf, fun w β ω Pub vs R hω hl hv => ?_⟩
  refine (h w _ vs hl hv).mono ?_
  rintro e w' ⟨rfl, rfl⟩
  have hω0 : ∀ bk, ω bk = none := fun bk => by
    cases hq : ω bk with
    | none => rfl
    | some q => have := hω bk q hq; cases q <;> simp [inBx] at this
  have hpl : ∀ bk, Pub bk → bk < w'.heap.size := fun bk h => (R.pub bk h).1
  refine ⟨_, ⟨w', β, fun _ => none, Pub, St.ofBoxes [], #[]⟩, rfl, rfl, ⟨⟨rfl, fun t => .any _ _, fun id cs h => (by cases h), fun bk h => ⟨hpl bk h, rfl⟩, fun bk q h => (by cases h), fun id h => by cases h⟩, ⟨rfl, rfl, rfl, Nat.le_refl _, fun k hk _ => rfl, fun k q h => (by cases h), fun _ h => h, fun _ h => .inl h, fun _ _ => rfl⟩⟩, rfl, fun bk q h => (by cases h), .i _ _ _⟩
end Go.AM
namespace Go.AM
open Go.Proofs Go.Shelf Go.RowKit Go.Lib
theorem pure_cmpS {P : Program} {ρ : Ren} (L : Lays.n106 P ρ) (a b : ByteArray) : Pure P (ρ.f 106) [.s a, .s b] (.i .i64 (Lib.compareBytes a.data.toList b.data.toList)) := by
  refine pure_int ⟨_, _, L.f106, rfl, rfl⟩ fun w E vs hl hv => ?_
  have hvs : vs = #[.string a, .string b] := by
    have e0 := hv 0 _ rfl
    have e1 := hv 1 _ rfl
    have e2 : vs.getD 0 undef = .string a := by
      generalize vs.getD 0 undef = v at e0
      cases e0; rfl
    have e3 : vs.getD 1 undef = .string b := by
      generalize vs.getD 1 undef = v at e1
      cases e1; rfl
    have hsz : vs.size = 2 := hl.symm
    apply Array.ext
    · rw [hsz]; rfl
    · intro j hj hj2
      rw [hsz] at hj
      match j, hj with
      | 0, _ => rw [Array.getD_eq_getD_getElem?, Array.getElem?_eq_getElem (by omega)] at e2; exact e2
      | 1, _ => rw [Array.getD_eq_getD_getElem?, Array.getElem?_eq_getElem (by omega)] at e3; exact e3
  subst hvs
  exact Any.strings_Compare L a b w
end Go.AM
namespace Go.Proofs
def Try.cmpS_ren : Go.Shelf.Ren := ⟨fun | 106 => 81 | 213 => 106 | 265 => 117 | n => n, fun | 3 => 3 | 9 => 9 | n => n, fun | n => n⟩
theorem Try.cmpS : Lays.n106 Try.prog Try.cmpS_ren := {
  mixed := by kernel_rfl,
  f106 := Try.func81.trans (congrArg some (by kernel_rfl)),
  f213 := Try.func106.trans (congrArg some (by kernel_rfl)),
  f265 := Try.func117.trans (congrArg some (by kernel_rfl)),
  t3 := Try.underlying3,
  a3 := Try.isAgg3,
  z3 := Try.sizeOf3,
  v3 := Try.zeroValue3,
  t9 := Try.underlying9,
  a9 := Try.isAgg9,
  z9 := Try.sizeOf9,
  v9 := Try.zeroValue9 }
end Go.Proofs
namespace Go.AM
open Go.Proofs
def cmpK (a b : ByteArray) : Int := Lib.compareBytes a.data.toList b.data.toList
theorem c_Compare (a b : ByteArray) : Pure Try.prog 81 [.s a, .s b] (.i .i64 (cmpK a b)) := pure_cmpS Try.cmpS a b

theorem c_rwset_at1 (e : Entry) (k : ByteArray) : Pure Try.prog 80 [.agg (entC e), .s k] (.i .i64 (cmpK e.key k)) := by
  refine proc_of (cx Try.prog 9 [1, 2, 4] [4]) 7 [.tmp 4] Try.func80 rfl rfl rfl rfl rfl rfl (Nat.le_refl _) rfl ?_
  refine AWp.go [1, 2] [2] fun K hK => ?_
  simp [entC]
  first | refine hK _ _ ?_ | refine ⟨by omega, hK _ _ ?_⟩ | refine ⟨by omega, by omega, hK _ _ ?_⟩
  clear hK K
  refine AWp.go [4] [] fun K hK => ?_
  simp
  refine call_pure (c_Compare e.key k) (by simp) ?_
  simp
  first | refine hK _ _ ?_ | refine ⟨by omega, hK _ _ ?_⟩ | refine ⟨by omega, by omega, hK _ _ ?_⟩
  clear hK K
  refine AWp.ret ?_
  simp

def bsF (p : Nat → Bool) (lo hi : Nat) : Nat := if lo < hi then (if p ((lo + hi) / 2) then bsF p ((lo + hi) / 2 + 1) hi else bsF p lo ((lo + hi) / 2)) else lo
termination_by hi - lo
decreasing_by all_goals omega
theorem bsF_le (p : Nat → Bool) (lo hi : Nat) (h : lo ≤ hi) : bsF p lo hi ≤ hi := by
  induction lo, hi using bsF.induct p with
  | case1 lo hi h1 h2 ih => rw [bsF, if_pos h1, if_pos h2]; exact ih (by omega)
  | case2 lo hi h1 h2 ih => rw [bsF, if_pos h1, if_neg h2]; have := ih (by omega); omega
  | case3 lo hi h1 => rw [bsF, if_neg h1]; exact h
theorem bsF_done (p : Nat → Bool) (n : Nat) : bsF p n n = n := by rw [bsF, if_neg (Nat.lt_irrefl n)]
theorem mid_wrap {lo hi m : Nat} (h : lo + hi ≤ 4611686018427387904) (hm : m = (lo + hi) / 2) : IntKind.i64.wrap ((IntKind.u64.wrap ((lo : Int) + hi)).fdiv (2 ^ min 1 IntKind.u64.bits)) = m := by
  have w1 : IntKind.u64.wrap ((lo : Int) + hi) = lo + hi := by
    unfold IntKind.wrap
    simp [IntKind.bits, IntKind.signed]
    omega
  have e1 : (2 : Int) ^ min 1 IntKind.u64.bits = 2 := rfl
  rw [w1, e1, Int.fdiv_eq_ediv_of_nonneg _ (by omega), show ((lo : Int) + hi) / 2 = (m : Int) by omega]
  exact wrap64 (by omega) (by omega)
def less (s : List Entry) (k : ByteArray) (i : Nat) : Bool := match s[i]? with
  | some e => decide (cmpK e.key k < 0)
  | none => false
def place (s : List Entry) (k : ByteArray) : Nat := bsF (less s k) 0 s.length
def there (s : List Entry) (k : ByteArray) : Bool := match s[place s k]? with
  | some e => decide (cmpK e.key k = 0)
  | none => false

set_option maxRecDepth 8000 in
set_option maxHeartbeats 2000000 in
theorem c_BSearch_Entry (s : List Entry) (k : ByteArray) (hs : Fine s) : Pure Try.prog 79 [.sl .fro 3 (entsAV s), .s k, .fn 80 [] []] (.tup [.i .i64 (place s k), .b (there s k)]) := by
  refine proc_of (cx Try.prog 49 [0, 1, 2, 6, 7, 8, 9, 10, 11, 17, 31] [6, 7]) 46 [.tmp 6, .tmp 7] Try.func79 rfl rfl rfl rfl rfl rfl (Nat.le_refl _) rfl ?_
  refine AWp.go [0, 1, 2] [] fun K hK => ?_
  simp
  first | refine hK _ _ ?_ | refine ⟨by omega, hK _ _ ?_⟩ | refine ⟨by omega, by omega, hK _ _ ?_⟩
  clear hK K
  refine AWp.go [0, 1, 2, 8] [] fun K hK => ?_
  simp
  first | refine hK _ _ ?_ | refine ⟨by omega, hK _ _ ?_⟩ | refine ⟨by omega, by omega, hK _ _ ?_⟩
  clear hK K
  refine AWp.go [0, 1, 2, 8, 9, 10] [] fun K hK => ?_
  simp
  first | refine hK _ _ ?_ | refine ⟨by omega, hK _ _ ?_⟩ | refine ⟨by omega, by omega, hK _ _ ?_⟩
  clear hK K
  refine AWp.seq ?_
  refine AWp.block (AWp.while (fun p : Nat × Nat => [(0, .sl .fro 3 (entsAV s)), (1, .s k), (2, .fn 80 [] []), (8, .i .i64 s.length), (9, .i .i64 p.1), (10, .i .i64 p.2)]) (fun p => []) (fun p => p.1 ≤ p.2 ∧ p.2 ≤ s.length ∧ bsF (less s k) p.1 p.2 = place s k) (fun p => p.2 - p.1) [0, 1, 2, 8, 9, 10] [] (0, s.length) (by exact ⟨Nat.zero_le _, Nat.le_refl _, rfl⟩) (by simp) ?_)
  rintro ⟨lo, hi⟩ ⟨h1, h2, h3⟩
  have hlen := hs.1
  refine AWp.seq ?_
  refine AWp.go [0, 1, 2, 8, 9, 10, 17] [] fun K hK => ?_
  simp
  first | refine hK _ _ ?_ | refine ⟨by omega, hK _ _ ?_⟩ | refine ⟨by omega, by omega, hK _ _ ?_⟩
  clear hK K
  by_cases h : lo < hi
  · refine AWp.cond (t := true) (by first | (simp [h]; done) | (simp [h]; omega)) (fun _ => ?_) (by simp)
    refine AWp.skip ?_
    show AWp _ _ _ _
    refine AWp.block ?_
    obtain ⟨m, hm⟩ : ∃ m : Nat, m = (lo + hi) / 2 := ⟨_, rfl⟩
    have hml : m < s.length := by omega
    refine AWp.step [0, 1, 2, 8, 9, 10, 11] [] [(0, .sl .fro 3 (entsAV s)), (1, .s k), (2, .fn 80 [] []), (8, .i .i64 s.length), (9, .i .i64 lo), (10, .i .i64 hi), (11, .i .i64 m)] [] ?_ ?_
    · have w1 : IntKind.i64.wrap ((lo : Int) + hi) = (lo : Int) + hi := wrap64 (by omega) (by omega)
      simp [w1]
      exact mid_wrap (by omega) hm
    refine AWp.go [0, 1, 2, 8, 9, 10, 11, 31] [] fun K hK => ?_
    simp [hml]
    refine call_pure (c_rwset_at1 s[m] k) (by simp [entC]) ?_
    simp
    first | refine hK _ _ ?_ | refine ⟨by omega, hK _ _ ?_⟩ | refine ⟨by omega, by omega, hK _ _ ?_⟩
    clear hK K
    by_cases hp : cmpK s[m].key k < 0
    · refine AWp.cond (t := true) (by first | (simp [hp]; done) | (simp [hp]; omega)) (fun _ => ?_) (by simp)
      refine AWp.goLast [0, 1, 2, 8, 9, 10] [] fun K hK => ?_
      simp (disch := omega) [wrap64]
      first | refine hK _ _ ?_ | refine ⟨by omega, hK _ _ ?_⟩ | refine ⟨by omega, by omega, hK _ _ ?_⟩
      clear hK K
      refine ⟨(m + 1, hi), ⟨by simp; omega, h2, ?_⟩, by simp; omega, ?_⟩
      · rw [bsF, if_pos h, ← hm, if_pos (by simp [less, hml, hp])] at h3
        exact h3
      · simp
    · refine AWp.cond (t := false) (by first | (simp [hp]; done) | (simp [hp]; omega)) (by simp) (fun _ => ?_)
      refine AWp.goLast [0, 1, 2, 8, 9, 10] [] fun K hK => ?_
      simp
      first | refine hK _ _ ?_ | refine ⟨by omega, hK _ _ ?_⟩ | refine ⟨by omega, by omega, hK _ _ ?_⟩
      clear hK K
      refine ⟨(lo, m), ⟨by simp; omega, by simp; omega, ?_⟩, by simp; omega, ?_⟩
      · rw [bsF, if_pos h, ← hm, if_neg (by simp [less, hml, hp])] at h3
        exact h3
      · simp
  · refine AWp.cond (t := false) (by first | (simp [h]; done) | (simp [h]; omega)) (by simp) (fun _ => ?_)
    refine AWp.exit ?_
    show AWp _ _ _ _
    obtain rfl : lo = hi := by omega
    rw [bsF_done] at h3
    refine AWp.step [6, 7] [] [(6, .i .i64 (place s k)), (7, .b (there s k))] [] ?_ ?_
    · by_cases hq : lo < s.length
      · simp [hq, there, ← h3]
        refine call_pure (c_rwset_at1 s[lo] k) (by simp [entC]) ?_
        simp
      · simp [hq, there, ← h3]
    refine AWp.ret ?_
    simp

def atE (s : List Entry) (k : ByteArray) : Entry := if there s k then s.getD (place s k) (emptyE k) else emptyE k
theorem place_le (s : List Entry) (k : ByteArray) : place s k ≤ s.length := bsF_le _ _ _ (Nat.zero_le _)
theorem there_lt {s : List Entry} {k : ByteArray} (h : there s k = true) : place s k < s.length := by
  unfold there at h
  by_cases hq : place s k < s.length
  · exact hq
  · rw [List.getElem?_eq_none (by omega)] at h
    cases h

set_option maxRecDepth 8000 in
set_option maxHeartbeats 2000000 in
theorem c_rwset_at (s : List Entry) (k : ByteArray) (hs : Fine s) : Pure Try.prog 49 [.sl .fro 3 (entsAV s), .s k] (.tup [.i .i64 (place s k), .agg (entC (atE s k)), .b (there s k)]) := by
  refine proc_of (cx Try.prog 24 [0, 1, 4, 5, 6, 7, 8, 15] [4, 5, 6]) 22 [.tmp 4, .cell 5 60, .tmp 6] Try.func49 rfl rfl rfl rfl rfl rfl (Nat.le_refl _) rfl ?_
  refine AWp.go [0, 1, 5] [5] fun K hK => ?_
  simp
  first | refine hK _ _ ?_ | refine ⟨by omega, hK _ _ ?_⟩ | refine ⟨by omega, by omega, hK _ _ ?_⟩
  clear hK K
  refine AWp.go [0, 1, 5, 7, 8] [5] fun K hK => ?_
  simp
  refine call_pure (c_BSearch_Entry s k hs) (by simp) ?_
  simp
  first | refine hK _ _ ?_ | refine ⟨by omega, hK _ _ ?_⟩ | refine ⟨by omega, by omega, hK _ _ ?_⟩
  clear hK K
  refine AWp.seq ?_
  have hpl := place_le s k
  refine AWp.go [0, 1, 5, 7, 15] [5] fun K hK => ?_
  simp
  first | refine hK _ _ ?_ | refine ⟨by omega, hK _ _ ?_⟩ | refine ⟨by omega, by omega, hK _ _ ?_⟩
  clear hK K
  by_cases hp : there s k = true
  · refine AWp.cond (t := true) (by first | (simp [hp]; done) | (simp [hp]; omega)) (fun _ => ?_) (by simp)
    have hlt := there_lt hp
    refine AWp.stepD 6 (fun _ => .any) [4, 5, 6] [5] [(4, .i .i64 (place s k)), (5, .ptr 5 0), (6, .b true)] [(5, [.s s[place s k].key, .sl .fro 2 (dotsAV s[place s k].live), .sl .fro 2 (dotsAV s[place s k].dead)])] mix (by kernel_rfl) ?_ ?_
    · simp [hlt]
    refine AWp.ret ?_
    simp [atE, hp, hlt, entC]
  · refine AWp.cond (t := false) (by first | (simp [hp]; done) | (simp [hp]; omega)) (by simp) (fun _ => ?_)
    refine AWp.skip ?_
    show AWp _ _ _ _
    refine AWp.go [4, 5, 6] [5] fun K hK => ?_
    simp
    first | refine hK _ _ ?_ | refine ⟨by omega, hK _ _ ?_⟩ | refine ⟨by omega, by omega, hK _ _ ?_⟩
    clear hK K
    refine AWp.ret ?_
    simp [atE, hp, emptyE, entC, dotsAV]

theorem c_Clone_Entry (s : List Entry) (hs : Fine s) : Pure Try.prog 85 [.sl .fro 3 (entsAV s)] (.sl .own 3 (entsAV s)) := by
  have hlen := hs.1
  refine proc_of (cx Try.prog 8 [0, 2, 4] [2]) 7 [.tmp 2] Try.func85 rfl rfl rfl rfl rfl rfl (Nat.le_refl _) rfl ?_
  refine AWp.go [0] [] fun K hK => ?_
  simp
  first | refine hK _ _ ?_ | refine ⟨by omega, hK _ _ ?_⟩ | refine ⟨by omega, by omega, hK _ _ ?_⟩
  clear hK K
  refine AWp.seq ?_
  refine AWp.go [0, 4] [] fun K hK => ?_
  simp
  refine ⟨fun h0 => hK _ _ ?_, hK _ _ ?_⟩
  · clear hK K
    refine AWp.cond (t := true) (by first | (simp; done) | (simp; omega)) (fun _ => ?_) (by simp)
    refine AWp.go [2] [] fun K hK => ?_
    simp
    first | refine hK _ _ ?_ | refine ⟨by omega, hK _ _ ?_⟩ | refine ⟨by omega, by omega, hK _ _ ?_⟩
    clear hK K
    refine AWp.ret ?_
    simp [h0]
  · clear hK K
    refine AWp.cond (t := false) (by first | (simp; done) | (simp; omega)) (by simp) (fun _ => ?_)
    refine AWp.skip ?_
    show AWp _ _ _ _
    refine AWp.go [2] [] fun K hK => ?_
    simp
    first | refine hK _ _ ?_ | refine ⟨by omega, hK _ _ ?_⟩ | refine ⟨by omega, by omega, hK _ _ ?_⟩
    clear hK K
    refine AWp.ret ?_
    simp

theorem entC_ok : EncOk entC 3 := ⟨fun _ => rfl, fun x c hc => by simp [entC] at hc; rcases hc with rfl | rfl | rfl <;> rfl⟩
theorem entR_get (l : List Entry) (pad : List AV) (i : Nat) (h : i < l.length) : ((boxR entC l pad).drop (i * 3)).take 3 = [.s l[i].key, .sl .fro 2 (dotsAV l[i].live), .sl .fro 2 (dotsAV l[i].dead)] := boxR_get entC_ok l pad i h
theorem take3_1 {x y z : AV} {L : List AV} {j : Nat} (h : (L.drop j).take 3 = [x, y, z]) : L[j + 1]? = some y ∧ L[j + 2]? = some z := by
  have e : ∀ n, L[j + n]? = (L.drop j)[n]? := fun n => by rw [List.getElem?_drop]
  rw [e, e]
  match L.drop j, h with
  | [], h => simp at h
  | [_], h => simp at h
  | [_, _], h => simp at h
  | a :: b :: c :: m, h => simp at h; simp [h.2.1, h.2.2]
theorem put_same {L : List AV} {j : Nat} {y : AV} (h : L[j]? = some y) : L.take j ++ y :: L.drop (j + 1) = L := by
  obtain ⟨hj, h⟩ := List.getElem?_eq_some_iff.1 h
  subst h
  rw [← List.drop_eq_getElem_cons hj, List.take_append_drop]
theorem set_same {L : List AV} {j : Nat} {y : AV} (h : L[j]? = some y) : L.set j y = L := by
  obtain ⟨hj, h⟩ := List.getElem?_eq_some_iff.1 h
  subst h
  exact List.set_getElem_self hj
theorem ents_dat (l : List Entry) : ((entsAV l).flatten.all fun c => c.data && c.cellOk) = true := by
  rw [List.all_eq_true]
  intro c hc
  obtain ⟨y, hy, hc⟩ := List.mem_flatten.1 hc
  obtain ⟨x, _, rfl⟩ := List.mem_map.1 hy
  simp [entC] at hc
  rcases hc with rfl | rfl | rfl <;> rfl

set_option maxRecDepth 8000 in
set_option maxHeartbeats 4000000 in
theorem c_rwset_copied1 (s : List Entry) (hs : Fine s) (hne : s ≠ []) : Pure Try.prog 51 [.sl .fro 3 (entsAV s)] (.sl .own 3 (entsAV s)) := by
  refine proc_of (cx Try.prog 34 [0, 2, 3, 4, 8, 9, 10] [2]) 33 [.tmp 2] Try.func51 rfl rfl rfl rfl rfl rfl (Nat.le_refl _) rfl ?_
  refine AWp.go [0] [] fun K hK => ?_
  simp
  first | refine hK _ _ ?_ | refine ⟨by omega, hK _ _ ?_⟩ | refine ⟨by omega, by omega, hK _ _ ?_⟩
  clear hK K
  refine AWp.go [3] [] fun K hK => ?_
  simp
  refine call_pure (c_Clone_Entry s hs) (by simp) ?_
  simp
  first | refine hK _ _ ?_ | refine ⟨by omega, hK _ _ ?_⟩ | refine ⟨by omega, by omega, hK _ _ ?_⟩
  clear hK K
  refine AWp.unown 3 100 rfl (by simp) (by simpa [entsAV] using hne) rfl (by simp) fun cap hcap => ?_
  simp at hcap
  have hlen := hs.1
  have hcc : Calm (boxR entC s (List.replicate ((cap - s.length) * 3) AV.any)) := boxR_calm entC_ok (Calm.replicate _ rfl)
  have hbl := boxR_len entC_ok s (List.replicate ((cap - s.length) * 3) AV.any)
  simp at hbl
  have e0 : (entsAV s).flatten ++ List.replicate ((cap - s.length) * 3) AV.any = boxR entC s (List.replicate ((cap - s.length) * 3) AV.any) := rfl
  simp [e0]
  refine AWp.seq ?_
  refine AWp.go [3, 8, 9] [100] fun K hK => ?_
  simp [hcc]
  first | refine hK _ _ ?_ | refine ⟨by omega, hK _ _ ?_⟩ | refine ⟨by omega, by omega, hK _ _ ?_⟩
  clear hK K
  refine AWp.block (AWp.while (fun i : Nat => [(3, .bs 100 0 s.length cap), (8, .i .i64 s.length), (9, .i .i64 i)]) (fun i => [(100, boxR entC s (List.replicate ((cap - s.length) * 3) AV.any))]) (fun i => i ≤ s.length) (fun i => s.length - i) [3, 8, 9] [100] 0 (by simp) (by simp [hcc]) ?_)
  intro i hi
  refine AWp.go [3, 8, 9, 10] [100] fun K hK => ?_
  simp [hcc]
  first | refine hK _ _ ?_ | refine ⟨by omega, hK _ _ ?_⟩ | refine ⟨by omega, by omega, hK _ _ ?_⟩
  clear hK K
  refine AWp.seq ?_
  by_cases h2 : i < s.length
  · refine AWp.cond (t := true) (by first | (simp [h2]; done) | (simp [h2]; omega)) (fun _ => ?_) (by simp)
    refine AWp.skip ?_
    show AWp _ _ _ _
    refine AWp.seq ?_
    refine AWp.block ?_
    refine AWp.go [3, 4, 8, 9] [100] fun K hK => ?_
    simp [hcc]
    first | refine hK _ _ ?_ | refine ⟨by omega, hK _ _ ?_⟩ | refine ⟨by omega, by omega, hK _ _ ?_⟩
    clear hK K
    have hl := hs.2 _ (List.getElem_mem h2)
    have g1 := (c_Clone_Dot (dotsAV s[i].live) (by simp; omega)).fro
    have g2 := (c_Clone_Dot (dotsAV s[i].dead) (by simp; omega)).fro
    have q0 := entR_get s (List.replicate ((cap - s.length) * 3) AV.any) i h2
    have q1 := (take3_1 q0).1
    have q2 := (take3_1 q0).2
    have q3 := put_same q1
    have q4 := put_same q2
    have q5 := set_same q1
    have q6 := set_same q2
    refine AWp.lastT (.take 0 (.take 1 (.take 2 (.take 3 (.take 4 (.take 5 (.take 10 (.take 11 (.alt 6 (.take 7 (.alt 8 (.alt 9 (.alt 12 (.take 13 (.alt 14 (.alt 15 (.alt 16 (.take 17 (.alt 18 (.alt 19 (.take 20 (.alt 21 .fin .stop)) .stop) .stop)) .stop) .stop) .stop)) .stop) (.alt 12 (.take 13 (.alt 9 (.alt 14 (.alt 15 (.alt 16 (.take 17 (.alt 18 (.alt 19 (.take 20 (.alt 21 .fin .stop)) .stop) .stop)) .stop) .stop) .stop) (.alt 14 (.alt 9 (.alt 15 (.alt 16 (.take 17 (.alt 18 (.alt 19 (.take 20 (.alt 21 .fin .stop)) .stop) .stop)) .stop) .stop) .stop) .stop))) .stop)) (.alt 12 (.take 13 (.alt 8 (.alt 9 (.alt 14 (.alt 15 (.alt 16 (.take 17 (.alt 18 (.alt 19 (.take 20 (.alt 21 .fin .stop)) .stop) .stop)) .stop) .stop) .stop) (.alt 14 (.alt 9 (.alt 15 (.alt 16 (.take 17 (.alt 18 (.alt 19 (.take 20 (.alt 21 .fin .stop)) .stop) .stop)) .stop) .stop) .stop) .stop)) (.alt 14 (.alt 8 (.alt 9 (.alt 15 (.alt 16 (.take 17 (.alt 18 (.alt 19 (.take 20 (.alt 21 .fin .stop)) .stop) .stop)) .stop) .stop) .stop) .stop) .stop))) .stop))) (.alt 12 (.take 13 (.alt 6 (.take 7 (.alt 8 (.alt 9 (.alt 14 (.alt 15 (.alt 16 (.take 17 (.alt 18 (.alt 19 (.take 20 (.alt 21 .fin .stop)) .stop) .stop)) .stop) .stop) .stop) (.alt 14 (.alt 9 (.alt 15 (.alt 16 (.take 17 (.alt 18 (.alt 19 (.take 20 (.alt 21 .fin .stop)) .stop) .stop)) .stop) .stop) .stop) .stop)) (.alt 14 (.alt 8 (.alt 9 (.alt 15 (.alt 16 (.take 17 (.alt 18 (.alt 19 (.take 20 (.alt 21 .fin .stop)) .stop) .stop)) .stop) .stop) .stop) .stop) .stop))) (.alt 14 (.alt 6 (.take 7 (.alt 8 (.alt 9 (.alt 15 (.alt 16 (.take 17 (.alt 18 (.alt 19 (.take 20 (.alt 21 .fin .stop)) .stop) .stop)) .stop) .stop) .stop) .stop)) .stop) .stop))) .stop)))))))))) [3, 8, 9] [100] [(3, .bs 100 0 s.length cap), (8, .i .i64 s.length), (9, .i .i64 i)] [(100, boxR entC s (List.replicate ((cap - s.length) * 3) AV.any))] mix (by kernel_rfl) ?_ ?_
    · refine atree.tk fun K1 h1 => ?_
      simp
      first | refine h1 _ _ ?_ | refine ⟨by omega, h1 _ _ ?_⟩ | refine ⟨by omega, by omega, h1 _ _ ?_⟩
      clear h1 K1
      refine atree.tk fun K1 h1 => ?_
      simp
      first | refine h1 _ _ ?_ | refine ⟨by omega, h1 _ _ ?_⟩ | refine ⟨by omega, by omega, h1 _ _ ?_⟩
      clear h1 K1
      refine atree.tk fun K1 h1 => ?_
      simp
      first | refine h1 _ _ ?_ | refine ⟨by omega, h1 _ _ ?_⟩ | refine ⟨by omega, by omega, h1 _ _ ?_⟩
      clear h1 K1
      refine atree.tk fun K1 h1 => ?_
      simp
      first | refine h1 _ _ ?_ | refine ⟨by omega, h1 _ _ ?_⟩ | refine ⟨by omega, by omega, h1 _ _ ?_⟩
      clear h1 K1
      refine atree.tk fun K1 h1 => ?_
      simp
      first | refine h1 _ _ ?_ | refine ⟨by omega, h1 _ _ ?_⟩ | refine ⟨by omega, by omega, h1 _ _ ?_⟩
      clear h1 K1
      refine atree.tk fun K1 h1 => ?_
      simp
      first | refine h1 _ _ ?_ | refine ⟨by omega, h1 _ _ ?_⟩ | refine ⟨by omega, by omega, h1 _ _ ?_⟩
      clear h1 K1
      refine atree.tk fun K1 h1 => ?_
      simp
      first | refine h1 _ _ ?_ | refine ⟨by omega, h1 _ _ ?_⟩ | refine ⟨by omega, by omega, h1 _ _ ?_⟩
      clear h1 K1
      refine atree.tk fun K1 h1 => ?_
      simp
      first | refine h1 _ _ ?_ | refine ⟨by omega, h1 _ _ ?_⟩ | refine ⟨by omega, by omega, h1 _ _ ?_⟩
      clear h1 K1
      refine atree.al (fun K1 h1 => ?_) ?_
      · simp [h2]
        first | refine h1 _ _ ?_ | refine ⟨by omega, h1 _ _ ?_⟩ | refine ⟨by omega, by omega, h1 _ _ ?_⟩
        clear h1 K1
        refine atree.tk fun K1 h1 => ?_
        simp
        first | refine h1 _ _ ?_ | refine ⟨by omega, h1 _ _ ?_⟩ | refine ⟨by omega, by omega, h1 _ _ ?_⟩
        clear h1 K1
        refine atree.al (fun K1 h1 => ?_) ?_
        · simp [hbl, q1]
          first | refine h1 _ _ ?_ | refine ⟨by omega, h1 _ _ ?_⟩ | refine ⟨by omega, by omega, h1 _ _ ?_⟩
          clear h1 K1
          refine atree.al (fun K1 h1 => ?_) ?_
          · simp
            refine call_pure g1 (by simp) ?_
            simp
            first | refine h1 _ _ ?_ | refine ⟨by omega, h1 _ _ ?_⟩ | refine ⟨by omega, by omega, h1 _ _ ?_⟩
            clear h1 K1
            refine atree.a1 fun K1 h1 => ?_
            simp [h2, hcc]
            first | refine h1 _ _ ?_ | refine ⟨by omega, h1 _ _ ?_⟩ | refine ⟨by omega, by omega, h1 _ _ ?_⟩
            clear h1 K1
            refine atree.tk fun K1 h1 => ?_
            simp
            first | refine h1 _ _ ?_ | refine ⟨by omega, h1 _ _ ?_⟩ | refine ⟨by omega, by omega, h1 _ _ ?_⟩
            clear h1 K1
            refine atree.a1 fun K1 h1 => ?_
            simp [hbl, q2]
            first | refine h1 _ _ ?_ | refine ⟨by omega, h1 _ _ ?_⟩ | refine ⟨by omega, by omega, h1 _ _ ?_⟩
            clear h1 K1
            refine atree.a1 fun K1 h1 => ?_
            simp
            refine call_pure g2 (by simp) ?_
            simp
            first | refine h1 _ _ ?_ | refine ⟨by omega, h1 _ _ ?_⟩ | refine ⟨by omega, by omega, h1 _ _ ?_⟩
            clear h1 K1
            refine atree.a1 fun K1 h1 => ?_
            simp [h2, hcc]
            first | refine h1 _ _ ?_ | refine ⟨by omega, h1 _ _ ?_⟩ | refine ⟨by omega, by omega, h1 _ _ ?_⟩
            clear h1 K1
            refine atree.tk fun K1 h1 => ?_
            simp
            first | refine h1 _ _ ?_ | refine ⟨by omega, h1 _ _ ?_⟩ | refine ⟨by omega, by omega, h1 _ _ ?_⟩
            clear h1 K1
            refine atree.a1 fun K1 h1 => ?_
            simp [hcc, hbl, q3]
            first | refine h1 _ _ ?_ | refine ⟨by omega, h1 _ _ ?_⟩ | refine ⟨by omega, by omega, h1 _ _ ?_⟩
            clear h1 K1
            refine atree.a1 fun K1 h1 => ?_
            simp [h2]
            first | refine h1 _ _ ?_ | refine ⟨by omega, h1 _ _ ?_⟩ | refine ⟨by omega, by omega, h1 _ _ ?_⟩
            clear h1 K1
            refine atree.tk fun K1 h1 => ?_
            simp
            first | refine h1 _ _ ?_ | refine ⟨by omega, h1 _ _ ?_⟩ | refine ⟨by omega, by omega, h1 _ _ ?_⟩
            clear h1 K1
            refine atree.a1 fun K1 h1 => ?_
            simp [hcc, hbl, q4]
            first | refine h1 _ _ ?_ | refine ⟨by omega, h1 _ _ ?_⟩ | refine ⟨by omega, by omega, h1 _ _ ?_⟩
            clear h1 K1
            simp [hcc]
          · refine atree.a1 fun K1 h1 => ?_
            simp [h2]
            first | refine h1 _ _ ?_ | refine ⟨by omega, h1 _ _ ?_⟩ | refine ⟨by omega, by omega, h1 _ _ ?_⟩
            clear h1 K1
            refine atree.tk fun K1 h1 => ?_
            simp
            first | refine h1 _ _ ?_ | refine ⟨by omega, h1 _ _ ?_⟩ | refine ⟨by omega, by omega, h1 _ _ ?_⟩
            clear h1 K1
            refine atree.al (fun K1 h1 => ?_) ?_
            · simp
              refine call_pure g1 (by simp) ?_
              simp
              first | refine h1 _ _ ?_ | refine ⟨by omega, h1 _ _ ?_⟩ | refine ⟨by omega, by omega, h1 _ _ ?_⟩
              clear h1 K1
              refine atree.a1 fun K1 h1 => ?_
              simp [hcc, hbl, q2]
              first | refine h1 _ _ ?_ | refine ⟨by omega, h1 _ _ ?_⟩ | refine ⟨by omega, by omega, h1 _ _ ?_⟩
              clear h1 K1
              refine atree.a1 fun K1 h1 => ?_
              simp
              refine call_pure g2 (by simp) ?_
              simp
              first | refine h1 _ _ ?_ | refine ⟨by omega, h1 _ _ ?_⟩ | refine ⟨by omega, by omega, h1 _ _ ?_⟩
              clear h1 K1
              refine atree.a1 fun K1 h1 => ?_
              simp [h2, hcc]
              first | refine h1 _ _ ?_ | refine ⟨by omega, h1 _ _ ?_⟩ | refine ⟨by omega, by omega, h1 _ _ ?_⟩
              clear h1 K1
              refine atree.tk fun K1 h1 => ?_
              simp
              first | refine h1 _ _ ?_ | refine ⟨by omega, h1 _ _ ?_⟩ | refine ⟨by omega, by omega, h1 _ _ ?_⟩
              clear h1 K1
              refine atree.a1 fun K1 h1 => ?_
              simp [hcc, hbl, q3]
              first | refine h1 _ _ ?_ | refine ⟨by omega, h1 _ _ ?_⟩ | refine ⟨by omega, by omega, h1 _ _ ?_⟩
              clear h1 K1
              refine atree.a1 fun K1 h1 => ?_
              simp [h2]
              first | refine h1 _ _ ?_ | refine ⟨by omega, h1 _ _ ?_⟩ | refine ⟨by omega, by omega, h1 _ _ ?_⟩
              clear h1 K1
              refine atree.tk fun K1 h1 => ?_
              simp
              first | refine h1 _ _ ?_ | refine ⟨by omega, h1 _ _ ?_⟩ | refine ⟨by omega, by omega, h1 _ _ ?_⟩
              clear h1 K1
              refine atree.a1 fun K1 h1 => ?_
              simp [hcc, hbl, q4]
              first | refine h1 _ _ ?_ | refine ⟨by omega, h1 _ _ ?_⟩ | refine ⟨by omega, by omega, h1 _ _ ?_⟩
              clear h1 K1
              simp [hcc]
            · refine atree.a1 fun K1 h1 => ?_
              simp [hbl, q2]
              first | refine h1 _ _ ?_ | refine ⟨by omega, h1 _ _ ?_⟩ | refine ⟨by omega, by omega, h1 _ _ ?_⟩
              clear h1 K1
              refine atree.a1 fun K1 h1 => ?_
              simp
              refine call_pure g1 (by simp) ?_
              simp
              first | refine h1 _ _ ?_ | refine ⟨by omega, h1 _ _ ?_⟩ | refine ⟨by omega, by omega, h1 _ _ ?_⟩
              clear h1 K1
              refine atree.a1 fun K1 h1 => ?_
              simp [hcc]
              refine call_pure g2 (by simp) ?_
              simp
              first | refine h1 _ _ ?_ | refine ⟨by omega, h1 _ _ ?_⟩ | refine ⟨by omega, by omega, h1 _ _ ?_⟩
              clear h1 K1
              refine atree.a1 fun K1 h1 => ?_
              simp [h2, hcc]
              first | refine h1 _ _ ?_ | refine ⟨by omega, h1 _ _ ?_⟩ | refine ⟨by omega, by omega, h1 _ _ ?_⟩
              clear h1 K1
              refine atree.tk fun K1 h1 => ?_
              simp
              first | refine h1 _ _ ?_ | refine ⟨by omega, h1 _ _ ?_⟩ | refine ⟨by omega, by omega, h1 _ _ ?_⟩
              clear h1 K1
              refine atree.a1 fun K1 h1 => ?_
              simp [hcc, hbl, q3]
              first | refine h1 _ _ ?_ | refine ⟨by omega, h1 _ _ ?_⟩ | refine ⟨by omega, by omega, h1 _ _ ?_⟩
              clear h1 K1
              refine atree.a1 fun K1 h1 => ?_
              simp [h2]
              first | refine h1 _ _ ?_ | refine ⟨by omega, h1 _ _ ?_⟩ | refine ⟨by omega, by omega, h1 _ _ ?_⟩
              clear h1 K1
              refine atree.tk fun K1 h1 => ?_
              simp
              first | refine h1 _ _ ?_ | refine ⟨by omega, h1 _ _ ?_⟩ | refine ⟨by omega, by omega, h1 _ _ ?_⟩
              clear h1 K1
              refine atree.a1 fun K1 h1 => ?_
              simp [hcc, hbl, q4]
              first | refine h1 _ _ ?_ | refine ⟨by omega, h1 _ _ ?_⟩ | refine ⟨by omega, by omega, h1 _ _ ?_⟩
              clear h1 K1
              simp [hcc]
        · refine atree.a1 fun K1 h1 => ?_
          simp [h2]
          first | refine h1 _ _ ?_ | refine ⟨by omega, h1 _ _ ?_⟩ | refine ⟨by omega, by omega, h1 _ _ ?_⟩
          clear h1 K1
          refine atree.tk fun K1 h1 => ?_
          simp
          first | refine h1 _ _ ?_ | refine ⟨by omega, h1 _ _ ?_⟩ | refine ⟨by omega, by omega, h1 _ _ ?_⟩
          clear h1 K1
          refine atree.al (fun K1 h1 => ?_) ?_
          · simp [hbl, q1]
            first | refine h1 _ _ ?_ | refine ⟨by omega, h1 _ _ ?_⟩ | refine ⟨by omega, by omega, h1 _ _ ?_⟩
            clear h1 K1
            refine atree.al (fun K1 h1 => ?_) ?_
            · simp
              refine call_pure g1 (by simp) ?_
              simp
              first | refine h1 _ _ ?_ | refine ⟨by omega, h1 _ _ ?_⟩ | refine ⟨by omega, by omega, h1 _ _ ?_⟩
              clear h1 K1
              refine atree.a1 fun K1 h1 => ?_
              simp [hcc, hbl, q2]
              first | refine h1 _ _ ?_ | refine ⟨by omega, h1 _ _ ?_⟩ | refine ⟨by omega, by omega, h1 _ _ ?_⟩
              clear h1 K1
              refine atree.a1 fun K1 h1 => ?_
              simp
              refine call_pure g2 (by simp) ?_
              simp
              first | refine h1 _ _ ?_ | refine ⟨by omega, h1 _ _ ?_⟩ | refine ⟨by omega, by omega, h1 _ _ ?_⟩
              clear h1 K1
              refine atree.a1 fun K1 h1 => ?_
              simp [h2, hcc]
              first | refine h1 _ _ ?_ | refine ⟨by omega, h1 _ _ ?_⟩ | refine ⟨by omega, by omega, h1 _ _ ?_⟩
              clear h1 K1
              refine atree.tk fun K1 h1 => ?_
              simp
              first | refine h1 _ _ ?_ | refine ⟨by omega, h1 _ _ ?_⟩ | refine ⟨by omega, by omega, h1 _ _ ?_⟩
              clear h1 K1
              refine atree.a1 fun K1 h1 => ?_
              simp [hcc, hbl, q3]
              first | refine h1 _ _ ?_ | refine ⟨by omega, h1 _ _ ?_⟩ | refine ⟨by omega, by omega, h1 _ _ ?_⟩
              clear h1 K1
              refine atree.a1 fun K1 h1 => ?_
              simp [h2]
              first | refine h1 _ _ ?_ | refine ⟨by omega, h1 _ _ ?_⟩ | refine ⟨by omega, by omega, h1 _ _ ?_⟩
              clear h1 K1
              refine atree.tk fun K1 h1 => ?_
              simp
              first | refine h1 _ _ ?_ | refine ⟨by omega, h1 _ _ ?_⟩ | refine ⟨by omega, by omega, h1 _ _ ?_⟩
              clear h1 K1
              refine atree.a1 fun K1 h1 => ?_
              simp [hcc, hbl, q4]
              first | refine h1 _ _ ?_ | refine ⟨by omega, h1 _ _ ?_⟩ | refine ⟨by omega, by omega, h1 _ _ ?_⟩
              clear h1 K1
              simp [hcc]
            · refine atree.a1 fun K1 h1 => ?_
              simp [hbl, q2]
              first | refine h1 _ _ ?_ | refine ⟨by omega, h1 _ _ ?_⟩ | refine ⟨by omega, by omega, h1 _ _ ?_⟩
              clear h1 K1
              refine atree.a1 fun K1 h1 => ?_
              simp
              refine call_pure g1 (by simp) ?_
              simp
              first | refine h1 _ _ ?_ | refine ⟨by omega, h1 _ _ ?_⟩ | refine ⟨by omega, by omega, h1 _ _ ?_⟩
              clear h1 K1
              refine atree.a1 fun K1 h1 => ?_
              simp [hcc]
              refine call_pure g2 (by simp) ?_
              simp
              first | refine h1 _ _ ?_ | refine ⟨by omega, h1 _ _ ?_⟩ | refine ⟨by omega, by omega, h1 _ _ ?_⟩
              clear h1 K1
              refine atree.a1 fun K1 h1 => ?_
              simp [h2, hcc]
              first | refine h1 _ _ ?_ | refine ⟨by omega, h1 _ _ ?_⟩ | refine ⟨by omega, by omega, h1 _ _ ?_⟩
              clear h1 K1
              refine atree.tk fun K1 h1 => ?_
              simp
              first | refine h1 _ _ ?_ | refine ⟨by omega, h1 _ _ ?_⟩ | refine ⟨by omega, by omega, h1 _ _ ?_⟩
              clear h1 K1
              refine atree.a1 fun K1 h1 => ?_
              simp [hcc, hbl, q3]
              first | refine h1 _ _ ?_ | refine ⟨by omega, h1 _ _ ?_⟩ | refine ⟨by omega, by omega, h1 _ _ ?_⟩
              clear h1 K1
              refine atree.a1 fun K1 h1 => ?_
              simp [h2]
              first | refine h1 _ _ ?_ | refine ⟨by omega, h1 _ _ ?_⟩ | refine ⟨by omega, by omega, h1 _ _ ?_⟩
              clear h1 K1
              refine atree.tk fun K1 h1 => ?_
              simp
              first | refine h1 _ _ ?_ | refine ⟨by omega, h1 _ _ ?_⟩ | refine ⟨by omega, by omega, h1 _ _ ?_⟩
              clear h1 K1
              refine atree.a1 fun K1 h1 => ?_
              simp [hcc, hbl, q4]
              first | refine h1 _ _ ?_ | refine ⟨by omega, h1 _ _ ?_⟩ | refine ⟨by omega, by omega, h1 _ _ ?_⟩
              clear h1 K1
              simp [hcc]
          · refine atree.a1 fun K1 h1 => ?_
            simp [hbl, q2]
            first | refine h1 _ _ ?_ | refine ⟨by omega, h1 _ _ ?_⟩ | refine ⟨by omega, by omega, h1 _ _ ?_⟩
            clear h1 K1
            refine atree.a1 fun K1 h1 => ?_
            simp [hbl, q1]
            first | refine h1 _ _ ?_ | refine ⟨by omega, h1 _ _ ?_⟩ | refine ⟨by omega, by omega, h1 _ _ ?_⟩
            clear h1 K1
            refine atree.a1 fun K1 h1 => ?_
            simp
            refine call_pure g1 (by simp) ?_
            simp
            first | refine h1 _ _ ?_ | refine ⟨by omega, h1 _ _ ?_⟩ | refine ⟨by omega, by omega, h1 _ _ ?_⟩
            clear h1 K1
            refine atree.a1 fun K1 h1 => ?_
            simp [hcc]
            refine call_pure g2 (by simp) ?_
            simp
            first | refine h1 _ _ ?_ | refine ⟨by omega, h1 _ _ ?_⟩ | refine ⟨by omega, by omega, h1 _ _ ?_⟩
            clear h1 K1
            refine atree.a1 fun K1 h1 => ?_
            simp [h2, hcc]
            first | refine h1 _ _ ?_ | refine ⟨by omega, h1 _ _ ?_⟩ | refine ⟨by omega, by omega, h1 _ _ ?_⟩
            clear h1 K1
            refine atree.tk fun K1 h1 => ?_
            simp
            first | refine h1 _ _ ?_ | refine ⟨by omega, h1 _ _ ?_⟩ | refine ⟨by omega, by omega, h1 _ _ ?_⟩
            clear h1 K1
            refine atree.a1 fun K1 h1 => ?_
            simp [hcc, hbl, q3]
            first | refine h1 _ _ ?_ | refine ⟨by omega, h1 _ _ ?_⟩ | refine ⟨by omega, by omega, h1 _ _ ?_⟩
            clear h1 K1
            refine atree.a1 fun K1 h1 => ?_
            simp [h2]
            first | refine h1 _ _ ?_ | refine ⟨by omega, h1 _ _ ?_⟩ | refine ⟨by omega, by omega, h1 _ _ ?_⟩
            clear h1 K1
            refine atree.tk fun K1 h1 => ?_
            simp
            first | refine h1 _ _ ?_ | refine ⟨by omega, h1 _ _ ?_⟩ | refine ⟨by omega, by omega, h1 _ _ ?_⟩
            clear h1 K1
            refine atree.a1 fun K1 h1 => ?_
            simp [hcc, hbl, q4]
            first | refine h1 _ _ ?_ | refine ⟨by omega, h1 _ _ ?_⟩ | refine ⟨by omega, by omega, h1 _ _ ?_⟩
            clear h1 K1
            simp [hcc]
      · refine atree.a1 fun K1 h1 => ?_
        simp [h2]
        first | refine h1 _ _ ?_ | refine ⟨by omega, h1 _ _ ?_⟩ | refine ⟨by omega, by omega, h1 _ _ ?_⟩
        clear h1 K1
        refine atree.tk fun K1 h1 => ?_
        simp
        first | refine h1 _ _ ?_ | refine ⟨by omega, h1 _ _ ?_⟩ | refine ⟨by omega, by omega, h1 _ _ ?_⟩
        clear h1 K1
        refine atree.al (fun K1 h1 => ?_) ?_
        · simp [h2]
          first | refine h1 _ _ ?_ | refine ⟨by omega, h1 _ _ ?_⟩ | refine ⟨by omega, by omega, h1 _ _ ?_⟩
          clear h1 K1
          refine atree.tk fun K1 h1 => ?_
          simp
          first | refine h1 _ _ ?_ | refine ⟨by omega, h1 _ _ ?_⟩ | refine ⟨by omega, by omega, h1 _ _ ?_⟩
          clear h1 K1
          refine atree.al (fun K1 h1 => ?_) ?_
          · simp [hbl, q1]
            first | refine h1 _ _ ?_ | refine ⟨by omega, h1 _ _ ?_⟩ | refine ⟨by omega, by omega, h1 _ _ ?_⟩
            clear h1 K1
            refine atree.al (fun K1 h1 => ?_) ?_
            · simp
              refine call_pure g1 (by simp) ?_
              simp
              first | refine h1 _ _ ?_ | refine ⟨by omega, h1 _ _ ?_⟩ | refine ⟨by omega, by omega, h1 _ _ ?_⟩
              clear h1 K1
              refine atree.a1 fun K1 h1 => ?_
              simp [hcc, hbl, q2]
              first | refine h1 _ _ ?_ | refine ⟨by omega, h1 _ _ ?_⟩ | refine ⟨by omega, by omega, h1 _ _ ?_⟩
              clear h1 K1
              refine atree.a1 fun K1 h1 => ?_
              simp
              refine call_pure g2 (by simp) ?_
              simp
              first | refine h1 _ _ ?_ | refine ⟨by omega, h1 _ _ ?_⟩ | refine ⟨by omega, by omega, h1 _ _ ?_⟩
              clear h1 K1
              refine atree.a1 fun K1 h1 => ?_
              simp [h2, hcc]
              first | refine h1 _ _ ?_ | refine ⟨by omega, h1 _ _ ?_⟩ | refine ⟨by omega, by omega, h1 _ _ ?_⟩
              clear h1 K1
              refine atree.tk fun K1 h1 => ?_
              simp
              first | refine h1 _ _ ?_ | refine ⟨by omega, h1 _ _ ?_⟩ | refine ⟨by omega, by omega, h1 _ _ ?_⟩
              clear h1 K1
              refine atree.a1 fun K1 h1 => ?_
              simp [hcc, hbl, q3]
              first | refine h1 _ _ ?_ | refine ⟨by omega, h1 _ _ ?_⟩ | refine ⟨by omega, by omega, h1 _ _ ?_⟩
              clear h1 K1
              refine atree.a1 fun K1 h1 => ?_
              simp [h2]
              first | refine h1 _ _ ?_ | refine ⟨by omega, h1 _ _ ?_⟩ | refine ⟨by omega, by omega, h1 _ _ ?_⟩
              clear h1 K1
              refine atree.tk fun K1 h1 => ?_
              simp
              first | refine h1 _ _ ?_ | refine ⟨by omega, h1 _ _ ?_⟩ | refine ⟨by omega, by omega, h1 _ _ ?_⟩
              clear h1 K1
              refine atree.a1 fun K1 h1 => ?_
              simp [hcc, hbl, q4]
              first | refine h1 _ _ ?_ | refine ⟨by omega, h1 _ _ ?_⟩ | refine ⟨by omega, by omega, h1 _ _ ?_⟩
              clear h1 K1
              simp [hcc]
            · refine atree.a1 fun K1 h1 => ?_
              simp [hbl, q2]
              first | refine h1 _ _ ?_ | refine ⟨by omega, h1 _ _ ?_⟩ | refine ⟨by omega, by omega, h1 _ _ ?_⟩
              clear h1 K1
              refine atree.a1 fun K1 h1 => ?_
              simp
              refine call_pure g1 (by simp) ?_
              simp
              first | refine h1 _ _ ?_ | refine ⟨by omega, h1 _ _ ?_⟩ | refine ⟨by omega, by omega, h1 _ _ ?_⟩
              clear h1 K1
              refine atree.a1 fun K1 h1 => ?_
              simp [hcc]
              refine call_pure g2 (by simp) ?_
              simp
              first | refine h1 _ _ ?_ | refine ⟨by omega, h1 _ _ ?_⟩ | refine ⟨by omega, by omega, h1 _ _ ?_⟩
              clear h1 K1
              refine atree.a1 fun K1 h1 => ?_
              simp [h2, hcc]
              first | refine h1 _ _ ?_ | refine ⟨by omega, h1 _ _ ?_⟩ | refine ⟨by omega, by omega, h1 _ _ ?_⟩
              clear h1 K1
              refine atree.tk fun K1 h1 => ?_
              simp
              first | refine h1 _ _ ?_ | refine ⟨by omega, h1 _ _ ?_⟩ | refine ⟨by omega, by omega, h1 _ _ ?_⟩
              clear h1 K1
              refine atree.a1 fun K1 h1 => ?_
              simp [hcc, hbl, q3]
              first | refine h1 _ _ ?_ | refine ⟨by omega, h1 _ _ ?_⟩ | refine ⟨by omega, by omega, h1 _ _ ?_⟩
              clear h1 K1
              refine atree.a1 fun K1 h1 => ?_
              simp [h2]
              first | refine h1 _ _ ?_ | refine ⟨by omega, h1 _ _ ?_⟩ | refine ⟨by omega, by omega, h1 _ _ ?_⟩
              clear h1 K1
              refine atree.tk fun K1 h1 => ?_
              simp
              first | refine h1 _ _ ?_ | refine ⟨by omega, h1 _ _ ?_⟩ | refine ⟨by omega, by omega, h1 _ _ ?_⟩
              clear h1 K1
              refine atree.a1 fun K1 h1 => ?_
              simp [hcc, hbl, q4]
              first | refine h1 _ _ ?_ | refine ⟨by omega, h1 _ _ ?_⟩ | refine ⟨by omega, by omega, h1 _ _ ?_⟩
              clear h1 K1
              simp [hcc]
          · refine atree.a1 fun K1 h1 => ?_
            simp [hbl, q2]
            first | refine h1 _ _ ?_ | refine ⟨by omega, h1 _ _ ?_⟩ | refine ⟨by omega, by omega, h1 _ _ ?_⟩
            clear h1 K1
            refine atree.a1 fun K1 h1 => ?_
            simp [hbl, q1]
            first | refine h1 _ _ ?_ | refine ⟨by omega, h1 _ _ ?_⟩ | refine ⟨by omega, by omega, h1 _ _ ?_⟩
            clear h1 K1
            refine atree.a1 fun K1 h1 => ?_
            simp
            refine call_pure g1 (by simp) ?_
            simp
            first | refine h1 _ _ ?_ | refine ⟨by omega, h1 _ _ ?_⟩ | refine ⟨by omega, by omega, h1 _ _ ?_⟩
            clear h1 K1
            refine atree.a1 fun K1 h1 => ?_
            simp [hcc]
            refine call_pure g2 (by simp) ?_
            simp
            first | refine h1 _ _ ?_ | refine ⟨by omega, h1 _ _ ?_⟩ | refine ⟨by omega, by omega, h1 _ _ ?_⟩
            clear h1 K1
            refine atree.a1 fun K1 h1 => ?_
            simp [h2, hcc]
            first | refine h1 _ _ ?_ | refine ⟨by omega, h1 _ _ ?_⟩ | refine ⟨by omega, by omega, h1 _ _ ?_⟩
            clear h1 K1
            refine atree.tk fun K1 h1 => ?_
            simp
            first | refine h1 _ _ ?_ | refine ⟨by omega, h1 _ _ ?_⟩ | refine ⟨by omega, by omega, h1 _ _ ?_⟩
            clear h1 K1
            refine atree.a1 fun K1 h1 => ?_
            simp [hcc, hbl, q3]
            first | refine h1 _ _ ?_ | refine ⟨by omega, h1 _ _ ?_⟩ | refine ⟨by omega, by omega, h1 _ _ ?_⟩
            clear h1 K1
            refine atree.a1 fun K1 h1 => ?_
            simp [h2]
            first | refine h1 _ _ ?_ | refine ⟨by omega, h1 _ _ ?_⟩ | refine ⟨by omega, by omega, h1 _ _ ?_⟩
            clear h1 K1
            refine atree.tk fun K1 h1 => ?_
            simp
            first | refine h1 _ _ ?_ | refine ⟨by omega, h1 _ _ ?_⟩ | refine ⟨by omega, by omega, h1 _ _ ?_⟩
            clear h1 K1
            refine atree.a1 fun K1 h1 => ?_
            simp [hcc, hbl, q4]
            first | refine h1 _ _ ?_ | refine ⟨by omega, h1 _ _ ?_⟩ | refine ⟨by omega, by omega, h1 _ _ ?_⟩
            clear h1 K1
            simp [hcc]
        · refine atree.a1 fun K1 h1 => ?_
          simp [hbl, q2]
          first | refine h1 _ _ ?_ | refine ⟨by omega, h1 _ _ ?_⟩ | refine ⟨by omega, by omega, h1 _ _ ?_⟩
          clear h1 K1
          refine atree.a1 fun K1 h1 => ?_
          simp [h2]
          first | refine h1 _ _ ?_ | refine ⟨by omega, h1 _ _ ?_⟩ | refine ⟨by omega, by omega, h1 _ _ ?_⟩
          clear h1 K1
          refine atree.tk fun K1 h1 => ?_
          simp
          first | refine h1 _ _ ?_ | refine ⟨by omega, h1 _ _ ?_⟩ | refine ⟨by omega, by omega, h1 _ _ ?_⟩
          clear h1 K1
          refine atree.a1 fun K1 h1 => ?_
          simp [hbl, q1]
          first | refine h1 _ _ ?_ | refine ⟨by omega, h1 _ _ ?_⟩ | refine ⟨by omega, by omega, h1 _ _ ?_⟩
          clear h1 K1
          refine atree.a1 fun K1 h1 => ?_
          simp
          refine call_pure g1 (by simp) ?_
          simp
          first | refine h1 _ _ ?_ | refine ⟨by omega, h1 _ _ ?_⟩ | refine ⟨by omega, by omega, h1 _ _ ?_⟩
          clear h1 K1
          refine atree.a1 fun K1 h1 => ?_
          simp [hcc]
          refine call_pure g2 (by simp) ?_
          simp
          first | refine h1 _ _ ?_ | refine ⟨by omega, h1 _ _ ?_⟩ | refine ⟨by omega, by omega, h1 _ _ ?_⟩
          clear h1 K1
          refine atree.a1 fun K1 h1 => ?_
          simp [h2, hcc]
          first | refine h1 _ _ ?_ | refine ⟨by omega, h1 _ _ ?_⟩ | refine ⟨by omega, by omega, h1 _ _ ?_⟩
          clear h1 K1
          refine atree.tk fun K1 h1 => ?_
          simp
          first | refine h1 _ _ ?_ | refine ⟨by omega, h1 _ _ ?_⟩ | refine ⟨by omega, by omega, h1 _ _ ?_⟩
          clear h1 K1
          refine atree.a1 fun K1 h1 => ?_
          simp [hcc, hbl, q3]
          first | refine h1 _ _ ?_ | refine ⟨by omega, h1 _ _ ?_⟩ | refine ⟨by omega, by omega, h1 _ _ ?_⟩
          clear h1 K1
          refine atree.a1 fun K1 h1 => ?_
          simp [h2]
          first | refine h1 _ _ ?_ | refine ⟨by omega, h1 _ _ ?_⟩ | refine ⟨by omega, by omega, h1 _ _ ?_⟩
          clear h1 K1
          refine atree.tk fun K1 h1 => ?_
          simp
          first | refine h1 _ _ ?_ | refine ⟨by omega, h1 _ _ ?_⟩ | refine ⟨by omega, by omega, h1 _ _ ?_⟩
          clear h1 K1
          refine atree.a1 fun K1 h1 => ?_
          simp [hcc, hbl, q4]
          first | refine h1 _ _ ?_ | refine ⟨by omega, h1 _ _ ?_⟩ | refine ⟨by omega, by omega, h1 _ _ ?_⟩
          clear h1 K1
          simp [hcc]
    show AWp _ _ _ _
    refine AWp.goLast [3, 8, 9] [100] fun K hK => ?_
    simp [hcc]
    first | refine hK _ _ ?_ | refine ⟨by omega, hK _ _ ?_⟩ | refine ⟨by omega, by omega, hK _ _ ?_⟩
    clear hK K
    refine ⟨i + 1, by omega, by omega, ?_⟩
    simp [hcc]
    exact wrap64 (by omega) (by omega)
  · refine AWp.cond (t := false) (by first | (simp [h2]; done) | (simp [h2]; omega)) (by simp) (fun _ => ?_)
    refine AWp.exit ?_
    show AWp _ _ _ _
    obtain rfl : i = s.length := by omega
    have hrl : ((entsAV s).flatten).length = s.length * 3 := rows_len entC_ok s
    refine AWp.reown 3 100 cap (sz := 3) (entsAV s) (List.replicate ((cap - s.length) * 3) AV.any) (by simp) (by simp) rfl ?_ (fun z hz => ?_) (ents_dat s) hcc.freeL ?_
    · rw [List.length_append, hrl, List.length_replicate]; omega
    · obtain ⟨x, _, rfl⟩ := List.mem_map.1 hz; rfl
    simp
    refine AWp.go [2] [100] fun K hK => ?_
    simp
    first | refine hK _ _ ?_ | refine ⟨by omega, hK _ _ ?_⟩ | refine ⟨by omega, by omega, hK _ _ ?_⟩
    clear hK K
    refine AWp.ret ?_
    simp

set_option maxRecDepth 8000 in
theorem c_rwset_copied0 : Pure Try.prog 51 [.sl .fro 3 []] (.sl .own 3 []) := by
  refine proc_of (cx Try.prog 34 [0, 2, 3, 4, 8, 9, 10] [2]) 33 [.tmp 2] Try.func51 rfl rfl rfl rfl rfl rfl (Nat.le_refl _) rfl ?_
  refine AWp.go [0] [] fun K hK => ?_
  simp
  first | refine hK _ _ ?_ | refine ⟨by omega, hK _ _ ?_⟩ | refine ⟨by omega, by omega, hK _ _ ?_⟩
  clear hK K
  refine AWp.go [3] [] fun K hK => ?_
  simp
  refine call_pure (c_Clone_Entry [] ⟨by simp, by simp⟩) (by simp [entsAV]) ?_
  simp
  first | refine hK _ _ ?_ | refine ⟨by omega, hK _ _ ?_⟩ | refine ⟨by omega, by omega, hK _ _ ?_⟩
  clear hK K
  refine AWp.seq ?_
  refine AWp.go [3, 8, 9] [] fun K hK => ?_
  simp
  first | refine hK _ _ ?_ | refine ⟨by omega, hK _ _ ?_⟩ | refine ⟨by omega, by omega, hK _ _ ?_⟩
  clear hK K
  refine AWp.block (AWp.while (fun i : Nat => [(3, .sl .own 3 []), (8, .i .i64 0), (9, .i .i64 0)]) (fun i => []) (fun i => True) (fun i => 0) [3, 8, 9] [] 0 (by simp) (by simp [entsAV]) ?_)
  intro i hi
  refine AWp.go [3, 8, 9, 10] [] fun K hK => ?_
  simp
  first | refine hK _ _ ?_ | refine ⟨by omega, hK _ _ ?_⟩ | refine ⟨by omega, by omega, hK _ _ ?_⟩
  clear hK K
  refine AWp.seq ?_
  refine AWp.cond (t := false) (by first | (simp; done) | (simp; omega)) (by simp) (fun _ => ?_)
  refine AWp.exit ?_
  show AWp _ _ _ _
  refine AWp.go [2] [] fun K hK => ?_
  simp
  first | refine hK _ _ ?_ | refine ⟨by omega, hK _ _ ?_⟩ | refine ⟨by omega, by omega, hK _ _ ?_⟩
  clear hK K
  refine AWp.ret ?_
  simp
theorem c_rwset_copied (s : List Entry) (hs : Fine s) : Pure Try.prog 51 [.sl .fro 3 (entsAV s)] (.sl .own 3 (entsAV s)) := by
  by_cases h : s = []
  · subst h; exact c_rwset_copied0
  · exact c_rwset_copied1 s hs h

set_option maxRecDepth 8000 in
set_option maxHeartbeats 2000000 in
theorem c_rwset_may (s : List Entry) (k : ByteArray) (d : Dot) (c : List Int) (hs : Fine s) (hc : c.length ≤ 1000000) : Pure Try.prog 48 [.sl .fro 3 (entsAV s), .s k, .agg (dotC d), .sl .fro 1 (intsAV c)] (.b (setOk s && keyOk k && mayD d && clockOk c)) := by
  refine proc_of (cx Try.prog 25 [0, 1, 3, 6, 8] [8]) 21 [.tmp 8] Try.func48 rfl rfl rfl rfl rfl rfl (Nat.le_refl _) rfl ?_
  refine AWp.go [0, 1, 3, 6] [6] fun K hK => ?_
  simp [dotC]
  first | refine hK _ _ ?_ | refine ⟨by omega, hK _ _ ?_⟩ | refine ⟨by omega, by omega, hK _ _ ?_⟩
  clear hK K
  refine AWp.step [8] [] [(8, .b (setOk s && keyOk k && mayD d && clockOk c))] [] ?_ ?_
  · have g1 := c_rwset_Check s hs
    have g2 := c_rwset_right k
    have g3 := c_dots_May d
    have g4 := c100 c (by omega)
    simp
    refine call_pure g1 (by simp) ?_
    cases q1 : setOk s
    · simp
    simp
    refine call_pure g2 (by simp) ?_
    cases q2 : keyOk k
    · simp
    simp
    refine call_pure g3 (by simp [dotC]) ?_
    cases q3 : mayD d
    · simp
    simp
    refine call_pure g4 (by simp) ?_
    cases q4 : clockOk c
    · simp
    simp
  refine AWp.ret ?_
  simp

set_option maxRecDepth 8000 in
set_option maxHeartbeats 2000000 in
theorem c_rwset_Has (s : List Entry) (k : ByteArray) (hs : Fine s) : Pure Try.prog 24 [.sl .fro 3 (entsAV s), .s k] (.b (setOk s && decide ((0 : Int) < (atE s k).live.length))) := by
  refine proc_of (cx Try.prog 24 [0, 1, 4, 6] [4]) 22 [.tmp 4] Try.func24 rfl rfl rfl rfl rfl rfl (Nat.le_refl _) rfl ?_
  refine AWp.go [0, 1] [] fun K hK => ?_
  simp
  first | refine hK _ _ ?_ | refine ⟨by omega, hK _ _ ?_⟩ | refine ⟨by omega, by omega, hK _ _ ?_⟩
  clear hK K
  refine AWp.go [0, 6] [6] fun K hK => ?_
  simp
  refine call_pure (c_rwset_at s k hs) (by simp) ?_
  simp [entC]
  first | refine hK _ _ ?_ | refine ⟨by omega, hK _ _ ?_⟩ | refine ⟨by omega, by omega, hK _ _ ?_⟩
  clear hK K
  refine AWp.step [4] [] [(4, .b (setOk s && decide ((0 : Int) < (atE s k).live.length)))] [] ?_ ?_
  · have g1 := c_rwset_Check s hs
    simp
    refine call_pure g1 (by simp) ?_
    cases q1 : setOk s <;> simp
  refine AWp.ret ?_
  simp
end Go.AM
