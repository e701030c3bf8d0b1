/- Dots in order, each once: slices.SortFunc at nothing, slices.Compact. -/
import Derived.Test.YtlilmkblggifaaaAmD
import Derived.Shelf.Spec.SlicesGrow
namespace Go.AM
open Go.Proofs

theorem dotC_ok : EncOk dotC 2 := ⟨fun _ => rfl, fun x c hc => by simp [dotC] at hc; rcases hc with rfl | rfl <;> rfl⟩
theorem dotR_get (l : List Dot) (pad : List AV) (i : Nat) (h : i < l.length) : ((boxR dotC l pad).drop (i * 2)).take 2 = [.i .i64 l[i].1, .i .i64 l[i].2] := boxR_get dotC_ok l pad i h
theorem dotR_set (l : List Dot) (pad : List AV) (i : Nat) (h : i < l.length) (x : Dot) : (boxR dotC l pad).take (i * 2) ++ .i .i64 x.1 :: .i .i64 x.2 :: (boxR dotC l pad).drop (i * 2 + 2) = boxR dotC (l.set i x) pad := boxR_set dotC_ok l pad i h x

def compN (l : List Dot) : Nat → List Dot
  | 0 => []
  | i + 1 => match l[i]? with
    | none => compN l i
    | some x => if 0 < i ∧ l[i - 1]? = some x then compN l i else compN l i ++ [x]
def compD (l : List Dot) : List Dot := compN l l.length
theorem compN_le (l : List Dot) : ∀ i, (compN l i).length ≤ i
  | 0 => by simp [compN]
  | i + 1 => by
    have := compN_le l i
    unfold compN
    split
    · omega
    · split
      · omega
      · simp; omega
theorem compN_pos (l : List Dot) : ∀ i, 0 < i → i ≤ l.length → 0 < (compN l i).length
  | 0, h, _ => by omega
  | 1, _, h => by
    unfold compN
    rw [List.getElem?_eq_getElem (show 0 < l.length by omega)]
    simp [compN]
  | i + 2, _, h => by
    have := compN_pos l (i + 1) (by omega) (by omega)
    unfold compN
    split
    · exact this
    · split
      · exact this
      · simp
theorem compN_eq (l : List Dot) (k m : Nat) (hm : m = k + 1) (h : m < l.length) (he : l[m] = l[k]) : compN l (m + 1) = compN l m := by
  subst hm
  conv => lhs; unfold compN
  rw [List.getElem?_eq_getElem h]
  simp [List.getElem?_eq_getElem (show k < l.length by omega), he]
theorem compN_ne (l : List Dot) (k m : Nat) (hm : m = k + 1) (h : m < l.length) (he : l[m] ≠ l[k]) : compN l (m + 1) = compN l m ++ [l[m]] := by
  subst hm
  conv => lhs; unfold compN
  rw [List.getElem?_eq_getElem h]
  simp [List.getElem?_eq_getElem (show k < l.length by omega), Ne.symm he]

set_option maxRecDepth 8000 in
set_option maxHeartbeats 1000000 in
theorem c_Compact_Dot (l : List Dot) (cap : Nat) (hc : l.length ≤ cap) (hl : l.length ≤ 1000000) (h2 : 2 ≤ l.length) (pad : List AV) (hp : pad.length = (cap - l.length) * 2) (hpad : Calm pad) : Proc Try.prog 1 108 [.bs 0 0 l.length cap] [(0, boxR dotC l pad)] (.bs 0 0 (compD l).length cap) [(0, boxR dotC (compD l) (zerosL [.i .i64 0, .i .i64 0] (l.length - (compD l).length) ++ pad))] := by
  have hC : ∀ l', Calm (boxR dotC l' pad) := fun l' => boxR_calm dotC_ok hpad
  have hL : ∀ l', (boxR dotC l' pad).length = l'.length * 2 + pad.length := fun l' => boxR_len dotC_ok l' pad
  refine proc_of (cxb Try.prog 61 1 [0, 2, 3, 4, 5, 8, 13, 25, 32, 44] [] [2]) 60 [.tmp 2] Try.func108 rfl rfl rfl rfl rfl rfl (Nat.le_refl _) rfl ?_
  refine AWp.go [0] [0] fun K hK => ?_
  simp [hC]
  first | refine hK _ _ ?_ | refine ⟨by omega, hK _ _ ?_⟩ | refine ⟨by omega, by omega, hK _ _ ?_⟩
  clear hK K
  refine AWp.seq ?_
  refine AWp.go [0, 8] [0] fun K hK => ?_
  simp [hC]
  first | refine hK _ _ ?_ | refine ⟨by omega, hK _ _ ?_⟩ | refine ⟨by omega, by omega, hK _ _ ?_⟩
  clear hK K
  by_cases h : 2 ≤ l.length
  · refine AWp.cond (t := false) (by first | (simp; done) | (simp; omega)) (by simp) (fun _ => ?_)
    refine AWp.skip ?_
    show AWp _ _ _ _
    refine AWp.seq ?_
    refine AWp.go [0, 3] [0] fun K hK => ?_
    simp [hC]
    first | refine hK _ _ ?_ | refine ⟨by omega, hK _ _ ?_⟩ | refine ⟨by omega, by omega, hK _ _ ?_⟩
    clear hK K
    refine AWp.block (AWp.while (fun i : Nat => [(0, .bs 0 0 l.length cap), (3, .i .i64 (i + 1))]) (fun i => [(0, boxR dotC l pad)]) (fun i => i + 1 ≤ l.length ∧ compN l (i + 1) = l.take (i + 1)) (fun i => l.length - i) [0, 3] [0] 0 (by exact ⟨by omega, by simp [compN, List.getElem?_eq_getElem (show 0 < l.length by omega)]; rw [List.take_succ_eq_append_getElem (show 0 < l.length by omega)]; simp⟩) (by simp [hC]) ?_)
    intro i hi
    refine AWp.seq ?_
    refine AWp.go [0, 3, 13] [0] fun K hK => ?_
    simp [hC]
    first | refine hK _ _ ?_ | refine ⟨by omega, hK _ _ ?_⟩ | refine ⟨by omega, by omega, hK _ _ ?_⟩
    clear hK K
    by_cases h : i + 1 < l.length
    · refine AWp.cond (t := true) (by first | (simp; done) | (simp; omega)) (fun _ => ?_) (by simp)
      have w1 : IntKind.i64.wrap ((i : Int) + 1) = i + 1 := wrap64 (by omega) (by omega)
      have w0 : IntKind.i64.wrap (i : Int) = i := wrap64 (by omega) (by omega)
      refine AWp.skip ?_
      show AWp _ _ _ _
      refine AWp.seq ?_
      refine AWp.block ?_
      refine AWp.stepD 10 (fun _ => .any) [0, 3, 25] [0] [(0, .bs 0 0 l.length cap), (3, .i .i64 (i + 1)), (25, .b (decide (l[i + 1] = l[i])))] [(0, boxR dotC l pad)] mix (by kernel_rfl) ?_ ?_
      · simp [w0, hC, hL, dotR_get l pad (i + 1) h, dotR_get l pad i (by omega)]
        refine ⟨by omega, by omega, by omega, by omega, ?_⟩
        by_cases h1 : l[i + 1].1 = l[i].1 <;> by_cases h2 : l[i + 1].2 = l[i].2 <;> simp [h1, h2, Prod.ext_iff]
      by_cases he : l[i + 1] = l[i]
      · refine AWp.cond (t := true) (by first | (simp [he]; done) | (simp [he]; omega)) (fun _ => ?_) (by simp)
        have hc0 : compN l (i + 2) = l.take (i + 1) := by rw [compN_eq l i (i + 1) rfl h he, hi.2]
        refine AWp.step [0, 3, 4] [0] [(0, .bs 0 0 l.length cap), (3, .i .i64 (i + 1)), (4, .bs 0 ((i + 1) * 2) (l.length - (i + 1)) (cap - (i + 1)))] [(0, boxR dotC l pad)] ?_ ?_
        · simp [hC]
          omega
        refine AWp.seq ?_
        refine AWp.go [0, 3, 4, 5] [0] fun K hK => ?_
        simp [hC]
        first | refine hK _ _ ?_ | refine ⟨by omega, hK _ _ ?_⟩ | refine ⟨by omega, by omega, hK _ _ ?_⟩
        clear hK K
        refine AWp.block (AWp.while (fun p : Nat × List Dot => [(0, .bs 0 0 l.length cap), (3, .i .i64 (compN l (i + 2 + p.1)).length), (4, .bs 0 ((i + 1) * 2) (l.length - (i + 1)) (cap - (i + 1))), (5, .i .i64 (p.1 + 1))]) (fun p => [(0, boxR dotC p.2 pad)]) (fun p => p.2.length = l.length ∧ i + 2 + p.1 ≤ l.length ∧ (compN l (i + 2 + p.1)).length ≤ i + 1 + p.1 ∧ p.2.take (compN l (i + 2 + p.1)).length = compN l (i + 2 + p.1) ∧ ∀ k, i + 1 + p.1 ≤ k → p.2[k]? = l[k]?) (fun p => l.length - p.1) [0, 3, 4, 5] [0] (0, l) (by exact ⟨rfl, by dsimp only; omega, by simp [hc0]; omega, by simp [hc0], fun _ _ => rfl⟩) (by simp [hc0, hC]; omega) ?_)
        rintro ⟨j, c⟩ ⟨hcl, hj2, hk3, hj3, hj4⟩
        dsimp only at hcl hj2 hk3 hj3 hj4
        try dsimp only
        refine AWp.seq ?_
        refine AWp.go [0, 3, 4, 5, 32] [0] fun K hK => ?_
        simp [hC]
        first | refine hK _ _ ?_ | refine ⟨by omega, hK _ _ ?_⟩ | refine ⟨by omega, by omega, hK _ _ ?_⟩
        clear hK K
        by_cases h3 : i + 2 + j < l.length
        · refine AWp.cond (t := true) (by first | (simp; done) | (simp; omega)) (fun _ => ?_) (by simp)
          have v1 : IntKind.i64.wrap ((j : Int) + 1) = j + 1 := wrap64 (by omega) (by omega)
          have v0 : IntKind.i64.wrap (j : Int) = j := wrap64 (by omega) (by omega)
          have v2 : IntKind.i64.wrap ((j : Int) + 1 + 1) = j + 1 + 1 := wrap64 (by omega) (by omega)
          have hle := compN_le l (i + 2 + j)
          have v3 : IntKind.i64.wrap (((compN l (i + 2 + j)).length : Int) + 1) = (compN l (i + 2 + j)).length + 1 := wrap64 (by omega) (by omega)
          have q1 : c[i + 2 + j]'(by omega) = l[i + 2 + j] := by have := hj4 (i + 2 + j) (by omega); rw [List.getElem?_eq_getElem (by omega), List.getElem?_eq_getElem (by omega)] at this; exact Option.some.inj this
          have q2 : c[i + 1 + j]'(by omega) = l[i + 1 + j] := by have := hj4 (i + 1 + j) (by omega); rw [List.getElem?_eq_getElem (by omega), List.getElem?_eq_getElem (by omega)] at this; exact Option.some.inj this
          have g1 : ((boxR dotC c pad).drop ((i + 1 + (j + 1)) * 2)).take 2 = [.i .i64 l[i + 2 + j].1, .i .i64 l[i + 2 + j].2] := by rw [← q1, ← dotR_get c pad (i + 2 + j) (by omega)]; congr 3; omega
          have g2 : ((boxR dotC c pad).drop ((i + 1 + j) * 2)).take 2 = [.i .i64 l[i + 1 + j].1, .i .i64 l[i + 1 + j].2] := by rw [← q2, ← dotR_get c pad (i + 1 + j) (by omega)]
          refine AWp.skip ?_
          show AWp _ _ _ _
          refine AWp.seq ?_
          refine AWp.block ?_
          refine AWp.stepD 10 (fun _ => .any) [0, 3, 4, 5, 44] [0] [(0, .bs 0 0 l.length cap), (3, .i .i64 (compN l (i + 2 + j)).length), (4, .bs 0 ((i + 1) * 2) (l.length - (i + 1)) (cap - (i + 1))), (5, .i .i64 (j + 1)), (44, .b (!decide (l[i + 2 + j] = l[i + 1 + j])))] [(0, boxR dotC c pad)] mix (by kernel_rfl) ?_ ?_
          · simp [hC, hL, v0, ← Nat.add_mul, g1, g2]
            refine ⟨by omega, by omega, by omega, by omega, ?_⟩
            by_cases h1 : l[i + 2 + j].1 = l[i + 1 + j].1 <;> by_cases h2 : l[i + 2 + j].2 = l[i + 1 + j].2 <;> simp [h1, h2, Prod.ext_iff]
          by_cases he2 : l[i + 2 + j] = l[i + 1 + j]
          · refine AWp.cond (t := false) (by first | (simp [he2]; done) | (simp [he2]; omega)) (by simp) (fun _ => ?_)
            refine AWp.skip ?_
            show AWp _ _ _ _
            refine AWp.goLast [0, 3, 4, 5] [0] fun K hK => ?_
            simp [hC]
            first | refine hK _ _ ?_ | refine ⟨by omega, hK _ _ ?_⟩ | refine ⟨by omega, by omega, hK _ _ ?_⟩
            clear hK K
            have hcn : compN l (i + 2 + j + 1) = compN l (i + 2 + j) := compN_eq l (i + 1 + j) (i + 2 + j) (by omega) h3 he2
            refine ⟨(j + 1, c), ⟨hcl, by dsimp only; omega, ?_, ?_, ?_⟩, by dsimp only; omega, ?_⟩
            · dsimp only; rw [show i + 2 + (j + 1) = i + 2 + j + 1 by omega, hcn]; omega
            · dsimp only; rw [show i + 2 + (j + 1) = i + 2 + j + 1 by omega, hcn]; exact hj3
            · intro k hk
              exact hj4 k (by dsimp only at hk; omega)
            · simp [hC, v2, show i + 2 + (j + 1) = i + 2 + j + 1 by omega, hcn]
          · refine AWp.cond (t := true) (by first | (simp [he2]; done) | (simp [he2]; omega)) (fun _ => ?_) (by simp)
            refine AWp.step [0, 3, 4, 5] [0] [(0, .bs 0 0 l.length cap), (3, .i .i64 (compN l (i + 2 + j)).length), (4, .bs 0 ((i + 1) * 2) (l.length - (i + 1)) (cap - (i + 1))), (5, .i .i64 (j + 1))] [(0, boxR dotC (c.set (compN l (i + 2 + j)).length l[i + 2 + j]) pad)] ?_ ?_
            · have hs := dotR_set c pad (compN l (i + 2 + j)).length (by omega) l[i + 2 + j]
              simp [hC, hL, ← Nat.add_mul, g1, hs]
              omega
            refine AWp.goLast [0, 3, 4, 5] [0] fun K hK => ?_
            simp [hC]
            first | refine hK _ _ ?_ | refine ⟨by omega, hK _ _ ?_⟩ | refine ⟨by omega, by omega, hK _ _ ?_⟩
            clear hK K
            show AWp _ _ _ _
            refine AWp.goLast [0, 3, 4, 5] [0] fun K hK => ?_
            simp [hC]
            first | refine hK _ _ ?_ | refine ⟨by omega, hK _ _ ?_⟩ | refine ⟨by omega, by omega, hK _ _ ?_⟩
            clear hK K
            have hcn : compN l (i + 2 + j + 1) = compN l (i + 2 + j) ++ [l[i + 2 + j]] := compN_ne l (i + 1 + j) (i + 2 + j) (by omega) h3 he2
            refine ⟨(j + 1, c.set (compN l (i + 2 + j)).length l[i + 2 + j]), ⟨by simpa using hcl, by dsimp only; omega, ?_, ?_, ?_⟩, by dsimp only; omega, ?_⟩
            · dsimp only; rw [show i + 2 + (j + 1) = i + 2 + j + 1 by omega, hcn]; simp; omega
            · dsimp only; rw [show i + 2 + (j + 1) = i + 2 + j + 1 by omega, hcn, List.length_append, List.length_singleton, List.take_succ_eq_append_getElem (by simp; omega), List.getElem_set_self, List.take_set_of_le (Nat.le_refl _), hj3]
            · intro k hk
              dsimp only at hk
              rw [List.getElem?_set_ne (by omega)]
              exact hj4 k (by omega)
            · simp [hC, v2, v3, show i + 2 + (j + 1) = i + 2 + j + 1 by omega, hcn]
        · refine AWp.cond (t := false) (by first | (simp; done) | (simp; omega)) (by simp) (fun _ => ?_)
          refine AWp.exit ?_
          show AWp _ _ _ _
          have hjn : i + 2 + j = l.length := by omega
          have hD : compN l (i + 2 + j) = compD l := by rw [hjn]; rfl
          rw [hD] at hj3 hk3
          have hcl2 := boxR_clear dotC_ok c pad (zerosL [.i .i64 0, .i .i64 0] (l.length - (compD l).length)) (compD l).length (by omega) (by rw [zerosL_length, hcl]; rfl)
          rw [hj3] at hcl2
          have hC2 : ∀ l' n, Calm (boxR dotC l' (zerosL [.i .i64 0, .i .i64 0] n ++ pad)) := fun l' n => boxR_calm dotC_ok ((Calm.zeros (fun c hc => by simp at hc; subst hc; rfl) n).append hpad)
          refine AWp.step [0, 3] [0] [(0, .bs 0 0 l.length cap), (3, .i .i64 (compD l).length)] [(0, boxR dotC (compD l) (zerosL [.i .i64 0, .i .i64 0] (l.length - (compD l).length) ++ pad))] ?_ ?_
          · simp [hL, hD, show ¬ cap = (compD l).length by omega, zerosL_length] at hcl2 ⊢
            simp [hcl2, hC2]
            refine ⟨by omega, by omega, (((hC c).drop _).take _).freeL⟩
          refine AWp.go [2] [0] fun K hK => ?_
          simp [hC2]
          refine ⟨by omega, hK _ _ ?_⟩
          clear hK K
          refine AWp.ret ?_
          simp [hC2]
          intro x hx
          simpa using (hC2 _ _).still x hx
      · refine AWp.cond (t := false) (by first | (simp [he]; done) | (simp [he]; omega)) (by simp) (fun _ => ?_)
        refine AWp.skip ?_
        show AWp _ _ _ _
        refine AWp.goLast [0, 3] [0] fun K hK => ?_
        simp [hC]
        first | refine hK _ _ ?_ | refine ⟨by omega, hK _ _ ?_⟩ | refine ⟨by omega, by omega, hK _ _ ?_⟩
        clear hK K
        refine ⟨i + 1, ⟨by omega, ?_⟩, by omega, ?_⟩
        · rw [compN_ne l i (i + 1) rfl h he, hi.2, ← List.take_succ_eq_append_getElem h]
        · have w2 : IntKind.i64.wrap ((i : Int) + 1 + 1) = i + 1 + 1 := wrap64 (by omega) (by omega)
          simp [w2, hC]
    · refine AWp.cond (t := false) (by first | (simp; done) | (simp; omega)) (by simp) (fun _ => ?_)
      refine AWp.exit ?_
      show AWp _ _ _ _
      have hcd : compD l = l := by
        have hii : i + 1 = l.length := by omega
        rw [compD, ← hii, hi.2, hii, List.take_length]
      refine AWp.go [2] [0] fun K hK => ?_
      simp [hC]
      first | refine hK _ _ ?_ | refine ⟨by omega, hK _ _ ?_⟩ | refine ⟨by omega, by omega, hK _ _ ?_⟩
      clear hK K
      refine AWp.ret ?_
      simp [hcd, zerosL, hC]
      intro x hx
      simpa using (hC l).still x hx
  · refine AWp.cond (t := true) (by first | (simp; done) | (simp; omega)) (fun _ => ?_) (by simp)
    omega

theorem compD_le (l : List Dot) : (compD l).length ≤ l.length := compN_le l l.length
theorem dots_data (l : List Dot) : ((dotsAV l).flatten.all fun c => c.data && c.cellOk) = true := by
  rw [List.all_eq_true]
  intro c hc
  obtain ⟨y, hy, hc⟩ := List.mem_flatten.1 hc
  obtain ⟨x, _, rfl⟩ := List.mem_map.1 hy
  simp [dotC] at hc
  rcases hc with rfl | rfl <;> rfl

theorem h_Compact_Dot (l : List Dot) (hl : l.length ≤ 1000000) (h2 : 2 ≤ l.length) : HProc Try.prog 108 2 (dotsAV l) [] (dotsAV (compD l)) := by
  refine hproc_box rfl rfl (fun z hz => ?_) (dots_data _) (by simpa using compD_le l) fun cap hcap => ⟨zerosL [.i .i64 0, .i .i64 0] (l.length - (compD l).length) ++ List.replicate ((cap - l.length) * 2) .any, ?_, ?_⟩
  · obtain ⟨x, _, rfl⟩ := List.mem_map.1 hz; rfl
  · have h3 := compD_le l
    have h4 := rows_len dotC_ok (compD l)
    have h5 : ((dotsAV (compD l)).flatten).length = (compD l).length * 2 := h4
    simp at hcap
    simp only [List.length_append, zerosL_length, List.length_replicate, h5]
    simp; omega
  · simp at hcap
    have := c_Compact_Dot l cap hcap hl h2 (List.replicate ((cap - l.length) * 2) .any) (by simp) (Calm.replicate _ rfl)
    simpa [boxR, dotsAV] using this

set_option maxRecDepth 40000 in
theorem c_Len64_0 : Pure Try.prog 201 [.i .u64 0] (.i .i64 0) := by
  refine proc_of (cx Try.prog 25 [0, 2, 4, 8, 14] [2]) 24 [.tmp 2] Try.func201 rfl rfl rfl rfl rfl rfl (Nat.le_refl _) rfl ?_
  refine AWp.go [0, 2] [] fun K hK => ?_
  simp
  first | refine hK _ _ ?_ | refine ⟨by omega, hK _ _ ?_⟩ | refine ⟨by omega, by omega, hK _ _ ?_⟩
  clear hK K
  refine AWp.seq ?_
  refine AWp.go [0, 2, 4] [] fun K hK => ?_
  simp
  first | refine hK _ _ ?_ | refine ⟨by omega, hK _ _ ?_⟩ | refine ⟨by omega, by omega, hK _ _ ?_⟩
  clear hK K
  refine AWp.cond (t := false) (by simp) (by simp) (fun _ => ?_)
  refine AWp.skip ?_
  show AWp _ _ _ _
  refine AWp.seq ?_
  refine AWp.go [0, 2, 8] [] fun K hK => ?_
  simp
  first | refine hK _ _ ?_ | refine ⟨by omega, hK _ _ ?_⟩ | refine ⟨by omega, by omega, hK _ _ ?_⟩
  clear hK K
  refine AWp.cond (t := false) (by simp) (by simp) (fun _ => ?_)
  refine AWp.skip ?_
  show AWp _ _ _ _
  refine AWp.seq ?_
  refine AWp.go [0, 2, 14] [] fun K hK => ?_
  simp
  first | refine hK _ _ ?_ | refine ⟨by omega, hK _ _ ?_⟩ | refine ⟨by omega, by omega, hK _ _ ?_⟩
  clear hK K
  refine AWp.cond (t := false) (by simp) (by simp) (fun _ => ?_)
  refine AWp.skip ?_
  show AWp _ _ _ _
  refine AWp.go [2] [] fun K hK => ?_
  simp
  refine ⟨by decide, hK _ _ ?_⟩
  clear hK K
  refine AWp.ret ?_
  simp

theorem c_Len_0 : Pure Try.prog 167 [.i .u64 0] (.i .i64 0) := by
  refine proc_of (cx Try.prog 8 [0, 2] [2]) 7 [.tmp 2] Try.func167 rfl rfl rfl rfl rfl rfl (Nat.le_refl _) rfl ?_
  refine AWp.go [0] [] fun K hK => ?_
  simp
  first | refine hK _ _ ?_ | refine ⟨by omega, hK _ _ ?_⟩ | refine ⟨by omega, by omega, hK _ _ ?_⟩
  clear hK K
  refine AWp.seq ?_
  refine AWp.cond (t := false) (by simp) (by simp) (fun _ => ?_)
  refine AWp.skip ?_
  show AWp _ _ _ _
  refine AWp.go [2] [] fun K hK => ?_
  simp
  refine call_pure (c_Len64_0) (by simp) ?_
  simp
  first | refine hK _ _ ?_ | refine ⟨by omega, hK _ _ ?_⟩ | refine ⟨by omega, by omega, hK _ _ ?_⟩
  clear hK K
  refine AWp.ret ?_
  simp

theorem c_insertion_0 (g : Nat) : Pure Try.prog 192 [.sl .fro 2 [], .i .i64 0, .i .i64 0, .fn g [] []] (.tup []) := by
  refine proc_of (cx Try.prog 53 [0, 1, 2, 3, 8, 9, 14, 34] []) 49 [] Try.func192 rfl rfl rfl rfl rfl rfl (Nat.le_refl _) rfl ?_
  refine AWp.go [0, 1, 2, 3, 8] [] fun K hK => ?_
  simp
  first | refine hK _ _ ?_ | refine ⟨by omega, hK _ _ ?_⟩ | refine ⟨by omega, by omega, hK _ _ ?_⟩
  clear hK K
  refine AWp.block (AWp.while (fun i : Nat => [(0, .sl .fro 2 []), (1, .i .i64 0), (2, .i .i64 0), (3, .fn g [] []), (8, .i .i64 1)]) (fun i => []) (fun i => True) (fun i => 0) [0, 1, 2, 3, 8] [] 0 (by simp) (by simp) ?_)
  intro i hi
  refine AWp.seq ?_
  refine AWp.go [0, 1, 2, 3, 8, 14] [] fun K hK => ?_
  simp
  first | refine hK _ _ ?_ | refine ⟨by omega, hK _ _ ?_⟩ | refine ⟨by omega, by omega, hK _ _ ?_⟩
  clear hK K
  refine AWp.cond (t := false) (by simp) (by simp) (fun _ => ?_)
  refine AWp.exit ?_
  simp

theorem c_pdq_0 (g : Nat) : Pure Try.prog 166 [.sl .fro 2 [], .i .i64 0, .i .i64 0, .i .i64 0, .fn g [] []] (.tup []) := by
  refine proc_of (cx Try.prog 148 [0, 1, 2, 3, 4, 10, 11, 12, 13, 14, 15, 16, 17, 18, 19, 20, 25, 32, 39, 56, 75, 80, 97, 125] []) 143 [] Try.func166 rfl rfl rfl rfl rfl rfl (Nat.le_refl _) rfl ?_
  refine AWp.go [0, 1, 2, 3, 4, 10] [] fun K hK => ?_
  simp
  first | refine hK _ _ ?_ | refine ⟨by omega, hK _ _ ?_⟩ | refine ⟨by omega, by omega, hK _ _ ?_⟩
  clear hK K
  refine AWp.go [0, 1, 2, 3, 4, 10, 11] [] fun K hK => ?_
  simp
  first | refine hK _ _ ?_ | refine ⟨by omega, hK _ _ ?_⟩ | refine ⟨by omega, by omega, hK _ _ ?_⟩
  clear hK K
  refine AWp.block (AWp.while (fun i : Nat => [(0, .sl .fro 2 []), (1, .i .i64 0), (2, .i .i64 0), (3, .i .i64 0), (4, .fn g [] []), (10, .b true), (11, .b true)]) (fun i => []) (fun i => True) (fun i => 0) [0, 1, 2, 3, 4, 10, 11] [] 0 (by simp) (by simp) ?_)
  intro i hi
  refine AWp.block ?_
  refine AWp.go [0, 1, 2, 3, 4, 10, 11, 12] [] fun K hK => ?_
  simp
  first | refine hK _ _ ?_ | refine ⟨by omega, hK _ _ ?_⟩ | refine ⟨by omega, by omega, hK _ _ ?_⟩
  clear hK K
  refine AWp.seq ?_
  refine AWp.go [0, 1, 2, 3, 4, 10, 11, 12, 25] [] fun K hK => ?_
  simp
  first | refine hK _ _ ?_ | refine ⟨by omega, hK _ _ ?_⟩ | refine ⟨by omega, by omega, hK _ _ ?_⟩
  clear hK K
  refine AWp.cond (t := true) (by simp) (fun _ => ?_) (by simp)
  refine AWp.go [] [] fun K hK => ?_
  simp
  refine call_pure (c_insertion_0 g) (by simp) ?_
  simp
  first | refine hK _ _ ?_ | refine ⟨by omega, hK _ _ ?_⟩ | refine ⟨by omega, by omega, hK _ _ ?_⟩
  clear hK K
  refine AWp.ret ?_
  simp

theorem c_SortFunc_0 (g : Nat) : Pure Try.prog 106 [.sl .fro 2 [], .fn g [] []] (.tup []) := by
  refine proc_of (cx Try.prog 14 [0, 1, 4] []) 12 [] Try.func106 rfl rfl rfl rfl rfl rfl (Nat.le_refl _) rfl ?_
  refine AWp.go [0, 1, 4] [] fun K hK => ?_
  simp
  first | refine hK _ _ ?_ | refine ⟨by omega, hK _ _ ?_⟩ | refine ⟨by omega, by omega, hK _ _ ?_⟩
  clear hK K
  refine AWp.goLast [] [] fun K hK => ?_
  simp
  refine call_pure (c_Len_0) (by simp) ?_
  simp
  refine call_pure (c_pdq_0 g) (by simp) ?_
  simp
  first | refine hK _ _ ?_ | refine ⟨by omega, hK _ _ ?_⟩ | refine ⟨by omega, by omega, hK _ _ ?_⟩
  clear hK K
  simp
end Go.AM
namespace Go.AM

theorem pure_new0 {P : Program} {f sz : Nat} {args : List AV} (hf : ∃ fn c, P.funcs[f]? = some fn ∧ fn.body = some c ∧ (fn.name == "runtime.NumGoroutine") = false)
    (h : ∀ (w : World) (E : Env) (vs : Array Value), args.length = vs.size → (∀ (k : Nat) c, args[k]? = some c → Val E .no c (vs.getD k undef)) →
      Calls P f vs w fun e w' => ∃ cap cells T, e = .returned (.slice (some ⟨w.heap.size, 0, none⟩) 0 cap) ∧ w' = w.drew.alloc (.cells cells T) ∧ cells.size = cap * sz) : Pure P f args (.sl .own sz []) := by
  refine ⟨hf, fun w β ω Pub vs R hω hl hv => ?_⟩
  refine (h w _ vs hl hv).mono ?_
  rintro e w' ⟨cap, cells, T, rfl, rfl, hcs⟩
  have hω0 : ∀ bk, ω bk = none := fun bk => by
    cases hq : ω bk with
    | none => rfl
    | some q => have := hω bk q hq; cases q <;> simp [inBx] at this
  have hh : ∀ bk, bk < w.heap.size → (w.drew.alloc (.cells cells T)).heap[bk]? = w.heap[bk]? := fun bk hb => by
    show (w.heap.push _)[bk]? = _
    rw [Array.getElem?_push, if_neg (by omega)]
  have hn : (w.drew.alloc (.cells cells T)).heap[w.heap.size]? = some (.cells cells T (0, 0)) := by
    show (w.heap.push _)[w.heap.size]? = _
    rw [Array.getElem?_push, if_pos rfl]
  have hs : (w.drew.alloc (.cells cells T)).heap.size = w.heap.size + 1 := by
    show (w.heap.push _).size = _
    simp
  have hpl : ∀ bk, Pub bk → bk < w.heap.size := fun bk h => (R.pub bk h).1
  refine ⟨_, ⟨w.drew.alloc (.cells cells T), β, fun bk => if bk = w.heap.size then some (.slot 0 []) else none, Pub, St.ofBoxes [], #[]⟩, rfl, rfl, ⟨⟨rfl, fun t => .any _ _, fun id cs h => (by cases h), fun bk h => ⟨?_, ?_⟩, fun bk q h => ?_⟩, ⟨rfl, rfl, rfl, ?_, fun k hk _ => hh k hk, fun k q h => ?_, fun _ h => h, fun _ h => .inl h, fun _ _ => rfl⟩⟩, rfl, fun bk q h => ?_, ?_⟩
  · show bk < (w.drew.alloc _).heap.size
    rw [hs]; have := hpl bk h; omega
  · have := hpl bk h
    show (if bk = w.heap.size then some (Place.slot 0 []) else none) = none
    rw [if_neg (by omega)]
  · show bk < (w.drew.alloc _).heap.size
    rw [hs]
    have h' : (if bk = w.heap.size then some (Place.slot 0 []) else none) = some q := h
    split at h'
    · omega
    · cases h'
  · show w.heap.size ≤ (w.drew.alloc _).heap.size
    rw [hs]; omega
  · left
    have h' : (if k = w.heap.size then some (Place.slot 0 []) else none) = some q := h
    split at h'
    · show w.heap.size ≤ k; omega
    · cases h'
  · right
    have h' : (if bk = w.heap.size then some (Place.slot 0 []) else none) = some q := h
    split at h'
    · exact ⟨[], (Option.some.inj h').symm⟩
    · cases h'
  · refine .sl _ .own sz [] w.heap.size 0 cap (Nat.zero_le _) ⟨fun x hx => by simp at hx, fun k c hk => by simp at hk⟩ ⟨?_, cells, T, hn, rfl, hcs⟩ trivial
    show (if w.heap.size = w.heap.size then some (Place.slot 0 []) else none) = _
    rw [if_pos rfl]
end Go.AM
namespace Go.AM
open Go.Proofs Go.Shelf Go.RowKit Go.Lib
theorem pure_grow {P : Program} {ρ : Ren} (L : Lays8.n4 P ρ) {y : TI} (hy : ti P (ρ.t 25) = some y) (hs : 0 < y.size) (n : Nat) (h0 : 0 < n) (hb : n * y.bytes ≤ 140737488355328) (hn : n ≤ 4611686018427387904) :
    Pure P (ρ.f 4) [.sl .nl y.size [], .i .i64 n] (.sl .own y.size []) := by
  obtain ⟨oy⟩ := ti_ok hy
  obtain ⟨nm, h1, h2⟩ := L.f4
  refine pure_new0 ⟨_, _, h2, rfl, h1⟩ fun w E vs hl hv => ?_
  have hvs : vs = #[.slice none 0 0, .int .i64 n] := by
    have e0 := hv 0 _ rfl
    have e1 := hv 1 _ rfl
    have e2 : vs.getD 0 undef = .slice none 0 0 := by
      generalize vs.getD 0 undef = v at e0
      cases e0 with
      | sl0 => rfl
      | sl _ _ _ _ _ _ _ _ _ hg => exact hg.elim
    have e3 : vs.getD 1 undef = .int .i64 n := by
      generalize vs.getD 1 undef = v at e1
      cases e1; rfl
    have hsz : vs.size = 2 := hl.symm
    apply Array.ext
    · rw [hsz]; rfl
    · intro j hj hj2
      rw [hsz] at hj
      match j, hj with
      | 0, _ => rw [Array.getD_eq_getD_getElem?, Array.getElem?_eq_getElem (by omega)] at e2; exact e2
      | 1, _ => rw [Array.getD_eq_getD_getElem?, Array.getElem?_eq_getElem (by omega)] at e3; exact e3
  subst hvs
  have := Any8.slices_Grow_grow L oy.i oy.z oy.info oy.zero (by rw [oy.size]; exact hs) none 0 0 n [] w (Nat.le_refl _) (by omega) (by rw [oy.bytes, Nat.zero_add]; exact hb) (by omega) (by simp) (fun _ => rfl) (fun a h => by cases h)
  refine this.mono ?_
  rintro e w' ⟨rfl, rfl⟩
  refine ⟨_, _, _, rfl, rfl, ?_⟩
  have hg : n ≤ grownCap w (0 + n) 0 (ρ.t 25) := by have := grownCap_ge w (0 + n) 0 (ρ.t 25); omega
  simp only [Array.size_append, size_zeroCells, oy.zcs]
  simp only [List.size_toArray, List.length_nil, Nat.zero_add, Nat.sub_zero] at *
  rw [← Nat.add_mul]
  congr 1; omega
end Go.AM
namespace Go.AM
/-- Rows of rows. -/
def rowsL (sz : Nat) (ls : List (List (List AV))) : List (List AV) := ls.map fun l => [.sl .fro sz l]
@[simp] theorem rowsL_length (sz ls) : (rowsL sz ls).length = ls.length := by simp [rowsL]
theorem rowsL_get (sz) (ls : List (List (List AV))) (i : Nat) (h : i < ls.length) : (rowsL sz ls)[i]? = some [.sl .fro sz ls[i]] := by simp [rowsL, h]
@[simp] theorem rowsL_getElem (sz) (ls : List (List (List AV))) (i : Nat) (h : i < (rowsL sz ls).length) : (rowsL sz ls)[i] = [.sl .fro sz (ls[i]'(by simpa using h))] := by simp [rowsL]
def lenTo {α : Type} (ls : List (List α)) (i : Nat) : Nat := (ls.take i).flatten.length
theorem lenTo_succ {α : Type} (ls : List (List α)) (i : Nat) (h : i < ls.length) : lenTo ls (i + 1) = lenTo ls i + ls[i].length := by
  unfold lenTo
  rw [List.take_succ_eq_append_getElem h, List.flatten_append, List.length_append]
  simp only [List.flatten_cons, List.flatten_nil, List.append_nil]
theorem lenTo_le {α : Type} (ls : List (List α)) (i : Nat) : lenTo ls i ≤ ls.flatten.length := by
  unfold lenTo
  conv => rhs; rw [← List.take_append_drop i ls, List.flatten_append, List.length_append]
  omega
end Go.AM
namespace Go.AM
section
variable {C : Cx} {Q : Exit → St → Prop} {st : St}
theorem AWp.lastT (tr : Ot) (ks kb : List Nat) (l : List (Nat × AV)) (bx : Boxes) {id : Nat} {ops : Array Oper} (hmix : C.P.follows .mixedOrders = true) (hok : tr.okAll ops = true)
    (h : atree C ops ops.toList tr st fun s => s.sees ks kb l bx) (h2 : Q .normal (St.of l bx)) : AWp C (.region id ops true) st Q := by
  refine AWp.postFit (AWp.post (fun _ => (ks, kb)) ((AWp.tree (Q := fun e s => thenQ (fun s => s.sees ks kb l bx) (fun _ _ => False) e s) tr hmix hok h).mono ?_))
  intro e s hs
  cases e with
  | normal => exact ⟨_, St.sees_fits hs, h2⟩
  | _ => exact hs.elim
end
end Go.AM
namespace Go.AM
theorem ren_calm (f : Nat → Option Nat) {x : AV} (hx : x.calm = true) : x.ren f = x := by
  cases x <;> first | rfl | (simp [AV.calm] at hx; done)
@[simp] theorem map_ren_calm {f : Nat → Option Nat} {cs : List AV} (h : Calm cs) : cs.map (AV.ren f) = cs := by
  have : cs.map (AV.ren f) = cs.map id := List.map_congr_left fun c hc => ren_calm f (h c hc)
  rw [this, List.map_id]
end Go.AM
namespace Go.AM
/-- A result whose new rows are given up. -/
theorem Pure.fro {P : Program} {f : Nat} {args : List AV} {r : AV} (h : Pure P f args r) : Pure P f args (r.tr (fzLeaf (isSlotOf 0)) (.slot 0 [])) := by
  refine ⟨h.1, fun w β ω Pub vs R hω hl hv => ?_⟩
  refine (h.2 w β ω Pub vs R hω hl hv).mono ?_
  rintro e w' ⟨v, E', rfl, rfl, I, hst, ho, hr⟩
  have I2 := I.fz (isSlotOf 0) fun _ => rfl
  refine ⟨v, E'.fz (isSlotOf 0), rfl, rfl, I2, ?_, fun bk q hq => ?_, ?_⟩
  · show E'.st.fz (isSlotOf 0) = _
    rw [hst]
    rfl
  · have h' : (E'.fz (isSlotOf 0)).ω bk = some q := hq
    simp only [Env.fz] at h'
    split at h'
    · rename_i q' hq'
      split at h'
      · cases h'
      · cases h'; exact ho bk q hq'
    · cases h'
  · exact hr.fz _
end Go.AM
namespace Go.AM
open Go.Proofs

def Try.growDot_ren : Go.Shelf.Ren := ⟨fun | 4 => 160 | n => n, fun | 22 => 84 | 25 => 80 | 3 => 3 | 4 => 4 | 9 => 9 | 20 => 20 | 0 => 0 | 2 => 3 | n => n, fun | n => n⟩
theorem Try.growDot : Go.Proofs.Lays8.n4 Try.prog Try.growDot_ren := {
  mixed := by kernel_rfl,
  f4 := ⟨Try.f160.name, by decide, Try.func160.trans (congrArg some (by kernel_rfl))⟩,
  t0 := Try.underlying0, a0 := Try.isAgg0, z0 := Try.sizeOf0, v0 := Try.zeroValue0,
  t3 := Try.underlying3, a3 := Try.isAgg3, z3 := Try.sizeOf3, v3 := Try.zeroValue3,
  t4 := Try.underlying4, a4 := Try.isAgg4, z4 := Try.sizeOf4, v4 := Try.zeroValue4,
  t9 := Try.underlying9, a9 := Try.isAgg9, z9 := Try.sizeOf9, v9 := Try.zeroValue9,
  t20 := Try.underlying20, a20 := Try.isAgg20, z20 := Try.sizeOf20, v20 := Try.zeroValue20,
  t22 := Try.underlying84, a22 := Try.isAgg84, z22 := Try.sizeOf84, v22 := Try.zeroValue84 }
theorem c_Grow_Dot_0 : Pure Try.prog 160 [.sl .nl 2 [], .i .i64 0] (.sl .own 2 []) := by
  refine proc_of (cx Try.prog 27 [0, 1, 4, 6, 16] [4]) 25 [.tmp 4] Try.func160 rfl rfl rfl rfl rfl rfl (Nat.le_refl _) rfl ?_
  refine AWp.go [0, 1] [] fun K hK => ?_
  simp
  first | refine hK _ _ ?_ | refine ⟨by omega, hK _ _ ?_⟩ | refine ⟨by omega, by omega, hK _ _ ?_⟩
  clear hK K
  refine AWp.seq ?_
  refine AWp.go [0, 1, 6] [] fun K hK => ?_
  simp
  first | refine hK _ _ ?_ | refine ⟨by omega, hK _ _ ?_⟩ | refine ⟨by omega, by omega, hK _ _ ?_⟩
  clear hK K
  refine AWp.cond (t := false) (by simp) (by simp) (fun _ => ?_)
  refine AWp.skip ?_
  show AWp _ _ _ _
  refine AWp.seq ?_
  refine AWp.go [0, 1] [] fun K hK => ?_
  simp
  first | refine hK _ _ ?_ | refine ⟨by omega, hK _ _ ?_⟩ | refine ⟨by omega, by omega, hK _ _ ?_⟩
  clear hK K
  refine AWp.go [0, 1, 16] [] fun K hK => ?_
  simp
  first | refine hK _ _ ?_ | refine ⟨by omega, hK _ _ ?_⟩ | refine ⟨by omega, by omega, hK _ _ ?_⟩
  clear hK K
  refine AWp.cond (t := false) (by simp) (by simp) (fun _ => ?_)
  refine AWp.skip ?_
  show AWp _ _ _ _
  refine AWp.go [4] [] fun K hK => ?_
  simp
  first | refine hK _ _ ?_ | refine ⟨by omega, hK _ _ ?_⟩ | refine ⟨by omega, by omega, hK _ _ ?_⟩
  clear hK K
  refine AWp.ret ?_
  simp
theorem c_Grow_Dot (n : Nat) (hn : n ≤ 1000000) : Pure Try.prog 160 [.sl .nl 2 [], .i .i64 n] (.sl .own 2 []) := by
  rcases Nat.eq_zero_or_pos n with rfl | h0
  · exact c_Grow_Dot_0
  obtain ⟨y, hy, h1, h2⟩ : ∃ y, ti Try.prog 80 = some y ∧ y.size = 2 ∧ y.bytes = 16 := by
    have : Cx.T' Try.prog 80 = ti Try.prog 80 := rfl
    rw [← this]
    simp
  have := pure_grow Try.growDot (y := y) hy (by omega) n h0 (by rw [h2]; omega) (by omega)
  rw [h1] at this
  exact this
set_option maxRecDepth 8000 in
theorem c_Concat_Dot (ls : List (List (List AV))) (hn : ls.length ≤ 1000) (hs : ls.flatten.length ≤ 1000000) : Pure Try.prog 99 [.sl .fro 1 (rowsL 2 ls)] (.sl .own 2 ls.flatten) := by
  refine proc_of (cx Try.prog 36 [0, 2, 3, 5, 6, 8, 9, 10, 11, 12, 20, 25, 26, 27, 28] [2]) 35 [.tmp 2] Try.func99 rfl rfl rfl rfl rfl rfl (Nat.le_refl _) rfl ?_
  refine AWp.go [0] [] fun K hK => ?_
  simp
  first | refine hK _ _ ?_ | refine ⟨by omega, hK _ _ ?_⟩ | refine ⟨by omega, by omega, hK _ _ ?_⟩
  clear hK K
  refine AWp.go [0, 3] [] fun K hK => ?_
  simp
  first | refine hK _ _ ?_ | refine ⟨by omega, hK _ _ ?_⟩ | refine ⟨by omega, by omega, hK _ _ ?_⟩
  clear hK K
  refine AWp.seq ?_
  refine AWp.go [0, 3, 9, 10, 11] [] fun K hK => ?_
  simp
  first | refine hK _ _ ?_ | refine ⟨by omega, hK _ _ ?_⟩ | refine ⟨by omega, by omega, hK _ _ ?_⟩
  clear hK K
  refine AWp.block (AWp.while (fun i : Nat => [(0, .sl .fro 1 (rowsL 2 ls)), (3, .i .i64 (lenTo ls i)), (9, .sl .fro 1 (rowsL 2 ls)), (10, .i .i64 ls.length), (11, .i .i64 i)]) (fun i => []) (fun i => i ≤ ls.length) (fun i => ls.length - i) [0, 3, 9, 10, 11] [] 0 (by simp) (by simp [lenTo]) ?_)
  intro i hi
  refine AWp.go [0, 3, 9, 10, 11, 12] [] fun K hK => ?_
  simp
  first | refine hK _ _ ?_ | refine ⟨by omega, hK _ _ ?_⟩ | refine ⟨by omega, by omega, hK _ _ ?_⟩
  clear hK K
  refine AWp.seq ?_
  by_cases h : i < ls.length
  · refine AWp.cond (t := true) (by first | (simp [h]; done) | (simp [h]; omega)) (fun _ => ?_) (by simp)
    have h1 := lenTo_le ls (i + 1)
    have h2 := lenTo_succ ls i h
    have w1 : IntKind.i64.wrap ((i : Int) + 1) = i + 1 := wrap64 (by omega) (by omega)
    have w2 : IntKind.i64.wrap ((lenTo ls i : Int) + ls[i].length) = (lenTo ls (i + 1) : Int) := by rw [wrap64 (by omega) (by omega)]; omega
    refine AWp.skip ?_
    show AWp _ _ _ _
    refine AWp.seq ?_
    refine AWp.block ?_
    refine AWp.go [0, 3, 5, 9, 10, 11] [] fun K hK => ?_
    simp [h]
    first | refine hK _ _ ?_ | refine ⟨by omega, hK _ _ ?_⟩ | refine ⟨by omega, by omega, hK _ _ ?_⟩
    clear hK K
    refine AWp.go [0, 3, 9, 10, 11] [] fun K hK => ?_
    simp [w2]
    first | refine hK _ _ ?_ | refine ⟨by omega, hK _ _ ?_⟩ | refine ⟨by omega, by omega, hK _ _ ?_⟩
    clear hK K
    refine AWp.go [0, 3, 9, 10, 11, 20] [] fun K hK => ?_
    simp
    first | refine hK _ _ ?_ | refine ⟨by omega, hK _ _ ?_⟩ | refine ⟨by omega, by omega, hK _ _ ?_⟩
    clear hK K
    refine AWp.cond (t := false) (by simp) (by simp) (fun _ => ?_)
    refine AWp.skip ?_
    show AWp _ _ _ _
    refine AWp.goLast [0, 3, 9, 10, 11] [] fun K hK => ?_
    simp
    first | refine hK _ _ ?_ | refine ⟨by omega, hK _ _ ?_⟩ | refine ⟨by omega, by omega, hK _ _ ?_⟩
    clear hK K
    refine ⟨i + 1, by omega, by omega, ?_⟩
    simp [w1]
  · refine AWp.cond (t := false) (by first | (simp [h]; done) | (simp [h]; omega)) (by simp) (fun _ => ?_)
    refine AWp.exit ?_
    show AWp _ _ _ _
    obtain rfl : i = ls.length := by omega
    have hlt : lenTo ls ls.length = ls.flatten.length := by simp [lenTo]
    have hl1 := lenTo_le ls ls.length
    refine AWp.go [0, 6] [] fun K hK => ?_
    simp
    refine call_nil (c_Grow_Dot (lenTo ls ls.length) (by omega)) (by simp) (by simp) ?_
    simp
    first | refine hK _ _ ?_ | refine ⟨by omega, hK _ _ ?_⟩ | refine ⟨by omega, by omega, hK _ _ ?_⟩
    clear hK K
    refine AWp.seq ?_
    refine AWp.go [6, 25, 26, 27] [] fun K hK => ?_
    simp
    first | refine hK _ _ ?_ | refine ⟨by omega, hK _ _ ?_⟩ | refine ⟨by omega, by omega, hK _ _ ?_⟩
    clear hK K
    refine AWp.block (AWp.while (fun j : Nat => [(6, .sl .own 2 (ls.take j).flatten), (25, .sl .fro 1 (rowsL 2 ls)), (26, .i .i64 ls.length), (27, .i .i64 j)]) (fun j => []) (fun j => j ≤ ls.length) (fun j => ls.length - j) [6, 25, 26, 27] [] 0 (by simp) (by simp) ?_)
    intro j hj
    refine AWp.go [6, 25, 26, 27, 28] [] fun K hK => ?_
    simp
    first | refine hK _ _ ?_ | refine ⟨by omega, hK _ _ ?_⟩ | refine ⟨by omega, by omega, hK _ _ ?_⟩
    clear hK K
    refine AWp.seq ?_
    by_cases h : j < ls.length
    · refine AWp.cond (t := true) (by first | (simp [h]; done) | (simp [h]; omega)) (fun _ => ?_) (by simp)
      have h1 := lenTo_le ls (j + 1)
      have h2 := lenTo_succ ls j h
      have h3 : (ls.take j).flatten.length = lenTo ls j := rfl
      have w1 : IntKind.i64.wrap ((j : Int) + 1) = j + 1 := wrap64 (by omega) (by omega)
      refine AWp.skip ?_
      show AWp _ _ _ _
      refine AWp.seq ?_
      refine AWp.block ?_
      refine AWp.go [6, 8, 25, 26, 27] [] fun K hK => ?_
      simp [h]
      first | refine hK _ _ ?_ | refine ⟨by omega, hK _ _ ?_⟩ | refine ⟨by omega, by omega, hK _ _ ?_⟩
      clear hK K
      refine AWp.goLast [6, 25, 26, 27] [] fun K hK => ?_
      simp
      refine ⟨?_, hK _ _ ?_⟩
      · rw [List.length_flatten, List.map_take] at h3
        omega
      clear hK K
      show AWp _ _ _ _
      refine AWp.goLast [6, 25, 26, 27] [] fun K hK => ?_
      simp
      first | refine hK _ _ ?_ | refine ⟨by omega, hK _ _ ?_⟩ | refine ⟨by omega, by omega, hK _ _ ?_⟩
      clear hK K
      refine ⟨j + 1, by omega, by omega, ?_⟩
      have e : (ls.take (j + 1)).flatten = (ls.take j).flatten ++ ls[j] := by
        rw [List.take_succ_eq_append_getElem h, List.flatten_append]
        simp only [List.flatten_cons, List.flatten_nil, List.append_nil]
      simp [w1, e]
    · refine AWp.cond (t := false) (by first | (simp [h]; done) | (simp [h]; omega)) (by simp) (fun _ => ?_)
      refine AWp.exit ?_
      show AWp _ _ _ _
      obtain rfl : j = ls.length := by omega
      refine AWp.go [2] [] fun K hK => ?_
      simp
      first | refine hK _ _ ?_ | refine ⟨by omega, hK _ _ ?_⟩ | refine ⟨by omega, by omega, hK _ _ ?_⟩
      clear hK K
      refine AWp.ret ?_
      simp
end Go.AM
namespace Go.AM
open Go.Proofs

theorem sortD_length (l : List Dot) : (sortD l).length = l.length := by simp [sortD, List.length_mergeSort]
def ordP (l : List Dot) : List Dot := compD (sortD l)

theorem compD_one (l : List Dot) (h : l.length = 1) : compD l = l := by
  match l, h with
  | [x], _ => simp [compD, compN]

theorem c_Compact_0 (xs : List (List AV)) (h : xs.length < 2) : Pure Try.prog 108 [.sl .fro 2 xs] (.sl .fro 2 xs) := by
  refine proc_of (cx Try.prog 61 [0, 2, 3, 4, 5, 8, 13, 25, 32, 44] [2]) 60 [.tmp 2] Try.func108 rfl rfl rfl rfl rfl rfl (Nat.le_refl _) rfl ?_
  refine AWp.go [0] [] fun K hK => ?_
  simp
  first | refine hK _ _ ?_ | refine ⟨by omega, hK _ _ ?_⟩ | refine ⟨by omega, by omega, hK _ _ ?_⟩
  clear hK K
  refine AWp.seq ?_
  refine AWp.go [0, 8] [] fun K hK => ?_
  simp
  first | refine hK _ _ ?_ | refine ⟨by omega, hK _ _ ?_⟩ | refine ⟨by omega, by omega, hK _ _ ?_⟩
  clear hK K
  refine AWp.cond (t := true) (by first | (simp; done) | (simp; omega)) (fun _ => ?_) (by simp)
  refine AWp.go [2] [] fun K hK => ?_
  simp
  first | refine hK _ _ ?_ | refine ⟨by omega, hK _ _ ?_⟩ | refine ⟨by omega, by omega, hK _ _ ?_⟩
  clear hK K
  refine AWp.ret ?_
  simp

set_option maxRecDepth 8000 in
theorem c_dots_Order (l : List Dot) (hlen : l.length ≤ 1000000) : Pure Try.prog 54 [.sl .fro 2 (dotsAV l)] (.sl .fro 2 (dotsAV (ordP l))) := by
  refine proc_of (cx Try.prog 10 [0, 2, 3] [2]) 9 [.tmp 2] Try.func54 rfl rfl rfl rfl rfl rfl (Nat.le_refl _) rfl ?_
  refine AWp.go [0] [] fun K hK => ?_
  simp
  first | refine hK _ _ ?_ | refine ⟨by omega, hK _ _ ?_⟩ | refine ⟨by omega, by omega, hK _ _ ?_⟩
  clear hK K
  refine AWp.go [3] [] fun K hK => ?_
  simp
  refine call_pure (c_Clone_Dot (dotsAV l) (by simp; omega)) (by simp) ?_
  simp
  refine hK _ _ ?_
  clear hK K
  have hs := sortD_length l
  by_cases h0 : l = []
  subst h0
  · refine AWp.step [3] [] [(3, .sl .own 2 [])] [] ?_ ?_
    · simp
      refine call_pure (c_SortFunc_0 107) (by simp) ?_
      simp
    refine AWp.go [2] [] fun K hK => ?_
    simp
    refine call_pure (c_Compact_0 [] (by simp)) (by simp) ?_
    simp
    refine hK _ _ ?_
    refine AWp.ret ?_
    simp [ordP, sortD, compD, compN]
  refine AWp.step [3] [] [(3, .sl .own 2 (dotsAV (sortD l)))] [] ?_ ?_
  · simp
    refine call_lend (l106 l (by omega)) ⟨_, rfl, rfl, rfl⟩ (by simpa [dotsAV] using h0) (by simp) (by simp) ?_
    simp
  by_cases h1 : l.length = 1
  · refine AWp.go [2] [] fun K hK => ?_
    simp
    refine call_pure (c_Compact_0 (dotsAV (sortD l)) (by simp; omega)) (by simp) ?_
    simp
    refine hK _ _ ?_
    refine AWp.ret ?_
    have : compD (sortD l) = sortD l := compD_one _ (by omega)
    simp [ordP, this]
  refine AWp.go [2] [] fun K hK => ?_
  simp
  refine call_hand (h_Compact_Dot (sortD l) (by omega) (by have := List.length_pos_iff.2 h0; omega)) ⟨_, rfl, rfl, rfl⟩ (by intro h; have := congrArg List.length h; simp [dotsAV] at this; rw [this] at hs; exact h0 (List.eq_nil_of_length_eq_zero hs.symm)) (by simp) ?_
  simp
  first | refine hK _ _ ?_ | refine ⟨by omega, hK _ _ ?_⟩ | refine ⟨by omega, by omega, hK _ _ ?_⟩
  clear hK K
  refine AWp.frz [2] ?_
  simp
  refine AWp.ret ?_
  simp [ordP]

theorem plainL_len (u : List Int) (h : clockOk u = true) : (plainL (ofL u)).length = u.length ↔ plainL (ofL u) = u := by
  refine ⟨fun hl => ?_, fun hl => by rw [hl]⟩
  have h5 := clockOk_len h
  unfold plainL at hl ⊢
  have e : ofL u = u ++ List.replicate (5 - u.length) 0 := by unfold ofL; rw [if_pos h]
  rw [e, List.length_take, List.length_append, List.length_replicate] at hl
  rw [e]
  have hn : plainN (u ++ List.replicate (5 - u.length) 0) 5 = u.length := by
    have := plainN_le (u ++ List.replicate (5 - u.length) 0) 5
    omega
  rw [hn, List.take_left]

theorem moreOk_alt (u : List Int) (l : List Dot) (i : Nat) (h : i < l.length) : moreOk u l i = (mayD l[i] && decide (getC u l[i].1 < l[i].2 - 1) && (!decide (0 < i) || ltD (l.getD (i - 1) (0, 0)) l[i])) := by
  unfold moreOk
  rw [List.getElem?_eq_getElem h]
  have : (getC u l[i].1 + 1 < l[i].2) = (getC u l[i].1 < l[i].2 - 1) := by simp; omega
  simp only [this]

set_option maxRecDepth 8000 in
set_option maxHeartbeats 1000000 in
theorem c_dots_Check (s : Seen) (hu : s.upto.length ≤ 1000000) (hm : s.more.length ≤ 1000000) : Pure Try.prog 51 [.agg (seenC s)] (.i .i64 (if seenOk s then 0 else 1)) := by
  refine proc_of (cx Try.prog 63 [1, 2, 3, 4, 24, 26, 27, 28, 29, 61] [2]) 62 [.tmp 2] Try.func51 rfl rfl rfl rfl rfl rfl (Nat.le_refl _) rfl ?_
  refine AWp.go [1] [1] fun K hK => ?_
  simp [seenC]
  first | refine hK _ _ ?_ | refine ⟨by omega, hK _ _ ?_⟩ | refine ⟨by omega, by omega, hK _ _ ?_⟩
  clear hK K
  refine AWp.seq ?_
  refine AWp.stepD 20 (fun k => if k = 2 then .i .i64 (if clockOk s.upto then 0 else 1) else if k = 7 then .sl .own 1 (intsAV (plainL (ofL s.upto))) else .any) [1, 24] [1] [(1, .ptr 1 0), (24, .b (!(clockOk s.upto && decide (plainL (ofL s.upto) = s.upto) && decide (s.more.length ≤ 1000))))] [(1, [.sl .fro 1 (intsAV s.upto), .sl .fro 2 (dotsAV s.more)])] mix (by kernel_rfl) ?_ ?_
  · have h1 := c100 s.upto (by omega)
    have h2 := c101 s.upto (by omega)
    cases q1 : clockOk s.upto
    · rw [q1] at h1
      simp at h1
      simp [h1]
    · rw [q1] at h1
      have hpl := plainL_len s.upto q1
      by_cases q2 : plainL (ofL s.upto) = s.upto
      · rw [q2] at h2
        by_cases q3 : s.more.length ≤ 1000
        · simp at h1
          simp [q2, q3, h1, h2]
          omega
        · simp at h1
          simp [q2, q3, h1, h2]
          omega
      · have q3 : ¬ (plainL (ofL s.upto)).length = s.upto.length := fun h => q2 (hpl.1 h)
        have q4 : ¬ ((plainL (ofL s.upto)).length : Int) = s.upto.length := by omega
        simp at h1
        simp [q2, q4, h1, h2]
  cases hq : clockOk s.upto && decide (plainL (ofL s.upto) = s.upto) && decide (s.more.length ≤ 1000)
  · refine AWp.cond (t := true) (by simp) (fun _ => ?_) (by simp)
    refine AWp.go [2] [] fun K hK => ?_
    simp
    first | refine hK _ _ ?_ | refine ⟨by omega, hK _ _ ?_⟩ | refine ⟨by omega, by omega, hK _ _ ?_⟩
    clear hK K
    refine AWp.ret ?_
    simp [seenOk, hq]
  · refine AWp.cond (t := false) (by simp) (by simp) (fun _ => ?_)
    refine AWp.skip ?_
    show AWp _ _ _ _
    refine AWp.seq ?_
    refine AWp.go [1, 26, 27, 28] [1] fun K hK => ?_
    simp
    first | refine hK _ _ ?_ | refine ⟨by omega, hK _ _ ?_⟩ | refine ⟨by omega, by omega, hK _ _ ?_⟩
    clear hK K
    refine AWp.block (AWp.while (fun i : Nat => [(1, .ptr 1 0), (26, .sl .fro 2 (dotsAV s.more)), (27, .i .i64 s.more.length), (28, .i .i64 i)]) (fun i => [(1, [.sl .fro 1 (intsAV s.upto), .sl .fro 2 (dotsAV s.more)])]) (fun i => i ≤ s.more.length ∧ ∀ k, k < i → moreOk s.upto s.more k = true) (fun i => s.more.length - i) [1, 26, 27, 28] [1] 0 (by simp) (by simp) ?_)
    rintro i ⟨hi, hall⟩
    refine AWp.go [1, 26, 27, 28, 29] [1] fun K hK => ?_
    simp
    first | refine hK _ _ ?_ | refine ⟨by omega, hK _ _ ?_⟩ | refine ⟨by omega, by omega, hK _ _ ?_⟩
    clear hK K
    refine AWp.seq ?_
    by_cases h : i < s.more.length
    · refine AWp.cond (t := true) (by first | (simp [h]; done) | (simp [h]; omega)) (fun _ => ?_) (by simp)
      refine AWp.skip ?_
      show AWp _ _ _ _
      refine AWp.seq ?_
      refine AWp.block ?_
      refine AWp.go [1, 3, 4, 26, 27, 28] [1, 4] fun K hK => ?_
      simp [h]
      first | refine hK _ _ ?_ | refine ⟨by omega, hK _ _ ?_⟩ | refine ⟨by omega, by omega, hK _ _ ?_⟩
      clear hK K
      refine AWp.stepD 29 (fun k => if k = 1 then .b (mayD s.more[i]) else if k = 26 then .i .i64 (getC s.upto s.more[i].1) else if k = 14 then .b (ltD (s.more.getD (i - 1) (0, 0)) s.more[i]) else .any) [1, 26, 27, 28, 61] [1] [(1, .ptr 1 0), (26, .sl .fro 2 (dotsAV s.more)), (27, .i .i64 s.more.length), (28, .i .i64 i), (61, .b (!moreOk s.upto s.more i))] [(1, [.sl .fro 1 (intsAV s.upto), .sl .fro 2 (dotsAV s.more)])] mix (by kernel_rfl) ?_ ?_
      · have g1 := c_dots_May s.more[i]
        have g2 := c102 s.upto s.more[i].1 (by omega)
        rw [moreOk_alt _ _ _ h]
        cases q1 : mayD s.more[i]
        · rw [q1] at g1
          simp
          simpa [dotC] using g1
        rw [q1] at g1
        have hd := mayD_pos q1
        have hg := getC_range s.upto s.more[i].1
        have w1 : IntKind.i64.wrap (s.more[i].2 - 1) = s.more[i].2 - 1 := wrap64 (by omega) (by omega)
        simp [dotC] at g1
        by_cases q3 : 0 < i
        · obtain ⟨j, rfl⟩ : ∃ j, i = j + 1 := ⟨i - 1, by omega⟩
          have hj : j < s.more.length := by omega
          have w2 : IntKind.i64.wrap (j : Int) = j := wrap64 (by omega) (by omega)
          have g3 := c_dots_Less s.more[j] s.more[j + 1]
          simp [dotC] at g3
          cases q4 : ltD s.more[j] s.more[j + 1]
          · rw [q4] at g3
            simp [hj, q4, w2, g1, g3]
          · rw [q4] at g3
            simp [hj, q4, w1, w2, g1, g2, g3]
            by_cases q2 : getC s.upto s.more[j + 1].1 < s.more[j + 1].2 - 1
            · simp [q2]; try omega
            · simp [q2]; try omega
        · simp [q3, w1, g1, g2]
          by_cases q2 : getC s.upto s.more[i].1 < s.more[i].2 - 1
          · simp [q2]; try omega
          · simp [q2]; try omega
      cases hp : moreOk s.upto s.more i
      · refine AWp.cond (t := true) (by simp) (fun _ => ?_) (by simp)
        refine AWp.go [2] [] fun K hK => ?_
        simp
        first | refine hK _ _ ?_ | refine ⟨by omega, hK _ _ ?_⟩ | refine ⟨by omega, by omega, hK _ _ ?_⟩
        clear hK K
        refine AWp.ret ?_
        simp [seenOk, range_not h hp]
      · refine AWp.cond (t := false) (by simp) (by simp) (fun _ => ?_)
        refine AWp.skip ?_
        show AWp _ _ _ _
        refine AWp.goLast [1, 26, 27, 28] [1] fun K hK => ?_
        simp
        first | refine hK _ _ ?_ | refine ⟨by omega, hK _ _ ?_⟩ | refine ⟨by omega, by omega, hK _ _ ?_⟩
        clear hK K
        refine ⟨i + 1, ⟨by omega, fun k hk => ?_⟩, by omega, ?_⟩
        · by_cases hki : k = i
          · subst hki; exact hp
          · exact hall k (by omega)
        · simp
          exact wrap64 (by omega) (by omega)
    · refine AWp.cond (t := false) (by first | (simp [h]; done) | (simp [h]; omega)) (by simp) (fun _ => ?_)
      refine AWp.exit ?_
      show AWp _ _ _ _
      obtain rfl : i = s.more.length := by omega
      refine AWp.go [2] [] fun K hK => ?_
      simp
      first | refine hK _ _ ?_ | refine ⟨by omega, hK _ _ ?_⟩ | refine ⟨by omega, by omega, hK _ _ ?_⟩
      clear hK K
      refine AWp.ret ?_
      rw [seenOk, hq, range_all hall]
      simp
end Go.AM
namespace Go.AM
open Go.Proofs

set_option maxRecDepth 8000 in
theorem c_Index_Dot (l : List Dot) (d : Dot) (hlen : l.length ≤ 1000000) : Pure Try.prog 168 [.sl .fro 2 (dotsAV l), .agg (dotC d)] (.i .i64 (idxI (fun x => decide (x = d)) l)) := by
  refine proc_of (cx Try.prog 19 [0, 3, 4, 5, 7, 8, 9, 16] [4]) 17 [.tmp 4] Try.func168 rfl rfl rfl rfl rfl rfl (Nat.le_refl _) rfl ?_
  refine AWp.go [0, 3] [3] fun K hK => ?_
  simp [dotC]
  first | refine hK _ _ ?_ | refine ⟨by omega, hK _ _ ?_⟩ | refine ⟨by omega, by omega, hK _ _ ?_⟩
  clear hK K
  refine AWp.seq ?_
  refine AWp.go [0, 3, 7, 8] [3] fun K hK => ?_
  simp
  first | refine hK _ _ ?_ | refine ⟨by omega, hK _ _ ?_⟩ | refine ⟨by omega, by omega, hK _ _ ?_⟩
  clear hK K
  refine AWp.block (AWp.while (fun i : Nat => [(0, .sl .fro 2 (dotsAV l)), (3, .ptr 3 0), (7, .i .i64 l.length), (8, .i .i64 i)]) (fun i => [(3, [.i .i64 d.1, .i .i64 d.2])]) (fun i => i ≤ l.length ∧ ∀ k (hk : k < i) (hk2 : k < l.length), decide (l[k] = d) = false) (fun i => l.length - i) [0, 3, 7, 8] [3] 0 (by simp) (by simp) ?_)
  rintro i ⟨hi, hall⟩
  refine AWp.go [0, 3, 7, 8, 9] [3] fun K hK => ?_
  simp
  first | refine hK _ _ ?_ | refine ⟨by omega, hK _ _ ?_⟩ | refine ⟨by omega, by omega, hK _ _ ?_⟩
  clear hK K
  refine AWp.seq ?_
  by_cases h : i < l.length
  · refine AWp.cond (t := true) (by first | (simp [h]; done) | (simp [h]; omega)) (fun _ => ?_) (by simp)
    refine AWp.skip ?_
    show AWp _ _ _ _
    refine AWp.seq ?_
    refine AWp.block ?_
    refine AWp.go [0, 3, 5, 7, 8] [3] fun K hK => ?_
    simp
    first | refine hK _ _ ?_ | refine ⟨by omega, hK _ _ ?_⟩ | refine ⟨by omega, by omega, hK _ _ ?_⟩
    clear hK K
    refine AWp.goD 6 (fun _ => .any) [0, 3, 5, 7, 8, 16] [3] mix (by kernel_rfl) fun K hK => ?_
    simp [h]
    first | refine hK _ _ ?_ | refine ⟨by omega, hK _ _ ?_⟩ | refine ⟨by omega, by omega, hK _ _ ?_⟩
    clear hK K
    by_cases hp : l[i] = d
    · refine AWp.cond (t := true) (by simp [Prod.ext_iff] at hp ⊢; omega) (fun _ => ?_) (by simp)
      refine AWp.go [4] [] fun K hK => ?_
      simp
      first | refine hK _ _ ?_ | refine ⟨by omega, hK _ _ ?_⟩ | refine ⟨by omega, by omega, hK _ _ ?_⟩
      clear hK K
      refine AWp.ret ?_
      rw [idxI_at _ l i h (fun k hk => hall k hk (by omega)) (by simp [hp])]
      simp
    · refine AWp.cond (t := false) (by simp [Prod.ext_iff] at hp ⊢; omega) (by simp) (fun _ => ?_)
      refine AWp.skip ?_
      show AWp _ _ _ _
      refine AWp.goLast [0, 3, 7, 8] [3] fun K hK => ?_
      simp
      first | refine hK _ _ ?_ | refine ⟨by omega, hK _ _ ?_⟩ | refine ⟨by omega, by omega, hK _ _ ?_⟩
      clear hK K
      refine ⟨i + 1, ⟨by omega, fun k hk hk2 => ?_⟩, by omega, ?_⟩
      · by_cases hki : k = i
        · subst hki; simpa using hp
        · exact hall k (by omega) hk2
      · simp
        exact wrap64 (by omega) (by omega)
  · refine AWp.cond (t := false) (by first | (simp [h]; done) | (simp [h]; omega)) (by simp) (fun _ => ?_)
    refine AWp.exit ?_
    show AWp _ _ _ _
    refine AWp.go [4] [] fun K hK => ?_
    simp
    first | refine hK _ _ ?_ | refine ⟨by omega, hK _ _ ?_⟩ | refine ⟨by omega, by omega, hK _ _ ?_⟩
    clear hK K
    refine AWp.ret ?_
    rw [idxI_none _ l fun k hk => hall k (by omega) hk]
    simp

theorem any_mem {α : Type} [DecidableEq α] (l : List α) (d : α) : (l.any fun x => decide (x = d)) = decide (d ∈ l) := by
  rw [Bool.eq_iff_iff, List.any_eq_true]
  simp

theorem c_Contains_Dot (l : List Dot) (d : Dot) (hlen : l.length ≤ 1000000) : Pure Try.prog 110 [.sl .fro 2 (dotsAV l), .agg (dotC d)] (.b (decide (d ∈ l))) := by
  refine proc_of (cx Try.prog 9 [0, 3, 4] [4]) 7 [.tmp 4] Try.func110 rfl rfl rfl rfl rfl rfl (Nat.le_refl _) rfl ?_
  refine AWp.go [0, 3] [3] fun K hK => ?_
  simp [dotC]
  first | refine hK _ _ ?_ | refine ⟨by omega, hK _ _ ?_⟩ | refine ⟨by omega, by omega, hK _ _ ?_⟩
  clear hK K
  refine AWp.go [4] [] fun K hK => ?_
  simp
  refine call_pure (c_Index_Dot l d hlen) (by simp [dotC]) ?_
  simp
  first | refine hK _ _ ?_ | refine ⟨by omega, hK _ _ ?_⟩ | refine ⟨by omega, by omega, hK _ _ ?_⟩
  clear hK K
  refine AWp.ret ?_
  rw [idxI_ge, any_mem]
  simp

set_option maxRecDepth 8000 in
set_option maxHeartbeats 1000000 in
theorem c_dots_Has (s : Seen) (d : Dot) (hu : s.upto.length ≤ 1000000) (hm : s.more.length ≤ 1000000) : Pure Try.prog 56 [.agg (seenC s), .agg (dotC d)] (.b (seenOk s && hasD s d)) := by
  refine proc_of (cx Try.prog 27 [2, 3, 4, 12] [4]) 25 [.tmp 4] Try.func56 rfl rfl rfl rfl rfl rfl (Nat.le_refl _) rfl ?_
  refine AWp.go [2, 3] [2, 3] fun K hK => ?_
  simp [seenC, dotC]
  first | refine hK _ _ ?_ | refine ⟨by omega, hK _ _ ?_⟩ | refine ⟨by omega, by omega, hK _ _ ?_⟩
  clear hK K
  refine AWp.seq ?_
  refine AWp.step [2, 3, 12] [2, 3] [(2, .ptr 2 0), (3, .ptr 3 0), (12, .b (!(seenOk s && mayD d)))] [(2, [.sl .fro 1 (intsAV s.upto), .sl .fro 2 (dotsAV s.more)]), (3, [.i .i64 d.1, .i .i64 d.2])] ?_ ?_
  · have g1 := c_dots_Check s hu hm
    have g2 := c_dots_May d
    simp
    refine call_pure g1 (by simp [seenC]) ?_
    cases q1 : seenOk s
    · simp
    · simp
      refine call_pure g2 (by simp [dotC]) ?_
      simp
  cases hq : seenOk s && mayD d
  · refine AWp.cond (t := true) (by simp) (fun _ => ?_) (by simp)
    refine AWp.go [4] [] fun K hK => ?_
    simp
    first | refine hK _ _ ?_ | refine ⟨by omega, hK _ _ ?_⟩ | refine ⟨by omega, by omega, hK _ _ ?_⟩
    clear hK K
    refine AWp.ret ?_
    simp [hasD, ← Bool.and_assoc, hq]
  · refine AWp.cond (t := false) (by simp) (by simp) (fun _ => ?_)
    refine AWp.skip ?_
    show AWp _ _ _ _
    refine AWp.stepD 14 (fun k => if k = 6 then .i .i64 (getC s.upto d.1) else if k = 12 then .b (decide (d ∈ s.more)) else .any) [4] [] [(4, .b (seenOk s && hasD s d))] [] mix (by kernel_rfl) ?_ ?_
    · simp at hq
      have g2 := c102 s.upto d.1 (by omega)
      have g3 := c_Contains_Dot s.more d (by omega)
      simp [dotC] at g3
      by_cases q2 : d.2 ≤ getC s.upto d.1
      · simp [hasD, hq.1, hq.2, q2, g2]
      · simp [hasD, hq.1, hq.2, q2, g2]
        exact g3
    refine AWp.ret ?_
    simp

/-- One round of settling. -/
def setStep (s : Seen) (d : Dot) : Seen :=
  if d.2 ≤ getC s.upto d.1 then s else if d.2 = getC s.upto d.1 + 1 then ⟨setC s.upto d.1 d.2, s.more⟩ else ⟨s.upto, s.more ++ [d]⟩
def setTo (u : List Int) (l : List Dot) (i : Nat) : Seen := ((ordP l).take i).foldl setStep ⟨plainL (ofL u), []⟩
theorem setTo_succ (u : List Int) (l : List Dot) (i : Nat) (h : i < (ordP l).length) : setTo u l (i + 1) = setStep (setTo u l i) (ordP l)[i] := by
  unfold setTo
  rw [List.take_succ_eq_append_getElem h, List.foldl_append]
  rfl
theorem plainL_len5 (f : List Int) : (plainL f).length ≤ 5 := by
  have := plainN_le f 5
  simp [plainL]; omega
theorem setC_len (u : List Int) (r n : Int) : (setC u r n).length ≤ 5 := by
  unfold setC
  split
  · exact plainL_len5 _
  · simp
theorem setTo_le (u : List Int) (l : List Dot) : ∀ i, i ≤ (ordP l).length → (setTo u l i).upto.length ≤ 5 ∧ (setTo u l i).more.length ≤ i
  | 0, _ => ⟨plainL_len5 _, by simp [setTo]⟩
  | i + 1, h => by
    have ih := setTo_le u l i (by omega)
    rw [setTo_succ u l i (by omega)]
    unfold setStep
    split
    · omega
    · split
      · exact ⟨setC_len _ _ _, by simp; omega⟩
      · simp; omega
theorem ordP_length (l : List Dot) : (ordP l).length ≤ l.length := by
  have := compD_le (sortD l)
  rw [sortD_length] at this
  exact this
def settled (u : List Int) (l : List Dot) : Seen := setTo u l (ordP l).length
def fullE (s : Seen) : Int := if s.more.length ≤ 1000 then 0 else 6
def fullS (s : Seen) : Seen := if s.more.length ≤ 1000 then s else ⟨[], []⟩

set_option maxRecDepth 8000 in
set_option maxHeartbeats 2000000 in
theorem c_dots_settle (u : List Int) (l : List Dot) (hu : u.length ≤ 1000000) (hl : l.length ≤ 1000000) (hmay : ∀ d ∈ ordP l, mayD d = true) : Pure Try.prog 98 [.sl .fro 1 (intsAV u), .sl .fro 2 (dotsAV l)] (.tup [.agg (seenC (fullS (settled u l))), .i .i64 (fullE (settled u l))]) := by
  refine proc_of (cx Try.prog 60 [0, 1, 4, 5, 6, 8, 9, 14, 15, 16, 17, 31, 36, 57] [4, 5]) 58 [.cell 4 86, .tmp 5] Try.func98 rfl rfl rfl rfl rfl rfl (Nat.le_refl _) rfl ?_
  refine AWp.go [0, 1, 4] [4] fun K hK => ?_
  simp
  first | refine hK _ _ ?_ | refine ⟨by omega, hK _ _ ?_⟩ | refine ⟨by omega, by omega, hK _ _ ?_⟩
  clear hK K
  refine AWp.go [1, 4, 6] [4, 6] fun K hK => ?_
  simp
  refine call_pure (c101 u (by omega)) (by simp) ?_
  simp
  first | refine hK _ _ ?_ | refine ⟨by omega, hK _ _ ?_⟩ | refine ⟨by omega, by omega, hK _ _ ?_⟩
  clear hK K
  refine AWp.frzc [(6, 0)] ?_
  simp
  refine AWp.seq ?_
  refine AWp.go [4, 6, 14, 15, 16] [4, 6] fun K hK => ?_
  simp
  refine call_pure (c_dots_Order l hl) (by simp) ?_
  simp
  first | refine hK _ _ ?_ | refine ⟨by omega, hK _ _ ?_⟩ | refine ⟨by omega, by omega, hK _ _ ?_⟩
  clear hK K
  refine AWp.block (AWp.while (fun i : Nat => [(4, .ptr 4 0), (6, .ptr 6 0), (14, .sl .fro 2 (dotsAV (ordP l))), (15, .i .i64 (ordP l).length), (16, .i .i64 i)]) (fun i => [(4, [.sl .nl 1 [], .sl .nl 2 []]), (6, [.sl .fro 1 (intsAV (setTo u l i).upto), .sl .own 2 (dotsAV (setTo u l i).more)])]) (fun i => i ≤ (ordP l).length) (fun i => (ordP l).length - i) [4, 6, 14, 15, 16] [4, 6] 0 (by simp) (by simp [setTo]) ?_)
  intro i hi
  obtain ⟨ha1, ha2⟩ := setTo_le u l i hi
  have hol := ordP_length l
  refine AWp.go [4, 6, 14, 15, 16, 17] [4, 6] fun K hK => ?_
  simp
  first | refine hK _ _ ?_ | refine ⟨by omega, hK _ _ ?_⟩ | refine ⟨by omega, by omega, hK _ _ ?_⟩
  clear hK K
  refine AWp.seq ?_
  by_cases h : i < (ordP l).length
  · refine AWp.cond (t := true) (by first | (simp [h]; done) | (simp [h]; omega)) (fun _ => ?_) (by simp)
    have w1 : IntKind.i64.wrap ((i : Int) + 1) = i + 1 := wrap64 (by omega) (by omega)
    have hd := mayD_pos (hmay _ (List.getElem_mem h))
    have hg := getC_range (setTo u l i).upto (ordP l)[i].1
    have w2 : IntKind.i64.wrap (getC (setTo u l i).upto (ordP l)[i].1 + 1) = getC (setTo u l i).upto (ordP l)[i].1 + 1 := wrap64 (by omega) (by omega)
    refine AWp.skip ?_
    show AWp _ _ _ _
    refine AWp.seq ?_
    refine AWp.block ?_
    refine AWp.go [4, 6, 8, 14, 15, 16] [4, 6, 8] fun K hK => ?_
    simp [h]
    first | refine hK _ _ ?_ | refine ⟨by omega, hK _ _ ?_⟩ | refine ⟨by omega, by omega, hK _ _ ?_⟩
    clear hK K
    refine AWp.go [4, 6, 8, 9, 14, 15, 16] [4, 6, 8] fun K hK => ?_
    simp
    refine call_pure (c102 (setTo u l i).upto (ordP l)[i].1 (by omega)) (by simp) ?_
    simp
    first | refine hK _ _ ?_ | refine ⟨by omega, hK _ _ ?_⟩ | refine ⟨by omega, by omega, hK _ _ ?_⟩
    clear hK K
    refine AWp.block ?_
    refine AWp.go [4, 6, 8, 9, 14, 15, 16, 31] [4, 6, 8] fun K hK => ?_
    simp
    first | refine hK _ _ ?_ | refine ⟨by omega, hK _ _ ?_⟩ | refine ⟨by omega, by omega, hK _ _ ?_⟩
    clear hK K
    by_cases hle : (ordP l)[i].2 ≤ getC (setTo u l i).upto (ordP l)[i].1
    · refine AWp.cond (t := true) (by first | (simp [hle]; done) | (simp [hle]; omega)) (fun _ => ?_) (by simp)
      refine AWp.skip ?_
      show AWp _ _ _ _
      refine AWp.goLast [4, 6, 14, 15, 16] [4, 6] fun K hK => ?_
      simp
      first | refine hK _ _ ?_ | refine ⟨by omega, hK _ _ ?_⟩ | refine ⟨by omega, by omega, hK _ _ ?_⟩
      clear hK K
      refine ⟨i + 1, by omega, by omega, ?_⟩
      simp [setTo_succ _ _ _ h, setStep, hle, w1]
    · refine AWp.cond (t := false) (by first | (simp [hle]; done) | (simp [hle]; omega)) (by simp) (fun _ => ?_)
      refine AWp.go [4, 6, 8, 14, 15, 16, 36] [4, 6, 8] fun K hK => ?_
      simp [w2]
      first | refine hK _ _ ?_ | refine ⟨by omega, hK _ _ ?_⟩ | refine ⟨by omega, by omega, hK _ _ ?_⟩
      clear hK K
      by_cases he : (ordP l)[i].2 = getC (setTo u l i).upto (ordP l)[i].1 + 1
      · refine AWp.cond (t := true) (by first | (simp [he]; done) | (simp [he]; omega)) (fun _ => ?_) (by simp)
        refine AWp.goLast [4, 6, 14, 15, 16] [4, 6] fun K hK => ?_
        simp
        refine call_pure (c159 (setTo u l i).upto (ordP l)[i].1 (ordP l)[i].2 (by omega)) (by simp) ?_
        simp
        first | refine hK _ _ ?_ | refine ⟨by omega, hK _ _ ?_⟩ | refine ⟨by omega, by omega, hK _ _ ?_⟩
        clear hK K
        show AWp _ _ _ _
        refine AWp.frzc [(6, 0)] ?_
        simp
        refine AWp.goLast [4, 6, 14, 15, 16] [4, 6] fun K hK => ?_
        simp
        first | refine hK _ _ ?_ | refine ⟨by omega, hK _ _ ?_⟩ | refine ⟨by omega, by omega, hK _ _ ?_⟩
        clear hK K
        refine ⟨i + 1, by omega, by omega, ?_⟩
        rw [he] at hle
        simp [setTo_succ _ _ _ h, setStep, he, hle, w1]
      · refine AWp.cond (t := false) (by first | (simp [he]; done) | (simp [he]; omega)) (by simp) (fun _ => ?_)
        refine AWp.goLast [4, 6, 14, 15, 16] [4, 6] fun K hK => ?_
        simp
        first | refine hK _ _ ?_ | refine ⟨by omega, hK _ _ ?_⟩ | refine ⟨by omega, by omega, hK _ _ ?_⟩
        clear hK K
        show AWp _ _ _ _
        refine AWp.goLast [4, 6, 14, 15, 16] [4, 6] fun K hK => ?_
        simp
        first | refine hK _ _ ?_ | refine ⟨by omega, hK _ _ ?_⟩ | refine ⟨by omega, by omega, hK _ _ ?_⟩
        clear hK K
        refine ⟨i + 1, by omega, by omega, ?_⟩
        simp [setTo_succ _ _ _ h, setStep, hle, he, w1]
  · refine AWp.cond (t := false) (by first | (simp [h]; done) | (simp [h]; omega)) (by simp) (fun _ => ?_)
    refine AWp.exit ?_
    show AWp _ _ _ _
    refine AWp.seq ?_
    obtain rfl : i = (ordP l).length := by omega
    have hst : setTo u l (ordP l).length = settled u l := rfl
    rw [hst] at *
    refine AWp.frzc [(6, 1)] ?_
    simp
    refine AWp.go [4, 6, 57] [4, 6] fun K hK => ?_
    simp
    first | refine hK _ _ ?_ | refine ⟨by omega, hK _ _ ?_⟩ | refine ⟨by omega, by omega, hK _ _ ?_⟩
    clear hK K
    by_cases hm : (settled u l).more.length ≤ 1000
    · refine AWp.cond (t := false) (by first | (simp; done) | (simp; omega)) (by simp) (fun _ => ?_)
      refine AWp.skip ?_
      show AWp _ _ _ _
      refine AWp.go [4, 5] [4] fun K hK => ?_
      simp
      first | refine hK _ _ ?_ | refine ⟨by omega, hK _ _ ?_⟩ | refine ⟨by omega, by omega, hK _ _ ?_⟩
      clear hK K
      refine AWp.ret ?_
      simp [seenC, fullS, fullE, hm]
    · refine AWp.cond (t := true) (by first | (simp; done) | (simp; omega)) (fun _ => ?_) (by simp)
      refine AWp.go [4, 5] [4] fun K hK => ?_
      simp
      first | refine hK _ _ ?_ | refine ⟨by omega, hK _ _ ?_⟩ | refine ⟨by omega, by omega, hK _ _ ?_⟩
      clear hK K
      refine AWp.ret ?_
      simp [seenC, fullS, fullE, hm]
end Go.AM
namespace Go.AM

/-! ### clocks -/
def okN (n : Int) : Prop := 0 ≤ n ∧ n ≤ 1048576

theorem clockOk_iff (c : List Int) : clockOk c = true ↔ c.length ≤ 5 ∧ ∀ n ∈ c, okN n := by
  simp only [clockOk, Bool.and_eq_true, decide_eq_true_eq, Bool.not_eq_true', List.any_eq_false]
  refine and_congr Iff.rfl ⟨fun h n hn => ?_, fun h n hn => ?_⟩
  · have := h n hn
    simp [badN] at this
    exact this
  · have := h n hn
    simp [badN, okN] at this ⊢
    exact this

theorem plainN_zero (f : List Int) : ∀ n k, plainN f n ≤ k → k < n → f.getD k 0 = 0
  | 0, k, _, h => by omega
  | n + 1, k, h1, h2 => by
    unfold plainN at h1
    split at h1
    · rename_i h0
      by_cases hk : k = n
      · rw [hk]; exact h0
      · exact plainN_zero f n k h1 (by omega)
    · omega

theorem plainN_last (f : List Int) : ∀ n, 0 < plainN f n → f.getD (plainN f n - 1) 0 ≠ 0
  | 0, h => by simp [plainN] at h
  | n + 1, h => by
    unfold plainN at h ⊢
    split
    · rename_i h0
      rw [if_pos h0] at h
      exact plainN_last f n h
    · rename_i h0
      simpa using h0

theorem ofL_plainL {f : List Int} (hf : f.length = 5) (hok : ∀ n ∈ f, okN n) : clockOk (plainL f) = true ∧ ofL (plainL f) = f := by
  have h5 := plainN_le f 5
  have hc : clockOk (plainL f) = true := by
    rw [clockOk_iff]
    refine ⟨plainL_len5 f, fun n hn => hok n (List.mem_of_mem_take hn)⟩
  refine ⟨hc, ?_⟩
  unfold ofL
  rw [if_pos hc]
  have hl : (plainL f).length = plainN f 5 := by unfold plainL; rw [List.length_take]; omega
  apply List.ext_getElem
  · rw [List.length_append, hl, List.length_replicate, hf]; omega
  · intro i h1 h2
    by_cases hi : i < plainN f 5
    · rw [List.getElem_append_left (by omega)]
      simp [plainL]
    · rw [List.getElem_append_right (by omega), List.getElem_replicate]
      have := plainN_zero f 5 i (by omega) (by omega)
      rw [List.getD_eq_getElem?_getD, List.getElem?_eq_getElem h2] at this
      exact this.symm

theorem ofL_ok (c : List Int) : (ofL c).length = 5 ∧ ∀ n ∈ ofL c, okN n := by
  refine ⟨ofL_length c, fun n hn => ?_⟩
  unfold ofL at hn
  split at hn
  · rename_i h
    rw [clockOk_iff] at h
    rcases List.mem_append.1 hn with h1 | h1
    · exact h.2 n h1
    · rw [List.eq_of_mem_replicate h1]; exact ⟨by omega, by omega⟩
  · simp at hn; subst hn; exact ⟨by omega, by omega⟩

/-- Two lists of five are the same if they are at each place. -/
theorem five_ext {f g : List Int} (hf : f.length = 5) (hg : g.length = 5) (h : ∀ k, k < 5 → f.getD k 0 = g.getD k 0) : f = g := by
  apply List.ext_getElem (by omega)
  intro i h1 h2
  have := h i (by omega)
  rw [List.getD_eq_getElem?_getD, List.getD_eq_getElem?_getD, List.getElem?_eq_getElem h1, List.getElem?_eq_getElem h2] at this
  exact this

/-- A plain clock. -/
def Pl (u : List Int) : Prop := clockOk u = true ∧ plainL (ofL u) = u

theorem Pl.plain {f : List Int} (hf : f.length = 5) (hok : ∀ n ∈ f, okN n) : Pl (plainL f) := by
  obtain ⟨h1, h2⟩ := ofL_plainL hf hok
  exact ⟨h1, by rw [h2]⟩
theorem Pl.of (c : List Int) : Pl (plainL (ofL c)) := Pl.plain (ofL_ok c).1 (ofL_ok c).2

theorem Pl.ext {u v : List Int} (hu : Pl u) (hv : Pl v) (h : ∀ rep, 1 ≤ rep → rep ≤ 5 → getC u rep = getC v rep) : u = v := by
  rw [← hu.2, ← hv.2]
  congr 1
  refine five_ext (ofL_length u) (ofL_length v) fun k hk => ?_
  have := h (k + 1) (by omega) (by omega)
  rwa [getC_at u k hk, getC_at v k hk] at this

theorem getC_plainL {f : List Int} (hf : f.length = 5) (hok : ∀ n ∈ f, okN n) (rep : Int) : getC (plainL f) rep = if 1 ≤ rep ∧ rep ≤ 5 then f.getD (rep - 1).toNat 0 else 0 := by
  unfold getC
  rw [(ofL_plainL hf hok).2]
theorem getC_plain (c : List Int) (rep : Int) : getC (plainL (ofL c)) rep = getC c rep := by
  rw [getC_plainL (ofL_ok c).1 (ofL_ok c).2]
  rfl

theorem set_ok (c : List Int) (k : Nat) (n : Int) (hn : okN n) : ((ofL c).set k n).length = 5 ∧ ∀ m ∈ (ofL c).set k n, okN m := by
  refine ⟨by rw [List.length_set, ofL_length], fun m hm => ?_⟩
  rcases List.mem_or_eq_of_mem_set hm with h | h
  · exact (ofL_ok c).2 m h
  · rw [h]; exact hn
theorem setC_pl (u : List Int) {r n : Int} (hr : 1 ≤ r ∧ r ≤ 5) (hn : okN n) : Pl (setC u r n) := by
  unfold setC
  rw [if_pos ⟨hr, hn⟩]
  exact Pl.plain (set_ok u _ n hn).1 (set_ok u _ n hn).2
theorem getC_setC (u : List Int) {r n : Int} (hr : 1 ≤ r ∧ r ≤ 5) (hn : okN n) (q : Int) : getC (setC u r n) q = if q = r then n else getC u q := by
  unfold setC
  rw [if_pos ⟨hr, hn⟩, getC_plainL (set_ok u _ n hn).1 (set_ok u _ n hn).2]
  by_cases hq : 1 ≤ q ∧ q ≤ 5
  · rw [if_pos hq]
    have hlen := ofL_length u
    by_cases he : q = r
    · subst he
      rw [if_pos rfl, List.getD_eq_getElem?_getD, List.getElem?_set_self (by omega)]
      rfl
    · rw [if_neg he, List.getD_eq_getElem?_getD, List.getElem?_set_ne (by omega)]
      unfold getC
      rw [if_pos hq, List.getD_eq_getElem?_getD]
  · rw [if_neg hq, if_neg (by omega)]
    unfold getC
    rw [if_neg hq]

/-- The document's set is the program's. -/
theorem refSet_eq (u : List Int) {r n : Int} (hr : 1 ≤ r ∧ r ≤ 5) (hn : okN n) : plainL (ofL ((List.range 5).map fun k : Nat => if (k : Int) + 1 = r then n else getC u (k + 1))) = setC u r n := by
  unfold setC
  rw [if_pos ⟨hr, hn⟩]
  congr 1
  have hf : ∀ m ∈ ((List.range 5).map fun k : Nat => if (k : Int) + 1 = r then n else getC u (k + 1)), okN m := by
    intro m hm
    obtain ⟨k, hk, rfl⟩ := List.mem_map.1 hm
    split
    · exact hn
    · exact getC_range u _
  have e : ofL ((List.range 5).map fun k : Nat => if (k : Int) + 1 = r then n else getC u (k + 1)) = (List.range 5).map fun k : Nat => if (k : Int) + 1 = r then n else getC u (k + 1) := by
    unfold ofL
    rw [if_pos]
    · simp
    · rw [clockOk_iff]; exact ⟨by simp, hf⟩
  rw [e]
  refine five_ext (by simp) (by rw [List.length_set, ofL_length]) fun k hk => ?_
  rw [List.getD_eq_getElem?_getD, List.getElem?_map, List.getElem?_range hk]
  simp only [Option.map_some, Option.getD_some]
  rw [getC_at u k hk]
  have hlen := ofL_length u
  by_cases he : (k : Int) + 1 = r
  · subst he
    rw [if_pos rfl, List.getD_eq_getElem?_getD, show ((k : Int) + 1 - 1).toNat = k by omega, List.getElem?_set_self (by omega)]
    rfl
  · rw [if_neg he, List.getD_eq_getElem?_getD, List.getD_eq_getElem?_getD, List.getElem?_set_ne (by omega)]

/-! ### order -/
def LT (a b : Dot) : Prop := a.1 < b.1 ∨ a.1 = b.1 ∧ a.2 < b.2
theorem ltD_iff (a b : Dot) : ltD a b = true ↔ LT a b := by simp [ltD, LT]
theorem LT.trans {a b c : Dot} (h1 : LT a b) (h2 : LT b c) : LT a c := by unfold LT at *; omega
theorem LT.irrefl (a : Dot) : ¬ LT a a := by unfold LT; omega
theorem LT.tri (a b : Dot) : LT a b ∨ a = b ∨ LT b a := by
  unfold LT
  rcases a with ⟨a1, a2⟩
  rcases b with ⟨b1, b2⟩
  simp only [Prod.mk.injEq]
  omega
abbrev Sorted (l : List Dot) : Prop := l.Pairwise LT

theorem Sorted.ext : ∀ {l m : List Dot}, Sorted l → Sorted m → (∀ d, d ∈ l ↔ d ∈ m) → l = m
  | [], [], _, _, _ => rfl
  | [], y :: m, _, _, h => by have := (h y).2 (by simp); simp at this
  | x :: l, [], _, _, h => by have := (h x).1 (by simp); simp at this
  | x :: l, y :: m, h1, h2, h => by
    rw [Sorted, List.pairwise_cons] at h1 h2
    have hxy : x = y := by
      rcases LT.tri x y with h3 | h3 | h3
      · exfalso
        rcases List.mem_cons.1 ((h x).1 (by simp)) with h4 | h4
        · subst h4; exact LT.irrefl _ h3
        · exact LT.irrefl _ ((h2.1 x h4).trans h3)
      · exact h3
      · exfalso
        rcases List.mem_cons.1 ((h y).2 (by simp)) with h4 | h4
        · subst h4; exact LT.irrefl _ h3
        · exact LT.irrefl _ ((h1.1 y h4).trans h3)
    subst hxy
    congr 1
    refine Sorted.ext h1.2 h2.2 fun d => ⟨fun hd => ?_, fun hd => ?_⟩
    · rcases List.mem_cons.1 ((h d).1 (by simp [hd])) with h4 | h4
      · subst h4; exact absurd (h1.1 d hd) (LT.irrefl _)
      · exact h4
    · rcases List.mem_cons.1 ((h d).2 (by simp [hd])) with h4 | h4
      · subst h4; exact absurd (h2.1 d hd) (LT.irrefl _)
      · exact h4

theorem mem_putD (l : List Dot) (d x : Dot) : x ∈ putD l d ↔ x ∈ l ∨ x = d := by
  induction l with
  | nil => simp [putD]
  | cons y l ih =>
    unfold putD
    split
    · simp [ih, or_assoc]
    · split
      · rename_i h; subst h
        simp
        intro h; exact .inl h
      · simp; constructor
        · rintro (h | h | h) <;> simp [h]
        · rintro ((h | h) | h) <;> simp [h]
theorem sorted_putD {l : List Dot} (h : Sorted l) (d : Dot) : Sorted (putD l d) := by
  induction l with
  | nil => simp [putD, Sorted]
  | cons y l ih =>
    rw [Sorted, List.pairwise_cons] at h
    unfold putD
    split
    · rename_i hl
      rw [ltD_iff] at hl
      rw [Sorted, List.pairwise_cons]
      refine ⟨fun a ha => ?_, ih h.2⟩
      rcases (mem_putD l d a).1 ha with h1 | h1
      · exact h.1 a h1
      · subst h1; exact hl
    · rename_i hl
      rw [ltD_iff] at hl
      split
      · rw [Sorted, List.pairwise_cons]; exact h
      · rename_i hne
        rw [Sorted, List.pairwise_cons]
        refine ⟨fun a ha => ?_, by rw [List.pairwise_cons]; exact h⟩
        have hdy : LT d y := by
          rcases LT.tri y d with h1 | h1 | h1
          · exact absurd h1 hl
          · exact absurd h1 hne
          · exact h1
        rcases List.mem_cons.1 ha with h1 | h1
        · subst h1; exact hdy
        · exact hdy.trans (h.1 a h1)
theorem ordD_spec (l : List Dot) : Sorted (ordD l) ∧ ∀ d, d ∈ ordD l ↔ d ∈ l := by
  have key : ∀ (l m : List Dot), Sorted m → Sorted (l.foldl putD m) ∧ ∀ d, d ∈ l.foldl putD m ↔ d ∈ m ∨ d ∈ l := by
    intro l
    induction l with
    | nil => intro m h; exact ⟨h, fun d => by simp⟩
    | cons x l ih =>
      intro m h
      obtain ⟨h1, h2⟩ := ih (putD m x) (sorted_putD h x)
      refine ⟨h1, fun d => ?_⟩
      rw [List.foldl_cons, h2, mem_putD, List.mem_cons, or_assoc]
  obtain ⟨h1, h2⟩ := key l [] (by simp [Sorted])
  exact ⟨h1, fun d => by have := h2 d; simpa [ordD] using this⟩

def LE (a b : Dot) : Prop := ¬ LT b a
theorem sortD_sorted (l : List Dot) : (sortD l).Pairwise LE ∧ ∀ d, d ∈ sortD l ↔ d ∈ l := by
  refine ⟨?_, fun d => by simp [sortD]⟩
  have := List.pairwise_mergeSort (le := fun x y => !ltD y x) (fun a b c h1 h2 => by
      simp only [Bool.not_eq_true', ← Bool.not_eq_true, ltD_iff] at *
      intro h
      rcases LT.tri b c with h3 | h3 | h3
      · exact h1 (h3.trans h)
      · subst h3; exact h1 h
      · exact h2 h3) (fun a b => by
      simp only [Bool.or_eq_true, Bool.not_eq_true', ← Bool.not_eq_true, ltD_iff]
      rcases LT.tri a b with h | h | h
      · exact .inl fun h2 => LT.irrefl _ (h.trans h2)
      · subst h; exact .inl (LT.irrefl _)
      · exact .inr fun h2 => LT.irrefl _ (h.trans h2)) l
  refine this.imp fun {a b} h => ?_
  simp only [Bool.not_eq_true', ← Bool.not_eq_true, ltD_iff] at h
  exact h

theorem compN_spec {l : List Dot} (h : l.Pairwise LE) : ∀ i, i ≤ l.length → Sorted (compN l i) ∧ (∀ d, d ∈ compN l i ↔ d ∈ l.take i)
  | 0, _ => ⟨by simp [compN, Sorted], fun d => by simp [compN]⟩
  | i + 1, hi => by
    obtain ⟨h1, h2⟩ := compN_spec h i (by omega)
    have hl : i < l.length := by omega
    have hx : l[i]? = some l[i] := List.getElem?_eq_getElem hl
    have htk : l.take (i + 1) = l.take i ++ [l[i]] := List.take_succ_eq_append_getElem hl
    unfold compN
    rw [hx]
    simp only
    split
    · rename_i hc
      refine ⟨h1, fun d => ?_⟩
      rw [h2, htk, List.mem_append, List.mem_singleton]
      refine ⟨.inl, fun hd => hd.elim id fun hd => ?_⟩
      subst hd
      have hp : i - 1 < l.length := by omega
      have := hc.2
      rw [List.getElem?_eq_getElem hp] at this
      rw [← Option.some.inj this]
      rw [List.mem_take_iff_getElem]
      exact ⟨i - 1, by omega, rfl⟩
    · rename_i hc
      refine ⟨?_, fun d => by rw [List.mem_append, h2, htk, List.mem_append]⟩
      rw [Sorted, List.pairwise_append]
      refine ⟨h1, by simp, fun a ha b hb => ?_⟩
      simp at hb
      subst hb
      rw [h2, List.mem_take_iff_getElem] at ha
      obtain ⟨k, hk, rfl⟩ := ha
      have hki : k < i := by omega
      rw [List.pairwise_iff_getElem] at h
      rcases LT.tri l[k] l[i] with h3 | h3 | h3
      · exact h3
      · exfalso
        refine hc ⟨by omega, ?_⟩
        have hp : i - 1 < l.length := by omega
        rw [List.getElem?_eq_getElem hp]
        have h4 : LE l[i - 1] l[i] := h (i - 1) i hp hl (by omega)
        have h5 : LE l[k] l[i - 1] := by
          by_cases he : k = i - 1
          · subst he; exact LT.irrefl _
          · exact h k (i - 1) (by omega) hp (by omega)
        rcases LT.tri l[i - 1] l[i] with h6 | h6 | h6
        · rw [← h3] at h6; exact absurd h6 h5
        · rw [h6]
        · exact absurd h6 h4
      · exact absurd h3 (h k i (by omega) hl hki)
theorem ordP_spec (l : List Dot) : Sorted (ordP l) ∧ ∀ d, d ∈ ordP l ↔ d ∈ l := by
  obtain ⟨h1, h2⟩ := sortD_sorted l
  obtain ⟨h3, h4⟩ := compN_spec h1 (sortD l).length (Nat.le_refl _)
  refine ⟨h3, fun d => ?_⟩
  have := h4 d
  rw [List.take_length, h2] at this
  exact this
theorem ordP_eq (l : List Dot) : ordP l = ordD l := Sorted.ext (ordP_spec l).1 (ordD_spec l).1 fun d => by rw [(ordP_spec l).2, (ordD_spec l).2]
theorem ordP_sorted {l : List Dot} (h : Sorted l) : ordP l = l := Sorted.ext (ordP_spec l).1 h (ordP_spec l).2
end Go.AM
namespace Go.AM
open Go.Proofs

theorem mem_compN (l : List Dot) (d : Dot) : ∀ i, d ∈ compN l i → d ∈ l
  | 0, h => by simp [compN] at h
  | i + 1, h => by
    unfold compN at h
    split at h
    · exact mem_compN l d i h
    · rename_i x hx
      split at h
      · exact mem_compN l d i h
      · rcases List.mem_append.1 h with h | h
        · exact mem_compN l d i h
        · simp at h; subst h; exact List.mem_of_getElem? hx
theorem mem_ordP (l : List Dot) (d : Dot) (h : d ∈ ordP l) : d ∈ l := by
  have := mem_compN _ d _ h
  simpa [sortD] using this
theorem seenOk_may {s : Seen} (h : seenOk s = true) : ∀ d ∈ s.more, mayD d = true := by
  intro d hd
  obtain ⟨k, hk, rfl⟩ := List.mem_iff_getElem.1 hd
  simp only [seenOk, Bool.and_eq_true] at h
  have := List.all_eq_true.1 h.2 k (by simpa using hk)
  rw [moreOk_alt _ _ _ hk] at this
  simp only [Bool.and_eq_true] at this
  exact this.1.1

def addP (s : Seen) (l : List Dot) : Seen := if seenOk s && l.all mayD then fullS (settled s.upto (s.more ++ l)) else ⟨[], []⟩
def addE (s : Seen) (l : List Dot) : Int := if seenOk s && l.all mayD then fullE (settled s.upto (s.more ++ l)) else 1

theorem not_all_any {α : Type} (l : List α) (p : α → Bool) : (l.any fun x => !p x) = !l.all p := by
  induction l with
  | nil => rfl
  | cons x l ih => simp [ih]

set_option maxRecDepth 8000 in
set_option maxHeartbeats 2000000 in
theorem c_dots_Add (s : Seen) (l : List Dot) (hu : s.upto.length ≤ 1000000) (hm : s.more.length ≤ 400000) (hl : l.length ≤ 400000) : Pure Try.prog 48 [.agg (seenC s), .sl .fro 2 (dotsAV l)] (.tup [.agg (seenC (addP s l)), .i .i64 (addE s l)]) := by
  refine proc_of (cx Try.prog 24 [1, 2, 4, 5, 12] [4, 5]) 22 [.cell 4 86, .tmp 5] Try.func48 rfl rfl rfl rfl rfl rfl (Nat.le_refl _) rfl ?_
  refine AWp.go [1, 2, 4] [2, 4] fun K hK => ?_
  simp [seenC]
  first | refine hK _ _ ?_ | refine ⟨by omega, hK _ _ ?_⟩ | refine ⟨by omega, by omega, hK _ _ ?_⟩
  clear hK K
  refine AWp.seq ?_
  refine AWp.step [1, 2, 4, 12] [2, 4] [(1, .sl .fro 2 (dotsAV l)), (2, .ptr 2 0), (4, .ptr 4 0), (12, .b (!(seenOk s && l.all mayD)))] [(2, [.sl .fro 1 (intsAV s.upto), .sl .fro 2 (dotsAV s.more)]), (4, [.sl .nl 1 [], .sl .nl 2 []])] ?_ ?_
  · simp
    refine call_pure (c_dots_Check s hu (by omega)) (by simp [seenC]) ?_
    cases q1 : seenOk s
    · simp
    · simp
      refine call_pure (c_ContainsFunc_Dot l 97 (fun d => !mayD d) c_dots_Add1 (by omega)) (by simp) ?_
      simp [not_all_any]
  cases hq : seenOk s && l.all mayD
  · refine AWp.cond (t := true) (by simp) (fun _ => ?_) (by simp)
    refine AWp.go [4, 5] [4] fun K hK => ?_
    simp
    first | refine hK _ _ ?_ | refine ⟨by omega, hK _ _ ?_⟩ | refine ⟨by omega, by omega, hK _ _ ?_⟩
    clear hK K
    refine AWp.ret ?_
    simp [seenC, addP, addE, hq]
  · refine AWp.cond (t := false) (by simp) (by simp) (fun _ => ?_)
    refine AWp.skip ?_
    show AWp _ _ _ _
    simp only [Bool.and_eq_true] at hq
    have hs := c_dots_settle s.upto (s.more ++ l) hu (by simp; omega) (fun d hd => by
      rcases List.mem_append.1 (mem_ordP _ _ hd) with h | h
      · exact seenOk_may hq.1 d h
      · exact List.all_eq_true.1 hq.2 d h)
    have hcc := c_Concat_Dot [dotsAV s.more, dotsAV l] (by simp) (by simp; omega)
    simp [rowsL] at hcc
    refine AWp.stepT (.take 0 (.take 2 (.take 4 (.alt 1 (.alt 3 (.alt 5 (.alt 6 (.alt 7 (.take 8 (.take 9 (.alt 10 (.take 11 .fin) .stop))) .stop) .stop) .stop) .stop) (.alt 3 (.alt 1 (.alt 5 (.alt 6 (.alt 7 (.take 8 (.take 9 (.alt 10 (.take 11 .fin) .stop))) .stop) .stop) .stop) (.alt 5 (.alt 1 (.alt 6 (.alt 7 (.take 8 (.take 9 (.alt 10 (.take 11 .fin) .stop))) .stop) .stop) (.alt 6 (.alt 1 (.alt 7 (.take 8 (.take 9 (.alt 10 (.take 11 .fin) .stop))) .stop) .stop) .stop)) .stop)) .stop))))) [4, 5] [4] [(4, .ptr 4 0), (5, .i .i64 (addE s l))] [(4, [.sl .fro 1 (intsAV (addP s l).upto), .sl .fro 2 (dotsAV (addP s l).more)])] mix (by kernel_rfl) ?_ ?_
    · refine atree.tk fun K1 h1 => ?_
      simp
      first | refine h1 _ _ ?_ | refine ⟨by omega, h1 _ _ ?_⟩ | refine ⟨by omega, by omega, h1 _ _ ?_⟩
      clear h1 K1
      refine atree.tk fun K1 h1 => ?_
      simp
      first | refine h1 _ _ ?_ | refine ⟨by omega, h1 _ _ ?_⟩ | refine ⟨by omega, by omega, h1 _ _ ?_⟩
      clear h1 K1
      refine atree.tk fun K1 h1 => ?_
      simp
      first | refine h1 _ _ ?_ | refine ⟨by omega, h1 _ _ ?_⟩ | refine ⟨by omega, by omega, h1 _ _ ?_⟩
      clear h1 K1
      refine atree.al (fun K1 h1 => ?_) ?_
      · simp
        first | refine h1 _ _ ?_ | refine ⟨by omega, h1 _ _ ?_⟩ | refine ⟨by omega, by omega, h1 _ _ ?_⟩
        clear h1 K1
        refine atree.a1 fun K1 h1 => ?_
        simp
        first | refine h1 _ _ ?_ | refine ⟨by omega, h1 _ _ ?_⟩ | refine ⟨by omega, by omega, h1 _ _ ?_⟩
        clear h1 K1
        refine atree.a1 fun K1 h1 => ?_
        simp
        first | refine h1 _ _ ?_ | refine ⟨by omega, h1 _ _ ?_⟩ | refine ⟨by omega, by omega, h1 _ _ ?_⟩
        clear h1 K1
        refine atree.a1 fun K1 h1 => ?_
        simp
        refine call_pure hcc (by simp) ?_
        simp
        first | refine h1 _ _ ?_ | refine ⟨by omega, h1 _ _ ?_⟩ | refine ⟨by omega, by omega, h1 _ _ ?_⟩
        clear h1 K1
        refine atree.a1 fun K1 h1 => ?_
        simp
        refine call_pure hs (by simp) ?_
        simp [seenC]
        first | refine h1 _ _ ?_ | refine ⟨by omega, h1 _ _ ?_⟩ | refine ⟨by omega, by omega, h1 _ _ ?_⟩
        clear h1 K1
        refine atree.tk fun K1 h1 => ?_
        simp
        first | refine h1 _ _ ?_ | refine ⟨by omega, h1 _ _ ?_⟩ | refine ⟨by omega, by omega, h1 _ _ ?_⟩
        clear h1 K1
        refine atree.tk fun K1 h1 => ?_
        simp
        first | refine h1 _ _ ?_ | refine ⟨by omega, h1 _ _ ?_⟩ | refine ⟨by omega, by omega, h1 _ _ ?_⟩
        clear h1 K1
        refine atree.a1 fun K1 h1 => ?_
        simp
        first | refine h1 _ _ ?_ | refine ⟨by omega, h1 _ _ ?_⟩ | refine ⟨by omega, by omega, h1 _ _ ?_⟩
        clear h1 K1
        refine atree.tk fun K1 h1 => ?_
        simp
        first | refine h1 _ _ ?_ | refine ⟨by omega, h1 _ _ ?_⟩ | refine ⟨by omega, by omega, h1 _ _ ?_⟩
        clear h1 K1
        simp [addP, addE, hq.1, hq.2]
      · refine atree.a1 fun K1 h1 => ?_
        simp
        first | refine h1 _ _ ?_ | refine ⟨by omega, h1 _ _ ?_⟩ | refine ⟨by omega, by omega, h1 _ _ ?_⟩
        clear h1 K1
        refine atree.al (fun K1 h1 => ?_) ?_
        · simp
          first | refine h1 _ _ ?_ | refine ⟨by omega, h1 _ _ ?_⟩ | refine ⟨by omega, by omega, h1 _ _ ?_⟩
          clear h1 K1
          refine atree.a1 fun K1 h1 => ?_
          simp
          first | refine h1 _ _ ?_ | refine ⟨by omega, h1 _ _ ?_⟩ | refine ⟨by omega, by omega, h1 _ _ ?_⟩
          clear h1 K1
          refine atree.a1 fun K1 h1 => ?_
          simp
          refine call_pure hcc (by simp) ?_
          simp
          first | refine h1 _ _ ?_ | refine ⟨by omega, h1 _ _ ?_⟩ | refine ⟨by omega, by omega, h1 _ _ ?_⟩
          clear h1 K1
          refine atree.a1 fun K1 h1 => ?_
          simp
          refine call_pure hs (by simp) ?_
          simp [seenC]
          first | refine h1 _ _ ?_ | refine ⟨by omega, h1 _ _ ?_⟩ | refine ⟨by omega, by omega, h1 _ _ ?_⟩
          clear h1 K1
          refine atree.tk fun K1 h1 => ?_
          simp
          first | refine h1 _ _ ?_ | refine ⟨by omega, h1 _ _ ?_⟩ | refine ⟨by omega, by omega, h1 _ _ ?_⟩
          clear h1 K1
          refine atree.tk fun K1 h1 => ?_
          simp
          first | refine h1 _ _ ?_ | refine ⟨by omega, h1 _ _ ?_⟩ | refine ⟨by omega, by omega, h1 _ _ ?_⟩
          clear h1 K1
          refine atree.a1 fun K1 h1 => ?_
          simp
          first | refine h1 _ _ ?_ | refine ⟨by omega, h1 _ _ ?_⟩ | refine ⟨by omega, by omega, h1 _ _ ?_⟩
          clear h1 K1
          refine atree.tk fun K1 h1 => ?_
          simp
          first | refine h1 _ _ ?_ | refine ⟨by omega, h1 _ _ ?_⟩ | refine ⟨by omega, by omega, h1 _ _ ?_⟩
          clear h1 K1
          simp [addP, addE, hq.1, hq.2]
        · refine atree.a1 fun K1 h1 => ?_
          simp
          first | refine h1 _ _ ?_ | refine ⟨by omega, h1 _ _ ?_⟩ | refine ⟨by omega, by omega, h1 _ _ ?_⟩
          clear h1 K1
          refine atree.al (fun K1 h1 => ?_) ?_
          · simp
            first | refine h1 _ _ ?_ | refine ⟨by omega, h1 _ _ ?_⟩ | refine ⟨by omega, by omega, h1 _ _ ?_⟩
            clear h1 K1
            refine atree.a1 fun K1 h1 => ?_
            simp
            refine call_pure hcc (by simp) ?_
            simp
            first | refine h1 _ _ ?_ | refine ⟨by omega, h1 _ _ ?_⟩ | refine ⟨by omega, by omega, h1 _ _ ?_⟩
            clear h1 K1
            refine atree.a1 fun K1 h1 => ?_
            simp
            refine call_pure hs (by simp) ?_
            simp [seenC]
            first | refine h1 _ _ ?_ | refine ⟨by omega, h1 _ _ ?_⟩ | refine ⟨by omega, by omega, h1 _ _ ?_⟩
            clear h1 K1
            refine atree.tk fun K1 h1 => ?_
            simp
            first | refine h1 _ _ ?_ | refine ⟨by omega, h1 _ _ ?_⟩ | refine ⟨by omega, by omega, h1 _ _ ?_⟩
            clear h1 K1
            refine atree.tk fun K1 h1 => ?_
            simp
            first | refine h1 _ _ ?_ | refine ⟨by omega, h1 _ _ ?_⟩ | refine ⟨by omega, by omega, h1 _ _ ?_⟩
            clear h1 K1
            refine atree.a1 fun K1 h1 => ?_
            simp
            first | refine h1 _ _ ?_ | refine ⟨by omega, h1 _ _ ?_⟩ | refine ⟨by omega, by omega, h1 _ _ ?_⟩
            clear h1 K1
            refine atree.tk fun K1 h1 => ?_
            simp
            first | refine h1 _ _ ?_ | refine ⟨by omega, h1 _ _ ?_⟩ | refine ⟨by omega, by omega, h1 _ _ ?_⟩
            clear h1 K1
            simp [addP, addE, hq.1, hq.2]
          · refine atree.a1 fun K1 h1 => ?_
            simp
            refine call_pure hcc (by simp) ?_
            simp
            first | refine h1 _ _ ?_ | refine ⟨by omega, h1 _ _ ?_⟩ | refine ⟨by omega, by omega, h1 _ _ ?_⟩
            clear h1 K1
            refine atree.a1 fun K1 h1 => ?_
            simp
            first | refine h1 _ _ ?_ | refine ⟨by omega, h1 _ _ ?_⟩ | refine ⟨by omega, by omega, h1 _ _ ?_⟩
            clear h1 K1
            refine atree.a1 fun K1 h1 => ?_
            simp
            refine call_pure hs (by simp) ?_
            simp [seenC]
            first | refine h1 _ _ ?_ | refine ⟨by omega, h1 _ _ ?_⟩ | refine ⟨by omega, by omega, h1 _ _ ?_⟩
            clear h1 K1
            refine atree.tk fun K1 h1 => ?_
            simp
            first | refine h1 _ _ ?_ | refine ⟨by omega, h1 _ _ ?_⟩ | refine ⟨by omega, by omega, h1 _ _ ?_⟩
            clear h1 K1
            refine atree.tk fun K1 h1 => ?_
            simp
            first | refine h1 _ _ ?_ | refine ⟨by omega, h1 _ _ ?_⟩ | refine ⟨by omega, by omega, h1 _ _ ?_⟩
            clear h1 K1
            refine atree.a1 fun K1 h1 => ?_
            simp
            first | refine h1 _ _ ?_ | refine ⟨by omega, h1 _ _ ?_⟩ | refine ⟨by omega, by omega, h1 _ _ ?_⟩
            clear h1 K1
            refine atree.tk fun K1 h1 => ?_
            simp
            first | refine h1 _ _ ?_ | refine ⟨by omega, h1 _ _ ?_⟩ | refine ⟨by omega, by omega, h1 _ _ ?_⟩
            clear h1 K1
            simp [addP, addE, hq.1, hq.2]
    refine AWp.ret ?_
    simp [seenC]

set_option maxRecDepth 8000 in
theorem c_dots_Same (a b : Seen) (h1 : a.upto.length ≤ 1000000) (h2 : a.more.length ≤ 1000000) : Pure Try.prog 64 [.agg (seenC a), .agg (seenC b)] (.b (decide (a = b))) := by
  refine proc_of (cx Try.prog 17 [2, 3, 4] [4]) 15 [.tmp 4] Try.func64 rfl rfl rfl rfl rfl rfl (Nat.le_refl _) rfl ?_
  refine AWp.go [2, 3] [2, 3] fun K hK => ?_
  simp [seenC]
  first | refine hK _ _ ?_ | refine ⟨by omega, hK _ _ ?_⟩ | refine ⟨by omega, by omega, hK _ _ ?_⟩
  clear hK K
  refine AWp.step [4] [] [(4, .b (decide (a = b)))] [] ?_ ?_
  · have e : (a = b) = (a.upto = b.upto ∧ a.more = b.more) := by cases a; cases b; simp
    simp
    refine call_pure (c_Equal_Clock a.upto b.upto (by omega)) (by simp) ?_
    simp only [e]
    by_cases q1 : a.upto = b.upto
    · simp [q1]
      refine call_pure (c_Equal_Dot a.more b.more (by omega)) (by simp) ?_
      simp
    · simp [q1]
  refine AWp.ret ?_
  simp

set_option maxRecDepth 8000 in
theorem c_ref04_Same (a b : Seen) (h1 : a.upto.length ≤ 1000000) (h2 : a.more.length ≤ 1000000) : Pure Try.prog 57 [.agg (seenC a), .agg (seenC b)] (.b (decide (a = b))) := by
  refine proc_of (cx Try.prog 17 [2, 3, 4] [4]) 15 [.tmp 4] Try.func57 rfl rfl rfl rfl rfl rfl (Nat.le_refl _) rfl ?_
  refine AWp.go [2, 3] [2, 3] fun K hK => ?_
  simp [seenC]
  first | refine hK _ _ ?_ | refine ⟨by omega, hK _ _ ?_⟩ | refine ⟨by omega, by omega, hK _ _ ?_⟩
  clear hK K
  refine AWp.step [4] [] [(4, .b (decide (a = b)))] [] ?_ ?_
  · have e : (a = b) = (a.upto = b.upto ∧ a.more = b.more) := by cases a; cases b; simp
    simp
    refine call_pure (c_ref03_Same a.upto b.upto (by omega)) (by simp) ?_
    simp only [e]
    by_cases q1 : a.upto = b.upto
    · simp [q1]
      refine call_pure (c_ref04_Dots a.more b.more (by omega)) (by simp) ?_
      simp
    · simp [q1]
  refine AWp.ret ?_
  simp

set_option maxRecDepth 8000 in
theorem c_law04_Light (s : Seen) : Pure Try.prog 47 [.agg (seenC s)] (.b (decide (s.upto.length ≤ 20) && decide (s.more.length ≤ 40))) := by
  refine proc_of (cx Try.prog 13 [1, 2] [2]) 12 [.tmp 2] Try.func47 rfl rfl rfl rfl rfl rfl (Nat.le_refl _) rfl ?_
  refine AWp.go [1] [1] fun K hK => ?_
  simp [seenC]
  first | refine hK _ _ ?_ | refine ⟨by omega, hK _ _ ?_⟩ | refine ⟨by omega, by omega, hK _ _ ?_⟩
  clear hK K
  refine AWp.step [2] [] [(2, .b (decide (s.upto.length ≤ 20) && decide (s.more.length ≤ 40)))] [] ?_ ?_
  · by_cases q1 : s.upto.length ≤ 20
    · simp [q1, show (s.upto.length : Int) ≤ 20 by omega]; omega
    · simp [q1, show ¬ (s.upto.length : Int) ≤ 20 by omega]
  refine AWp.ret ?_
  simp

set_option maxRecDepth 8000 in
theorem c_law04_low (s : Seen) (hu : s.upto.length ≤ 1000000) : Pure Try.prog 62 [.agg (seenC s)] (.b (decide (sumTo s.upto 5 ≤ 200))) := by
  refine proc_of (cx Try.prog 7 [1, 2] [2]) 6 [.tmp 2] Try.func62 rfl rfl rfl rfl rfl rfl (Nat.le_refl _) rfl ?_
  refine AWp.go [1] [1] fun K hK => ?_
  simp [seenC]
  first | refine hK _ _ ?_ | refine ⟨by omega, hK _ _ ?_⟩ | refine ⟨by omega, by omega, hK _ _ ?_⟩
  clear hK K
  refine AWp.go [2] [] fun K hK => ?_
  simp
  refine call_pure (c_ref03_Sum s.upto (by omega)) (by simp) ?_
  simp
  first | refine hK _ _ ?_ | refine ⟨by omega, hK _ _ ?_⟩ | refine ⟨by omega, by omega, hK _ _ ?_⟩
  clear hK K
  refine AWp.ret ?_
  simp

end Go.AM
namespace Go.AM

/-- What a Seen may be, as its parts. -/
structure Ok (s : Seen) : Prop where
  pl : Pl s.upto
  srt : Sorted s.more
  may : ∀ d ∈ s.more, mayD d = true
  gap : ∀ d ∈ s.more, getC s.upto d.1 + 1 < d.2

theorem seenOk_iff (s : Seen) : seenOk s = true ↔ Ok s ∧ s.more.length ≤ 1000 := by
  unfold seenOk
  simp only [Bool.and_eq_true, decide_eq_true_eq, List.all_eq_true, List.mem_range]
  constructor
  · rintro ⟨⟨⟨h1, h2⟩, h3⟩, h4⟩
    have h5 : ∀ k (hk : k < s.more.length), mayD s.more[k] = true ∧ getC s.upto s.more[k].1 < s.more[k].2 - 1 ∧ (0 < k → LT (s.more.getD (k - 1) (0, 0)) s.more[k]) := by
      intro k hk
      have := h4 k hk
      rw [moreOk_alt _ _ _ hk] at this
      simp only [Bool.and_eq_true, decide_eq_true_eq, Bool.or_eq_true, Bool.not_eq_true', decide_eq_false_iff_not, ltD_iff] at this
      exact ⟨this.1.1, this.1.2, fun h0 => this.2.resolve_left (fun h => h h0)⟩
    refine ⟨⟨⟨h1, h2⟩, ?_, fun d hd => ?_, fun d hd => ?_⟩, h3⟩
    · rw [Sorted, List.pairwise_iff_getElem]
      intro i j hi hj hij
      induction j with
      | zero => omega
      | succ j ih =>
        have hs := (h5 (j + 1) hj).2.2 (by omega)
        rw [List.getD_eq_getElem?_getD, show j + 1 - 1 = j by omega, List.getElem?_eq_getElem (show j < s.more.length by omega)] at hs
        by_cases he : i = j
        · subst he; exact hs
        · exact (ih (by omega) (by omega)).trans hs
    · obtain ⟨k, hk, rfl⟩ := List.mem_iff_getElem.1 hd
      exact (h5 k hk).1
    · obtain ⟨k, hk, rfl⟩ := List.mem_iff_getElem.1 hd
      have := (h5 k hk).2.1
      omega
  · rintro ⟨⟨hp, hs, hm, hg⟩, h3⟩
    refine ⟨⟨⟨hp.1, hp.2⟩, h3⟩, fun k hk => ?_⟩
    rw [moreOk_alt _ _ _ hk]
    simp only [Bool.and_eq_true, decide_eq_true_eq, Bool.or_eq_true, Bool.not_eq_true', decide_eq_false_iff_not, ltD_iff]
    have h1 := hg _ (List.getElem_mem hk)
    refine ⟨⟨hm _ (List.getElem_mem hk), by omega⟩, ?_⟩
    by_cases h0 : 0 < k
    · right
      rw [Sorted, List.pairwise_iff_getElem] at hs
      rw [List.getD_eq_getElem?_getD, List.getElem?_eq_getElem (show k - 1 < s.more.length by omega)]
      exact hs (k - 1) k (by omega) hk (by omega)
    · exact .inl h0

/-- Is a dot that may be seen? -/
def Hs (s : Seen) (d : Dot) : Prop := d.2 ≤ getC s.upto d.1 ∨ d ∈ s.more

theorem Ok.ext {a b : Seen} (ha : Ok a) (hb : Ok b) (h : ∀ d, mayD d = true → (Hs a d ↔ Hs b d)) : a = b := by
  have hget : ∀ {a b : Seen}, Ok a → Ok b → (∀ d, mayD d = true → (Hs a d → Hs b d)) → ∀ rep, 1 ≤ rep → rep ≤ 5 → getC a.upto rep ≤ getC b.upto rep := by
    intro a b ha hb h rep h1 h2
    have hr := getC_range a.upto rep
    have hr2 := getC_range b.upto rep
    by_cases hle : getC a.upto rep ≤ getC b.upto rep
    · exact hle
    · exfalso
      -- the dot that comes next at b is seen at a, so at b
      have hm : mayD (rep, getC b.upto rep + 1) = true := by simp [mayD]; omega
      rcases h _ hm (.inl (by show getC b.upto rep + 1 ≤ getC a.upto rep; omega)) with h3 | h3
      · have : getC b.upto rep + 1 ≤ getC b.upto rep := h3
        omega
      · have : getC b.upto rep + 1 < getC b.upto rep + 1 := hb.gap _ h3
        omega
  have he : ∀ rep, 1 ≤ rep → rep ≤ 5 → getC a.upto rep = getC b.upto rep := fun rep h1 h2 =>
    Int.le_antisymm (hget ha hb (fun d hd => (h d hd).1) rep h1 h2) (hget hb ha (fun d hd => (h d hd).2) rep h1 h2)
  have hu : a.upto = b.upto := ha.pl.ext hb.pl he
  have hmm : ∀ {a b : Seen}, Ok a → Ok b → a.upto = b.upto → (∀ d, mayD d = true → (Hs a d → Hs b d)) → ∀ d ∈ a.more, d ∈ b.more := by
    intro a b ha hb hu h d hd
    rcases h d (ha.may d hd) (.inr hd) with h3 | h3
    · have := ha.gap d hd
      rw [hu] at this
      omega
    · exact h3
  have hmore : a.more = b.more := Sorted.ext ha.srt hb.srt fun d => ⟨hmm ha hb hu (fun d hd => (h d hd).1) d, hmm hb ha hu.symm (fun d hd => (h d hd).2) d⟩
  cases a; cases b
  simp at hu hmore
  rw [hu, hmore]

/-- What a step of settling does, behind all that is ahead of it. -/
theorem setStep_spec {s : Seen} {u : List Int} {P : List Dot} {d : Dot} (hs : Ok s) (hsub : ∀ x ∈ s.more, x ∈ P) (hP : ∀ x ∈ P, LT x d) (hd : mayD d = true) (hh : ∀ x, mayD x = true → (Hs s x ↔ x.2 ≤ getC u x.1 ∨ x ∈ P)) :
    Ok (setStep s d) ∧ (∀ x ∈ (setStep s d).more, x ∈ P ++ [d]) ∧ ∀ x, mayD x = true → (Hs (setStep s d) x ↔ x.2 ≤ getC u x.1 ∨ x ∈ P ++ [d]) := by
  have hp := mayD_pos hd
  unfold setStep
  split
  · rename_i hle
    refine ⟨hs, fun x hx => by simp [hsub x hx], fun x hx => ?_⟩
    rw [hh x hx, List.mem_append, List.mem_singleton]
    constructor
    · rintro (h | h) <;> simp [h]
    · rintro (h | h | h)
      · exact .inl h
      · exact .inr h
      · subst h; exact (hh x hx).1 (.inl hle)
  · rename_i hle
    split
    · rename_i he
      have hr : (1 : Int) ≤ d.1 ∧ d.1 ≤ 5 := by omega
      have hn : okN d.2 := ⟨by omega, by omega⟩
      have hno : ∀ m ∈ s.more, m.1 ≠ d.1 := by
        intro m hm h1
        have h2 := hP m (hsub m hm)
        have h3 := hs.gap m hm
        rw [h1] at h3
        unfold LT at h2
        omega
      refine ⟨⟨setC_pl _ hr hn, hs.srt, hs.may, fun m hm => ?_⟩, fun x hx => by simp [hsub x hx], fun x hx => ?_⟩
      · show getC (setC s.upto d.1 d.2) m.1 + 1 < m.2
        rw [getC_setC _ hr hn, if_neg (hno m hm)]
        exact hs.gap m hm
      · have h1 := hh x hx
        unfold Hs at h1 ⊢
        show x.2 ≤ getC (setC s.upto d.1 d.2) x.1 ∨ x ∈ s.more ↔ _
        rw [getC_setC _ hr hn, List.mem_append, List.mem_singleton, ← or_assoc, ← h1]
        have hxp := mayD_pos hx
        split
        · rename_i hx1
          rw [hx1]
          constructor
          · rintro (h | h)
            · by_cases h2 : x.2 = d.2
              · exact .inr (Prod.ext hx1 h2)
              · left; left; omega
            · exact .inl (.inr h)
          · rintro ((h | h) | h)
            · left; omega
            · exact .inr h
            · subst h; left; omega
        · rename_i hx1
          constructor
          · exact .inl
          · rintro (h | h)
            · exact h
            · subst h; exact absurd rfl hx1
    · rename_i hne
      refine ⟨⟨hs.pl, ?_, fun m hm => ?_, fun m hm => ?_⟩, fun x hx => ?_, fun x hx => ?_⟩
      · show Sorted (s.more ++ [d])
        rw [Sorted, List.pairwise_append]
        exact ⟨hs.srt, by simp, fun a ha b hb => by simp at hb; subst hb; exact hP a (hsub a ha)⟩
      · rcases List.mem_append.1 hm with h | h
        · exact hs.may m h
        · simp at h; subst h; exact hd
      · rcases List.mem_append.1 hm with h | h
        · exact hs.gap m h
        · simp at h; subst h
          show getC s.upto m.1 + 1 < m.2
          omega
      · rcases List.mem_append.1 hx with h | h
        · simp [hsub x h]
        · simp at h; simp [h]
      · have h1 := hh x hx
        unfold Hs at h1 ⊢
        show x.2 ≤ getC s.upto x.1 ∨ x ∈ s.more ++ [d] ↔ _
        rw [List.mem_append, List.mem_append, ← or_assoc, ← or_assoc, h1]

theorem fold_spec (u : List Int) (hu : Pl u) (L : List Dot) (hL : Sorted L) (hm : ∀ d ∈ L, mayD d = true) (k : Nat) :
    Ok ((L.take k).foldl setStep ⟨u, []⟩) ∧ (∀ x ∈ ((L.take k).foldl setStep ⟨u, []⟩).more, x ∈ L.take k) ∧ ∀ x, mayD x = true → (Hs ((L.take k).foldl setStep ⟨u, []⟩) x ↔ x.2 ≤ getC u x.1 ∨ x ∈ L.take k) := by
  induction k with
  | zero => exact ⟨⟨hu, by simp [Sorted], by simp, by simp⟩, by simp, fun x hx => by simp [Hs]⟩
  | succ k ih =>
    by_cases hk : k < L.length
    · obtain ⟨h1, h2, h3⟩ := ih
      rw [List.take_succ_eq_append_getElem hk, List.foldl_append]
      refine setStep_spec h1 h2 (fun x hx => ?_) (hm _ (List.getElem_mem hk)) h3
      obtain ⟨j, hj, rfl⟩ := List.mem_take_iff_getElem.1 hx
      rw [Sorted, List.pairwise_iff_getElem] at hL
      exact hL j k (by omega) hk (by omega)
    · rw [List.take_of_length_le (by omega)] at ih ⊢
      exact ih

/-- What is settled. -/
theorem settled_spec (u : List Int) (l : List Dot) (hm : ∀ d ∈ l, mayD d = true) :
    Ok (settled u l) ∧ (∀ x ∈ (settled u l).more, x ∈ l) ∧ ∀ x, mayD x = true → (Hs (settled u l) x ↔ x.2 ≤ getC u x.1 ∨ x ∈ l) := by
  obtain ⟨h1, h2⟩ := ordP_spec l
  obtain ⟨h3, h4, h5⟩ := fold_spec (plainL (ofL u)) (Pl.of u) (ordP l) h1 (fun d hd => hm d ((h2 d).1 hd)) (ordP l).length
  refine ⟨h3, fun x hx => ?_, fun x hx => ?_⟩
  · have := h4 x hx
    rw [List.take_length, h2] at this
    exact this
  · have := h5 x hx
    rw [List.take_length, h2, getC_plain] at this
    unfold settled setTo
    rw [List.take_length]
    exact this

theorem settled_len (u : List Int) (l : List Dot) : (settled u l).more.length ≤ l.length := by
  have := (setTo_le u l (ordP l).length (Nat.le_refl _)).2
  have := ordP_length l
  unfold settled
  omega

/-- The document's round of adding is a round of settling, where nothing is behind the number. -/
theorem addStep_eq (s : Seen) (d : Dot) (hd : mayD d = true) (h : getC s.upto d.1 < d.2) : addStep s d = setStep s d := by
  have hp := mayD_pos hd
  unfold addStep setStep
  rw [if_neg (show ¬ d.2 ≤ getC s.upto d.1 by omega), refSet_eq s.upto (r := d.1) (n := d.2) (by omega) ⟨by omega, by omega⟩]

theorem addD_eq {s : Seen} (hs : Ok s) {d : Dot} (hd : mayD d = true) : addD s d = settled s.upto (s.more ++ [d]) := by
  unfold addD
  have hsp := settled_spec s.upto (s.more ++ [d]) (fun x hx => by
    rcases List.mem_append.1 hx with h | h
    · exact hs.may x h
    · simp at h; subst h; exact hd)
  split
  · rename_i hh
    simp only [hasD, Bool.and_eq_true, Bool.or_eq_true, decide_eq_true_eq] at hh
    refine Ok.ext hs hsp.1 fun x hx => ?_
    rw [hsp.2.2 x hx, List.mem_append, List.mem_singleton]
    unfold Hs
    constructor
    · rintro (h | h) <;> simp [h]
    · rintro (h | h | h)
      · exact .inl h
      · exact .inr h
      · subst h; exact hh.2
  · rename_i hh
    have hnd : getC s.upto d.1 < d.2 := by
      simp only [hasD, hd, Bool.true_and, Bool.or_eq_true, decide_eq_true_eq, not_or] at hh
      omega
    have ho : ordP (s.more ++ [d]) = putD s.more d := Sorted.ext (ordP_spec _).1 (sorted_putD hs.srt d) fun x => by
      rw [(ordP_spec _).2, mem_putD, List.mem_append, List.mem_singleton]
    unfold settled setTo
    rw [List.take_length, ho, hs.pl.2]
    -- each round alike
    have hall : ∀ x ∈ putD s.more d, mayD x = true ∧ getC s.upto x.1 < x.2 := by
      intro x hx
      rcases (mem_putD _ _ _).1 hx with h | h
      · have := hs.gap x h
        exact ⟨hs.may x h, by omega⟩
      · subst h; exact ⟨hd, hnd⟩
    have hsrt := sorted_putD hs.srt d
    have key : ∀ k, k ≤ (putD s.more d).length → ((putD s.more d).take k).foldl addStep ⟨s.upto, []⟩ = ((putD s.more d).take k).foldl setStep ⟨s.upto, []⟩ := by
      intro k
      induction k with
      | zero => intro _; rfl
      | succ k ih =>
        intro hk
        have hkl : k < (putD s.more d).length := by omega
        rw [List.take_succ_eq_append_getElem hkl, List.foldl_append, List.foldl_append, ih (by omega)]
        obtain ⟨f1, f2, f3⟩ := fold_spec s.upto hs.pl (putD s.more d) hsrt (fun x hx => (hall x hx).1) k
        have hx := hall _ (List.getElem_mem hkl)
        refine addStep_eq _ _ hx.1 ?_
        -- nothing behind the number: else it were seen, and so ahead of itself
        have hnot : ¬ Hs (((putD s.more d).take k).foldl setStep ⟨s.upto, []⟩) (putD s.more d)[k] := by
          rw [f3 _ hx.1]
          rintro (h | h)
          · omega
          · obtain ⟨j, hj, he⟩ := List.mem_take_iff_getElem.1 h
            rw [Sorted, List.pairwise_iff_getElem] at hsrt
            have := hsrt j k (by omega) hkl (by omega)
            rw [he] at this
            exact LT.irrefl _ this
        unfold Hs at hnot
        simp only [not_or] at hnot
        omega
    have := key (putD s.more d).length (Nat.le_refl _)
    rw [List.take_length] at this
    exact this

/-- Dots added one by one are settled at once. -/
theorem addD_fold {s : Seen} (hs : Ok s) (l : List Dot) (hl : ∀ d ∈ l, mayD d = true) : l.foldl addD s = settled s.upto (s.more ++ l) := by
  have key : ∀ (l : List Dot) (s : Seen), Ok s → (∀ d ∈ l, mayD d = true) → Ok (l.foldl addD s) ∧ ∀ x, mayD x = true → (Hs (l.foldl addD s) x ↔ Hs s x ∨ x ∈ l) := by
    intro l
    induction l with
    | nil => intro s hs _; exact ⟨hs, fun x _ => by simp⟩
    | cons d l ih =>
      intro s hs hl
      have hd := hl d (by simp)
      have hsp := settled_spec s.upto (s.more ++ [d]) (fun x hx => by
        rcases List.mem_append.1 hx with h | h
        · exact hs.may x h
        · simp at h; subst h; exact hd)
      rw [← addD_eq hs hd] at hsp
      obtain ⟨h1, h2⟩ := ih (addD s d) hsp.1 fun x hx => hl x (by simp [hx])
      refine ⟨h1, fun x hx => ?_⟩
      rw [List.foldl_cons, h2 x hx, hsp.2.2 x hx, List.mem_append, List.mem_singleton, List.mem_cons]
      unfold Hs
      rw [or_assoc, or_assoc, or_assoc]
  obtain ⟨h1, h2⟩ := key l s hs hl
  have hsp := settled_spec s.upto (s.more ++ l) (fun x hx => by
    rcases List.mem_append.1 hx with h | h
    · exact hs.may x h
    · exact hl x h)
  refine Ok.ext h1 hsp.1 fun x hx => ?_
  rw [h2 x hx, hsp.2.2 x hx, List.mem_append]
  unfold Hs
  rw [or_assoc]
end Go.AM
namespace Go.AM
open Go.Proofs

theorem awake_add : addP ⟨[], []⟩ [(1, 2), (1, 1)] = ⟨[2], []⟩ ∧ addE ⟨[], []⟩ [(1, 2), (1, 1)] = 0 := by
  have e : settled [] [(1, 2), (1, 1)] = ⟨[2], []⟩ := by
    unfold settled setTo
    rw [ordP_eq]
    decide
  have h : (seenOk ⟨[], []⟩ && [((1 : Int), (2 : Int)), (1, 1)].all mayD) = true := by decide
  unfold addP addE
  rw [if_pos h, if_pos h]
  simp only [List.nil_append, e]
  exact ⟨rfl, rfl⟩

set_option maxRecDepth 8000 in
set_option maxHeartbeats 1000000 in
theorem c_law04_awake : Pure Try.prog 46 [] (.b true) := by
  have ha := c_dots_Add ⟨[], []⟩ [(1, 2), (1, 1)] (by simp) (by simp) (by simp)
  rw [awake_add.1, awake_add.2] at ha
  simp [seenC, dotsAV, dotC] at ha
  refine proc_of (cx Try.prog 36 [0, 1, 2] [0]) 36 [.tmp 0] Try.func46 rfl rfl rfl rfl rfl rfl (Nat.le_refl _) rfl ?_
  refine AWp.go [] [] fun K hK => ?_
  simp
  first | refine hK _ _ ?_ | refine ⟨by omega, hK _ _ ?_⟩ | refine ⟨by omega, by omega, hK _ _ ?_⟩
  clear hK K
  refine AWp.go [1, 2] [1] fun K hK => ?_
  simp
  refine call_pure ha (by simp) ?_
  simp
  first | refine hK _ _ ?_ | refine ⟨by omega, hK _ _ ?_⟩ | refine ⟨by omega, by omega, hK _ _ ?_⟩
  clear hK K
  refine AWp.step [0] [] [(0, .b true)] [] ?_ ?_
  · simp
    refine call_pure (c_dots_May (1, 2)) (by simp [dotC]) ?_
    simp [mayD]
  refine AWp.ret ?_
  simp


theorem ltD_irrefl (a : Dot) : ltD a a = false := by
  rw [← Bool.not_eq_true, ltD_iff]; exact LT.irrefl a
theorem ltD_anti {a b : Dot} (h : a ≠ b) : ltD b a = !ltD a b := by
  rcases LT.tri a b with h1 | h1 | h1
  · rw [(ltD_iff a b).2 h1]; show ltD b a = false; rw [← Bool.not_eq_true, ltD_iff]
    intro h2; exact LT.irrefl _ (h1.trans h2)
  · exact absurd h1 h
  · have : ltD a b = false := by rw [← Bool.not_eq_true, ltD_iff]; intro h2; exact LT.irrefl _ (h1.trans h2)
    rw [this, (ltD_iff b a).2 h1]; rfl
theorem ltD_trans {a b c : Dot} (h1 : ltD a b = true) (h2 : ltD b c = true) : ltD a c = true := by
  rw [ltD_iff] at *; exact h1.trans h2

set_option maxRecDepth 8000 in
set_option maxHeartbeats 2000000 in
theorem c_DotsLess (a b c : Dot) : Pure Try.prog 7 [.agg (dotC a), .agg (dotC b), .agg (dotC c)] (.b true) := by
  refine proc_of (cx Try.prog 51 [3, 4, 5, 6, 32] [6]) 48 [.tmp 6] Try.func7 rfl rfl rfl rfl rfl rfl (Nat.le_refl _) rfl ?_
  refine AWp.go [3, 4, 5] [3, 4, 5] fun K hK => ?_
  simp [dotC]
  first | refine hK _ _ ?_ | refine ⟨by omega, hK _ _ ?_⟩ | refine ⟨by omega, by omega, hK _ _ ?_⟩
  clear hK K
  have g1 := c_dots_Less a b
  have g2 := c_dots_Less b a
  have g3 := c_dots_Less a a
  have g4 := c_ref04_Less a b
  have g5 := c_dots_Less b c
  have g6 := c_dots_Less a c
  rw [ltD_irrefl] at g3
  simp [dotC] at g1 g2 g3 g4 g5 g6
  refine AWp.seq ?_
  refine AWp.stepD 26 (fun k => if k = 17 then .b (ltD b a) else if k = 24 then .b false else .b (ltD a b)) [3, 4, 5, 32] [3, 4, 5] [(3, .ptr 3 0), (4, .ptr 4 0), (5, .ptr 5 0), (32, .b false)] [(3, [.i .i64 a.1, .i .i64 a.2]), (4, [.i .i64 b.1, .i .i64 b.2]), (5, [.i .i64 c.1, .i .i64 c.2])] mix (by kernel_rfl) ?_ ?_
  · by_cases e1 : a.1 = b.1
    · by_cases e2 : a.2 = b.2
      · simp [e1, e2] at g1 g2 g3 g4 g5 g6 ⊢
        simp [g1, g3, g4]
      · have hn : a ≠ b := fun h => e2 (by rw [h])
        have := ltD_anti hn
        cases h1 : ltD a b
        · rw [h1] at this g1 g4
          rw [this] at g2
          simp [e1] at g1 g2 g3 g4
          simp [e1, e2, this, g1, g2, g3, g4]
        · rw [h1] at this g1 g4
          rw [this] at g2
          simp [e1] at g1 g2 g3 g4
          simp [e1, e2, this, g1, g2, g3, g4]
    · have hn : a ≠ b := fun h => e1 (by rw [h])
      have := ltD_anti hn
      cases h1 : ltD a b
      · rw [h1] at this g1 g4
        rw [this] at g2
        simp at g2
        simp [e1, this, g1, g2, g3, g4]
      · rw [h1] at this g1 g4
        rw [this] at g2
        simp at g2
        simp [e1, this, g1, g2, g3, g4]
  refine AWp.cond (t := false) (by first | (simp; done) | (simp; omega)) (by simp) (fun _ => ?_)
  refine AWp.skip ?_
  show AWp _ _ _ _
  refine AWp.step [6] [] [(6, .b true)] [] ?_ ?_
  · simp
    refine call_pure g1 (by simp) ?_
    cases h1 : ltD a b
    · simp
      refine call_pure c_law04_awake (by simp) ?_
      simp
    · simp
      refine call_pure g5 (by simp) ?_
      cases h2 : ltD b c
      · simp
        refine call_pure c_law04_awake (by simp) ?_
        simp
      · rw [ltD_trans h1 h2] at g6
        simp
        refine call_pure g6 (by simp) ?_
        simp
        refine call_pure c_law04_awake (by simp) ?_
        simp
  refine AWp.ret ?_
  simp
end Go.AM
namespace Go.AM
open Go.Proofs

theorem settled_upto (u : List Int) (l : List Dot) : (settled u l).upto.length ≤ 5 := (setTo_le u l (ordP l).length (Nat.le_refl _)).1
theorem foldD_len {s : Seen} (hs : Ok s) (l : List Dot) (hl : ∀ d ∈ l, mayD d = true) : (l.foldl addD s).upto.length ≤ 5 ∧ (l.foldl addD s).more.length ≤ s.more.length + l.length := by
  rw [addD_fold hs l hl]
  refine ⟨settled_upto _ _, ?_⟩
  have := settled_len s.upto (s.more ++ l)
  rw [List.length_append] at this
  exact this
theorem addP_spec {s : Seen} (hs : seenOk s = true) (l : List Dot) (hl : l.all mayD = true) (hn : s.more.length + l.length ≤ 1000) : addP s l = l.foldl addD s ∧ addE s l = 0 ∧ seenOk (addP s l) = true := by
  have ho := ((seenOk_iff s).1 hs).1
  have hl' : ∀ d ∈ l, mayD d = true := fun d hd => List.all_eq_true.1 hl d hd
  have hlen := settled_len s.upto (s.more ++ l)
  rw [List.length_append] at hlen
  have h1 : addP s l = settled s.upto (s.more ++ l) := by
    unfold addP fullS
    rw [hs, hl]
    simp only [Bool.and_self, if_true]
    rw [if_pos (by omega)]
  refine ⟨by rw [h1, addD_fold ho l hl'], ?_, ?_⟩
  · unfold addE fullE
    rw [hs, hl]
    simp only [Bool.and_self, if_true]
    rw [if_pos (by omega)]
  · rw [h1, seenOk_iff]
    exact ⟨(settled_spec s.upto (s.more ++ l) fun d hd => (List.mem_append.1 hd).elim (ho.may d) (hl' d)).1, by omega⟩

set_option maxRecDepth 8000 in
set_option maxHeartbeats 4000000 in
theorem c_DotsAdd (s : Seen) (l : List Dot) (d : Dot) : Pure Try.prog 8 [.agg (seenC s), .sl .fro 2 (dotsAV l), .agg (dotC d)] (.b true) := by
  refine proc_of (cx Try.prog 113 [1, 3, 5, 6, 7, 8, 9, 10, 18, 46, 49, 72, 75, 90] [6]) 110 [.tmp 6] Try.func8 rfl rfl rfl rfl rfl rfl (Nat.le_refl _) rfl ?_
  refine AWp.go [1, 3, 5] [3, 5] fun K hK => ?_
  simp [dotC, seenC]
  first | refine hK _ _ ?_ | refine ⟨by omega, hK _ _ ?_⟩ | refine ⟨by omega, by omega, hK _ _ ?_⟩
  clear hK K
  refine AWp.seq ?_
  refine AWp.step [1, 3, 5, 18] [3, 5] [(1, .sl .fro 2 (dotsAV l)), (3, .ptr 3 0), (5, .ptr 5 0), (18, .b (!(decide (s.upto.length ≤ 20) && decide (s.more.length ≤ 40) && decide (l.length ≤ 40))))] [(3, [.sl .fro 1 (intsAV s.upto), .sl .fro 2 (dotsAV s.more)]), (5, [.i .i64 d.1, .i .i64 d.2])] ?_ ?_
  · simp
    refine call_pure (c_law04_Light s) (by simp [seenC]) ?_
    by_cases q : s.upto.length ≤ 20
    · by_cases q1 : s.more.length ≤ 40
      · by_cases q2 : l.length ≤ 40
        · simp [q, q1, q2]; omega
        · simp [q, q1, q2]; omega
      · simp [q, q1]
    · simp [q]
  cases hq : decide (s.upto.length ≤ 20) && decide (s.more.length ≤ 40) && decide (l.length ≤ 40)
  · refine AWp.cond (t := true) (by simp) (fun _ => ?_) (by simp)
    refine AWp.go [6] [] fun K hK => ?_
    simp
    refine call_pure (c_law04_awake) (by simp) ?_
    simp
    first | refine hK _ _ ?_ | refine ⟨by omega, hK _ _ ?_⟩ | refine ⟨by omega, by omega, hK _ _ ?_⟩
    clear hK K
    refine AWp.ret ?_
    simp
  · refine AWp.cond (t := false) (by simp) (by simp) (fun _ => ?_)
    simp only [Bool.and_eq_true, decide_eq_true_eq] at hq
    obtain ⟨⟨hu, hm⟩, hl⟩ := hq
    refine AWp.skip ?_
    show AWp _ _ _ _
    refine AWp.step [1, 3, 5, 7, 8] [3, 5, 7] [(1, .sl .fro 2 (dotsAV l)), (3, .ptr 3 0), (5, .ptr 5 0), (7, .ptr 7 0), (8, .i .i64 (addE s l))] [(3, [.sl .fro 1 (intsAV s.upto), .sl .fro 2 (dotsAV s.more)]), (5, [.i .i64 d.1, .i .i64 d.2]), (7, [.sl .fro 1 (intsAV (addP s l).upto), .sl .fro 2 (dotsAV (addP s l).more)])] ?_ ?_
    · simp
      refine call_pure (c_dots_Add s l (by omega) (by omega) (by omega)) (by simp [seenC]) ?_
      simp [seenC]
    refine AWp.seq ?_
    refine AWp.stepD 21 (fun k => if k = 1 ∨ k = 3 then .b (mayD d) else if k = 7 then .i .i64 (if seenOk s then 0 else 1) else if k = 10 then .b (seenOk s) else if k = 15 then .sl .fro 2 (dotsAV (ordP l)) else if k = 17 then .sl .fro 2 (dotsAV (ordD l)) else .b true) [1, 3, 5, 7, 8, 46] [3, 5, 7] [(1, .sl .fro 2 (dotsAV l)), (3, .ptr 3 0), (5, .ptr 5 0), (7, .ptr 7 0), (8, .i .i64 (addE s l)), (46, .b false)] [(3, [.sl .fro 1 (intsAV s.upto), .sl .fro 2 (dotsAV s.more)]), (5, [.i .i64 d.1, .i .i64 d.2]), (7, [.sl .fro 1 (intsAV (addP s l).upto), .sl .fro 2 (dotsAV (addP s l).more)])] mix (by kernel_rfl) ?_ ?_
    · have g1 := c_dots_May d
      have g2 := c_ref04_May d
      have g3 := c_dots_Check s (by omega) (by omega)
      have g4 := c_ref04_Seen s (by omega) (by omega)
      have g5 := c_dots_Order l (by omega)
      have g6 := c_ref04_Order l (by omega)
      have g7 := c_ref04_Dots (ordP l) (ordD l) (by have := ordP_length l; omega)
      rw [ordP_eq] at g5 g7 ⊢
      simp [dotC] at g1 g2 g7
      simp [seenC] at g3 g4
      cases q1 : seenOk s
      · rw [q1] at g3 g4
        simp at g3
        simp [g1, g2, g3, g4, g5, g6, g7]
      · rw [q1] at g3 g4
        simp at g3
        simp [g1, g2, g3, g4, g5, g6, g7]
    refine AWp.cond (t := false) (by first | (simp; done) | (simp; omega)) (by simp) (fun _ => ?_)
    refine AWp.skip ?_
    show AWp _ _ _ _
    refine AWp.seq ?_
    refine AWp.go [1, 3, 5, 7, 8, 49] [3, 5, 7] fun K hK => ?_
    simp
    refine call_pure (c_ref04_Seen s (by omega) (by omega)) (by simp [seenC]) ?_
    simp
    first | refine hK _ _ ?_ | refine ⟨by omega, hK _ _ ?_⟩ | refine ⟨by omega, by omega, hK _ _ ?_⟩
    clear hK K
    cases hs : seenOk s
    · refine AWp.cond (t := true) (by simp) (fun _ => ?_) (by simp)
      have hx : addP s l = ⟨[], []⟩ := by simp [addP, hs]
      have he : addE s l = 1 := by simp [addE, hs]
      rw [hx, he]
      refine AWp.step [6] [] [(6, .b true)] [] ?_ ?_
      · simp
        refine call_pure (c_dots_Has s d (by omega) (by omega)) (by simp [dotC, seenC]) ?_
        simp [hs]
        refine call_pure (c_ref04_Same ⟨[], []⟩ ⟨[], []⟩ (by simp) (by simp)) (by simp [seenC]) ?_
        simp
        refine call_pure c_law04_awake (by simp) ?_
        simp
      refine AWp.ret ?_
      simp
    · refine AWp.cond (t := false) (by simp) (by simp) (fun _ => ?_)
      refine AWp.skip ?_
      show AWp _ _ _ _
      refine AWp.seq ?_
      refine AWp.stepD 7 (fun k => .b (hasD s d)) [1, 3, 7, 8, 72] [3, 7] [(1, .sl .fro 2 (dotsAV l)), (3, .ptr 3 0), (7, .ptr 7 0), (8, .i .i64 (addE s l)), (72, .b false)] [(3, [.sl .fro 1 (intsAV s.upto), .sl .fro 2 (dotsAV s.more)]), (7, [.sl .fro 1 (intsAV (addP s l).upto), .sl .fro 2 (dotsAV (addP s l).more)])] mix (by kernel_rfl) ?_ ?_
      · have g1 := c_dots_Has s d (by omega) (by omega)
        have g2 := c_ref04_Has s d (by omega) (by omega)
        rw [hs] at g1
        simp [dotC, seenC] at g1 g2
        simp [g1, g2]
      refine AWp.cond (t := false) (by first | (simp; done) | (simp; omega)) (by simp) (fun _ => ?_)
      refine AWp.skip ?_
      show AWp _ _ _ _
      refine AWp.seq ?_
      refine AWp.go [1, 3, 7, 8, 75] [3, 7] fun K hK => ?_
      simp
      refine call_pure (c_ref04_All l (by omega)) (by simp) ?_
      simp
      first | refine hK _ _ ?_ | refine ⟨by omega, hK _ _ ?_⟩ | refine ⟨by omega, by omega, hK _ _ ?_⟩
      clear hK K
      cases ha : l.all mayD
      · refine AWp.cond (t := true) (by simp) (fun _ => ?_) (by simp)
        have hx : addP s l = ⟨[], []⟩ := by simp [addP, ha]
        have he : addE s l = 1 := by simp [addE, ha]
        rw [hx, he]
        refine AWp.step [6] [] [(6, .b true)] [] ?_ ?_
        · simp
          refine call_pure (c_ref04_Same ⟨[], []⟩ ⟨[], []⟩ (by simp) (by simp)) (by simp [seenC]) ?_
          simp
          refine call_pure c_law04_awake (by simp) ?_
          simp
        refine AWp.ret ?_
        simp
      · refine AWp.cond (t := false) (by simp) (by simp) (fun _ => ?_)
        have ho := ((seenOk_iff s).1 hs).1
        have hl' : ∀ d ∈ l, mayD d = true := fun d hd => List.all_eq_true.1 ha d hd
        refine AWp.skip ?_
        show AWp _ _ _ _
        refine AWp.go [1, 7, 8, 9] [7, 9] fun K hK => ?_
        simp
        first | refine hK _ _ ?_ | refine ⟨by omega, hK _ _ ?_⟩ | refine ⟨by omega, by omega, hK _ _ ?_⟩
        clear hK K
        refine AWp.seq ?_
        refine AWp.go [1, 7, 8, 9, 10] [7, 9] fun K hK => ?_
        simp
        first | refine hK _ _ ?_ | refine ⟨by omega, hK _ _ ?_⟩ | refine ⟨by omega, by omega, hK _ _ ?_⟩
        clear hK K
        refine AWp.block (AWp.while (fun i : Nat => [(1, .sl .fro 2 (dotsAV l)), (7, .ptr 7 0), (8, .i .i64 (addE s l)), (9, .ptr 9 0), (10, .i .i64 i)]) (fun i => [(7, [.sl .fro 1 (intsAV (addP s l).upto), .sl .fro 2 (dotsAV (addP s l).more)]), (9, [.sl .fro 1 (intsAV ((l.take i).foldl addD s).upto), .sl .fro 2 (dotsAV ((l.take i).foldl addD s).more)])]) (fun i => i ≤ l.length) (fun i => l.length - i) [1, 7, 8, 9, 10] [7, 9] 0 (by simp) (by simp) ?_)
        intro i hi
        obtain ⟨hf1, hf2⟩ := foldD_len ho (l.take i) fun d hd => hl' d (List.mem_of_mem_take hd)
        have hf3 : (l.take i).length ≤ 40 := by rw [List.length_take]; omega
        refine AWp.seq ?_
        refine AWp.go [1, 7, 8, 9, 10, 90] [7, 9] fun K hK => ?_
        simp
        first | refine hK _ _ ?_ | refine ⟨by omega, hK _ _ ?_⟩ | refine ⟨by omega, by omega, hK _ _ ?_⟩
        clear hK K
        by_cases h : i < l.length
        · refine AWp.cond (t := true) (by first | (simp [h]; done) | (simp [h]; omega)) (fun _ => ?_) (by simp)
          refine AWp.skip ?_
          show AWp _ _ _ _
          refine AWp.seq ?_
          refine AWp.block ?_
          have g1 := c_ref04_Add ((l.take i).foldl addD s) l[i] (by omega) (by omega)
          simp [dotC, seenC] at g1
          refine AWp.goLastD 6 (fun k => .agg (seenC (addD ((l.take i).foldl addD s) l[i]))) [1, 7, 8, 9, 10] [7, 9] mix (by kernel_rfl) fun K hK => ?_
          simp [h, seenC, g1]
          refine hK _ _ ?_
          clear hK K
          show AWp _ _ _ _
          refine AWp.goLast [1, 7, 8, 9, 10] [7, 9] fun K hK => ?_
          simp
          first | refine hK _ _ ?_ | refine ⟨by omega, hK _ _ ?_⟩ | refine ⟨by omega, by omega, hK _ _ ?_⟩
          clear hK K
          have w1 : IntKind.i64.wrap ((i : Int) + 1) = i + 1 := wrap64 (by omega) (by omega)
          have e : (l.take (i + 1)).foldl addD s = addD ((l.take i).foldl addD s) l[i] := by rw [List.take_succ_eq_append_getElem h, List.foldl_append]; rfl
          refine ⟨i + 1, by omega, by omega, ?_⟩
          simp [e, w1]
        · refine AWp.cond (t := false) (by first | (simp [h]; done) | (simp [h]; omega)) (by simp) (fun _ => ?_)
          refine AWp.exit ?_
          show AWp _ _ _ _
          obtain rfl : i = l.length := by omega
          obtain ⟨hx, he, hsx⟩ := addP_spec hs l ha (by omega)
          rw [List.take_length] at hf1 hf2 ⊢
          rw [he, hx]
          rw [hx] at hsx
          refine AWp.step [6] [] [(6, .b true)] [] ?_ ?_
          · simp
            refine call_pure (c_ref04_Same (l.foldl addD s) (l.foldl addD s) (by omega) (by omega)) (by simp [seenC]) ?_
            simp
            refine call_pure (c_ref04_Seen (l.foldl addD s) (by omega) (by omega)) (by simp [seenC]) ?_
            simp [hsx]
            refine call_pure c_law04_awake (by simp) ?_
            simp
          refine AWp.ret ?_
          simp
end Go.AM
namespace Go.AM
open Go.Proofs

def s0 : Seen := ⟨[], []⟩
theorem s0_ok : Ok s0 ∧ seenOk s0 = true := by
  have h : seenOk s0 = true := by decide
  exact ⟨((seenOk_iff s0).1 h).1, h⟩
theorem fold0_spec (l : List Dot) (hl : ∀ d ∈ l, mayD d = true) : Ok (l.foldl addD s0) ∧ ∀ x, mayD x = true → (Hs (l.foldl addD s0) x ↔ x ∈ l) := by
  rw [addD_fold s0_ok.1 l hl]
  have h := settled_spec s0.upto (s0.more ++ l) (by simpa [s0] using hl)
  refine ⟨h.1, fun x hx => ?_⟩
  rw [h.2.2 x hx]
  have hp := mayD_pos hx
  have hg : getC s0.upto x.1 = 0 := by
    unfold getC
    split
    · have h5 : ∀ k, [(0 : Int), 0, 0, 0, 0].getD k 0 = 0 := fun k => by
        match k with
        | 0 | 1 | 2 | 3 | 4 => rfl
        | k + 5 => rfl
      exact h5 _
    · rfl
  rw [hg]
  show x.2 ≤ 0 ∨ x ∈ [] ++ l ↔ x ∈ l
  rw [List.nil_append]
  constructor
  · rintro (h | h)
    · omega
    · exact h
  · exact .inr
theorem fold0_ext {l m : List Dot} (hl : ∀ d ∈ l, mayD d = true) (h : ∀ x, x ∈ m ↔ x ∈ l) : m.foldl addD s0 = l.foldl addD s0 := by
  have hm : ∀ d ∈ m, mayD d = true := fun d hd => hl d ((h d).1 hd)
  refine Ok.ext (fold0_spec m hm).1 (fold0_spec l hl).1 fun x hx => ?_
  rw [(fold0_spec m hm).2 x hx, (fold0_spec l hl).2 x hx, h x]
theorem fold0_has (l : List Dot) (hl : ∀ d ∈ l, mayD d = true) (d : Dot) (hd : mayD d = true) : hasD (l.foldl addD s0) d = decide (d ∈ l) := by
  have h := (fold0_spec l hl).2 d hd
  unfold Hs at h
  unfold hasD
  rw [hd, Bool.true_and]
  by_cases hm : d ∈ l
  · rw [decide_eq_true hm]
    rcases h.2 hm with h | h <;> simp [h]
  · rw [decide_eq_false hm]
    have this : ¬ (d.2 ≤ getC (l.foldl addD s0).upto d.1 ∨ d ∈ (l.foldl addD s0).more) := fun h2 => hm (h.1 h2)
    simp only [not_or] at this
    simp [this]

/-- Which one is taken next. -/
def kOf (turns : List Int) (i n : Nat) : Nat := if i < turns.length then ((turns.getD i 0).toNat % n) else 0
theorem kOf_lt (turns : List Int) (i n : Nat) (h : 0 < n) : kOf turns i n < n := by
  unfold kOf
  split
  · exact Nat.mod_lt _ h
  · exact h
theorem kOf_then {turns : List Int} {i n : Nat} (h : i < turns.length) (h0 : 0 ≤ turns[i]) : (turns[i]).tmod n = (kOf turns i n : Int) := by
  unfold kOf
  rw [if_pos h, List.getD_eq_getElem?_getD, List.getElem?_eq_getElem h]
  show _ = ((turns[i].toNat % n : Nat) : Int)
  rw [Int.tmod_eq_emod_of_nonneg h0, Int.natCast_emod, Int.toNat_of_nonneg h0]
theorem kOf_else {turns : List Int} {i n : Nat} (h : ¬ i < turns.length) : kOf turns i n = 0 := by
  unfold kOf
  rw [if_neg h]

structure Left (l : List Dot) (p : Nat × List Dot × List Dot) : Prop where
  len : p.2.1.length + p.1 = l.length
  dlen : p.2.2.length = p.1
  mem : ∀ x, x ∈ l ↔ x ∈ p.2.2 ∨ x ∈ p.2.1
theorem Left.step {l : List Dot} {i : Nat} {lf dn : List Dot} (h : Left l (i, lf, dn)) {k : Nat} (hk : k < lf.length) : Left l (i + 1, lf.take k ++ lf.drop (k + 1), dn ++ [lf[k]]) := by
  obtain ⟨h1, h2, h3⟩ := h
  dsimp only at h1 h2 h3
  refine ⟨?_, ?_, fun x => ?_⟩
  · simp; omega
  · simp; omega
  · dsimp only
    rw [h3]
    have e : lf = lf.take k ++ lf[k] :: lf.drop (k + 1) := by rw [List.getElem_cons_drop, List.take_append_drop]
    have : x ∈ lf ↔ x ∈ lf.take k ∨ x = lf[k] ∨ x ∈ lf.drop (k + 1) := by
      rw [show (x ∈ lf) = (x ∈ lf.take k ++ lf[k] :: lf.drop (k + 1)) by rw [← e], List.mem_append, List.mem_cons]
    rw [this, List.mem_append, List.mem_append, List.mem_singleton]
    constructor
    · rintro (h | h | h | h) <;> simp [h]
    · rintro ((h | h) | (h | h)) <;> simp [h]

set_option maxRecDepth 8000 in
set_option maxHeartbeats 8000000 in
theorem c_DotsOne (l : List Dot) (turns : List Int) (d : Dot) (ht : ∀ n ∈ turns, 0 ≤ n ∧ n ≤ 255) (htl : turns.length ≤ 9223372036854775807) (hll : l.length ≤ 9223372036854775807) : Pure Try.prog 9 [.sl .fro 2 (dotsAV l), .sl .fro 1 (bytesAV turns), .agg (dotC d)] (.b true) := by
  refine proc_of (cx Try.prog 103 [0, 1, 5, 6, 7, 8, 9, 10, 11, 12, 13, 14, 32, 46, 52, 72] [6]) 100 [.tmp 6] Try.func9 rfl rfl rfl rfl rfl rfl (Nat.le_refl _) rfl ?_
  refine AWp.go [0, 1, 5] [5] fun K hK => ?_
  simp [dotC]
  first | refine hK _ _ ?_ | refine ⟨by omega, hK _ _ ?_⟩ | refine ⟨by omega, by omega, hK _ _ ?_⟩
  clear hK K
  refine AWp.seq ?_
  refine AWp.step [0, 1, 5, 32] [5] [(0, .sl .fro 2 (dotsAV l)), (1, .sl .fro 1 (bytesAV turns)), (5, .ptr 5 0), (32, .b (!(decide (l.length ≤ 30) && decide (turns.length ≤ 60) && l.all mayD && mayD d)))] [(5, [.i .i64 d.1, .i .i64 d.2])] ?_ ?_
  · by_cases q1 : l.length ≤ 30
    · by_cases q2 : turns.length ≤ 60
      · simp [show ¬ (30 : Int) < l.length by omega, show ¬ (60 : Int) < turns.length by omega]
        refine call_pure (c_ref04_All l (by omega)) (by simp) ?_
        cases q3 : l.all mayD
        · simp [q1, q2]
        · simp [q1, q2]
          refine call_pure (c_ref04_May d) (by simp [dotC]) ?_
          simp
      · simp [show ¬ (30 : Int) < l.length by omega, show (60 : Int) < turns.length by omega, q2]
    · simp [show (30 : Int) < l.length by omega, q1]
  cases hq : decide (l.length ≤ 30) && decide (turns.length ≤ 60) && l.all mayD && mayD d
  · refine AWp.cond (t := true) (by simp) (fun _ => ?_) (by simp)
    refine AWp.go [6] [] fun K hK => ?_
    simp
    refine call_pure (c_law04_awake) (by simp) ?_
    simp
    first | refine hK _ _ ?_ | refine ⟨by omega, hK _ _ ?_⟩ | refine ⟨by omega, by omega, hK _ _ ?_⟩
    clear hK K
    refine AWp.ret ?_
    simp
  · refine AWp.cond (t := false) (by simp) (by simp) (fun _ => ?_)
    simp only [Bool.and_eq_true, decide_eq_true_eq] at hq
    obtain ⟨⟨⟨hl, htn⟩, ha⟩, hd⟩ := hq
    have hl' : ∀ d ∈ l, mayD d = true := fun d hd => List.all_eq_true.1 ha d hd
    obtain ⟨hone, he, _⟩ := addP_spec s0_ok.2 l ha (by simp [s0]; omega)
    refine AWp.skip ?_
    show AWp _ _ _ _
    refine AWp.step [0, 1, 5, 7, 8] [5, 7] [(0, .sl .fro 2 (dotsAV l)), (1, .sl .fro 1 (bytesAV turns)), (5, .ptr 5 0), (7, .ptr 7 0), (8, .i .i64 0)] [(5, [.i .i64 d.1, .i .i64 d.2]), (7, [.sl .fro 1 (intsAV (l.foldl addD s0).upto), .sl .fro 2 (dotsAV (l.foldl addD s0).more)])] ?_ ?_
    · simp
      refine call_pure (c_dots_Add s0 l (by simp [s0]) (by simp [s0]) (by omega)) (by simp [seenC, s0]) ?_
      rw [hone, he]
      simp [seenC]
    refine AWp.go [0, 1, 5, 7, 8, 9] [5, 7] fun K hK => ?_
    simp
    refine ⟨?_, hK _ _ ?_⟩
    · omega
    clear hK K
    refine AWp.go [0, 1, 5, 7, 8, 9, 10] [5, 7, 10] fun K hK => ?_
    simp
    first | refine hK _ _ ?_ | refine ⟨by omega, hK _ _ ?_⟩ | refine ⟨by omega, by omega, hK _ _ ?_⟩
    clear hK K
    refine AWp.seq ?_
    refine AWp.go [0, 1, 5, 7, 8, 9, 10, 11] [5, 7, 10] fun K hK => ?_
    simp
    first | refine hK _ _ ?_ | refine ⟨by omega, hK _ _ ?_⟩ | refine ⟨by omega, by omega, hK _ _ ?_⟩
    clear hK K
    refine AWp.block (AWp.while (fun p : Nat × List Dot × List Dot => [(0, .sl .fro 2 (dotsAV l)), (1, .sl .fro 1 (bytesAV turns)), (5, .ptr 5 0), (7, .ptr 7 0), (8, .i .i64 0), (9, .sl .own 2 (dotsAV p.2.1)), (10, .ptr 10 0), (11, .i .i64 p.1)]) (fun p => [(5, [.i .i64 d.1, .i .i64 d.2]), (7, [.sl .fro 1 (intsAV (l.foldl addD s0).upto), .sl .fro 2 (dotsAV (l.foldl addD s0).more)]), (10, [.sl .fro 1 (intsAV (p.2.2.foldl addD s0).upto), .sl .fro 2 (dotsAV (p.2.2.foldl addD s0).more)])]) (fun p => Left l p) (fun p => p.2.1.length) [0, 1, 5, 7, 8, 9, 10, 11] [5, 7, 10] (0, l, []) (by exact ⟨rfl, rfl, by simp⟩) (by simp [s0]) ?_)
    rintro ⟨i, lf, dn⟩ hlf
    have h1 := hlf.len
    have h2 := hlf.dlen
    have h3 := hlf.mem
    dsimp only at h1 h2 h3
    try dsimp only
    have hdn : ∀ d ∈ dn, mayD d = true := fun d hd => hl' d ((h3 d).2 (.inl hd))
    obtain ⟨hf1, hf2⟩ := foldD_len s0_ok.1 dn hdn
    have hf3 : s0.more.length = 0 := rfl
    refine AWp.seq ?_
    refine AWp.go [0, 1, 5, 7, 8, 9, 10, 11, 46] [5, 7, 10] fun K hK => ?_
    simp
    first | refine hK _ _ ?_ | refine ⟨by omega, hK _ _ ?_⟩ | refine ⟨by omega, by omega, hK _ _ ?_⟩
    clear hK K
    by_cases h : 0 < lf.length
    · refine AWp.cond (t := true) (by first | (simp [h]; done) | (simp [h]; omega)) (fun _ => ?_) (by simp)
      have hk := kOf_lt turns i lf.length h
      have hix := hl' lf[kOf turns i lf.length] ((h3 _).2 (.inr (List.getElem_mem hk)))
      have hso : seenOk (dn.foldl addD s0) = true := (seenOk_iff _).2 ⟨(fold0_spec dn hdn).1, by omega⟩
      obtain ⟨hx1, hx2, _⟩ := addP_spec hso [lf[kOf turns i lf.length]] (by simp [hix]) (by simp; omega)
      refine AWp.skip ?_
      show AWp _ _ _ _
      refine AWp.seq ?_
      refine AWp.block ?_
      refine AWp.go [0, 1, 5, 7, 8, 9, 10, 11, 12] [5, 7, 10] fun K hK => ?_
      simp
      first | refine hK _ _ ?_ | refine ⟨by omega, hK _ _ ?_⟩ | refine ⟨by omega, by omega, hK _ _ ?_⟩
      clear hK K
      refine AWp.mid [0, 1, 5, 7, 8, 9, 10, 11, 12] [5, 7, 10] [(0, .sl .fro 2 (dotsAV l)), (1, .sl .fro 1 (bytesAV turns)), (5, .ptr 5 0), (7, .ptr 7 0), (8, .i .i64 0), (9, .sl .own 2 (dotsAV lf)), (10, .ptr 10 0), (11, .i .i64 i), (12, .i .i64 (kOf turns i lf.length))] [(5, [.i .i64 d.1, .i .i64 d.2]), (7, [.sl .fro 1 (intsAV (l.foldl addD s0).upto), .sl .fro 2 (dotsAV (l.foldl addD s0).more)]), (10, [.sl .fro 1 (intsAV (dn.foldl addD s0).upto), .sl .fro 2 (dotsAV (dn.foldl addD s0).more)])] ?_ ?_
      · refine AWp.go [0, 1, 5, 7, 8, 9, 10, 11, 12, 52] [5, 7, 10] fun K hK => ?_
        simp
        first | refine hK _ _ ?_ | refine ⟨by omega, hK _ _ ?_⟩ | refine ⟨by omega, by omega, hK _ _ ?_⟩
        clear hK K
        by_cases hc : i < turns.length
        · refine AWp.cond (t := true) (by first | (simp [hc]; done) | (simp [hc]; omega)) (fun _ => ?_) (by simp)
          have hti := ht turns[i] (List.getElem_mem hc)
          have w3 : IntKind.i64.wrap turns[i] = turns[i] := wrap64 (by omega) (by omega)
          have w4 := kOf_then (n := lf.length) hc hti.1
          have hne : lf ≠ [] := by rintro rfl; simp at h
          refine AWp.goLast [0, 1, 5, 7, 8, 9, 10, 11, 12] [5, 7, 10] fun K hK => ?_
          simp [hc, w3, w4, hne]
          first | refine hK _ _ ?_ | refine ⟨by omega, hK _ _ ?_⟩ | refine ⟨by omega, by omega, hK _ _ ?_⟩
          clear hK K
          first | (simp [kOf_else hc]; done) | simp
        · refine AWp.cond (t := false) (by first | (simp [hc]; done) | (simp [hc]; omega)) (by simp) (fun _ => ?_)
          refine AWp.skip ?_
          first | (simp [kOf_else hc]; done) | simp
      refine AWp.stepT (.take 1 (.take 2 (.alt 0 (.alt 3 (.alt 4 (.alt 5 (.alt 6 (.take 7 (.take 8 (.take 9 (.alt 10 (.alt 11 (.take 12 .fin) .stop) .stop)))) (.alt 10 (.alt 6 (.take 7 (.take 8 (.take 9 (.alt 11 (.take 12 .fin) .stop)))) .stop) .stop)) (.alt 10 (.alt 5 (.alt 6 (.take 7 (.take 8 (.take 9 (.alt 11 (.take 12 .fin) .stop)))) .stop) .stop) .stop)) (.alt 10 (.alt 4 (.alt 5 (.alt 6 (.take 7 (.take 8 (.take 9 (.alt 11 (.take 12 .fin) .stop)))) .stop) .stop) .stop) .stop)) (.alt 10 (.alt 3 (.alt 4 (.alt 5 (.alt 6 (.take 7 (.take 8 (.take 9 (.alt 11 (.take 12 .fin) .stop)))) .stop) .stop) .stop) .stop) .stop)) (.alt 3 (.alt 0 (.alt 4 (.alt 5 (.alt 6 (.take 7 (.take 8 (.take 9 (.alt 10 (.alt 11 (.take 12 .fin) .stop) .stop)))) (.alt 10 (.alt 6 (.take 7 (.take 8 (.take 9 (.alt 11 (.take 12 .fin) .stop)))) .stop) .stop)) (.alt 10 (.alt 5 (.alt 6 (.take 7 (.take 8 (.take 9 (.alt 11 (.take 12 .fin) .stop)))) .stop) .stop) .stop)) (.alt 10 (.alt 4 (.alt 5 (.alt 6 (.take 7 (.take 8 (.take 9 (.alt 11 (.take 12 .fin) .stop)))) .stop) .stop) .stop) .stop)) (.alt 4 (.alt 0 (.alt 5 (.alt 6 (.take 7 (.take 8 (.take 9 (.alt 10 (.alt 11 (.take 12 .fin) .stop) .stop)))) (.alt 10 (.alt 6 (.take 7 (.take 8 (.take 9 (.alt 11 (.take 12 .fin) .stop)))) .stop) .stop)) (.alt 10 (.alt 5 (.alt 6 (.take 7 (.take 8 (.take 9 (.alt 11 (.take 12 .fin) .stop)))) .stop) .stop) .stop)) (.alt 5 (.alt 0 (.alt 6 (.take 7 (.take 8 (.take 9 (.alt 10 (.alt 11 (.take 12 .fin) .stop) .stop)))) (.alt 10 (.alt 6 (.take 7 (.take 8 (.take 9 (.alt 11 (.take 12 .fin) .stop)))) .stop) .stop)) (.alt 10 (.alt 0 (.alt 6 (.take 7 (.take 8 (.take 9 (.alt 11 (.take 12 .fin) .stop)))) .stop) .stop) .stop)) (.alt 10 (.alt 0 (.alt 5 (.alt 6 (.take 7 (.take 8 (.take 9 (.alt 11 (.take 12 .fin) .stop)))) .stop) .stop) (.alt 5 (.alt 0 (.alt 6 (.take 7 (.take 8 (.take 9 (.alt 11 (.take 12 .fin) .stop)))) .stop) .stop) .stop)) .stop))) (.alt 10 (.alt 0 (.alt 4 (.alt 5 (.alt 6 (.take 7 (.take 8 (.take 9 (.alt 11 (.take 12 .fin) .stop)))) .stop) .stop) .stop) (.alt 4 (.alt 0 (.alt 5 (.alt 6 (.take 7 (.take 8 (.take 9 (.alt 11 (.take 12 .fin) .stop)))) .stop) .stop) (.alt 5 (.alt 0 (.alt 6 (.take 7 (.take 8 (.take 9 (.alt 11 (.take 12 .fin) .stop)))) .stop) .stop) .stop)) .stop)) .stop))) (.alt 10 (.alt 0 (.alt 3 (.alt 4 (.alt 5 (.alt 6 (.take 7 (.take 8 (.take 9 (.alt 11 (.take 12 .fin) .stop)))) .stop) .stop) .stop) .stop) (.alt 3 (.alt 0 (.alt 4 (.alt 5 (.alt 6 (.take 7 (.take 8 (.take 9 (.alt 11 (.take 12 .fin) .stop)))) .stop) .stop) .stop) (.alt 4 (.alt 0 (.alt 5 (.alt 6 (.take 7 (.take 8 (.take 9 (.alt 11 (.take 12 .fin) .stop)))) .stop) .stop) (.alt 5 (.alt 0 (.alt 6 (.take 7 (.take 8 (.take 9 (.alt 11 (.take 12 .fin) .stop)))) .stop) .stop) .stop)) .stop)) .stop)) .stop))))) [0, 1, 5, 7, 8, 9, 10, 11, 12, 13, 14] [5, 7, 10, 13] [(0, .sl .fro 2 (dotsAV l)), (1, .sl .fro 1 (bytesAV turns)), (5, .ptr 5 0), (7, .ptr 7 0), (8, .i .i64 0), (9, .sl .own 2 (dotsAV lf)), (10, .ptr 10 0), (11, .i .i64 i), (12, .i .i64 (kOf turns i lf.length)), (13, .ptr 13 0), (14, .i .i64 0)] [(5, [.i .i64 d.1, .i .i64 d.2]), (7, [.sl .fro 1 (intsAV (l.foldl addD s0).upto), .sl .fro 2 (dotsAV (l.foldl addD s0).more)]), (10, [.sl .fro 1 (intsAV (dn.foldl addD s0).upto), .sl .fro 2 (dotsAV (dn.foldl addD s0).more)]), (13, [.sl .fro 1 (intsAV ((dn ++ [lf[kOf turns i lf.length]]).foldl addD s0).upto), .sl .fro 2 (dotsAV ((dn ++ [lf[kOf turns i lf.length]]).foldl addD s0).more)])] mix (by kernel_rfl) ?_ ?_
      · refine atree.tk fun K1 h1 => ?_
        simp
        first | refine h1 _ _ ?_ | refine ⟨by omega, h1 _ _ ?_⟩ | refine ⟨by omega, by omega, h1 _ _ ?_⟩
        clear h1 K1
        refine atree.tk fun K1 h1 => ?_
        simp
        first | refine h1 _ _ ?_ | refine ⟨by omega, h1 _ _ ?_⟩ | refine ⟨by omega, by omega, h1 _ _ ?_⟩
        clear h1 K1
        refine atree.al (fun K1 h1 => ?_) ?_
        · simp
          first | refine h1 _ _ ?_ | refine ⟨by omega, h1 _ _ ?_⟩ | refine ⟨by omega, by omega, h1 _ _ ?_⟩
          clear h1 K1
          refine atree.al (fun K1 h1 => ?_) ?_
          · simp [hk]
            first | refine h1 _ _ ?_ | refine ⟨by omega, h1 _ _ ?_⟩ | refine ⟨by omega, by omega, h1 _ _ ?_⟩
            clear h1 K1
            refine atree.al (fun K1 h1 => ?_) ?_
            · simp
              first | refine h1 _ _ ?_ | refine ⟨by omega, h1 _ _ ?_⟩ | refine ⟨by omega, by omega, h1 _ _ ?_⟩
              clear h1 K1
              refine atree.al (fun K1 h1 => ?_) ?_
              · simp
                first | refine h1 _ _ ?_ | refine ⟨by omega, h1 _ _ ?_⟩ | refine ⟨by omega, by omega, h1 _ _ ?_⟩
                clear h1 K1
                refine atree.al (fun K1 h1 => ?_) ?_
                · simp
                  refine call_pure (c_dots_Add (dn.foldl addD s0) [lf[kOf turns i lf.length]] (by omega) (by omega) (by simp)) (by simp [seenC]) ?_
                  rw [hx1, hx2]
                  simp [seenC]
                  first | refine h1 _ _ ?_ | refine ⟨by omega, h1 _ _ ?_⟩ | refine ⟨by omega, by omega, h1 _ _ ?_⟩
                  clear h1 K1
                  refine atree.tk fun K1 h1 => ?_
                  simp
                  first | refine h1 _ _ ?_ | refine ⟨by omega, h1 _ _ ?_⟩ | refine ⟨by omega, by omega, h1 _ _ ?_⟩
                  clear h1 K1
                  refine atree.tk fun K1 h1 => ?_
                  simp
                  first | refine h1 _ _ ?_ | refine ⟨by omega, h1 _ _ ?_⟩ | refine ⟨by omega, by omega, h1 _ _ ?_⟩
                  clear h1 K1
                  refine atree.tk fun K1 h1 => ?_
                  simp
                  first | refine h1 _ _ ?_ | refine ⟨by omega, h1 _ _ ?_⟩ | refine ⟨by omega, by omega, h1 _ _ ?_⟩
                  clear h1 K1
                  refine atree.a1 fun K1 h1 => ?_
                  simp
                  first | refine h1 _ _ ?_ | refine ⟨by omega, h1 _ _ ?_⟩ | refine ⟨by omega, by omega, h1 _ _ ?_⟩
                  clear h1 K1
                  refine atree.a1 fun K1 h1 => ?_
                  simp
                  first | refine h1 _ _ ?_ | refine ⟨by omega, h1 _ _ ?_⟩ | refine ⟨by omega, by omega, h1 _ _ ?_⟩
                  clear h1 K1
                  refine atree.tk fun K1 h1 => ?_
                  simp
                  first | refine h1 _ _ ?_ | refine ⟨by omega, h1 _ _ ?_⟩ | refine ⟨by omega, by omega, h1 _ _ ?_⟩
                  clear h1 K1
                  simp
                · refine atree.a1 fun K1 h1 => ?_
                  simp
                  first | refine h1 _ _ ?_ | refine ⟨by omega, h1 _ _ ?_⟩ | refine ⟨by omega, by omega, h1 _ _ ?_⟩
                  clear h1 K1
                  refine atree.a1 fun K1 h1 => ?_
                  simp
                  refine call_pure (c_dots_Add (dn.foldl addD s0) [lf[kOf turns i lf.length]] (by omega) (by omega) (by simp)) (by simp [seenC]) ?_
                  rw [hx1, hx2]
                  simp [seenC]
                  first | refine h1 _ _ ?_ | refine ⟨by omega, h1 _ _ ?_⟩ | refine ⟨by omega, by omega, h1 _ _ ?_⟩
                  clear h1 K1
                  refine atree.tk fun K1 h1 => ?_
                  simp
                  first | refine h1 _ _ ?_ | refine ⟨by omega, h1 _ _ ?_⟩ | refine ⟨by omega, by omega, h1 _ _ ?_⟩
                  clear h1 K1
                  refine atree.tk fun K1 h1 => ?_
                  simp
                  first | refine h1 _ _ ?_ | refine ⟨by omega, h1 _ _ ?_⟩ | refine ⟨by omega, by omega, h1 _ _ ?_⟩
                  clear h1 K1
                  refine atree.tk fun K1 h1 => ?_
                  simp
                  first | refine h1 _ _ ?_ | refine ⟨by omega, h1 _ _ ?_⟩ | refine ⟨by omega, by omega, h1 _ _ ?_⟩
                  clear h1 K1
                  refine atree.a1 fun K1 h1 => ?_
                  simp
                  first | refine h1 _ _ ?_ | refine ⟨by omega, h1 _ _ ?_⟩ | refine ⟨by omega, by omega, h1 _ _ ?_⟩
                  clear h1 K1
                  refine atree.tk fun K1 h1 => ?_
                  simp
                  first | refine h1 _ _ ?_ | refine ⟨by omega, h1 _ _ ?_⟩ | refine ⟨by omega, by omega, h1 _ _ ?_⟩
                  clear h1 K1
                  simp
              · refine atree.a1 fun K1 h1 => ?_
                simp
                first | refine h1 _ _ ?_ | refine ⟨by omega, h1 _ _ ?_⟩ | refine ⟨by omega, by omega, h1 _ _ ?_⟩
                clear h1 K1
                refine atree.a1 fun K1 h1 => ?_
                simp
                first | refine h1 _ _ ?_ | refine ⟨by omega, h1 _ _ ?_⟩ | refine ⟨by omega, by omega, h1 _ _ ?_⟩
                clear h1 K1
                refine atree.a1 fun K1 h1 => ?_
                simp
                refine call_pure (c_dots_Add (dn.foldl addD s0) [lf[kOf turns i lf.length]] (by omega) (by omega) (by simp)) (by simp [seenC]) ?_
                rw [hx1, hx2]
                simp [seenC]
                first | refine h1 _ _ ?_ | refine ⟨by omega, h1 _ _ ?_⟩ | refine ⟨by omega, by omega, h1 _ _ ?_⟩
                clear h1 K1
                refine atree.tk fun K1 h1 => ?_
                simp
                first | refine h1 _ _ ?_ | refine ⟨by omega, h1 _ _ ?_⟩ | refine ⟨by omega, by omega, h1 _ _ ?_⟩
                clear h1 K1
                refine atree.tk fun K1 h1 => ?_
                simp
                first | refine h1 _ _ ?_ | refine ⟨by omega, h1 _ _ ?_⟩ | refine ⟨by omega, by omega, h1 _ _ ?_⟩
                clear h1 K1
                refine atree.tk fun K1 h1 => ?_
                simp
                first | refine h1 _ _ ?_ | refine ⟨by omega, h1 _ _ ?_⟩ | refine ⟨by omega, by omega, h1 _ _ ?_⟩
                clear h1 K1
                refine atree.a1 fun K1 h1 => ?_
                simp
                first | refine h1 _ _ ?_ | refine ⟨by omega, h1 _ _ ?_⟩ | refine ⟨by omega, by omega, h1 _ _ ?_⟩
                clear h1 K1
                refine atree.tk fun K1 h1 => ?_
                simp
                first | refine h1 _ _ ?_ | refine ⟨by omega, h1 _ _ ?_⟩ | refine ⟨by omega, by omega, h1 _ _ ?_⟩
                clear h1 K1
                simp
            · refine atree.a1 fun K1 h1 => ?_
              simp
              first | refine h1 _ _ ?_ | refine ⟨by omega, h1 _ _ ?_⟩ | refine ⟨by omega, by omega, h1 _ _ ?_⟩
              clear h1 K1
              refine atree.a1 fun K1 h1 => ?_
              simp
              first | refine h1 _ _ ?_ | refine ⟨by omega, h1 _ _ ?_⟩ | refine ⟨by omega, by omega, h1 _ _ ?_⟩
              clear h1 K1
              refine atree.a1 fun K1 h1 => ?_
              simp
              first | refine h1 _ _ ?_ | refine ⟨by omega, h1 _ _ ?_⟩ | refine ⟨by omega, by omega, h1 _ _ ?_⟩
              clear h1 K1
              refine atree.a1 fun K1 h1 => ?_
              simp
              refine call_pure (c_dots_Add (dn.foldl addD s0) [lf[kOf turns i lf.length]] (by omega) (by omega) (by simp)) (by simp [seenC]) ?_
              rw [hx1, hx2]
              simp [seenC]
              first | refine h1 _ _ ?_ | refine ⟨by omega, h1 _ _ ?_⟩ | refine ⟨by omega, by omega, h1 _ _ ?_⟩
              clear h1 K1
              refine atree.tk fun K1 h1 => ?_
              simp
              first | refine h1 _ _ ?_ | refine ⟨by omega, h1 _ _ ?_⟩ | refine ⟨by omega, by omega, h1 _ _ ?_⟩
              clear h1 K1
              refine atree.tk fun K1 h1 => ?_
              simp
              first | refine h1 _ _ ?_ | refine ⟨by omega, h1 _ _ ?_⟩ | refine ⟨by omega, by omega, h1 _ _ ?_⟩
              clear h1 K1
              refine atree.tk fun K1 h1 => ?_
              simp
              first | refine h1 _ _ ?_ | refine ⟨by omega, h1 _ _ ?_⟩ | refine ⟨by omega, by omega, h1 _ _ ?_⟩
              clear h1 K1
              refine atree.a1 fun K1 h1 => ?_
              simp
              first | refine h1 _ _ ?_ | refine ⟨by omega, h1 _ _ ?_⟩ | refine ⟨by omega, by omega, h1 _ _ ?_⟩
              clear h1 K1
              refine atree.tk fun K1 h1 => ?_
              simp
              first | refine h1 _ _ ?_ | refine ⟨by omega, h1 _ _ ?_⟩ | refine ⟨by omega, by omega, h1 _ _ ?_⟩
              clear h1 K1
              simp
          · refine atree.a1 fun K1 h1 => ?_
            simp
            first | refine h1 _ _ ?_ | refine ⟨by omega, h1 _ _ ?_⟩ | refine ⟨by omega, by omega, h1 _ _ ?_⟩
            clear h1 K1
            refine atree.a1 fun K1 h1 => ?_
            simp [hk]
            first | refine h1 _ _ ?_ | refine ⟨by omega, h1 _ _ ?_⟩ | refine ⟨by omega, by omega, h1 _ _ ?_⟩
            clear h1 K1
            refine atree.a1 fun K1 h1 => ?_
            simp
            first | refine h1 _ _ ?_ | refine ⟨by omega, h1 _ _ ?_⟩ | refine ⟨by omega, by omega, h1 _ _ ?_⟩
            clear h1 K1
            refine atree.a1 fun K1 h1 => ?_
            simp
            first | refine h1 _ _ ?_ | refine ⟨by omega, h1 _ _ ?_⟩ | refine ⟨by omega, by omega, h1 _ _ ?_⟩
            clear h1 K1
            refine atree.a1 fun K1 h1 => ?_
            simp
            refine call_pure (c_dots_Add (dn.foldl addD s0) [lf[kOf turns i lf.length]] (by omega) (by omega) (by simp)) (by simp [seenC]) ?_
            rw [hx1, hx2]
            simp [seenC]
            first | refine h1 _ _ ?_ | refine ⟨by omega, h1 _ _ ?_⟩ | refine ⟨by omega, by omega, h1 _ _ ?_⟩
            clear h1 K1
            refine atree.tk fun K1 h1 => ?_
            simp
            first | refine h1 _ _ ?_ | refine ⟨by omega, h1 _ _ ?_⟩ | refine ⟨by omega, by omega, h1 _ _ ?_⟩
            clear h1 K1
            refine atree.tk fun K1 h1 => ?_
            simp
            first | refine h1 _ _ ?_ | refine ⟨by omega, h1 _ _ ?_⟩ | refine ⟨by omega, by omega, h1 _ _ ?_⟩
            clear h1 K1
            refine atree.tk fun K1 h1 => ?_
            simp
            first | refine h1 _ _ ?_ | refine ⟨by omega, h1 _ _ ?_⟩ | refine ⟨by omega, by omega, h1 _ _ ?_⟩
            clear h1 K1
            refine atree.a1 fun K1 h1 => ?_
            simp
            first | refine h1 _ _ ?_ | refine ⟨by omega, h1 _ _ ?_⟩ | refine ⟨by omega, by omega, h1 _ _ ?_⟩
            clear h1 K1
            refine atree.tk fun K1 h1 => ?_
            simp
            first | refine h1 _ _ ?_ | refine ⟨by omega, h1 _ _ ?_⟩ | refine ⟨by omega, by omega, h1 _ _ ?_⟩
            clear h1 K1
            simp
        · refine atree.al (fun K1 h1 => ?_) ?_
          · simp [hk]
            first | refine h1 _ _ ?_ | refine ⟨by omega, h1 _ _ ?_⟩ | refine ⟨by omega, by omega, h1 _ _ ?_⟩
            clear h1 K1
            refine atree.al (fun K1 h1 => ?_) ?_
            · simp
              first | refine h1 _ _ ?_ | refine ⟨by omega, h1 _ _ ?_⟩ | refine ⟨by omega, by omega, h1 _ _ ?_⟩
              clear h1 K1
              refine atree.al (fun K1 h1 => ?_) ?_
              · simp
                first | refine h1 _ _ ?_ | refine ⟨by omega, h1 _ _ ?_⟩ | refine ⟨by omega, by omega, h1 _ _ ?_⟩
                clear h1 K1
                refine atree.al (fun K1 h1 => ?_) ?_
                · simp
                  first | refine h1 _ _ ?_ | refine ⟨by omega, h1 _ _ ?_⟩ | refine ⟨by omega, by omega, h1 _ _ ?_⟩
                  clear h1 K1
                  refine atree.al (fun K1 h1 => ?_) ?_
                  · simp
                    refine call_pure (c_dots_Add (dn.foldl addD s0) [lf[kOf turns i lf.length]] (by omega) (by omega) (by simp)) (by simp [seenC]) ?_
                    rw [hx1, hx2]
                    simp [seenC]
                    first | refine h1 _ _ ?_ | refine ⟨by omega, h1 _ _ ?_⟩ | refine ⟨by omega, by omega, h1 _ _ ?_⟩
                    clear h1 K1
                    refine atree.tk fun K1 h1 => ?_
                    simp
                    first | refine h1 _ _ ?_ | refine ⟨by omega, h1 _ _ ?_⟩ | refine ⟨by omega, by omega, h1 _ _ ?_⟩
                    clear h1 K1
                    refine atree.tk fun K1 h1 => ?_
                    simp
                    first | refine h1 _ _ ?_ | refine ⟨by omega, h1 _ _ ?_⟩ | refine ⟨by omega, by omega, h1 _ _ ?_⟩
                    clear h1 K1
                    refine atree.tk fun K1 h1 => ?_
                    simp
                    first | refine h1 _ _ ?_ | refine ⟨by omega, h1 _ _ ?_⟩ | refine ⟨by omega, by omega, h1 _ _ ?_⟩
                    clear h1 K1
                    refine atree.a1 fun K1 h1 => ?_
                    simp
                    first | refine h1 _ _ ?_ | refine ⟨by omega, h1 _ _ ?_⟩ | refine ⟨by omega, by omega, h1 _ _ ?_⟩
                    clear h1 K1
                    refine atree.a1 fun K1 h1 => ?_
                    simp
                    first | refine h1 _ _ ?_ | refine ⟨by omega, h1 _ _ ?_⟩ | refine ⟨by omega, by omega, h1 _ _ ?_⟩
                    clear h1 K1
                    refine atree.tk fun K1 h1 => ?_
                    simp
                    first | refine h1 _ _ ?_ | refine ⟨by omega, h1 _ _ ?_⟩ | refine ⟨by omega, by omega, h1 _ _ ?_⟩
                    clear h1 K1
                    simp
                  · refine atree.a1 fun K1 h1 => ?_
                    simp
                    first | refine h1 _ _ ?_ | refine ⟨by omega, h1 _ _ ?_⟩ | refine ⟨by omega, by omega, h1 _ _ ?_⟩
                    clear h1 K1
                    refine atree.a1 fun K1 h1 => ?_
                    simp
                    refine call_pure (c_dots_Add (dn.foldl addD s0) [lf[kOf turns i lf.length]] (by omega) (by omega) (by simp)) (by simp [seenC]) ?_
                    rw [hx1, hx2]
                    simp [seenC]
                    first | refine h1 _ _ ?_ | refine ⟨by omega, h1 _ _ ?_⟩ | refine ⟨by omega, by omega, h1 _ _ ?_⟩
                    clear h1 K1
                    refine atree.tk fun K1 h1 => ?_
                    simp
                    first | refine h1 _ _ ?_ | refine ⟨by omega, h1 _ _ ?_⟩ | refine ⟨by omega, by omega, h1 _ _ ?_⟩
                    clear h1 K1
                    refine atree.tk fun K1 h1 => ?_
                    simp
                    first | refine h1 _ _ ?_ | refine ⟨by omega, h1 _ _ ?_⟩ | refine ⟨by omega, by omega, h1 _ _ ?_⟩
                    clear h1 K1
                    refine atree.tk fun K1 h1 => ?_
                    simp
                    first | refine h1 _ _ ?_ | refine ⟨by omega, h1 _ _ ?_⟩ | refine ⟨by omega, by omega, h1 _ _ ?_⟩
                    clear h1 K1
                    refine atree.a1 fun K1 h1 => ?_
                    simp
                    first | refine h1 _ _ ?_ | refine ⟨by omega, h1 _ _ ?_⟩ | refine ⟨by omega, by omega, h1 _ _ ?_⟩
                    clear h1 K1
                    refine atree.tk fun K1 h1 => ?_
                    simp
                    first | refine h1 _ _ ?_ | refine ⟨by omega, h1 _ _ ?_⟩ | refine ⟨by omega, by omega, h1 _ _ ?_⟩
                    clear h1 K1
                    simp
                · refine atree.a1 fun K1 h1 => ?_
                  simp
                  first | refine h1 _ _ ?_ | refine ⟨by omega, h1 _ _ ?_⟩ | refine ⟨by omega, by omega, h1 _ _ ?_⟩
                  clear h1 K1
                  refine atree.a1 fun K1 h1 => ?_
                  simp
                  first | refine h1 _ _ ?_ | refine ⟨by omega, h1 _ _ ?_⟩ | refine ⟨by omega, by omega, h1 _ _ ?_⟩
                  clear h1 K1
                  refine atree.a1 fun K1 h1 => ?_
                  simp
                  refine call_pure (c_dots_Add (dn.foldl addD s0) [lf[kOf turns i lf.length]] (by omega) (by omega) (by simp)) (by simp [seenC]) ?_
                  rw [hx1, hx2]
                  simp [seenC]
                  first | refine h1 _ _ ?_ | refine ⟨by omega, h1 _ _ ?_⟩ | refine ⟨by omega, by omega, h1 _ _ ?_⟩
                  clear h1 K1
                  refine atree.tk fun K1 h1 => ?_
                  simp
                  first | refine h1 _ _ ?_ | refine ⟨by omega, h1 _ _ ?_⟩ | refine ⟨by omega, by omega, h1 _ _ ?_⟩
                  clear h1 K1
                  refine atree.tk fun K1 h1 => ?_
                  simp
                  first | refine h1 _ _ ?_ | refine ⟨by omega, h1 _ _ ?_⟩ | refine ⟨by omega, by omega, h1 _ _ ?_⟩
                  clear h1 K1
                  refine atree.tk fun K1 h1 => ?_
                  simp
                  first | refine h1 _ _ ?_ | refine ⟨by omega, h1 _ _ ?_⟩ | refine ⟨by omega, by omega, h1 _ _ ?_⟩
                  clear h1 K1
                  refine atree.a1 fun K1 h1 => ?_
                  simp
                  first | refine h1 _ _ ?_ | refine ⟨by omega, h1 _ _ ?_⟩ | refine ⟨by omega, by omega, h1 _ _ ?_⟩
                  clear h1 K1
                  refine atree.tk fun K1 h1 => ?_
                  simp
                  first | refine h1 _ _ ?_ | refine ⟨by omega, h1 _ _ ?_⟩ | refine ⟨by omega, by omega, h1 _ _ ?_⟩
                  clear h1 K1
                  simp
              · refine atree.a1 fun K1 h1 => ?_
                simp
                first | refine h1 _ _ ?_ | refine ⟨by omega, h1 _ _ ?_⟩ | refine ⟨by omega, by omega, h1 _ _ ?_⟩
                clear h1 K1
                refine atree.a1 fun K1 h1 => ?_
                simp
                first | refine h1 _ _ ?_ | refine ⟨by omega, h1 _ _ ?_⟩ | refine ⟨by omega, by omega, h1 _ _ ?_⟩
                clear h1 K1
                refine atree.a1 fun K1 h1 => ?_
                simp
                first | refine h1 _ _ ?_ | refine ⟨by omega, h1 _ _ ?_⟩ | refine ⟨by omega, by omega, h1 _ _ ?_⟩
                clear h1 K1
                refine atree.a1 fun K1 h1 => ?_
                simp
                refine call_pure (c_dots_Add (dn.foldl addD s0) [lf[kOf turns i lf.length]] (by omega) (by omega) (by simp)) (by simp [seenC]) ?_
                rw [hx1, hx2]
                simp [seenC]
                first | refine h1 _ _ ?_ | refine ⟨by omega, h1 _ _ ?_⟩ | refine ⟨by omega, by omega, h1 _ _ ?_⟩
                clear h1 K1
                refine atree.tk fun K1 h1 => ?_
                simp
                first | refine h1 _ _ ?_ | refine ⟨by omega, h1 _ _ ?_⟩ | refine ⟨by omega, by omega, h1 _ _ ?_⟩
                clear h1 K1
                refine atree.tk fun K1 h1 => ?_
                simp
                first | refine h1 _ _ ?_ | refine ⟨by omega, h1 _ _ ?_⟩ | refine ⟨by omega, by omega, h1 _ _ ?_⟩
                clear h1 K1
                refine atree.tk fun K1 h1 => ?_
                simp
                first | refine h1 _ _ ?_ | refine ⟨by omega, h1 _ _ ?_⟩ | refine ⟨by omega, by omega, h1 _ _ ?_⟩
                clear h1 K1
                refine atree.a1 fun K1 h1 => ?_
                simp
                first | refine h1 _ _ ?_ | refine ⟨by omega, h1 _ _ ?_⟩ | refine ⟨by omega, by omega, h1 _ _ ?_⟩
                clear h1 K1
                refine atree.tk fun K1 h1 => ?_
                simp
                first | refine h1 _ _ ?_ | refine ⟨by omega, h1 _ _ ?_⟩ | refine ⟨by omega, by omega, h1 _ _ ?_⟩
                clear h1 K1
                simp
            · refine atree.al (fun K1 h1 => ?_) ?_
              · simp
                first | refine h1 _ _ ?_ | refine ⟨by omega, h1 _ _ ?_⟩ | refine ⟨by omega, by omega, h1 _ _ ?_⟩
                clear h1 K1
                refine atree.al (fun K1 h1 => ?_) ?_
                · simp
                  first | refine h1 _ _ ?_ | refine ⟨by omega, h1 _ _ ?_⟩ | refine ⟨by omega, by omega, h1 _ _ ?_⟩
                  clear h1 K1
                  refine atree.al (fun K1 h1 => ?_) ?_
                  · simp
                    first | refine h1 _ _ ?_ | refine ⟨by omega, h1 _ _ ?_⟩ | refine ⟨by omega, by omega, h1 _ _ ?_⟩
                    clear h1 K1
                    refine atree.al (fun K1 h1 => ?_) ?_
                    · simp
                      refine call_pure (c_dots_Add (dn.foldl addD s0) [lf[kOf turns i lf.length]] (by omega) (by omega) (by simp)) (by simp [seenC]) ?_
                      rw [hx1, hx2]
                      simp [seenC]
                      first | refine h1 _ _ ?_ | refine ⟨by omega, h1 _ _ ?_⟩ | refine ⟨by omega, by omega, h1 _ _ ?_⟩
                      clear h1 K1
                      refine atree.tk fun K1 h1 => ?_
                      simp
                      first | refine h1 _ _ ?_ | refine ⟨by omega, h1 _ _ ?_⟩ | refine ⟨by omega, by omega, h1 _ _ ?_⟩
                      clear h1 K1
                      refine atree.tk fun K1 h1 => ?_
                      simp
                      first | refine h1 _ _ ?_ | refine ⟨by omega, h1 _ _ ?_⟩ | refine ⟨by omega, by omega, h1 _ _ ?_⟩
                      clear h1 K1
                      refine atree.tk fun K1 h1 => ?_
                      simp
                      first | refine h1 _ _ ?_ | refine ⟨by omega, h1 _ _ ?_⟩ | refine ⟨by omega, by omega, h1 _ _ ?_⟩
                      clear h1 K1
                      refine atree.a1 fun K1 h1 => ?_
                      simp
                      first | refine h1 _ _ ?_ | refine ⟨by omega, h1 _ _ ?_⟩ | refine ⟨by omega, by omega, h1 _ _ ?_⟩
                      clear h1 K1
                      refine atree.a1 fun K1 h1 => ?_
                      simp
                      first | refine h1 _ _ ?_ | refine ⟨by omega, h1 _ _ ?_⟩ | refine ⟨by omega, by omega, h1 _ _ ?_⟩
                      clear h1 K1
                      refine atree.tk fun K1 h1 => ?_
                      simp
                      first | refine h1 _ _ ?_ | refine ⟨by omega, h1 _ _ ?_⟩ | refine ⟨by omega, by omega, h1 _ _ ?_⟩
                      clear h1 K1
                      simp
                    · refine atree.a1 fun K1 h1 => ?_
                      simp
                      first | refine h1 _ _ ?_ | refine ⟨by omega, h1 _ _ ?_⟩ | refine ⟨by omega, by omega, h1 _ _ ?_⟩
                      clear h1 K1
                      refine atree.a1 fun K1 h1 => ?_
                      simp
                      refine call_pure (c_dots_Add (dn.foldl addD s0) [lf[kOf turns i lf.length]] (by omega) (by omega) (by simp)) (by simp [seenC]) ?_
                      rw [hx1, hx2]
                      simp [seenC]
                      first | refine h1 _ _ ?_ | refine ⟨by omega, h1 _ _ ?_⟩ | refine ⟨by omega, by omega, h1 _ _ ?_⟩
                      clear h1 K1
                      refine atree.tk fun K1 h1 => ?_
                      simp
                      first | refine h1 _ _ ?_ | refine ⟨by omega, h1 _ _ ?_⟩ | refine ⟨by omega, by omega, h1 _ _ ?_⟩
                      clear h1 K1
                      refine atree.tk fun K1 h1 => ?_
                      simp
                      first | refine h1 _ _ ?_ | refine ⟨by omega, h1 _ _ ?_⟩ | refine ⟨by omega, by omega, h1 _ _ ?_⟩
                      clear h1 K1
                      refine atree.tk fun K1 h1 => ?_
                      simp
                      first | refine h1 _ _ ?_ | refine ⟨by omega, h1 _ _ ?_⟩ | refine ⟨by omega, by omega, h1 _ _ ?_⟩
                      clear h1 K1
                      refine atree.a1 fun K1 h1 => ?_
                      simp
                      first | refine h1 _ _ ?_ | refine ⟨by omega, h1 _ _ ?_⟩ | refine ⟨by omega, by omega, h1 _ _ ?_⟩
                      clear h1 K1
                      refine atree.tk fun K1 h1 => ?_
                      simp
                      first | refine h1 _ _ ?_ | refine ⟨by omega, h1 _ _ ?_⟩ | refine ⟨by omega, by omega, h1 _ _ ?_⟩
                      clear h1 K1
                      simp
                  · refine atree.a1 fun K1 h1 => ?_
                    simp
                    first | refine h1 _ _ ?_ | refine ⟨by omega, h1 _ _ ?_⟩ | refine ⟨by omega, by omega, h1 _ _ ?_⟩
                    clear h1 K1
                    refine atree.a1 fun K1 h1 => ?_
                    simp
                    first | refine h1 _ _ ?_ | refine ⟨by omega, h1 _ _ ?_⟩ | refine ⟨by omega, by omega, h1 _ _ ?_⟩
                    clear h1 K1
                    refine atree.a1 fun K1 h1 => ?_
                    simp
                    refine call_pure (c_dots_Add (dn.foldl addD s0) [lf[kOf turns i lf.length]] (by omega) (by omega) (by simp)) (by simp [seenC]) ?_
                    rw [hx1, hx2]
                    simp [seenC]
                    first | refine h1 _ _ ?_ | refine ⟨by omega, h1 _ _ ?_⟩ | refine ⟨by omega, by omega, h1 _ _ ?_⟩
                    clear h1 K1
                    refine atree.tk fun K1 h1 => ?_
                    simp
                    first | refine h1 _ _ ?_ | refine ⟨by omega, h1 _ _ ?_⟩ | refine ⟨by omega, by omega, h1 _ _ ?_⟩
                    clear h1 K1
                    refine atree.tk fun K1 h1 => ?_
                    simp
                    first | refine h1 _ _ ?_ | refine ⟨by omega, h1 _ _ ?_⟩ | refine ⟨by omega, by omega, h1 _ _ ?_⟩
                    clear h1 K1
                    refine atree.tk fun K1 h1 => ?_
                    simp
                    first | refine h1 _ _ ?_ | refine ⟨by omega, h1 _ _ ?_⟩ | refine ⟨by omega, by omega, h1 _ _ ?_⟩
                    clear h1 K1
                    refine atree.a1 fun K1 h1 => ?_
                    simp
                    first | refine h1 _ _ ?_ | refine ⟨by omega, h1 _ _ ?_⟩ | refine ⟨by omega, by omega, h1 _ _ ?_⟩
                    clear h1 K1
                    refine atree.tk fun K1 h1 => ?_
                    simp
                    first | refine h1 _ _ ?_ | refine ⟨by omega, h1 _ _ ?_⟩ | refine ⟨by omega, by omega, h1 _ _ ?_⟩
                    clear h1 K1
                    simp
                · refine atree.al (fun K1 h1 => ?_) ?_
                  · simp
                    first | refine h1 _ _ ?_ | refine ⟨by omega, h1 _ _ ?_⟩ | refine ⟨by omega, by omega, h1 _ _ ?_⟩
                    clear h1 K1
                    refine atree.al (fun K1 h1 => ?_) ?_
                    · simp
                      first | refine h1 _ _ ?_ | refine ⟨by omega, h1 _ _ ?_⟩ | refine ⟨by omega, by omega, h1 _ _ ?_⟩
                      clear h1 K1
                      refine atree.al (fun K1 h1 => ?_) ?_
                      · simp
                        refine call_pure (c_dots_Add (dn.foldl addD s0) [lf[kOf turns i lf.length]] (by omega) (by omega) (by simp)) (by simp [seenC]) ?_
                        rw [hx1, hx2]
                        simp [seenC]
                        first | refine h1 _ _ ?_ | refine ⟨by omega, h1 _ _ ?_⟩ | refine ⟨by omega, by omega, h1 _ _ ?_⟩
                        clear h1 K1
                        refine atree.tk fun K1 h1 => ?_
                        simp
                        first | refine h1 _ _ ?_ | refine ⟨by omega, h1 _ _ ?_⟩ | refine ⟨by omega, by omega, h1 _ _ ?_⟩
                        clear h1 K1
                        refine atree.tk fun K1 h1 => ?_
                        simp
                        first | refine h1 _ _ ?_ | refine ⟨by omega, h1 _ _ ?_⟩ | refine ⟨by omega, by omega, h1 _ _ ?_⟩
                        clear h1 K1
                        refine atree.tk fun K1 h1 => ?_
                        simp
                        first | refine h1 _ _ ?_ | refine ⟨by omega, h1 _ _ ?_⟩ | refine ⟨by omega, by omega, h1 _ _ ?_⟩
                        clear h1 K1
                        refine atree.a1 fun K1 h1 => ?_
                        simp
                        first | refine h1 _ _ ?_ | refine ⟨by omega, h1 _ _ ?_⟩ | refine ⟨by omega, by omega, h1 _ _ ?_⟩
                        clear h1 K1
                        refine atree.a1 fun K1 h1 => ?_
                        simp
                        first | refine h1 _ _ ?_ | refine ⟨by omega, h1 _ _ ?_⟩ | refine ⟨by omega, by omega, h1 _ _ ?_⟩
                        clear h1 K1
                        refine atree.tk fun K1 h1 => ?_
                        simp
                        first | refine h1 _ _ ?_ | refine ⟨by omega, h1 _ _ ?_⟩ | refine ⟨by omega, by omega, h1 _ _ ?_⟩
                        clear h1 K1
                        simp
                      · refine atree.a1 fun K1 h1 => ?_
                        simp
                        first | refine h1 _ _ ?_ | refine ⟨by omega, h1 _ _ ?_⟩ | refine ⟨by omega, by omega, h1 _ _ ?_⟩
                        clear h1 K1
                        refine atree.a1 fun K1 h1 => ?_
                        simp
                        refine call_pure (c_dots_Add (dn.foldl addD s0) [lf[kOf turns i lf.length]] (by omega) (by omega) (by simp)) (by simp [seenC]) ?_
                        rw [hx1, hx2]
                        simp [seenC]
                        first | refine h1 _ _ ?_ | refine ⟨by omega, h1 _ _ ?_⟩ | refine ⟨by omega, by omega, h1 _ _ ?_⟩
                        clear h1 K1
                        refine atree.tk fun K1 h1 => ?_
                        simp
                        first | refine h1 _ _ ?_ | refine ⟨by omega, h1 _ _ ?_⟩ | refine ⟨by omega, by omega, h1 _ _ ?_⟩
                        clear h1 K1
                        refine atree.tk fun K1 h1 => ?_
                        simp
                        first | refine h1 _ _ ?_ | refine ⟨by omega, h1 _ _ ?_⟩ | refine ⟨by omega, by omega, h1 _ _ ?_⟩
                        clear h1 K1
                        refine atree.tk fun K1 h1 => ?_
                        simp
                        first | refine h1 _ _ ?_ | refine ⟨by omega, h1 _ _ ?_⟩ | refine ⟨by omega, by omega, h1 _ _ ?_⟩
                        clear h1 K1
                        refine atree.a1 fun K1 h1 => ?_
                        simp
                        first | refine h1 _ _ ?_ | refine ⟨by omega, h1 _ _ ?_⟩ | refine ⟨by omega, by omega, h1 _ _ ?_⟩
                        clear h1 K1
                        refine atree.tk fun K1 h1 => ?_
                        simp
                        first | refine h1 _ _ ?_ | refine ⟨by omega, h1 _ _ ?_⟩ | refine ⟨by omega, by omega, h1 _ _ ?_⟩
                        clear h1 K1
                        simp
                    · refine atree.a1 fun K1 h1 => ?_
                      simp
                      first | refine h1 _ _ ?_ | refine ⟨by omega, h1 _ _ ?_⟩ | refine ⟨by omega, by omega, h1 _ _ ?_⟩
                      clear h1 K1
                      refine atree.a1 fun K1 h1 => ?_
                      simp
                      first | refine h1 _ _ ?_ | refine ⟨by omega, h1 _ _ ?_⟩ | refine ⟨by omega, by omega, h1 _ _ ?_⟩
                      clear h1 K1
                      refine atree.a1 fun K1 h1 => ?_
                      simp
                      refine call_pure (c_dots_Add (dn.foldl addD s0) [lf[kOf turns i lf.length]] (by omega) (by omega) (by simp)) (by simp [seenC]) ?_
                      rw [hx1, hx2]
                      simp [seenC]
                      first | refine h1 _ _ ?_ | refine ⟨by omega, h1 _ _ ?_⟩ | refine ⟨by omega, by omega, h1 _ _ ?_⟩
                      clear h1 K1
                      refine atree.tk fun K1 h1 => ?_
                      simp
                      first | refine h1 _ _ ?_ | refine ⟨by omega, h1 _ _ ?_⟩ | refine ⟨by omega, by omega, h1 _ _ ?_⟩
                      clear h1 K1
                      refine atree.tk fun K1 h1 => ?_
                      simp
                      first | refine h1 _ _ ?_ | refine ⟨by omega, h1 _ _ ?_⟩ | refine ⟨by omega, by omega, h1 _ _ ?_⟩
                      clear h1 K1
                      refine atree.tk fun K1 h1 => ?_
                      simp
                      first | refine h1 _ _ ?_ | refine ⟨by omega, h1 _ _ ?_⟩ | refine ⟨by omega, by omega, h1 _ _ ?_⟩
                      clear h1 K1
                      refine atree.a1 fun K1 h1 => ?_
                      simp
                      first | refine h1 _ _ ?_ | refine ⟨by omega, h1 _ _ ?_⟩ | refine ⟨by omega, by omega, h1 _ _ ?_⟩
                      clear h1 K1
                      refine atree.tk fun K1 h1 => ?_
                      simp
                      first | refine h1 _ _ ?_ | refine ⟨by omega, h1 _ _ ?_⟩ | refine ⟨by omega, by omega, h1 _ _ ?_⟩
                      clear h1 K1
                      simp
                  · refine atree.a1 fun K1 h1 => ?_
                    simp
                    first | refine h1 _ _ ?_ | refine ⟨by omega, h1 _ _ ?_⟩ | refine ⟨by omega, by omega, h1 _ _ ?_⟩
                    clear h1 K1
                    refine atree.al (fun K1 h1 => ?_) ?_
                    · simp
                      first | refine h1 _ _ ?_ | refine ⟨by omega, h1 _ _ ?_⟩ | refine ⟨by omega, by omega, h1 _ _ ?_⟩
                      clear h1 K1
                      refine atree.a1 fun K1 h1 => ?_
                      simp
                      first | refine h1 _ _ ?_ | refine ⟨by omega, h1 _ _ ?_⟩ | refine ⟨by omega, by omega, h1 _ _ ?_⟩
                      clear h1 K1
                      refine atree.a1 fun K1 h1 => ?_
                      simp
                      refine call_pure (c_dots_Add (dn.foldl addD s0) [lf[kOf turns i lf.length]] (by omega) (by omega) (by simp)) (by simp [seenC]) ?_
                      rw [hx1, hx2]
                      simp [seenC]
                      first | refine h1 _ _ ?_ | refine ⟨by omega, h1 _ _ ?_⟩ | refine ⟨by omega, by omega, h1 _ _ ?_⟩
                      clear h1 K1
                      refine atree.tk fun K1 h1 => ?_
                      simp
                      first | refine h1 _ _ ?_ | refine ⟨by omega, h1 _ _ ?_⟩ | refine ⟨by omega, by omega, h1 _ _ ?_⟩
                      clear h1 K1
                      refine atree.tk fun K1 h1 => ?_
                      simp
                      first | refine h1 _ _ ?_ | refine ⟨by omega, h1 _ _ ?_⟩ | refine ⟨by omega, by omega, h1 _ _ ?_⟩
                      clear h1 K1
                      refine atree.tk fun K1 h1 => ?_
                      simp
                      first | refine h1 _ _ ?_ | refine ⟨by omega, h1 _ _ ?_⟩ | refine ⟨by omega, by omega, h1 _ _ ?_⟩
                      clear h1 K1
                      refine atree.a1 fun K1 h1 => ?_
                      simp
                      first | refine h1 _ _ ?_ | refine ⟨by omega, h1 _ _ ?_⟩ | refine ⟨by omega, by omega, h1 _ _ ?_⟩
                      clear h1 K1
                      refine atree.tk fun K1 h1 => ?_
                      simp
                      first | refine h1 _ _ ?_ | refine ⟨by omega, h1 _ _ ?_⟩ | refine ⟨by omega, by omega, h1 _ _ ?_⟩
                      clear h1 K1
                      simp
                    · refine atree.a1 fun K1 h1 => ?_
                      simp
                      first | refine h1 _ _ ?_ | refine ⟨by omega, h1 _ _ ?_⟩ | refine ⟨by omega, by omega, h1 _ _ ?_⟩
                      clear h1 K1
                      refine atree.a1 fun K1 h1 => ?_
                      simp
                      first | refine h1 _ _ ?_ | refine ⟨by omega, h1 _ _ ?_⟩ | refine ⟨by omega, by omega, h1 _ _ ?_⟩
                      clear h1 K1
                      refine atree.a1 fun K1 h1 => ?_
                      simp
                      refine call_pure (c_dots_Add (dn.foldl addD s0) [lf[kOf turns i lf.length]] (by omega) (by omega) (by simp)) (by simp [seenC]) ?_
                      rw [hx1, hx2]
                      simp [seenC]
                      first | refine h1 _ _ ?_ | refine ⟨by omega, h1 _ _ ?_⟩ | refine ⟨by omega, by omega, h1 _ _ ?_⟩
                      clear h1 K1
                      refine atree.tk fun K1 h1 => ?_
                      simp
                      first | refine h1 _ _ ?_ | refine ⟨by omega, h1 _ _ ?_⟩ | refine ⟨by omega, by omega, h1 _ _ ?_⟩
                      clear h1 K1
                      refine atree.tk fun K1 h1 => ?_
                      simp
                      first | refine h1 _ _ ?_ | refine ⟨by omega, h1 _ _ ?_⟩ | refine ⟨by omega, by omega, h1 _ _ ?_⟩
                      clear h1 K1
                      refine atree.tk fun K1 h1 => ?_
                      simp
                      first | refine h1 _ _ ?_ | refine ⟨by omega, h1 _ _ ?_⟩ | refine ⟨by omega, by omega, h1 _ _ ?_⟩
                      clear h1 K1
                      refine atree.a1 fun K1 h1 => ?_
                      simp
                      first | refine h1 _ _ ?_ | refine ⟨by omega, h1 _ _ ?_⟩ | refine ⟨by omega, by omega, h1 _ _ ?_⟩
                      clear h1 K1
                      refine atree.tk fun K1 h1 => ?_
                      simp
                      first | refine h1 _ _ ?_ | refine ⟨by omega, h1 _ _ ?_⟩ | refine ⟨by omega, by omega, h1 _ _ ?_⟩
                      clear h1 K1
                      simp
              · refine atree.a1 fun K1 h1 => ?_
                simp
                first | refine h1 _ _ ?_ | refine ⟨by omega, h1 _ _ ?_⟩ | refine ⟨by omega, by omega, h1 _ _ ?_⟩
                clear h1 K1
                refine atree.al (fun K1 h1 => ?_) ?_
                · simp
                  first | refine h1 _ _ ?_ | refine ⟨by omega, h1 _ _ ?_⟩ | refine ⟨by omega, by omega, h1 _ _ ?_⟩
                  clear h1 K1
                  refine atree.a1 fun K1 h1 => ?_
                  simp
                  first | refine h1 _ _ ?_ | refine ⟨by omega, h1 _ _ ?_⟩ | refine ⟨by omega, by omega, h1 _ _ ?_⟩
                  clear h1 K1
                  refine atree.a1 fun K1 h1 => ?_
                  simp
                  first | refine h1 _ _ ?_ | refine ⟨by omega, h1 _ _ ?_⟩ | refine ⟨by omega, by omega, h1 _ _ ?_⟩
                  clear h1 K1
                  refine atree.a1 fun K1 h1 => ?_
                  simp
                  refine call_pure (c_dots_Add (dn.foldl addD s0) [lf[kOf turns i lf.length]] (by omega) (by omega) (by simp)) (by simp [seenC]) ?_
                  rw [hx1, hx2]
                  simp [seenC]
                  first | refine h1 _ _ ?_ | refine ⟨by omega, h1 _ _ ?_⟩ | refine ⟨by omega, by omega, h1 _ _ ?_⟩
                  clear h1 K1
                  refine atree.tk fun K1 h1 => ?_
                  simp
                  first | refine h1 _ _ ?_ | refine ⟨by omega, h1 _ _ ?_⟩ | refine ⟨by omega, by omega, h1 _ _ ?_⟩
                  clear h1 K1
                  refine atree.tk fun K1 h1 => ?_
                  simp
                  first | refine h1 _ _ ?_ | refine ⟨by omega, h1 _ _ ?_⟩ | refine ⟨by omega, by omega, h1 _ _ ?_⟩
                  clear h1 K1
                  refine atree.tk fun K1 h1 => ?_
                  simp
                  first | refine h1 _ _ ?_ | refine ⟨by omega, h1 _ _ ?_⟩ | refine ⟨by omega, by omega, h1 _ _ ?_⟩
                  clear h1 K1
                  refine atree.a1 fun K1 h1 => ?_
                  simp
                  first | refine h1 _ _ ?_ | refine ⟨by omega, h1 _ _ ?_⟩ | refine ⟨by omega, by omega, h1 _ _ ?_⟩
                  clear h1 K1
                  refine atree.tk fun K1 h1 => ?_
                  simp
                  first | refine h1 _ _ ?_ | refine ⟨by omega, h1 _ _ ?_⟩ | refine ⟨by omega, by omega, h1 _ _ ?_⟩
                  clear h1 K1
                  simp
                · refine atree.a1 fun K1 h1 => ?_
                  simp
                  first | refine h1 _ _ ?_ | refine ⟨by omega, h1 _ _ ?_⟩ | refine ⟨by omega, by omega, h1 _ _ ?_⟩
                  clear h1 K1
                  refine atree.al (fun K1 h1 => ?_) ?_
                  · simp
                    first | refine h1 _ _ ?_ | refine ⟨by omega, h1 _ _ ?_⟩ | refine ⟨by omega, by omega, h1 _ _ ?_⟩
                    clear h1 K1
                    refine atree.a1 fun K1 h1 => ?_
                    simp
                    first | refine h1 _ _ ?_ | refine ⟨by omega, h1 _ _ ?_⟩ | refine ⟨by omega, by omega, h1 _ _ ?_⟩
                    clear h1 K1
                    refine atree.a1 fun K1 h1 => ?_
                    simp
                    refine call_pure (c_dots_Add (dn.foldl addD s0) [lf[kOf turns i lf.length]] (by omega) (by omega) (by simp)) (by simp [seenC]) ?_
                    rw [hx1, hx2]
                    simp [seenC]
                    first | refine h1 _ _ ?_ | refine ⟨by omega, h1 _ _ ?_⟩ | refine ⟨by omega, by omega, h1 _ _ ?_⟩
                    clear h1 K1
                    refine atree.tk fun K1 h1 => ?_
                    simp
                    first | refine h1 _ _ ?_ | refine ⟨by omega, h1 _ _ ?_⟩ | refine ⟨by omega, by omega, h1 _ _ ?_⟩
                    clear h1 K1
                    refine atree.tk fun K1 h1 => ?_
                    simp
                    first | refine h1 _ _ ?_ | refine ⟨by omega, h1 _ _ ?_⟩ | refine ⟨by omega, by omega, h1 _ _ ?_⟩
                    clear h1 K1
                    refine atree.tk fun K1 h1 => ?_
                    simp
                    first | refine h1 _ _ ?_ | refine ⟨by omega, h1 _ _ ?_⟩ | refine ⟨by omega, by omega, h1 _ _ ?_⟩
                    clear h1 K1
                    refine atree.a1 fun K1 h1 => ?_
                    simp
                    first | refine h1 _ _ ?_ | refine ⟨by omega, h1 _ _ ?_⟩ | refine ⟨by omega, by omega, h1 _ _ ?_⟩
                    clear h1 K1
                    refine atree.tk fun K1 h1 => ?_
                    simp
                    first | refine h1 _ _ ?_ | refine ⟨by omega, h1 _ _ ?_⟩ | refine ⟨by omega, by omega, h1 _ _ ?_⟩
                    clear h1 K1
                    simp
                  · refine atree.a1 fun K1 h1 => ?_
                    simp
                    first | refine h1 _ _ ?_ | refine ⟨by omega, h1 _ _ ?_⟩ | refine ⟨by omega, by omega, h1 _ _ ?_⟩
                    clear h1 K1
                    refine atree.a1 fun K1 h1 => ?_
                    simp
                    first | refine h1 _ _ ?_ | refine ⟨by omega, h1 _ _ ?_⟩ | refine ⟨by omega, by omega, h1 _ _ ?_⟩
                    clear h1 K1
                    refine atree.a1 fun K1 h1 => ?_
                    simp
                    refine call_pure (c_dots_Add (dn.foldl addD s0) [lf[kOf turns i lf.length]] (by omega) (by omega) (by simp)) (by simp [seenC]) ?_
                    rw [hx1, hx2]
                    simp [seenC]
                    first | refine h1 _ _ ?_ | refine ⟨by omega, h1 _ _ ?_⟩ | refine ⟨by omega, by omega, h1 _ _ ?_⟩
                    clear h1 K1
                    refine atree.tk fun K1 h1 => ?_
                    simp
                    first | refine h1 _ _ ?_ | refine ⟨by omega, h1 _ _ ?_⟩ | refine ⟨by omega, by omega, h1 _ _ ?_⟩
                    clear h1 K1
                    refine atree.tk fun K1 h1 => ?_
                    simp
                    first | refine h1 _ _ ?_ | refine ⟨by omega, h1 _ _ ?_⟩ | refine ⟨by omega, by omega, h1 _ _ ?_⟩
                    clear h1 K1
                    refine atree.tk fun K1 h1 => ?_
                    simp
                    first | refine h1 _ _ ?_ | refine ⟨by omega, h1 _ _ ?_⟩ | refine ⟨by omega, by omega, h1 _ _ ?_⟩
                    clear h1 K1
                    refine atree.a1 fun K1 h1 => ?_
                    simp
                    first | refine h1 _ _ ?_ | refine ⟨by omega, h1 _ _ ?_⟩ | refine ⟨by omega, by omega, h1 _ _ ?_⟩
                    clear h1 K1
                    refine atree.tk fun K1 h1 => ?_
                    simp
                    first | refine h1 _ _ ?_ | refine ⟨by omega, h1 _ _ ?_⟩ | refine ⟨by omega, by omega, h1 _ _ ?_⟩
                    clear h1 K1
                    simp
          · refine atree.a1 fun K1 h1 => ?_
            simp
            first | refine h1 _ _ ?_ | refine ⟨by omega, h1 _ _ ?_⟩ | refine ⟨by omega, by omega, h1 _ _ ?_⟩
            clear h1 K1
            refine atree.al (fun K1 h1 => ?_) ?_
            · simp
              first | refine h1 _ _ ?_ | refine ⟨by omega, h1 _ _ ?_⟩ | refine ⟨by omega, by omega, h1 _ _ ?_⟩
              clear h1 K1
              refine atree.a1 fun K1 h1 => ?_
              simp [hk]
              first | refine h1 _ _ ?_ | refine ⟨by omega, h1 _ _ ?_⟩ | refine ⟨by omega, by omega, h1 _ _ ?_⟩
              clear h1 K1
              refine atree.a1 fun K1 h1 => ?_
              simp
              first | refine h1 _ _ ?_ | refine ⟨by omega, h1 _ _ ?_⟩ | refine ⟨by omega, by omega, h1 _ _ ?_⟩
              clear h1 K1
              refine atree.a1 fun K1 h1 => ?_
              simp
              first | refine h1 _ _ ?_ | refine ⟨by omega, h1 _ _ ?_⟩ | refine ⟨by omega, by omega, h1 _ _ ?_⟩
              clear h1 K1
              refine atree.a1 fun K1 h1 => ?_
              simp
              refine call_pure (c_dots_Add (dn.foldl addD s0) [lf[kOf turns i lf.length]] (by omega) (by omega) (by simp)) (by simp [seenC]) ?_
              rw [hx1, hx2]
              simp [seenC]
              first | refine h1 _ _ ?_ | refine ⟨by omega, h1 _ _ ?_⟩ | refine ⟨by omega, by omega, h1 _ _ ?_⟩
              clear h1 K1
              refine atree.tk fun K1 h1 => ?_
              simp
              first | refine h1 _ _ ?_ | refine ⟨by omega, h1 _ _ ?_⟩ | refine ⟨by omega, by omega, h1 _ _ ?_⟩
              clear h1 K1
              refine atree.tk fun K1 h1 => ?_
              simp
              first | refine h1 _ _ ?_ | refine ⟨by omega, h1 _ _ ?_⟩ | refine ⟨by omega, by omega, h1 _ _ ?_⟩
              clear h1 K1
              refine atree.tk fun K1 h1 => ?_
              simp
              first | refine h1 _ _ ?_ | refine ⟨by omega, h1 _ _ ?_⟩ | refine ⟨by omega, by omega, h1 _ _ ?_⟩
              clear h1 K1
              refine atree.a1 fun K1 h1 => ?_
              simp
              first | refine h1 _ _ ?_ | refine ⟨by omega, h1 _ _ ?_⟩ | refine ⟨by omega, by omega, h1 _ _ ?_⟩
              clear h1 K1
              refine atree.tk fun K1 h1 => ?_
              simp
              first | refine h1 _ _ ?_ | refine ⟨by omega, h1 _ _ ?_⟩ | refine ⟨by omega, by omega, h1 _ _ ?_⟩
              clear h1 K1
              simp
            · refine atree.a1 fun K1 h1 => ?_
              simp [hk]
              first | refine h1 _ _ ?_ | refine ⟨by omega, h1 _ _ ?_⟩ | refine ⟨by omega, by omega, h1 _ _ ?_⟩
              clear h1 K1
              refine atree.al (fun K1 h1 => ?_) ?_
              · simp
                first | refine h1 _ _ ?_ | refine ⟨by omega, h1 _ _ ?_⟩ | refine ⟨by omega, by omega, h1 _ _ ?_⟩
                clear h1 K1
                refine atree.a1 fun K1 h1 => ?_
                simp
                first | refine h1 _ _ ?_ | refine ⟨by omega, h1 _ _ ?_⟩ | refine ⟨by omega, by omega, h1 _ _ ?_⟩
                clear h1 K1
                refine atree.a1 fun K1 h1 => ?_
                simp
                first | refine h1 _ _ ?_ | refine ⟨by omega, h1 _ _ ?_⟩ | refine ⟨by omega, by omega, h1 _ _ ?_⟩
                clear h1 K1
                refine atree.a1 fun K1 h1 => ?_
                simp
                refine call_pure (c_dots_Add (dn.foldl addD s0) [lf[kOf turns i lf.length]] (by omega) (by omega) (by simp)) (by simp [seenC]) ?_
                rw [hx1, hx2]
                simp [seenC]
                first | refine h1 _ _ ?_ | refine ⟨by omega, h1 _ _ ?_⟩ | refine ⟨by omega, by omega, h1 _ _ ?_⟩
                clear h1 K1
                refine atree.tk fun K1 h1 => ?_
                simp
                first | refine h1 _ _ ?_ | refine ⟨by omega, h1 _ _ ?_⟩ | refine ⟨by omega, by omega, h1 _ _ ?_⟩
                clear h1 K1
                refine atree.tk fun K1 h1 => ?_
                simp
                first | refine h1 _ _ ?_ | refine ⟨by omega, h1 _ _ ?_⟩ | refine ⟨by omega, by omega, h1 _ _ ?_⟩
                clear h1 K1
                refine atree.tk fun K1 h1 => ?_
                simp
                first | refine h1 _ _ ?_ | refine ⟨by omega, h1 _ _ ?_⟩ | refine ⟨by omega, by omega, h1 _ _ ?_⟩
                clear h1 K1
                refine atree.a1 fun K1 h1 => ?_
                simp
                first | refine h1 _ _ ?_ | refine ⟨by omega, h1 _ _ ?_⟩ | refine ⟨by omega, by omega, h1 _ _ ?_⟩
                clear h1 K1
                refine atree.tk fun K1 h1 => ?_
                simp
                first | refine h1 _ _ ?_ | refine ⟨by omega, h1 _ _ ?_⟩ | refine ⟨by omega, by omega, h1 _ _ ?_⟩
                clear h1 K1
                simp
              · refine atree.a1 fun K1 h1 => ?_
                simp
                first | refine h1 _ _ ?_ | refine ⟨by omega, h1 _ _ ?_⟩ | refine ⟨by omega, by omega, h1 _ _ ?_⟩
                clear h1 K1
                refine atree.al (fun K1 h1 => ?_) ?_
                · simp
                  first | refine h1 _ _ ?_ | refine ⟨by omega, h1 _ _ ?_⟩ | refine ⟨by omega, by omega, h1 _ _ ?_⟩
                  clear h1 K1
                  refine atree.a1 fun K1 h1 => ?_
                  simp
                  first | refine h1 _ _ ?_ | refine ⟨by omega, h1 _ _ ?_⟩ | refine ⟨by omega, by omega, h1 _ _ ?_⟩
                  clear h1 K1
                  refine atree.a1 fun K1 h1 => ?_
                  simp
                  refine call_pure (c_dots_Add (dn.foldl addD s0) [lf[kOf turns i lf.length]] (by omega) (by omega) (by simp)) (by simp [seenC]) ?_
                  rw [hx1, hx2]
                  simp [seenC]
                  first | refine h1 _ _ ?_ | refine ⟨by omega, h1 _ _ ?_⟩ | refine ⟨by omega, by omega, h1 _ _ ?_⟩
                  clear h1 K1
                  refine atree.tk fun K1 h1 => ?_
                  simp
                  first | refine h1 _ _ ?_ | refine ⟨by omega, h1 _ _ ?_⟩ | refine ⟨by omega, by omega, h1 _ _ ?_⟩
                  clear h1 K1
                  refine atree.tk fun K1 h1 => ?_
                  simp
                  first | refine h1 _ _ ?_ | refine ⟨by omega, h1 _ _ ?_⟩ | refine ⟨by omega, by omega, h1 _ _ ?_⟩
                  clear h1 K1
                  refine atree.tk fun K1 h1 => ?_
                  simp
                  first | refine h1 _ _ ?_ | refine ⟨by omega, h1 _ _ ?_⟩ | refine ⟨by omega, by omega, h1 _ _ ?_⟩
                  clear h1 K1
                  refine atree.a1 fun K1 h1 => ?_
                  simp
                  first | refine h1 _ _ ?_ | refine ⟨by omega, h1 _ _ ?_⟩ | refine ⟨by omega, by omega, h1 _ _ ?_⟩
                  clear h1 K1
                  refine atree.tk fun K1 h1 => ?_
                  simp
                  first | refine h1 _ _ ?_ | refine ⟨by omega, h1 _ _ ?_⟩ | refine ⟨by omega, by omega, h1 _ _ ?_⟩
                  clear h1 K1
                  simp
                · refine atree.a1 fun K1 h1 => ?_
                  simp
                  first | refine h1 _ _ ?_ | refine ⟨by omega, h1 _ _ ?_⟩ | refine ⟨by omega, by omega, h1 _ _ ?_⟩
                  clear h1 K1
                  refine atree.a1 fun K1 h1 => ?_
                  simp
                  first | refine h1 _ _ ?_ | refine ⟨by omega, h1 _ _ ?_⟩ | refine ⟨by omega, by omega, h1 _ _ ?_⟩
                  clear h1 K1
                  refine atree.a1 fun K1 h1 => ?_
                  simp
                  refine call_pure (c_dots_Add (dn.foldl addD s0) [lf[kOf turns i lf.length]] (by omega) (by omega) (by simp)) (by simp [seenC]) ?_
                  rw [hx1, hx2]
                  simp [seenC]
                  first | refine h1 _ _ ?_ | refine ⟨by omega, h1 _ _ ?_⟩ | refine ⟨by omega, by omega, h1 _ _ ?_⟩
                  clear h1 K1
                  refine atree.tk fun K1 h1 => ?_
                  simp
                  first | refine h1 _ _ ?_ | refine ⟨by omega, h1 _ _ ?_⟩ | refine ⟨by omega, by omega, h1 _ _ ?_⟩
                  clear h1 K1
                  refine atree.tk fun K1 h1 => ?_
                  simp
                  first | refine h1 _ _ ?_ | refine ⟨by omega, h1 _ _ ?_⟩ | refine ⟨by omega, by omega, h1 _ _ ?_⟩
                  clear h1 K1
                  refine atree.tk fun K1 h1 => ?_
                  simp
                  first | refine h1 _ _ ?_ | refine ⟨by omega, h1 _ _ ?_⟩ | refine ⟨by omega, by omega, h1 _ _ ?_⟩
                  clear h1 K1
                  refine atree.a1 fun K1 h1 => ?_
                  simp
                  first | refine h1 _ _ ?_ | refine ⟨by omega, h1 _ _ ?_⟩ | refine ⟨by omega, by omega, h1 _ _ ?_⟩
                  clear h1 K1
                  refine atree.tk fun K1 h1 => ?_
                  simp
                  first | refine h1 _ _ ?_ | refine ⟨by omega, h1 _ _ ?_⟩ | refine ⟨by omega, by omega, h1 _ _ ?_⟩
                  clear h1 K1
                  simp
      refine AWp.seq ?_
      refine AWp.go [0, 1, 5, 7, 8, 9, 10, 11, 12, 13, 72] [5, 7, 10, 13] fun K hK => ?_
      simp
      first | refine hK _ _ ?_ | refine ⟨by omega, hK _ _ ?_⟩ | refine ⟨by omega, by omega, hK _ _ ?_⟩
      clear hK K
      refine AWp.cond (t := false) (by first | (simp; done) | (simp; omega)) (by simp) (fun _ => ?_)
      refine AWp.skip ?_
      show AWp _ _ _ _
      refine AWp.go [0, 1, 5, 7, 8, 9, 10, 11, 12] [5, 7, 10] fun K hK => ?_
      simp
      first | refine hK _ _ ?_ | refine ⟨by omega, hK _ _ ?_⟩ | refine ⟨by omega, by omega, hK _ _ ?_⟩
      clear hK K
      have w5 : IntKind.i64.wrap ((kOf turns i lf.length : Int) + 1) = ((kOf turns i lf.length + 1 : Nat) : Int) := by rw [wrap64 (by omega) (by omega)]; omega
      refine AWp.lastT (.take 1 (.take 2 (.take 3 (.take 5 (.take 6 (.take 7 (.take 8 (.alt 0 (.alt 4 (.alt 9 (.take 10 .fin) .stop) .stop) .stop)))))))) [0, 1, 5, 7, 8, 9, 10, 11] [5, 7, 10] [(0, .sl .fro 2 (dotsAV l)), (1, .sl .fro 1 (bytesAV turns)), (5, .ptr 5 0), (7, .ptr 7 0), (8, .i .i64 0), (9, .sl .own 2 (dotsAV (lf.take (kOf turns i lf.length) ++ lf.drop (kOf turns i lf.length + 1)))), (10, .ptr 10 0), (11, .i .i64 i)] [(5, [.i .i64 d.1, .i .i64 d.2]), (7, [.sl .fro 1 (intsAV (l.foldl addD s0).upto), .sl .fro 2 (dotsAV (l.foldl addD s0).more)]), (10, [.sl .fro 1 (intsAV ((dn ++ [lf[kOf turns i lf.length]]).foldl addD s0).upto), .sl .fro 2 (dotsAV ((dn ++ [lf[kOf turns i lf.length]]).foldl addD s0).more)])] mix (by kernel_rfl) ?_ ?_
      · refine atree.tk fun K1 h1 => ?_
        simp
        first | refine h1 _ _ ?_ | refine ⟨by omega, h1 _ _ ?_⟩ | refine ⟨by omega, by omega, h1 _ _ ?_⟩
        clear h1 K1
        refine atree.tk fun K1 h1 => ?_
        simp
        first | refine h1 _ _ ?_ | refine ⟨by omega, h1 _ _ ?_⟩ | refine ⟨by omega, by omega, h1 _ _ ?_⟩
        clear h1 K1
        refine atree.tk fun K1 h1 => ?_
        simp
        first | refine h1 _ _ ?_ | refine ⟨by omega, h1 _ _ ?_⟩ | refine ⟨by omega, by omega, h1 _ _ ?_⟩
        clear h1 K1
        refine atree.tk fun K1 h1 => ?_
        simp
        first | refine h1 _ _ ?_ | refine ⟨by omega, h1 _ _ ?_⟩ | refine ⟨by omega, by omega, h1 _ _ ?_⟩
        clear h1 K1
        refine atree.tk fun K1 h1 => ?_
        simp
        first | refine h1 _ _ ?_ | refine ⟨by omega, h1 _ _ ?_⟩ | refine ⟨by omega, by omega, h1 _ _ ?_⟩
        clear h1 K1
        refine atree.tk fun K1 h1 => ?_
        simp [w5]
        first | refine h1 _ _ ?_ | refine ⟨by omega, h1 _ _ ?_⟩ | refine ⟨by omega, by omega, h1 _ _ ?_⟩
        clear h1 K1
        refine atree.tk fun K1 h1 => ?_
        simp
        first | refine h1 _ _ ?_ | refine ⟨by omega, h1 _ _ ?_⟩ | refine ⟨by omega, by omega, h1 _ _ ?_⟩
        clear h1 K1
        refine atree.a1 fun K1 h1 => ?_
        simp
        first | refine h1 _ _ ?_ | refine ⟨by omega, h1 _ _ ?_⟩ | refine ⟨by omega, by omega, h1 _ _ ?_⟩
        clear h1 K1
        refine atree.a1 fun K1 h1 => ?_
        simp
        first | refine h1 _ _ ?_ | refine ⟨by omega, h1 _ _ ?_⟩ | refine ⟨by omega, by omega, h1 _ _ ?_⟩
        clear h1 K1
        refine atree.a1 fun K1 h1 => ?_
        simp
        first | refine h1 _ _ ?_ | refine ⟨by omega, h1 _ _ ?_⟩ | refine ⟨by omega, by omega, h1 _ _ ?_⟩
        clear h1 K1
        refine atree.tk fun K1 h1 => ?_
        simp
        first | refine h1 _ _ ?_ | refine ⟨by omega, h1 _ _ ?_⟩ | refine ⟨by omega, by omega, h1 _ _ ?_⟩
        clear h1 K1
        have e : List.take lf.length (dotsAV lf) = dotsAV lf := List.take_of_length_le (by simp)
        simp [e, dotsAV_take, dotsAV_drop]
      show AWp _ _ _ _
      refine AWp.goLast [0, 1, 5, 7, 8, 9, 10, 11] [5, 7, 10] fun K hK => ?_
      simp
      first | refine hK _ _ ?_ | refine ⟨by omega, hK _ _ ?_⟩ | refine ⟨by omega, by omega, hK _ _ ?_⟩
      clear hK K
      refine ⟨(i + 1, lf.take (kOf turns i lf.length) ++ lf.drop (kOf turns i lf.length + 1), dn ++ [lf[kOf turns i lf.length]]), hlf.step hk, ?_, ?_⟩
      · dsimp only; simp; omega
      · have w1 : IntKind.i64.wrap ((i : Int) + 1) = i + 1 := wrap64 (by omega) (by omega)
        simp [w1]
    · refine AWp.cond (t := false) (by first | (simp [h]; done) | (simp [h]; omega)) (by simp) (fun _ => ?_)
      refine AWp.exit ?_
      show AWp _ _ _ _
      obtain rfl : lf = [] := List.eq_nil_of_length_eq_zero (by omega)
      have hmm : ∀ x, x ∈ dn ↔ x ∈ l := fun x => by rw [h3]; simp
      have hone2 := fold0_ext hl' hmm
      have hhas := fold0_has dn hdn d hd
      rw [hone2] at hhas hf1 hf2 ⊢
      rw [show decide (d ∈ dn) = decide (d ∈ l) by simp [hmm]] at hhas
      refine AWp.stepD 19 (fun k => if k = 10 ∨ k = 13 then .b (decide (d ∈ l)) else .b true) [6] [] [(6, .b true)] [] mix (by kernel_rfl) ?_ ?_
      · have hso2 : seenOk (l.foldl addD s0) = true := (seenOk_iff _).2 ⟨(fold0_spec l hl').1, by omega⟩
        have g1 := c_ref04_Same (l.foldl addD s0) (l.foldl addD s0) (by omega) (by omega)
        have g2 := c_dots_Has (l.foldl addD s0) d (by omega) (by omega)
        have g3 := c_ref04_In l d (by omega)
        have g4 := c_law04_awake
        rw [hso2, hhas] at g2
        simp [seenC, dotC] at g1 g2 g3
        simp [g1, g2, g3, g4]
      refine AWp.ret ?_
      simp
end Go.AM
