/- From a contract over data to a law's row. No project text. -/
import Derived.Test.YtmhkagfncnnfdaaAmE
import Derived.ChangeShapes
import Derived.Below
import Derived.SizedLaws
import Derived.Carry
import Derived.OpenShut
import Derived.WideShapes
import Derived.Test.YtmhkagfncnnfdaaAmD
set_option linter.unusedSimpArgs false
set_option linter.unusedVariables false
namespace Go.AM
open Go.RowKit Go.WideShapes

/-- A law that holds over data, called. -/
theorem Pure.calls {P : Program} {f : Nat} {args : List AV} {b : Bool} (h : Pure P f args (.b b)) {w : World} {vs : Array Value} (hl : args.length = vs.size) (hv : ∀ (k : Nat) c, args[k]? = some c → Dat (fun b => b < w.heap.size) w c (vs.getD k undef)) :
    Calls P f vs w fun e w' => e = .returned (.bool b) ∧ Below w.heap.size w w' := by
  refine (h.2 w (fun _ => 0) (fun _ => none) (fun bk => bk < w.heap.size) vs (rel_empty _ _ _ fun _ h => h) (by simp) hl (fun k c hk => (hv k c hk).val (E := ⟨w, fun _ => 0, fun _ => none, fun bk => bk < w.heap.size, St.ofBoxes [], #[]⟩) _)).mono ?_
  rintro e w' ⟨v, E', rfl, rfl, I, _, _, hr⟩
  refine ⟨by cases hr; rfl, I.fr.os.1, I.fr.tape, I.fr.output, I.fr.size, fun k hk => I.fr.block k hk (by simp)⟩

def TT.wrap : TT → List AV → AV
  | .st _, avs => .agg avs
  | _, avs => avs.getD 0 .any

theorem arg_dat {H : Type} {enc : TypeId × Value → H} {P : Program} {w : World} {held : Bool} {r : Reach} {b0 : Nat} {t : TypeId} {v : Value} {d : DataW H} {p : List MemPlace} (T : TT) (hT : T.isAt P t = true) (hval : Value.okWide P w r b0 t v)
    (h : DataW.Trod enc P w 0 (fun _ => true) held t v d p) : ∃ avs, T.fit avs ∧ Dat (fun b => b < w.heap.size) w (T.wrap avs) v := by
  obtain ⟨n, hn⟩ := h
  obtain ⟨avs, h1, h2, h3⟩ := trod_dat T n t _ _ hT hn
  refine ⟨avs, h1, ?_⟩
  have one : v.cells.toList = [v] → avs.length = 1 → Dat (fun b => b < w.heap.size) w (avs.getD 0 .any) v := by
    intro hc hl
    match avs, hl with
    | [c], _ =>
      obtain ⟨u, hu, hd⟩ := h3.2 0 c rfl
      rw [hc] at hu
      obtain rfl := Option.some.inj hu
      exact hd.1
  cases T with
  | int k =>
    simp only [TT.isAt] at hT
    split at hT
    · rename_i k' hu
      obtain ⟨n, rfl⟩ := okWide_int hu hval
      exact one rfl h2
    · cases hT
  | bool =>
    simp only [TT.isAt] at hT
    split at hT
    · rename_i hu
      obtain ⟨n, rfl⟩ := okWide_bool hu hval
      exact one rfl h2
    · cases hT
  | str =>
    simp only [TT.isAt] at hT
    split at hT
    · rename_i hu
      obtain ⟨n, rfl⟩ := okWide_string hu hval
      exact one rfl h2
    · cases hT
  | sl sz e =>
    simp only [TT.isAt] at hT
    split at hT
    · rename_i et hu
      obtain ⟨a, len, cap, rfl⟩ := okWide_slice hu hval
      exact one rfl h2
    · cases hT
  | st fs =>
    simp only [TT.isAt] at hT
    split at hT
    · rename_i fl hu
      simp only [Value.okWide, hu] at hval
      obtain ⟨cs, rfl, _, _⟩ := hval
      refine .agg _ cs (by rw [h3.1]; simp [Value.cells]) fun k c hk => ?_
      obtain ⟨u, hu, hd⟩ := h3.2 k c hk
      simp only [Value.cells, Array.getElem?_toList] at hu
      rw [Array.getD_eq_getD_getElem?, hu]
      exact hd.1
    · cases hT

theorem list_of {α : Type} {g : α → List AV} : ∀ {xs : List (List AV)}, (∀ x ∈ xs, ∃ a, x = g a) → ∃ l : List α, xs = l.map g
  | [], _ => ⟨[], rfl⟩
  | x :: xs, h => by
    obtain ⟨a, rfl⟩ := h x (by simp)
    obtain ⟨l, rfl⟩ := list_of (xs := xs) fun y hy => h y (by simp [hy])
    exact ⟨a :: l, rfl⟩
end Go.AM
namespace Go.AM
open Go.Proofs Go.Sort Go.Shelf

theorem world_grown {w w' : World} (hos : SameOs w' w) (ht : w'.tape = w.tape) (ho : w'.output = w.output) (hs : w.heap.size ≤ w'.heap.size) (hb : ∀ k, k < w.heap.size → w'.heap[k]? = w.heap[k]?) :
    ∃ q os', w' = grow (w.drewN q) os' := by
  refine ⟨w'.drawn - w.drawn, w'.heap.extract w.heap.size w'.heap.size, ?_⟩
  have hheap : w'.heap = w.heap ++ w'.heap.extract w.heap.size w'.heap.size := by
    apply Array.ext
    · simp; omega
    · intro i h1 h2
      rw [Array.getElem_append]
      split
      · rename_i h
        have := hb i h
        rw [Array.getElem?_eq_getElem h1, Array.getElem?_eq_getElem h] at this
        exact Option.some.inj this
      · rw [Array.getElem_extract]
        congr 1
        omega
  have hdr : w'.drawn = w.drawn + (w'.drawn - w.drawn) := by have := hos.2; omega
  obtain ⟨h1, h2, h3, h4, h5⟩ := w'
  simp only [grow, World.drewN]
  simp only at hheap hdr ht ho
  have hos1 : h4 = w.os := hos.1
  rw [← hheap, ← hdr, ht, ho, hos1]

theorem Pure.grows {P : Program} {f : Nat} {args : List AV} {n : Int} (h : Pure P f args (.i .i64 n)) {w : World} {vs : Array Value} (hl : args.length = vs.size) (hv : ∀ (k : Nat) c, args[k]? = some c → Dat (fun b => b < w.heap.size) w c (vs.getD k undef)) :
    Calls P f vs w fun e w' => e = .returned (.int .i64 n) ∧ ∃ q os', w' = grow (w.drewN q) os' := by
  refine (h.2 w (fun _ => 0) (fun _ => none) (fun bk => bk < w.heap.size) vs (rel_empty _ _ _ fun _ h => h) (by simp) hl (fun k c hk => (hv k c hk).val (E := ⟨w, fun _ => 0, fun _ => none, fun bk => bk < w.heap.size, St.ofBoxes [], #[]⟩) _)).mono ?_
  rintro e w' ⟨v, E', rfl, rfl, I, _, _, hr⟩
  exact ⟨by cases hr; rfl, world_grown I.fr.os I.fr.tape I.fr.output I.fr.size fun k hk => I.fr.block k hk (by simp)⟩

theorem dat_atoms {Pub : Nat → Prop} {w : World} {cs : List AV} (h : ∀ c ∈ cs, c.atom = true) : Dat Pub w (.agg cs) (.agg (cs.map AV.val).toArray) := by
  refine .agg cs _ (by simp) fun k c hk => ?_
  have hlt := (List.getElem?_eq_some_iff.1 hk).1
  have e : (cs.map AV.val).toArray.getD k undef = c.val := by
    rw [Array.getD_eq_getD_getElem?]
    simp [hk]
  rw [e]
  exact (datC_val (h c (List.mem_of_getElem? hk))).1

/-- A row of atoms sorted by a comparison that is a function of data. -/
theorem lproc_sortP {α : Type} [Inhabited α] (encA : α → List AV) {P : Program} {ρ : Ren} (L : Go.Proofs.SlLaysF0.n6 P ρ) (k : Nat) (hpos : 0 < k) (aE : ∀ w, (isAgg (ρ.t 24)).run P w = .ok true w) (zE : ∀ w, (Go.sizeOf (ρ.t 24)).run P w = .ok k w) (hk : ∀ x, (encA x).length = k) (hat : ∀ x, ∀ c ∈ encA x, c.atom = true)
    (cf : α → α → Int) (hO : SWO (ltOf cf)) (hT : ∀ x y, (ltOf cf) x y = false → (ltOf cf) y x = false → x = y) (g : Nat) (eg : ∀ args w, (callFunc g args).run P w = .ok (.enter g args) w)
    (hcmp : ∀ x y : α, Pure P g [.agg (encA x), .agg (encA y)] (.i .i64 (cf x y))) (xs : List α) (hsz : xs.length < 4611686018427387904) :
    LProc P (ρ.f 6) k (xs.map encA) [.fn g [] []] ((xs.mergeSort fun x y => !(ltOf cf) y x).map encA) :=
  lproc_sort encA L k hpos aE zE hk hat cf hO hT g eg (fun x y w => (hcmp x y).grows rfl fun j c hj => by
    rcases j with _ | _ | j
    · simp at hj; subst hj; exact dat_atoms (hat x)
    · simp at hj; subst hj; exact dat_atoms (hat y)
    · simp at hj) xs hsz
end Go.AM
namespace Go.AM
open Go.Proofs
def cmpI (a b : Int) : Int := if a < b then -1 else if b < a then 1 else 0
theorem c_isNaN_int (a : Int) : Pure Try.prog 137 [.i .i64 a] (.b false) := by
  refine proc_of (cx Try.prog 6 [0, 2] [2]) 5 [.tmp 2] Try.func137 rfl rfl rfl rfl rfl rfl (Nat.le_refl _) rfl ?_
  refine AWp.go [0] [] fun K hK => ?_
  simp
  first | refine hK _ _ ?_ | refine ⟨by omega, hK _ _ ?_⟩ | refine ⟨by omega, by omega, hK _ _ ?_⟩
  clear hK K
  refine AWp.go [2] [] fun K hK => ?_
  simp
  first | refine hK _ _ ?_ | refine ⟨by omega, hK _ _ ?_⟩ | refine ⟨by omega, by omega, hK _ _ ?_⟩
  clear hK K
  refine AWp.ret ?_
  simp
theorem c_Compare_int (a b : Int) : Pure Try.prog 106 [.i .i64 a, .i .i64 b] (.i .i64 (cmpI a b)) := by
  refine proc_of (cx Try.prog 20 [0, 1, 4, 5, 6, 11, 12, 13, 16, 19] [4]) 18 [.tmp 4] Try.func106 rfl rfl rfl rfl rfl rfl (Nat.le_refl _) rfl ?_
  refine AWp.go [0, 1] [] fun K hK => ?_
  simp
  first | refine hK _ _ ?_ | refine ⟨by omega, hK _ _ ?_⟩ | refine ⟨by omega, by omega, hK _ _ ?_⟩
  clear hK K
  refine AWp.go [0, 1, 5] [] fun K hK => ?_
  simp
  refine call_pure (c_isNaN_int a) (by simp) ?_
  simp
  first | refine hK _ _ ?_ | refine ⟨by omega, hK _ _ ?_⟩ | refine ⟨by omega, by omega, hK _ _ ?_⟩
  clear hK K
  refine AWp.go [0, 1, 5, 6] [] fun K hK => ?_
  simp
  refine call_pure (c_isNaN_int b) (by simp) ?_
  simp
  first | refine hK _ _ ?_ | refine ⟨by omega, hK _ _ ?_⟩ | refine ⟨by omega, by omega, hK _ _ ?_⟩
  clear hK K
  refine AWp.seq ?_
  refine AWp.go [0, 1, 6, 11] [] fun K hK => ?_
  simp
  first | refine hK _ _ ?_ | refine ⟨by omega, hK _ _ ?_⟩ | refine ⟨by omega, by omega, hK _ _ ?_⟩
  clear hK K
  refine AWp.cond (t := false) (by first | (simp; done) | (simp; omega)) (by simp) (fun _ => ?_)
  refine AWp.skip ?_
  show AWp _ _ _ _
  refine AWp.seq ?_
  refine AWp.go [0, 1, 13] [] fun K hK => ?_
  simp
  first | refine hK _ _ ?_ | refine ⟨by omega, hK _ _ ?_⟩ | refine ⟨by omega, by omega, hK _ _ ?_⟩
  clear hK K
  refine AWp.cond (t := false) (by first | (simp; done) | (simp; omega)) (by simp) (fun _ => ?_)
  refine AWp.skip ?_
  show AWp _ _ _ _
  refine AWp.seq ?_
  refine AWp.go [0, 1, 16] [] fun K hK => ?_
  simp
  first | refine hK _ _ ?_ | refine ⟨by omega, hK _ _ ?_⟩ | refine ⟨by omega, by omega, hK _ _ ?_⟩
  clear hK K
  by_cases h1 : a < b
  · refine AWp.cond (t := true) (by first | (simp [h1]; done) | (simp [h1]; omega)) (fun _ => ?_) (by simp)
    refine AWp.go [4] [] fun K hK => ?_
    simp
    first | refine hK _ _ ?_ | refine ⟨by omega, hK _ _ ?_⟩ | refine ⟨by omega, by omega, hK _ _ ?_⟩
    clear hK K
    refine AWp.ret ?_
    simp [cmpI, h1]
  · refine AWp.cond (t := false) (by first | (simp [h1]; done) | (simp [h1]; omega)) (by simp) (fun _ => ?_)
    refine AWp.skip ?_
    show AWp _ _ _ _
    refine AWp.seq ?_
    refine AWp.go [19] [] fun K hK => ?_
    simp
    first | refine hK _ _ ?_ | refine ⟨by omega, hK _ _ ?_⟩ | refine ⟨by omega, by omega, hK _ _ ?_⟩
    clear hK K
    by_cases h2 : b < a
    · refine AWp.cond (t := true) (by first | (simp [h2]; done) | (simp [h2]; omega)) (fun _ => ?_) (by simp)
      refine AWp.go [4] [] fun K hK => ?_
      simp
      first | refine hK _ _ ?_ | refine ⟨by omega, hK _ _ ?_⟩ | refine ⟨by omega, by omega, hK _ _ ?_⟩
      clear hK K
      refine AWp.ret ?_
      simp [cmpI, h1, h2]
    · refine AWp.cond (t := false) (by first | (simp [h2]; done) | (simp [h2]; omega)) (by simp) (fun _ => ?_)
      refine AWp.skip ?_
      show AWp _ _ _ _
      refine AWp.go [4] [] fun K hK => ?_
      simp
      first | refine hK _ _ ?_ | refine ⟨by omega, hK _ _ ?_⟩ | refine ⟨by omega, by omega, hK _ _ ?_⟩
      clear hK K
      refine AWp.ret ?_
      simp [cmpI, h1, h2]
def orI : List Int → Int
  | [] => 0
  | x :: l => if x = 0 then orI l else x
theorem orI_at (l : List Int) (i : Nat) (h : i < l.length) (h0 : ∀ k (_ : k < i) (hk : k < l.length), l[k] = 0) (hn : l[i] ≠ 0) : orI l = l[i] := by
  induction l generalizing i with
  | nil => simp at h
  | cons x l ih =>
    cases i with
    | zero => simp at hn; simp [orI, hn]
    | succ i =>
      have hx : x = 0 := h0 0 (by omega) (by simp)
      rw [orI, if_pos hx]
      simp at h hn
      have := ih i h (fun k hk hk2 => h0 (k + 1) (by omega) (by simpa using hk2)) hn
      simpa using this
theorem orI_none (l : List Int) (h0 : ∀ k (hk : k < l.length), l[k] = 0) : orI l = 0 := by
  induction l with
  | nil => rfl
  | cons x l ih =>
    have hx : x = 0 := h0 0 (by simp)
    rw [orI, if_pos hx, ih fun k hk => h0 (k + 1) (by simpa using hk)]
theorem c_Or_int (l : List Int) (hlen : l.length ≤ 1000000) : Pure Try.prog 105 [.sl .fro 1 (intsAV l)] (.i .i64 (orI l)) := by
  refine proc_of (cx Try.prog 18 [0, 2, 3, 5, 6, 7, 8, 9, 14] [2]) 17 [.tmp 2] Try.func105 rfl rfl rfl rfl rfl rfl (Nat.le_refl _) rfl ?_
  refine AWp.go [0] [] fun K hK => ?_
  simp
  first | refine hK _ _ ?_ | refine ⟨by omega, hK _ _ ?_⟩ | refine ⟨by omega, by omega, hK _ _ ?_⟩
  clear hK K
  refine AWp.go [0, 3] [] fun K hK => ?_
  simp
  first | refine hK _ _ ?_ | refine ⟨by omega, hK _ _ ?_⟩ | refine ⟨by omega, by omega, hK _ _ ?_⟩
  clear hK K
  refine AWp.seq ?_
  refine AWp.go [3, 6, 7, 8] [] fun K hK => ?_
  simp
  first | refine hK _ _ ?_ | refine ⟨by omega, hK _ _ ?_⟩ | refine ⟨by omega, by omega, hK _ _ ?_⟩
  clear hK K
  refine AWp.block (AWp.while (fun i : Nat => [(3, .i .i64 0), (6, .sl .fro 1 (intsAV l)), (7, .i .i64 l.length), (8, .i .i64 i)]) (fun i => []) (fun i => i ≤ l.length ∧ ∀ k (_ : k < i) (hk : k < l.length), l[k] = 0) (fun i => l.length - i) [3, 6, 7, 8] [] 0 (by simp) (by simp) ?_)
  rintro i ⟨hi, hall⟩
  refine AWp.go [3, 6, 7, 8, 9] [] fun K hK => ?_
  simp
  first | refine hK _ _ ?_ | refine ⟨by omega, hK _ _ ?_⟩ | refine ⟨by omega, by omega, hK _ _ ?_⟩
  clear hK K
  refine AWp.seq ?_
  by_cases h : i < l.length
  · refine AWp.cond (t := true) (by first | (simp [h]; done) | (simp [h]; omega)) (fun _ => ?_) (by simp)
    refine AWp.skip ?_
    show AWp _ _ _ _
    refine AWp.seq ?_
    refine AWp.block ?_
    refine AWp.go [3, 5, 6, 7, 8] [] fun K hK => ?_
    simp [h]
    first | refine hK _ _ ?_ | refine ⟨by omega, hK _ _ ?_⟩ | refine ⟨by omega, by omega, hK _ _ ?_⟩
    clear hK K
    refine AWp.go [3, 5, 6, 7, 8, 14] [] fun K hK => ?_
    simp
    first | refine hK _ _ ?_ | refine ⟨by omega, hK _ _ ?_⟩ | refine ⟨by omega, by omega, hK _ _ ?_⟩
    clear hK K
    by_cases hp : l[i] = 0
    · refine AWp.cond (t := false) (by first | (simp [hp]; done) | (simp [hp]; omega)) (by simp) (fun _ => ?_)
      refine AWp.skip ?_
      show AWp _ _ _ _
      refine AWp.goLast [3, 6, 7, 8] [] fun K hK => ?_
      simp
      first | refine hK _ _ ?_ | refine ⟨by omega, hK _ _ ?_⟩ | refine ⟨by omega, by omega, hK _ _ ?_⟩
      clear hK K
      refine ⟨i + 1, ⟨by omega, fun k hk hk2 => ?_⟩, by omega, ?_⟩
      · by_cases hki : k = i
        · subst hki; exact hp
        · exact hall k (by omega) hk2
      · simp
        exact wrap64 (by omega) (by omega)
    · refine AWp.cond (t := true) (by first | (simp [hp]; done) | (simp [hp]; omega)) (fun _ => ?_) (by simp)
      refine AWp.go [2] [] fun K hK => ?_
      simp
      first | refine hK _ _ ?_ | refine ⟨by omega, hK _ _ ?_⟩ | refine ⟨by omega, by omega, hK _ _ ?_⟩
      clear hK K
      refine AWp.ret ?_
      rw [orI_at l i h hall hp]
      simp
  · refine AWp.cond (t := false) (by first | (simp [h]; done) | (simp [h]; omega)) (by simp) (fun _ => ?_)
    refine AWp.exit ?_
    show AWp _ _ _ _
    refine AWp.go [2] [] fun K hK => ?_
    simp
    first | refine hK _ _ ?_ | refine ⟨by omega, hK _ _ ?_⟩ | refine ⟨by omega, by omega, hK _ _ ?_⟩
    clear hK K
    refine AWp.ret ?_
    rw [orI_none l fun k hk => hall k (by omega) hk]
    simp
def stI (c : Cl) : Int := if c.strict then 1 else 0
theorem c_norm_strict (c : Cl) : Pure Try.prog 135 [.agg (clC c)] (.i .i64 (stI c)) := by
  refine proc_of (cx Try.prog 5 [1, 2, 4] [2]) 4 [.tmp 2] Try.func135 rfl rfl rfl rfl rfl rfl (Nat.le_refl _) rfl ?_
  refine AWp.go [1] [1] fun K hK => ?_
  simp [clC]
  first | refine hK _ _ ?_ | refine ⟨by omega, hK _ _ ?_⟩ | refine ⟨by omega, by omega, hK _ _ ?_⟩
  clear hK K
  refine AWp.seq ?_
  refine AWp.go [4] [] fun K hK => ?_
  simp
  first | refine hK _ _ ?_ | refine ⟨by omega, hK _ _ ?_⟩ | refine ⟨by omega, by omega, hK _ _ ?_⟩
  clear hK K
  cases hs : c.strict
  · refine AWp.cond (t := false) (by simp) (by simp) (fun _ => ?_)
    refine AWp.skip ?_
    show AWp _ _ _ _
    refine AWp.go [2] [] fun K hK => ?_
    simp
    first | refine hK _ _ ?_ | refine ⟨by omega, hK _ _ ?_⟩ | refine ⟨by omega, by omega, hK _ _ ?_⟩
    clear hK K
    refine AWp.ret ?_
    simp [stI, hs]
  · refine AWp.cond (t := true) (by simp) (fun _ => ?_) (by simp)
    refine AWp.go [2] [] fun K hK => ?_
    simp
    first | refine hK _ _ ?_ | refine ⟨by omega, hK _ _ ?_⟩ | refine ⟨by omega, by omega, hK _ _ ?_⟩
    clear hK K
    refine AWp.ret ?_
    simp [stI, hs]
def cmpCl (a b : Cl) : Int := orI [cmpI a.kind b.kind, cmpI a.a b.a, cmpI a.b b.b, cmpI a.num b.num, cmpI (stI a) (stI b)]
set_option maxRecDepth 8000 in
set_option maxHeartbeats 4000000 in
theorem c_norm_order (a b : Cl) : Pure Try.prog 98 [.agg (clC a), .agg (clC b)] (.i .i64 (cmpCl a b)) := by
  have g1 := c_norm_strict a
  have g2 := c_norm_strict b
  have go := c_Or_int [cmpI a.kind b.kind, cmpI a.a b.a, cmpI a.b b.b, cmpI a.num b.num, cmpI (stI a) (stI b)] (by simp)
  simp [clC] at g1 g2
  simp [intsAV] at go
  refine proc_of (cx Try.prog 32 [2, 3, 4] [4]) 30 [.tmp 4] Try.func98 rfl rfl rfl rfl rfl rfl (Nat.le_refl _) rfl ?_
  refine AWp.go [2, 3] [2, 3] fun K hK => ?_
  simp [clC]
  first | refine hK _ _ ?_ | refine ⟨by omega, hK _ _ ?_⟩ | refine ⟨by omega, by omega, hK _ _ ?_⟩
  clear hK K
  refine AWp.goD 27 (fun k => if k = 4 then .i .i64 (cmpI a.kind b.kind) else if k = 9 then .i .i64 (cmpI a.a b.a) else if k = 14 then .i .i64 (cmpI a.b b.b) else if k = 19 then .i .i64 (cmpI a.num b.num) else if k = 21 then .i .i64 (stI a) else if k = 23 then .i .i64 (stI b) else if k = 24 then .i .i64 (cmpI (stI a) (stI b)) else if k = 26 then .i .i64 (cmpCl a b) else .any) [4] [] mix (by kernel_rfl) fun K hK => ?_
  simp [c_Compare_int, g1, g2, go, cmpCl]
  first | refine hK _ _ ?_ | refine ⟨by omega, hK _ _ ?_⟩ | refine ⟨by omega, by omega, hK _ _ ?_⟩
  clear hK K
  refine AWp.ret ?_
  simp [cmpCl]
end Go.AM
namespace Go.AM
open Go.Proofs Go.Shelf Go.Sort

theorem bbeq (a b : Bool) : (a == b) = decide (a = b) := by cases a <;> cases b <;> rfl
instance : Inhabited Cl := ⟨⟨0, false, 0, 0, 0⟩⟩
theorem Cl.eq_iff (a b : Cl) : a = b ↔ a.kind = b.kind ∧ a.strict = b.strict ∧ a.a = b.a ∧ a.b = b.b ∧ a.num = b.num := by
  cases a; cases b; simp
instance : DecidableEq Cl := fun a b => decidable_of_iff _ (Cl.eq_iff a b).symm
theorem orI_cons (a b : Int) (l : List Int) : orI (cmpI a b :: l) < 0 ↔ a < b ∨ a = b ∧ orI l < 0 := by
  unfold cmpI
  rw [orI]
  by_cases h1 : a < b
  · simp [h1]
  · by_cases h2 : b < a
    · simp [h1, h2]; omega
    · have : a = b := by omega
      simp [this]
theorem ltCl (x y : Cl) : ltOf cmpCl x y = true ↔ (x.kind < y.kind ∨ x.kind = y.kind ∧ (x.a < y.a ∨ x.a = y.a ∧ (x.b < y.b ∨ x.b = y.b ∧ (x.num < y.num ∨ x.num = y.num ∧ stI x < stI y)))) := by
  have e : ltOf cmpCl x y = true ↔ cmpCl x y < 0 := by simp [ltOf]
  rw [e, cmpCl, orI_cons, orI_cons, orI_cons, orI_cons, orI_cons]
  simp [orI]
theorem swoCl : SWO (ltOf cmpCl) where
  irrefl x := by rw [Bool.eq_false_iff]; intro h; rw [ltCl] at h; omega
  trans x y z h1 h2 := by rw [ltCl] at *; omega
  ntrans x y z h1 h2 := by
    rw [Bool.eq_false_iff, ne_eq, ltCl] at *
    omega
theorem totCl (x y : Cl) (h1 : ltOf cmpCl x y = false) (h2 : ltOf cmpCl y x = false) : x = y := by
  rw [Bool.eq_false_iff, ne_eq, ltCl] at *
  have h3 : stI x = stI y := by omega
  rw [Cl.eq_iff]
  refine ⟨by omega, ?_, by omega, by omega, by omega⟩
  unfold stI at h3
  cases hx : x.strict <;> cases hy : y.strict <;> simp [hx, hy] at h3 ⊢
def sortCl (l : List Cl) : List Cl := l.mergeSort fun x y => !(ltOf cmpCl) y x
end Go.AM
namespace Go.Proofs
def Try.sortCl_ren : Go.Shelf.Ren := ⟨fun | 6 => 97 | 15 => 134 | 14 => 133 | 28 => 156 | 29 => 157 | 20 => 148 | 21 => 149 | 22 => 150 | 23 => 151 | 24 => 152 | 25 => 153 | 26 => 154 | 27 => 155 | 46 => 170 | 47 => 171 | 48 => 172 | 49 => 173 | 50 => 174 | 57 => 178 | n => n, fun | 22 => 23 | 24 => 50 | 25 => 117 | 3 => 3 | 39 => 141 | 0 => 0 | 53 => 160 | 55 => 162 | 4 => 4 | 46 => 154 | 45 => 153 | 50 => 106 | 5 => 5 | 9 => 9 | 66 => 171 | 70 => 175 | 76 => 179 | 77 => 180 | n => n, fun | n => n⟩
theorem Try.sortCl : Go.Proofs.SlLaysF0.n6 Try.prog Try.sortCl_ren := {
  mixed := by kernel_rfl,
  f6 := ⟨Try.f97.name, by decide, Try.func97.trans (congrArg some (by kernel_rfl))⟩,
  f14 := ⟨Try.f133.name, by decide, Try.func133.trans (congrArg some (by kernel_rfl))⟩,
  f15 := Try.func134.trans (congrArg some (by kernel_rfl)),
  f20 := ⟨Try.f148.name, by decide, Try.func148.trans (congrArg some (by kernel_rfl))⟩,
  f21 := ⟨Try.f149.name, by decide, Try.func149.trans (congrArg some (by kernel_rfl))⟩,
  f22 := ⟨Try.f150.name, by decide, Try.func150.trans (congrArg some (by kernel_rfl))⟩,
  f23 := ⟨Try.f151.name, by decide, Try.func151.trans (congrArg some (by kernel_rfl))⟩,
  f24 := ⟨Try.f152.name, by decide, Try.func152.trans (congrArg some (by kernel_rfl))⟩,
  f25 := ⟨Try.f153.name, by decide, Try.func153.trans (congrArg some (by kernel_rfl))⟩,
  f26 := ⟨Try.f154.name, by decide, Try.func154.trans (congrArg some (by kernel_rfl))⟩,
  f27 := ⟨Try.f155.name, by decide, Try.func155.trans (congrArg some (by kernel_rfl))⟩,
  f28 := Try.func156.trans (congrArg some (by kernel_rfl)),
  f29 := Try.func157.trans (congrArg some (by kernel_rfl)),
  f46 := ⟨Try.f170.name, by decide, Try.func170.trans (congrArg some (by kernel_rfl))⟩,
  f47 := Try.func171.trans (congrArg some (by kernel_rfl)),
  f48 := Try.func172.trans (congrArg some (by kernel_rfl)),
  f49 := ⟨Try.f173.name, by decide, Try.func173.trans (congrArg some (by kernel_rfl))⟩,
  f50 := ⟨Try.f174.name, by decide, Try.func174.trans (congrArg some (by kernel_rfl))⟩,
  f57 := ⟨Try.f178.name, by decide, Try.func178.trans (congrArg some (by kernel_rfl))⟩,
  t0 := Try.underlying0,
  a0 := Try.isAgg0,
  z0 := Try.sizeOf0,
  v0 := Try.zeroValue0,
  t3 := Try.underlying3,
  a3 := Try.isAgg3,
  z3 := Try.sizeOf3,
  v3 := Try.zeroValue3,
  t4 := Try.underlying4,
  a4 := Try.isAgg4,
  z4 := Try.sizeOf4,
  v4 := Try.zeroValue4,
  t5 := Try.underlying5,
  a5 := Try.isAgg5,
  z5 := Try.sizeOf5,
  v5 := Try.zeroValue5,
  t9 := Try.underlying9,
  a9 := Try.isAgg9,
  z9 := Try.sizeOf9,
  v9 := Try.zeroValue9,
  t22 := Try.underlying23,
  a22 := Try.isAgg23,
  z22 := Try.sizeOf23,
  v22 := Try.zeroValue23,
  t25 := Try.underlying117,
  a25 := Try.isAgg117,
  z25 := Try.sizeOf117,
  v25 := Try.zeroValue117,
  t39 := Try.underlying141,
  a39 := Try.isAgg141,
  z39 := Try.sizeOf141,
  v39 := Try.zeroValue141,
  t45 := Try.underlying153,
  a45 := Try.isAgg153,
  z45 := Try.sizeOf153,
  v45 := Try.zeroValue153,
  t46 := Try.underlying154,
  a46 := Try.isAgg154,
  z46 := Try.sizeOf154,
  v46 := Try.zeroValue154,
  t50 := Try.underlying106,
  a50 := Try.isAgg106,
  z50 := Try.sizeOf106,
  v50 := Try.zeroValue106,
  t53 := Try.underlying160,
  a53 := Try.isAgg160,
  z53 := Try.sizeOf160,
  v53 := Try.zeroValue160,
  t55 := Try.underlying162,
  a55 := Try.isAgg162,
  z55 := Try.sizeOf162,
  v55 := Try.zeroValue162,
  t66 := Try.underlying171,
  a66 := Try.isAgg171,
  z66 := Try.sizeOf171,
  v66 := Try.zeroValue171,
  t70 := Try.underlying175,
  a70 := Try.isAgg175,
  z70 := Try.sizeOf175,
  v70 := Try.zeroValue175,
  t76 := Try.underlying179,
  a76 := Try.isAgg179,
  z76 := Try.sizeOf179,
  v76 := Try.zeroValue179,
  t77 := Try.underlying180,
  a77 := Try.isAgg180,
  z77 := Try.sizeOf180,
  v77 := Try.zeroValue180 }
end Go.Proofs
namespace Go.AM
open Go.Proofs
theorem l_Sort_Cl (l : List Cl) (hl : l.length < 4611686018427387904) : LProc Try.prog 97 5 (clsAV l) [.fn 98 [] []] (clsAV (sortCl l)) :=
  lproc_sortP clC Try.sortCl 5 (by omega) Try.isAgg50 Try.sizeOf50 (fun _ => rfl) (fun x c hc => by simp [clC] at hc; rcases hc with rfl | rfl | rfl | rfl | rfl <;> rfl) cmpCl swoCl totCl 98 (fun args w => enters_of Try.func98 (by kernel_rfl) rfl args w) c_norm_order l hl
section
variable {α : Type} [DecidableEq α]
def cmpN (l : List α) : Nat → List α
  | 0 => []
  | i + 1 => match l[i]? with
    | none => cmpN l i
    | some x => if 0 < i ∧ l[i - 1]? = some x then cmpN l i else cmpN l i ++ [x]
def cmpA (l : List α) : List α := cmpN l l.length
theorem cmpN_le (l : List α) : ∀ i, (cmpN l i).length ≤ i
  | 0 => by simp [cmpN]
  | i + 1 => by
    have := cmpN_le l i
    unfold cmpN
    split
    · omega
    · split
      · omega
      · simp; omega
theorem cmpN_eq (l : List α) (k m : Nat) (hm : m = k + 1) (h : m < l.length) (he : l[m] = l[k]) : cmpN l (m + 1) = cmpN l m := by
  subst hm
  conv => lhs; unfold cmpN
  rw [List.getElem?_eq_getElem h]
  simp [List.getElem?_eq_getElem (show k < l.length by omega), he]
theorem cmpN_ne (l : List α) (k m : Nat) (hm : m = k + 1) (h : m < l.length) (he : l[m] ≠ l[k]) : cmpN l (m + 1) = cmpN l m ++ [l[m]] := by
  subst hm
  conv => lhs; unfold cmpN
  rw [List.getElem?_eq_getElem h]
  simp [List.getElem?_eq_getElem (show k < l.length by omega), Ne.symm he]
theorem cmpA_le (l : List α) : (cmpA l).length ≤ l.length := cmpN_le l l.length
theorem cmpA_one (l : List α) (h : l.length < 2) : cmpA l = l := by
  match l, h with
  | [], _ => rfl
  | [x], _ => simp [cmpA, cmpN]
end
theorem Cl_ok : EncOk clC 5 := ⟨fun _ => rfl, fun x c hc => by simp [clC] at hc; rcases hc with rfl | rfl | rfl | rfl | rfl <;> rfl⟩
theorem ClR_get (l : List Cl) (pad : List AV) (i : Nat) (h : i < l.length) : ((boxR clC l pad).drop (i * 5)).take 5 = [.i .i64 l[i].kind, .b l[i].strict, .i .i64 l[i].a, .i .i64 l[i].b, .i .i64 l[i].num] := boxR_get Cl_ok l pad i h
theorem ClR_set (l : List Cl) (pad : List AV) (i : Nat) (h : i < l.length) (x : Cl) : (boxR clC l pad).take (i * 5) ++ .i .i64 x.kind :: .b x.strict :: .i .i64 x.a :: .i .i64 x.b :: .i .i64 x.num :: (boxR clC l pad).drop (i * 5 + 5) = boxR clC (l.set i x) pad := boxR_set Cl_ok l pad i h x
theorem Cl_zero : ∀ c ∈ [AV.i .i64 0, .b false, .i .i64 0, .i .i64 0, .i .i64 0], c.calm = true := fun c hc => by simp at hc; rcases hc with rfl | rfl | rfl | rfl | rfl <;> rfl
@[simp] theorem try_eqCl : flatEq Try.prog 50 = some [.int .i64, .bool, .int .i64, .int .i64, .int .i64] := by kernel_rfl
set_option maxRecDepth 8000 in
set_option maxHeartbeats 1000000 in
theorem c_Compact_Cl (l : List Cl) (cap : Nat) (hc : l.length ≤ cap) (hl : l.length ≤ 1000000) (pad : List AV) (hp : pad.length = (cap - l.length) * 5) (hpad : Calm pad) : Proc Try.prog 1 99 [.bs 0 0 l.length cap] [(0, boxR clC l pad)] (.bs 0 0 (cmpA l).length cap) [(0, boxR clC (cmpA l) (zerosL [.i .i64 0, .b false, .i .i64 0, .i .i64 0, .i .i64 0] (l.length - (cmpA l).length) ++ pad))] := by
  have hC : ∀ l', Calm (boxR clC l' pad) := fun l' => boxR_calm Cl_ok hpad
  have hL : ∀ l', (boxR clC l' pad).length = l'.length * 5 + pad.length := fun l' => boxR_len Cl_ok l' pad
  refine proc_of (cxb Try.prog 61 1 [0, 2, 3, 4, 5, 8, 13, 25, 32, 44] [] [2]) 60 [.tmp 2] Try.func99 rfl rfl rfl rfl rfl rfl (Nat.le_refl _) rfl ?_
  refine AWp.go [0] [0] fun K hK => ?_
  simp [hC, hL]
  first | refine hK _ _ ?_ | refine ⟨by omega, hK _ _ ?_⟩ | refine ⟨by omega, by omega, hK _ _ ?_⟩
  clear hK K
  refine AWp.seq ?_
  refine AWp.go [0, 8] [0] fun K hK => ?_
  simp [hC, hL]
  first | refine hK _ _ ?_ | refine ⟨by omega, hK _ _ ?_⟩ | refine ⟨by omega, by omega, hK _ _ ?_⟩
  clear hK K
  by_cases h : 2 ≤ l.length
  · refine AWp.cond (t := false) (by first | (simp [h]; done) | (simp [h]; omega)) (by simp) (fun _ => ?_)
    refine AWp.skip ?_
    show AWp _ _ _ _
    refine AWp.seq ?_
    refine AWp.go [0, 3] [0] fun K hK => ?_
    simp [hC, hL]
    first | refine hK _ _ ?_ | refine ⟨by omega, hK _ _ ?_⟩ | refine ⟨by omega, by omega, hK _ _ ?_⟩
    clear hK K
    refine AWp.block (AWp.while (fun i : Nat => [(0, .bs 0 0 l.length cap), (3, .i .i64 (i + 1))]) (fun i => [(0, boxR clC l pad)]) (fun i => i + 1 ≤ l.length ∧ cmpN l (i + 1) = l.take (i + 1)) (fun i => l.length - i) [0, 3] [0] 0 (by exact ⟨by omega, by simp [cmpN, List.getElem?_eq_getElem (show 0 < l.length by omega)]; rw [List.take_succ_eq_append_getElem (show 0 < l.length by omega)]; simp⟩) (by simp [hC, hL]) ?_)
    intro i hi
    refine AWp.seq ?_
    refine AWp.go [0, 3, 13] [0] fun K hK => ?_
    simp [hC, hL]
    first | refine hK _ _ ?_ | refine ⟨by omega, hK _ _ ?_⟩ | refine ⟨by omega, by omega, hK _ _ ?_⟩
    clear hK K
    by_cases h : i + 1 < l.length
    · refine AWp.cond (t := true) (by first | (simp [h]; done) | (simp [h]; omega)) (fun _ => ?_) (by simp)
      have w1 : IntKind.i64.wrap ((i : Int) + 1) = i + 1 := wrap64 (by omega) (by omega)
      have w0 : IntKind.i64.wrap (i : Int) = i := wrap64 (by omega) (by omega)
      refine AWp.skip ?_
      show AWp _ _ _ _
      refine AWp.seq ?_
      refine AWp.block ?_
      refine AWp.stepD 10 (fun _ => .any) [0, 3, 25] [0] [(0, .bs 0 0 l.length cap), (3, .i .i64 (i + 1)), (25, .b (decide (l[i + 1] = l[i])))] [(0, boxR clC l pad)] mix (by kernel_rfl) ?_ ?_
      · simp [w1, w0, hC, hL, ClR_get l pad (i + 1) h, ClR_get l pad i (by omega)]
        refine ⟨by omega, by omega, by omega, by omega, ?_⟩
        simp [Cl.eq_iff, bbeq]
      by_cases he : l[i + 1] = l[i]
      · refine AWp.cond (t := true) (by first | (simp [he]; done) | (simp [he]; omega)) (fun _ => ?_) (by simp)
        have hc0 : cmpN l (i + 2) = l.take (i + 1) := by rw [cmpN_eq l i (i + 1) rfl h he, hi.2]
        refine AWp.step [0, 3, 4] [0] [(0, .bs 0 0 l.length cap), (3, .i .i64 (i + 1)), (4, .bs 0 ((i + 1) * 5) (l.length - (i + 1)) (cap - (i + 1)))] [(0, boxR clC l pad)] ?_ ?_
        · simp [w1, w0, hC, hL]
          omega
        refine AWp.seq ?_
        refine AWp.go [0, 3, 4, 5] [0] fun K hK => ?_
        simp [hC, hL]
        first | refine hK _ _ ?_ | refine ⟨by omega, hK _ _ ?_⟩ | refine ⟨by omega, by omega, hK _ _ ?_⟩
        clear hK K
        refine AWp.block (AWp.while (fun p : Nat × List Cl => [(0, .bs 0 0 l.length cap), (3, .i .i64 (cmpN l (i + 2 + p.1)).length), (4, .bs 0 ((i + 1) * 5) (l.length - (i + 1)) (cap - (i + 1))), (5, .i .i64 (p.1 + 1))]) (fun p => [(0, boxR clC p.2 pad)]) (fun p => p.2.length = l.length ∧ i + 2 + p.1 ≤ l.length ∧ (cmpN l (i + 2 + p.1)).length ≤ i + 1 + p.1 ∧ p.2.take (cmpN l (i + 2 + p.1)).length = cmpN l (i + 2 + p.1) ∧ ∀ k, i + 1 + p.1 ≤ k → p.2[k]? = l[k]?) (fun p => l.length - p.1) [0, 3, 4, 5] [0] (0, l) (by exact ⟨rfl, by dsimp only; omega, by simp [hc0]; omega, by simp [hc0], fun _ _ => rfl⟩) (by simp [hc0, hC]; omega) ?_)
        rintro ⟨j, c⟩ ⟨hcl, hj2, hk3, hj3, hj4⟩
        dsimp only at hcl hj2 hk3 hj3 hj4
        try dsimp only
        refine AWp.seq ?_
        refine AWp.go [0, 3, 4, 5, 32] [0] fun K hK => ?_
        simp [hC, hL]
        first | refine hK _ _ ?_ | refine ⟨by omega, hK _ _ ?_⟩ | refine ⟨by omega, by omega, hK _ _ ?_⟩
        clear hK K
        by_cases h3 : i + 2 + j < l.length
        · refine AWp.cond (t := true) (by first | (simp [h3]; done) | (simp [h3]; omega)) (fun _ => ?_) (by simp)
          have v1 : IntKind.i64.wrap ((j : Int) + 1) = j + 1 := wrap64 (by omega) (by omega)
          have v0 : IntKind.i64.wrap (j : Int) = j := wrap64 (by omega) (by omega)
          have v2 : IntKind.i64.wrap ((j : Int) + 1 + 1) = j + 1 + 1 := wrap64 (by omega) (by omega)
          have hle := cmpN_le l (i + 2 + j)
          have v3 : IntKind.i64.wrap (((cmpN l (i + 2 + j)).length : Int) + 1) = (cmpN l (i + 2 + j)).length + 1 := wrap64 (by omega) (by omega)
          have q1 : c[i + 2 + j]'(by omega) = l[i + 2 + j] := by have := hj4 (i + 2 + j) (by omega); rw [List.getElem?_eq_getElem (by omega), List.getElem?_eq_getElem (by omega)] at this; exact Option.some.inj this
          have q2 : c[i + 1 + j]'(by omega) = l[i + 1 + j] := by have := hj4 (i + 1 + j) (by omega); rw [List.getElem?_eq_getElem (by omega), List.getElem?_eq_getElem (by omega)] at this; exact Option.some.inj this
          have g1 := ClR_get c pad (i + 2 + j) (by omega)
          rw [q1] at g1
          have e5 : i + 1 + (j + 1) = i + 2 + j := by omega
          have g2 := ClR_get c pad (i + 1 + j) (by omega)
          rw [q2] at g2
          refine AWp.skip ?_
          show AWp _ _ _ _
          refine AWp.seq ?_
          refine AWp.block ?_
          refine AWp.stepD 10 (fun _ => .any) [0, 3, 4, 5, 44] [0] [(0, .bs 0 0 l.length cap), (3, .i .i64 (cmpN l (i + 2 + j)).length), (4, .bs 0 ((i + 1) * 5) (l.length - (i + 1)) (cap - (i + 1))), (5, .i .i64 (j + 1)), (44, .b (!decide (l[i + 2 + j] = l[i + 1 + j])))] [(0, boxR clC c pad)] mix (by kernel_rfl) ?_ ?_
          · simp [hC, hL, v1, v0, ← Nat.add_mul, e5, g1, g2]
            refine ⟨by omega, by omega, by omega, by omega, ?_⟩
            simp [Cl.eq_iff, bbeq]
          by_cases he2 : l[i + 2 + j] = l[i + 1 + j]
          · refine AWp.cond (t := false) (by first | (simp [he2]; done) | (simp [he2]; omega)) (by simp) (fun _ => ?_)
            refine AWp.skip ?_
            show AWp _ _ _ _
            refine AWp.goLast [0, 3, 4, 5] [0] fun K hK => ?_
            simp [hC, hL]
            first | refine hK _ _ ?_ | refine ⟨by omega, hK _ _ ?_⟩ | refine ⟨by omega, by omega, hK _ _ ?_⟩
            clear hK K
            have hcn : cmpN l (i + 2 + j + 1) = cmpN l (i + 2 + j) := cmpN_eq l (i + 1 + j) (i + 2 + j) (by omega) h3 he2
            refine ⟨(j + 1, c), ⟨hcl, by dsimp only; omega, ?_, ?_, ?_⟩, by dsimp only; omega, ?_⟩
            · dsimp only; rw [show i + 2 + (j + 1) = i + 2 + j + 1 by omega, hcn]; omega
            · dsimp only; rw [show i + 2 + (j + 1) = i + 2 + j + 1 by omega, hcn]; exact hj3
            · intro k hk
              exact hj4 k (by dsimp only at hk; omega)
            · simp [hC, v2, show i + 2 + (j + 1) = i + 2 + j + 1 by omega, hcn]
          · refine AWp.cond (t := true) (by first | (simp [he2]; done) | (simp [he2]; omega)) (fun _ => ?_) (by simp)
            refine AWp.step [0, 3, 4, 5] [0] [(0, .bs 0 0 l.length cap), (3, .i .i64 (cmpN l (i + 2 + j)).length), (4, .bs 0 ((i + 1) * 5) (l.length - (i + 1)) (cap - (i + 1))), (5, .i .i64 (j + 1))] [(0, boxR clC (c.set (cmpN l (i + 2 + j)).length l[i + 2 + j]) pad)] ?_ ?_
            · have hs := ClR_set c pad (cmpN l (i + 2 + j)).length (by omega) l[i + 2 + j]
              simp [hC, hL, v1, v0, ← Nat.add_mul, e5, g1, g2, hs]
              omega
            refine AWp.goLast [0, 3, 4, 5] [0] fun K hK => ?_
            simp [hC, hL]
            first | refine hK _ _ ?_ | refine ⟨by omega, hK _ _ ?_⟩ | refine ⟨by omega, by omega, hK _ _ ?_⟩
            clear hK K
            show AWp _ _ _ _
            refine AWp.goLast [0, 3, 4, 5] [0] fun K hK => ?_
            simp [hC, hL]
            first | refine hK _ _ ?_ | refine ⟨by omega, hK _ _ ?_⟩ | refine ⟨by omega, by omega, hK _ _ ?_⟩
            clear hK K
            have hcn : cmpN l (i + 2 + j + 1) = cmpN l (i + 2 + j) ++ [l[i + 2 + j]] := cmpN_ne l (i + 1 + j) (i + 2 + j) (by omega) h3 he2
            refine ⟨(j + 1, c.set (cmpN l (i + 2 + j)).length l[i + 2 + j]), ⟨by simpa using hcl, by dsimp only; omega, ?_, ?_, ?_⟩, by dsimp only; omega, ?_⟩
            · dsimp only; rw [show i + 2 + (j + 1) = i + 2 + j + 1 by omega, hcn]; simp; omega
            · dsimp only; rw [show i + 2 + (j + 1) = i + 2 + j + 1 by omega, hcn, List.length_append, List.length_singleton, List.take_succ_eq_append_getElem (by simp; omega), List.getElem_set_self, List.take_set_of_le (Nat.le_refl _), hj3]
            · intro k hk
              dsimp only at hk
              rw [List.getElem?_set_ne (by omega)]
              exact hj4 k (by omega)
            · simp [hC, v2, v3, show i + 2 + (j + 1) = i + 2 + j + 1 by omega, hcn]
        · refine AWp.cond (t := false) (by first | (simp [h3]; done) | (simp [h3]; omega)) (by simp) (fun _ => ?_)
          refine AWp.exit ?_
          show AWp _ _ _ _
          have hjn : i + 2 + j = l.length := by omega
          have hD : cmpN l (i + 2 + j) = cmpA l := by rw [hjn]; rfl
          rw [hD] at hj3 hk3
          have hcl2 := boxR_clear Cl_ok c pad (zerosL [.i .i64 0, .b false, .i .i64 0, .i .i64 0, .i .i64 0] (l.length - (cmpA l).length)) (cmpA l).length (by omega) (by rw [zerosL_length, hcl]; rfl)
          rw [hj3] at hcl2
          have hC2 : ∀ l' n, Calm (boxR clC l' (zerosL [.i .i64 0, .b false, .i .i64 0, .i .i64 0, .i .i64 0] n ++ pad)) := fun l' n => boxR_calm Cl_ok ((Calm.zeros (fun c hc => by exact Cl_zero c hc) n).append hpad)
          refine AWp.step [0, 3] [0] [(0, .bs 0 0 l.length cap), (3, .i .i64 (cmpA l).length)] [(0, boxR clC (cmpA l) (zerosL [.i .i64 0, .b false, .i .i64 0, .i .i64 0, .i .i64 0] (l.length - (cmpA l).length) ++ pad))] ?_ ?_
          · simp [hC, hL, hD, show ¬ cap = (cmpA l).length by omega, zerosL_length] at hcl2 ⊢
            simp [hcl2, hC2]
            refine ⟨by omega, by omega, (((hC c).drop _).take _).freeL⟩
          refine AWp.go [2] [0] fun K hK => ?_
          simp [hC2, hC, hL]
          refine ⟨by omega, hK _ _ ?_⟩
          clear hK K
          refine AWp.ret ?_
          simp [hC2]
          intro x hx
          simpa using (hC2 _ _).still x hx
      · refine AWp.cond (t := false) (by first | (simp [he]; done) | (simp [he]; omega)) (by simp) (fun _ => ?_)
        refine AWp.skip ?_
        show AWp _ _ _ _
        refine AWp.goLast [0, 3] [0] fun K hK => ?_
        simp [hC, hL]
        first | refine hK _ _ ?_ | refine ⟨by omega, hK _ _ ?_⟩ | refine ⟨by omega, by omega, hK _ _ ?_⟩
        clear hK K
        refine ⟨i + 1, ⟨by omega, ?_⟩, by omega, ?_⟩
        · rw [cmpN_ne l i (i + 1) rfl h he, hi.2, ← List.take_succ_eq_append_getElem h]
        · have w2 : IntKind.i64.wrap ((i : Int) + 1 + 1) = i + 1 + 1 := wrap64 (by omega) (by omega)
          simp [w2, hC]
    · refine AWp.cond (t := false) (by first | (simp [h]; done) | (simp [h]; omega)) (by simp) (fun _ => ?_)
      refine AWp.exit ?_
      show AWp _ _ _ _
      have hcd : cmpA l = l := by
        have hii : i + 1 = l.length := by omega
        rw [cmpA, ← hii, hi.2, hii, List.take_length]
      refine AWp.go [2] [0] fun K hK => ?_
      simp [hC, hL]
      first | refine hK _ _ ?_ | refine ⟨by omega, hK _ _ ?_⟩ | refine ⟨by omega, by omega, hK _ _ ?_⟩
      clear hK K
      refine AWp.ret ?_
      simp [hcd, zerosL, hC]
      intro x hx
      simpa using (hC l).still x hx
  · refine AWp.cond (t := true) (by first | (simp [h]; done) | (simp [h]; omega)) (fun _ => ?_) (by simp)
    refine AWp.go [2] [0] fun K hK => ?_
    simp [hC, hL]
    first | refine hK _ _ ?_ | refine ⟨by omega, hK _ _ ?_⟩ | refine ⟨by omega, by omega, hK _ _ ?_⟩
    clear hK K
    refine AWp.ret ?_
    have hcd : cmpA l = l := cmpA_one l (by omega)
    simp [hcd, zerosL, hC]
    intro x hx
    simpa using (hC l).still x hx
theorem Cl_data (l : List Cl) : ((clsAV l).flatten.all fun c => c.data && c.cellOk) = true := by
  rw [List.all_eq_true]
  intro c hc
  obtain ⟨y, hy, hc⟩ := List.mem_flatten.1 hc
  obtain ⟨x, _, rfl⟩ := List.mem_map.1 hy
  simp [clC] at hc
  rcases hc with rfl | rfl | rfl | rfl | rfl <;> rfl
theorem h_Compact_Cl (l : List Cl) (hl : l.length ≤ 1000000) : HProc Try.prog 99 5 (clsAV l) [] (clsAV (cmpA l)) := by
  refine hproc_box rfl rfl (fun z hz => ?_) (Cl_data _) (by simpa using cmpA_le l) fun cap hcap => ⟨zerosL [.i .i64 0, .b false, .i .i64 0, .i .i64 0, .i .i64 0] (l.length - (cmpA l).length) ++ List.replicate ((cap - l.length) * 5) .any, ?_, ?_⟩
  · obtain ⟨x, _, rfl⟩ := List.mem_map.1 hz; rfl
  · have h3 := cmpA_le l
    have h4 := rows_len Cl_ok (cmpA l)
    have h5 : ((clsAV (cmpA l)).flatten).length = (cmpA l).length * 5 := h4
    simp at hcap
    simp only [List.length_append, zerosL_length, List.length_replicate, h5]
    simp; omega
  · simp at hcap
    have := c_Compact_Cl l cap hcap hl (List.replicate ((cap - l.length) * 5) .any) (by simp) (Calm.replicate _ rfl)
    simpa [boxR, clsAV] using this
theorem c_insertion0_Cl (g sz : Nat) : Pure Try.prog 148 [.sl .fro sz [], .i .i64 0, .i .i64 0, .fn g [] []] (.tup []) := by
  refine proc_of (cx Try.prog 53 [0, 1, 2, 3, 8, 9, 14, 34] []) 49 [] Try.func148 rfl rfl rfl rfl rfl rfl (Nat.le_refl _) rfl ?_
  refine AWp.go [0, 1, 2, 3, 8] [] fun K hK => ?_
  simp
  first | refine hK _ _ ?_ | refine ⟨by omega, hK _ _ ?_⟩ | refine ⟨by omega, by omega, hK _ _ ?_⟩
  clear hK K
  refine AWp.block (AWp.while (fun i : Nat => [(0, .sl .fro sz []), (1, .i .i64 0), (2, .i .i64 0), (3, .fn g [] []), (8, .i .i64 1)]) (fun i => []) (fun i => True) (fun i => 0) [0, 1, 2, 3, 8] [] 0 (by simp) (by simp) ?_)
  intro i hi
  refine AWp.seq ?_
  refine AWp.go [0, 1, 2, 3, 8, 14] [] fun K hK => ?_
  simp
  first | refine hK _ _ ?_ | refine ⟨by omega, hK _ _ ?_⟩ | refine ⟨by omega, by omega, hK _ _ ?_⟩
  clear hK K
  refine AWp.cond (t := false) (by first | (simp; done) | (simp; omega)) (by simp) (fun _ => ?_)
  refine AWp.exit ?_
  simp
theorem c_pdq0_Cl (g sz : Nat) : Pure Try.prog 133 [.sl .fro sz [], .i .i64 0, .i .i64 0, .i .i64 0, .fn g [] []] (.tup []) := by
  refine proc_of (cx Try.prog 148 [0, 1, 2, 3, 4, 10, 11, 12, 13, 14, 15, 16, 17, 18, 19, 20, 25, 32, 39, 56, 75, 80, 97, 125] []) 143 [] Try.func133 rfl rfl rfl rfl rfl rfl (Nat.le_refl _) rfl ?_
  refine AWp.go [0, 1, 2, 3, 4, 10] [] fun K hK => ?_
  simp
  first | refine hK _ _ ?_ | refine ⟨by omega, hK _ _ ?_⟩ | refine ⟨by omega, by omega, hK _ _ ?_⟩
  clear hK K
  refine AWp.go [0, 1, 2, 3, 4, 10, 11] [] fun K hK => ?_
  simp
  first | refine hK _ _ ?_ | refine ⟨by omega, hK _ _ ?_⟩ | refine ⟨by omega, by omega, hK _ _ ?_⟩
  clear hK K
  refine AWp.block (AWp.while (fun i : Nat => [(0, .sl .fro sz []), (1, .i .i64 0), (2, .i .i64 0), (3, .i .i64 0), (4, .fn g [] []), (10, .b true), (11, .b true)]) (fun i => []) (fun i => True) (fun i => 0) [0, 1, 2, 3, 4, 10, 11] [] 0 (by simp) (by simp) ?_)
  intro i hi
  refine AWp.block ?_
  refine AWp.go [0, 1, 2, 3, 4, 10, 11, 12] [] fun K hK => ?_
  simp
  first | refine hK _ _ ?_ | refine ⟨by omega, hK _ _ ?_⟩ | refine ⟨by omega, by omega, hK _ _ ?_⟩
  clear hK K
  refine AWp.seq ?_
  refine AWp.go [0, 1, 2, 3, 4, 10, 11, 12, 25] [] fun K hK => ?_
  simp
  first | refine hK _ _ ?_ | refine ⟨by omega, hK _ _ ?_⟩ | refine ⟨by omega, by omega, hK _ _ ?_⟩
  clear hK K
  refine AWp.cond (t := true) (by first | (simp; done) | (simp; omega)) (fun _ => ?_) (by simp)
  refine AWp.go [] [] fun K hK => ?_
  simp
  refine call_pure (c_insertion0_Cl g sz) (by simp) ?_
  simp
  first | refine hK _ _ ?_ | refine ⟨by omega, hK _ _ ?_⟩ | refine ⟨by omega, by omega, hK _ _ ?_⟩
  clear hK K
  refine AWp.ret ?_
  simp
theorem c_SortFunc0_Cl (g sz : Nat) : Pure Try.prog 97 [.sl .fro sz [], .fn g [] []] (.tup []) := by
  refine proc_of (cx Try.prog 14 [0, 1, 4] []) 12 [] Try.func97 rfl rfl rfl rfl rfl rfl (Nat.le_refl _) rfl ?_
  refine AWp.go [0, 1, 4] [] fun K hK => ?_
  simp
  first | refine hK _ _ ?_ | refine ⟨by omega, hK _ _ ?_⟩ | refine ⟨by omega, by omega, hK _ _ ?_⟩
  clear hK K
  refine AWp.goLast [] [] fun K hK => ?_
  simp
  refine call_pure (c_Len_0) (by simp) ?_
  simp
  refine call_pure (c_pdq0_Cl g sz) (by simp) ?_
  simp
  first | refine hK _ _ ?_ | refine ⟨by omega, hK _ _ ?_⟩ | refine ⟨by omega, by omega, hK _ _ ?_⟩
  clear hK K
  simp
end Go.AM
namespace Go.AM
open Go.Proofs
def turnC (c : Cl) : Cl := if c.kind = 5 ∧ c.b < c.a then ⟨c.kind, c.strict, c.b, c.a, c.num⟩ else c
set_option maxRecDepth 8000 in
theorem c_norm_turned (c : Cl) : Pure Try.prog 96 [.agg (clC c)] (.agg (clC (turnC c))) := by
  refine proc_of (cx Try.prog 20 [1, 2, 12] [2]) 19 [.cell 2 50] Try.func96 rfl rfl rfl rfl rfl rfl (Nat.le_refl _) rfl ?_
  refine AWp.go [1, 2] [1, 2] fun K hK => ?_
  simp [clC]
  first | refine hK _ _ ?_ | refine ⟨by omega, hK _ _ ?_⟩ | refine ⟨by omega, by omega, hK _ _ ?_⟩
  clear hK K
  refine AWp.seq ?_
  refine AWp.step [1, 2, 12] [1, 2] [(1, .ptr 1 0), (2, .ptr 2 0), (12, .b (decide (c.kind = 5) && decide (c.b < c.a)))] [(1, [.i .i64 c.kind, .b c.strict, .i .i64 c.a, .i .i64 c.b, .i .i64 c.num]), (2, [.i .i64 0, .b false, .i .i64 0, .i .i64 0, .i .i64 0])] ?_ ?_
  · by_cases q : c.kind = 5 <;> simp [q]
  cases hh : decide (c.kind = 5) && decide (c.b < c.a)
  · refine AWp.cond (t := false) (by simp) (by simp) (fun _ => ?_)
    refine AWp.skip ?_
    show AWp _ _ _ _
    have e : turnC c = c := by
      rw [turnC, if_neg]
      simp only [Bool.and_eq_false_iff, decide_eq_false_iff_not] at hh
      omega
    refine AWp.go [2] [1, 2] fun K hK => ?_
    simp
    first | refine hK _ _ ?_ | refine ⟨by omega, hK _ _ ?_⟩ | refine ⟨by omega, by omega, hK _ _ ?_⟩
    clear hK K
    refine AWp.ret ?_
    simp [e, clC]
  · refine AWp.cond (t := true) (by simp) (fun _ => ?_) (by simp)
    refine AWp.goLast [1, 2] [1, 2] fun K hK => ?_
    simp
    first | refine hK _ _ ?_ | refine ⟨by omega, hK _ _ ?_⟩ | refine ⟨by omega, by omega, hK _ _ ?_⟩
    clear hK K
    show AWp _ _ _ _
    have e : turnC c = ⟨c.kind, c.strict, c.b, c.a, c.num⟩ := by
      rw [turnC, if_pos]
      simpa using hh
    refine AWp.go [2] [1, 2] fun K hK => ?_
    simp
    first | refine hK _ _ ?_ | refine ⟨by omega, hK _ _ ?_⟩ | refine ⟨by omega, by omega, hK _ _ ?_⟩
    clear hK K
    refine AWp.ret ?_
    simp [e, clC]
def overB (c d : Cl) : Bool := decide (c.kind = d.kind) && decide (c.a = d.a) && decide (c.b = d.b) && !decide (c = d) && (if c.kind = 6 ∨ c.kind = 7 then decide (d.num < c.num) else decide (c.num = d.num) && d.strict)
set_option maxRecDepth 8000 in
set_option maxHeartbeats 4000000 in
theorem c_norm_over (c d : Cl) : Pure Try.prog 101 [.agg (clC c), .agg (clC d)] (.b (overB c d)) := by
  refine proc_of (cx Try.prog 51 [2, 3, 4, 28, 36] [4]) 49 [.tmp 4] Try.func101 rfl rfl rfl rfl rfl rfl (Nat.le_refl _) rfl ?_
  refine AWp.go [2, 3] [2, 3] fun K hK => ?_
  simp [clC]
  first | refine hK _ _ ?_ | refine ⟨by omega, hK _ _ ?_⟩ | refine ⟨by omega, by omega, hK _ _ ?_⟩
  clear hK K
  refine AWp.seq ?_
  refine AWp.step [2, 3, 28] [2, 3] [(2, .ptr 2 0), (3, .ptr 3 0), (28, .b (!(decide (c.kind = d.kind) && decide (c.a = d.a) && decide (c.b = d.b) && !decide (c = d))))] [(2, [.i .i64 c.kind, .b c.strict, .i .i64 c.a, .i .i64 c.b, .i .i64 c.num]), (3, [.i .i64 d.kind, .b d.strict, .i .i64 d.a, .i .i64 d.b, .i .i64 d.num])] ?_ ?_
  · by_cases q1 : c.kind = d.kind
    · by_cases q2 : c.a = d.a
      · by_cases q3 : c.b = d.b
        · simp [q1, q2, q3, Cl.eq_iff, bbeq]
        · simp [q1, q2, q3]
      · simp [q1, q2]
    · simp [q1]
  cases hh : decide (c.kind = d.kind) && decide (c.a = d.a) && decide (c.b = d.b) && !decide (c = d)
  · refine AWp.cond (t := true) (by simp) (fun _ => ?_) (by simp)
    have e : overB c d = false := by rw [overB, hh]; rfl
    refine AWp.go [4] [2, 3] fun K hK => ?_
    simp
    first | refine hK _ _ ?_ | refine ⟨by omega, hK _ _ ?_⟩ | refine ⟨by omega, by omega, hK _ _ ?_⟩
    clear hK K
    refine AWp.ret ?_
    simp [e]
  · refine AWp.cond (t := false) (by simp) (by simp) (fun _ => ?_)
    refine AWp.skip ?_
    show AWp _ _ _ _
    refine AWp.seq ?_
    have e : overB c d = (if c.kind = 6 ∨ c.kind = 7 then decide (d.num < c.num) else decide (c.num = d.num) && d.strict) := by rw [overB, hh, Bool.true_and]
    rw [e]
    refine AWp.step [2, 3, 36] [2, 3] [(2, .ptr 2 0), (3, .ptr 3 0), (36, .b (decide (c.kind = 6) || decide (c.kind = 7)))] [(2, [.i .i64 c.kind, .b c.strict, .i .i64 c.a, .i .i64 c.b, .i .i64 c.num]), (3, [.i .i64 d.kind, .b d.strict, .i .i64 d.a, .i .i64 d.b, .i .i64 d.num])] ?_ ?_
    · by_cases q : c.kind = 6 <;> simp [q]
    cases h6 : decide (c.kind = 6) || decide (c.kind = 7)
    · refine AWp.cond (t := false) (by simp) (by simp) (fun _ => ?_)
      refine AWp.skip ?_
      show AWp _ _ _ _
      rw [if_neg (by simpa using h6)]
      refine AWp.step [4] [2, 3] [(4, .b (decide (c.num = d.num) && d.strict))] [(2, [.i .i64 c.kind, .b c.strict, .i .i64 c.a, .i .i64 c.b, .i .i64 c.num]), (3, [.i .i64 d.kind, .b d.strict, .i .i64 d.a, .i .i64 d.b, .i .i64 d.num])] ?_ ?_
      · by_cases q : c.num = d.num <;> simp [q]
      refine AWp.ret ?_
      simp
    · refine AWp.cond (t := true) (by simp) (fun _ => ?_) (by simp)
      rw [if_pos (by simpa using h6)]
      refine AWp.go [4] [2, 3] fun K hK => ?_
      simp
      first | refine hK _ _ ?_ | refine ⟨by omega, hK _ _ ?_⟩ | refine ⟨by omega, by omega, hK _ _ ?_⟩
      clear hK K
      refine AWp.ret ?_
      simp
set_option maxRecDepth 8000 in
theorem c_norm_clauses1 (c d : Cl) : Proc Try.prog 1 100 [.agg (clC d), .ptr 0 0] [(0, [.i .i64 c.kind, .b c.strict, .i .i64 c.a, .i .i64 c.b, .i .i64 c.num])] (.b (overB c d)) [(0, [.i .i64 c.kind, .b c.strict, .i .i64 c.a, .i .i64 c.b, .i .i64 c.num])] := by
  have g := c_norm_over c d
  simp [clC] at g
  refine proc_of (cxb Try.prog 7 1 [1, 2, 3] [] [3]) 5 [.tmp 3] Try.func100 rfl rfl rfl rfl rfl rfl (Nat.le_refl _) rfl ?_
  refine AWp.go [1, 2] [0, 3] fun K hK => ?_
  simp [clC]
  first | refine hK _ _ ?_ | refine ⟨by omega, hK _ _ ?_⟩ | refine ⟨by omega, by omega, hK _ _ ?_⟩
  clear hK K
  refine AWp.go [3] [0] fun K hK => ?_
  simp
  refine call_pure g (by simp) ?_
  simp
  first | refine hK _ _ ?_ | refine ⟨by omega, hK _ _ ?_⟩ | refine ⟨by omega, by omega, hK _ _ ?_⟩
  clear hK K
  refine AWp.ret ?_
  simp
theorem calm_clK (c : Cl) : Calm [.i .i64 c.kind, .b c.strict, .i .i64 c.a, .i .i64 c.b, .i .i64 c.num] := fun x hx => by
  simp at hx; rcases hx with rfl | rfl | rfl | rfl | rfl <;> rfl
def allCl (l : List Cl) : List Cl := cmpA (sortCl (l.map turnC))
def clausesP (l : List Cl) : List Cl := (allCl l).filter fun c => !(allCl l).any (overB c)
theorem sortCl_len (l : List Cl) : (sortCl l).length = l.length := by simp [sortCl, List.length_mergeSort]
theorem allCl_len (l : List Cl) : (allCl l).length ≤ l.length := by
  have := cmpA_le (sortCl (l.map turnC))
  rw [sortCl_len, List.length_map] at this
  exact this
theorem clsAV_snoc (l : List Cl) (c : Cl) : clsAV (l ++ [c]) = clsAV l ++ [[.i .i64 c.kind, .b c.strict, .i .i64 c.a, .i .i64 c.b, .i .i64 c.num]] := by unfold clsAV; rw [List.map_append]; rfl
theorem filter_snoc {α : Type} (l : List α) (p : α → Bool) (i : Nat) (h : i < l.length) : (l.take (i + 1)).filter p = if p l[i] then (l.take i).filter p ++ [l[i]] else (l.take i).filter p := by
  rw [List.take_succ_eq_append_getElem h, List.filter_append]
  cases hp : p l[i] <;> simp [hp]
theorem c_Compact0_Cl : Pure Try.prog 99 [.sl .fro 5 []] (.sl .fro 5 []) := by
  refine proc_of (cx Try.prog 61 [0, 2, 3, 4, 5, 8, 13, 25, 32, 44] [2]) 60 [.tmp 2] Try.func99 rfl rfl rfl rfl rfl rfl (Nat.le_refl _) rfl ?_
  refine AWp.go [0] [] fun K hK => ?_
  simp
  first | refine hK _ _ ?_ | refine ⟨by omega, hK _ _ ?_⟩ | refine ⟨by omega, by omega, hK _ _ ?_⟩
  clear hK K
  refine AWp.seq ?_
  refine AWp.go [0, 8] [] fun K hK => ?_
  simp
  first | refine hK _ _ ?_ | refine ⟨by omega, hK _ _ ?_⟩ | refine ⟨by omega, by omega, hK _ _ ?_⟩
  clear hK K
  refine AWp.cond (t := true) (by first | (simp; done) | (simp; omega)) (fun _ => ?_) (by simp)
  refine AWp.go [2] [] fun K hK => ?_
  simp
  first | refine hK _ _ ?_ | refine ⟨by omega, hK _ _ ?_⟩ | refine ⟨by omega, by omega, hK _ _ ?_⟩
  clear hK K
  refine AWp.ret ?_
  simp
set_option maxRecDepth 8000 in
set_option maxHeartbeats 2000000 in
theorem c_norm_clauses0 : Pure Try.prog 53 [.sl .fro 5 []] (.sl .own 5 []) := by
  refine proc_of (cx Try.prog 41 [0, 2, 3, 5, 6, 8, 9, 10, 11, 12, 25, 26, 27, 28, 34] [2]) 40 [.tmp 2] Try.func53 rfl rfl rfl rfl rfl rfl (Nat.le_refl _) rfl ?_
  refine AWp.go [0] [] fun K hK => ?_
  simp
  first | refine hK _ _ ?_ | refine ⟨by omega, hK _ _ ?_⟩ | refine ⟨by omega, by omega, hK _ _ ?_⟩
  clear hK K
  refine AWp.go [0, 3] [] fun K hK => ?_
  simp
  first | refine hK _ _ ?_ | refine ⟨by omega, hK _ _ ?_⟩ | refine ⟨by omega, by omega, hK _ _ ?_⟩
  clear hK K
  refine AWp.seq ?_
  refine AWp.go [3, 9, 10, 11] [] fun K hK => ?_
  simp
  first | refine hK _ _ ?_ | refine ⟨by omega, hK _ _ ?_⟩ | refine ⟨by omega, by omega, hK _ _ ?_⟩
  clear hK K
  refine AWp.block (AWp.while (fun i : Nat => [(3, .sl .nl 5 []), (9, .sl .fro 5 []), (10, .i .i64 0), (11, .i .i64 0)]) (fun i => []) (fun i => True) (fun i => 0) [3, 9, 10, 11] [] 0 (by simp) (by simp) ?_)
  intro i hi
  refine AWp.go [3, 9, 10, 11, 12] [] fun K hK => ?_
  simp
  first | refine hK _ _ ?_ | refine ⟨by omega, hK _ _ ?_⟩ | refine ⟨by omega, by omega, hK _ _ ?_⟩
  clear hK K
  refine AWp.seq ?_
  refine AWp.cond (t := false) (by first | (simp; done) | (simp; omega)) (by simp) (fun _ => ?_)
  refine AWp.exit ?_
  show AWp _ _ _ _
  refine AWp.go [3] [] fun K hK => ?_
  simp
  refine call_pure (c_SortFunc0_Cl 98 5) (by simp) ?_
  simp
  first | refine hK _ _ ?_ | refine ⟨by omega, hK _ _ ?_⟩ | refine ⟨by omega, by omega, hK _ _ ?_⟩
  clear hK K
  refine AWp.go [3] [] fun K hK => ?_
  simp
  refine call_pure (c_Compact0_Cl) (by simp) ?_
  simp
  first | refine hK _ _ ?_ | refine ⟨by omega, hK _ _ ?_⟩ | refine ⟨by omega, by omega, hK _ _ ?_⟩
  clear hK K
  refine AWp.go [3, 6] [] fun K hK => ?_
  simp
  first | refine hK _ _ ?_ | refine ⟨by omega, hK _ _ ?_⟩ | refine ⟨by omega, by omega, hK _ _ ?_⟩
  clear hK K
  refine AWp.seq ?_
  refine AWp.go [3, 6, 25, 26, 27] [] fun K hK => ?_
  simp
  first | refine hK _ _ ?_ | refine ⟨by omega, hK _ _ ?_⟩ | refine ⟨by omega, by omega, hK _ _ ?_⟩
  clear hK K
  refine AWp.block (AWp.while (fun i : Nat => [(3, .sl .fro 5 []), (6, .sl .nl 5 []), (25, .sl .fro 5 []), (26, .i .i64 0), (27, .i .i64 0)]) (fun i => []) (fun i => True) (fun i => 0) [3, 6, 25, 26, 27] [] 0 (by simp) (by simp) ?_)
  intro i hi
  refine AWp.go [3, 6, 25, 26, 27, 28] [] fun K hK => ?_
  simp
  first | refine hK _ _ ?_ | refine ⟨by omega, hK _ _ ?_⟩ | refine ⟨by omega, by omega, hK _ _ ?_⟩
  clear hK K
  refine AWp.seq ?_
  refine AWp.cond (t := false) (by first | (simp; done) | (simp; omega)) (by simp) (fun _ => ?_)
  refine AWp.exit ?_
  show AWp _ _ _ _
  refine AWp.go [2] [] fun K hK => ?_
  simp
  first | refine hK _ _ ?_ | refine ⟨by omega, hK _ _ ?_⟩ | refine ⟨by omega, by omega, hK _ _ ?_⟩
  clear hK K
  refine AWp.ret ?_
  simp
set_option maxRecDepth 8000 in
set_option maxHeartbeats 4000000 in
theorem c_norm_clausesA (l : List Cl) (hl : l.length ≤ 100000) (h0 : l ≠ []) : Pure Try.prog 53 [.sl .fro 5 (clsAV l)] (.sl .own 5 (clsAV (clausesP l))) := by
  have hpos := List.length_pos_iff.2 h0
  have hal := allCl_len l
  refine proc_of (cx Try.prog 41 [0, 2, 3, 5, 6, 8, 9, 10, 11, 12, 25, 26, 27, 28, 34] [2]) 40 [.tmp 2] Try.func53 rfl rfl rfl rfl rfl rfl (Nat.le_refl _) rfl ?_
  refine AWp.go [0] [] fun K hK => ?_
  simp
  first | refine hK _ _ ?_ | refine ⟨by omega, hK _ _ ?_⟩ | refine ⟨by omega, by omega, hK _ _ ?_⟩
  clear hK K
  refine AWp.go [0, 3] [] fun K hK => ?_
  simp
  first | refine hK _ _ ?_ | refine ⟨by omega, hK _ _ ?_⟩ | refine ⟨by omega, by omega, hK _ _ ?_⟩
  clear hK K
  refine AWp.seq ?_
  refine AWp.go [3, 9, 10, 11] [] fun K hK => ?_
  simp
  first | refine hK _ _ ?_ | refine ⟨by omega, hK _ _ ?_⟩ | refine ⟨by omega, by omega, hK _ _ ?_⟩
  clear hK K
  refine AWp.block (AWp.while (fun i : Nat => [(3, .sl .own 5 (clsAV ((l.map turnC).take i))), (9, .sl .fro 5 (clsAV l)), (10, .i .i64 l.length), (11, .i .i64 i)]) (fun i => []) (fun i => i ≤ l.length) (fun i => l.length - i) [3, 9, 10, 11] [] 0 (by simp) (by simp [clsAV]) ?_)
  intro i hi
  refine AWp.go [3, 9, 10, 11, 12] [] fun K hK => ?_
  simp
  first | refine hK _ _ ?_ | refine ⟨by omega, hK _ _ ?_⟩ | refine ⟨by omega, by omega, hK _ _ ?_⟩
  clear hK K
  refine AWp.seq ?_
  by_cases h : i < l.length
  · refine AWp.cond (t := true) (by first | (simp [h]; done) | (simp [h]; omega)) (fun _ => ?_) (by simp)
    refine AWp.skip ?_
    show AWp _ _ _ _
    refine AWp.seq ?_
    refine AWp.block ?_
    refine AWp.go [3, 5, 9, 10, 11] [5] fun K hK => ?_
    simp [h]
    first | refine hK _ _ ?_ | refine ⟨by omega, hK _ _ ?_⟩ | refine ⟨by omega, by omega, hK _ _ ?_⟩
    clear hK K
    have g := c_norm_turned l[i]
    have hsn : clsAV ((l.map turnC).take (i + 1)) = clsAV ((l.map turnC).take i) ++ [[.i .i64 (turnC l[i]).kind, .b (turnC l[i]).strict, .i .i64 (turnC l[i]).a, .i .i64 (turnC l[i]).b, .i .i64 (turnC l[i]).num]] := by
      rw [List.take_succ_eq_append_getElem (by simpa using h), List.getElem_map, clsAV_snoc]
    simp [clC] at g
    refine AWp.last [3, 9, 10, 11] [] [(3, .sl .own 5 (clsAV ((l.map turnC).take (i + 1)))), (9, .sl .fro 5 (clsAV l)), (10, .i .i64 l.length), (11, .i .i64 i)] [] ?_ ?_
    · simp
      refine call_pure g (by simp) ?_
      simp [hsn]
      omega
    show AWp _ _ _ _
    refine AWp.goLast [3, 9, 10, 11] [] fun K hK => ?_
    simp
    first | refine hK _ _ ?_ | refine ⟨by omega, hK _ _ ?_⟩ | refine ⟨by omega, by omega, hK _ _ ?_⟩
    clear hK K
    refine ⟨i + 1, by omega, by omega, ?_⟩
    simp
    exact wrap64 (by omega) (by omega)
  · refine AWp.cond (t := false) (by first | (simp [h]; done) | (simp [h]; omega)) (by simp) (fun _ => ?_)
    refine AWp.exit ?_
    show AWp _ _ _ _
    obtain rfl : i = l.length := by omega
    rw [List.take_of_length_le (by simp)]
    refine AWp.step [3] [] [(3, .sl .own 5 (clsAV (sortCl (l.map turnC))))] [] ?_ ?_
    · simp
      refine call_lend (l_Sort_Cl (l.map turnC) (by rw [List.length_map]; omega)) ⟨_, rfl, rfl, rfl⟩ (by simpa [clsAV] using h0) (by simp) (by simp) ?_
      simp
    refine AWp.step [3] [] [(3, .sl .own 5 (clsAV (allCl l)))] [] ?_ ?_
    · have hs := sortCl_len (l.map turnC)
      rw [List.length_map] at hs
      simp
      refine call_hand (h_Compact_Cl (sortCl (l.map turnC)) (by omega)) ⟨_, rfl, rfl, rfl⟩ (by intro h; have := congrArg List.length h; rw [clsAV_length, hs, List.length_nil] at this; omega) (by simp) ?_
      simp [allCl]
    refine AWp.frz [3] ?_
    simp
    obtain ⟨A, hA⟩ : ∃ A, A = allCl l := ⟨_, rfl⟩
    have hR : clausesP l = A.filter fun c => !A.any (overB c) := by rw [hA]; rfl
    rw [← hA] at hal ⊢
    rw [hR]
    refine AWp.go [3, 6] [] fun K hK => ?_
    simp
    first | refine hK _ _ ?_ | refine ⟨by omega, hK _ _ ?_⟩ | refine ⟨by omega, by omega, hK _ _ ?_⟩
    clear hK K
    refine AWp.seq ?_
    refine AWp.go [3, 6, 25, 26, 27] [] fun K hK => ?_
    simp
    first | refine hK _ _ ?_ | refine ⟨by omega, hK _ _ ?_⟩ | refine ⟨by omega, by omega, hK _ _ ?_⟩
    clear hK K
    refine AWp.block (AWp.while (fun j : Nat => [(3, .sl .fro 5 (clsAV A)), (6, .sl .own 5 (clsAV ((A.take j).filter fun c => !A.any (overB c)))), (25, .sl .fro 5 (clsAV A)), (26, .i .i64 A.length), (27, .i .i64 j)]) (fun j => []) (fun j => j ≤ A.length) (fun j => A.length - j) [3, 6, 25, 26, 27] [] 0 (by simp) (by simp [clsAV]) ?_)
    intro j hj
    have hfl : ((A.take j).filter fun c => !A.any (overB c)).length ≤ j := Nat.le_trans (List.length_filter_le ..) (by simp; omega)
    refine AWp.go [3, 6, 25, 26, 27, 28] [] fun K hK => ?_
    simp
    first | refine hK _ _ ?_ | refine ⟨by omega, hK _ _ ?_⟩ | refine ⟨by omega, by omega, hK _ _ ?_⟩
    clear hK K
    refine AWp.seq ?_
    by_cases h : j < A.length
    · refine AWp.cond (t := true) (by first | (simp [h]; done) | (simp [h]; omega)) (fun _ => ?_) (by simp)
      refine AWp.skip ?_
      show AWp _ _ _ _
      refine AWp.seq ?_
      refine AWp.block ?_
      refine AWp.go [3, 6, 8, 25, 26, 27] [8] fun K hK => ?_
      simp [h]
      first | refine hK _ _ ?_ | refine ⟨by omega, hK _ _ ?_⟩ | refine ⟨by omega, by omega, hK _ _ ?_⟩
      clear hK K
      have hg := c_ContainsFunc1_Cl A 100 (overB A[j]) _ (calm_clK A[j]) (fun d _ => c_norm_clauses1 A[j] d) (by omega)
      refine AWp.step [3, 6, 8, 25, 26, 27, 34] [8] [(3, .sl .fro 5 (clsAV A)), (6, .sl .own 5 (clsAV ((A.take j).filter fun c => !A.any (overB c)))), (8, .ptr 8 0), (25, .sl .fro 5 (clsAV A)), (26, .i .i64 A.length), (27, .i .i64 j), (34, .b (!A.any (overB A[j])))] [(8, [.i .i64 A[j].kind, .b A[j].strict, .i .i64 A[j].a, .i .i64 A[j].b, .i .i64 A[j].num])] ?_ ?_
      · simp
        refine call_proc [(0, 8)] none hg (by simp) (by simp) ?_
        simp
      cases hc : A.any (overB A[j])
      · refine AWp.cond (t := true) (by simp) (fun _ => ?_) (by simp)
        have hsn : (A.take (j + 1)).filter (fun c => !A.any (overB c)) = (A.take j).filter (fun c => !A.any (overB c)) ++ [A[j]] := by rw [filter_snoc A _ j h, if_pos (by rw [hc]; rfl)]
        refine AWp.last [3, 6, 25, 26, 27] [] [(3, .sl .fro 5 (clsAV A)), (6, .sl .own 5 (clsAV ((A.take (j + 1)).filter fun c => !A.any (overB c)))), (25, .sl .fro 5 (clsAV A)), (26, .i .i64 A.length), (27, .i .i64 j)] [] ?_ ?_
        · simp [hsn, clsAV_snoc]
          omega
        show AWp _ _ _ _
        refine AWp.goLast [3, 6, 25, 26, 27] [] fun K hK => ?_
        simp
        first | refine hK _ _ ?_ | refine ⟨by omega, hK _ _ ?_⟩ | refine ⟨by omega, by omega, hK _ _ ?_⟩
        clear hK K
        refine ⟨j + 1, by omega, by omega, ?_⟩
        simp
        exact wrap64 (by omega) (by omega)
      · refine AWp.cond (t := false) (by simp) (by simp) (fun _ => ?_)
        refine AWp.skip ?_
        show AWp _ _ _ _
        refine AWp.goLast [3, 6, 25, 26, 27] [] fun K hK => ?_
        simp
        first | refine hK _ _ ?_ | refine ⟨by omega, hK _ _ ?_⟩ | refine ⟨by omega, by omega, hK _ _ ?_⟩
        clear hK K
        have hsn : (A.take (j + 1)).filter (fun c => !A.any (overB c)) = (A.take j).filter (fun c => !A.any (overB c)) := by rw [filter_snoc A _ j h, if_neg (by rw [hc]; simp)]
        refine ⟨j + 1, by omega, by omega, ?_⟩
        rw [hsn]
        simp
        exact wrap64 (by omega) (by omega)
    · refine AWp.cond (t := false) (by first | (simp [h]; done) | (simp [h]; omega)) (by simp) (fun _ => ?_)
      refine AWp.exit ?_
      show AWp _ _ _ _
      obtain rfl : j = A.length := by omega
      rw [List.take_length]
      refine AWp.go [2] [] fun K hK => ?_
      simp
      first | refine hK _ _ ?_ | refine ⟨by omega, hK _ _ ?_⟩ | refine ⟨by omega, by omega, hK _ _ ?_⟩
      clear hK K
      refine AWp.ret ?_
      simp
theorem c_norm_clauses (l : List Cl) (hl : l.length ≤ 100000) : Pure Try.prog 53 [.sl .fro 5 (clsAV l)] (.sl .own 5 (clsAV (clausesP l))) := by
  by_cases h0 : l = []
  · subst h0
    have e : clausesP [] = [] := by
      have h1 := allCl_len []
      have h2 : allCl [] = [] := List.eq_nil_of_length_eq_zero (by simpa using h1)
      rw [clausesP, h2]
      rfl
    rw [e]
    exact c_norm_clauses0
  · exact c_norm_clausesA l hl h0
end Go.AM
namespace Go.AM
open Go.Proofs

def strAt (l : List ByteArray) (i : Nat) : Bool := match l[i]? with
  | some k => keyOk k && (!decide (0 < i) || ltK (l.getD (i - 1) ByteArray.empty) k)
  | none => false
def setB (l : List ByteArray) : Bool := (List.range l.length).all (strAt l) && decide ((l.length : Int) ≤ 4000)
def celAt (m : Int) (l : List Cel) (i : Nat) : Bool := match l[i]? with
  | some c => keyOk c.key && (!decide (0 < i) || ltK (l.getD (i - 1) ⟨ByteArray.empty, 0⟩).key c.key) && !decide (c.num = 0) && !decide (m < c.num) && !decide (c.num < -m)
  | none => false
def countB (l : List Cel) : Bool := (List.range l.length).all (celAt 1048576 l) && decide ((l.length : Int) ≤ 4000)
/-- A state that is not great. -/
def SlightS (s : Sta) : Prop := s.sets.length ≤ 100000 ∧ s.counts.length ≤ 100000 ∧ (∀ l ∈ s.sets, l.length ≤ 100000) ∧ ∀ l ∈ s.counts, l.length ≤ 100000
def stateB (r : Rul) (s : Sta) : Bool := decide ((s.sets.length : Int) = r.sets.length) && decide ((s.counts.length : Int) = r.counts.length) && s.sets.all setB && s.counts.all countB
end Go.AM
namespace Go.AM
open Go.Proofs
def tallyB (l : List Cel) : Bool := (List.range l.length).all (celAt 1099511627776 l) && decide ((l.length : Int) ≤ 4000)
def smallC (c : Cel) : Bool := !decide (1048576 < c.num) && !decide (c.num < -1048576)
def setRAt (s : Sta) (i : Nat) : Bool := match s.sets[i]? with
  | some l => setB l
  | none => false
def countRAt (s : Sta) (i : Nat) : Bool := match s.counts[i]? with
  | some l => tallyB l && l.all smallC
  | none => false
def stateR (r : Rul) (s : Sta) : Bool := decide ((s.sets.length : Int) = r.sets.length) && decide ((s.counts.length : Int) = r.counts.length) && (List.range s.sets.length).all (setRAt s) && (List.range s.counts.length).all (countRAt s)
end Go.AM
namespace Go.AM
open Go.Proofs
def inOf (s : Sta) (n : Int) (k : ByteArray) : Bool := decide (0 ≤ n) && decide (n < s.sets.length) && hasS (s.sets.getD n.toNat []) k
def getN (l : List Cel) (k : ByteArray) : Int := match l.find? fun c => eqK c.key k with
  | some c => c.num
  | none => 0
def numOf (s : Sta) (n : Int) (k : ByteArray) : Int := if 0 ≤ n ∧ n < s.counts.length then getN (s.counts.getD n.toNat []) k else 0
@[simp] theorem try_eqCel : flatEq Try.prog 73 = some [.str, .int .i64] := by kernel_rfl
def celEq (a b : Cel) : Bool := eqK a.key b.key && decide (a.num = b.num)
def sameAt (a b : List Cel) (i : Nat) : Bool := match a[i]?, b[i]? with
  | some x, some y => celEq x y
  | _, _ => false
def sameK (a b : List Cel) : Bool := decide ((a.length : Int) = b.length) && (List.range a.length).all (sameAt a b)
end Go.AM
namespace Go.AM
open Go.Proofs
def eqAt (a b : List ByteArray) (i : Nat) : Bool := match a[i]?, b[i]? with
  | some x, some y => eqK x y
  | _, _ => false
def sameL (a b : List ByteArray) : Bool := decide ((a.length : Int) = b.length) && (List.range a.length).all (eqAt a b)
def sameSAt (a b : Sta) (i : Nat) : Bool := match a.sets[i]?, b.sets[i]? with
  | some x, some y => sameL x y
  | _, _ => false
def sameKAt (a b : Sta) (i : Nat) : Bool := match a.counts[i]?, b.counts[i]? with
  | some x, some y => sameK x y
  | _, _ => false
def sameSta (a b : Sta) : Bool := decide ((a.sets.length : Int) = b.sets.length) && decide ((a.counts.length : Int) = b.counts.length) && (List.range a.sets.length).all (sameSAt a b) && (List.range a.counts.length).all (sameKAt a b)
def newS (r : Rul) : Sta := ⟨List.replicate r.sets.length [], List.replicate r.counts.length []⟩
@[simp] theorem rowsS_nils (n : Nat) : List.replicate n [AV.sl .fro 1 []] = rowsS (List.replicate n []) := by simp [rowsS, strsAV]
@[simp] theorem rowsK_nils (n : Nat) : List.replicate n [AV.sl .fro 2 []] = rowsK (List.replicate n []) := by simp [rowsK, celsAV]
end Go.AM
namespace Go.AM
open Go.Proofs

def okS (r : Rul) : Sta := if rulesB r then newS r else ⟨[], []⟩
def lessS (l : List ByteArray) (k : ByteArray) (i : Nat) : Bool := match l[i]? with
  | some x => ltK x k
  | none => false
def placeS (l : List ByteArray) (k : ByteArray) : Nat := bsF (lessS l k) 0 l.length
def thereS (l : List ByteArray) (k : ByteArray) : Bool := match l[placeS l k]? with
  | some x => eqK x k
  | none => false
def setOf (s : Sta) (n : Int) : List ByteArray := s.sets.getD n.toNat []
def countOf (s : Sta) (n : Int) : List Cel := s.counts.getD n.toNat []
def Fit (s : Sta) (c : Cl) : Prop := (c.kind = 4 ∨ c.kind = 5 ∨ c.kind = 6 → inN c.a s.sets.length = true) ∧ (¬ (c.kind = 4 ∨ c.kind = 5 ∨ c.kind = 6) → inN c.a s.counts.length = true) ∧ (¬ (c.kind = 6 ∨ c.kind = 7 ∨ c.kind = 8) → inN c.b s.sets.length = true)
end Go.AM
namespace Go.AM
open Go.Proofs
def holdsP (s : Sta) (c : Cl) : Bool :=
  if c.kind = 4 then !(setOf s c.a).any (fun k => !thereS (setOf s c.b) k)
  else if c.kind = 5 then !(setOf s c.a).any (fun k => thereS (setOf s c.b) k)
  else if c.kind = 6 then decide (((setOf s c.a).length : Int) ≤ c.num)
  else if c.kind = 7 then !(countOf s c.a).any (fun x => decide (c.num < x.num))
  else if c.kind = 8 then !(countOf s c.a).any (fun x => decide (x.num < c.num))
  else !(countOf s c.a).any (fun x => decide (0 < x.num) && !thereS (setOf s c.b) x.key)
end Go.AM
namespace Go.AM
open Go.Proofs
def okB (r : Rul) (s : Sta) : Bool := rulesB r && stateB r s
def holdsAt (r : Rul) (s : Sta) (i : Nat) : Bool := match r.cls[i]? with
  | some c => holdsP s c
  | none => false
def heldP (r : Rul) (s : Sta) (n : Int) : Bool := okB r s && (decide (0 ≤ n) && holdsAt r s n.toNat)
def brokenTo (p : Nat → Bool) (n : Nat) : List Int := ((List.range n).filter fun i => !p i).map Int.ofNat
def brokenP (r : Rul) (s : Sta) : List Int := if okB r s then brokenTo (holdsAt r s) r.cls.length else []
@[simp] theorem intsAV_one (a : Int) : intsAV [a] = [[.i .i64 a]] := rfl
end Go.AM
namespace Go.AM
open Go.Proofs
def addK (l : List ByteArray) (k : ByteArray) : List ByteArray := if hasS l k then l else l ++ [k]
def addsK (l ks : List ByteArray) : List ByteArray := ks.foldl addK l
def setKeys (s : Sta) : List ByteArray := s.sets.flatten
def celKeys (l : List Cel) : List ByteArray := l.map Cel.key
@[simp] theorem celKeys_length (l : List Cel) : (celKeys l).length = l.length := by simp [celKeys]
def countKeys (l : List (List Cel)) : List ByteArray := celKeys l.flatten
def keysS (s : Sta) : List ByteArray := addsK (addsK [] s.sets.flatten) (countKeys s.counts)
/-- A state with few keys. -/
def Few (s : Sta) : Prop := SlightS s ∧ s.sets.flatten.length ≤ 100000 ∧ s.counts.flatten.length ≤ 100000
end Go.AM
namespace Go.AM
open Go.Proofs
def atB (s : Sta) (c : Cl) (k : ByteArray) : Bool :=
  if c.kind = 4 then !inOf s c.a k || inOf s c.b k
  else if c.kind = 5 then !inOf s c.a k || !inOf s c.b k
  else if c.kind = 7 then decide (numOf s c.a k ≤ c.num)
  else if c.kind = 8 then decide (c.num ≤ numOf s c.a k)
  else if c.kind = 9 then decide (numOf s c.a k ≤ 0) || inOf s c.b k
  else true
def holdsR (s : Sta) (c : Cl) : Bool := if c.kind = 6 then decide (((setOf s c.a).length : Int) ≤ c.num) else (keysS s).all (atB s c)
def holdsRAt (r : Rul) (s : Sta) (i : Nat) : Bool := match r.cls[i]? with
  | some c => holdsR s c
  | none => false
end Go.AM
namespace Go.AM
open Go.Proofs
def KL (a b : ByteArray) : Prop := a.toList < b.toList
theorem KL.irrefl (a : ByteArray) : ¬ KL a a := List.lt_irrefl _
theorem KL.trans {a b c : ByteArray} (h1 : KL a b) (h2 : KL b c) : KL a c := List.lt_trans h1 h2
theorem KL.asymm {a b : ByteArray} (h : KL a b) : ¬ KL b a := fun h2 => KL.irrefl _ (h.trans h2)
theorem KL.tri {a b : ByteArray} (h1 : ¬ KL a b) (h2 : ¬ KL b a) : a = b := by
  have : a.toList = b.toList := List.le_antisymm (List.not_lt.1 h2) (List.not_lt.1 h1)
  exact (eqK_eq).1 (by unfold eqK; rw [this]; simp)
abbrev SortS (l : List ByteArray) : Prop := l.Pairwise KL
end Go.AM
namespace Go.AM
open Go.Proofs

theorem c_Clone_Str (l : List ByteArray) (hl : l.length ≤ 1000000) : Pure Try.prog 52 [.sl .fro 1 (strsAV l)] (.sl .own 1 (strsAV l)) := by
  refine proc_of (cx Try.prog 8 [0, 2, 4] [2]) 7 [.tmp 2] Try.func52 rfl rfl rfl rfl rfl rfl (Nat.le_refl _) rfl ?_
  refine AWp.go [0] [] fun K hK => ?_
  simp
  first | refine hK _ _ ?_ | refine ⟨by omega, hK _ _ ?_⟩ | refine ⟨by omega, by omega, hK _ _ ?_⟩
  clear hK K
  refine AWp.seq ?_
  refine AWp.go [0, 4] [] fun K hK => ?_
  simp
  refine ⟨fun h0 => hK _ _ ?_, hK _ _ ?_⟩
  · clear hK K
    refine AWp.cond (t := true) (by first | (simp; done) | (simp; omega)) (fun _ => ?_) (by simp)
    refine AWp.go [2] [] fun K hK => ?_
    simp
    first | refine hK _ _ ?_ | refine ⟨by omega, hK _ _ ?_⟩ | refine ⟨by omega, by omega, hK _ _ ?_⟩
    clear hK K
    refine AWp.ret ?_
    simp [h0]
  · clear hK K
    refine AWp.cond (t := false) (by first | (simp; done) | (simp; omega)) (by simp) (fun _ => ?_)
    refine AWp.skip ?_
    show AWp _ _ _ _
    refine AWp.go [2] [] fun K hK => ?_
    simp
    first | refine hK _ _ ?_ | refine ⟨by omega, hK _ _ ?_⟩ | refine ⟨by omega, by omega, hK _ _ ?_⟩
    clear hK K
    refine AWp.ret ?_
    simp
end Go.AM
namespace Go.AM

/-- An operation comes behind another one, by way of others. -/
inductive Aft (ops : Array Oper) : Nat → Nat → Prop
  | one {k j o} : ops[k]? = some o → bindsOn o j = true → Aft ops k j
  | more {k i j o} : ops[k]? = some o → bindsOn o i = true → Aft ops i j → Aft ops k j

def domOf (ds : List Nat) (o : Oper) : Nat := o.after.toList.foldl (fun acc e => if Region.binds .any e then acc ||| (2 ^ e.on) ||| (ds.getD e.on 0) else acc) 0
def domsTo : List Oper → List Nat → List Nat
  | [], ds => ds
  | o :: l, ds => domsTo l (ds ++ [domOf ds o])

theorem domOf_spec (ds : List Nat) (o : Oper) (j : Nat) (h : (domOf ds o).testBit j = true) : ∃ e ∈ o.after, Region.binds .any e = true ∧ (e.on = j ∨ (ds.getD e.on 0).testBit j = true) := by
  have key : ∀ (l : List Edge) (acc : Nat), (l.foldl (fun acc e => if Region.binds .any e then acc ||| (2 ^ e.on) ||| (ds.getD e.on 0) else acc) acc).testBit j = true → acc.testBit j = true ∨ ∃ e ∈ l, Region.binds .any e = true ∧ (e.on = j ∨ (ds.getD e.on 0).testBit j = true) := by
    intro l
    induction l with
    | nil => intro acc h; exact .inl h
    | cons e l ih =>
      intro acc h
      rw [List.foldl_cons] at h
      rcases ih _ h with h1 | ⟨e', he', h1⟩
      · split at h1
        · rename_i hb
          rw [Nat.testBit_or, Nat.testBit_or, Nat.testBit_two_pow] at h1
          simp only [Bool.or_eq_true, decide_eq_true_eq] at h1
          rcases h1 with (h1 | h1) | h1
          · exact .inl h1
          · exact .inr ⟨e, by simp, hb, .inl h1⟩
          · exact .inr ⟨e, by simp, hb, .inr h1⟩
        · exact .inl h1
      · exact .inr ⟨e', by simp [he'], h1⟩
  rcases key _ _ h with h1 | ⟨e, he, h1⟩
  · simp at h1
  · exact ⟨e, by simpa using he, h1⟩

theorem domsTo_spec (ops : Array Oper) : ∀ (l : List Oper) (ds : List Nat) (pre : List Oper), ops.toList = pre ++ l → ds.length = pre.length → (∀ k j, (ds.getD k 0).testBit j = true → Aft ops k j) → ∀ k j, ((domsTo l ds).getD k 0).testBit j = true → Aft ops k j
  | [], ds, pre, _, _, h => h
  | o :: l, ds, pre, ho, hl, h => by
    refine domsTo_spec ops l (ds ++ [domOf ds o]) (pre ++ [o]) (by rw [ho]; simp) (by simp [hl]) fun k j hk => ?_
    rw [List.getD_eq_getElem?_getD] at hk
    by_cases hkl : k < ds.length
    · rw [List.getElem?_append_left hkl, ← List.getD_eq_getElem?_getD] at hk
      exact h k j hk
    · by_cases hke : k = ds.length
      · subst hke
        rw [List.getElem?_append_right (Nat.le_refl _)] at hk
        simp at hk
        obtain ⟨e, he, hb, h2⟩ := domOf_spec ds o j hk
        have hok : ops[ds.length]? = some o := by
          rw [← Array.getElem?_toList, ho, hl, List.getElem?_append_right (Nat.le_refl _)]; simp
        have hbo : bindsOn o e.on = true := bindsOn_iff.2 ⟨e, he, rfl, hb⟩
        rcases h2 with rfl | h2
        · exact .one hok hbo
        · exact .more hok hbo (h _ _ h2)
      · rw [List.getElem?_eq_none (by simp; omega)] at hk
        simp at hk

/-- The first m operations put, each to a slot of its own, and each reads what others put behind them alone; the others come behind all ahead of them. -/
def drawOkA (ops : Array Oper) (m : Nat) : Bool :=
  let D := domsTo ops.toList []
  decide (m ≤ ops.size) && (List.range ops.size).all fun k => match ops[k]? with
    | some o => (o.after.all fun e => !Region.binds .any e || decide (e.on < k)) &&
      if k < m then
        ((List.range m).all fun j => j == k || match ops[j]? with
          | some oj => oj.dst != o.dst
          | none => true) &&
        (o.looksAt ops).all fun t => (List.range m).all fun j => match ops[j]? with
          | some oj => oj.dst != some t || (decide (j < k) && (D.getD k 0).testBit j)
          | none => true
      else (List.range k).all fun j => (D.getD k 0).testBit j
    | none => true

structure DrawA (ops : Array Oper) (m : Nat) : Prop where
  le : m ≤ ops.size
  back : ∀ (k : Nat) o, ops[k]? = some o → ∀ e ∈ o.after, Region.binds .any e = true → e.on < k
  dst : ∀ (k j : Nat) o oj, k < m → j < m → j ≠ k → ops[k]? = some o → ops[j]? = some oj → oj.dst ≠ o.dst
  look : ∀ (k j : Nat) o oj t, k < m → j < m → ops[k]? = some o → ops[j]? = some oj → t ∈ o.looksAt ops → oj.dst = some t → j < k ∧ Aft ops k j
  tail : ∀ (k : Nat) o, m ≤ k → ops[k]? = some o → ∀ j, j < k → Aft ops k j

theorem drawOkA_spec {ops : Array Oper} {m : Nat} (h : drawOkA ops m = true) : DrawA ops m := by
  have hR := domsTo_spec ops ops.toList [] [] rfl rfl (fun k j h => by simp at h)
  simp only [drawOkA, Bool.and_eq_true, decide_eq_true_eq, List.all_eq_true, List.mem_range] at h
  obtain ⟨h1, h3⟩ := h
  have get : ∀ (k : Nat) o, ops[k]? = some o → k < ops.size := fun k o ho => (Array.getElem?_eq_some_iff.1 ho).1
  have at' : ∀ (k : Nat) o, ops[k]? = some o → _ := fun k o ho => by
    have := h3 k (get k o ho)
    rw [ho] at this
    exact this
  refine ⟨h1, fun k o ho e he hb => ?_, fun k j o oj hk hj hjk ho hoj => ?_, fun k j o oj t hk hj ho hoj ht hd => ?_, fun k o hk ho j hj => ?_⟩
  · have := at' k o ho
    simp only [Bool.and_eq_true] at this
    have h4 := Array.all_eq_true_iff_forall_mem.1 this.1 e he
    simpa [hb] using h4
  · have := at' k o ho
    simp only [Bool.and_eq_true, hk, if_true, List.all_eq_true, List.mem_range] at this
    have h4 := this.2.1 j hj
    rw [hoj] at h4
    simpa [hjk] using h4
  · have := at' k o ho
    simp only [Bool.and_eq_true, hk, if_true, List.all_eq_true, List.mem_range] at this
    have h4 := this.2.2 t ht j hj
    rw [hoj] at h4
    have h5 : j < k ∧ ((domsTo ops.toList []).getD k 0).testBit j = true := by simpa [hd] using h4
    exact ⟨h5.1, hR k j h5.2⟩
  · have := at' k o ho
    have hk' : ¬ k < m := by omega
    simp only [Bool.and_eq_true, hk', if_false, List.all_eq_true, List.mem_range] at this
    exact hR k j (this.2 j hj)

theorem Aft.lt {ops : Array Oper} {m k j : Nat} (D : DrawA ops m) (h : Aft ops k j) : j < k := by
  induction h with
  | one ho hb =>
    obtain ⟨e, he, h1, h2⟩ := bindsOn_iff.1 hb
    have := D.back _ _ ho e he h2
    omega
  | more ho hb _ ih =>
    obtain ⟨e, he, h1, h2⟩ := bindsOn_iff.1 hb
    have := D.back _ _ ho e he h2
    omega

/-- What has been done is closed under 'comes behind'. -/
def ClosedL (ops : Array Oper) (listed : Array Bool) : Prop := ∀ i j, listed.getD i false = true → Aft ops i j → listed.getD j false = true

/-- What may be done now comes behind what has been done alone. -/
theorem ready_reach {ops : Array Oper} {listed : Array Bool} (hc : ClosedL ops listed) {i : Nat} (hi : i ∈ Region.ready .any ops listed) {j : Nat} (h : Aft ops i j) : listed.getD j false = true := by
  obtain ⟨h1, o, ho, h2⟩ := mem_ready.1 hi
  cases h with
  | one ho' hb =>
    rw [ho] at ho'; cases ho'
    obtain ⟨e, he, h3, h4⟩ := bindsOn_iff.1 hb
    have := h2 e he h4
    rwa [h3] at this
  | more ho' hb hr =>
    rw [ho] at ho'; cases ho'
    obtain ⟨e, he, h3, h4⟩ := bindsOn_iff.1 hb
    have := h2 e he h4
    rw [h3] at this
    exact hc _ _ this hr

theorem closed_add {ops : Array Oper} {listed : Array Bool} (hc : ClosedL ops listed) {i : Nat} (hi : i ∈ Region.ready .any ops listed) (hs : i < listed.size) : ClosedL ops (listed.setIfInBounds i true) := by
  intro a b ha hr
  have mono : ∀ x, listed.getD x false = true → (listed.setIfInBounds i true).getD x false = true := fun x hx => by
    by_cases hxi : i = x
    · subst hxi
      rw [Array.getD_eq_getD_getElem?, Array.getElem?_setIfInBounds_self_of_lt hs]; rfl
    · rw [getD_set_ne false hxi]; exact hx
  by_cases hai : i = a
  · subst hai
    exact mono b (ready_reach hc hi hr)
  · rw [getD_set_ne false hai] at ha
    exact mono b (hc a b ha hr)
end Go.AM
namespace Go.AM

theorem qop_mono {T : Nat → Option TI} {st st' : St} {ty : Nat} {op : Op} (h : ∀ x ∈ op.operands, ∀ t, x = .tmp t → st.slots t = st'.slots t) (hb : ∀ id cs, st.boxes id = some cs → st'.boxes id = some cs) (hok : (qop T st ty op).ok) : qop T st' ty op = qop T st ty op := by
  have h1 : qop T st ty op = qop T { st' with boxes := st.boxes } ty op := qop_congr h rfl
  rw [h1] at hok ⊢
  cases op with
  | load t x =>
    simp only [qop] at hok ⊢
    have e : ({ st' with boxes := st.boxes } : St).rd 0 x = st'.rd 0 x := rd_congr (fun _ _ => rfl) 0
    rw [e] at hok ⊢
    unfold qload at hok ⊢
    split
    · rename_i y id off hy hx
      rw [hy, hx] at hok
      simp only at hok ⊢
      cases hc : st.boxes id with
      | none => rw [hc] at hok; exact hok.elim
      | some cs => rw [hb id cs hc]
    · rename_i y g ix cells off hy hx
      rfl
    · rfl
  | makeFunc fn first captured => cases fn <;> rfl
  | slice t x lo hi mx => cases mx <;> cases lo <;> cases hi <;> rfl
  | call c =>
    obtain ⟨callee, args, ts⟩ := c
    cases callee with
    | value f => rfl
    | invoke r m => rfl
    | builtin b => cases b <;> rfl
  | _ => rfl

theorem qop2_mono {C : Cx} {st st' : St} {ty : Nat} {op : Op} (h : ∀ x ∈ op.operands, ∀ t, x = .tmp t → st.slots t = st'.slots t) (hb : ∀ id cs, st.boxes id = some cs → st'.boxes id = some cs) (hok : (qop2 C st ty op).ok) : qop2 C st' ty op = qop2 C st ty op := by
  unfold qop2 at hok ⊢
  split
  · rename_i eq t x y hop
    rw [hop] at hok
    obtain ⟨yt, rfl⟩ := isEql_some hop
    rw [rd_congr (h x (by simp [Op.operands])), rd_congr (h y (by simp [Op.operands]))]
    split
    · rfl
    · rename_i hs
      simp only [hs] at hok
      exact qop_mono h hb hok
  · rename_i hop
    rw [hop] at hok
    exact qop_mono h hb hok

theorem pop_mono {C : Cx} {r : AV} {o : Oper} {st st' : St} (h : ∀ x ∈ o.op.operands, ∀ t, x = .tmp t → st.slots t = st'.slots t) (hb : ∀ id cs, st.boxes id = some cs → st'.boxes id = some cs) (hok : (pop C r o st).ok) : pop C r o st' = pop C r o st := by
  unfold pop at hok ⊢
  split
  · rename_i x ho
    rw [rd_congr (h x (by simp [ho, Op.operands]))]
  · rename_i f args ts ho
    rw [rd_congr (h f (by simp [ho, Op.operands, Call.operands])), rdArgs_congr args.toList ts.toList fun x hx => h x (by simp [ho, Op.operands, Call.operands]; exact .inr (by simpa using hx))]
  · rename_i t len parts ho
    congr 1
    exact List.map_congr_left fun p hp => by
      rw [rd_congr (h p.2 (by rw [ho]; simp only [Op.operands, List.mem_toArray, List.mem_map]; exact ⟨p, by simpa using hp, rfl⟩))]
  · rename_i h1 h2 h3
    simp only at hok ⊢
    cases hn : isNilCmp o.op with
    | some e => rfl
    | none =>
      rw [hn] at hok
      simp only at hok ⊢
      exact qop2_mono h hb hok

theorem popg_mono {C : Cx} {ops : Array Oper} {r : AV} {o : Oper} {st st' : St} (h : ∀ t ∈ o.looksAt ops, st.slots t = st'.slots t) (hb : ∀ id cs, st.boxes id = some cs → st'.boxes id = some cs) (hok : (popg C ops r o st).ok) : popg C ops r o st' = popg C ops r o st := by
  have hp : (pop C r o st).ok → pop C r o st' = pop C r o st := pop_mono (fun x hx t ht => h t (List.mem_append_left _ (List.mem_filterMap.2 ⟨x, by simpa using hx, by rw [ht]⟩))) hb
  unfold popg at hok ⊢
  cases hg : o.guard with
  | none => rw [hg] at hok; exact hp hok
  | some jb =>
    obtain ⟨j, b⟩ := jb
    rw [hg] at hok
    simp only at hok ⊢
    cases hj : (ops[j]?).bind (·.dst) with
    | none => rfl
    | some t =>
      rw [hj] at hok
      simp only at hok ⊢
      have : st.slots t = st'.slots t := h t (List.mem_append_right _ (by simp [hg, hj]))
      rw [← this]
      split
      · rename_i c hc
        rw [hc] at hok
        simp only at hok
        split
        · rename_i hcb
          rw [if_pos hcb] at hok
          exact hp hok
        · rfl
      · rfl
      · rfl

/-- A new box of zeros is made: its cells. -/
def isAl (C : Cx) (o : Oper) : Option (List AV) :=
  match o.op, o.guard with
  | .alloc t, none => (C.T t).map TI.zero
  | _, _ => none
def alQ (C : Cx) (d : Nat) (z : List AV) : Place → Option Place := mkQ (isBoxOf (C.base + d) d) (AV.vwsC (C.base + d) 0 (flatA (.agg z))) (C.tk false (some d))
def alF (C : Cx) (d : Nat) (z : List AV) : Place → Bool := mkF (AV.vwsC (C.base + d) 0 (flatA (.agg z))) (C.tk false (some d))
def alZ (C : Cx) (d : Nat) (z : List AV) : List AV := AV.trC (resLeaf (alF C d z)) (C.base + d) 0 (flatA (.agg z))
def alTr (C : Cx) (d : Nat) (z : List AV) (s : St) : St := (s.settle (alQ C d z) (alF C d z)).killB (C.base + d)
def alOk (C : Cx) (d : Nat) (z : List AV) : Prop := d < C.N ∧ C.base + d < 1000000 ∧ (AV.agg z).hole = false ∧ AV.resOkC (alQ C d z) (alF C d z) (C.base + d) 0 (flatA (.agg z)) = true ∧ AV.noPtrL (C.base + d) (alZ C d z) = true
def keep (C : Cx) (d : Nat) (z : List AV) (s : St) : Prop := alTr C d z s = s
def St.noSlot (d : Nat) (s : St) : St := { s with slots := fun t => if t = d then .any else s.slots t }
/-- The same, but for the slot itself. -/
def keepF (C : Cx) (d : Nat) (z : List AV) (s : St) : Prop := alTr C d z (s.noSlot d) = s.noSlot d

theorem alTr_boxes (C : Cx) (d : Nat) (z : List AV) : ∃ g : Nat → Option (List AV) → Option (List AV), ∀ s id, (alTr C d z s).boxes id = g id (s.boxes id) :=
  ⟨fun id x => ((x.map (AV.trC (fzLeaf (alF C d z)) id 0)).map (AV.trC (takeLeaf (alQ C d z)) id 0)).map (AV.trC (killBLeaf (C.base + d)) id 0), fun _ _ => rfl⟩


/-- An empty literal. -/
def isLit (o : Oper) : Option Nat :=
  match o.op, o.guard with
  | .buildSlice t len parts, none => if len = 0 ∧ parts.size = 0 then some t else none
  | _, _ => none

/-- The slots of empty literals. -/
def litsOf : List Oper → List Nat
  | [] => []
  | o :: l => match o.dst, isLit o with
    | some d, some _ => d :: litsOf l
    | _, _ => litsOf l
theorem mem_litsOf {l : List Oper} {t : Nat} (h : t ∈ litsOf l) : ∃ o ∈ l, o.dst = some t ∧ (isLit o).isSome = true := by
  induction l with
  | nil => simp [litsOf] at h
  | cons o l ih =>
    unfold litsOf at h
    split at h
    · rename_i d x hd hl
      rcases List.mem_cons.1 h with rfl | h
      · exact ⟨o, by simp, hd, by rw [hl]; rfl⟩
      · obtain ⟨o', h1, h2⟩ := ih h
        exact ⟨o', by simp [h1], h2⟩
    · obtain ⟨o', h1, h2⟩ := ih h
      exact ⟨o', by simp [h1], h2⟩

/-- What is appended to one of these literals' slots: the slot. -/
def srcOf (L : List Nat) (o : Oper) : Option Nat :=
  match o.op, o.guard with
  | .call ⟨.builtin .append, args, _⟩, none => match args.toList with
    | [.tmp t, _] => if L.contains t then some t else none
    | _ => none
  | _, _ => none

/-- A row of a slot's own that has nothing, appended to. -/
def qapp (C : Cx) (l : List AV) (ts : List Nat) : QR := match l, ts with
  | [.sl (.vw (.slot _ []) true) sz [], x], [t, t2] => match (C.T t).map TI.kind, (C.T t2).map TI.kind, appendix x with
    | some (.slice e), some (.slice _), some (sz2, ys) => match C.T e with
      | some y => ⟨0 < y.bytes ∧ sz2 = y.size ∧ sz = y.size ∧ ys.length * y.bytes ≤ 140737488355328, .sl .own y.size ys⟩
      | none => .no
    | _, _, _ => .no
  | _, _ => .no
def qappO (C : Cx) (o : Oper) (s : St) : QR := match o.op with
  | .call ⟨.builtin .append, args, ts⟩ => qapp C (rdArgs C s args.toList ts.toList) ts.toList
  | _ => .no

/-- An operation's value. -/
def vA (C : Cx) (ops : Array Oper) (L : List Nat) (r : AV) (o : Oper) (d : Nat) (s : St) : AV := match isAl C o with
  | some _ => .ptr (C.base + d) 0
  | none => match isLit o with
    | some t => .sl .own (szOf C.T t) []
    | none => match srcOf L o with
      | some _ => (qappO C o s).v
      | none => (popg C ops r o s).v

def okA (C : Cx) (ops : Array Oper) (L : List Nat) (r : AV) (o : Oper) (d : Nat) (s : St) : Prop := match isAl C o with
  | some z => alOk C d z ∧ s.boxes (C.base + d) = none
  | none => match isLit o with
    | some t => (qbs C t 0 []).ok ∧ d < C.N ∧ (s.slots d).free = true
    | none => match srcOf L o with
      | some _ => (qappO C o s).ok ∧ d < C.N ∧ (s.slots d).free = true
      | none => (popg C ops r o s).ok ∧ d < C.N ∧ (s.slots d).free = true

def aputsA (C : Cx) (ops : Array Oper) (L : List Nat) (rs : Nat → AV) : Nat → List Oper → St → (St → Prop) → Prop
  | _, [], st, K => K st
  | k, o :: rest, st, K => match o.dst with
    | some d => okA C ops L (rs k) o d st ∧ aputsA C ops L rs (k + 1) rest (st.put d (vA C ops L (rs k) o d st)) K
    | none => False

def canonA (C : Cx) (ops : Array Oper) (L : List Nat) (rs : Nat → AV) (st : St) : Nat → St
  | 0 => st
  | k + 1 => match ops[k]? with
    | some o => match o.dst with
      | some d => (canonA C ops L rs st k).put d (vA C ops L (rs k) o d (canonA C ops L rs st k))
      | none => canonA C ops L rs st k
    | none => canonA C ops L rs st k

def putA (C : Cx) (ops : Array Oper) (L : List Nat) (rs : Nat → AV) (st : St) (k : Nat) : AV :=
  match ops[k]? with
  | some o => match o.dst with
    | some d => vA C ops L (rs k) o d (canonA C ops L rs st k)
    | none => .any
  | none => .any

/-- A literal's slot is taken from by one alone. -/
def srcOk (L : List Nat) (ops : Array Oper) (m : Nat) : Bool := (List.range m).all fun k => match ops[k]? with
  | some o => match srcOf L o with
    | some t => (List.range m).all fun j => j == k || match ops[j]? with
      | some oj => !(oj.looksAt ops).contains t
      | none => true
    | none => true
  | none => true
theorem srcOk_spec {L : List Nat} {ops : Array Oper} {m : Nat} (h : srcOk L ops m = true) {k j t : Nat} {o oj : Oper} (hk : k < m) (hj : j < m) (hjk : j ≠ k) (ho : ops[k]? = some o) (hoj : ops[j]? = some oj) (hs : srcOf L o = some t) : t ∉ oj.looksAt ops := by
  simp only [srcOk, List.all_eq_true, List.mem_range] at h
  have h1 := h k hk
  rw [ho] at h1
  simp only [hs, List.all_eq_true, List.mem_range] at h1
  have h2 := h1 j hj
  rw [hoj] at h2
  simp only [Bool.or_eq_true, beq_iff_eq, hjk, false_or, Bool.not_eq_true', List.contains_eq_mem, decide_eq_false_iff_not] at h2
  exact h2

/-- What is taken away when one appends to a slot's row. -/
def srcQ (t : Nat) (p : Place) : Option Place := if p = .slot t [] then some .no else none
def tkTr (t : Nat) (s : St) : St := s.take (srcQ t)
theorem tkTr_boxes (t : Nat) : ∃ g : Nat → Option (List AV) → Option (List AV), ∀ s id, (tkTr t s).boxes id = g id (s.boxes id) :=
  ⟨fun id x => x.map (AV.trC (takeLeaf (srcQ t)) id 0), fun _ _ => rfl⟩
def keepT (t : Nat) (s : St) : Prop := tkTr t (s.noSlot t) = s.noSlot t
def tks (L : List Nat) : List Oper → St → Prop
  | [], _ => True
  | o :: l, s => (match srcOf L o with
    | some t => keepT t s
    | none => True) ∧ tks L l s
theorem tks_get {L : List Nat} {s : St} {l : List Oper} (h : tks L l s) {o : Oper} {t : Nat} (hm : o ∈ l) (hz : srcOf L o = some t) : keepT t s := by
  induction l with
  | nil => cases hm
  | cons x l ih =>
    rcases List.mem_cons.1 hm with rfl | hm
    · have := h.1
      rw [hz] at this
      exact this
    · exact ih h.2 hm
/-- The slots that are taken from. -/
def srcs (L : List Nat) : List Oper → List Nat
  | [] => []
  | o :: l => match srcOf L o with
    | some t => t :: srcs L l
    | none => srcs L l
theorem mem_srcs {L : List Nat} {l : List Oper} {t : Nat} : t ∈ srcs L l ↔ ∃ o ∈ l, srcOf L o = some t := by
  induction l with
  | nil => simp [srcs]
  | cons o l ih =>
    unfold srcs
    cases hs : srcOf L o with
    | none => simp [ih, hs]
    | some x => simp [ih, hs, eq_comm]
def St.noSlots (ts : List Nat) (s : St) : St := { s with slots := fun t => if ts.contains t then .any else s.slots t }

/-- The boxes that operations make. -/
def newsA (C : Cx) : List Oper → Boxes
  | [] => []
  | o :: l => match o.dst, isAl C o with
    | some d, some z => (C.base + d, alZ C d z) :: newsA C l
    | _, _ => newsA C l
def keeps (C : Cx) : List Oper → St → Prop
  | [], _ => True
  | o :: l, s => (match o.dst, isAl C o with
    | some d, some z => keep C d z s
    | _, _ => True) ∧ keeps C l s

def keepsF (C : Cx) : List Oper → St → Prop
  | [], _ => True
  | o :: l, s => (match o.dst, isAl C o with
    | some d, some z => keepF C d z s
    | _, _ => True) ∧ keepsF C l s
theorem keepsF_get {C : Cx} {s : St} {l : List Oper} (h : keepsF C l s) {o : Oper} {d : Nat} {z : List AV} (hm : o ∈ l) (hd : o.dst = some d) (hz : isAl C o = some z) : keepF C d z s := by
  induction l with
  | nil => cases hm
  | cons x l ih =>
    rcases List.mem_cons.1 hm with rfl | hm
    · have := h.1
      rw [hd, hz] at this
      exact this
    · exact ih h.2 hm

theorem keeps_get {C : Cx} {s : St} {l : List Oper} (h : keeps C l s) {o : Oper} {d : Nat} {z : List AV} (hm : o ∈ l) (hd : o.dst = some d) (hz : isAl C o = some z) : keep C d z s := by
  induction l with
  | nil => cases hm
  | cons x l ih =>
    rcases List.mem_cons.1 hm with rfl | hm
    · have := h.1
      rw [hd, hz] at this
      exact this
    · exact ih h.2 hm

theorem newsA_get {C : Cx} {l : List Oper} {id : Nat} {cs : List AV} (h : (newsA C l).lookup id = some cs) : ∃ o ∈ l, ∃ d z, o.dst = some d ∧ isAl C o = some z ∧ id = C.base + d ∧ cs = alZ C d z := by
  induction l with
  | nil => simp [newsA] at h
  | cons o l ih =>
    have tail : (newsA C l).lookup id = some cs → ∃ o' ∈ o :: l, ∃ d z, o'.dst = some d ∧ isAl C o' = some z ∧ id = C.base + d ∧ cs = alZ C d z := fun h => by
      obtain ⟨o', hm, r⟩ := ih h
      exact ⟨o', by simp [hm], r⟩
    unfold newsA at h
    split at h
    · rename_i d z hd hz
      rw [List.lookup_cons] at h
      by_cases hid : id = C.base + d
      · subst hid
        simp at h
        exact ⟨o, by simp, d, z, hd, hz, rfl, h.symm⟩
      · have : (id == C.base + d) = false := by simpa using hid
        rw [this] at h
        exact tail h
    · exact tail h

theorem newsA_mem {C : Cx} {l : List Oper} {o : Oper} {d : Nat} {z : List AV} (hm : o ∈ l) (hd : o.dst = some d) (hz : isAl C o = some z) : ((newsA C l).lookup (C.base + d)).isSome = true := by
  induction l with
  | nil => cases hm
  | cons x l ih =>
    unfold newsA
    rcases List.mem_cons.1 hm with rfl | hm
    · rw [hd, hz]
      simp [List.lookup_cons]
    · have ih := ih hm
      split
      · rw [List.lookup_cons]
        split
        · rfl
        · exact ih
      · exact ih

section
variable {C : Cx} {L : List Nat} {ops : Array Oper} {rs : Nat → AV} {st : St} {m : Nat}

/-- A slot's row has been taken. -/
def Gone (L : List Nat) (ops : Array Oper) (m : Nat) (D : Nat → Prop) (t : Nat) : Prop := ∃ c o, c < m ∧ D c ∧ ops[c]? = some o ∧ srcOf L o = some t

/-- A state in which certain operations have put their values, and made their boxes. -/
structure IsA (C : Cx) (L : List Nat) (ops : Array Oper) (rs : Nat → AV) (st : St) (m : Nat) (D : Nat → Prop) (s : St) : Prop where
  put : ∀ j t, j < m → D j → dstOf ops j = some t → ¬ Gone L ops m D t → s.slots t = putA C ops L rs st j
  gone : ∀ t, Gone L ops m D t → s.slots t = .any
  old : ∀ t, (∀ j, j < m → D j → dstOf ops j ≠ some t) → ¬ Gone L ops m D t → s.slots t = st.slots t
  newb : ∀ j o d z, j < m → D j → ops[j]? = some o → o.dst = some d → isAl C o = some z → s.boxes (C.base + d) = some (alZ C d z)
  oldb : ∀ id, (∀ j o d z, j < m → D j → ops[j]? = some o → o.dst = some d → isAl C o = some z → id ≠ C.base + d) → s.boxes id = st.boxes id

theorem isA_unique {D : Nat → Prop} {s s' : St} (h : IsA C L ops rs st m D s) (h' : IsA C L ops rs st m D s') : s = s' := by
  refine St.ext' (fun t => ?_) (fun id => ?_)
  · by_cases hg : Gone L ops m D t
    · rw [h.gone t hg, h'.gone t hg]
    by_cases ht : ∃ j, j < m ∧ D j ∧ dstOf ops j = some t
    · obtain ⟨j, hj, hD, hjt⟩ := ht
      rw [h.put j t hj hD hjt hg, h'.put j t hj hD hjt hg]
    · have : ∀ j, j < m → D j → dstOf ops j ≠ some t := fun j hj hD he => ht ⟨j, hj, hD, he⟩
      rw [h.old t this hg, h'.old t this hg]
  · by_cases hb : ∃ j o d z, j < m ∧ D j ∧ ops[j]? = some o ∧ o.dst = some d ∧ isAl C o = some z ∧ id = C.base + d
    · obtain ⟨j, o, d, z, h1, h2, h3, h4, h5, rfl⟩ := hb
      rw [h.newb j o d z h1 h2 h3 h4 h5, h'.newb j o d z h1 h2 h3 h4 h5]
    · have : ∀ j o d z, j < m → D j → ops[j]? = some o → o.dst = some d → isAl C o = some z → id ≠ C.base + d := fun j o d z h1 h2 h3 h4 h5 e => hb ⟨j, o, d, z, h1, h2, h3, h4, h5, e⟩
      rw [h.oldb id this, h'.oldb id this]

theorem gone_congr {D D' : Nat → Prop} (hD : ∀ j, j < m → (D j ↔ D' j)) (t : Nat) : Gone L ops m D t ↔ Gone L ops m D' t :=
  ⟨fun ⟨c, o, h1, h2, h3⟩ => ⟨c, o, h1, (hD c h1).1 h2, h3⟩, fun ⟨c, o, h1, h2, h3⟩ => ⟨c, o, h1, (hD c h1).2 h2, h3⟩⟩

theorem isA_congr {D D' : Nat → Prop} {s : St} (h : IsA C L ops rs st m D s) (hD : ∀ j, j < m → (D j ↔ D' j)) : IsA C L ops rs st m D' s :=
  ⟨fun j t hj hd he hg => h.put j t hj ((hD j hj).2 hd) he fun g => hg ((gone_congr hD t).1 g), fun t hg => h.gone t ((gone_congr hD t).2 hg), fun t ht hg => h.old t (fun j hj hd => ht j hj ((hD j hj).1 hd)) fun g => hg ((gone_congr hD t).1 g),
   fun j o d z hj hd => h.newb j o d z hj ((hD j hj).2 hd), fun id hi => h.oldb id fun j o d z hj hd => hi j o d z hj ((hD j hj).1 hd)⟩

/-- One more has put its value; it may have taken a literal's row. -/
theorem isA_put {D : Nat → Prop} {s : St} (h : IsA C L ops rs st m D s) {k d : Nat} {o : Oper} (hk : k < m) (ho : ops[k]? = some o) (hd : o.dst = some d) (hal : isAl C o = none) (hne : ∀ j, j < m → j ≠ k → dstOf ops j ≠ some d) (hgd : ∀ c o', c < m → ops[c]? = some o' → srcOf L o' = some d → ¬ (D c ∨ c = k)) {s0 : St}
    (hs0 : (s0 = s ∧ srcOf L o = none) ∨ ∃ t, srcOf L o = some t ∧ s0 = s.put t .any) :
    IsA C L ops rs st m (fun j => D j ∨ j = k) (s0.put d (putA C ops L rs st k)) := by
  have hdk : dstOf ops k = some d := by simp [dstOf, ho, hd]
  have hb : s0.boxes = s.boxes := by rcases hs0 with ⟨rfl, _⟩ | ⟨t, _, rfl⟩ <;> rfl
  have gsub : ∀ t, Gone L ops m D t → Gone L ops m (fun j => D j ∨ j = k) t := fun t ⟨c, o', h1, h2, h3⟩ => ⟨c, o', h1, .inl h2, h3⟩
  have hgone : ∀ t, Gone L ops m (fun j => D j ∨ j = k) t → t ≠ d := fun t ⟨c, o', h1, h2, h3, h4⟩ e => by subst e; exact hgd c o' h1 h3 h4 h2
  have gcase : ∀ t, Gone L ops m (fun j => D j ∨ j = k) t → Gone L ops m D t ∨ srcOf L o = some t := fun t ⟨c, o', h1, h2, h3, h4⟩ => by
    rcases h2 with h2 | rfl
    · exact .inl ⟨c, o', h1, h2, h3, h4⟩
    · rw [ho] at h3; cases h3; exact .inr h4
  have s0at : ∀ t, ¬ Gone L ops m (fun j => D j ∨ j = k) t → s0.slots t = s.slots t := fun t hg => by
    rcases hs0 with ⟨rfl, _⟩ | ⟨x, hx, rfl⟩
    · rfl
    · show (if t = x then _ else s.slots t) = _
      rw [if_neg fun e => hg ⟨k, o, hk, .inr rfl, ho, by rw [e]; exact hx⟩]
  refine ⟨fun j t hj hD hjt hg => ?_, fun t hg => ?_, fun t ht hg => ?_, fun j o' d' z hj hD ho' hd' hz => ?_, fun id hi => ?_⟩
  · show (if t = d then _ else s0.slots t) = _
    by_cases htd : t = d
    · subst htd
      have : j = k := Classical.byContradiction fun hjk => hne j hj hjk hjt
      subst this
      rw [if_pos rfl]
    · rw [if_neg htd, s0at t hg]
      rcases hD with hD | rfl
      · exact h.put j t hj hD hjt fun g => hg (gsub t g)
      · rw [hjt] at hdk; exact absurd (Option.some.inj hdk) htd
  · show (if t = d then _ else s0.slots t) = _
    rw [if_neg (hgone t hg)]
    rcases hs0 with ⟨rfl, hn⟩ | ⟨x, hx, rfl⟩
    · rcases gcase t hg with g | g
      · exact h.gone t g
      · rw [hn] at g; cases g
    · show (if t = x then _ else s.slots t) = _
      by_cases htx : t = x
      · rw [if_pos htx]
      · rw [if_neg htx]
        rcases gcase t hg with g | g
        · exact h.gone t g
        · rw [hx] at g; exact absurd (Option.some.inj g).symm htx
  · show (if t = d then _ else s0.slots t) = _
    have htd : t ≠ d := fun e => ht k hk (.inr rfl) (by rw [e]; exact hdk)
    rw [if_neg htd, s0at t hg]
    exact h.old t (fun j hj hD => ht j hj (.inl hD)) fun g => hg (gsub t g)
  · show s0.boxes _ = _
    rw [hb]
    rcases hD with hD | rfl
    · exact h.newb j o' d' z hj hD ho' hd' hz
    · rw [ho] at ho'; cases ho'
      rw [hal] at hz; cases hz
  · show s0.boxes _ = _
    rw [hb]
    exact h.oldb id fun j o' d' z hj hD => hi j o' d' z hj (.inl hD)

/-- One more has made its box. -/
theorem isA_box {D : Nat → Prop} {s : St} (h : IsA C L ops rs st m D s) {k d : Nat} {o : Oper} {z : List AV} (hk : k < m) (ho : ops[k]? = some o) (hd : o.dst = some d) (hal : isAl C o = some z) (hsrc : srcOf L o = none) (hne : ∀ j, j < m → j ≠ k → dstOf ops j ≠ some d) (hgd : ∀ c o', c < m → ops[c]? = some o' → srcOf L o' = some d → ¬ (D c ∨ c = k)) :
    IsA C L ops rs st m (fun j => D j ∨ j = k) ((s.setBox (C.base + d) (some (alZ C d z))).put d (.ptr (C.base + d) 0)) := by
  have hdk : dstOf ops k = some d := by simp [dstOf, ho, hd]
  have hpk : putA C ops L rs st k = .ptr (C.base + d) 0 := by simp [putA, ho, hd, vA, hal]
  have geq : ∀ t, Gone L ops m (fun j => D j ∨ j = k) t → Gone L ops m D t := fun t ⟨c, o', h1, h2, h3, h4⟩ => by
    rcases h2 with h2 | rfl
    · exact ⟨c, o', h1, h2, h3, h4⟩
    · rw [ho] at h3; cases h3; rw [hsrc] at h4; cases h4
  have gsub : ∀ t, Gone L ops m D t → Gone L ops m (fun j => D j ∨ j = k) t := fun t ⟨c, o', h1, h2, h3⟩ => ⟨c, o', h1, .inl h2, h3⟩
  refine ⟨fun j t hj hD hjt hg => ?_, fun t hg => ?_, fun t ht hg => ?_, fun j o' d' z' hj hD ho' hd' hz => ?_, fun id hi => ?_⟩
  · show (if t = d then _ else s.slots t) = _
    by_cases htd : t = d
    · subst htd
      have : j = k := Classical.byContradiction fun hjk => hne j hj hjk hjt
      subst this
      rw [if_pos rfl, hpk]
    · rw [if_neg htd]
      rcases hD with hD | rfl
      · exact h.put j t hj hD hjt fun g => hg (gsub t g)
      · rw [hjt] at hdk; exact absurd (Option.some.inj hdk) htd
  · show (if t = d then _ else s.slots t) = _
    have htd : t ≠ d := fun e => by
      obtain ⟨c, o', h1, h2, h3, h4⟩ := hg
      subst e
      exact hgd c o' h1 h3 h4 h2
    rw [if_neg htd]
    exact h.gone t (geq t hg)
  · show (if t = d then _ else s.slots t) = _
    have htd : t ≠ d := fun e => ht k hk (.inr rfl) (by rw [e]; exact hdk)
    rw [if_neg htd]
    exact h.old t (fun j hj hD => ht j hj (.inl hD)) fun g => hg (gsub t g)
  · show (if C.base + d' = C.base + d then _ else s.boxes (C.base + d')) = _
    by_cases hjk : j = k
    · subst hjk
      rw [ho] at ho'; cases ho'
      rw [hd] at hd'; cases hd'
      rw [hal] at hz; cases hz
      rw [if_pos rfl]
    · have hdd : d' ≠ d := fun e => hne j hj hjk (by subst e; simp [dstOf, ho', hd'])
      have hbd : C.base + d' ≠ C.base + d := fun e => hdd (Nat.add_left_cancel e)
      rw [if_neg hbd]
      exact h.newb j o' d' z' hj (hD.resolve_right hjk) ho' hd' hz
  · have hidk := hi k o d z hk (.inr rfl) ho hd hal
    show (if id = C.base + d then _ else s.boxes id) = _
    rw [if_neg hidk]
    exact h.oldb id fun j o' d' z' hj hD => hi j o' d' z' hj (.inl hD)

/-- The slots of the text's order. -/
theorem canonA_slots (hdst : ∀ k, k < m → ∃ o d, ops[k]? = some o ∧ o.dst = some d) (hne : ∀ j k d, j < m → k < m → j ≠ k → dstOf ops k = some d → dstOf ops j ≠ some d) :
    ∀ k, k ≤ m → (canonA C ops L rs st k).boxes = st.boxes ∧ (∀ j t, j < k → dstOf ops j = some t → (canonA C ops L rs st k).slots t = putA C ops L rs st j) ∧ ∀ t, (∀ j, j < k → dstOf ops j ≠ some t) → (canonA C ops L rs st k).slots t = st.slots t
  | 0, _ => ⟨rfl, fun j t h => absurd h (by omega), fun t _ => rfl⟩
  | k + 1, hk => by
    obtain ⟨o, d, ho, hd⟩ := hdst k (by omega)
    have hdk : dstOf ops k = some d := by simp [dstOf, ho, hd]
    obtain ⟨h1, h2, h3⟩ := canonA_slots hdst hne k (by omega)
    have e : canonA C ops L rs st (k + 1) = (canonA C ops L rs st k).put d (putA C ops L rs st k) := by simp [canonA, putA, ho, hd]
    rw [e]
    refine ⟨h1, fun j t hj hjt => ?_, fun t ht => ?_⟩
    · show (if t = d then _ else (canonA C ops L rs st k).slots t) = _
      by_cases htd : t = d
      · subst htd
        have : j = k := Classical.byContradiction fun hjk => hne j k t (by omega) (by omega) hjk hdk hjt
        subst this
        rw [if_pos rfl]
      · rw [if_neg htd]
        have : j ≠ k := fun e => by subst e; rw [hjt] at hdk; exact htd (Option.some.inj hdk)
        exact h2 j t (by omega) hjt
    · show (if t = d then _ else (canonA C ops L rs st k).slots t) = _
      have htd : t ≠ d := fun e => ht k (by omega) (by rw [e]; exact hdk)
      rw [if_neg htd]
      exact h3 t fun j hj => ht j (by omega)

/-- A state in which all have put, none has taken. -/
structure AllA (C : Cx) (L : List Nat) (ops : Array Oper) (rs : Nat → AV) (st : St) (m : Nat) (s : St) : Prop where
  put : ∀ j t, j < m → dstOf ops j = some t → s.slots t = putA C ops L rs st j
  newb : ∀ j o d z, j < m → ops[j]? = some o → o.dst = some d → isAl C o = some z → s.boxes (C.base + d) = some (alZ C d z)

theorem any_tr {h : Place → AV → AV} (hl : ∀ p, h p .any = .any) (p : Place) : AV.tr h p .any = .any := by
  rw [AV.tr_leaf rfl, hl]

/-- What stays in the first and in the last state, stays in all between. -/
theorem keep_mix {D : Nat → Prop} {s fin : St} (h : IsA C L ops rs st m D s) (hf : AllA C L ops rs st m fin) {d : Nat} {z : List AV} (hnd : ∀ j, j < m → D j → dstOf ops j ≠ some d) (h1 : keep C d z st) (h2 : keepF C d z fin) : keep C d z s := by
  obtain ⟨gb, hgb⟩ := alTr_boxes C d z
  let g : Nat → AV → AV := fun t x => ((x.tr (fzLeaf (alF C d z)) (.slot t [])).tr (takeLeaf (alQ C d z)) (.slot t [])).tr (killBLeaf (C.base + d)) (.slot t [])
  have hg : ∀ s t, (alTr C d z s).slots t = g t (s.slots t) := fun _ _ => rfl
  have ga : ∀ t, g t .any = .any := fun t => by
    show ((AV.any.tr _ _).tr _ _).tr _ _ = _
    rw [any_tr (fun _ => rfl), any_tr (fun _ => rfl), any_tr (fun _ => rfl)]
  have s1 : ∀ t, g t (st.slots t) = st.slots t := fun t => by rw [← hg]; exact congrFun (congrArg St.slots h1) t
  have s2 : ∀ t, t ≠ d → g t (fin.slots t) = fin.slots t := fun t htd => by
    have h3 := congrFun (congrArg St.slots h2) t
    have e : (fin.noSlot d).slots t = fin.slots t := if_neg htd
    rw [hg, e] at h3
    exact h3
  have b1 : ∀ t, gb t (st.boxes t) = st.boxes t := fun t => by rw [← hgb]; exact congrFun (congrArg St.boxes h1) t
  have b2 : ∀ t, gb t (fin.boxes t) = fin.boxes t := fun t => by
    have h3 := congrFun (congrArg St.boxes h2) t
    rw [hgb] at h3
    exact h3
  refine St.ext' (fun t => ?_) (fun id => ?_)
  · rw [hg]
    by_cases hgn : Gone L ops m D t
    · rw [h.gone t hgn]; exact ga t
    by_cases ht : ∃ j, j < m ∧ D j ∧ dstOf ops j = some t
    · obtain ⟨j, hj, hD, hjt⟩ := ht
      rw [h.put j t hj hD hjt hgn, ← hf.put j t hj hjt]
      exact s2 t fun e => hnd j hj hD (by rw [← e]; exact hjt)
    · rw [h.old t (fun j hj hD he => ht ⟨j, hj, hD, he⟩) hgn]
      exact s1 t
  · rw [hgb]
    by_cases hb : ∃ j o d z, j < m ∧ D j ∧ ops[j]? = some o ∧ o.dst = some d ∧ isAl C o = some z ∧ id = C.base + d
    · obtain ⟨j, o, d', z', g1, g2, g3, g4, g5, rfl⟩ := hb
      rw [h.newb j o d' z' g1 g2 g3 g4 g5, ← hf.newb j o d' z' g1 g3 g4 g5]
      exact b2 _
    · rw [h.oldb id fun j o d' z' g1 g2 g3 g4 g5 e => hb ⟨j, o, d', z', g1, g2, g3, g4, g5, e⟩]
      exact b1 _

/-- The same, where a literal's row is taken. -/
theorem take_mix {D : Nat → Prop} {s fin : St} (h : IsA C L ops rs st m D s) (hf : AllA C L ops rs st m fin) {x sz : Nat} (hx : s.slots x = .sl .own sz []) (h1 : keepT x st) (h2 : keepT x fin) : s.take (srcQ x) = s.put x .any := by
  obtain ⟨gb, hgb⟩ := tkTr_boxes x
  let g : Nat → AV → AV := fun t y => y.tr (takeLeaf (srcQ x)) (.slot t [])
  have hg : ∀ s t, (tkTr x s).slots t = g t (s.slots t) := fun _ _ => rfl
  have ga : ∀ t, g t .any = .any := fun t => any_tr (fun _ => rfl) _
  have s1 : ∀ t, t ≠ x → g t (st.slots t) = st.slots t := fun t htx => by
    have h3 := congrFun (congrArg St.slots h1) t
    have e : (st.noSlot x).slots t = st.slots t := if_neg htx
    rw [hg, e] at h3
    exact h3
  have s2 : ∀ t, t ≠ x → g t (fin.slots t) = fin.slots t := fun t htx => by
    have h3 := congrFun (congrArg St.slots h2) t
    have e : (fin.noSlot x).slots t = fin.slots t := if_neg htx
    rw [hg, e] at h3
    exact h3
  have b1 : ∀ t, gb t (st.boxes t) = st.boxes t := fun t => by
    have h3 := congrFun (congrArg St.boxes h1) t
    rw [hgb] at h3
    exact h3
  have b2 : ∀ t, gb t (fin.boxes t) = fin.boxes t := fun t => by
    have h3 := congrFun (congrArg St.boxes h2) t
    rw [hgb] at h3
    exact h3
  show tkTr x s = _
  refine St.ext' (fun t => ?_) (fun id => ?_)
  · rw [hg]
    show _ = if t = x then _ else s.slots t
    by_cases htx : t = x
    · subst htx
      rw [if_pos rfl, hx]
      show AV.tr _ _ _ = _
      rw [AV.tr_leaf rfl]
      simp [takeLeaf, srcQ]
    rw [if_neg htx]
    by_cases hgn : Gone L ops m D t
    · rw [h.gone t hgn]; exact ga t
    by_cases ht : ∃ j, j < m ∧ D j ∧ dstOf ops j = some t
    · obtain ⟨j, hj, hD, hjt⟩ := ht
      rw [h.put j t hj hD hjt hgn, ← hf.put j t hj hjt]
      exact s2 t htx
    · rw [h.old t (fun j hj hD he => ht ⟨j, hj, hD, he⟩) hgn]
      exact s1 t htx
  · rw [hgb]
    show _ = s.boxes id
    by_cases hb : ∃ j o d z, j < m ∧ D j ∧ ops[j]? = some o ∧ o.dst = some d ∧ isAl C o = some z ∧ id = C.base + d
    · obtain ⟨j, o, d', z', g1, g2, g3, g4, g5, rfl⟩ := hb
      rw [h.newb j o d' z' g1 g2 g3 g4 g5, ← hf.newb j o d' z' g1 g3 g4 g5]
      exact b2 _
    · rw [h.oldb id fun j o d' z' g1 g2 g3 g4 g5 e => hb ⟨j, o, d', z', g1, g2, g3, g4, g5, e⟩]
      exact b1 _
end

section
variable {C : Cx} {L : List Nat} {S : Start} {ops : Array Oper} {R : Exit → Act → World → Prop} {m : Nat}

/-- Behind the first m operations there is but one order. -/
theorem draw_tailA (D : DrawA ops m) (hbase : S.k ≤ C.base) {K : St → Prop} (hR : ∀ E a, Inv C.N S E → a.tmps = E.tm → a.defers = [] → K E.st → R .normal a E.w) :
    ∀ (fuel k : Nat) (listed : Array Bool) (E : Env) (a : Act), k ≤ ops.size → ops.size ≤ k + fuel → m ≤ k → listed.size = ops.size → (∀ j, j < ops.size → listed.getD j true = decide (j < k)) → Inv C.N S E → a.tmps = E.tm → a.defers = [] →
      aops C ops (ops.toList.drop k) E.st K → wpAny C.P .any ops R fuel listed a E.w := by
  intro fuel
  have fin : ∀ (fuel k : Nat) (listed : Array Bool) (E : Env) (a : Act), k = ops.size → (∀ j, j < ops.size → listed.getD j true = decide (j < k)) → Inv C.N S E → a.tmps = E.tm → a.defers = [] → aops C ops (ops.toList.drop k) E.st K → wpAny C.P .any ops R fuel listed a E.w := by
    intro fuel k listed E a hk hl I ha hd h
    subst hk
    refine wpAny_done ?_ ?_ fuel
    · apply List.eq_nil_iff_forall_not_mem.2
      intro j hj
      obtain ⟨h1, o, ho, _⟩ := mem_ready.1 hj
      have hlt := (Array.getElem?_eq_some_iff.1 ho).1
      rw [hl j hlt] at h1
      simp [hlt] at h1
    · rw [List.drop_eq_nil_of_le (by simp)] at h
      exact hR E a I ha hd h
  induction fuel with
  | zero =>
    intro k listed E a hk hk2 hm hs hl I ha hd h
    exact fin 0 k listed E a (by omega) hl I ha hd h
  | succ fuel ih =>
    intro k listed E a hk hk2 hm hs hl I ha hd h
    by_cases hke : k = ops.size
    · exact fin _ k listed E a hke hl I ha hd h
    have hlt : k < ops.size := by omega
    have ho : ops[k]? = some ops[k] := Array.getElem?_eq_getElem hlt
    have hgf : ∀ j, j < ops.size → listed.getD j false = decide (j < k) := fun j hj => by
      have h1 := hl j hj
      have hjs : j < listed.size := by omega
      rw [Array.getD_eq_getD_getElem?, Array.getElem?_eq_getElem hjs] at h1 ⊢
      exact h1
    have hcl : ClosedL ops listed := fun i j hi hr => by
      have hio : i < ops.size := by
        cases hr with
        | one ho' _ => exact (Array.getElem?_eq_some_iff.1 ho').1
        | more ho' _ _ => exact (Array.getElem?_eq_some_iff.1 ho').1
      rw [hgf i hio] at hi
      have hij := hr.lt D
      have hi : i < k := by simpa using hi
      rw [hgf j (by omega)]
      simp; omega
    have hkr : k ∈ Region.ready .any ops listed := by
      refine mem_ready.2 ⟨by rw [hl k hlt]; simp, _, ho, fun e he hb => ?_⟩
      have := D.back k _ ho e he hb
      rw [hgf e.on (by omega)]; simpa using this
    refine ⟨fun h0 => by rw [h0] at hkr; simp at hkr, fun i hi => ?_⟩
    have hik : i = k := by
      obtain ⟨h1, o, hoi, h2⟩ := mem_ready.1 hi
      have hil := (Array.getElem?_eq_some_iff.1 hoi).1
      rw [hl i hil] at h1
      have h1 : ¬ i < k := by simpa using h1
      refine Classical.byContradiction fun hne => ?_
      have := ready_reach hcl hi (D.tail i o (by omega) hoi k (by omega))
      rw [hgf k hlt] at this
      simp at this
    subst hik
    have hdrop : ops.toList.drop i = ops[i] :: ops.toList.drop (i + 1) := by
      rw [List.drop_eq_getElem_cons (by simpa using hlt)]; simp
    rw [hdrop] at h
    refine aops_head I hbase ha hd ho h fun E' a' I' ha' hd' h' => ?_
    refine ih (i + 1) _ E' a' (by omega) (by omega) (by omega) (by simpa using hs) (fun j hj => ?_) I' ha' hd' h'
    by_cases hji : i = j
    · subst hji
      rw [Array.getD_eq_getD_getElem?, Array.getElem?_setIfInBounds_self_of_lt (by omega)]
      simp
    · rw [getD_set_ne true hji, hl j hj]
      have : (j < i) ↔ (j < i + 1) := by omega
      simp [this]

/-- A box is made: nothing else turns. -/
theorem al_head {E : Env} (I : Inv C.N S E) (hbase : S.k ≤ C.base) {a : Act} (ha : a.tmps = E.tm) (hd : a.defers = []) {i d : Nat} {o : Oper} {z : List AV} (ho : ops[i]? = some o) (hdst : o.dst = some d) (hal : isAl C o = some z) (hok : alOk C d z) (hk : keep C d z E.st)
    {next : Act → World → Prop} (hnext : ∀ E' a', Inv C.N S E' → a'.tmps = E'.tm → a'.defers = [] → E'.st = (E.st.setBox (C.base + d) (some (alZ C d z))).put d (.ptr (C.base + d) 0) → next a' E'.w) : wpOp C.P ops R i next a E.w := by
  unfold isAl at hal
  split at hal
  · rename_i t hop hg
    obtain ⟨y, hy, rfl⟩ := Option.map_eq_some_iff.1 hal
    unfold wpOp
    simp only [ho]
    have hw : Region.wanted o (yielded ops a.tmps) = true := by simp [Region.wanted, hg]
    rw [if_pos hw]
    refine .inl (wp_alloc (K := fun s => s = (E.st.setBox (C.base + d) (some (alZ C d y.zero))).put d (.ptr (C.base + d) 0)) I hbase ha (fun E' a' I' ha' hd' hK => hnext E' a' I' ha' (hd'.trans hd) hK) hy hdst hop ?_)
    obtain ⟨h1, h2, h3, h4, h5⟩ := hok
    refine ⟨h1, h2, h3, h4, h5, ?_⟩
    show (((alTr C d y.zero E.st).setBox (C.base + d) (some (alZ C d y.zero))).put d (.ptr (C.base + d) 0)) = _
    rw [show alTr C d y.zero E.st = E.st from hk]
  · cases hal

/-- An empty literal. -/
theorem lit_head {E : Env} (I : Inv C.N S E) {a : Act} (ha : a.tmps = E.tm) (hd : a.defers = []) {i d t : Nat} {o : Oper} (ho : ops[i]? = some o) (hdst : o.dst = some d) (hl : isLit o = some t) (hok : (qbs C t 0 []).ok) (hN : d < C.N) (hf : (E.st.slots d).free = true)
    {next : Act → World → Prop} (hnext : ∀ E' a', Inv C.N S E' → a'.tmps = E'.tm → a'.defers = [] → E'.st = E.st.put d (.sl .own (szOf C.T t) []) → next a' E'.w) : wpOp C.P ops R i next a E.w := by
  unfold isLit at hl
  split at hl
  · rename_i t' len parts hop hg
    split at hl
    · rename_i h0
      cases hl
      obtain ⟨rfl, hp⟩ := h0
      have hpe : parts = #[] := Array.eq_empty_of_size_eq_zero hp
      subst hpe
      unfold wpOp
      simp only [ho]
      have hw : Region.wanted o (yielded ops a.tmps) = true := by simp [Region.wanted, hg]
      rw [if_pos hw]
      unfold qbs at hok
      split at hok
      · rename_i e hk
        split at hok
        · rename_i y hy
          split at hok
          · rename_i cs hcs
            obtain ⟨h1, h2, h3, h4, h5, h6, h7⟩ := hok
            have hsz : szOf C.T t = y.size := by
              obtain ⟨yt, hyt, hkt⟩ := Option.map_eq_some_iff.1 hk
              unfold szOf
              rw [hyt]
              simp only
              rw [hkt]
              simp only [hy]
              rfl
            refine .inl (wp_buildSlice (K := fun s => s = E.st.put d (.sl .own (szOf C.T t) [])) (sz := elemSz C.T t) I ha (fun E' a' I' ha' hd' hK => hnext E' a' I' ha' (hd'.trans hd) hK) hdst hop ?_)
            show abuildSlice C E.st d t 0 [] _
            unfold abuildSlice
            rw [hk]
            simp only
            rw [hy]
            simp only
            have hv0 : AV.vwsN (([] : List (Nat × AV)).map (·.2)) = [] := rfl
            rw [hv0]
            simp only [List.isEmpty_nil, settleF]
            have hn : (fun _ => false : Place → Bool) = noF := rfl
            rw [hcs]
            exact ⟨hN, hf, h2, h3, h4, h5, h6, h7, by rw [St.fz_no, hsz]; rfl⟩
          · exact hok.elim
        · exact hok.elim
      · exact hok.elim
    · cases hl
  · cases hl

theorem Leans.take_congr {SP : Place → Prop} {SB : Nat → Prop} {Q Q' : Place → Option Place} (hQ : ∀ q, SP q → (Q q).isSome = (Q' q).isSome) {p : Place} {x : AV} (h : Leans SP SB p x) : x.tr (takeLeaf Q) p = x.tr (takeLeaf Q') p := by
  have lst : ∀ (l : List AV) (k : Nat) (p : Place), (∀ (j : Nat) (c : AV), l[j]? = some c → c.tr (takeLeaf Q) (p.sub (k + j)) = c.tr (takeLeaf Q') (p.sub (k + j))) → AV.trL (takeLeaf Q) p k l = AV.trL (takeLeaf Q') p k l := by
    intro l
    induction l with
    | nil => intros; rfl
    | cons x l ih =>
      intro k p h
      rw [AV.trL, AV.trL, show AV.tr (takeLeaf Q) (p.sub k) x = AV.tr (takeLeaf Q') (p.sub k) x from h 0 x rfl, ih (k + 1) p fun j c hc => by rw [show k + 1 + j = k + (j + 1) by omega]; exact h (j + 1) c (by simpa using hc)]
  have lsn : ∀ (l : List AV), (∀ c ∈ l, c.tr (takeLeaf Q) .no = c.tr (takeLeaf Q') .no) → AV.trN (takeLeaf Q) l = AV.trN (takeLeaf Q') l := by
    intro l
    induction l with
    | nil => intros; rfl
    | cons x l ih =>
      intro h
      rw [AV.trN, AV.trN, h x (by simp), ih fun c hc => h c (by simp [hc])]
  induction h with
  | pt p g ix cells off hq =>
    rw [AV.tr_leaf rfl, AV.tr_leaf rfl]
    cases g <;> first | rfl | skip
    rename_i q ex
    simp only [takeLeaf, hQ q (hq q ex rfl)]
  | sl p g sz xs hq hp =>
    rw [AV.tr_leaf rfl, AV.tr_leaf rfl]
    cases g <;> first | rfl | skip
    · simp only [takeLeaf, hQ p (hp rfl)]
    · rename_i q ex
      simp only [takeLeaf, hQ q (hq q ex rfl)]
  | fn p f fi ca _ _ h1 h2 =>
    rw [AV.tr, AV.tr, lsn fi h1, lsn ca h2]
  | agg p cs _ ih =>
    rw [AV.tr, AV.tr, lst cs 0 p fun j c hc => by rw [Nat.zero_add]; exact ih j c hc]
  | tup p cs _ ih =>
    rw [AV.tr, AV.tr, lst cs 0 p fun j c hc => by rw [Nat.zero_add]; exact ih j c hc]
  | _ => rfl

/-- A free slot is neither viewed nor owns: what is taken is the literal's row alone. -/
theorem take_src {N : Nat} {E : Env} (R : Rel N E) {d t : Nat} (hf : (E.st.slots d).free = true) : E.st.take (appendQ d (.slot t [])) = E.st.take (srcQ t) := by
  have hq : ∀ q sz xs, E.st.abs q = .sl .own sz xs → (fun q => isSlotOf d q = false ∧ ∀ i, q ≠ .box i) q := by
    intro q sz xs h
    cases q with
    | slot t' π =>
      refine ⟨?_, fun i => by simp⟩
      simp only [isSlotOf, beq_eq_false_iff_ne, ne_eq]
      rintro rfl
      exact absurd h (free_noOwn π hf)
    | cell => exact ⟨rfl, fun i => by simp⟩
    | box i => cases h
    | no => cases h
  have hQ : ∀ q, (isSlotOf d q = false ∧ ∀ i, q ≠ .box i) → (appendQ d (.slot t []) q).isSome = (srcQ t q).isSome := by
    rintro q ⟨h1, h2⟩
    cases q with
    | box i => exact absurd rfl (h2 i)
    | slot t' π =>
      simp only [appendQ, srcQ, h1]
      split <;> rfl
    | cell => rfl
    | no => rfl
  refine St.ext' (fun x => ?_) (fun id => ?_)
  · exact (R.leansSlot (SP := fun q => isSlotOf d q = false ∧ ∀ i, q ≠ .box i) hq ⟨rfl, fun i => by simp⟩ x).take_congr hQ
  · show (E.st.boxes id).map (AV.trC (takeLeaf (appendQ d (.slot t []))) id 0) = (E.st.boxes id).map (AV.trC (takeLeaf (srcQ t)) id 0)
    cases hb : E.st.boxes id with
    | none => rfl
    | some cs =>
      show some _ = some _
      congr 1
      have key : ∀ (l : List AV) (k : Nat), (∀ (j : Nat) (c : AV), l[j]? = some c → c.tr (takeLeaf (appendQ d (.slot t []))) (.cell id (k + j)) = c.tr (takeLeaf (srcQ t)) (.cell id (k + j))) → AV.trC (takeLeaf (appendQ d (.slot t []))) id k l = AV.trC (takeLeaf (srcQ t)) id k l := by
        intro l
        induction l with
        | nil => intros; rfl
        | cons x l ih =>
          intro k h
          rw [AV.trC, AV.trC, show AV.tr (takeLeaf (appendQ d (.slot t []))) (.cell id k) x = AV.tr (takeLeaf (srcQ t)) (.cell id k) x from h 0 x rfl, ih (k + 1) fun j c hc => by rw [show k + 1 + j = k + (j + 1) by omega]; exact h (j + 1) c (by simpa using hc)]
      exact key cs 0 fun j c hc => by
        rw [Nat.zero_add]
        exact (R.leansCell (SP := fun q => isSlotOf d q = false ∧ ∀ i, q ≠ .box i) hq ⟨rfl, fun i => by simp⟩ hb hc).take_congr hQ

/-- A literal's row, appended to. -/
theorem app_head {E : Env} (I : Inv C.N S E) {a : Act} (ha : a.tmps = E.tm) (hd : a.defers = []) {i d t sz0 : Nat} {o : Oper} (ho : ops[i]? = some o) (hdst : o.dst = some d) (hs : srcOf L o = some t) (hok : (qappO C o E.st).ok) (hN : d < C.N) (hx : E.st.slots t = .sl .own sz0 []) (hfr : (E.st.slots d).free = true) (htk : E.st.take (srcQ t) = E.st.put t .any)
    {next : Act → World → Prop} (hnext : ∀ E' a', Inv C.N S E' → a'.tmps = E'.tm → a'.defers = [] → E'.st = (E.st.put t .any).put d (qappO C o E.st).v → next a' E'.w) : wpOp C.P ops R i next a E.w := by
  unfold srcOf at hs
  split at hs
  · rename_i args ts hop hg
    split at hs
    · rename_i t' x hargs
      split at hs
      · cases hs
        unfold wpOp
        simp only [ho]
        have hw : Region.wanted o (yielded ops a.tmps) = true := by simp [Region.wanted, hg]
        rw [if_pos hw]
        have hq : qappO C o E.st = qapp C (rdArgs C E.st args.toList ts.toList) ts.toList := by unfold qappO; rw [hop]
        rw [hq] at hok hnext
        have hhead : ∀ u l, rdArgs C E.st args.toList ts.toList = u :: l → u = .sl (.vw (.slot t []) true) sz0 [] := fun u l he => by
          rw [hargs] at he
          have hr : ∀ n, E.st.rd n (.tmp t) = .sl (.vw (.slot t []) true) sz0 [] := fun n => by
            show (E.st.slots t).view (.slot t []) = _
            rw [hx]
            unfold AV.view
            rw [AV.tr_leaf rfl]
            rfl
          cases hts : ts.toList with
          | nil => rw [hts, rdArgs, hr] at he; exact (List.cons.inj he).1.symm
          | cons b l' => rw [hts, rdArgs, hr] at he; exact (List.cons.inj he).1.symm
        generalize hrd : rdArgs C E.st args.toList ts.toList = l1 at hok hnext hhead
        generalize hts : ts.toList = l2 at hok hnext hrd
        unfold qapp at hok hnext
        split at hok
        · rename_i t'' sz x' t1 t2
          have hh := hhead _ _ rfl
          have e2 : sz = sz0 := by injection hh
          subst e2
          simp only at hnext
          split at hok
          · rename_i e e2' sz2 ys hk hk2 hap
            rw [hk, hk2, hap] at hnext
            simp only at hnext
            split at hok
            · rename_i y hy
              rw [hy] at hnext
              simp only at hnext
              obtain ⟨hby, h2, h3, h4⟩ := hok
              subst h2
              refine .inl (wp_append (K := fun s => s = (E.st.put t .any).put d (.sl .own y.size ys)) I ha (fun E' a' I' ha' hd' hK => hnext E' a' I' ha' (hd'.trans hd) hK) hdst hop ?_)
              rw [hts, hrd, hh]
              show aappend C E.st d t1 t2 (.sl (.vw (.slot t []) true) sz []) x' _
              unfold aappend
              rw [hk, hk2, hap]
              simp only
              rw [hy]
              exact ⟨hN, hby, rfl, h3, by simpa using h4, by rw [take_src I.rel hfr, htk, List.nil_append]⟩
            · exact hok.elim
          · exact hok.elim
        · exact hok.elim
      · cases hs
    · cases hs
  · cases hs

theorem srcOf_looks {L : List Nat} {ops : Array Oper} {o : Oper} {t : Nat} (h : srcOf L o = some t) : t ∈ o.looksAt ops := by
  unfold srcOf at h
  split at h
  · rename_i args ts hop hg
    split at h
    · rename_i t' x hargs
      split at h
      · cases h
        refine List.mem_append_left _ (List.mem_filterMap.2 ⟨.tmp t, ?_, rfl⟩)
        rw [hop]
        have : Operand.tmp t ∈ args.toList := by rw [hargs]; simp
        simp [Op.operands, Call.operands]
        simpa using this
      · cases h
    · cases h
  · cases h

theorem srcOf_mem {L : List Nat} {o : Oper} {t : Nat} (h : srcOf L o = some t) : t ∈ L := by
  unfold srcOf at h
  split at h
  · split at h
    · rename_i t' x hargs
      split at h
      · rename_i hany
        cases h
        simpa using hany
      · cases h
    · cases h
  · cases h

theorem isLit_src {L : List Nat} {o : Oper} {t : Nat} (h : isLit o = some t) : srcOf L o = none := by
  unfold isLit at h
  split at h
  · rename_i hop hg
    unfold srcOf
    rw [hop]
  · cases h
theorem isLit_al {C : Cx} {o : Oper} {t : Nat} (h : isLit o = some t) : isAl C o = none := by
  unfold isLit at h
  split at h
  · rename_i hop hg
    unfold isAl
    rw [hop]
  · cases h
theorem isAl_src {C : Cx} {L : List Nat} {o : Oper} {z : List AV} (h : isAl C o = some z) : srcOf L o = none := by
  unfold isAl at h
  split at h
  · rename_i hop hg
    unfold srcOf
    rw [hop]
  · cases h
theorem qappO_congr {C : Cx} {ops : Array Oper} {o : Oper} {s s' : St} (h : ∀ t ∈ o.looksAt ops, s.slots t = s'.slots t) : qappO C o s = qappO C o s' := by
  unfold qappO
  split
  · rename_i args ts hop
    rw [rdArgs_congr args.toList ts.toList fun x hx t ht => h t (List.mem_append_left _ (List.mem_filterMap.2 ⟨x, by rw [hop]; simp [Op.operands, Call.operands]; simpa using hx, by rw [ht]⟩))]
  · rfl

/-- The first m operations put their values, and make their boxes, in any order. -/
theorem draw_putsA (D : DrawA ops m) (hbase : S.k ≤ C.base) {rs : Nat → AV} {st : St} {K : St → Prop} (hR : ∀ E a, Inv C.N S E → a.tmps = E.tm → a.defers = [] → K E.st → R .normal a E.w)
    (hcan : ∀ j, j < m → ∃ o d, ops[j]? = some o ∧ o.dst = some d ∧ okA C ops L (rs j) o d (canonA C ops L rs st j)) {fin finU : St} (hfinA : IsA C L ops rs st m (fun _ => True) fin) (hU : AllA C L ops rs st m finU) (hso : srcOk L ops m = true) (hL : ∀ t ∈ L, ∃ j oj tj, j < m ∧ ops[j]? = some oj ∧ oj.dst = some t ∧ isLit oj = some tj)
    (hk1 : ∀ j o d z, j < m → ops[j]? = some o → o.dst = some d → isAl C o = some z → keep C d z st) (hk2 : ∀ j o d z, j < m → ops[j]? = some o → o.dst = some d → isAl C o = some z → keepF C d z finU)
    (ht1 : ∀ j o t, j < m → ops[j]? = some o → srcOf L o = some t → keepT t st) (ht2 : ∀ j o t, j < m → ops[j]? = some o → srcOf L o = some t → keepT t finU) (hfin : aops C ops (ops.toList.drop m) fin K) :
    ∀ (fuel : Nat) (listed : Array Bool) (E : Env) (a : Act), (List.range m).countP (fun j => !listed.getD j true) + (ops.size - m) ≤ fuel → listed.size = ops.size → (∀ j, m ≤ j → j < ops.size → listed.getD j true = false) → ClosedL ops listed →
      IsA C L ops rs st m (fun j => listed.getD j true = true) E.st → Inv C.N S E → a.tmps = E.tm → a.defers = [] → wpAny C.P .any ops R fuel listed a E.w := by
  have hdst : ∀ k, k < m → ∃ o d, ops[k]? = some o ∧ o.dst = some d := fun k hk => by
    obtain ⟨o, d, h1, h2, _⟩ := hcan k hk; exact ⟨o, d, h1, h2⟩
  have hne : ∀ j k d, j < m → k < m → j ≠ k → dstOf ops k = some d → dstOf ops j ≠ some d := by
    intro j k d hj hk hjk hd he
    obtain ⟨oj, dj, h1, h2⟩ := hdst j hj
    obtain ⟨ok, dk, h3, h4⟩ := hdst k hk
    refine D.dst k j ok oj hk hj hjk h3 h1 ?_
    simp only [dstOf, h1, h3, Option.bind_some] at hd he
    rw [hd, he]
  have hcs := fun k hk => canonA_slots (C := C) (L := L) (ops := ops) (rs := rs) (st := st) hdst hne k hk
  have hle := D.le
  have hold : ∀ {Dn : Nat → Prop} {s : St}, IsA C L ops rs st m Dn s → ∀ id cs, st.boxes id = some cs → s.boxes id = some cs := fun {Dn s} h id cs hc => by
    rw [h.oldb id fun j o d z hj _ ho hd hz e => ?_, hc]
    obtain ⟨o', d', ho', hd', hok⟩ := hcan j hj
    rw [ho] at ho'; cases ho'
    rw [hd] at hd'; cases hd'
    unfold okA at hok
    rw [hz] at hok
    rw [(hcs j (by omega)).1, ← e, hc] at hok
    cases hok.2
  intro fuel
  induction fuel with
  | zero =>
    intro listed E a hf hs htail hcl hT I ha hd
    have hall : ∀ j, j < m → listed.getD j true = true := fun j hj => by
      have h0 : (List.range m).countP (fun j => !listed.getD j true) = 0 := by omega
      rw [List.countP_eq_zero] at h0
      simpa using h0 j (List.mem_range.2 hj)
    have hst : E.st = fin := isA_unique (isA_congr hT (D' := fun _ => True) fun j hj => ⟨fun _ => trivial, fun _ => hall j hj⟩) hfinA
    refine draw_tailA D hbase hR 0 m listed E a hle (by omega) (Nat.le_refl m) hs (fun j hj => ?_) I ha hd (by rw [hst]; exact hfin)
    by_cases hjm : j < m
    · rw [hall j hjm]; simp [hjm]
    · rw [htail j (by omega) hj]; simp [hjm]
  | succ fuel ih =>
    intro listed E a hf hs htail hcl hT I ha hd
    by_cases hall : ∀ j, j < m → listed.getD j true = true
    · have hst : E.st = fin := isA_unique (isA_congr hT (D' := fun _ => True) fun j hj => ⟨fun _ => trivial, fun _ => hall j hj⟩) hfinA
      refine draw_tailA D hbase hR (fuel + 1) m listed E a hle (by omega) (Nat.le_refl m) hs (fun j hj => ?_) I ha hd (by rw [hst]; exact hfin)
      by_cases hjm : j < m
      · rw [hall j hjm]; simp [hjm]
      · rw [htail j (by omega) hj]; simp [hjm]
    · have hgf : ∀ j, j < ops.size → listed.getD j false = listed.getD j true := fun j hj => by
        have hjs : j < listed.size := by omega
        rw [Array.getD_eq_getD_getElem?, Array.getD_eq_getD_getElem?, Array.getElem?_eq_getElem hjs]; rfl
      have hex : ∃ j, j < m ∧ listed.getD j true = false := by
        refine Classical.byContradiction fun hn => hall fun j hj => ?_
        cases hb : listed.getD j true with
        | true => rfl
        | false => exact absurd ⟨j, hj, hb⟩ hn
      refine ⟨fun h0 => ?_, fun i hi => ?_⟩
      · exfalso
        have least : ∃ j, (j < m ∧ listed.getD j true = false) ∧ ∀ i, i < j → listed.getD i true = true := by
          obtain ⟨j, hj⟩ := hex
          induction j using Nat.strongRecOn with
          | _ j ihj =>
            by_cases hall2 : ∀ i, i < j → listed.getD i true = true
            · exact ⟨j, hj, hall2⟩
            · have : ∃ i, i < j ∧ listed.getD i true = false := by
                refine Classical.byContradiction fun hn => hall2 fun i hi => ?_
                cases hb : listed.getD i true with
                | true => rfl
                | false => exact absurd ⟨i, hi, hb⟩ hn
              obtain ⟨i, hi, hb⟩ := this
              exact ihj i hi ⟨by omega, hb⟩
        obtain ⟨j, ⟨hj1, hj2⟩, hj3⟩ := least
        obtain ⟨o, d, ho, _⟩ := hdst j hj1
        have hr : j ∈ Region.ready .any ops listed := by
          refine mem_ready.2 ⟨hj2, o, ho, fun e he hb => ?_⟩
          have h1 := D.back j o ho e he hb
          rw [hgf e.on (by omega)]; exact hj3 _ h1
        rw [h0] at hr; simp at hr
      · obtain ⟨h1, o, ho, h2⟩ := mem_ready.1 hi
        have hil := (Array.getElem?_eq_some_iff.1 ho).1
        have him : i < m := by
          refine Classical.byContradiction fun hn => ?_
          obtain ⟨j, hj1, hj2⟩ := hex
          have := ready_reach hcl hi (D.tail i o (by omega) ho j (by omega))
          rw [hgf j (by omega), hj2] at this; cases this
        obtain ⟨o', d, ho', hod, hok⟩ := hcan i him
        rw [ho] at ho'; cases ho'
        have hdi : dstOf ops i = some d := by simp [dstOf, ho, hod]
        obtain ⟨hc1, hc2, hc3⟩ := hcs i (by omega)
        have hgl : ∀ t ∈ o.looksAt ops, ¬ Gone L ops m (fun j => listed.getD j true = true) t := fun t ht ⟨c, oc, hcm, hcD, hoc, hcs⟩ => by
          have hci : c ≠ i := fun e => by
            subst e
            have h6 : listed.getD c true = true := hcD
            rw [h1] at h6; cases h6
          exact srcOk_spec hso hcm him (Ne.symm hci) hoc ho hcs ht
        have hslot : ∀ t ∈ o.looksAt ops, (canonA C ops L rs st i).slots t = E.st.slots t := by
          intro t ht
          by_cases hj : ∃ j, j < m ∧ dstOf ops j = some t
          · obtain ⟨j, hj, hjt⟩ := hj
            obtain ⟨oj, hoj, hdj⟩ := Option.bind_eq_some_iff.1 hjt
            obtain ⟨hji, hr⟩ := D.look i j o oj t him hj ho hoj ht hdj
            have hlj := ready_reach hcl hi hr
            rw [hgf j (by omega)] at hlj
            rw [hT.put j t hj hlj hjt (hgl t ht), hc2 j t hji hjt]
          · have hn : ∀ j, j < m → dstOf ops j ≠ some t := fun j hj' he => hj ⟨j, hj', he⟩
            rw [hT.old t (fun j hj _ => hn j hj) (hgl t ht), hc3 t fun j hj => hn j (by omega)]
        have hgd : ∀ c o', c < m → ops[c]? = some o' → srcOf L o' = some d → ¬ (listed.getD c true = true ∨ c = i) := fun c o' hcm hoc hcs hh => by
          obtain ⟨hic, hr⟩ := D.look c i o' o d hcm him hoc ho (srcOf_looks hcs) hod
          rcases hh with hh | rfl
          · have h5 := hcl c i (by rw [hgf c (by omega)]; exact hh) hr
            rw [hgf i (by omega), h1] at h5; cases h5
          · omega
        have hd1 : ∀ j, j < m → j ≠ i → dstOf ops j ≠ some d := fun j hj hji => hne j i d hj him hji hdi
        have hset : ∀ j, j ≠ i → (listed.setIfInBounds i true).getD j true = listed.getD j true := fun j hj => getD_set_ne true (Ne.symm hj)
        have hseti : (listed.setIfInBounds i true).getD i true = true := by
          rw [Array.getD_eq_getD_getElem?, Array.getElem?_setIfInBounds_self_of_lt (by omega)]; rfl
        have hfuel : (List.range m).countP (fun j => !(listed.setIfInBounds i true).getD j true) + (ops.size - m) ≤ fuel := by
          have := countP_lt (p := fun j => !listed.getD j true) (p' := fun j => !(listed.setIfInBounds i true).getD j true) (List.range m) (fun j _ h => by
            by_cases hji : j = i
            · subst hji; rw [hseti] at h; cases h
            · rw [hset j hji] at h; exact h) ⟨i, List.mem_range.2 him, by rw [h1]; rfl, by rw [hseti]; rfl⟩
          omega
        have hcl' : ClosedL ops (listed.setIfInBounds i true) := closed_add hcl hi (by omega)
        have hD' : ∀ {s : St}, IsA C L ops rs st m (fun j => listed.getD j true = true ∨ j = i) s → IsA C L ops rs st m (fun j => (listed.setIfInBounds i true).getD j true = true) s := fun h => isA_congr h fun j hj => by
          by_cases hji : j = i
          · subst hji; simp [hseti]
          · rw [hset j hji]; simp [hji]
        have hngd : ¬ Gone L ops m (fun j => listed.getD j true = true) d := fun ⟨c, oc, g1, g2, g3, g4⟩ => hgd c oc g1 g3 g4 (.inl g2)
        have hdE : E.st.slots d = (canonA C ops L rs st i).slots d := by
          rw [hT.old d (fun j hj hl => hd1 j hj fun e => by subst e; rw [h1] at hl; cases hl) hngd, hc3 d (fun j hj => hd1 j (by omega) (by omega))]
        have hnd : ∀ j, j < m → listed.getD j true = true → dstOf ops j ≠ some d := fun j hj hl => hd1 j hj fun e => by subst e; rw [h1] at hl; cases hl
        unfold okA at hok
        cases hal : isAl C o with
        | some z =>
          rw [hal] at hok
          refine al_head I hbase ha hd ho hod hal hok.1 (keep_mix hT hU hnd (hk1 i o d z him ho hod hal) (hk2 i o d z him ho hod hal)) fun E' a' I' ha' hd' hst' => ?_
          refine ih _ E' a' hfuel (by simpa using hs) (fun j hj hjl => by rw [hset j (by omega)]; exact htail j hj hjl) hcl' (hD' ?_) I' ha' hd'
          rw [hst']
          exact isA_box hT him ho hod hal (isAl_src hal) (fun j hj hji => hd1 j hj hji) hgd
        | none =>
          rw [hal] at hok
          simp only at hok
          cases hlit : isLit o with
          | some tl =>
            rw [hlit] at hok
            have hput : putA C ops L rs st i = .sl .own (szOf C.T tl) [] := by simp [putA, ho, hod, vA, hal, hlit]
            refine lit_head I ha hd ho hod hlit hok.1 hok.2.1 (by rw [hdE]; exact hok.2.2) fun E' a' I' ha' hd' hst' => ?_
            refine ih _ E' a' hfuel (by simpa using hs) (fun j hj hjl => by rw [hset j (by omega)]; exact htail j hj hjl) hcl' (hD' ?_) I' ha' hd'
            rw [hst', ← hput]
            exact isA_put hT him ho hod hal (fun j hj hji => hd1 j hj hji) hgd (.inl ⟨rfl, isLit_src hlit⟩)
          | none =>
            rw [hlit] at hok
            simp only at hok
            cases hsr : srcOf L o with
            | some t =>
              rw [hsr] at hok
              have hlook := srcOf_looks (ops := ops) hsr
              obtain ⟨j, oj, tj, hj, hoj, hdj, hlj⟩ := hL t (srcOf_mem hsr)
              have hjt : dstOf ops j = some t := by simp [dstOf, hoj, hdj]
              have hji := (D.look i j o oj t him hj ho hoj hlook hdj).1
              have hpj : putA C ops L rs st j = .sl .own (szOf C.T tj) [] := by simp [putA, hoj, hdj, vA, isLit_al hlj, hlj]
              have hx : E.st.slots t = .sl .own (szOf C.T tj) [] := by rw [← hslot t hlook, hc2 j t hji hjt, hpj]
              have hqe : qappO C o E.st = qappO C o (canonA C ops L rs st i) := (qappO_congr fun t' ht' => hslot t' ht').symm
              have hput : putA C ops L rs st i = (qappO C o (canonA C ops L rs st i)).v := by simp [putA, ho, hod, vA, hal, hlit, hsr]
              refine app_head I ha hd ho hod hsr (by rw [hqe]; exact hok.1) hok.2.1 hx (by rw [hdE]; exact hok.2.2) (take_mix hT hU hx (ht1 i o t him ho hsr) (ht2 i o t him ho hsr)) fun E' a' I' ha' hd' hst' => ?_
              refine ih _ E' a' hfuel (by simpa using hs) (fun j hj hjl => by rw [hset j (by omega)]; exact htail j hj hjl) hcl' (hD' ?_) I' ha' hd'
              rw [hst', hqe, ← hput]
              exact isA_put hT him ho hod hal (fun j hj hji => hd1 j hj hji) hgd (.inr ⟨t, hsr, rfl⟩)
            | none =>
              rw [hsr] at hok
              obtain ⟨hok, hdN, hfree⟩ := hok
              have hpeq : popg C ops (rs i) o E.st = popg C ops (rs i) o (canonA C ops L rs st i) := popg_mono hslot (fun id cs hc => by rw [hc1] at hc; exact hold hT id cs hc) hok
              have hput : putA C ops L rs st i = (popg C ops (rs i) o (canonA C ops L rs st i)).v := by simp [putA, ho, hod, vA, hal, hlit, hsr]
              refine pop_head I hbase ha hd ho hod (by rw [hpeq]; exact hok) hdN (by rw [hdE]; exact hfree) fun E' a' I' ha' hd' hst' => ?_
              refine ih _ E' a' hfuel (by simpa using hs) (fun j hj hjl => by rw [hset j (by omega)]; exact htail j hj hjl) hcl' (hD' ?_) I' ha' hd'
              rw [hst', hpeq, ← hput]
              exact isA_put hT him ho hod hal (fun j hj hji => hd1 j hj hji) hgd (.inl ⟨rfl, hsr⟩)
end
end Go.AM
namespace Go.AM

theorem aputsA_get {C : Cx} {ops : Array Oper} {L : List Nat} {rs : Nat → AV} {st : St} {m : Nat} {K : St → Prop} (hm : m ≤ ops.size) : ∀ (l : List Oper) (k : Nat), k ≤ m → l = (ops.toList.take m).drop k → aputsA C ops L rs k l (canonA C ops L rs st k) K →
    (∀ j, k ≤ j → j < m → ∃ o d, ops[j]? = some o ∧ o.dst = some d ∧ okA C ops L (rs j) o d (canonA C ops L rs st j)) ∧ K (canonA C ops L rs st m)
  | [], k, hk, hl, h => by
    have : m ≤ k := by
      have := congrArg List.length hl
      simp at this; omega
    have hkm : k = m := by omega
    subst hkm
    exact ⟨fun j h1 h2 => absurd h1 (by omega), h⟩
  | o :: rest, k, hk, hl, h => by
    have hlt : k < m := by
      have := congrArg List.length hl
      simp at this; omega
    have ho : ops[k]? = some o := by
      have := congrArg (·[0]?) hl
      simp only [List.getElem?_cons_zero, List.getElem?_drop, Nat.add_zero, List.getElem?_take, hlt, if_true] at this
      rw [← Array.getElem?_toList]; exact this.symm
    have hrest : rest = (ops.toList.take m).drop (k + 1) := by
      have := congrArg List.tail hl
      simpa [List.tail_drop] using this
    rw [aputsA] at h
    split at h
    · rename_i d hd
      obtain ⟨h1, h4⟩ := h
      have e : canonA C ops L rs st (k + 1) = (canonA C ops L rs st k).put d (vA C ops L (rs k) o d (canonA C ops L rs st k)) := by simp [canonA, ho, hd]
      rw [← e] at h4
      obtain ⟨g1, g2⟩ := aputsA_get hm rest (k + 1) (by omega) hrest h4
      refine ⟨fun j hj1 hj2 => ?_, g2⟩
      by_cases hjk : j = k
      · subst hjk; exact ⟨o, d, ho, hd, h1⟩
      · exact g1 j (by omega) hj2
    · exact h.elim

/-- What is asked of the first and the last state. -/
def sideA (C : Cx) (L : List Nat) (l : List Oper) (st fin : St) : Prop := keeps C l st ∧ keepsF C l fin ∧ tks L l st ∧ tks L l fin

theorem getD_listed (n j : Nat) (d : Bool) (h : j < n) : (Array.replicate n false).getD j d = false := by simp [h]

section
variable {C : Cx} {Q : Exit → St → Prop} {st : St}

/-- A region that draws its order. -/
theorem AWp.drawA (m : Nat) (rs : Nat → AV) {id : Nat} {ops : Array Oper} (hmix : C.P.follows .mixedOrders = true) (hok : (drawOkA ops m && srcOk (litsOf (ops.toList.take m)) ops m) = true)
    (h : aputsA C ops (litsOf (ops.toList.take m)) rs 0 (ops.toList.take m) st fun s => sideA C (litsOf (ops.toList.take m)) (ops.toList.take m) st (s.addB (newsA C (ops.toList.take m))) ∧ aops C ops (ops.toList.drop m) ((s.addB (newsA C (ops.toList.take m))).noSlots (srcs (litsOf (ops.toList.take m)) (ops.toList.take m))) (Q .normal)) : AWp C (.region id ops true) st Q := by
  generalize hLe : litsOf (ops.toList.take m) = L at h hok
  intro S E a hb I ha hd he
  rw [Bool.and_eq_true] at hok
  have D := drawOkA_spec hok.1
  obtain ⟨hcan, ⟨hk1, hk2, ht1, ht2⟩, hfin⟩ := aputsA_get D.le _ 0 (by omega) (by simp) h
  have hle := D.le
  have hdst : ∀ k, k < m → ∃ o d, ops[k]? = some o ∧ o.dst = some d := fun k hk => by
    obtain ⟨o, d, h1, h2, _⟩ := hcan k (by omega) hk; exact ⟨o, d, h1, h2⟩
  have hne : ∀ j k d, j < m → k < m → j ≠ k → dstOf ops k = some d → dstOf ops j ≠ some d := by
    intro j k d hj hk hjk hd he
    obtain ⟨oj, dj, h1, h2⟩ := hdst j hj
    obtain ⟨ok, dk, h3, h4⟩ := hdst k hk
    refine D.dst k j ok oj hk hj hjk h3 h1 ?_
    simp only [dstOf, h1, h3, Option.bind_some] at hd he
    rw [hd, he]
  obtain ⟨c1, c2, c3⟩ := canonA_slots (C := C) (L := L) (rs := rs) (st := st) hdst hne m (Nat.le_refl m)
  have hmem : ∀ j o, j < m → ops[j]? = some o → o ∈ ops.toList.take m := fun j o hj ho => by
    rw [List.mem_take_iff_getElem]
    have hjl : j < ops.size := by omega
    rw [Array.getElem?_eq_getElem hjl] at ho
    exact ⟨j, by simp; omega, by simpa using ho⟩
  have hat : ∀ o, o ∈ ops.toList.take m → ∃ j, j < m ∧ ops[j]? = some o := fun o ho => by
    rw [List.mem_take_iff_getElem] at ho
    obtain ⟨j, hj, rfl⟩ := ho
    exact ⟨j, by omega, by rw [← Array.getElem?_toList, List.getElem?_eq_getElem]⟩
  have hL : ∀ t ∈ L, ∃ j oj tj, j < m ∧ ops[j]? = some oj ∧ oj.dst = some t ∧ isLit oj = some tj := fun t ht => by
    rw [← hLe] at ht
    obtain ⟨o, h1, h2, h3⟩ := mem_litsOf ht
    obtain ⟨j, hj, hoj⟩ := hat o h1
    obtain ⟨tj, htj⟩ := Option.isSome_iff_exists.1 h3
    exact ⟨j, o, tj, hj, hoj, h2, htj⟩
  have hU : AllA C L ops rs st m ((canonA C ops L rs st m).addB (newsA C (ops.toList.take m))) := by
    refine ⟨fun j t hj hjt => c2 j t hj hjt, fun j o d z hj ho hd hz => ?_⟩
    have h1 := newsA_mem (C := C) (hmem j o hj ho) hd hz
    obtain ⟨cs, hcs⟩ := Option.isSome_iff_exists.1 h1
    obtain ⟨o', ho', d', z', hd', hz', he', rfl⟩ := newsA_get hcs
    have hdd : d' = d := (Nat.add_left_cancel he').symm
    subst hdd
    obtain ⟨j', hj', ho''⟩ := hat o' ho'
    have hjj : j' = j := Classical.byContradiction fun hn => hne j' j d' hj' hj hn (by simp [dstOf, ho, hd]) (by simp [dstOf, ho'', hd'])
    subst hjj
    rw [ho] at ho''; cases ho''
    rw [hz] at hz'; cases hz'
    show (match (newsA C (ops.toList.take m)).lookup (C.base + d') with | some cs => some cs | none => _) = _
    rw [hcs]
  have hg : ∀ t, Gone L ops m (fun _ => True) t ↔ (srcs L (ops.toList.take m)).contains t = true := fun t => by
    rw [List.contains_iff_mem, mem_srcs]
    constructor
    · rintro ⟨c, o, h1, _, h2, h3⟩; exact ⟨o, hmem c o h1 h2, h3⟩
    · rintro ⟨o, h1, h2⟩
      obtain ⟨j, hj, hoj⟩ := hat o h1
      exact ⟨j, o, hj, trivial, hoj, h2⟩
  have hfinA : IsA C L ops rs st m (fun _ => True) (((canonA C ops L rs st m).addB (newsA C (ops.toList.take m))).noSlots (srcs L (ops.toList.take m))) := by
    refine ⟨fun j t hj _ hjt hgn => ?_, fun t hgn => ?_, fun t ht hgn => ?_, fun j o d z hj _ ho hd hz => hU.newb j o d z hj ho hd hz, fun id hi => ?_⟩
    · show (if _ then _ else _) = _
      rw [if_neg fun h => hgn ((hg t).2 h)]
      exact c2 j t hj hjt
    · show (if _ then _ else _) = _
      rw [if_pos ((hg t).1 hgn)]
    · show (if _ then _ else _) = _
      rw [if_neg fun h => hgn ((hg t).2 h)]
      exact c3 t fun j hj => ht j hj trivial
    · have hn : (newsA C (ops.toList.take m)).lookup id = none := by
        cases hc : (newsA C (ops.toList.take m)).lookup id with
        | none => rfl
        | some cs =>
          obtain ⟨o, ho, d, z, hd, hz, he, _⟩ := newsA_get hc
          obtain ⟨j, hj, hoj⟩ := hat o ho
          exact absurd he (hi j o d z hj trivial hoj hd hz)
      show (match (newsA C (ops.toList.take m)).lookup id with | some cs => some cs | none => _) = _
      rw [hn]
      simp only [c1]
  refine wp_region_any hmix ?_
  refine draw_putsA (E := { E with w := { E.w with drawn := E.w.drawn + 1 } }) (st := st) D hb (K := Q .normal) (R := APost C S Q) (fun E a I ha hd h => ⟨E, rfl, I, ha, hd, h⟩) (fun j hj => hcan j (by omega) hj) hfinA hU hok.2 hL
    (fun j o d z hj ho hd hz => keeps_get hk1 (hmem j o hj ho) hd hz) (fun j o d z hj ho hd hz => keepsF_get hk2 (hmem j o hj ho) hd hz)
    (fun j o t hj ho hz => tks_get ht1 (hmem j o hj ho) hz) (fun j o t hj ho hz => tks_get ht2 (hmem j o hj ho) hz) hfin ops.size (Array.replicate ops.size false) a ?_ (by simp) (fun j _ hj => getD_listed _ _ _ hj) ?_ ?_ (I.drawn _ (Nat.le_succ _)) ha hd
  · have h1 : (List.range m).countP (fun j => !(Array.replicate ops.size false).getD j true) ≤ (List.range m).length := List.countP_le_length
    rw [List.length_range] at h1
    omega
  · intro i j hi _
    rw [Array.getD_eq_getD_getElem?] at hi
    rcases Nat.lt_or_ge i ops.size with h1 | h1
    · rw [Array.getElem?_replicate, if_pos h1] at hi; cases hi
    · rw [Array.getElem?_replicate, if_neg (by omega)] at hi; cases hi
  · refine ⟨fun j t hj hD _ _ => ?_, fun t hgn => ?_, fun t _ _ => by rw [← he], fun j o d z hj hD => ?_, fun id _ => by rw [← he]⟩
    · rw [getD_listed _ _ _ (by omega)] at hD; cases hD
    · obtain ⟨c, o, h1, h2, _⟩ := hgn
      have h2' : (Array.replicate ops.size false).getD c true = true := h2
      rw [getD_listed _ _ _ (by omega)] at h2'; cases h2'
    · rw [getD_listed _ _ _ (by omega)] at hD; cases hD

theorem AWp.goA (m : Nat) (rs : Nat → AV) (ks kb : List Nat) {id : Nat} {ops : Array Oper} {y : Code} (hmix : C.P.follows .mixedOrders = true) (hok : (drawOkA ops m && srcOk (litsOf (ops.toList.take m)) ops m) = true)
    (h : ∀ K : St → Prop, (∀ l bx, AWp C y (St.of l bx) Q → K (St.of l bx)) → aputsA C ops (litsOf (ops.toList.take m)) rs 0 (ops.toList.take m) st fun s => sideA C (litsOf (ops.toList.take m)) (ops.toList.take m) st (s.addB (newsA C (ops.toList.take m))) ∧
      aops C ops (ops.toList.drop m) ((s.addB (newsA C (ops.toList.take m))).noSlots (srcs (litsOf (ops.toList.take m)) (ops.toList.take m))) fun s => K (St.of (seeS ks kb s ks) (seeB ks kb s kb))) : AWp C (.seq (.region id ops true) y) st Q := by
  refine AWp.seq (AWp.post (fun _ => (ks, kb)) ((AWp.drawA (Q := fun e s => thenQ (fun s => AWp C y (s.clean ks kb) Q) (fun _ _ => False) e s) m rs hmix hok ?_).mono ?_))
  · have := h (fun s => AWp C y s Q) fun _ _ h => h
    simp only [← St.clean_eq] at this
    exact this
  · intro e s hs
    cases e with
    | normal => exact hs
    | _ => exact hs.elim

theorem AWp.lastA (m : Nat) (rs : Nat → AV) (ks kb : List Nat) (l : List (Nat × AV)) (bx : Boxes) {id : Nat} {ops : Array Oper} (hmix : C.P.follows .mixedOrders = true) (hok : (drawOkA ops m && srcOk (litsOf (ops.toList.take m)) ops m) = true)
    (h : aputsA C ops (litsOf (ops.toList.take m)) rs 0 (ops.toList.take m) st fun s => sideA C (litsOf (ops.toList.take m)) (ops.toList.take m) st (s.addB (newsA C (ops.toList.take m))) ∧ aops C ops (ops.toList.drop m) ((s.addB (newsA C (ops.toList.take m))).noSlots (srcs (litsOf (ops.toList.take m)) (ops.toList.take m))) fun s => s.sees ks kb l bx) (h2 : Q .normal (St.of l bx)) : AWp C (.region id ops true) st Q := by
  refine AWp.postFit (AWp.post (fun _ => (ks, kb)) ((AWp.drawA (Q := fun e s => thenQ (fun s => s.sees ks kb l bx) (fun _ _ => False) e s) m rs hmix hok h).mono ?_))
  intro e s hs
  cases e with
  | normal => exact ⟨_, St.sees_fits hs, h2⟩
  | _ => exact hs.elim
end

attribute [simp] qapp qappO isLit srcOf isAl okA vA alOk keep keepF alQ alF alZ sideA keepT srcQ
@[simp] theorem aputsA_nil {C : Cx} {ops : Array Oper} {L : List Nat} {rs : Nat → AV} {k : Nat} {st : St} {K : St → Prop} : aputsA C ops L rs k [] st K = K st := rfl
@[simp] theorem aputsA_cons {C : Cx} {ops : Array Oper} {L : List Nat} {rs : Nat → AV} {k d : Nat} {op type pos after guard} {rest : List Oper} {st : St} {K : St → Prop} : aputsA C ops L rs k (⟨some d, op, type, pos, after, guard⟩ :: rest) st K =
    (okA C ops L (rs k) ⟨some d, op, type, pos, after, guard⟩ d st ∧ aputsA C ops L rs (k + 1) rest (st.put d (vA C ops L (rs k) ⟨some d, op, type, pos, after, guard⟩ d st)) K) := rfl
@[congr] theorem aputsA_congr {C : Cx} {ops : Array Oper} {L L' : List Nat} {rs : Nat → AV} {k k' : Nat} {l l' : List Oper} {st st' : St} {K : St → Prop} (hl : L = L') (h0 : k = k') (h1 : l = l') (h2 : st = st') : aputsA C ops L rs k l st K = aputsA C ops L' rs k' l' st' K := by
  subst_vars; rfl
@[simp] theorem alTr_of {C : Cx} {d : Nat} {z : List AV} {l : List (Nat × AV)} {bx : Boxes} : alTr C d z (St.of l bx) = ((St.of l bx).settle (alQ C d z) (alF C d z)).killB (C.base + d) := rfl
@[simp] theorem tkTr_of {t : Nat} {l : List (Nat × AV)} {bx : Boxes} : tkTr t (St.of l bx) = (St.of l bx).take (srcQ t) := rfl
@[simp] theorem litsOf_nil : litsOf [] = [] := rfl
@[simp] theorem litsOf_cons {d : Nat} {op type pos after guard} {rest : List Oper} : litsOf (⟨some d, op, type, pos, after, guard⟩ :: rest) = match isLit ⟨some d, op, type, pos, after, guard⟩ with
    | some _ => d :: litsOf rest
    | none => litsOf rest := by
  rw [litsOf]
  cases isLit ⟨some d, op, type, pos, after, guard⟩ <;> rfl
@[simp] theorem newsA_nil {C : Cx} : newsA C [] = [] := rfl
@[simp] theorem newsA_cons {C : Cx} {d : Nat} {op type pos after guard} {rest : List Oper} : newsA C (⟨some d, op, type, pos, after, guard⟩ :: rest) = match isAl C ⟨some d, op, type, pos, after, guard⟩ with
    | some z => (C.base + d, alZ C d z) :: newsA C rest
    | none => newsA C rest := by
  rw [newsA]
  cases isAl C ⟨some d, op, type, pos, after, guard⟩ <;> rfl
@[simp] theorem keeps_nil {C : Cx} {s : St} : keeps C [] s = True := rfl
@[simp] theorem keeps_cons {C : Cx} {d : Nat} {op type pos after guard} {rest : List Oper} {s : St} : keeps C (⟨some d, op, type, pos, after, guard⟩ :: rest) s = match isAl C ⟨some d, op, type, pos, after, guard⟩ with
    | some z => keep C d z s ∧ keeps C rest s
    | none => keeps C rest s := by
  rw [keeps]
  cases isAl C ⟨some d, op, type, pos, after, guard⟩ <;> simp
@[simp] theorem keepsF_nil {C : Cx} {s : St} : keepsF C [] s = True := rfl
@[simp] theorem keepsF_cons {C : Cx} {d : Nat} {op type pos after guard} {rest : List Oper} {s : St} : keepsF C (⟨some d, op, type, pos, after, guard⟩ :: rest) s = match isAl C ⟨some d, op, type, pos, after, guard⟩ with
    | some z => keepF C d z s ∧ keepsF C rest s
    | none => keepsF C rest s := by
  rw [keepsF]
  cases isAl C ⟨some d, op, type, pos, after, guard⟩ <;> simp
@[simp] theorem tks_nil {L : List Nat} {s : St} : tks L [] s = True := rfl
@[simp] theorem tks_cons {L : List Nat} {o : Oper} {rest : List Oper} {s : St} : tks L (o :: rest) s = match srcOf L o with
    | some t => keepT t s ∧ tks L rest s
    | none => tks L rest s := by
  rw [tks]
  cases srcOf L o <;> simp
@[simp] theorem srcs_nil {L : List Nat} : srcs L [] = [] := rfl
@[simp] theorem srcs_cons {L : List Nat} {o : Oper} {rest : List Oper} : srcs L (o :: rest) = match srcOf L o with
    | some t => t :: srcs L rest
    | none => srcs L rest := rfl
@[simp] theorem St.of_noSlot {l : List (Nat × AV)} {bx : Boxes} {d : Nat} : (St.of l bx).noSlot d = St.of (l.filter fun e => !(e.1 == d)) bx := by
  refine St.ext' (fun t => ?_) (fun id => rfl)
  show (if t = d then AV.any else (l.lookup t).getD .any) = ((l.filter fun e => !(e.1 == d)).lookup t).getD .any
  rw [lookup_filter fun k => !(k == d)]
  by_cases htd : t = d
  · subst htd; simp
  · simp [htd]
@[simp] theorem St.of_noSlots {l : List (Nat × AV)} {bx : Boxes} {ts : List Nat} : (St.of l bx).noSlots ts = St.of (l.filter fun e => !ts.contains e.1) bx := by
  refine St.ext' (fun t => ?_) (fun id => rfl)
  show (if ts.contains t then AV.any else (l.lookup t).getD .any) = ((l.filter fun e => !ts.contains e.1).lookup t).getD .any
  rw [lookup_filter fun k => !ts.contains k]
  cases ts.contains t <;> simp
attribute [simp] St.of_addB
end Go.AM
namespace Go.AM
open Go.Proofs Go.Shelf Go.Sort

theorem c_Clone_Dg (l : List Dg) (hl : l.length ≤ 1000000) : Pure Try.prog 102 [.sl .fro 3 (dgsAV l)] (.sl .own 3 (dgsAV l)) := by
  refine proc_of (cx Try.prog 8 [0, 2, 4] [2]) 7 [.tmp 2] Try.func102 rfl rfl rfl rfl rfl rfl (Nat.le_refl _) rfl ?_
  refine AWp.go [0] [] fun K hK => ?_
  simp
  first | refine hK _ _ ?_ | refine ⟨by omega, hK _ _ ?_⟩ | refine ⟨by omega, by omega, hK _ _ ?_⟩
  clear hK K
  refine AWp.seq ?_
  refine AWp.go [0, 4] [] fun K hK => ?_
  simp
  refine ⟨fun h0 => hK _ _ ?_, hK _ _ ?_⟩
  · clear hK K
    refine AWp.cond (t := true) (by first | (simp; done) | (simp; omega)) (fun _ => ?_) (by simp)
    refine AWp.go [2] [] fun K hK => ?_
    simp
    first | refine hK _ _ ?_ | refine ⟨by omega, hK _ _ ?_⟩ | refine ⟨by omega, by omega, hK _ _ ?_⟩
    clear hK K
    refine AWp.ret ?_
    simp [h0]
  · clear hK K
    refine AWp.cond (t := false) (by first | (simp; done) | (simp; omega)) (by simp) (fun _ => ?_)
    refine AWp.skip ?_
    show AWp _ _ _ _
    refine AWp.go [2] [] fun K hK => ?_
    simp
    first | refine hK _ _ ?_ | refine ⟨by omega, hK _ _ ?_⟩ | refine ⟨by omega, by omega, hK _ _ ?_⟩
    clear hK K
    refine AWp.ret ?_
    simp
def cmpDg (a b : Dg) : Int := orI [cmpI a.kind b.kind, cmpI a.thing b.thing]
set_option maxRecDepth 8000 in
set_option maxHeartbeats 2000000 in
theorem c_norm_does1 (a b : Dg) : Pure Try.prog 104 [.agg (dgC a), .agg (dgC b)] (.i .i64 (cmpDg a b)) := by
  have go := c_Or_int [cmpI a.kind b.kind, cmpI a.thing b.thing] (by simp)
  simp [intsAV] at go
  refine proc_of (cx Try.prog 17 [2, 3, 4] [4]) 15 [.tmp 4] Try.func104 rfl rfl rfl rfl rfl rfl (Nat.le_refl _) rfl ?_
  refine AWp.go [2, 3] [2, 3] fun K hK => ?_
  simp [dgC]
  first | refine hK _ _ ?_ | refine ⟨by omega, hK _ _ ?_⟩ | refine ⟨by omega, by omega, hK _ _ ?_⟩
  clear hK K
  refine AWp.goD 12 (fun k => if k = 4 then .i .i64 (cmpI a.kind b.kind) else if k = 9 then .i .i64 (cmpI a.thing b.thing) else if k = 11 then .i .i64 (cmpDg a b) else .any) [4] [] mix (by kernel_rfl) fun K hK => ?_
  simp [c_Compare_int, go, cmpDg]
  first | refine hK _ _ ?_ | refine ⟨by omega, hK _ _ ?_⟩ | refine ⟨by omega, by omega, hK _ _ ?_⟩
  clear hK K
  refine AWp.ret ?_
  simp [cmpDg]
theorem ltDg (x y : Dg) : ltOf cmpDg x y = true ↔ (x.kind < y.kind ∨ x.kind = y.kind ∧ x.thing < y.thing) := by
  have e : ltOf cmpDg x y = true ↔ cmpDg x y < 0 := by simp [ltOf]
  rw [e, cmpDg, orI_cons, orI_cons]
  simp [orI]
def sortDg (l : List Dg) : List Dg := l.mergeSort fun x y => !(ltOf cmpDg) y x
def ApartD (l : List Dg) : Prop := ∀ x ∈ l, ∀ y ∈ l, x.kind = y.kind → x.thing = y.thing → x = y
end Go.AM
namespace Go.Proofs
def Try.sortDg_ren : Go.Shelf.Ren := ⟨fun | 6 => 103 | 15 => 134 | 14 => 136 | 28 => 156 | 29 => 157 | 20 => 158 | 21 => 159 | 22 => 160 | 23 => 161 | 24 => 162 | 25 => 163 | 26 => 164 | 27 => 165 | 46 => 175 | 47 => 171 | 48 => 172 | 49 => 176 | 50 => 177 | 57 => 179 | n => n, fun | 22 => 62 | 24 => 84 | 25 => 121 | 3 => 3 | 39 => 141 | 0 => 0 | 53 => 160 | 55 => 162 | 4 => 4 | 46 => 154 | 45 => 153 | 50 => 106 | 5 => 5 | 9 => 9 | 66 => 171 | 70 => 175 | 76 => 179 | 77 => 180 | n => n, fun | n => n⟩
theorem Try.sortDg : Go.Proofs.SlLaysF0.n6 Try.prog Try.sortDg_ren := {
  mixed := by kernel_rfl,
  f6 := ⟨Try.f103.name, by decide, Try.func103.trans (congrArg some (by kernel_rfl))⟩,
  f14 := ⟨Try.f136.name, by decide, Try.func136.trans (congrArg some (by kernel_rfl))⟩,
  f15 := Try.func134.trans (congrArg some (by kernel_rfl)),
  f20 := ⟨Try.f158.name, by decide, Try.func158.trans (congrArg some (by kernel_rfl))⟩,
  f21 := ⟨Try.f159.name, by decide, Try.func159.trans (congrArg some (by kernel_rfl))⟩,
  f22 := ⟨Try.f160.name, by decide, Try.func160.trans (congrArg some (by kernel_rfl))⟩,
  f23 := ⟨Try.f161.name, by decide, Try.func161.trans (congrArg some (by kernel_rfl))⟩,
  f24 := ⟨Try.f162.name, by decide, Try.func162.trans (congrArg some (by kernel_rfl))⟩,
  f25 := ⟨Try.f163.name, by decide, Try.func163.trans (congrArg some (by kernel_rfl))⟩,
  f26 := ⟨Try.f164.name, by decide, Try.func164.trans (congrArg some (by kernel_rfl))⟩,
  f27 := ⟨Try.f165.name, by decide, Try.func165.trans (congrArg some (by kernel_rfl))⟩,
  f28 := Try.func156.trans (congrArg some (by kernel_rfl)),
  f29 := Try.func157.trans (congrArg some (by kernel_rfl)),
  f46 := ⟨Try.f175.name, by decide, Try.func175.trans (congrArg some (by kernel_rfl))⟩,
  f47 := Try.func171.trans (congrArg some (by kernel_rfl)),
  f48 := Try.func172.trans (congrArg some (by kernel_rfl)),
  f49 := ⟨Try.f176.name, by decide, Try.func176.trans (congrArg some (by kernel_rfl))⟩,
  f50 := ⟨Try.f177.name, by decide, Try.func177.trans (congrArg some (by kernel_rfl))⟩,
  f57 := ⟨Try.f179.name, by decide, Try.func179.trans (congrArg some (by kernel_rfl))⟩,
  t0 := Try.underlying0,
  a0 := Try.isAgg0,
  z0 := Try.sizeOf0,
  v0 := Try.zeroValue0,
  t3 := Try.underlying3,
  a3 := Try.isAgg3,
  z3 := Try.sizeOf3,
  v3 := Try.zeroValue3,
  t4 := Try.underlying4,
  a4 := Try.isAgg4,
  z4 := Try.sizeOf4,
  v4 := Try.zeroValue4,
  t5 := Try.underlying5,
  a5 := Try.isAgg5,
  z5 := Try.sizeOf5,
  v5 := Try.zeroValue5,
  t9 := Try.underlying9,
  a9 := Try.isAgg9,
  z9 := Try.sizeOf9,
  v9 := Try.zeroValue9,
  t22 := Try.underlying62,
  a22 := Try.isAgg62,
  z22 := Try.sizeOf62,
  v22 := Try.zeroValue62,
  t25 := Try.underlying121,
  a25 := Try.isAgg121,
  z25 := Try.sizeOf121,
  v25 := Try.zeroValue121,
  t39 := Try.underlying141,
  a39 := Try.isAgg141,
  z39 := Try.sizeOf141,
  v39 := Try.zeroValue141,
  t45 := Try.underlying153,
  a45 := Try.isAgg153,
  z45 := Try.sizeOf153,
  v45 := Try.zeroValue153,
  t46 := Try.underlying154,
  a46 := Try.isAgg154,
  z46 := Try.sizeOf154,
  v46 := Try.zeroValue154,
  t50 := Try.underlying106,
  a50 := Try.isAgg106,
  z50 := Try.sizeOf106,
  v50 := Try.zeroValue106,
  t53 := Try.underlying160,
  a53 := Try.isAgg160,
  z53 := Try.sizeOf160,
  v53 := Try.zeroValue160,
  t55 := Try.underlying162,
  a55 := Try.isAgg162,
  z55 := Try.sizeOf162,
  v55 := Try.zeroValue162,
  t66 := Try.underlying171,
  a66 := Try.isAgg171,
  z66 := Try.sizeOf171,
  v66 := Try.zeroValue171,
  t70 := Try.underlying175,
  a70 := Try.isAgg175,
  z70 := Try.sizeOf175,
  v70 := Try.zeroValue175,
  t76 := Try.underlying179,
  a76 := Try.isAgg179,
  z76 := Try.sizeOf179,
  v76 := Try.zeroValue179,
  t77 := Try.underlying180,
  a77 := Try.isAgg180,
  z77 := Try.sizeOf180,
  v77 := Try.zeroValue180 }
end Go.Proofs
namespace Go.AM
open Go.Proofs
theorem l_Sort_Dg (l : List Dg) (hl : l.length < 4611686018427387904) (h0 : l ≠ []) (ha : ApartD l) : LProc Try.prog 103 3 (dgsAV l) [.fn 104 [] []] (dgsAV (sortDg l)) := by
  obtain ⟨x0, hx0⟩ := List.exists_mem_of_ne_nil l h0
  have iα : Inhabited {d : Dg // d ∈ l} := ⟨⟨x0, hx0⟩⟩
  have := lproc_sortP (α := {d : Dg // d ∈ l}) (fun d => dgC d.1) Try.sortDg 3 (by omega) Try.isAgg84 Try.sizeOf84 (fun _ => rfl) (fun x c hc => by simp [dgC] at hc; rcases hc with rfl | rfl | rfl <;> rfl) (fun x y => cmpDg x.1 y.1)
    { irrefl := fun x => by show ltOf cmpDg x.1 x.1 = false; rw [Bool.eq_false_iff]; intro h; rw [ltDg] at h; omega
      trans := fun x y z h1 h2 => by
        change ltOf cmpDg x.1 y.1 = true at h1
        change ltOf cmpDg y.1 z.1 = true at h2
        show ltOf cmpDg x.1 z.1 = true
        rw [ltDg] at *; omega
      ntrans := fun x y z h1 h2 => by
        change ltOf cmpDg x.1 y.1 = false at h1
        change ltOf cmpDg y.1 z.1 = false at h2
        show ltOf cmpDg x.1 z.1 = false
        rw [Bool.eq_false_iff, ne_eq, ltDg] at *
        omega }
    (fun x y h1 h2 => by
      change ltOf cmpDg x.1 y.1 = false at h1
      change ltOf cmpDg y.1 x.1 = false at h2
      rw [Bool.eq_false_iff, ne_eq, ltDg] at *
      exact Subtype.ext (ha _ x.2 _ y.2 (by omega) (by omega))) 104 (fun args w => enters_of Try.func104 (by kernel_rfl) rfl args w) (fun x y => c_norm_does1 x.1 y.1) l.attach (by simpa using hl)
  have e1 : l.attach.map (fun d => dgC d.1) = dgsAV l := by
    show l.attach.map (dgC ∘ Subtype.val) = _
    rw [← List.map_map, List.attach_map_subtype_val]
    rfl
  have e2 : (l.attach.mergeSort fun x y => !(ltOf fun x y : {d : Dg // d ∈ l} => cmpDg x.1 y.1) y x).map (fun d => dgC d.1) = dgsAV (sortDg l) := by
    show List.map (dgC ∘ Subtype.val) _ = _
    rw [← List.map_map, List.map_mergeSort (f := Subtype.val) (r := fun x y : {d : Dg // d ∈ l} => !(ltOf fun x y : {d : Dg // d ∈ l} => cmpDg x.1 y.1) y x) (s := fun x y => !(ltOf cmpDg) y x) (fun a _ b _ => rfl), List.attach_map_subtype_val]
    rfl
  rw [e1, e2] at this
  exact this
theorem opB_apart {r : Rul} {o : Opn} (h : opB r o = true) : ApartD o.does ∧ o.does ≠ [] ∧ o.does.length ≤ 16 := by
  simp only [opB, Bool.and_eq_true, inB, decide_eq_true_eq, List.all_eq_true] at h
  refine ⟨fun x hx y hy e1 e2 => ?_, fun e => by rw [e] at h; simp at h, by omega⟩
  obtain ⟨i, hi, rfl⟩ := List.mem_iff_getElem.1 hx
  obtain ⟨j, hj, rfl⟩ := List.mem_iff_getElem.1 hy
  have hk : toK o.does[i] = toK o.does[j] := by unfold toK; rw [e1, e2]
  have key : ∀ a b (ha : a < o.does.length) (hb : b < o.does.length), a < b → toK o.does[a] = toK o.does[b] → False := fun a b ha hb hab he => by
    have := h.2 b (by simpa using hb)
    rw [oprAt_at r hb, Bool.and_eq_true, Bool.not_eq_true', didB] at this
    have h2 : (o.does.take b).any (fun x => decide (toK x = toK o.does[b])) = true := List.any_eq_true.2 ⟨o.does[a], by
      rw [List.mem_take_iff_getElem]; exact ⟨a, by omega, rfl⟩, by simpa using he⟩
    rw [h2] at this
    cases this.2
  rcases Nat.lt_trichotomy i j with hij | hij | hij
  · exact (key i j hi hj hij hk).elim
  · subst hij; rfl
  · exact (key j i hj hi hij hk.symm).elim
theorem sortDg_len (l : List Dg) : (sortDg l).length = l.length := by simp [sortDg, List.length_mergeSort]
set_option maxRecDepth 8000 in
theorem c_norm_does (l : List Dg) (hl : l.length ≤ 100000) (h0 : l ≠ []) (ha : ApartD l) : Pure Try.prog 54 [.sl .fro 3 (dgsAV l)] (.sl .own 3 (dgsAV (sortDg l))) := by
  refine proc_of (cx Try.prog 9 [0, 2, 3] [2]) 8 [.tmp 2] Try.func54 rfl rfl rfl rfl rfl rfl (Nat.le_refl _) rfl ?_
  refine AWp.go [0] [] fun K hK => ?_
  simp
  first | refine hK _ _ ?_ | refine ⟨by omega, hK _ _ ?_⟩ | refine ⟨by omega, by omega, hK _ _ ?_⟩
  clear hK K
  refine AWp.go [3] [] fun K hK => ?_
  simp
  refine call_pure (c_Clone_Dg l (by omega)) (by simp) ?_
  simp
  first | refine hK _ _ ?_ | refine ⟨by omega, hK _ _ ?_⟩ | refine ⟨by omega, by omega, hK _ _ ?_⟩
  clear hK K
  refine AWp.step [3] [] [(3, .sl .own 3 (dgsAV (sortDg l)))] [] ?_ ?_
  · simp
    refine call_lend (l_Sort_Dg l (by omega) h0 ha) ⟨_, rfl, rfl, rfl⟩ (by simpa [dgsAV] using h0) (by simp) (by simp) ?_
    simp
  refine AWp.go [2] [] fun K hK => ?_
  simp
  first | refine hK _ _ ?_ | refine ⟨by omega, hK _ _ ?_⟩ | refine ⟨by omega, by omega, hK _ _ ?_⟩
  clear hK K
  refine AWp.ret ?_
  simp
def sortO (o : Opn) : Opn := ⟨o.name, sortDg o.does⟩
def plainP (r : Rul) : Rul := ⟨r.sets, r.counts, r.notes, clausesP r.cls, r.opers.map sortO⟩
def emptyR : Rul := ⟨[], [], [], [], []⟩
def normR (r : Rul) : Rul := if rulesB r then plainP r else emptyR
theorem opnsAV_snoc (l : List Opn) (o : Opn) : opnsAV (l ++ [o]) = opnsAV l ++ [[.s o.name, .sl .fro 3 (dgsAV o.does)]] := by unfold opnsAV; rw [List.map_append]; rfl
set_option maxRecDepth 8000 in
set_option maxHeartbeats 8000000 in
theorem c_norm_Plain (r : Rul) (hr : Slim r) : Pure Try.prog 28 [.agg (rulC r)] (.tup [.agg [.sl .fro 1 (strsAV (normR r).sets), .sl .fro 1 (strsAV (normR r).counts), .sl .fro 1 (strsAV (normR r).notes), .sl .fro 5 (clsAV (normR r).cls), .sl .own 2 (opnsAV (normR r).opers)], .i .i64 (if rulesB r then 0 else 1)]) := by
  have gC := c_sorts_Check r hr
  simp [rulC] at gC
  obtain ⟨⟨k1, k2, k3, k4, k5⟩, -, -⟩ := id hr
  refine proc_of (cx Try.prog 47 [1, 2, 3, 4, 5, 7, 11, 28, 29, 30, 31] [2, 3]) 46 [.cell 2 26, .tmp 3] Try.func28 rfl rfl rfl rfl rfl rfl (Nat.le_refl _) rfl ?_
  refine AWp.go [1, 2] [1, 2] fun K hK => ?_
  simp [rulC]
  first | refine hK _ _ ?_ | refine ⟨by omega, hK _ _ ?_⟩ | refine ⟨by omega, by omega, hK _ _ ?_⟩
  clear hK K
  refine AWp.seq ?_
  refine AWp.go [1, 2, 4] [1, 2] fun K hK => ?_
  simp
  refine call_pure gC (by simp) ?_
  simp
  first | refine hK _ _ ?_ | refine ⟨by omega, hK _ _ ?_⟩ | refine ⟨by omega, by omega, hK _ _ ?_⟩
  clear hK K
  refine AWp.step [1, 2, 4, 11] [1, 2] [(1, .ptr 1 0), (2, .ptr 2 0), (4, .i .i64 (if rulesB r then 0 else 1)), (11, .b (!rulesB r))] [(1, [.sl .fro 1 (strsAV r.sets), .sl .fro 1 (strsAV r.counts), .sl .fro 1 (strsAV r.notes), .sl .fro 5 (clsAV r.cls), .sl .fro 2 (opnsAV r.opers)]), (2, [.sl .nl 1 [], .sl .nl 1 [], .sl .nl 1 [], .sl .nl 5 [], .sl .nl 2 []])] ?_ ?_
  · cases rulesB r <;> simp
  cases hh : rulesB r
  · refine AWp.cond (t := true) (by simp) (fun _ => ?_) (by simp)
    refine AWp.step [2, 3] [1, 2] [(2, .ptr 2 0), (3, .i .i64 1)] [(1, [.sl .fro 1 (strsAV r.sets), .sl .fro 1 (strsAV r.counts), .sl .fro 1 (strsAV r.notes), .sl .fro 5 (clsAV r.cls), .sl .fro 2 (opnsAV r.opers)]), (2, [.sl .nl 1 [], .sl .nl 1 [], .sl .nl 1 [], .sl .nl 5 [], .sl .nl 2 []])] ?_ ?_
    · simp [hh]
    refine AWp.ret ?_
    simp [normR, hh, emptyR, strsAV, clsAV, opnsAV]
  · refine AWp.cond (t := false) (by simp) (by simp) (fun _ => ?_)
    refine AWp.skip ?_
    show AWp _ _ _ _
    have hopB : ∀ o ∈ r.opers, opB r o = true := by
      have h2 := hh
      simp only [rulesB, Bool.and_eq_true, List.all_eq_true] at h2
      exact h2.2
    have hN : normR r = plainP r := by rw [normR, if_pos hh]
    rw [hN]
    have gc1 := (c_Clone_Str r.sets (by omega)).fro
    have gc2 := (c_Clone_Str r.counts (by omega)).fro
    have gc3 := (c_Clone_Str r.notes (by omega)).fro
    have gc4 := (c_norm_clauses r.cls (by omega)).fro
    simp at gc1 gc2 gc3 gc4
    refine AWp.goA 14 (fun k => if k = 2 then .sl .fro 1 (strsAV r.sets) else if k = 5 then .sl .fro 1 (strsAV r.counts) else if k = 8 then .sl .fro 1 (strsAV r.notes) else if k = 11 then .sl .fro 5 (clsAV (clausesP r.cls)) else .any) [1, 2, 5] [1, 2, 5] mix (by kernel_rfl) fun K hK => ?_
    simp [gc1, gc2, gc3, gc4]
    first | refine hK _ _ ?_ | refine ⟨by omega, hK _ _ ?_⟩ | refine ⟨by omega, by omega, hK _ _ ?_⟩
    clear hK K
    refine AWp.seq ?_
    refine AWp.go [2, 5, 28, 29, 30] [1, 2, 5] fun K hK => ?_
    simp
    first | refine hK _ _ ?_ | refine ⟨by omega, hK _ _ ?_⟩ | refine ⟨by omega, by omega, hK _ _ ?_⟩
    clear hK K
    refine AWp.block (AWp.while (fun i : Nat => [(2, .ptr 2 0), (5, .ptr 5 0), (28, .sl .fro 2 (opnsAV r.opers)), (29, .i .i64 r.opers.length), (30, .i .i64 i)]) (fun i => [(1, [.sl .fro 1 (strsAV r.sets), .sl .fro 1 (strsAV r.counts), .sl .fro 1 (strsAV r.notes), .sl .fro 5 (clsAV r.cls), .sl .fro 2 (opnsAV r.opers)]), (2, [.sl .nl 1 [], .sl .nl 1 [], .sl .nl 1 [], .sl .nl 5 [], .sl .nl 2 []]), (5, [.sl .fro 1 (strsAV r.sets), .sl .fro 1 (strsAV r.counts), .sl .fro 1 (strsAV r.notes), .sl .fro 5 (clsAV (clausesP r.cls)), .sl .own 2 (opnsAV ((r.opers.map sortO).take i))])]) (fun i => i ≤ r.opers.length) (fun i => r.opers.length - i) [2, 5, 28, 29, 30] [1, 2, 5] 0 (by simp) (by simp [opnsAV]) ?_)
    intro i hi
    refine AWp.go [2, 5, 28, 29, 30, 31] [1, 2, 5] fun K hK => ?_
    simp
    first | refine hK _ _ ?_ | refine ⟨by omega, hK _ _ ?_⟩ | refine ⟨by omega, by omega, hK _ _ ?_⟩
    clear hK K
    refine AWp.seq ?_
    by_cases h : i < r.opers.length
    · refine AWp.cond (t := true) (by first | (simp [h]; done) | (simp [h]; omega)) (fun _ => ?_) (by simp)
      refine AWp.skip ?_
      show AWp _ _ _ _
      refine AWp.seq ?_
      refine AWp.block ?_
      refine AWp.go [2, 5, 7, 28, 29, 30] [1, 2, 5, 7] fun K hK => ?_
      simp [h]
      first | refine hK _ _ ?_ | refine ⟨by omega, hK _ _ ?_⟩ | refine ⟨by omega, by omega, hK _ _ ?_⟩
      clear hK K
      obtain ⟨ha, h0, h16⟩ := opB_apart (hopB _ (List.getElem_mem h))
      have hsn : opnsAV ((r.opers.map sortO).take (i + 1)) = opnsAV ((r.opers.map sortO).take i) ++ [[.s r.opers[i].name, .sl .fro 3 (dgsAV (sortDg r.opers[i].does))]] := by
        rw [List.take_succ_eq_append_getElem (by simpa using h), List.getElem_map, opnsAV_snoc]; rfl
      have gd := (c_norm_does r.opers[i].does (by omega) h0 ha).fro
      simp at gd
      refine AWp.lastA 9 (fun k => if k = 6 then .sl .fro 3 (dgsAV (sortDg r.opers[i].does)) else .any) [2, 5, 28, 29, 30] [1, 2, 5, 7] [(2, .ptr 2 0), (5, .ptr 5 0), (28, .sl .fro 2 (opnsAV r.opers)), (29, .i .i64 r.opers.length), (30, .i .i64 i)] [(1, [.sl .fro 1 (strsAV r.sets), .sl .fro 1 (strsAV r.counts), .sl .fro 1 (strsAV r.notes), .sl .fro 5 (clsAV r.cls), .sl .fro 2 (opnsAV r.opers)]), (2, [.sl .nl 1 [], .sl .nl 1 [], .sl .nl 1 [], .sl .nl 5 [], .sl .nl 2 []]), (5, [.sl .fro 1 (strsAV r.sets), .sl .fro 1 (strsAV r.counts), .sl .fro 1 (strsAV r.notes), .sl .fro 5 (clsAV (clausesP r.cls)), .sl .own 2 (opnsAV ((r.opers.map sortO).take (i + 1)))]), (7, [.s r.opers[i].name, .sl .fro 3 (dgsAV r.opers[i].does)])] mix (by kernel_rfl) ?_ ?_
      · simp [gd, hsn]
        omega
      show AWp _ _ _ _
      refine AWp.goLast [2, 5, 28, 29, 30] [1, 2, 5] fun K hK => ?_
      simp
      first | refine hK _ _ ?_ | refine ⟨by omega, hK _ _ ?_⟩ | refine ⟨by omega, by omega, hK _ _ ?_⟩
      clear hK K
      refine ⟨i + 1, by omega, by omega, ?_⟩
      simp
      exact wrap64 (by omega) (by omega)
    · refine AWp.cond (t := false) (by first | (simp [h]; done) | (simp [h]; omega)) (by simp) (fun _ => ?_)
      refine AWp.exit ?_
      show AWp _ _ _ _
      obtain rfl : i = r.opers.length := by omega
      rw [List.take_of_length_le (by simp)]
      refine AWp.go [2, 3] [1, 2, 5] fun K hK => ?_
      simp
      first | refine hK _ _ ?_ | refine ⟨by omega, hK _ _ ?_⟩ | refine ⟨by omega, by omega, hK _ _ ?_⟩
      clear hK K
      refine AWp.ret ?_
      simp [plainP, hh]
end Go.AM
