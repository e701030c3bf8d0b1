/- Plain rules: clauses (the program). -/
import Derived.Test.YtmhkagfncnnfdaaGreatAmE
import Derived.Test.YtmhkagfncnnfdaaGreatAmD
set_option linter.unusedSimpArgs false
set_option linter.unusedVariables false
namespace Go.AM
open Go.Proofs
def turnC (c : Cl) : Cl := if c.kind = 5 ∧ c.b < c.a then ⟨c.kind, c.strict, c.b, c.a, c.num⟩ else c
set_option maxRecDepth 8000 in
theorem c_norm_turned (c : Cl) : Pure Tryz.prog 87 [.agg (clC c)] (.agg (clC (turnC c))) := by
  refine proc_of (cx Tryz.prog 20 [1, 2, 12] [2]) 19 [.cell 2 58] Tryz.func87 rfl rfl rfl rfl rfl rfl (Nat.le_refl _) rfl ?_
  refine AWp.go [1, 2] [1, 2] fun K hK => ?_
  simp [clC]
  first | refine hK _ _ ?_ | refine ⟨by omega, hK _ _ ?_⟩ | refine ⟨by omega, by omega, hK _ _ ?_⟩
  clear hK K
  refine AWp.seq ?_
  refine AWp.step [1, 2, 12] [1, 2] [(1, .ptr 1 0), (2, .ptr 2 0), (12, .b (decide (c.kind = 5) && decide (c.b < c.a)))] [(1, [.i .i64 c.kind, .b c.strict, .i .i64 c.a, .i .i64 c.b, .i .i64 c.num]), (2, [.i .i64 0, .b false, .i .i64 0, .i .i64 0, .i .i64 0])] ?_ ?_
  · by_cases q : c.kind = 5 <;> simp [q]
  cases hh : decide (c.kind = 5) && decide (c.b < c.a)
  · refine AWp.cond (t := false) (by simp) (by simp) (fun _ => ?_)
    refine AWp.skip ?_
    show AWp _ _ _ _
    have e : turnC c = c := by
      rw [turnC, if_neg]
      simp only [Bool.and_eq_false_iff, decide_eq_false_iff_not] at hh
      omega
    refine AWp.go [2] [1, 2] fun K hK => ?_
    simp
    first | refine hK _ _ ?_ | refine ⟨by omega, hK _ _ ?_⟩ | refine ⟨by omega, by omega, hK _ _ ?_⟩
    clear hK K
    refine AWp.ret ?_
    simp [e, clC]
  · refine AWp.cond (t := true) (by simp) (fun _ => ?_) (by simp)
    refine AWp.goLast [1, 2] [1, 2] fun K hK => ?_
    simp
    first | refine hK _ _ ?_ | refine ⟨by omega, hK _ _ ?_⟩ | refine ⟨by omega, by omega, hK _ _ ?_⟩
    clear hK K
    show AWp _ _ _ _
    have e : turnC c = ⟨c.kind, c.strict, c.b, c.a, c.num⟩ := by
      rw [turnC, if_pos]
      simpa using hh
    refine AWp.go [2] [1, 2] fun K hK => ?_
    simp
    first | refine hK _ _ ?_ | refine ⟨by omega, hK _ _ ?_⟩ | refine ⟨by omega, by omega, hK _ _ ?_⟩
    clear hK K
    refine AWp.ret ?_
    simp [e, clC]
def overB (c d : Cl) : Bool := decide (c.kind = d.kind) && decide (c.a = d.a) && decide (c.b = d.b) && !decide (c = d) && (if c.kind = 6 ∨ c.kind = 7 then decide (d.num < c.num) else decide (c.num = d.num) && d.strict)
set_option maxRecDepth 8000 in
set_option maxHeartbeats 4000000 in
theorem c_norm_over (c d : Cl) : Pure Tryz.prog 92 [.agg (clC c), .agg (clC d)] (.b (overB c d)) := by
  refine proc_of (cx Tryz.prog 51 [2, 3, 4, 28, 36] [4]) 49 [.tmp 4] Tryz.func92 rfl rfl rfl rfl rfl rfl (Nat.le_refl _) rfl ?_
  refine AWp.go [2, 3] [2, 3] fun K hK => ?_
  simp [clC]
  first | refine hK _ _ ?_ | refine ⟨by omega, hK _ _ ?_⟩ | refine ⟨by omega, by omega, hK _ _ ?_⟩
  clear hK K
  refine AWp.seq ?_
  refine AWp.step [2, 3, 28] [2, 3] [(2, .ptr 2 0), (3, .ptr 3 0), (28, .b (!(decide (c.kind = d.kind) && decide (c.a = d.a) && decide (c.b = d.b) && !decide (c = d))))] [(2, [.i .i64 c.kind, .b c.strict, .i .i64 c.a, .i .i64 c.b, .i .i64 c.num]), (3, [.i .i64 d.kind, .b d.strict, .i .i64 d.a, .i .i64 d.b, .i .i64 d.num])] ?_ ?_
  · by_cases q1 : c.kind = d.kind
    · by_cases q2 : c.a = d.a
      · by_cases q3 : c.b = d.b
        · simp [q1, q2, q3, Cl.eq_iff, bbeq]
        · simp [q1, q2, q3]
      · simp [q1, q2]
    · simp [q1]
  cases hh : decide (c.kind = d.kind) && decide (c.a = d.a) && decide (c.b = d.b) && !decide (c = d)
  · refine AWp.cond (t := true) (by simp) (fun _ => ?_) (by simp)
    have e : overB c d = false := by rw [overB, hh]; rfl
    refine AWp.go [4] [2, 3] fun K hK => ?_
    simp
    first | refine hK _ _ ?_ | refine ⟨by omega, hK _ _ ?_⟩ | refine ⟨by omega, by omega, hK _ _ ?_⟩
    clear hK K
    refine AWp.ret ?_
    simp [e]
  · refine AWp.cond (t := false) (by simp) (by simp) (fun _ => ?_)
    refine AWp.skip ?_
    show AWp _ _ _ _
    refine AWp.seq ?_
    have e : overB c d = (if c.kind = 6 ∨ c.kind = 7 then decide (d.num < c.num) else decide (c.num = d.num) && d.strict) := by rw [overB, hh, Bool.true_and]
    rw [e]
    refine AWp.step [2, 3, 36] [2, 3] [(2, .ptr 2 0), (3, .ptr 3 0), (36, .b (decide (c.kind = 6) || decide (c.kind = 7)))] [(2, [.i .i64 c.kind, .b c.strict, .i .i64 c.a, .i .i64 c.b, .i .i64 c.num]), (3, [.i .i64 d.kind, .b d.strict, .i .i64 d.a, .i .i64 d.b, .i .i64 d.num])] ?_ ?_
    · by_cases q : c.kind = 6 <;> simp [q]
    cases h6 : decide (c.kind = 6) || decide (c.kind = 7)
    · refine AWp.cond (t := false) (by simp) (by simp) (fun _ => ?_)
      refine AWp.skip ?_
      show AWp _ _ _ _
      rw [if_neg (by simpa using h6)]
      refine AWp.step [4] [2, 3] [(4, .b (decide (c.num = d.num) && d.strict))] [(2, [.i .i64 c.kind, .b c.strict, .i .i64 c.a, .i .i64 c.b, .i .i64 c.num]), (3, [.i .i64 d.kind, .b d.strict, .i .i64 d.a, .i .i64 d.b, .i .i64 d.num])] ?_ ?_
      · by_cases q : c.num = d.num <;> simp [q]
      refine AWp.ret ?_
      simp
    · refine AWp.cond (t := true) (by simp) (fun _ => ?_) (by simp)
      rw [if_pos (by simpa using h6)]
      refine AWp.go [4] [2, 3] fun K hK => ?_
      simp
      first | refine hK _ _ ?_ | refine ⟨by omega, hK _ _ ?_⟩ | refine ⟨by omega, by omega, hK _ _ ?_⟩
      clear hK K
      refine AWp.ret ?_
      simp
set_option maxRecDepth 8000 in
theorem c_norm_clauses1 (c d : Cl) : Proc Tryz.prog 1 91 [.agg (clC d), .ptr 0 0] [(0, [.i .i64 c.kind, .b c.strict, .i .i64 c.a, .i .i64 c.b, .i .i64 c.num])] (.b (overB c d)) [(0, [.i .i64 c.kind, .b c.strict, .i .i64 c.a, .i .i64 c.b, .i .i64 c.num])] := by
  have g := c_norm_over c d
  simp [clC] at g
  refine proc_of (cxb Tryz.prog 7 1 [1, 2, 3] [] [3]) 5 [.tmp 3] Tryz.func91 rfl rfl rfl rfl rfl rfl (Nat.le_refl _) rfl ?_
  refine AWp.go [1, 2] [0, 3] fun K hK => ?_
  simp [clC]
  first | refine hK _ _ ?_ | refine ⟨by omega, hK _ _ ?_⟩ | refine ⟨by omega, by omega, hK _ _ ?_⟩
  clear hK K
  refine AWp.go [3] [0] fun K hK => ?_
  simp
  refine call_pure g (by simp) ?_
  simp
  first | refine hK _ _ ?_ | refine ⟨by omega, hK _ _ ?_⟩ | refine ⟨by omega, by omega, hK _ _ ?_⟩
  clear hK K
  refine AWp.ret ?_
  simp
theorem calm_clK (c : Cl) : Calm [.i .i64 c.kind, .b c.strict, .i .i64 c.a, .i .i64 c.b, .i .i64 c.num] := fun x hx => by
  simp at hx; rcases hx with rfl | rfl | rfl | rfl | rfl <;> rfl
def allCl (l : List Cl) : List Cl := cmpA (sortCl (l.map turnC))
def clausesP (l : List Cl) : List Cl := (allCl l).filter fun c => !(allCl l).any (overB c)
theorem sortCl_len (l : List Cl) : (sortCl l).length = l.length := by simp [sortCl, List.length_mergeSort]
theorem allCl_len (l : List Cl) : (allCl l).length ≤ l.length := by
  have := cmpA_le (sortCl (l.map turnC))
  rw [sortCl_len, List.length_map] at this
  exact this
theorem clsAV_snoc (l : List Cl) (c : Cl) : clsAV (l ++ [c]) = clsAV l ++ [[.i .i64 c.kind, .b c.strict, .i .i64 c.a, .i .i64 c.b, .i .i64 c.num]] := by unfold clsAV; rw [List.map_append]; rfl
theorem filter_snoc {α : Type} (l : List α) (p : α → Bool) (i : Nat) (h : i < l.length) : (l.take (i + 1)).filter p = if p l[i] then (l.take i).filter p ++ [l[i]] else (l.take i).filter p := by
  rw [List.take_succ_eq_append_getElem h, List.filter_append]
  cases hp : p l[i] <;> simp [hp]
theorem c_Compact0_Cl : Pure Tryz.prog 90 [.sl .fro 5 []] (.sl .fro 5 []) := by
  refine proc_of (cx Tryz.prog 61 [0, 2, 3, 4, 5, 8, 13, 25, 32, 44] [2]) 60 [.tmp 2] Tryz.func90 rfl rfl rfl rfl rfl rfl (Nat.le_refl _) rfl ?_
  refine AWp.go [0] [] fun K hK => ?_
  simp
  first | refine hK _ _ ?_ | refine ⟨by omega, hK _ _ ?_⟩ | refine ⟨by omega, by omega, hK _ _ ?_⟩
  clear hK K
  refine AWp.seq ?_
  refine AWp.go [0, 8] [] fun K hK => ?_
  simp
  first | refine hK _ _ ?_ | refine ⟨by omega, hK _ _ ?_⟩ | refine ⟨by omega, by omega, hK _ _ ?_⟩
  clear hK K
  refine AWp.cond (t := true) (by first | (simp; done) | (simp; omega)) (fun _ => ?_) (by simp)
  refine AWp.go [2] [] fun K hK => ?_
  simp
  first | refine hK _ _ ?_ | refine ⟨by omega, hK _ _ ?_⟩ | refine ⟨by omega, by omega, hK _ _ ?_⟩
  clear hK K
  refine AWp.ret ?_
  simp
set_option maxRecDepth 8000 in
set_option maxHeartbeats 2000000 in
theorem c_norm_clauses0 : Pure Tryz.prog 48 [.sl .fro 5 []] (.sl .own 5 []) := by
  refine proc_of (cx Tryz.prog 41 [0, 2, 3, 5, 6, 8, 9, 10, 11, 12, 25, 26, 27, 28, 34] [2]) 40 [.tmp 2] Tryz.func48 rfl rfl rfl rfl rfl rfl (Nat.le_refl _) rfl ?_
  refine AWp.go [0] [] fun K hK => ?_
  simp
  first | refine hK _ _ ?_ | refine ⟨by omega, hK _ _ ?_⟩ | refine ⟨by omega, by omega, hK _ _ ?_⟩
  clear hK K
  refine AWp.go [0, 3] [] fun K hK => ?_
  simp
  first | refine hK _ _ ?_ | refine ⟨by omega, hK _ _ ?_⟩ | refine ⟨by omega, by omega, hK _ _ ?_⟩
  clear hK K
  refine AWp.seq ?_
  refine AWp.go [3, 9, 10, 11] [] fun K hK => ?_
  simp
  first | refine hK _ _ ?_ | refine ⟨by omega, hK _ _ ?_⟩ | refine ⟨by omega, by omega, hK _ _ ?_⟩
  clear hK K
  refine AWp.block (AWp.while (fun i : Nat => [(3, .sl .nl 5 []), (9, .sl .fro 5 []), (10, .i .i64 0), (11, .i .i64 0)]) (fun i => []) (fun i => True) (fun i => 0) [3, 9, 10, 11] [] 0 (by simp) (by simp) ?_)
  intro i hi
  refine AWp.go [3, 9, 10, 11, 12] [] fun K hK => ?_
  simp
  first | refine hK _ _ ?_ | refine ⟨by omega, hK _ _ ?_⟩ | refine ⟨by omega, by omega, hK _ _ ?_⟩
  clear hK K
  refine AWp.seq ?_
  refine AWp.cond (t := false) (by first | (simp; done) | (simp; omega)) (by simp) (fun _ => ?_)
  refine AWp.exit ?_
  show AWp _ _ _ _
  refine AWp.go [3] [] fun K hK => ?_
  simp
  refine call_pure (c_SortFunc0_Cl 89 5) (by simp) ?_
  simp
  first | refine hK _ _ ?_ | refine ⟨by omega, hK _ _ ?_⟩ | refine ⟨by omega, by omega, hK _ _ ?_⟩
  clear hK K
  refine AWp.go [3] [] fun K hK => ?_
  simp
  refine call_pure (c_Compact0_Cl) (by simp) ?_
  simp
  first | refine hK _ _ ?_ | refine ⟨by omega, hK _ _ ?_⟩ | refine ⟨by omega, by omega, hK _ _ ?_⟩
  clear hK K
  refine AWp.go [3, 6] [] fun K hK => ?_
  simp
  first | refine hK _ _ ?_ | refine ⟨by omega, hK _ _ ?_⟩ | refine ⟨by omega, by omega, hK _ _ ?_⟩
  clear hK K
  refine AWp.seq ?_
  refine AWp.go [3, 6, 25, 26, 27] [] fun K hK => ?_
  simp
  first | refine hK _ _ ?_ | refine ⟨by omega, hK _ _ ?_⟩ | refine ⟨by omega, by omega, hK _ _ ?_⟩
  clear hK K
  refine AWp.block (AWp.while (fun i : Nat => [(3, .sl .fro 5 []), (6, .sl .nl 5 []), (25, .sl .fro 5 []), (26, .i .i64 0), (27, .i .i64 0)]) (fun i => []) (fun i => True) (fun i => 0) [3, 6, 25, 26, 27] [] 0 (by simp) (by simp) ?_)
  intro i hi
  refine AWp.go [3, 6, 25, 26, 27, 28] [] fun K hK => ?_
  simp
  first | refine hK _ _ ?_ | refine ⟨by omega, hK _ _ ?_⟩ | refine ⟨by omega, by omega, hK _ _ ?_⟩
  clear hK K
  refine AWp.seq ?_
  refine AWp.cond (t := false) (by first | (simp; done) | (simp; omega)) (by simp) (fun _ => ?_)
  refine AWp.exit ?_
  show AWp _ _ _ _
  refine AWp.go [2] [] fun K hK => ?_
  simp
  first | refine hK _ _ ?_ | refine ⟨by omega, hK _ _ ?_⟩ | refine ⟨by omega, by omega, hK _ _ ?_⟩
  clear hK K
  refine AWp.ret ?_
  simp
set_option maxRecDepth 8000 in
set_option maxHeartbeats 4000000 in
theorem c_norm_clausesA (l : List Cl) (hl : l.length ≤ 100000) (h0 : l ≠ []) : Pure Tryz.prog 48 [.sl .fro 5 (clsAV l)] (.sl .own 5 (clsAV (clausesP l))) := by
  have hpos := List.length_pos_iff.2 h0
  have hal := allCl_len l
  refine proc_of (cx Tryz.prog 41 [0, 2, 3, 5, 6, 8, 9, 10, 11, 12, 25, 26, 27, 28, 34] [2]) 40 [.tmp 2] Tryz.func48 rfl rfl rfl rfl rfl rfl (Nat.le_refl _) rfl ?_
  refine AWp.go [0] [] fun K hK => ?_
  simp
  first | refine hK _ _ ?_ | refine ⟨by omega, hK _ _ ?_⟩ | refine ⟨by omega, by omega, hK _ _ ?_⟩
  clear hK K
  refine AWp.go [0, 3] [] fun K hK => ?_
  simp
  first | refine hK _ _ ?_ | refine ⟨by omega, hK _ _ ?_⟩ | refine ⟨by omega, by omega, hK _ _ ?_⟩
  clear hK K
  refine AWp.seq ?_
  refine AWp.go [3, 9, 10, 11] [] fun K hK => ?_
  simp
  first | refine hK _ _ ?_ | refine ⟨by omega, hK _ _ ?_⟩ | refine ⟨by omega, by omega, hK _ _ ?_⟩
  clear hK K
  refine AWp.block (AWp.while (fun i : Nat => [(3, .sl .own 5 (clsAV ((l.map turnC).take i))), (9, .sl .fro 5 (clsAV l)), (10, .i .i64 l.length), (11, .i .i64 i)]) (fun i => []) (fun i => i ≤ l.length) (fun i => l.length - i) [3, 9, 10, 11] [] 0 (by simp) (by simp [clsAV]) ?_)
  intro i hi
  refine AWp.go [3, 9, 10, 11, 12] [] fun K hK => ?_
  simp
  first | refine hK _ _ ?_ | refine ⟨by omega, hK _ _ ?_⟩ | refine ⟨by omega, by omega, hK _ _ ?_⟩
  clear hK K
  refine AWp.seq ?_
  by_cases h : i < l.length
  · refine AWp.cond (t := true) (by first | (simp [h]; done) | (simp [h]; omega)) (fun _ => ?_) (by simp)
    refine AWp.skip ?_
    show AWp _ _ _ _
    refine AWp.seq ?_
    refine AWp.block ?_
    refine AWp.go [3, 5, 9, 10, 11] [5] fun K hK => ?_
    simp [h]
    first | refine hK _ _ ?_ | refine ⟨by omega, hK _ _ ?_⟩ | refine ⟨by omega, by omega, hK _ _ ?_⟩
    clear hK K
    have g := c_norm_turned l[i]
    have hsn : clsAV ((l.map turnC).take (i + 1)) = clsAV ((l.map turnC).take i) ++ [[.i .i64 (turnC l[i]).kind, .b (turnC l[i]).strict, .i .i64 (turnC l[i]).a, .i .i64 (turnC l[i]).b, .i .i64 (turnC l[i]).num]] := by
      rw [List.take_succ_eq_append_getElem (by simpa using h), List.getElem_map, clsAV_snoc]
    simp [clC] at g
    refine AWp.last [3, 9, 10, 11] [] [(3, .sl .own 5 (clsAV ((l.map turnC).take (i + 1)))), (9, .sl .fro 5 (clsAV l)), (10, .i .i64 l.length), (11, .i .i64 i)] [] ?_ ?_
    · simp
      refine call_pure g (by simp) ?_
      simp [hsn]
      omega
    show AWp _ _ _ _
    refine AWp.goLast [3, 9, 10, 11] [] fun K hK => ?_
    simp
    first | refine hK _ _ ?_ | refine ⟨by omega, hK _ _ ?_⟩ | refine ⟨by omega, by omega, hK _ _ ?_⟩
    clear hK K
    refine ⟨i + 1, by omega, by omega, ?_⟩
    simp
    exact wrap64 (by omega) (by omega)
  · refine AWp.cond (t := false) (by first | (simp [h]; done) | (simp [h]; omega)) (by simp) (fun _ => ?_)
    refine AWp.exit ?_
    show AWp _ _ _ _
    obtain rfl : i = l.length := by omega
    rw [List.take_of_length_le (by simp)]
    refine AWp.step [3] [] [(3, .sl .own 5 (clsAV (sortCl (l.map turnC))))] [] ?_ ?_
    · simp
      refine call_lend (l_Sort_Cl (l.map turnC) (by rw [List.length_map]; omega)) ⟨_, rfl, rfl, rfl⟩ (by simpa [clsAV] using h0) (by simp) (by simp) ?_
      simp
    refine AWp.step [3] [] [(3, .sl .own 5 (clsAV (allCl l)))] [] ?_ ?_
    · have hs := sortCl_len (l.map turnC)
      rw [List.length_map] at hs
      simp
      refine call_hand (h_Compact_Cl (sortCl (l.map turnC)) (by omega)) ⟨_, rfl, rfl, rfl⟩ (by intro h; have := congrArg List.length h; rw [clsAV_length, hs, List.length_nil] at this; omega) (by simp) ?_
      simp [allCl]
    refine AWp.frz [3] ?_
    simp
    obtain ⟨A, hA⟩ : ∃ A, A = allCl l := ⟨_, rfl⟩
    have hR : clausesP l = A.filter fun c => !A.any (overB c) := by rw [hA]; rfl
    rw [← hA] at hal ⊢
    rw [hR]
    refine AWp.go [3, 6] [] fun K hK => ?_
    simp
    first | refine hK _ _ ?_ | refine ⟨by omega, hK _ _ ?_⟩ | refine ⟨by omega, by omega, hK _ _ ?_⟩
    clear hK K
    refine AWp.seq ?_
    refine AWp.go [3, 6, 25, 26, 27] [] fun K hK => ?_
    simp
    first | refine hK _ _ ?_ | refine ⟨by omega, hK _ _ ?_⟩ | refine ⟨by omega, by omega, hK _ _ ?_⟩
    clear hK K
    refine AWp.block (AWp.while (fun j : Nat => [(3, .sl .fro 5 (clsAV A)), (6, .sl .own 5 (clsAV ((A.take j).filter fun c => !A.any (overB c)))), (25, .sl .fro 5 (clsAV A)), (26, .i .i64 A.length), (27, .i .i64 j)]) (fun j => []) (fun j => j ≤ A.length) (fun j => A.length - j) [3, 6, 25, 26, 27] [] 0 (by simp) (by simp [clsAV]) ?_)
    intro j hj
    have hfl : ((A.take j).filter fun c => !A.any (overB c)).length ≤ j := Nat.le_trans (List.length_filter_le ..) (by simp; omega)
    refine AWp.go [3, 6, 25, 26, 27, 28] [] fun K hK => ?_
    simp
    first | refine hK _ _ ?_ | refine ⟨by omega, hK _ _ ?_⟩ | refine ⟨by omega, by omega, hK _ _ ?_⟩
    clear hK K
    refine AWp.seq ?_
    by_cases h : j < A.length
    · refine AWp.cond (t := true) (by first | (simp [h]; done) | (simp [h]; omega)) (fun _ => ?_) (by simp)
      refine AWp.skip ?_
      show AWp _ _ _ _
      refine AWp.seq ?_
      refine AWp.block ?_
      refine AWp.go [3, 6, 8, 25, 26, 27] [8] fun K hK => ?_
      simp [h]
      first | refine hK _ _ ?_ | refine ⟨by omega, hK _ _ ?_⟩ | refine ⟨by omega, by omega, hK _ _ ?_⟩
      clear hK K
      have hg := c_ContainsFunc1_Cl A 91 (overB A[j]) _ (calm_clK A[j]) (fun d _ => c_norm_clauses1 A[j] d) (by omega)
      refine AWp.step [3, 6, 8, 25, 26, 27, 34] [8] [(3, .sl .fro 5 (clsAV A)), (6, .sl .own 5 (clsAV ((A.take j).filter fun c => !A.any (overB c)))), (8, .ptr 8 0), (25, .sl .fro 5 (clsAV A)), (26, .i .i64 A.length), (27, .i .i64 j), (34, .b (!A.any (overB A[j])))] [(8, [.i .i64 A[j].kind, .b A[j].strict, .i .i64 A[j].a, .i .i64 A[j].b, .i .i64 A[j].num])] ?_ ?_
      · simp
        refine call_proc [(0, 8)] none hg (by simp) (by simp) ?_
        simp
      cases hc : A.any (overB A[j])
      · refine AWp.cond (t := true) (by simp) (fun _ => ?_) (by simp)
        have hsn : (A.take (j + 1)).filter (fun c => !A.any (overB c)) = (A.take j).filter (fun c => !A.any (overB c)) ++ [A[j]] := by rw [filter_snoc A _ j h, if_pos (by rw [hc]; rfl)]
        refine AWp.last [3, 6, 25, 26, 27] [] [(3, .sl .fro 5 (clsAV A)), (6, .sl .own 5 (clsAV ((A.take (j + 1)).filter fun c => !A.any (overB c)))), (25, .sl .fro 5 (clsAV A)), (26, .i .i64 A.length), (27, .i .i64 j)] [] ?_ ?_
        · simp [hsn, clsAV_snoc]
          omega
        show AWp _ _ _ _
        refine AWp.goLast [3, 6, 25, 26, 27] [] fun K hK => ?_
        simp
        first | refine hK _ _ ?_ | refine ⟨by omega, hK _ _ ?_⟩ | refine ⟨by omega, by omega, hK _ _ ?_⟩
        clear hK K
        refine ⟨j + 1, by omega, by omega, ?_⟩
        simp
        exact wrap64 (by omega) (by omega)
      · refine AWp.cond (t := false) (by simp) (by simp) (fun _ => ?_)
        refine AWp.skip ?_
        show AWp _ _ _ _
        refine AWp.goLast [3, 6, 25, 26, 27] [] fun K hK => ?_
        simp
        first | refine hK _ _ ?_ | refine ⟨by omega, hK _ _ ?_⟩ | refine ⟨by omega, by omega, hK _ _ ?_⟩
        clear hK K
        have hsn : (A.take (j + 1)).filter (fun c => !A.any (overB c)) = (A.take j).filter (fun c => !A.any (overB c)) := by rw [filter_snoc A _ j h, if_neg (by rw [hc]; simp)]
        refine ⟨j + 1, by omega, by omega, ?_⟩
        rw [hsn]
        simp
        exact wrap64 (by omega) (by omega)
    · refine AWp.cond (t := false) (by first | (simp [h]; done) | (simp [h]; omega)) (by simp) (fun _ => ?_)
      refine AWp.exit ?_
      show AWp _ _ _ _
      obtain rfl : j = A.length := by omega
      rw [List.take_length]
      refine AWp.go [2] [] fun K hK => ?_
      simp
      first | refine hK _ _ ?_ | refine ⟨by omega, hK _ _ ?_⟩ | refine ⟨by omega, by omega, hK _ _ ?_⟩
      clear hK K
      refine AWp.ret ?_
      simp
theorem c_norm_clauses (l : List Cl) (hl : l.length ≤ 100000) : Pure Tryz.prog 48 [.sl .fro 5 (clsAV l)] (.sl .own 5 (clsAV (clausesP l))) := by
  by_cases h0 : l = []
  · subst h0
    have e : clausesP [] = [] := by
      have h1 := allCl_len []
      have h2 : allCl [] = [] := List.eq_nil_of_length_eq_zero (by simpa using h1)
      rw [clausesP, h2]
      rfl
    rw [e]
    exact c_norm_clauses0
  · exact c_norm_clausesA l hl h0
end Go.AM
namespace Go.AM
open Go.Proofs

theorem c_eval_right (k : ByteArray) : Pure Tryz.prog 28 [.s k] (.b (keyOk k)) := by
  refine proc_of (cx Tryz.prog 10 [0, 2] [2]) 9 [.tmp 2] Tryz.func28 rfl rfl rfl rfl rfl rfl (Nat.le_refl _) rfl ?_
  refine AWp.go [0] [] fun K hK => ?_
  simp
  first | refine hK _ _ ?_ | refine ⟨by omega, hK _ _ ?_⟩ | refine ⟨by omega, by omega, hK _ _ ?_⟩
  clear hK K
  refine AWp.step [2] [] [(2, .b (keyOk k))] [] ?_ ?_
  · by_cases h1 : k.toList = [] <;> by_cases h2 : (k.size : Int) ≤ 32 <;> simp [h1, h2, keyOk, eqK]
  refine AWp.ret ?_
  simp
def strAt (l : List ByteArray) (i : Nat) : Bool := match l[i]? with
  | some k => keyOk k && (!decide (0 < i) || ltK (l.getD (i - 1) ByteArray.empty) k)
  | none => false
def setB (l : List ByteArray) : Bool := (List.range l.length).all (strAt l) && decide ((l.length : Int) ≤ 4000)
set_option maxRecDepth 8000 in
set_option maxHeartbeats 2000000 in
theorem c_eval_set (l : List ByteArray) (hlen : l.length ≤ 100000) : Pure Tryz.prog 69 [.sl .fro 1 (strsAV l)] (.b (setB l)) := by
  refine proc_of (cx Tryz.prog 32 [0, 2, 3, 4, 5, 6, 7, 8, 27] [2]) 31 [.tmp 2] Tryz.func69 rfl rfl rfl rfl rfl rfl (Nat.le_refl _) rfl ?_
  refine AWp.go [0] [] fun K hK => ?_
  simp
  first | refine hK _ _ ?_ | refine ⟨by omega, hK _ _ ?_⟩ | refine ⟨by omega, by omega, hK _ _ ?_⟩
  clear hK K
  refine AWp.seq ?_
  refine AWp.go [0, 5, 6, 7] [] fun K hK => ?_
  simp
  first | refine hK _ _ ?_ | refine ⟨by omega, hK _ _ ?_⟩ | refine ⟨by omega, by omega, hK _ _ ?_⟩
  clear hK K
  refine AWp.block (AWp.while (fun i : Nat => [(0, .sl .fro 1 (strsAV l)), (5, .sl .fro 1 (strsAV l)), (6, .i .i64 l.length), (7, .i .i64 i)]) (fun i => []) (fun i => i ≤ l.length ∧ ∀ k, k < i → strAt l k = true) (fun i => l.length - i) [0, 5, 6, 7] [] 0 (by simp) (by simp) ?_)
  rintro i ⟨hi, hall⟩
  refine AWp.go [0, 5, 6, 7, 8] [] fun K hK => ?_
  simp
  first | refine hK _ _ ?_ | refine ⟨by omega, hK _ _ ?_⟩ | refine ⟨by omega, by omega, hK _ _ ?_⟩
  clear hK K
  refine AWp.seq ?_
  by_cases h : i < l.length
  · refine AWp.cond (t := true) (by first | (simp [h]; done) | (simp [h]; omega)) (fun _ => ?_) (by simp)
    refine AWp.skip ?_
    show AWp _ _ _ _
    refine AWp.seq ?_
    refine AWp.block ?_
    refine AWp.go [0, 3, 4, 5, 6, 7] [] fun K hK => ?_
    simp [h]
    first | refine hK _ _ ?_ | refine ⟨by omega, hK _ _ ?_⟩ | refine ⟨by omega, by omega, hK _ _ ?_⟩
    clear hK K
    refine AWp.step [0, 5, 6, 7, 27] [] [(0, .sl .fro 1 (strsAV l)), (5, .sl .fro 1 (strsAV l)), (6, .i .i64 l.length), (7, .i .i64 i), (27, .b (!strAt l i))] [] ?_ ?_
    · have g1 := c_eval_right l[i]
      simp
      refine call_pure g1 (by simp) ?_
      cases q1 : keyOk l[i]
      · simp [strAt, h, q1]
      by_cases q3 : 0 < i
      · obtain ⟨j, rfl⟩ : ∃ j, i = j + 1 := ⟨i - 1, by omega⟩
        have hj : j < l.length := by omega
        have w2 : IntKind.i64.wrap (j : Int) = j := wrap64 (by omega) (by omega)
        simp [strAt, h, hj, q1, w2, ltK]
      · simp [strAt, h, q1, q3]
    cases hp : strAt l i
    · refine AWp.cond (t := true) (by simp) (fun _ => ?_) (by simp)
      refine AWp.go [2] [] fun K hK => ?_
      simp
      first | refine hK _ _ ?_ | refine ⟨by omega, hK _ _ ?_⟩ | refine ⟨by omega, by omega, hK _ _ ?_⟩
      clear hK K
      refine AWp.ret ?_
      simp [setB, range_not h hp]
    · refine AWp.cond (t := false) (by simp) (by simp) (fun _ => ?_)
      refine AWp.skip ?_
      show AWp _ _ _ _
      refine AWp.goLast [0, 5, 6, 7] [] fun K hK => ?_
      simp
      first | refine hK _ _ ?_ | refine ⟨by omega, hK _ _ ?_⟩ | refine ⟨by omega, by omega, hK _ _ ?_⟩
      clear hK K
      refine ⟨i + 1, ⟨by omega, fun k hk => ?_⟩, by omega, ?_⟩
      · by_cases hki : k = i
        · subst hki; exact hp
        · exact hall k (by omega)
      · simp
        exact wrap64 (by omega) (by omega)
  · refine AWp.cond (t := false) (by first | (simp [h]; done) | (simp [h]; omega)) (by simp) (fun _ => ?_)
    refine AWp.exit ?_
    show AWp _ _ _ _
    obtain rfl : i = l.length := by omega
    refine AWp.go [2] [] fun K hK => ?_
    simp
    first | refine hK _ _ ?_ | refine ⟨by omega, hK _ _ ?_⟩ | refine ⟨by omega, by omega, hK _ _ ?_⟩
    clear hK K
    refine AWp.ret ?_
    rw [setB, range_all hall]
    simp
def celAt (m : Int) (l : List Cel) (i : Nat) : Bool := match l[i]? with
  | some c => keyOk c.key && (!decide (0 < i) || ltK (l.getD (i - 1) ⟨ByteArray.empty, 0⟩).key c.key) && !decide (c.num = 0) && !decide (m < c.num) && !decide (c.num < -m)
  | none => false
def countB (l : List Cel) : Bool := (List.range l.length).all (celAt 1048576 l) && decide ((l.length : Int) ≤ 4000)
set_option maxRecDepth 8000 in
set_option maxHeartbeats 4000000 in
theorem c_eval_count (l : List Cel) (hlen : l.length ≤ 100000) : Pure Tryz.prog 72 [.sl .fro 2 (celsAV l)] (.b (countB l)) := by
  refine proc_of (cx Tryz.prog 50 [0, 2, 3, 4, 5, 6, 7, 8, 45] [2]) 49 [.tmp 2] Tryz.func72 rfl rfl rfl rfl rfl rfl (Nat.le_refl _) rfl ?_
  refine AWp.go [0] [] fun K hK => ?_
  simp
  first | refine hK _ _ ?_ | refine ⟨by omega, hK _ _ ?_⟩ | refine ⟨by omega, by omega, hK _ _ ?_⟩
  clear hK K
  refine AWp.seq ?_
  refine AWp.go [0, 5, 6, 7] [] fun K hK => ?_
  simp
  first | refine hK _ _ ?_ | refine ⟨by omega, hK _ _ ?_⟩ | refine ⟨by omega, by omega, hK _ _ ?_⟩
  clear hK K
  refine AWp.block (AWp.while (fun i : Nat => [(0, .sl .fro 2 (celsAV l)), (5, .sl .fro 2 (celsAV l)), (6, .i .i64 l.length), (7, .i .i64 i)]) (fun i => []) (fun i => i ≤ l.length ∧ ∀ k, k < i → celAt 1048576 l k = true) (fun i => l.length - i) [0, 5, 6, 7] [] 0 (by simp) (by simp) ?_)
  rintro i ⟨hi, hall⟩
  refine AWp.go [0, 5, 6, 7, 8] [] fun K hK => ?_
  simp
  first | refine hK _ _ ?_ | refine ⟨by omega, hK _ _ ?_⟩ | refine ⟨by omega, by omega, hK _ _ ?_⟩
  clear hK K
  refine AWp.seq ?_
  by_cases h : i < l.length
  · refine AWp.cond (t := true) (by first | (simp [h]; done) | (simp [h]; omega)) (fun _ => ?_) (by simp)
    refine AWp.skip ?_
    show AWp _ _ _ _
    refine AWp.seq ?_
    refine AWp.block ?_
    refine AWp.go [0, 3, 4, 5, 6, 7] [4] fun K hK => ?_
    simp [h]
    first | refine hK _ _ ?_ | refine ⟨by omega, hK _ _ ?_⟩ | refine ⟨by omega, by omega, hK _ _ ?_⟩
    clear hK K
    refine AWp.stepD 34 (fun k => if k = 2 then .b (keyOk l[i].key) else .any) [0, 5, 6, 7, 45] [] [(0, .sl .fro 2 (celsAV l)), (5, .sl .fro 2 (celsAV l)), (6, .i .i64 l.length), (7, .i .i64 i), (45, .b (!celAt 1048576 l i))] [] mix (by kernel_rfl) ?_ ?_
    · have g1 := c_eval_right l[i].key
      cases q1 : keyOk l[i].key
      · rw [q1] at g1
        simp [celAt, h, q1, g1]
      rw [q1] at g1
      have hj : 0 < i → i - 1 < l.length := fun _ => by omega
      by_cases q3 : 0 < i
      · obtain ⟨j, rfl⟩ : ∃ j, i = j + 1 := ⟨i - 1, by omega⟩
        have hj : j < l.length := by omega
        have w2 : IntKind.i64.wrap (j : Int) = j := wrap64 (by omega) (by omega)
        cases q4 : Op.bytesLess l[j].key.toList l[j + 1].key.toList
        · simp [celAt, h, hj, q1, w2, g1, ltK, q4]
        simp [celAt, h, hj, q1, w2, g1, ltK, q4]
        by_cases q5 : l[j + 1].num = 0 <;> by_cases q6 : 1048576 < l[j + 1].num <;> simp [q5, q6]
      · by_cases q5 : l[i].num = 0 <;> by_cases q6 : 1048576 < l[i].num <;> simp [celAt, h, q1, q3, g1, q5, q6]
    cases hp : celAt 1048576 l i
    · refine AWp.cond (t := true) (by simp) (fun _ => ?_) (by simp)
      refine AWp.go [2] [] fun K hK => ?_
      simp
      first | refine hK _ _ ?_ | refine ⟨by omega, hK _ _ ?_⟩ | refine ⟨by omega, by omega, hK _ _ ?_⟩
      clear hK K
      refine AWp.ret ?_
      simp [countB, range_not h hp]
    · refine AWp.cond (t := false) (by simp) (by simp) (fun _ => ?_)
      refine AWp.skip ?_
      show AWp _ _ _ _
      refine AWp.goLast [0, 5, 6, 7] [] fun K hK => ?_
      simp
      first | refine hK _ _ ?_ | refine ⟨by omega, hK _ _ ?_⟩ | refine ⟨by omega, by omega, hK _ _ ?_⟩
      clear hK K
      refine ⟨i + 1, ⟨by omega, fun k hk => ?_⟩, by omega, ?_⟩
      · by_cases hki : k = i
        · subst hki; exact hp
        · exact hall k (by omega)
      · simp
        exact wrap64 (by omega) (by omega)
  · refine AWp.cond (t := false) (by first | (simp [h]; done) | (simp [h]; omega)) (by simp) (fun _ => ?_)
    refine AWp.exit ?_
    show AWp _ _ _ _
    obtain rfl : i = l.length := by omega
    refine AWp.go [2] [] fun K hK => ?_
    simp
    first | refine hK _ _ ?_ | refine ⟨by omega, hK _ _ ?_⟩ | refine ⟨by omega, by omega, hK _ _ ?_⟩
    clear hK K
    refine AWp.ret ?_
    rw [countB, range_all hall]
    simp
theorem c_eval_may1 (l : List ByteArray) (hlen : l.length ≤ 100000) : Pure Tryz.prog 68 [.sl .fro 1 (strsAV l)] (.b (!setB l)) := by
  refine proc_of (cx Tryz.prog 6 [0, 2] [2]) 5 [.tmp 2] Tryz.func68 rfl rfl rfl rfl rfl rfl (Nat.le_refl _) rfl ?_
  refine AWp.go [0] [] fun K hK => ?_
  simp
  first | refine hK _ _ ?_ | refine ⟨by omega, hK _ _ ?_⟩ | refine ⟨by omega, by omega, hK _ _ ?_⟩
  clear hK K
  refine AWp.go [2] [] fun K hK => ?_
  simp
  refine call_pure (c_eval_set l hlen) (by simp) ?_
  simp
  first | refine hK _ _ ?_ | refine ⟨by omega, hK _ _ ?_⟩ | refine ⟨by omega, by omega, hK _ _ ?_⟩
  clear hK K
  refine AWp.ret ?_
  simp
theorem c_eval_may2 (l : List Cel) (hlen : l.length ≤ 100000) : Pure Tryz.prog 71 [.sl .fro 2 (celsAV l)] (.b (!countB l)) := by
  refine proc_of (cx Tryz.prog 6 [0, 2] [2]) 5 [.tmp 2] Tryz.func71 rfl rfl rfl rfl rfl rfl (Nat.le_refl _) rfl ?_
  refine AWp.go [0] [] fun K hK => ?_
  simp
  first | refine hK _ _ ?_ | refine ⟨by omega, hK _ _ ?_⟩ | refine ⟨by omega, by omega, hK _ _ ?_⟩
  clear hK K
  refine AWp.go [2] [] fun K hK => ?_
  simp
  refine call_pure (c_eval_count l hlen) (by simp) ?_
  simp
  first | refine hK _ _ ?_ | refine ⟨by omega, hK _ _ ?_⟩ | refine ⟨by omega, by omega, hK _ _ ?_⟩
  clear hK K
  refine AWp.ret ?_
  simp
set_option maxRecDepth 8000 in
theorem c_IndexFunc0_StrRow (l : List (List ByteArray)) (g : Nat) (p : (List ByteArray) → Bool) (hg : ∀ n ∈ l, Pure Tryz.prog g [.sl .fro 1 (strsAV n)] (.b (p n))) (hl : l.length ≤ 1000000) : Pure Tryz.prog 120 [.sl .fro 1 (rowsS l), .fn g [] []] (.i .i64 (idxI p l)) := by
  refine proc_of (cx Tryz.prog 19 [0, 1, 4, 5, 7, 8, 9, 16] [4]) 17 [.tmp 4] Tryz.func120 rfl rfl rfl rfl rfl rfl (Nat.le_refl _) rfl ?_
  refine AWp.go [0, 1] [] fun K hK => ?_
  simp
  first | refine hK _ _ ?_ | refine ⟨by omega, hK _ _ ?_⟩ | refine ⟨by omega, by omega, hK _ _ ?_⟩
  clear hK K
  refine AWp.seq ?_
  refine AWp.go [0, 1, 7, 8] [] fun K hK => ?_
  simp
  first | refine hK _ _ ?_ | refine ⟨by omega, hK _ _ ?_⟩ | refine ⟨by omega, by omega, hK _ _ ?_⟩
  clear hK K
  refine AWp.block (AWp.while (fun i : Nat => [(0, .sl .fro 1 (rowsS l)), (1, .fn g [] []), (7, .i .i64 l.length), (8, .i .i64 i)]) (fun i => []) (fun i => i ≤ l.length ∧ ∀ k (hk : k < i) (hk2 : k < l.length), p l[k] = false) (fun i => l.length - i) [0, 1, 7, 8] [] 0 (by simp) (by simp) ?_)
  rintro i ⟨hi, hall⟩
  refine AWp.go [0, 1, 7, 8, 9] [] fun K hK => ?_
  simp
  first | refine hK _ _ ?_ | refine ⟨by omega, hK _ _ ?_⟩ | refine ⟨by omega, by omega, hK _ _ ?_⟩
  clear hK K
  refine AWp.seq ?_
  by_cases h : i < l.length
  · refine AWp.cond (t := true) (by first | (simp [h]; done) | (simp [h]; omega)) (fun _ => ?_) (by simp)
    refine AWp.skip ?_
    show AWp _ _ _ _
    refine AWp.seq ?_
    refine AWp.block ?_
    refine AWp.go [0, 1, 5, 7, 8] [] fun K hK => ?_
    simp
    first | refine hK _ _ ?_ | refine ⟨by omega, hK _ _ ?_⟩ | refine ⟨by omega, by omega, hK _ _ ?_⟩
    clear hK K
    refine AWp.go [0, 1, 5, 7, 8, 16] [] fun K hK => ?_
    simp [h]
    refine call_pure (hg l[i] (List.getElem_mem h)) (by simp [strsAV]) ?_
    simp [h]
    first | refine hK _ _ ?_ | refine ⟨by omega, hK _ _ ?_⟩ | refine ⟨by omega, by omega, hK _ _ ?_⟩
    clear hK K
    cases hp : p l[i]
    · refine AWp.cond (t := false) (by simp) (by simp) (fun _ => ?_)
      refine AWp.skip ?_
      show AWp _ _ _ _
      refine AWp.goLast [0, 1, 7, 8] [] fun K hK => ?_
      simp
      first | refine hK _ _ ?_ | refine ⟨by omega, hK _ _ ?_⟩ | refine ⟨by omega, by omega, hK _ _ ?_⟩
      clear hK K
      refine ⟨i + 1, ⟨by omega, fun k hk hk2 => ?_⟩, by omega, ?_⟩
      · by_cases hki : k = i
        · subst hki; exact hp
        · exact hall k (by omega) hk2
      · simp
        exact wrap64 (by omega) (by omega)
    · refine AWp.cond (t := true) (by simp) (fun _ => ?_) (by simp)
      refine AWp.go [4] [] fun K hK => ?_
      simp
      first | refine hK _ _ ?_ | refine ⟨by omega, hK _ _ ?_⟩ | refine ⟨by omega, by omega, hK _ _ ?_⟩
      clear hK K
      refine AWp.ret ?_
      rw [idxI_at p l i h (fun k hk => hall k hk (by omega)) hp]
      simp
  · refine AWp.cond (t := false) (by first | (simp [h]; done) | (simp [h]; omega)) (by simp) (fun _ => ?_)
    refine AWp.exit ?_
    show AWp _ _ _ _
    refine AWp.go [4] [] fun K hK => ?_
    simp
    first | refine hK _ _ ?_ | refine ⟨by omega, hK _ _ ?_⟩ | refine ⟨by omega, by omega, hK _ _ ?_⟩
    clear hK K
    refine AWp.ret ?_
    rw [idxI_none p l fun k hk => hall k (by omega) hk]
    simp

theorem c_ContainsFunc0_StrRow (l : List (List ByteArray)) (g : Nat) (p : (List ByteArray) → Bool) (hg : ∀ n ∈ l, Pure Tryz.prog g [.sl .fro 1 (strsAV n)] (.b (p n))) (hl : l.length ≤ 1000000) : Pure Tryz.prog 67 [.sl .fro 1 (rowsS l), .fn g [] []] (.b (l.any p)) := by
  refine proc_of (cx Tryz.prog 9 [0, 1, 4] [4]) 7 [.tmp 4] Tryz.func67 rfl rfl rfl rfl rfl rfl (Nat.le_refl _) rfl ?_
  refine AWp.go [0, 1] [] fun K hK => ?_
  simp
  first | refine hK _ _ ?_ | refine ⟨by omega, hK _ _ ?_⟩ | refine ⟨by omega, by omega, hK _ _ ?_⟩
  clear hK K
  refine AWp.go [4] [] fun K hK => ?_
  simp
  refine call_pure (c_IndexFunc0_StrRow l g p hg hl) (by simp) ?_
  simp
  first | refine hK _ _ ?_ | refine ⟨by omega, hK _ _ ?_⟩ | refine ⟨by omega, by omega, hK _ _ ?_⟩
  clear hK K
  refine AWp.ret ?_
  rw [← idxI_ge]
  simp
set_option maxRecDepth 8000 in
theorem c_IndexFunc0_CelRow (l : List (List Cel)) (g : Nat) (p : (List Cel) → Bool) (hg : ∀ n ∈ l, Pure Tryz.prog g [.sl .fro 2 (celsAV n)] (.b (p n))) (hl : l.length ≤ 1000000) : Pure Tryz.prog 121 [.sl .fro 1 (rowsK l), .fn g [] []] (.i .i64 (idxI p l)) := by
  refine proc_of (cx Tryz.prog 19 [0, 1, 4, 5, 7, 8, 9, 16] [4]) 17 [.tmp 4] Tryz.func121 rfl rfl rfl rfl rfl rfl (Nat.le_refl _) rfl ?_
  refine AWp.go [0, 1] [] fun K hK => ?_
  simp
  first | refine hK _ _ ?_ | refine ⟨by omega, hK _ _ ?_⟩ | refine ⟨by omega, by omega, hK _ _ ?_⟩
  clear hK K
  refine AWp.seq ?_
  refine AWp.go [0, 1, 7, 8] [] fun K hK => ?_
  simp
  first | refine hK _ _ ?_ | refine ⟨by omega, hK _ _ ?_⟩ | refine ⟨by omega, by omega, hK _ _ ?_⟩
  clear hK K
  refine AWp.block (AWp.while (fun i : Nat => [(0, .sl .fro 1 (rowsK l)), (1, .fn g [] []), (7, .i .i64 l.length), (8, .i .i64 i)]) (fun i => []) (fun i => i ≤ l.length ∧ ∀ k (hk : k < i) (hk2 : k < l.length), p l[k] = false) (fun i => l.length - i) [0, 1, 7, 8] [] 0 (by simp) (by simp) ?_)
  rintro i ⟨hi, hall⟩
  refine AWp.go [0, 1, 7, 8, 9] [] fun K hK => ?_
  simp
  first | refine hK _ _ ?_ | refine ⟨by omega, hK _ _ ?_⟩ | refine ⟨by omega, by omega, hK _ _ ?_⟩
  clear hK K
  refine AWp.seq ?_
  by_cases h : i < l.length
  · refine AWp.cond (t := true) (by first | (simp [h]; done) | (simp [h]; omega)) (fun _ => ?_) (by simp)
    refine AWp.skip ?_
    show AWp _ _ _ _
    refine AWp.seq ?_
    refine AWp.block ?_
    refine AWp.go [0, 1, 5, 7, 8] [] fun K hK => ?_
    simp
    first | refine hK _ _ ?_ | refine ⟨by omega, hK _ _ ?_⟩ | refine ⟨by omega, by omega, hK _ _ ?_⟩
    clear hK K
    refine AWp.go [0, 1, 5, 7, 8, 16] [] fun K hK => ?_
    simp [h]
    refine call_pure (hg l[i] (List.getElem_mem h)) (by simp [celsAV]) ?_
    simp [h]
    first | refine hK _ _ ?_ | refine ⟨by omega, hK _ _ ?_⟩ | refine ⟨by omega, by omega, hK _ _ ?_⟩
    clear hK K
    cases hp : p l[i]
    · refine AWp.cond (t := false) (by simp) (by simp) (fun _ => ?_)
      refine AWp.skip ?_
      show AWp _ _ _ _
      refine AWp.goLast [0, 1, 7, 8] [] fun K hK => ?_
      simp
      first | refine hK _ _ ?_ | refine ⟨by omega, hK _ _ ?_⟩ | refine ⟨by omega, by omega, hK _ _ ?_⟩
      clear hK K
      refine ⟨i + 1, ⟨by omega, fun k hk hk2 => ?_⟩, by omega, ?_⟩
      · by_cases hki : k = i
        · subst hki; exact hp
        · exact hall k (by omega) hk2
      · simp
        exact wrap64 (by omega) (by omega)
    · refine AWp.cond (t := true) (by simp) (fun _ => ?_) (by simp)
      refine AWp.go [4] [] fun K hK => ?_
      simp
      first | refine hK _ _ ?_ | refine ⟨by omega, hK _ _ ?_⟩ | refine ⟨by omega, by omega, hK _ _ ?_⟩
      clear hK K
      refine AWp.ret ?_
      rw [idxI_at p l i h (fun k hk => hall k hk (by omega)) hp]
      simp
  · refine AWp.cond (t := false) (by first | (simp [h]; done) | (simp [h]; omega)) (by simp) (fun _ => ?_)
    refine AWp.exit ?_
    show AWp _ _ _ _
    refine AWp.go [4] [] fun K hK => ?_
    simp
    first | refine hK _ _ ?_ | refine ⟨by omega, hK _ _ ?_⟩ | refine ⟨by omega, by omega, hK _ _ ?_⟩
    clear hK K
    refine AWp.ret ?_
    rw [idxI_none p l fun k hk => hall k (by omega) hk]
    simp

theorem c_ContainsFunc0_CelRow (l : List (List Cel)) (g : Nat) (p : (List Cel) → Bool) (hg : ∀ n ∈ l, Pure Tryz.prog g [.sl .fro 2 (celsAV n)] (.b (p n))) (hl : l.length ≤ 1000000) : Pure Tryz.prog 70 [.sl .fro 1 (rowsK l), .fn g [] []] (.b (l.any p)) := by
  refine proc_of (cx Tryz.prog 9 [0, 1, 4] [4]) 7 [.tmp 4] Tryz.func70 rfl rfl rfl rfl rfl rfl (Nat.le_refl _) rfl ?_
  refine AWp.go [0, 1] [] fun K hK => ?_
  simp
  first | refine hK _ _ ?_ | refine ⟨by omega, hK _ _ ?_⟩ | refine ⟨by omega, by omega, hK _ _ ?_⟩
  clear hK K
  refine AWp.go [4] [] fun K hK => ?_
  simp
  refine call_pure (c_IndexFunc0_CelRow l g p hg hl) (by simp) ?_
  simp
  first | refine hK _ _ ?_ | refine ⟨by omega, hK _ _ ?_⟩ | refine ⟨by omega, by omega, hK _ _ ?_⟩
  clear hK K
  refine AWp.ret ?_
  rw [← idxI_ge]
  simp
/-- A state that is not great. -/
def SlightS (s : Sta) : Prop := s.sets.length ≤ 100000 ∧ s.counts.length ≤ 100000 ∧ (∀ l ∈ s.sets, l.length ≤ 100000) ∧ ∀ l ∈ s.counts, l.length ≤ 100000
def stateB (r : Rul) (s : Sta) : Bool := decide ((s.sets.length : Int) = r.sets.length) && decide ((s.counts.length : Int) = r.counts.length) && s.sets.all setB && s.counts.all countB
set_option maxRecDepth 8000 in
set_option maxHeartbeats 2000000 in
theorem c_eval_may (r : Rul) (s : Sta) (hr : Slight r) (hs : SlightS s) : Pure Tryz.prog 32 [.agg (rulC r), .agg (staC s)] (.b (stateB r s)) := by
  obtain ⟨h1, h2, h3, h4, h5⟩ := hr
  obtain ⟨k1, k2, k3, k4⟩ := hs
  have g1 := c_ContainsFunc0_StrRow s.sets 68 (fun l => !setB l) (fun l hl => c_eval_may1 l (k3 l hl)) (by omega)
  have g2 := c_ContainsFunc0_CelRow s.counts 71 (fun l => !countB l) (fun l hl => c_eval_may2 l (k4 l hl)) (by omega)
  rw [any_not_all] at g1 g2
  refine proc_of (cx Tryz.prog 33 [2, 3, 4] [4]) 31 [.tmp 4] Tryz.func32 rfl rfl rfl rfl rfl rfl (Nat.le_refl _) rfl ?_
  refine AWp.go [2, 3] [2, 3] fun K hK => ?_
  simp [rulC, staC]
  first | refine hK _ _ ?_ | refine ⟨by omega, hK _ _ ?_⟩ | refine ⟨by omega, by omega, hK _ _ ?_⟩
  clear hK K
  refine AWp.step [4] [2, 3] [(4, .b (stateB r s))] [(2, [.sl .fro 1 (strsAV r.sets), .sl .fro 1 (strsAV r.counts), .sl .fro 1 (strsAV r.notes), .sl .fro 5 (clsAV r.cls), .sl .fro 2 (opnsAV r.opers)]), (3, [.sl .fro 1 (rowsS s.sets), .sl .fro 1 (rowsK s.counts)])] ?_ ?_
  · by_cases q1 : (s.sets.length : Int) = r.sets.length
    · by_cases q2 : (s.counts.length : Int) = r.counts.length
      · simp [q1, q2]
        refine call_pure g1 (by simp) ?_
        cases q3 : s.sets.all setB
        · simp [stateB, q1, q2, q3]
        simp
        refine call_pure g2 (by simp) ?_
        simp [stateB, q1, q2, q3]
      · simp [q1, q2, stateB]
    · simp [q1, stateB]
  refine AWp.ret ?_
  simp
set_option maxRecDepth 8000 in
theorem c_eval_Check (r : Rul) (s : Sta) (hr : Slim r) (hs : SlightS s) : Pure Tryz.prog 22 [.agg (rulC r), .agg (staC s)] (.i .i64 (if rulesB r && stateB r s then 0 else 1)) := by
  have g1 := c_sorts_Check r hr
  have g2 := c_eval_may r s hr.1 hs
  simp [rulC, staC] at g1 g2
  refine proc_of (cx Tryz.prog 14 [2, 3, 4, 13] [4]) 12 [.tmp 4] Tryz.func22 rfl rfl rfl rfl rfl rfl (Nat.le_refl _) rfl ?_
  refine AWp.go [2, 3] [2, 3] fun K hK => ?_
  simp [rulC, staC]
  first | refine hK _ _ ?_ | refine ⟨by omega, hK _ _ ?_⟩ | refine ⟨by omega, by omega, hK _ _ ?_⟩
  clear hK K
  refine AWp.seq ?_
  refine AWp.step [13] [2, 3] [(13, .b (!(rulesB r && stateB r s)))] [(2, [.sl .fro 1 (strsAV r.sets), .sl .fro 1 (strsAV r.counts), .sl .fro 1 (strsAV r.notes), .sl .fro 5 (clsAV r.cls), .sl .fro 2 (opnsAV r.opers)]), (3, [.sl .fro 1 (rowsS s.sets), .sl .fro 1 (rowsK s.counts)])] ?_ ?_
  · simp
    refine call_pure g1 (by simp) ?_
    cases q1 : rulesB r
    · simp
    simp
    refine call_pure g2 (by simp) ?_
    simp
  cases hh : rulesB r && stateB r s
  · refine AWp.cond (t := true) (by simp) (fun _ => ?_) (by simp)
    refine AWp.go [4] [2, 3] fun K hK => ?_
    simp
    first | refine hK _ _ ?_ | refine ⟨by omega, hK _ _ ?_⟩ | refine ⟨by omega, by omega, hK _ _ ?_⟩
    clear hK K
    refine AWp.ret ?_
    simp [hh]
  · refine AWp.cond (t := false) (by simp) (by simp) (fun _ => ?_)
    refine AWp.skip ?_
    show AWp _ _ _ _
    refine AWp.go [4] [2, 3] fun K hK => ?_
    simp
    first | refine hK _ _ ?_ | refine ⟨by omega, hK _ _ ?_⟩ | refine ⟨by omega, by omega, hK _ _ ?_⟩
    clear hK K
    refine AWp.ret ?_
    simp [hh]
end Go.AM
namespace Go.AM
open Go.Proofs
def tallyB (l : List Cel) : Bool := (List.range l.length).all (celAt 1099511627776 l) && decide ((l.length : Int) ≤ 4000)
def smallC (c : Cel) : Bool := !decide (1048576 < c.num) && !decide (c.num < -1048576)
def setRAt (s : Sta) (i : Nat) : Bool := match s.sets[i]? with
  | some l => setB l
  | none => false
def countRAt (s : Sta) (i : Nat) : Bool := match s.counts[i]? with
  | some l => tallyB l && l.all smallC
  | none => false
def stateR (r : Rul) (s : Sta) : Bool := decide ((s.sets.length : Int) = r.sets.length) && decide ((s.counts.length : Int) = r.counts.length) && (List.range s.sets.length).all (setRAt s) && (List.range s.counts.length).all (countRAt s)
end Go.AM
namespace Go.AM
open Go.Proofs
def inOf (s : Sta) (n : Int) (k : ByteArray) : Bool := decide (0 ≤ n) && decide (n < s.sets.length) && hasS (s.sets.getD n.toNat []) k
def getN (l : List Cel) (k : ByteArray) : Int := match l.find? fun c => eqK c.key k with
  | some c => c.num
  | none => 0
def numOf (s : Sta) (n : Int) (k : ByteArray) : Int := if 0 ≤ n ∧ n < s.counts.length then getN (s.counts.getD n.toNat []) k else 0
set_option maxRecDepth 8000 in
set_option maxHeartbeats 2000000 in
theorem c_eval_In (s : Sta) (hs : SlightS s) (n : Int) (k : ByteArray) : Pure Tryz.prog 27 [.agg (staC s), .i .i64 n, .s k] (.b (inOf s n k)) := by
  obtain ⟨k1, k2, k3, k4⟩ := hs
  refine proc_of (cx Tryz.prog 25 [1, 2, 3, 6] [6]) 22 [.tmp 6] Tryz.func27 rfl rfl rfl rfl rfl rfl (Nat.le_refl _) rfl ?_
  refine AWp.go [1, 2, 3] [3] fun K hK => ?_
  simp [staC]
  first | refine hK _ _ ?_ | refine ⟨by omega, hK _ _ ?_⟩ | refine ⟨by omega, by omega, hK _ _ ?_⟩
  clear hK K
  refine AWp.step [6] [3] [(6, .b (inOf s n k))] [(3, [.sl .fro 1 (rowsS s.sets), .sl .fro 1 (rowsK s.counts)])] ?_ ?_
  · by_cases q1 : 0 ≤ n
    · obtain ⟨m, rfl⟩ : ∃ m : Nat, n = m := ⟨n.toNat, by omega⟩
      by_cases q2 : m < s.sets.length
      · simp [q2]
        refine call_pure (c_Contains_Str s.sets[m] k (by have := k3 _ (List.getElem_mem q2); omega)) (by simp) ?_
        simp [inOf, q2]
      · simp [q2, inOf]
    · simp [q1, inOf]
  refine AWp.ret ?_
  simp
@[simp] theorem try_eqCel : flatEq Tryz.prog 71 = some [.str, .int .i64] := by kernel_rfl
def celEq (a b : Cel) : Bool := eqK a.key b.key && decide (a.num = b.num)
def sameAt (a b : List Cel) (i : Nat) : Bool := match a[i]?, b[i]? with
  | some x, some y => celEq x y
  | _, _ => false
def sameK (a b : List Cel) : Bool := decide ((a.length : Int) = b.length) && (List.range a.length).all (sameAt a b)
end Go.AM
namespace Go.AM
open Go.Proofs
def eqAt (a b : List ByteArray) (i : Nat) : Bool := match a[i]?, b[i]? with
  | some x, some y => eqK x y
  | _, _ => false
def sameL (a b : List ByteArray) : Bool := decide ((a.length : Int) = b.length) && (List.range a.length).all (eqAt a b)
def sameSAt (a b : Sta) (i : Nat) : Bool := match a.sets[i]?, b.sets[i]? with
  | some x, some y => sameL x y
  | _, _ => false
def sameKAt (a b : Sta) (i : Nat) : Bool := match a.counts[i]?, b.counts[i]? with
  | some x, some y => sameK x y
  | _, _ => false
def sameSta (a b : Sta) : Bool := decide ((a.sets.length : Int) = b.sets.length) && decide ((a.counts.length : Int) = b.counts.length) && (List.range a.sets.length).all (sameSAt a b) && (List.range a.counts.length).all (sameKAt a b)
def newS (r : Rul) : Sta := ⟨List.replicate r.sets.length [], List.replicate r.counts.length []⟩
@[simp] theorem rowsS_nils (n : Nat) : List.replicate n [AV.sl .fro 1 []] = rowsS (List.replicate n []) := by simp [rowsS, strsAV]
@[simp] theorem rowsK_nils (n : Nat) : List.replicate n [AV.sl .fro 2 []] = rowsK (List.replicate n []) := by simp [rowsK, celsAV]
end Go.AM
namespace Go.AM
open Go.Proofs

def okS (r : Rul) : Sta := if rulesB r then newS r else ⟨[], []⟩
theorem c_cmp_isNaN_Str (a : ByteArray) : Pure Tryz.prog 139 [.s a] (.b false) := by
  refine proc_of (cx Tryz.prog 6 [0, 2] [2]) 5 [.tmp 2] Tryz.func139 rfl rfl rfl rfl rfl rfl (Nat.le_refl _) rfl ?_
  refine AWp.go [0] [] fun K hK => ?_
  simp
  first | refine hK _ _ ?_ | refine ⟨by omega, hK _ _ ?_⟩ | refine ⟨by omega, by omega, hK _ _ ?_⟩
  clear hK K
  refine AWp.go [2] [] fun K hK => ?_
  simp
  first | refine hK _ _ ?_ | refine ⟨by omega, hK _ _ ?_⟩ | refine ⟨by omega, by omega, hK _ _ ?_⟩
  clear hK K
  refine AWp.ret ?_
  simp
theorem c_slices_isNaN_Str (a : ByteArray) : Pure Tryz.prog 114 [.s a] (.b false) := by
  refine proc_of (cx Tryz.prog 6 [0, 2] [2]) 5 [.tmp 2] Tryz.func114 rfl rfl rfl rfl rfl rfl (Nat.le_refl _) rfl ?_
  refine AWp.go [0] [] fun K hK => ?_
  simp
  first | refine hK _ _ ?_ | refine ⟨by omega, hK _ _ ?_⟩ | refine ⟨by omega, by omega, hK _ _ ?_⟩
  clear hK K
  refine AWp.go [2] [] fun K hK => ?_
  simp
  first | refine hK _ _ ?_ | refine ⟨by omega, hK _ _ ?_⟩ | refine ⟨by omega, by omega, hK _ _ ?_⟩
  clear hK K
  refine AWp.ret ?_
  simp
theorem c_cmp_Less_Str (a b : ByteArray) : Pure Tryz.prog 113 [.s a, .s b] (.b (ltK a b)) := by
  refine proc_of (cx Tryz.prog 17 [0, 1, 4] [4]) 15 [.tmp 4] Tryz.func113 rfl rfl rfl rfl rfl rfl (Nat.le_refl _) rfl ?_
  refine AWp.go [0, 1] [] fun K hK => ?_
  simp
  first | refine hK _ _ ?_ | refine ⟨by omega, hK _ _ ?_⟩ | refine ⟨by omega, by omega, hK _ _ ?_⟩
  clear hK K
  refine AWp.go [4] [] fun K hK => ?_
  simp
  refine call_pure (c_cmp_isNaN_Str a) (by simp) ?_
  simp
  first | refine hK _ _ ?_ | refine ⟨by omega, hK _ _ ?_⟩ | refine ⟨by omega, by omega, hK _ _ ?_⟩
  clear hK K
  refine AWp.ret ?_
  simp [ltK]
def lessS (l : List ByteArray) (k : ByteArray) (i : Nat) : Bool := match l[i]? with
  | some x => ltK x k
  | none => false
def placeS (l : List ByteArray) (k : ByteArray) : Nat := bsF (lessS l k) 0 l.length
def thereS (l : List ByteArray) (k : ByteArray) : Bool := match l[placeS l k]? with
  | some x => eqK x k
  | none => false
set_option maxRecDepth 8000 in
set_option maxHeartbeats 4000000 in
theorem c_BinarySearch_Str (s : List ByteArray) (k : ByteArray) (hs : s.length ≤ 1000000) : Pure Tryz.prog 59 [.sl .fro 1 (strsAV s), .s k] (.tup [.i .i64 (placeS s k), .b (thereS s k)]) := by
  refine proc_of (cx Tryz.prog 54 [0, 1, 4, 5, 6, 7, 8, 9, 15, 27] [4, 5]) 52 [.tmp 4, .tmp 5] Tryz.func59 rfl rfl rfl rfl rfl rfl (Nat.le_refl _) rfl ?_
  refine AWp.go [0, 1] [] fun K hK => ?_
  simp
  first | refine hK _ _ ?_ | refine ⟨by omega, hK _ _ ?_⟩ | refine ⟨by omega, by omega, hK _ _ ?_⟩
  clear hK K
  refine AWp.go [0, 1, 6] [] fun K hK => ?_
  simp
  first | refine hK _ _ ?_ | refine ⟨by omega, hK _ _ ?_⟩ | refine ⟨by omega, by omega, hK _ _ ?_⟩
  clear hK K
  refine AWp.go [0, 1, 6, 7, 8] [] fun K hK => ?_
  simp
  first | refine hK _ _ ?_ | refine ⟨by omega, hK _ _ ?_⟩ | refine ⟨by omega, by omega, hK _ _ ?_⟩
  clear hK K
  refine AWp.seq ?_
  refine AWp.block (AWp.while (fun p : Nat × Nat => [(0, .sl .fro 1 (strsAV s)), (1, .s k), (6, .i .i64 s.length), (7, .i .i64 p.1), (8, .i .i64 p.2)]) (fun p => []) (fun p => p.1 ≤ p.2 ∧ p.2 ≤ s.length ∧ bsF (lessS s k) p.1 p.2 = placeS s k) (fun p => p.2 - p.1) [0, 1, 6, 7, 8] [] (0, s.length) (by exact ⟨Nat.zero_le _, Nat.le_refl _, rfl⟩) (by simp) ?_)
  rintro ⟨lo, hi⟩ ⟨h1, h2, h3⟩
  refine AWp.seq ?_
  refine AWp.go [0, 1, 6, 7, 8, 15] [] fun K hK => ?_
  simp
  first | refine hK _ _ ?_ | refine ⟨by omega, hK _ _ ?_⟩ | refine ⟨by omega, by omega, hK _ _ ?_⟩
  clear hK K
  by_cases h : lo < hi
  · refine AWp.cond (t := true) (by first | (simp [h]; done) | (simp [h]; omega)) (fun _ => ?_) (by simp)
    refine AWp.skip ?_
    show AWp _ _ _ _
    refine AWp.block ?_
    obtain ⟨m, hm⟩ : ∃ m : Nat, m = (lo + hi) / 2 := ⟨_, rfl⟩
    have hml : m < s.length := by omega
    refine AWp.step [0, 1, 6, 7, 8, 9] [] [(0, .sl .fro 1 (strsAV s)), (1, .s k), (6, .i .i64 s.length), (7, .i .i64 lo), (8, .i .i64 hi), (9, .i .i64 m)] [] ?_ ?_
    · have w1 : IntKind.i64.wrap ((lo : Int) + hi) = (lo : Int) + hi := wrap64 (by omega) (by omega)
      simp [w1]
      exact mid_wrap (by omega) hm
    refine AWp.go [0, 1, 6, 7, 8, 9, 27] [] fun K hK => ?_
    simp [hml]
    refine call_pure (c_cmp_Less_Str s[m] k) (by simp) ?_
    simp [hml]
    first | refine hK _ _ ?_ | refine ⟨by omega, hK _ _ ?_⟩ | refine ⟨by omega, by omega, hK _ _ ?_⟩
    clear hK K
    cases hp : ltK s[m] k
    · refine AWp.cond (t := false) (by simp) (by simp) (fun _ => ?_)
      refine AWp.goLast [0, 1, 6, 7, 8] [] fun K hK => ?_
      simp
      first | refine hK _ _ ?_ | refine ⟨by omega, hK _ _ ?_⟩ | refine ⟨by omega, by omega, hK _ _ ?_⟩
      clear hK K
      refine ⟨(lo, m), ⟨by simp; omega, by simp; omega, ?_⟩, by simp; omega, ?_⟩
      · rw [bsF, if_pos h, ← hm, if_neg (by simp [lessS, hml, hp])] at h3
        exact h3
      · simp
    · refine AWp.cond (t := true) (by simp) (fun _ => ?_) (by simp)
      refine AWp.goLast [0, 1, 6, 7, 8] [] fun K hK => ?_
      simp (disch := omega) [wrap64]
      first | refine hK _ _ ?_ | refine ⟨by omega, hK _ _ ?_⟩ | refine ⟨by omega, by omega, hK _ _ ?_⟩
      clear hK K
      refine ⟨(m + 1, hi), ⟨by simp; omega, h2, ?_⟩, by simp; omega, ?_⟩
      · rw [bsF, if_pos h, ← hm, if_pos (by simp [lessS, hml, hp])] at h3
        exact h3
      · simp
  · refine AWp.cond (t := false) (by first | (simp [h]; done) | (simp [h]; omega)) (by simp) (fun _ => ?_)
    refine AWp.exit ?_
    show AWp _ _ _ _
    obtain rfl : lo = hi := by omega
    rw [bsF_done] at h3
    refine AWp.step [4, 5] [] [(4, .i .i64 (placeS s k)), (5, .b (thereS s k))] [] ?_ ?_
    · by_cases hq : lo < s.length
      · cases hx : eqK s[lo] k
        · have hx' : (s[lo].toList == k.toList) = false := hx
          simp [hq, thereS, ← h3, hx, hx']
          refine call_pure (c_slices_isNaN_Str s[lo]) (by simp) ?_
          simp
        · have hx' : (s[lo].toList == k.toList) = true := hx
          simp [hq, thereS, ← h3, hx, hx']
      · simp [hq, thereS, ← h3]
    refine AWp.ret ?_
    simp
theorem c_eval_in (l : List ByteArray) (k : ByteArray) (hs : l.length ≤ 1000000) : Pure Tryz.prog 106 [.sl .fro 1 (strsAV l), .s k] (.b (thereS l k)) := by
  refine proc_of (cx Tryz.prog 14 [0, 1, 4, 6] [4]) 12 [.tmp 4] Tryz.func106 rfl rfl rfl rfl rfl rfl (Nat.le_refl _) rfl ?_
  refine AWp.go [0, 1] [] fun K hK => ?_
  simp
  first | refine hK _ _ ?_ | refine ⟨by omega, hK _ _ ?_⟩ | refine ⟨by omega, by omega, hK _ _ ?_⟩
  clear hK K
  refine AWp.go [6] [] fun K hK => ?_
  simp
  refine call_pure (c_BinarySearch_Str l k hs) (by simp) ?_
  simp
  first | refine hK _ _ ?_ | refine ⟨by omega, hK _ _ ?_⟩ | refine ⟨by omega, by omega, hK _ _ ?_⟩
  clear hK K
  refine AWp.go [4] [] fun K hK => ?_
  simp
  first | refine hK _ _ ?_ | refine ⟨by omega, hK _ _ ?_⟩ | refine ⟨by omega, by omega, hK _ _ ?_⟩
  clear hK K
  refine AWp.ret ?_
  simp
set_option maxRecDepth 8000 in
theorem c_IndexFunc2_Str (l : List ByteArray) (g : Nat) (p : ByteArray → Bool) (cs ds : List AV) (hc : Calm cs) (hd : Calm ds) (hg : ∀ n ∈ l, Proc Tryz.prog 2 g [.s n, .ptr 0 0, .ptr 1 0] [(0, cs), (1, ds)] (.b (p n)) [(0, cs), (1, ds)]) (hl : l.length ≤ 1000000) : Proc Tryz.prog 2 137 [.sl .fro 1 (strsAV l), .fn g [] [.ptr 0 0, .ptr 1 0]] [(0, cs), (1, ds)] (.i .i64 (idxI p l)) [(0, cs), (1, ds)] := by
  refine proc_of (cxb Tryz.prog 19 2 [0, 1, 4, 5, 7, 8, 9, 16] [] [4]) 17 [.tmp 4] Tryz.func137 rfl rfl rfl rfl rfl rfl (Nat.le_refl _) rfl ?_
  refine AWp.go [0, 1] [0, 1] fun K hK => ?_
  simp [hc, hd]
  first | refine hK _ _ ?_ | refine ⟨by omega, hK _ _ ?_⟩ | refine ⟨by omega, by omega, hK _ _ ?_⟩
  clear hK K
  refine AWp.seq ?_
  refine AWp.go [0, 1, 7, 8] [0, 1] fun K hK => ?_
  simp [hc, hd]
  first | refine hK _ _ ?_ | refine ⟨by omega, hK _ _ ?_⟩ | refine ⟨by omega, by omega, hK _ _ ?_⟩
  clear hK K
  refine AWp.block (AWp.while (fun i : Nat => [(0, .sl .fro 1 (strsAV l)), (1, .fn g [] [.ptr 0 0, .ptr 1 0]), (7, .i .i64 l.length), (8, .i .i64 i)]) (fun i => [(0, cs), (1, ds)]) (fun i => i ≤ l.length ∧ ∀ k (hk : k < i) (hk2 : k < l.length), p l[k] = false) (fun i => l.length - i) [0, 1, 7, 8] [0, 1] 0 (by simp) (by simp [hc, hd]) ?_)
  rintro i ⟨hi, hall⟩
  refine AWp.go [0, 1, 7, 8, 9] [0, 1] fun K hK => ?_
  simp [hc, hd]
  first | refine hK _ _ ?_ | refine ⟨by omega, hK _ _ ?_⟩ | refine ⟨by omega, by omega, hK _ _ ?_⟩
  clear hK K
  refine AWp.seq ?_
  by_cases h : i < l.length
  · refine AWp.cond (t := true) (by first | (simp [h]; done) | (simp [h]; omega)) (fun _ => ?_) (by simp)
    refine AWp.skip ?_
    show AWp _ _ _ _
    refine AWp.seq ?_
    refine AWp.block ?_
    refine AWp.go [0, 1, 5, 7, 8] [0, 1] fun K hK => ?_
    simp [hc, hd]
    first | refine hK _ _ ?_ | refine ⟨by omega, hK _ _ ?_⟩ | refine ⟨by omega, by omega, hK _ _ ?_⟩
    clear hK K
    refine AWp.go [0, 1, 5, 7, 8, 16] [0, 1] fun K hK => ?_
    simp [h, hc, hd]
    refine call_proc [(0, 0), (1, 1)] none (hg l[i] (List.getElem_mem h)) (by simp [strsAV]) (by simp) ?_
    simp [h, hc, hd]
    refine ⟨by have h1 := hc.still; have h2 := hd.still; simp at h1 h2; exact ⟨h1, h2⟩, hK _ _ ?_⟩
    clear hK K
    cases hp : p l[i]
    · refine AWp.cond (t := false) (by simp) (by simp) (fun _ => ?_)
      refine AWp.skip ?_
      show AWp _ _ _ _
      refine AWp.goLast [0, 1, 7, 8] [0, 1] fun K hK => ?_
      simp [hc, hd]
      first | refine hK _ _ ?_ | refine ⟨by omega, hK _ _ ?_⟩ | refine ⟨by omega, by omega, hK _ _ ?_⟩
      clear hK K
      refine ⟨i + 1, ⟨by omega, fun k hk hk2 => ?_⟩, by omega, ?_⟩
      · by_cases hki : k = i
        · subst hki; exact hp
        · exact hall k (by omega) hk2
      · simp [hc, hd]
        exact wrap64 (by omega) (by omega)
    · refine AWp.cond (t := true) (by simp) (fun _ => ?_) (by simp)
      refine AWp.go [4] [0, 1] fun K hK => ?_
      simp [hc, hd]
      first | refine hK _ _ ?_ | refine ⟨by omega, hK _ _ ?_⟩ | refine ⟨by omega, by omega, hK _ _ ?_⟩
      clear hK K
      refine AWp.ret ?_
      rw [idxI_at p l i h (fun k hk => hall k hk (by omega)) hp]
      simp [hc, hd]
      intro id cs1 hid
      rw [hid]
      have hc1 : Calm cs1 := by
        split at hid
        · cases hid; exact hc
        · split at hid
          · cases hid; exact hd
          · cases hid
      exact ⟨AV.fitsL_refl _, by simpa using hc1.still⟩
  · refine AWp.cond (t := false) (by first | (simp [h]; done) | (simp [h]; omega)) (by simp) (fun _ => ?_)
    refine AWp.exit ?_
    show AWp _ _ _ _
    refine AWp.go [4] [0, 1] fun K hK => ?_
    simp [hc, hd]
    first | refine hK _ _ ?_ | refine ⟨by omega, hK _ _ ?_⟩ | refine ⟨by omega, by omega, hK _ _ ?_⟩
    clear hK K
    refine AWp.ret ?_
    rw [idxI_none p l fun k hk => hall k (by omega) hk]
    simp [hc, hd]
    intro id cs1 hid
    rw [hid]
    have hc1 : Calm cs1 := by
      split at hid
      · cases hid; exact hc
      · split at hid
        · cases hid; exact hd
        · cases hid
    exact ⟨AV.fitsL_refl _, by simpa using hc1.still⟩

theorem c_ContainsFunc2_Str (l : List ByteArray) (g : Nat) (p : ByteArray → Bool) (cs ds : List AV) (hc : Calm cs) (hd : Calm ds) (hg : ∀ n ∈ l, Proc Tryz.prog 2 g [.s n, .ptr 0 0, .ptr 1 0] [(0, cs), (1, ds)] (.b (p n)) [(0, cs), (1, ds)]) (hl : l.length ≤ 1000000) : Proc Tryz.prog 2 104 [.sl .fro 1 (strsAV l), .fn g [] [.ptr 0 0, .ptr 1 0]] [(0, cs), (1, ds)] (.b (l.any p)) [(0, cs), (1, ds)] := by
  refine proc_of (cxb Tryz.prog 9 2 [0, 1, 4] [] [4]) 7 [.tmp 4] Tryz.func104 rfl rfl rfl rfl rfl rfl (Nat.le_refl _) rfl ?_
  refine AWp.go [0, 1] [0, 1] fun K hK => ?_
  simp [hc, hd]
  first | refine hK _ _ ?_ | refine ⟨by omega, hK _ _ ?_⟩ | refine ⟨by omega, by omega, hK _ _ ?_⟩
  clear hK K
  refine AWp.go [4] [0, 1] fun K hK => ?_
  simp [hc, hd]
  refine call_proc [(0, 0), (1, 1)] none (c_IndexFunc2_Str l g p cs ds hc hd hg hl) (by simp) (by simp) ?_
  simp [hc, hd]
  refine ⟨by have h1 := hc.still; have h2 := hd.still; simp at h1 h2; exact ⟨h1, h2⟩, hK _ _ ?_⟩
  clear hK K
  refine AWp.ret ?_
  rw [← idxI_ge]
  simp [hc, hd]
  intro id cs1 hid
  rw [hid]
  have hc1 : Calm cs1 := by
    split at hid
    · cases hid; exact hc
    · split at hid
      · cases hid; exact hd
      · cases hid
  exact ⟨AV.fitsL_refl _, by simpa using hc1.still⟩
set_option maxRecDepth 8000 in
theorem c_IndexFunc2_Cel (l : List Cel) (g : Nat) (p : Cel → Bool) (cs ds : List AV) (hc : Calm cs) (hd : Calm ds) (hg : ∀ n ∈ l, Proc Tryz.prog 2 g [.agg (celC n), .ptr 0 0, .ptr 1 0] [(0, cs), (1, ds)] (.b (p n)) [(0, cs), (1, ds)]) (hl : l.length ≤ 1000000) : Proc Tryz.prog 2 138 [.sl .fro 2 (celsAV l), .fn g [] [.ptr 0 0, .ptr 1 0]] [(0, cs), (1, ds)] (.i .i64 (idxI p l)) [(0, cs), (1, ds)] := by
  refine proc_of (cxb Tryz.prog 19 2 [0, 1, 4, 5, 7, 8, 9, 16] [] [4]) 17 [.tmp 4] Tryz.func138 rfl rfl rfl rfl rfl rfl (Nat.le_refl _) rfl ?_
  refine AWp.go [0, 1] [0, 1] fun K hK => ?_
  simp [hc, hd]
  first | refine hK _ _ ?_ | refine ⟨by omega, hK _ _ ?_⟩ | refine ⟨by omega, by omega, hK _ _ ?_⟩
  clear hK K
  refine AWp.seq ?_
  refine AWp.go [0, 1, 7, 8] [0, 1] fun K hK => ?_
  simp [hc, hd]
  first | refine hK _ _ ?_ | refine ⟨by omega, hK _ _ ?_⟩ | refine ⟨by omega, by omega, hK _ _ ?_⟩
  clear hK K
  refine AWp.block (AWp.while (fun i : Nat => [(0, .sl .fro 2 (celsAV l)), (1, .fn g [] [.ptr 0 0, .ptr 1 0]), (7, .i .i64 l.length), (8, .i .i64 i)]) (fun i => [(0, cs), (1, ds)]) (fun i => i ≤ l.length ∧ ∀ k (hk : k < i) (hk2 : k < l.length), p l[k] = false) (fun i => l.length - i) [0, 1, 7, 8] [0, 1] 0 (by simp) (by simp [hc, hd]) ?_)
  rintro i ⟨hi, hall⟩
  refine AWp.go [0, 1, 7, 8, 9] [0, 1] fun K hK => ?_
  simp [hc, hd]
  first | refine hK _ _ ?_ | refine ⟨by omega, hK _ _ ?_⟩ | refine ⟨by omega, by omega, hK _ _ ?_⟩
  clear hK K
  refine AWp.seq ?_
  by_cases h : i < l.length
  · refine AWp.cond (t := true) (by first | (simp [h]; done) | (simp [h]; omega)) (fun _ => ?_) (by simp)
    refine AWp.skip ?_
    show AWp _ _ _ _
    refine AWp.seq ?_
    refine AWp.block ?_
    refine AWp.go [0, 1, 5, 7, 8] [0, 1] fun K hK => ?_
    simp [hc, hd]
    first | refine hK _ _ ?_ | refine ⟨by omega, hK _ _ ?_⟩ | refine ⟨by omega, by omega, hK _ _ ?_⟩
    clear hK K
    refine AWp.go [0, 1, 5, 7, 8, 16] [0, 1] fun K hK => ?_
    simp [h, hc, hd]
    refine call_proc [(0, 0), (1, 1)] none (hg l[i] (List.getElem_mem h)) (by simp [celC]) (by simp) ?_
    simp [h, hc, hd]
    refine ⟨by have h1 := hc.still; have h2 := hd.still; simp at h1 h2; exact ⟨h1, h2⟩, hK _ _ ?_⟩
    clear hK K
    cases hp : p l[i]
    · refine AWp.cond (t := false) (by simp) (by simp) (fun _ => ?_)
      refine AWp.skip ?_
      show AWp _ _ _ _
      refine AWp.goLast [0, 1, 7, 8] [0, 1] fun K hK => ?_
      simp [hc, hd]
      first | refine hK _ _ ?_ | refine ⟨by omega, hK _ _ ?_⟩ | refine ⟨by omega, by omega, hK _ _ ?_⟩
      clear hK K
      refine ⟨i + 1, ⟨by omega, fun k hk hk2 => ?_⟩, by omega, ?_⟩
      · by_cases hki : k = i
        · subst hki; exact hp
        · exact hall k (by omega) hk2
      · simp [hc, hd]
        exact wrap64 (by omega) (by omega)
    · refine AWp.cond (t := true) (by simp) (fun _ => ?_) (by simp)
      refine AWp.go [4] [0, 1] fun K hK => ?_
      simp [hc, hd]
      first | refine hK _ _ ?_ | refine ⟨by omega, hK _ _ ?_⟩ | refine ⟨by omega, by omega, hK _ _ ?_⟩
      clear hK K
      refine AWp.ret ?_
      rw [idxI_at p l i h (fun k hk => hall k hk (by omega)) hp]
      simp [hc, hd]
      intro id cs1 hid
      rw [hid]
      have hc1 : Calm cs1 := by
        split at hid
        · cases hid; exact hc
        · split at hid
          · cases hid; exact hd
          · cases hid
      exact ⟨AV.fitsL_refl _, by simpa using hc1.still⟩
  · refine AWp.cond (t := false) (by first | (simp [h]; done) | (simp [h]; omega)) (by simp) (fun _ => ?_)
    refine AWp.exit ?_
    show AWp _ _ _ _
    refine AWp.go [4] [0, 1] fun K hK => ?_
    simp [hc, hd]
    first | refine hK _ _ ?_ | refine ⟨by omega, hK _ _ ?_⟩ | refine ⟨by omega, by omega, hK _ _ ?_⟩
    clear hK K
    refine AWp.ret ?_
    rw [idxI_none p l fun k hk => hall k (by omega) hk]
    simp [hc, hd]
    intro id cs1 hid
    rw [hid]
    have hc1 : Calm cs1 := by
      split at hid
      · cases hid; exact hc
      · split at hid
        · cases hid; exact hd
        · cases hid
    exact ⟨AV.fitsL_refl _, by simpa using hc1.still⟩

theorem c_ContainsFunc2_Cel (l : List Cel) (g : Nat) (p : Cel → Bool) (cs ds : List AV) (hc : Calm cs) (hd : Calm ds) (hg : ∀ n ∈ l, Proc Tryz.prog 2 g [.agg (celC n), .ptr 0 0, .ptr 1 0] [(0, cs), (1, ds)] (.b (p n)) [(0, cs), (1, ds)]) (hl : l.length ≤ 1000000) : Proc Tryz.prog 2 108 [.sl .fro 2 (celsAV l), .fn g [] [.ptr 0 0, .ptr 1 0]] [(0, cs), (1, ds)] (.b (l.any p)) [(0, cs), (1, ds)] := by
  refine proc_of (cxb Tryz.prog 9 2 [0, 1, 4] [] [4]) 7 [.tmp 4] Tryz.func108 rfl rfl rfl rfl rfl rfl (Nat.le_refl _) rfl ?_
  refine AWp.go [0, 1] [0, 1] fun K hK => ?_
  simp [hc, hd]
  first | refine hK _ _ ?_ | refine ⟨by omega, hK _ _ ?_⟩ | refine ⟨by omega, by omega, hK _ _ ?_⟩
  clear hK K
  refine AWp.go [4] [0, 1] fun K hK => ?_
  simp [hc, hd]
  refine call_proc [(0, 0), (1, 1)] none (c_IndexFunc2_Cel l g p cs ds hc hd hg hl) (by simp) (by simp) ?_
  simp [hc, hd]
  refine ⟨by have h1 := hc.still; have h2 := hd.still; simp at h1 h2; exact ⟨h1, h2⟩, hK _ _ ?_⟩
  clear hK K
  refine AWp.ret ?_
  rw [← idxI_ge]
  simp [hc, hd]
  intro id cs1 hid
  rw [hid]
  have hc1 : Calm cs1 := by
    split at hid
    · cases hid; exact hc
    · split at hid
      · cases hid; exact hd
      · cases hid
  exact ⟨AV.fitsL_refl _, by simpa using hc1.still⟩
set_option maxRecDepth 8000 in
theorem c_IndexFunc1_Cel (l : List Cel) (g : Nat) (p : Cel → Bool) (cs : List AV) (hc : Calm cs) (hg : ∀ n ∈ l, Proc Tryz.prog 1 g [.agg (celC n), .ptr 0 0] [(0, cs)] (.b (p n)) [(0, cs)]) (hl : l.length ≤ 1000000) : Proc Tryz.prog 1 138 [.sl .fro 2 (celsAV l), .fn g [] [.ptr 0 0]] [(0, cs)] (.i .i64 (idxI p l)) [(0, cs)] := by
  refine proc_of (cxb Tryz.prog 19 1 [0, 1, 4, 5, 7, 8, 9, 16] [] [4]) 17 [.tmp 4] Tryz.func138 rfl rfl rfl rfl rfl rfl (Nat.le_refl _) rfl ?_
  refine AWp.go [0, 1] [0] fun K hK => ?_
  simp [hc]
  first | refine hK _ _ ?_ | refine ⟨by omega, hK _ _ ?_⟩ | refine ⟨by omega, by omega, hK _ _ ?_⟩
  clear hK K
  refine AWp.seq ?_
  refine AWp.go [0, 1, 7, 8] [0] fun K hK => ?_
  simp [hc]
  first | refine hK _ _ ?_ | refine ⟨by omega, hK _ _ ?_⟩ | refine ⟨by omega, by omega, hK _ _ ?_⟩
  clear hK K
  refine AWp.block (AWp.while (fun i : Nat => [(0, .sl .fro 2 (celsAV l)), (1, .fn g [] [.ptr 0 0]), (7, .i .i64 l.length), (8, .i .i64 i)]) (fun i => [(0, cs)]) (fun i => i ≤ l.length ∧ ∀ k (hk : k < i) (hk2 : k < l.length), p l[k] = false) (fun i => l.length - i) [0, 1, 7, 8] [0] 0 (by simp) (by simp [hc]) ?_)
  rintro i ⟨hi, hall⟩
  refine AWp.go [0, 1, 7, 8, 9] [0] fun K hK => ?_
  simp [hc]
  first | refine hK _ _ ?_ | refine ⟨by omega, hK _ _ ?_⟩ | refine ⟨by omega, by omega, hK _ _ ?_⟩
  clear hK K
  refine AWp.seq ?_
  by_cases h : i < l.length
  · refine AWp.cond (t := true) (by first | (simp [h]; done) | (simp [h]; omega)) (fun _ => ?_) (by simp)
    refine AWp.skip ?_
    show AWp _ _ _ _
    refine AWp.seq ?_
    refine AWp.block ?_
    refine AWp.go [0, 1, 5, 7, 8] [0] fun K hK => ?_
    simp [hc]
    first | refine hK _ _ ?_ | refine ⟨by omega, hK _ _ ?_⟩ | refine ⟨by omega, by omega, hK _ _ ?_⟩
    clear hK K
    refine AWp.go [0, 1, 5, 7, 8, 16] [0] fun K hK => ?_
    simp [h, hc]
    refine call_proc [(0, 0)] none (hg l[i] (List.getElem_mem h)) (by simp [celC]) (by simp) ?_
    simp [h, hc]
    refine ⟨by simpa using hc.still, hK _ _ ?_⟩
    clear hK K
    cases hp : p l[i]
    · refine AWp.cond (t := false) (by simp) (by simp) (fun _ => ?_)
      refine AWp.skip ?_
      show AWp _ _ _ _
      refine AWp.goLast [0, 1, 7, 8] [0] fun K hK => ?_
      simp [hc]
      first | refine hK _ _ ?_ | refine ⟨by omega, hK _ _ ?_⟩ | refine ⟨by omega, by omega, hK _ _ ?_⟩
      clear hK K
      refine ⟨i + 1, ⟨by omega, fun k hk hk2 => ?_⟩, by omega, ?_⟩
      · by_cases hki : k = i
        · subst hki; exact hp
        · exact hall k (by omega) hk2
      · simp [hc]
        exact wrap64 (by omega) (by omega)
    · refine AWp.cond (t := true) (by simp) (fun _ => ?_) (by simp)
      refine AWp.go [4] [0] fun K hK => ?_
      simp [hc]
      first | refine hK _ _ ?_ | refine ⟨by omega, hK _ _ ?_⟩ | refine ⟨by omega, by omega, hK _ _ ?_⟩
      clear hK K
      refine AWp.ret ?_
      rw [idxI_at p l i h (fun k hk => hall k hk (by omega)) hp]
      simp [hc]
      simpa using hc.still
  · refine AWp.cond (t := false) (by first | (simp [h]; done) | (simp [h]; omega)) (by simp) (fun _ => ?_)
    refine AWp.exit ?_
    show AWp _ _ _ _
    refine AWp.go [4] [0] fun K hK => ?_
    simp [hc]
    first | refine hK _ _ ?_ | refine ⟨by omega, hK _ _ ?_⟩ | refine ⟨by omega, by omega, hK _ _ ?_⟩
    clear hK K
    refine AWp.ret ?_
    rw [idxI_none p l fun k hk => hall k (by omega) hk]
    simp [hc]
    simpa using hc.still

theorem c_ContainsFunc1_Cel (l : List Cel) (g : Nat) (p : Cel → Bool) (cs : List AV) (hc : Calm cs) (hg : ∀ n ∈ l, Proc Tryz.prog 1 g [.agg (celC n), .ptr 0 0] [(0, cs)] (.b (p n)) [(0, cs)]) (hl : l.length ≤ 1000000) : Proc Tryz.prog 1 108 [.sl .fro 2 (celsAV l), .fn g [] [.ptr 0 0]] [(0, cs)] (.b (l.any p)) [(0, cs)] := by
  refine proc_of (cxb Tryz.prog 9 1 [0, 1, 4] [] [4]) 7 [.tmp 4] Tryz.func108 rfl rfl rfl rfl rfl rfl (Nat.le_refl _) rfl ?_
  refine AWp.go [0, 1] [0] fun K hK => ?_
  simp [hc]
  first | refine hK _ _ ?_ | refine ⟨by omega, hK _ _ ?_⟩ | refine ⟨by omega, by omega, hK _ _ ?_⟩
  clear hK K
  refine AWp.go [4] [0] fun K hK => ?_
  simp [hc]
  refine call_proc [(0, 0)] none (c_IndexFunc1_Cel l g p cs hc hg hl) (by simp) (by simp) ?_
  simp [hc]
  refine ⟨by simpa using hc.still, hK _ _ ?_⟩
  clear hK K
  refine AWp.ret ?_
  rw [← idxI_ge]
  simp [hc]
  simpa using hc.still
theorem inN_nat {n : Int} {m : Nat} (h : inN n m = true) : ∃ k : Nat, n = k ∧ k < m := by
  simp only [inN, Bool.and_eq_true, decide_eq_true_eq] at h
  exact ⟨n.toNat, by omega, by omega⟩
def setOf (s : Sta) (n : Int) : List ByteArray := s.sets.getD n.toNat []
def countOf (s : Sta) (n : Int) : List Cel := s.counts.getD n.toNat []
theorem setOf_at (s : Sta) (m : Nat) (h : m < s.sets.length) : setOf s m = s.sets[m] := by simp [setOf, h]
theorem countOf_at (s : Sta) (m : Nat) (h : m < s.counts.length) : countOf s m = s.counts[m] := by simp [countOf, h]
def Fit (s : Sta) (c : Cl) : Prop := (c.kind = 4 ∨ c.kind = 5 ∨ c.kind = 6 → inN c.a s.sets.length = true) ∧ (¬ (c.kind = 4 ∨ c.kind = 5 ∨ c.kind = 6) → inN c.a s.counts.length = true) ∧ (¬ (c.kind = 6 ∨ c.kind = 7 ∨ c.kind = 8) → inN c.b s.sets.length = true)
set_option maxRecDepth 8000 in
theorem c_eval_holds1 (s : Sta) (hs : SlightS s) (c : Cl) (hb : inN c.b s.sets.length = true) (k : ByteArray) : Proc Tryz.prog 2 105 [.s k, .ptr 0 0, .ptr 1 0] [(0, [.sl .fro 1 (rowsS s.sets), .sl .fro 1 (rowsK s.counts)]), (1, [.i .i64 c.kind, .b c.strict, .i .i64 c.a, .i .i64 c.b, .i .i64 c.num])] (.b (!thereS (setOf s c.b) k)) [(0, [.sl .fro 1 (rowsS s.sets), .sl .fro 1 (rowsK s.counts)]), (1, [.i .i64 c.kind, .b c.strict, .i .i64 c.a, .i .i64 c.b, .i .i64 c.num])] := by
  obtain ⟨m, hm, hl⟩ := inN_nat hb
  have hn := hs.2.2.1 _ (List.getElem_mem hl)
  rw [hm, setOf_at s m hl]
  refine proc_of (cxb Tryz.prog 14 2 [0, 1, 2, 4] [] [4]) 11 [.tmp 4] Tryz.func105 rfl rfl rfl rfl rfl rfl (Nat.le_refl _) rfl ?_
  refine AWp.go [0, 1, 2] [0, 1] fun K hK => ?_
  simp
  first | refine hK _ _ ?_ | refine ⟨by omega, hK _ _ ?_⟩ | refine ⟨by omega, by omega, hK _ _ ?_⟩
  clear hK K
  refine AWp.go [4] [0, 1] fun K hK => ?_
  simp [hm, hl]
  refine call_pure (c_eval_in s.sets[m] k (by omega)) (by simp) ?_
  simp [hm, hl]
  first | refine hK _ _ ?_ | refine ⟨by omega, hK _ _ ?_⟩ | refine ⟨by omega, by omega, hK _ _ ?_⟩
  clear hK K
  refine AWp.ret ?_
  simp
  intro id cs1 hid
  rw [hid]
  split at hid
  · cases hid; exact ⟨AV.fitsL_refl _, by simp⟩
  · split at hid
    · cases hid; exact ⟨AV.fitsL_refl _, by simp⟩
    · cases hid
set_option maxRecDepth 8000 in
theorem c_eval_holds2 (s : Sta) (hs : SlightS s) (c : Cl) (hb : inN c.b s.sets.length = true) (k : ByteArray) : Proc Tryz.prog 2 107 [.s k, .ptr 0 0, .ptr 1 0] [(0, [.sl .fro 1 (rowsS s.sets), .sl .fro 1 (rowsK s.counts)]), (1, [.i .i64 c.kind, .b c.strict, .i .i64 c.a, .i .i64 c.b, .i .i64 c.num])] (.b (thereS (setOf s c.b) k)) [(0, [.sl .fro 1 (rowsS s.sets), .sl .fro 1 (rowsK s.counts)]), (1, [.i .i64 c.kind, .b c.strict, .i .i64 c.a, .i .i64 c.b, .i .i64 c.num])] := by
  obtain ⟨m, hm, hl⟩ := inN_nat hb
  have hn := hs.2.2.1 _ (List.getElem_mem hl)
  rw [hm, setOf_at s m hl]
  refine proc_of (cxb Tryz.prog 13 2 [0, 1, 2, 4] [] [4]) 10 [.tmp 4] Tryz.func107 rfl rfl rfl rfl rfl rfl (Nat.le_refl _) rfl ?_
  refine AWp.go [0, 1, 2] [0, 1] fun K hK => ?_
  simp
  first | refine hK _ _ ?_ | refine ⟨by omega, hK _ _ ?_⟩ | refine ⟨by omega, by omega, hK _ _ ?_⟩
  clear hK K
  refine AWp.go [4] [0, 1] fun K hK => ?_
  simp [hm, hl]
  refine call_pure (c_eval_in s.sets[m] k (by omega)) (by simp) ?_
  simp [hm, hl]
  first | refine hK _ _ ?_ | refine ⟨by omega, hK _ _ ?_⟩ | refine ⟨by omega, by omega, hK _ _ ?_⟩
  clear hK K
  refine AWp.ret ?_
  simp
  intro id cs1 hid
  rw [hid]
  split at hid
  · cases hid; exact ⟨AV.fitsL_refl _, by simp⟩
  · split at hid
    · cases hid; exact ⟨AV.fitsL_refl _, by simp⟩
    · cases hid
set_option maxRecDepth 8000 in
theorem c_eval_holds3 (c : Cl) (x : Cel) : Proc Tryz.prog 1 109 [.agg (celC x), .ptr 0 0] [(0, [.i .i64 c.kind, .b c.strict, .i .i64 c.a, .i .i64 c.b, .i .i64 c.num])] (.b (decide (c.num < x.num))) [(0, [.i .i64 c.kind, .b c.strict, .i .i64 c.a, .i .i64 c.b, .i .i64 c.num])] := by
  refine proc_of (cxb Tryz.prog 9 1 [1, 2, 3] [] [3]) 7 [.tmp 3] Tryz.func109 rfl rfl rfl rfl rfl rfl (Nat.le_refl _) rfl ?_
  refine AWp.go [1, 2] [0, 3] fun K hK => ?_
  simp [celC]
  first | refine hK _ _ ?_ | refine ⟨by omega, hK _ _ ?_⟩ | refine ⟨by omega, by omega, hK _ _ ?_⟩
  clear hK K
  refine AWp.go [3] [0] fun K hK => ?_
  simp
  first | refine hK _ _ ?_ | refine ⟨by omega, hK _ _ ?_⟩ | refine ⟨by omega, by omega, hK _ _ ?_⟩
  clear hK K
  refine AWp.ret ?_
  simp
set_option maxRecDepth 8000 in
theorem c_eval_holds4 (c : Cl) (x : Cel) : Proc Tryz.prog 1 110 [.agg (celC x), .ptr 0 0] [(0, [.i .i64 c.kind, .b c.strict, .i .i64 c.a, .i .i64 c.b, .i .i64 c.num])] (.b (decide (x.num < c.num))) [(0, [.i .i64 c.kind, .b c.strict, .i .i64 c.a, .i .i64 c.b, .i .i64 c.num])] := by
  refine proc_of (cxb Tryz.prog 9 1 [1, 2, 3] [] [3]) 7 [.tmp 3] Tryz.func110 rfl rfl rfl rfl rfl rfl (Nat.le_refl _) rfl ?_
  refine AWp.go [1, 2] [0, 3] fun K hK => ?_
  simp [celC]
  first | refine hK _ _ ?_ | refine ⟨by omega, hK _ _ ?_⟩ | refine ⟨by omega, by omega, hK _ _ ?_⟩
  clear hK K
  refine AWp.go [3] [0] fun K hK => ?_
  simp
  first | refine hK _ _ ?_ | refine ⟨by omega, hK _ _ ?_⟩ | refine ⟨by omega, by omega, hK _ _ ?_⟩
  clear hK K
  refine AWp.ret ?_
  simp
set_option maxRecDepth 8000 in
set_option maxHeartbeats 2000000 in
theorem c_eval_holds5 (s : Sta) (hs : SlightS s) (c : Cl) (hb : inN c.b s.sets.length = true) (x : Cel) : Proc Tryz.prog 2 111 [.agg (celC x), .ptr 0 0, .ptr 1 0] [(0, [.sl .fro 1 (rowsS s.sets), .sl .fro 1 (rowsK s.counts)]), (1, [.i .i64 c.kind, .b c.strict, .i .i64 c.a, .i .i64 c.b, .i .i64 c.num])] (.b (decide (0 < x.num) && !thereS (setOf s c.b) x.key)) [(0, [.sl .fro 1 (rowsS s.sets), .sl .fro 1 (rowsK s.counts)]), (1, [.i .i64 c.kind, .b c.strict, .i .i64 c.a, .i .i64 c.b, .i .i64 c.num])] := by
  obtain ⟨m, hm, hl⟩ := inN_nat hb
  have hn := hs.2.2.1 _ (List.getElem_mem hl)
  rw [hm, setOf_at s m hl]
  have hg := c_eval_in s.sets[m] x.key (by omega)
  refine proc_of (cxb Tryz.prog 20 2 [1, 2, 3, 4] [] [4]) 17 [.tmp 4] Tryz.func111 rfl rfl rfl rfl rfl rfl (Nat.le_refl _) rfl ?_
  refine AWp.go [1, 2, 3] [0, 1, 5] fun K hK => ?_
  simp [celC]
  first | refine hK _ _ ?_ | refine ⟨by omega, hK _ _ ?_⟩ | refine ⟨by omega, by omega, hK _ _ ?_⟩
  clear hK K
  refine AWp.stepD 16 (fun k => if k = 12 then .b (thereS s.sets[m] x.key) else .any) [4] [0, 1] [(4, .b (decide (0 < x.num) && !thereS s.sets[m] x.key))] [(0, [.sl .fro 1 (rowsS s.sets), .sl .fro 1 (rowsK s.counts)]), (1, [.i .i64 c.kind, .b c.strict, .i .i64 c.a, .i .i64 c.b, .i .i64 c.num])] mix (by kernel_rfl) ?_ ?_
  · by_cases q : 0 < x.num <;> simp [q, hm, hl, hg]
  refine AWp.ret ?_
  simp [hm]
  intro id cs1 hid
  rw [hid]
  split at hid
  · cases hid; exact ⟨AV.fitsL_refl _, by simp⟩
  · split at hid
    · cases hid; exact ⟨AV.fitsL_refl _, by simp⟩
    · cases hid
end Go.AM
namespace Go.AM
open Go.Proofs
def holdsP (s : Sta) (c : Cl) : Bool :=
  if c.kind = 4 then !(setOf s c.a).any (fun k => !thereS (setOf s c.b) k)
  else if c.kind = 5 then !(setOf s c.a).any (fun k => thereS (setOf s c.b) k)
  else if c.kind = 6 then decide (((setOf s c.a).length : Int) ≤ c.num)
  else if c.kind = 7 then !(countOf s c.a).any (fun x => decide (c.num < x.num))
  else if c.kind = 8 then !(countOf s c.a).any (fun x => decide (x.num < c.num))
  else !(countOf s c.a).any (fun x => decide (0 < x.num) && !thereS (setOf s c.b) x.key)
theorem calm_sta (s : Sta) : Calm [.sl .fro 1 (rowsS s.sets), .sl .fro 1 (rowsK s.counts)] := fun c hc => by
  simp at hc; rcases hc with rfl | rfl <;> rfl
theorem calm_cl (c : Cl) : Calm [.i .i64 c.kind, .b c.strict, .i .i64 c.a, .i .i64 c.b, .i .i64 c.num] := fun x hx => by
  simp at hx; rcases hx with rfl | rfl | rfl | rfl | rfl <;> rfl
set_option maxRecDepth 8000 in
set_option maxHeartbeats 8000000 in
theorem c_eval_holds (s : Sta) (hs : SlightS s) (c : Cl) (hf : Fit s c) : Pure Tryz.prog 54 [.agg (staC s), .agg (clC c)] (.b (holdsP s c)) := by
  obtain ⟨f1, f2, f3⟩ := hf
  have hs0 := hs
  obtain ⟨k1, k2, k3, k4⟩ := hs
  refine proc_of (cx Tryz.prog 72 [2, 3, 4, 6, 7, 18, 29, 41, 52] [4]) 70 [.tmp 4] Tryz.func54 rfl rfl rfl rfl rfl rfl (Nat.le_refl _) rfl ?_
  refine AWp.go [2, 3] [2, 3] fun K hK => ?_
  simp [staC, clC]
  first | refine hK _ _ ?_ | refine ⟨by omega, hK _ _ ?_⟩ | refine ⟨by omega, by omega, hK _ _ ?_⟩
  clear hK K
  refine AWp.seq ?_
  refine AWp.go [2, 3, 6] [2, 3] fun K hK => ?_
  simp
  first | refine hK _ _ ?_ | refine ⟨by omega, hK _ _ ?_⟩ | refine ⟨by omega, by omega, hK _ _ ?_⟩
  clear hK K
  refine AWp.block ?_
  refine AWp.go [2, 3, 6, 7] [2, 3] fun K hK => ?_
  simp
  first | refine hK _ _ ?_ | refine ⟨by omega, hK _ _ ?_⟩ | refine ⟨by omega, by omega, hK _ _ ?_⟩
  clear hK K
  by_cases q4 : c.kind = 4
  · refine AWp.cond (t := true) (by first | (simp [q4]; done) | (simp [q4]; omega)) (fun _ => ?_) (by simp)
    obtain ⟨m, hm, hl⟩ := inN_nat (f1 (by simp [q4]))
    have hg := c_ContainsFunc2_Str s.sets[m] 105 (fun k => !thereS (setOf s c.b) k) _ _ (calm_sta s) (calm_cl c) (fun k _ => c_eval_holds1 s hs0 c (f3 (by simp [q4])) k) (by have := k3 _ (List.getElem_mem hl); omega)
    rw [hm, q4] at hg
    refine AWp.go [4] [2, 3] fun K hK => ?_
    simp [hm, hl, q4]
    refine call_proc [(0, 2), (1, 3)] none hg (by simp) (by simp [hm, q4]) ?_
    simp [hm, hl, q4]
    first | refine hK _ _ ?_ | refine ⟨by omega, hK _ _ ?_⟩ | refine ⟨by omega, by omega, hK _ _ ?_⟩
    clear hK K
    refine AWp.ret ?_
    simp [holdsP, q4, hm, setOf_at s m hl]
  · refine AWp.cond (t := false) (by first | (simp [q4]; done) | (simp [q4]; omega)) (by simp) (fun _ => ?_)
    refine AWp.go [2, 3, 6, 18] [2, 3] fun K hK => ?_
    simp
    first | refine hK _ _ ?_ | refine ⟨by omega, hK _ _ ?_⟩ | refine ⟨by omega, by omega, hK _ _ ?_⟩
    clear hK K
    by_cases q5 : c.kind = 5
    · refine AWp.cond (t := true) (by first | (simp [q5]; done) | (simp [q5]; omega)) (fun _ => ?_) (by simp)
      obtain ⟨m, hm, hl⟩ := inN_nat (f1 (by simp [q5]))
      have hg := c_ContainsFunc2_Str s.sets[m] 107 (fun k => thereS (setOf s c.b) k) _ _ (calm_sta s) (calm_cl c) (fun k _ => c_eval_holds2 s hs0 c (f3 (by simp [q5])) k) (by have := k3 _ (List.getElem_mem hl); omega)
      rw [hm, q5] at hg
      refine AWp.go [4] [2, 3] fun K hK => ?_
      simp [hm, hl, q5]
      refine call_proc [(0, 2), (1, 3)] none hg (by simp) (by simp [hm, q5]) ?_
      simp [hm, hl, q5]
      first | refine hK _ _ ?_ | refine ⟨by omega, hK _ _ ?_⟩ | refine ⟨by omega, by omega, hK _ _ ?_⟩
      clear hK K
      refine AWp.ret ?_
      simp [holdsP, q4, q5, hm, setOf_at s m hl]
    · refine AWp.cond (t := false) (by first | (simp [q5]; done) | (simp [q5]; omega)) (by simp) (fun _ => ?_)
      refine AWp.go [2, 3, 6, 29] [2, 3] fun K hK => ?_
      simp
      first | refine hK _ _ ?_ | refine ⟨by omega, hK _ _ ?_⟩ | refine ⟨by omega, by omega, hK _ _ ?_⟩
      clear hK K
      by_cases q6 : c.kind = 6
      · refine AWp.cond (t := true) (by first | (simp [q6]; done) | (simp [q6]; omega)) (fun _ => ?_) (by simp)
        obtain ⟨m, hm, hl⟩ := inN_nat (f1 (by simp [q6]))
        refine AWp.goD 11 (fun _ => .any) [4] [2, 3] mix (by kernel_rfl) fun K hK => ?_
        simp [hm, hl]
        first | refine hK _ _ ?_ | refine ⟨by omega, hK _ _ ?_⟩ | refine ⟨by omega, by omega, hK _ _ ?_⟩
        clear hK K
        refine AWp.ret ?_
        simp [holdsP, q4, q5, q6, hm, setOf_at s m hl]
      · refine AWp.cond (t := false) (by first | (simp [q6]; done) | (simp [q6]; omega)) (by simp) (fun _ => ?_)
        refine AWp.go [2, 3, 6, 41] [2, 3] fun K hK => ?_
        simp
        first | refine hK _ _ ?_ | refine ⟨by omega, hK _ _ ?_⟩ | refine ⟨by omega, by omega, hK _ _ ?_⟩
        clear hK K
        by_cases q7 : c.kind = 7
        · refine AWp.cond (t := true) (by first | (simp [q7]; done) | (simp [q7]; omega)) (fun _ => ?_) (by simp)
          obtain ⟨m, hm, hl⟩ := inN_nat (f2 (by simp [q7]))
          have hg := c_ContainsFunc1_Cel s.counts[m] 109 (fun x => decide (c.num < x.num)) _ (calm_cl c) (fun x _ => c_eval_holds3 c x) (by have := k4 _ (List.getElem_mem hl); omega)
          rw [hm, q7] at hg
          refine AWp.go [4] [2, 3] fun K hK => ?_
          simp [hm, hl, q7]
          refine call_proc [(0, 3)] none hg (by simp) (by simp [hm, q7]) ?_
          simp [hm, hl, q7]
          first | refine hK _ _ ?_ | refine ⟨by omega, hK _ _ ?_⟩ | refine ⟨by omega, by omega, hK _ _ ?_⟩
          clear hK K
          refine AWp.ret ?_
          simp [holdsP, q4, q5, q6, q7, hm, countOf_at s m hl]
        · refine AWp.cond (t := false) (by first | (simp [q7]; done) | (simp [q7]; omega)) (by simp) (fun _ => ?_)
          refine AWp.go [2, 3, 52] [2, 3] fun K hK => ?_
          simp
          first | refine hK _ _ ?_ | refine ⟨by omega, hK _ _ ?_⟩ | refine ⟨by omega, by omega, hK _ _ ?_⟩
          clear hK K
          by_cases q8 : c.kind = 8
          · refine AWp.cond (t := true) (by first | (simp [q8]; done) | (simp [q8]; omega)) (fun _ => ?_) (by simp)
            obtain ⟨m, hm, hl⟩ := inN_nat (f2 (by simp [q8]))
            have hg := c_ContainsFunc1_Cel s.counts[m] 110 (fun x => decide (x.num < c.num)) _ (calm_cl c) (fun x _ => c_eval_holds4 c x) (by have := k4 _ (List.getElem_mem hl); omega)
            rw [hm, q8] at hg
            refine AWp.go [4] [2, 3] fun K hK => ?_
            simp [hm, hl, q8]
            refine call_proc [(0, 3)] none hg (by simp) (by simp [hm, q8]) ?_
            simp [hm, hl, q8]
            first | refine hK _ _ ?_ | refine ⟨by omega, hK _ _ ?_⟩ | refine ⟨by omega, by omega, hK _ _ ?_⟩
            clear hK K
            refine AWp.ret ?_
            simp [holdsP, q4, q5, q6, q7, q8, hm, countOf_at s m hl]
          · refine AWp.cond (t := false) (by first | (simp [q8]; done) | (simp [q8]; omega)) (by simp) (fun _ => ?_)
            refine AWp.skip ?_
            show AWp _ _ _ _
            obtain ⟨m, hm, hl⟩ := inN_nat (f2 (by simp [q4, q5, q6]))
            have hg := c_ContainsFunc2_Cel s.counts[m] 111 (fun x => decide (0 < x.num) && !thereS (setOf s c.b) x.key) _ _ (calm_sta s) (calm_cl c) (fun x _ => c_eval_holds5 s hs0 c (f3 (by simp [q6, q7, q8])) x) (by have := k4 _ (List.getElem_mem hl); omega)
            rw [hm] at hg
            refine AWp.go [4] [2, 3] fun K hK => ?_
            simp [hm, hl]
            refine call_proc [(0, 2), (1, 3)] none hg (by simp) (by simp [hm]) ?_
            simp [hm, hl]
            first | refine hK _ _ ?_ | refine ⟨by omega, hK _ _ ?_⟩ | refine ⟨by omega, by omega, hK _ _ ?_⟩
            clear hK K
            refine AWp.ret ?_
            simp [holdsP, q4, q5, q6, q7, q8, hm, countOf_at s m hl]
end Go.AM
namespace Go.AM
open Go.Proofs
def okB (r : Rul) (s : Sta) : Bool := rulesB r && stateB r s
theorem fit_of {r : Rul} {s : Sta} {c : Cl} (hc : clB r c = true) (hs : stateB r s = true) : Fit s c := by
  simp only [stateB, Bool.and_eq_true, decide_eq_true_eq] at hs
  obtain ⟨⟨⟨h1, h2⟩, -⟩, -⟩ := hs
  have e1 : s.sets.length = r.sets.length := by omega
  have e2 : s.counts.length = r.counts.length := by omega
  unfold Fit
  rw [e1, e2]
  unfold clB at hc
  split at hc
  · rename_i q
    simp only [Bool.and_eq_true] at hc
    exact ⟨fun _ => hc.1.1.1, fun h => absurd q (by omega), fun _ => hc.1.1.2⟩
  · split at hc
    · simp only [Bool.and_eq_true] at hc
      exact ⟨fun h => absurd h (by omega), fun _ => hc.1.1, fun _ => hc.1.2⟩
    · split at hc
      · simp only [Bool.and_eq_true] at hc
        exact ⟨fun _ => hc.1.1.1, fun h => absurd h (by omega), fun h => absurd h (by omega)⟩
      · split at hc
        · simp only [Bool.and_eq_true] at hc
          exact ⟨fun h => absurd h (by omega), fun _ => hc.1.1.1, fun h => absurd h (by omega)⟩
        · split at hc
          · simp only [Bool.and_eq_true] at hc
            exact ⟨fun h => absurd h (by omega), fun _ => hc.1.1.1, fun h => absurd h (by omega)⟩
          · cases hc
theorem okB_fit {r : Rul} {s : Sta} (h : okB r s = true) (i : Nat) (hi : i < r.cls.length) : Fit s r.cls[i] := by
  simp only [okB, rulesB, Bool.and_eq_true] at h
  exact fit_of (List.all_eq_true.1 h.1.1.2 _ (List.getElem_mem hi)) h.2
def holdsAt (r : Rul) (s : Sta) (i : Nat) : Bool := match r.cls[i]? with
  | some c => holdsP s c
  | none => false
def heldP (r : Rul) (s : Sta) (n : Int) : Bool := okB r s && (decide (0 ≤ n) && holdsAt r s n.toNat)
set_option maxRecDepth 8000 in
set_option maxHeartbeats 8000000 in
theorem c_eval_Holds (r : Rul) (s : Sta) (hr : Slim r) (hs : SlightS s) (n : Int) : Pure Tryz.prog 26 [.agg (rulC r), .agg (staC s), .i .i64 n] (.b (heldP r s n)) := by
  have gc := c_eval_Check r s hr hs
  have gh : okB r s = true → ∀ i (hi : i < r.cls.length), _ := fun h i hi => c_eval_holds s hs r.cls[i] (okB_fit h i hi)
  simp [rulC, staC, clC] at gc gh
  refine proc_of (cx Tryz.prog 31 [2, 3, 4, 6] [6]) 28 [.tmp 6] Tryz.func26 rfl rfl rfl rfl rfl rfl (Nat.le_refl _) rfl ?_
  refine AWp.go [2, 3, 4] [3, 4] fun K hK => ?_
  simp [rulC, staC]
  first | refine hK _ _ ?_ | refine ⟨by omega, hK _ _ ?_⟩ | refine ⟨by omega, by omega, hK _ _ ?_⟩
  clear hK K
  refine AWp.stepD 25 (fun k => if k = 2 then .i .i64 (if okB r s then 0 else 1) else if k = 22 then .b (holdsAt r s n.toNat) else .any) [6] [3, 4] [(6, .b (heldP r s n))] [(3, [.sl .fro 1 (strsAV r.sets), .sl .fro 1 (strsAV r.counts), .sl .fro 1 (strsAV r.notes), .sl .fro 5 (clsAV r.cls), .sl .fro 2 (opnsAV r.opers)]), (4, [.sl .fro 1 (rowsS s.sets), .sl .fro 1 (rowsK s.counts)])] mix (by kernel_rfl) ?_ ?_
  · cases q0 : okB r s
    · have q0' := q0
      simp only [okB, Bool.and_eq_false_iff] at q0'
      have e : (rulesB r = true ∧ stateB r s = true) = False := by
        rw [eq_iff_iff, iff_false]; rintro ⟨h1, h2⟩; rw [h1, h2] at q0'; simp at q0'
      simp [heldP, q0, e] at gc ⊢
      exact gc
    have q0' := q0
    simp only [okB, Bool.and_eq_true] at q0'
    simp [q0'.1, q0'.2] at gc
    by_cases q1 : 0 ≤ n
    · obtain ⟨m, rfl⟩ : ∃ m : Nat, n = m := ⟨n.toNat, by omega⟩
      by_cases q2 : m < r.cls.length
      · have g := gh q0 m q2
        simp [heldP, q0, q2, holdsAt, gc, g]
      · simp [heldP, q0, q2, holdsAt, gc]
    · simp [heldP, q0, q1, gc]
  refine AWp.ret ?_
  simp
def brokenTo (p : Nat → Bool) (n : Nat) : List Int := ((List.range n).filter fun i => !p i).map Int.ofNat
theorem brokenTo_succ (p : Nat → Bool) (n : Nat) : brokenTo p (n + 1) = if p n then brokenTo p n else brokenTo p n ++ [(n : Int)] := by
  unfold brokenTo
  rw [List.range_succ, List.filter_append, List.map_append]
  cases h : p n <;> simp [List.filter, h]
theorem brokenTo_len (p : Nat → Bool) (n : Nat) : (brokenTo p n).length ≤ n := by
  unfold brokenTo
  rw [List.length_map]
  exact Nat.le_trans (List.length_filter_le _ _) (by simp)
def brokenP (r : Rul) (s : Sta) : List Int := if okB r s then brokenTo (holdsAt r s) r.cls.length else []
@[simp] theorem intsAV_one (a : Int) : intsAV [a] = [[.i .i64 a]] := rfl
set_option maxRecDepth 8000 in
set_option maxHeartbeats 8000000 in
theorem c_eval_Broken (r : Rul) (s : Sta) (hr : Slim r) (hs : SlightS s) : Pure Tryz.prog 23 [.agg (rulC r), .agg (staC s)] (.sl .own 1 (intsAV (brokenP r s))) := by
  have gc := c_eval_Check r s hr hs
  have gh : okB r s = true → ∀ i (hi : i < r.cls.length), _ := fun h i hi => c_eval_holds s hs r.cls[i] (okB_fit h i hi)
  have hcl : r.cls.length ≤ 1000 := by have := hr.1.2.2.2.1; omega
  simp [rulC, staC, clC] at gc gh
  refine proc_of (cx Tryz.prog 30 [2, 3, 4, 5, 6, 7, 11, 13, 14, 15, 16, 23] [4]) 28 [.tmp 4] Tryz.func23 rfl rfl rfl rfl rfl rfl (Nat.le_refl _) rfl ?_
  refine AWp.go [2, 3] [2, 3] fun K hK => ?_
  simp [rulC, staC]
  first | refine hK _ _ ?_ | refine ⟨by omega, hK _ _ ?_⟩ | refine ⟨by omega, by omega, hK _ _ ?_⟩
  clear hK K
  refine AWp.go [2, 3, 5] [2, 3] fun K hK => ?_
  simp
  first | refine hK _ _ ?_ | refine ⟨by omega, hK _ _ ?_⟩ | refine ⟨by omega, by omega, hK _ _ ?_⟩
  clear hK K
  refine AWp.seq ?_
  refine AWp.step [2, 3, 5, 11] [2, 3] [(2, .ptr 2 0), (3, .ptr 3 0), (5, .sl .nl 1 []), (11, .b (!okB r s))] [(2, [.sl .fro 1 (strsAV r.sets), .sl .fro 1 (strsAV r.counts), .sl .fro 1 (strsAV r.notes), .sl .fro 5 (clsAV r.cls), .sl .fro 2 (opnsAV r.opers)]), (3, [.sl .fro 1 (rowsS s.sets), .sl .fro 1 (rowsK s.counts)])] ?_ ?_
  · simp
    refine call_pure gc (by simp) ?_
    cases q1 : rulesB r <;> cases q2 : stateB r s <;> simp [okB, q1, q2]
  cases q0 : okB r s
  · refine AWp.cond (t := true) (by simp) (fun _ => ?_) (by simp)
    refine AWp.go [4] [] fun K hK => ?_
    simp
    first | refine hK _ _ ?_ | refine ⟨by omega, hK _ _ ?_⟩ | refine ⟨by omega, by omega, hK _ _ ?_⟩
    clear hK K
    refine AWp.ret ?_
    simp [brokenP, q0]
  · refine AWp.cond (t := false) (by simp) (by simp) (fun _ => ?_)
    refine AWp.skip ?_
    show AWp _ _ _ _
    refine AWp.seq ?_
    refine AWp.go [3, 5, 13, 14, 15] [3] fun K hK => ?_
    simp
    first | refine hK _ _ ?_ | refine ⟨by omega, hK _ _ ?_⟩ | refine ⟨by omega, by omega, hK _ _ ?_⟩
    clear hK K
    refine AWp.block (AWp.while (fun i : Nat => [(3, .ptr 3 0), (5, .sl .own 1 (intsAV (brokenTo (holdsAt r s) i))), (13, .sl .fro 5 (clsAV r.cls)), (14, .i .i64 r.cls.length), (15, .i .i64 i)]) (fun i => [(3, [.sl .fro 1 (rowsS s.sets), .sl .fro 1 (rowsK s.counts)])]) (fun i => i ≤ r.cls.length) (fun i => r.cls.length - i) [3, 5, 13, 14, 15] [3] 0 (by simp) (by simp [brokenTo]) ?_)
    intro i hi
    refine AWp.go [3, 5, 13, 14, 15, 16] [3] fun K hK => ?_
    simp
    first | refine hK _ _ ?_ | refine ⟨by omega, hK _ _ ?_⟩ | refine ⟨by omega, by omega, hK _ _ ?_⟩
    clear hK K
    refine AWp.seq ?_
    by_cases h : i < r.cls.length
    · refine AWp.cond (t := true) (by first | (simp [h]; done) | (simp [h]; omega)) (fun _ => ?_) (by simp)
      refine AWp.skip ?_
      show AWp _ _ _ _
      refine AWp.seq ?_
      refine AWp.block ?_
      refine AWp.go [3, 5, 6, 7, 13, 14, 15] [3, 7] fun K hK => ?_
      simp [h]
      first | refine hK _ _ ?_ | refine ⟨by omega, hK _ _ ?_⟩ | refine ⟨by omega, by omega, hK _ _ ?_⟩
      clear hK K
      have hg := gh q0 i h
      have hA : holdsAt r s i = holdsP s r.cls[i] := by simp [holdsAt, h]
      have hbl := brokenTo_len (holdsAt r s) i
      refine AWp.go [3, 5, 6, 13, 14, 15, 23] [3] fun K hK => ?_
      simp
      refine call_pure hg (by simp) ?_
      simp
      first | refine hK _ _ ?_ | refine ⟨by omega, hK _ _ ?_⟩ | refine ⟨by omega, by omega, hK _ _ ?_⟩
      clear hK K
      cases hp : holdsP s r.cls[i]
      · refine AWp.cond (t := true) (by simp) (fun _ => ?_) (by simp)
        refine AWp.last [3, 5, 13, 14, 15] [3] [(3, .ptr 3 0), (5, .sl .own 1 (intsAV (brokenTo (holdsAt r s) (i + 1)))), (13, .sl .fro 5 (clsAV r.cls)), (14, .i .i64 r.cls.length), (15, .i .i64 i)] [(3, [.sl .fro 1 (rowsS s.sets), .sl .fro 1 (rowsK s.counts)])] ?_ ?_
        · have e : brokenTo (holdsAt r s) (i + 1) = brokenTo (holdsAt r s) i ++ [(i : Int)] := by rw [brokenTo_succ, hA, hp]; simp
          simp [e]
          omega
        show AWp _ _ _ _
        refine AWp.goLast [3, 5, 13, 14, 15] [3] fun K hK => ?_
        simp
        first | refine hK _ _ ?_ | refine ⟨by omega, hK _ _ ?_⟩ | refine ⟨by omega, by omega, hK _ _ ?_⟩
        clear hK K
        refine ⟨i + 1, by omega, by omega, ?_⟩
        simp
        exact wrap64 (by omega) (by omega)
      · refine AWp.cond (t := false) (by simp) (by simp) (fun _ => ?_)
        refine AWp.skip ?_
        show AWp _ _ _ _
        refine AWp.goLast [3, 5, 13, 14, 15] [3] fun K hK => ?_
        simp
        first | refine hK _ _ ?_ | refine ⟨by omega, hK _ _ ?_⟩ | refine ⟨by omega, by omega, hK _ _ ?_⟩
        clear hK K
        refine ⟨i + 1, by omega, by omega, ?_⟩
        rw [brokenTo_succ, hA, hp]
        simp
        exact wrap64 (by omega) (by omega)
    · refine AWp.cond (t := false) (by first | (simp [h]; done) | (simp [h]; omega)) (by simp) (fun _ => ?_)
      refine AWp.exit ?_
      show AWp _ _ _ _
      obtain rfl : i = r.cls.length := by omega
      refine AWp.go [4] [] fun K hK => ?_
      simp
      first | refine hK _ _ ?_ | refine ⟨by omega, hK _ _ ?_⟩ | refine ⟨by omega, by omega, hK _ _ ?_⟩
      clear hK K
      refine AWp.ret ?_
      simp [brokenP, q0]
end Go.AM
namespace Go.AM
open Go.Proofs
def addK (l : List ByteArray) (k : ByteArray) : List ByteArray := if hasS l k then l else l ++ [k]
def addsK (l ks : List ByteArray) : List ByteArray := ks.foldl addK l
def setKeys (s : Sta) : List ByteArray := s.sets.flatten
def celKeys (l : List Cel) : List ByteArray := l.map Cel.key
@[simp] theorem celKeys_length (l : List Cel) : (celKeys l).length = l.length := by simp [celKeys]
def countKeys (l : List (List Cel)) : List ByteArray := celKeys l.flatten
def keysS (s : Sta) : List ByteArray := addsK (addsK [] s.sets.flatten) (countKeys s.counts)
/-- A state with few keys. -/
def Few (s : Sta) : Prop := SlightS s ∧ s.sets.flatten.length ≤ 100000 ∧ s.counts.flatten.length ≤ 100000
end Go.AM
namespace Go.AM
open Go.Proofs
def atB (s : Sta) (c : Cl) (k : ByteArray) : Bool :=
  if c.kind = 4 then !inOf s c.a k || inOf s c.b k
  else if c.kind = 5 then !inOf s c.a k || !inOf s c.b k
  else if c.kind = 7 then decide (numOf s c.a k ≤ c.num)
  else if c.kind = 8 then decide (c.num ≤ numOf s c.a k)
  else if c.kind = 9 then decide (numOf s c.a k ≤ 0) || inOf s c.b k
  else true
def holdsR (s : Sta) (c : Cl) : Bool := if c.kind = 6 then decide (((setOf s c.a).length : Int) ≤ c.num) else (keysS s).all (atB s c)
def holdsRAt (r : Rul) (s : Sta) (i : Nat) : Bool := match r.cls[i]? with
  | some c => holdsR s c
  | none => false
end Go.AM
namespace Go.AM
open Go.Proofs
def KL (a b : ByteArray) : Prop := a.toList < b.toList
theorem ltK_iff (a b : ByteArray) : ltK a b = true ↔ KL a b := by
  unfold ltK KL
  rw [Go.Proofs.bytesLess_eq]
  simp
theorem KL.irrefl (a : ByteArray) : ¬ KL a a := List.lt_irrefl _
theorem KL.trans {a b c : ByteArray} (h1 : KL a b) (h2 : KL b c) : KL a c := List.lt_trans h1 h2
theorem KL.asymm {a b : ByteArray} (h : KL a b) : ¬ KL b a := fun h2 => KL.irrefl _ (h.trans h2)
theorem KL.tri {a b : ByteArray} (h1 : ¬ KL a b) (h2 : ¬ KL b a) : a = b := by
  have : a.toList = b.toList := List.le_antisymm (List.not_lt.1 h2) (List.not_lt.1 h1)
  exact (eqK_eq).1 (by unfold eqK; rw [this]; simp)
abbrev SortS (l : List ByteArray) : Prop := l.Pairwise KL
theorem SortS.of_adj {l : List ByteArray} (h : ∀ i (hi : i + 1 < l.length), KL (l[i]'(by omega)) l[i + 1]) : SortS l := by
  induction l with
  | nil => exact List.Pairwise.nil
  | cons a l ih =>
    have hl : SortS l := ih fun i hi => h (i + 1) (by simpa using hi)
    refine List.Pairwise.cons (fun b hb => ?_) hl
    match l, hl, hb, h with
    | c :: m, hl, hb, h =>
      have h0 : KL a c := by simpa using h 0 (by simp)
      rcases List.mem_cons.1 hb with rfl | hb
      · exact h0
      · exact h0.trans (List.rel_of_pairwise_cons hl hb)
theorem bsF_spec (p : Nat → Bool) (n : Nat) (mono : ∀ i j, i ≤ j → j < n → p j = true → p i = true) (lo hi : Nat) : lo ≤ hi → hi ≤ n → (∀ i, i < lo → p i = true) → (∀ i, hi ≤ i → i < n → p i = false) →
    (∀ i, i < bsF p lo hi → p i = true) ∧ ∀ i, bsF p lo hi ≤ i → i < n → p i = false := by
  induction lo, hi using bsF.induct p with
  | case1 lo hi h1 h2 ih =>
    intro a1 a2 a3 a4
    rw [bsF, if_pos h1, if_pos h2]
    exact ih (by omega) a2 (fun i hi => mono i _ (by omega) (by omega) h2) a4
  | case2 lo hi h1 h2 ih =>
    intro a1 a2 a3 a4
    rw [bsF, if_pos h1, if_neg h2]
    refine ih (by omega) (by omega) a3 fun i hi hn => ?_
    rw [Bool.eq_false_iff]
    exact fun hp => h2 (mono _ i hi hn hp)
  | case3 lo hi h1 =>
    intro a1 a2 a3 a4
    rw [bsF, if_neg h1]
    have : lo = hi := by omega
    subst this
    exact ⟨a3, a4⟩
theorem hasS_iff (l : List ByteArray) (k : ByteArray) : hasS l k = true ↔ k ∈ l := by
  simp only [hasS, List.any_eq_true, eqK_eq]
  constructor
  · rintro ⟨x, hx, rfl⟩; exact hx
  · intro h; exact ⟨k, h, rfl⟩
theorem lessS_at (l : List ByteArray) (k : ByteArray) (i : Nat) (h : i < l.length) : lessS l k i = true ↔ KL l[i] k := by
  simp [lessS, h, ltK_iff]
theorem placeS_spec {l : List ByteArray} (hl : SortS l) (k : ByteArray) : (∀ i (h : i < l.length), i < placeS l k → KL l[i] k) ∧ ∀ i (h : i < l.length), placeS l k ≤ i → ¬ KL l[i] k := by
  have := bsF_spec (lessS l k) l.length (fun i j hij hj hp => ?_) 0 l.length (Nat.zero_le _) (Nat.le_refl _) (fun i h => by omega) (fun i h1 h2 => by omega)
  · refine ⟨fun i h hp => (lessS_at l k i h).1 (this.1 i hp), fun i h hp hk => ?_⟩
    have := this.2 i hp h
    rw [(lessS_at l k i h).2 hk] at this
    cases this
  · rw [lessS_at l k i (by omega)]
    have h2 := (lessS_at l k j hj).1 hp
    rcases Nat.lt_or_ge i j with h | h
    · exact (List.pairwise_iff_getElem.1 hl i j (by omega) hj h).trans h2
    · obtain rfl : i = j := by omega
      exact h2
theorem thereS_eq {l : List ByteArray} (hl : SortS l) (k : ByteArray) : thereS l k = hasS l k := by
  obtain ⟨h1, h2⟩ := placeS_spec hl k
  rw [Bool.eq_iff_iff, hasS_iff]
  unfold thereS
  constructor
  · intro h
    rcases Nat.lt_or_ge (placeS l k) l.length with hp | hp
    · rw [List.getElem?_eq_getElem hp] at h
      rw [← (eqK_eq).1 h]; exact List.getElem_mem hp
    · rw [List.getElem?_eq_none hp] at h; cases h
  · intro h
    obtain ⟨j, hj, rfl⟩ := List.mem_iff_getElem.1 h
    have hle : placeS l l[j] ≤ j := by
      rcases Nat.lt_or_ge j (placeS l l[j]) with h | h
      · exact absurd (h1 j hj h) (KL.irrefl _)
      · exact h
    have hp : placeS l l[j] < l.length := by omega
    rw [List.getElem?_eq_getElem hp]
    refine (eqK_eq).2 ?_
    rcases Nat.lt_or_ge (placeS l l[j]) j with h' | h'
    · exact absurd (List.pairwise_iff_getElem.1 hl _ _ hp hj h') (h2 _ hp (Nat.le_refl _))
    · have e : placeS l l[j] = j := by omega
      simp only [e]
theorem setB_sort {l : List ByteArray} (h : setB l = true) : SortS l := by
  simp only [setB, Bool.and_eq_true, List.all_eq_true] at h
  refine SortS.of_adj fun i hi => ?_
  have := h.1 (i + 1) (by simpa using hi)
  have hi' : i < l.length := by omega
  simp [strAt, hi, hi'] at this
  exact (ltK_iff _ _).1 this.2
theorem stateB_sets {r : Rul} {s : Sta} (h : stateB r s = true) : (∀ l ∈ s.sets, setB l = true) ∧ ∀ l ∈ s.counts, countB l = true := by
  simp only [stateB, Bool.and_eq_true, List.all_eq_true] at h
  exact ⟨h.1.2, h.2⟩
end Go.AM
namespace Go.AM
open Go.Proofs

theorem c_Clone_Str (l : List ByteArray) (hl : l.length ≤ 1000000) : Pure Tryz.prog 47 [.sl .fro 1 (strsAV l)] (.sl .own 1 (strsAV l)) := by
  refine proc_of (cx Tryz.prog 8 [0, 2, 4] [2]) 7 [.tmp 2] Tryz.func47 rfl rfl rfl rfl rfl rfl (Nat.le_refl _) rfl ?_
  refine AWp.go [0] [] fun K hK => ?_
  simp
  first | refine hK _ _ ?_ | refine ⟨by omega, hK _ _ ?_⟩ | refine ⟨by omega, by omega, hK _ _ ?_⟩
  clear hK K
  refine AWp.seq ?_
  refine AWp.go [0, 4] [] fun K hK => ?_
  simp
  refine ⟨fun h0 => hK _ _ ?_, hK _ _ ?_⟩
  · clear hK K
    refine AWp.cond (t := true) (by first | (simp; done) | (simp; omega)) (fun _ => ?_) (by simp)
    refine AWp.go [2] [] fun K hK => ?_
    simp
    first | refine hK _ _ ?_ | refine ⟨by omega, hK _ _ ?_⟩ | refine ⟨by omega, by omega, hK _ _ ?_⟩
    clear hK K
    refine AWp.ret ?_
    simp [h0]
  · clear hK K
    refine AWp.cond (t := false) (by first | (simp; done) | (simp; omega)) (by simp) (fun _ => ?_)
    refine AWp.skip ?_
    show AWp _ _ _ _
    refine AWp.go [2] [] fun K hK => ?_
    simp
    first | refine hK _ _ ?_ | refine ⟨by omega, hK _ _ ?_⟩ | refine ⟨by omega, by omega, hK _ _ ?_⟩
    clear hK K
    refine AWp.ret ?_
    simp
end Go.AM
namespace Go.AM

/-- An operation comes behind another one, by way of others. -/
inductive Aft (ops : Array Oper) : Nat → Nat → Prop
  | one {k j o} : ops[k]? = some o → bindsOn o j = true → Aft ops k j
  | more {k i j o} : ops[k]? = some o → bindsOn o i = true → Aft ops i j → Aft ops k j

def domOf (ds : List Nat) (o : Oper) : Nat := o.after.toList.foldl (fun acc e => if Region.binds .any e then acc ||| (2 ^ e.on) ||| (ds.getD e.on 0) else acc) 0
def domsTo : List Oper → List Nat → List Nat
  | [], ds => ds
  | o :: l, ds => domsTo l (ds ++ [domOf ds o])

theorem domOf_spec (ds : List Nat) (o : Oper) (j : Nat) (h : (domOf ds o).testBit j = true) : ∃ e ∈ o.after, Region.binds .any e = true ∧ (e.on = j ∨ (ds.getD e.on 0).testBit j = true) := by
  have key : ∀ (l : List Edge) (acc : Nat), (l.foldl (fun acc e => if Region.binds .any e then acc ||| (2 ^ e.on) ||| (ds.getD e.on 0) else acc) acc).testBit j = true → acc.testBit j = true ∨ ∃ e ∈ l, Region.binds .any e = true ∧ (e.on = j ∨ (ds.getD e.on 0).testBit j = true) := by
    intro l
    induction l with
    | nil => intro acc h; exact .inl h
    | cons e l ih =>
      intro acc h
      rw [List.foldl_cons] at h
      rcases ih _ h with h1 | ⟨e', he', h1⟩
      · split at h1
        · rename_i hb
          rw [Nat.testBit_or, Nat.testBit_or, Nat.testBit_two_pow] at h1
          simp only [Bool.or_eq_true, decide_eq_true_eq] at h1
          rcases h1 with (h1 | h1) | h1
          · exact .inl h1
          · exact .inr ⟨e, by simp, hb, .inl h1⟩
          · exact .inr ⟨e, by simp, hb, .inr h1⟩
        · exact .inl h1
      · exact .inr ⟨e', by simp [he'], h1⟩
  rcases key _ _ h with h1 | ⟨e, he, h1⟩
  · simp at h1
  · exact ⟨e, by simpa using he, h1⟩

theorem domsTo_spec (ops : Array Oper) : ∀ (l : List Oper) (ds : List Nat) (pre : List Oper), ops.toList = pre ++ l → ds.length = pre.length → (∀ k j, (ds.getD k 0).testBit j = true → Aft ops k j) → ∀ k j, ((domsTo l ds).getD k 0).testBit j = true → Aft ops k j
  | [], ds, pre, _, _, h => h
  | o :: l, ds, pre, ho, hl, h => by
    refine domsTo_spec ops l (ds ++ [domOf ds o]) (pre ++ [o]) (by rw [ho]; simp) (by simp [hl]) fun k j hk => ?_
    rw [List.getD_eq_getElem?_getD] at hk
    by_cases hkl : k < ds.length
    · rw [List.getElem?_append_left hkl, ← List.getD_eq_getElem?_getD] at hk
      exact h k j hk
    · by_cases hke : k = ds.length
      · subst hke
        rw [List.getElem?_append_right (Nat.le_refl _)] at hk
        simp at hk
        obtain ⟨e, he, hb, h2⟩ := domOf_spec ds o j hk
        have hok : ops[ds.length]? = some o := by
          rw [← Array.getElem?_toList, ho, hl, List.getElem?_append_right (Nat.le_refl _)]; simp
        have hbo : bindsOn o e.on = true := bindsOn_iff.2 ⟨e, he, rfl, hb⟩
        rcases h2 with rfl | h2
        · exact .one hok hbo
        · exact .more hok hbo (h _ _ h2)
      · rw [List.getElem?_eq_none (by simp; omega)] at hk
        simp at hk

/-- The first m operations put, each to a slot of its own, and each reads what others put behind them alone; the others come behind all ahead of them. -/
def drawOkA (ops : Array Oper) (m : Nat) : Bool :=
  let D := domsTo ops.toList []
  decide (m ≤ ops.size) && (List.range ops.size).all fun k => match ops[k]? with
    | some o => (o.after.all fun e => !Region.binds .any e || decide (e.on < k)) &&
      if k < m then
        ((List.range m).all fun j => j == k || match ops[j]? with
          | some oj => oj.dst != o.dst
          | none => true) &&
        (o.looksAt ops).all fun t => (List.range m).all fun j => match ops[j]? with
          | some oj => oj.dst != some t || (decide (j < k) && (D.getD k 0).testBit j)
          | none => true
      else (List.range k).all fun j => (D.getD k 0).testBit j
    | none => true

structure DrawA (ops : Array Oper) (m : Nat) : Prop where
  le : m ≤ ops.size
  back : ∀ (k : Nat) o, ops[k]? = some o → ∀ e ∈ o.after, Region.binds .any e = true → e.on < k
  dst : ∀ (k j : Nat) o oj, k < m → j < m → j ≠ k → ops[k]? = some o → ops[j]? = some oj → oj.dst ≠ o.dst
  look : ∀ (k j : Nat) o oj t, k < m → j < m → ops[k]? = some o → ops[j]? = some oj → t ∈ o.looksAt ops → oj.dst = some t → j < k ∧ Aft ops k j
  tail : ∀ (k : Nat) o, m ≤ k → ops[k]? = some o → ∀ j, j < k → Aft ops k j

theorem drawOkA_spec {ops : Array Oper} {m : Nat} (h : drawOkA ops m = true) : DrawA ops m := by
  have hR := domsTo_spec ops ops.toList [] [] rfl rfl (fun k j h => by simp at h)
  simp only [drawOkA, Bool.and_eq_true, decide_eq_true_eq, List.all_eq_true, List.mem_range] at h
  obtain ⟨h1, h3⟩ := h
  have get : ∀ (k : Nat) o, ops[k]? = some o → k < ops.size := fun k o ho => (Array.getElem?_eq_some_iff.1 ho).1
  have at' : ∀ (k : Nat) o, ops[k]? = some o → _ := fun k o ho => by
    have := h3 k (get k o ho)
    rw [ho] at this
    exact this
  refine ⟨h1, fun k o ho e he hb => ?_, fun k j o oj hk hj hjk ho hoj => ?_, fun k j o oj t hk hj ho hoj ht hd => ?_, fun k o hk ho j hj => ?_⟩
  · have := at' k o ho
    simp only [Bool.and_eq_true] at this
    have h4 := Array.all_eq_true_iff_forall_mem.1 this.1 e he
    simpa [hb] using h4
  · have := at' k o ho
    simp only [Bool.and_eq_true, hk, if_true, List.all_eq_true, List.mem_range] at this
    have h4 := this.2.1 j hj
    rw [hoj] at h4
    simpa [hjk] using h4
  · have := at' k o ho
    simp only [Bool.and_eq_true, hk, if_true, List.all_eq_true, List.mem_range] at this
    have h4 := this.2.2 t ht j hj
    rw [hoj] at h4
    have h5 : j < k ∧ ((domsTo ops.toList []).getD k 0).testBit j = true := by simpa [hd] using h4
    exact ⟨h5.1, hR k j h5.2⟩
  · have := at' k o ho
    have hk' : ¬ k < m := by omega
    simp only [Bool.and_eq_true, hk', if_false, List.all_eq_true, List.mem_range] at this
    exact hR k j (this.2 j hj)

theorem Aft.lt {ops : Array Oper} {m k j : Nat} (D : DrawA ops m) (h : Aft ops k j) : j < k := by
  induction h with
  | one ho hb =>
    obtain ⟨e, he, h1, h2⟩ := bindsOn_iff.1 hb
    have := D.back _ _ ho e he h2
    omega
  | more ho hb _ ih =>
    obtain ⟨e, he, h1, h2⟩ := bindsOn_iff.1 hb
    have := D.back _ _ ho e he h2
    omega

/-- What has been done is closed under 'comes behind'. -/
def ClosedL (ops : Array Oper) (listed : Array Bool) : Prop := ∀ i j, listed.getD i false = true → Aft ops i j → listed.getD j false = true

/-- What may be done now comes behind what has been done alone. -/
theorem ready_reach {ops : Array Oper} {listed : Array Bool} (hc : ClosedL ops listed) {i : Nat} (hi : i ∈ Region.ready .any ops listed) {j : Nat} (h : Aft ops i j) : listed.getD j false = true := by
  obtain ⟨h1, o, ho, h2⟩ := mem_ready.1 hi
  cases h with
  | one ho' hb =>
    rw [ho] at ho'; cases ho'
    obtain ⟨e, he, h3, h4⟩ := bindsOn_iff.1 hb
    have := h2 e he h4
    rwa [h3] at this
  | more ho' hb hr =>
    rw [ho] at ho'; cases ho'
    obtain ⟨e, he, h3, h4⟩ := bindsOn_iff.1 hb
    have := h2 e he h4
    rw [h3] at this
    exact hc _ _ this hr

theorem closed_add {ops : Array Oper} {listed : Array Bool} (hc : ClosedL ops listed) {i : Nat} (hi : i ∈ Region.ready .any ops listed) (hs : i < listed.size) : ClosedL ops (listed.setIfInBounds i true) := by
  intro a b ha hr
  have mono : ∀ x, listed.getD x false = true → (listed.setIfInBounds i true).getD x false = true := fun x hx => by
    by_cases hxi : i = x
    · subst hxi
      rw [Array.getD_eq_getD_getElem?, Array.getElem?_setIfInBounds_self_of_lt hs]; rfl
    · rw [getD_set_ne false hxi]; exact hx
  by_cases hai : i = a
  · subst hai
    exact mono b (ready_reach hc hi hr)
  · rw [getD_set_ne false hai] at ha
    exact mono b (hc a b ha hr)
end Go.AM
namespace Go.AM

theorem qop_mono {T : Nat → Option TI} {st st' : St} {ty : Nat} {op : Op} (h : ∀ x ∈ op.operands, ∀ t, x = .tmp t → st.slots t = st'.slots t) (hb : ∀ id cs, st.boxes id = some cs → st'.boxes id = some cs) (hok : (qop T st ty op).ok) : qop T st' ty op = qop T st ty op := by
  have h1 : qop T st ty op = qop T { st' with boxes := st.boxes } ty op := qop_congr h rfl
  rw [h1] at hok ⊢
  cases op with
  | load t x =>
    simp only [qop] at hok ⊢
    have e : ({ st' with boxes := st.boxes } : St).rd 0 x = st'.rd 0 x := rd_congr (fun _ _ => rfl) 0
    rw [e] at hok ⊢
    unfold qload at hok ⊢
    split
    · rename_i y id off hy hx
      rw [hy, hx] at hok
      simp only at hok ⊢
      cases hc : st.boxes id with
      | none => rw [hc] at hok; exact hok.elim
      | some cs => rw [hb id cs hc]
    · rename_i y g ix cells off hy hx
      rfl
    · rfl
  | makeFunc fn first captured => cases fn <;> rfl
  | slice t x lo hi mx => cases mx <;> cases lo <;> cases hi <;> rfl
  | call c =>
    obtain ⟨callee, args, ts⟩ := c
    cases callee with
    | value f => rfl
    | invoke r m => rfl
    | builtin b => cases b <;> rfl
  | _ => rfl

theorem qop2_mono {C : Cx} {st st' : St} {ty : Nat} {op : Op} (h : ∀ x ∈ op.operands, ∀ t, x = .tmp t → st.slots t = st'.slots t) (hb : ∀ id cs, st.boxes id = some cs → st'.boxes id = some cs) (hok : (qop2 C st ty op).ok) : qop2 C st' ty op = qop2 C st ty op := by
  unfold qop2 at hok ⊢
  split
  · rename_i eq t x y hop
    rw [hop] at hok
    obtain ⟨yt, rfl⟩ := isEql_some hop
    rw [rd_congr (h x (by simp [Op.operands])), rd_congr (h y (by simp [Op.operands]))]
    split
    · rfl
    · rename_i hs
      simp only [hs] at hok
      exact qop_mono h hb hok
  · rename_i hop
    rw [hop] at hok
    exact qop_mono h hb hok

theorem pop_mono {C : Cx} {r : AV} {o : Oper} {st st' : St} (h : ∀ x ∈ o.op.operands, ∀ t, x = .tmp t → st.slots t = st'.slots t) (hb : ∀ id cs, st.boxes id = some cs → st'.boxes id = some cs) (hok : (pop C r o st).ok) : pop C r o st' = pop C r o st := by
  unfold pop at hok ⊢
  split
  · rename_i x ho
    rw [rd_congr (h x (by simp [ho, Op.operands]))]
  · rename_i f args ts ho
    rw [rd_congr (h f (by simp [ho, Op.operands, Call.operands])), rdArgs_congr args.toList ts.toList fun x hx => h x (by simp [ho, Op.operands, Call.operands]; exact .inr (by simpa using hx))]
  · rename_i t len parts ho
    congr 1
    exact List.map_congr_left fun p hp => by
      rw [rd_congr (h p.2 (by rw [ho]; simp only [Op.operands, List.mem_toArray, List.mem_map]; exact ⟨p, by simpa using hp, rfl⟩))]
  · rename_i h1 h2 h3
    simp only at hok ⊢
    cases hn : isNilCmp o.op with
    | some e => rfl
    | none =>
      rw [hn] at hok
      simp only at hok ⊢
      exact qop2_mono h hb hok

theorem popg_mono {C : Cx} {ops : Array Oper} {r : AV} {o : Oper} {st st' : St} (h : ∀ t ∈ o.looksAt ops, st.slots t = st'.slots t) (hb : ∀ id cs, st.boxes id = some cs → st'.boxes id = some cs) (hok : (popg C ops r o st).ok) : popg C ops r o st' = popg C ops r o st := by
  have hp : (pop C r o st).ok → pop C r o st' = pop C r o st := pop_mono (fun x hx t ht => h t (List.mem_append_left _ (List.mem_filterMap.2 ⟨x, by simpa using hx, by rw [ht]⟩))) hb
  unfold popg at hok ⊢
  cases hg : o.guard with
  | none => rw [hg] at hok; exact hp hok
  | some jb =>
    obtain ⟨j, b⟩ := jb
    rw [hg] at hok
    simp only at hok ⊢
    cases hj : (ops[j]?).bind (·.dst) with
    | none => rfl
    | some t =>
      rw [hj] at hok
      simp only at hok ⊢
      have : st.slots t = st'.slots t := h t (List.mem_append_right _ (by simp [hg, hj]))
      rw [← this]
      split
      · rename_i c hc
        rw [hc] at hok
        simp only at hok
        split
        · rename_i hcb
          rw [if_pos hcb] at hok
          exact hp hok
        · rfl
      · rfl
      · rfl

/-- A new box of zeros is made: its cells. -/
def isAl (C : Cx) (o : Oper) : Option (List AV) :=
  match o.op, o.guard with
  | .alloc t, none => (C.T t).map TI.zero
  | _, _ => none
def alQ (C : Cx) (d : Nat) (z : List AV) : Place → Option Place := mkQ (isBoxOf (C.base + d) d) (AV.vwsC (C.base + d) 0 (flatA (.agg z))) (C.tk false (some d))
def alF (C : Cx) (d : Nat) (z : List AV) : Place → Bool := mkF (AV.vwsC (C.base + d) 0 (flatA (.agg z))) (C.tk false (some d))
def alZ (C : Cx) (d : Nat) (z : List AV) : List AV := AV.trC (resLeaf (alF C d z)) (C.base + d) 0 (flatA (.agg z))
def alTr (C : Cx) (d : Nat) (z : List AV) (s : St) : St := (s.settle (alQ C d z) (alF C d z)).killB (C.base + d)
def alOk (C : Cx) (d : Nat) (z : List AV) : Prop := d < C.N ∧ C.base + d < 1000000 ∧ (AV.agg z).hole = false ∧ AV.resOkC (alQ C d z) (alF C d z) (C.base + d) 0 (flatA (.agg z)) = true ∧ AV.noPtrL (C.base + d) (alZ C d z) = true
def keep (C : Cx) (d : Nat) (z : List AV) (s : St) : Prop := alTr C d z s = s
def St.noSlot (d : Nat) (s : St) : St := { s with slots := fun t => if t = d then .any else s.slots t }
/-- The same, but for the slot itself. -/
def keepF (C : Cx) (d : Nat) (z : List AV) (s : St) : Prop := alTr C d z (s.noSlot d) = s.noSlot d

theorem alTr_boxes (C : Cx) (d : Nat) (z : List AV) : ∃ g : Nat → Option (List AV) → Option (List AV), ∀ s id, (alTr C d z s).boxes id = g id (s.boxes id) :=
  ⟨fun id x => ((x.map (AV.trC (fzLeaf (alF C d z)) id 0)).map (AV.trC (takeLeaf (alQ C d z)) id 0)).map (AV.trC (killBLeaf (C.base + d)) id 0), fun _ _ => rfl⟩


/-- An empty literal. -/
def isLit (o : Oper) : Option Nat :=
  match o.op, o.guard with
  | .buildSlice t len parts, none => if len = 0 ∧ parts.size = 0 then some t else none
  | _, _ => none

/-- The slots of empty literals. -/
def litsOf : List Oper → List Nat
  | [] => []
  | o :: l => match o.dst, isLit o with
    | some d, some _ => d :: litsOf l
    | _, _ => litsOf l
theorem mem_litsOf {l : List Oper} {t : Nat} (h : t ∈ litsOf l) : ∃ o ∈ l, o.dst = some t ∧ (isLit o).isSome = true := by
  induction l with
  | nil => simp [litsOf] at h
  | cons o l ih =>
    unfold litsOf at h
    split at h
    · rename_i d x hd hl
      rcases List.mem_cons.1 h with rfl | h
      · exact ⟨o, by simp, hd, by rw [hl]; rfl⟩
      · obtain ⟨o', h1, h2⟩ := ih h
        exact ⟨o', by simp [h1], h2⟩
    · obtain ⟨o', h1, h2⟩ := ih h
      exact ⟨o', by simp [h1], h2⟩

/-- What is appended to one of these literals' slots: the slot. -/
def srcOf (L : List Nat) (o : Oper) : Option Nat :=
  match o.op, o.guard with
  | .call ⟨.builtin .append, args, _⟩, none => match args.toList with
    | [.tmp t, _] => if L.contains t then some t else none
    | _ => none
  | _, _ => none

/-- A row of a slot's own that has nothing, appended to. -/
def qapp (C : Cx) (l : List AV) (ts : List Nat) : QR := match l, ts with
  | [.sl (.vw (.slot _ []) true) sz [], x], [t, t2] => match (C.T t).map TI.kind, (C.T t2).map TI.kind, appendix x with
    | some (.slice e), some (.slice _), some (sz2, ys) => match C.T e with
      | some y => ⟨0 < y.bytes ∧ sz2 = y.size ∧ sz = y.size ∧ ys.length * y.bytes ≤ 140737488355328, .sl .own y.size ys⟩
      | none => .no
    | _, _, _ => .no
  | _, _ => .no
def qappO (C : Cx) (o : Oper) (s : St) : QR := match o.op with
  | .call ⟨.builtin .append, args, ts⟩ => qapp C (rdArgs C s args.toList ts.toList) ts.toList
  | _ => .no

/-- An operation's value. -/
def vA (C : Cx) (ops : Array Oper) (L : List Nat) (r : AV) (o : Oper) (d : Nat) (s : St) : AV := match isAl C o with
  | some _ => .ptr (C.base + d) 0
  | none => match isLit o with
    | some t => .sl .own (szOf C.T t) []
    | none => match srcOf L o with
      | some _ => (qappO C o s).v
      | none => (popg C ops r o s).v

def okA (C : Cx) (ops : Array Oper) (L : List Nat) (r : AV) (o : Oper) (d : Nat) (s : St) : Prop := match isAl C o with
  | some z => alOk C d z ∧ s.boxes (C.base + d) = none
  | none => match isLit o with
    | some t => (qbs C t 0 []).ok ∧ d < C.N ∧ (s.slots d).free = true
    | none => match srcOf L o with
      | some _ => (qappO C o s).ok ∧ d < C.N ∧ (s.slots d).free = true
      | none => (popg C ops r o s).ok ∧ d < C.N ∧ (s.slots d).free = true

def aputsA (C : Cx) (ops : Array Oper) (L : List Nat) (rs : Nat → AV) : Nat → List Oper → St → (St → Prop) → Prop
  | _, [], st, K => K st
  | k, o :: rest, st, K => match o.dst with
    | some d => okA C ops L (rs k) o d st ∧ aputsA C ops L rs (k + 1) rest (st.put d (vA C ops L (rs k) o d st)) K
    | none => False

def canonA (C : Cx) (ops : Array Oper) (L : List Nat) (rs : Nat → AV) (st : St) : Nat → St
  | 0 => st
  | k + 1 => match ops[k]? with
    | some o => match o.dst with
      | some d => (canonA C ops L rs st k).put d (vA C ops L (rs k) o d (canonA C ops L rs st k))
      | none => canonA C ops L rs st k
    | none => canonA C ops L rs st k

def putA (C : Cx) (ops : Array Oper) (L : List Nat) (rs : Nat → AV) (st : St) (k : Nat) : AV :=
  match ops[k]? with
  | some o => match o.dst with
    | some d => vA C ops L (rs k) o d (canonA C ops L rs st k)
    | none => .any
  | none => .any

/-- A literal's slot is taken from by one alone. -/
def srcOk (L : List Nat) (ops : Array Oper) (m : Nat) : Bool := (List.range m).all fun k => match ops[k]? with
  | some o => match srcOf L o with
    | some t => (List.range m).all fun j => j == k || match ops[j]? with
      | some oj => !(oj.looksAt ops).contains t
      | none => true
    | none => true
  | none => true
theorem srcOk_spec {L : List Nat} {ops : Array Oper} {m : Nat} (h : srcOk L ops m = true) {k j t : Nat} {o oj : Oper} (hk : k < m) (hj : j < m) (hjk : j ≠ k) (ho : ops[k]? = some o) (hoj : ops[j]? = some oj) (hs : srcOf L o = some t) : t ∉ oj.looksAt ops := by
  simp only [srcOk, List.all_eq_true, List.mem_range] at h
  have h1 := h k hk
  rw [ho] at h1
  simp only [hs, List.all_eq_true, List.mem_range] at h1
  have h2 := h1 j hj
  rw [hoj] at h2
  simp only [Bool.or_eq_true, beq_iff_eq, hjk, false_or, Bool.not_eq_true', List.contains_eq_mem, decide_eq_false_iff_not] at h2
  exact h2

/-- What is taken away when one appends to a slot's row. -/
def srcQ (t : Nat) (p : Place) : Option Place := if p = .slot t [] then some .no else none
def tkTr (t : Nat) (s : St) : St := s.take (srcQ t)
theorem tkTr_boxes (t : Nat) : ∃ g : Nat → Option (List AV) → Option (List AV), ∀ s id, (tkTr t s).boxes id = g id (s.boxes id) :=
  ⟨fun id x => x.map (AV.trC (takeLeaf (srcQ t)) id 0), fun _ _ => rfl⟩
def keepT (t : Nat) (s : St) : Prop := tkTr t (s.noSlot t) = s.noSlot t
def tks (L : List Nat) : List Oper → St → Prop
  | [], _ => True
  | o :: l, s => (match srcOf L o with
    | some t => keepT t s
    | none => True) ∧ tks L l s
theorem tks_get {L : List Nat} {s : St} {l : List Oper} (h : tks L l s) {o : Oper} {t : Nat} (hm : o ∈ l) (hz : srcOf L o = some t) : keepT t s := by
  induction l with
  | nil => cases hm
  | cons x l ih =>
    rcases List.mem_cons.1 hm with rfl | hm
    · have := h.1
      rw [hz] at this
      exact this
    · exact ih h.2 hm
/-- The slots that are taken from. -/
def srcs (L : List Nat) : List Oper → List Nat
  | [] => []
  | o :: l => match srcOf L o with
    | some t => t :: srcs L l
    | none => srcs L l
theorem mem_srcs {L : List Nat} {l : List Oper} {t : Nat} : t ∈ srcs L l ↔ ∃ o ∈ l, srcOf L o = some t := by
  induction l with
  | nil => simp [srcs]
  | cons o l ih =>
    unfold srcs
    cases hs : srcOf L o with
    | none => simp [ih, hs]
    | some x => simp [ih, hs, eq_comm]
def St.noSlots (ts : List Nat) (s : St) : St := { s with slots := fun t => if ts.contains t then .any else s.slots t }

/-- The boxes that operations make. -/
def newsA (C : Cx) : List Oper → Boxes
  | [] => []
  | o :: l => match o.dst, isAl C o with
    | some d, some z => (C.base + d, alZ C d z) :: newsA C l
    | _, _ => newsA C l
def keeps (C : Cx) : List Oper → St → Prop
  | [], _ => True
  | o :: l, s => (match o.dst, isAl C o with
    | some d, some z => keep C d z s
    | _, _ => True) ∧ keeps C l s

def keepsF (C : Cx) : List Oper → St → Prop
  | [], _ => True
  | o :: l, s => (match o.dst, isAl C o with
    | some d, some z => keepF C d z s
    | _, _ => True) ∧ keepsF C l s
theorem keepsF_get {C : Cx} {s : St} {l : List Oper} (h : keepsF C l s) {o : Oper} {d : Nat} {z : List AV} (hm : o ∈ l) (hd : o.dst = some d) (hz : isAl C o = some z) : keepF C d z s := by
  induction l with
  | nil => cases hm
  | cons x l ih =>
    rcases List.mem_cons.1 hm with rfl | hm
    · have := h.1
      rw [hd, hz] at this
      exact this
    · exact ih h.2 hm

theorem keeps_get {C : Cx} {s : St} {l : List Oper} (h : keeps C l s) {o : Oper} {d : Nat} {z : List AV} (hm : o ∈ l) (hd : o.dst = some d) (hz : isAl C o = some z) : keep C d z s := by
  induction l with
  | nil => cases hm
  | cons x l ih =>
    rcases List.mem_cons.1 hm with rfl | hm
    · have := h.1
      rw [hd, hz] at this
      exact this
    · exact ih h.2 hm

theorem newsA_get {C : Cx} {l : List Oper} {id : Nat} {cs : List AV} (h : (newsA C l).lookup id = some cs) : ∃ o ∈ l, ∃ d z, o.dst = some d ∧ isAl C o = some z ∧ id = C.base + d ∧ cs = alZ C d z := by
  induction l with
  | nil => simp [newsA] at h
  | cons o l ih =>
    have tail : (newsA C l).lookup id = some cs → ∃ o' ∈ o :: l, ∃ d z, o'.dst = some d ∧ isAl C o' = some z ∧ id = C.base + d ∧ cs = alZ C d z := fun h => by
      obtain ⟨o', hm, r⟩ := ih h
      exact ⟨o', by simp [hm], r⟩
    unfold newsA at h
    split at h
    · rename_i d z hd hz
      rw [List.lookup_cons] at h
      by_cases hid : id = C.base + d
      · subst hid
        simp at h
        exact ⟨o, by simp, d, z, hd, hz, rfl, h.symm⟩
      · have : (id == C.base + d) = false := by simpa using hid
        rw [this] at h
        exact tail h
    · exact tail h

theorem newsA_mem {C : Cx} {l : List Oper} {o : Oper} {d : Nat} {z : List AV} (hm : o ∈ l) (hd : o.dst = some d) (hz : isAl C o = some z) : ((newsA C l).lookup (C.base + d)).isSome = true := by
  induction l with
  | nil => cases hm
  | cons x l ih =>
    unfold newsA
    rcases List.mem_cons.1 hm with rfl | hm
    · rw [hd, hz]
      simp [List.lookup_cons]
    · have ih := ih hm
      split
      · rw [List.lookup_cons]
        split
        · rfl
        · exact ih
      · exact ih

section
variable {C : Cx} {L : List Nat} {ops : Array Oper} {rs : Nat → AV} {st : St} {m : Nat}

/-- A slot's row has been taken. -/
def Gone (L : List Nat) (ops : Array Oper) (m : Nat) (D : Nat → Prop) (t : Nat) : Prop := ∃ c o, c < m ∧ D c ∧ ops[c]? = some o ∧ srcOf L o = some t

/-- A state in which certain operations have put their values, and made their boxes. -/
structure IsA (C : Cx) (L : List Nat) (ops : Array Oper) (rs : Nat → AV) (st : St) (m : Nat) (D : Nat → Prop) (s : St) : Prop where
  put : ∀ j t, j < m → D j → dstOf ops j = some t → ¬ Gone L ops m D t → s.slots t = putA C ops L rs st j
  gone : ∀ t, Gone L ops m D t → s.slots t = .any
  old : ∀ t, (∀ j, j < m → D j → dstOf ops j ≠ some t) → ¬ Gone L ops m D t → s.slots t = st.slots t
  newb : ∀ j o d z, j < m → D j → ops[j]? = some o → o.dst = some d → isAl C o = some z → s.boxes (C.base + d) = some (alZ C d z)
  oldb : ∀ id, (∀ j o d z, j < m → D j → ops[j]? = some o → o.dst = some d → isAl C o = some z → id ≠ C.base + d) → s.boxes id = st.boxes id

theorem isA_unique {D : Nat → Prop} {s s' : St} (h : IsA C L ops rs st m D s) (h' : IsA C L ops rs st m D s') : s = s' := by
  refine St.ext' (fun t => ?_) (fun id => ?_)
  · by_cases hg : Gone L ops m D t
    · rw [h.gone t hg, h'.gone t hg]
    by_cases ht : ∃ j, j < m ∧ D j ∧ dstOf ops j = some t
    · obtain ⟨j, hj, hD, hjt⟩ := ht
      rw [h.put j t hj hD hjt hg, h'.put j t hj hD hjt hg]
    · have : ∀ j, j < m → D j → dstOf ops j ≠ some t := fun j hj hD he => ht ⟨j, hj, hD, he⟩
      rw [h.old t this hg, h'.old t this hg]
  · by_cases hb : ∃ j o d z, j < m ∧ D j ∧ ops[j]? = some o ∧ o.dst = some d ∧ isAl C o = some z ∧ id = C.base + d
    · obtain ⟨j, o, d, z, h1, h2, h3, h4, h5, rfl⟩ := hb
      rw [h.newb j o d z h1 h2 h3 h4 h5, h'.newb j o d z h1 h2 h3 h4 h5]
    · have : ∀ j o d z, j < m → D j → ops[j]? = some o → o.dst = some d → isAl C o = some z → id ≠ C.base + d := fun j o d z h1 h2 h3 h4 h5 e => hb ⟨j, o, d, z, h1, h2, h3, h4, h5, e⟩
      rw [h.oldb id this, h'.oldb id this]

theorem gone_congr {D D' : Nat → Prop} (hD : ∀ j, j < m → (D j ↔ D' j)) (t : Nat) : Gone L ops m D t ↔ Gone L ops m D' t :=
  ⟨fun ⟨c, o, h1, h2, h3⟩ => ⟨c, o, h1, (hD c h1).1 h2, h3⟩, fun ⟨c, o, h1, h2, h3⟩ => ⟨c, o, h1, (hD c h1).2 h2, h3⟩⟩

theorem isA_congr {D D' : Nat → Prop} {s : St} (h : IsA C L ops rs st m D s) (hD : ∀ j, j < m → (D j ↔ D' j)) : IsA C L ops rs st m D' s :=
  ⟨fun j t hj hd he hg => h.put j t hj ((hD j hj).2 hd) he fun g => hg ((gone_congr hD t).1 g), fun t hg => h.gone t ((gone_congr hD t).2 hg), fun t ht hg => h.old t (fun j hj hd => ht j hj ((hD j hj).1 hd)) fun g => hg ((gone_congr hD t).1 g),
   fun j o d z hj hd => h.newb j o d z hj ((hD j hj).2 hd), fun id hi => h.oldb id fun j o d z hj hd => hi j o d z hj ((hD j hj).1 hd)⟩

/-- One more has put its value; it may have taken a literal's row. -/
theorem isA_put {D : Nat → Prop} {s : St} (h : IsA C L ops rs st m D s) {k d : Nat} {o : Oper} (hk : k < m) (ho : ops[k]? = some o) (hd : o.dst = some d) (hal : isAl C o = none) (hne : ∀ j, j < m → j ≠ k → dstOf ops j ≠ some d) (hgd : ∀ c o', c < m → ops[c]? = some o' → srcOf L o' = some d → ¬ (D c ∨ c = k)) {s0 : St}
    (hs0 : (s0 = s ∧ srcOf L o = none) ∨ ∃ t, srcOf L o = some t ∧ s0 = s.put t .any) :
    IsA C L ops rs st m (fun j => D j ∨ j = k) (s0.put d (putA C ops L rs st k)) := by
  have hdk : dstOf ops k = some d := by simp [dstOf, ho, hd]
  have hb : s0.boxes = s.boxes := by rcases hs0 with ⟨rfl, _⟩ | ⟨t, _, rfl⟩ <;> rfl
  have gsub : ∀ t, Gone L ops m D t → Gone L ops m (fun j => D j ∨ j = k) t := fun t ⟨c, o', h1, h2, h3⟩ => ⟨c, o', h1, .inl h2, h3⟩
  have hgone : ∀ t, Gone L ops m (fun j => D j ∨ j = k) t → t ≠ d := fun t ⟨c, o', h1, h2, h3, h4⟩ e => by subst e; exact hgd c o' h1 h3 h4 h2
  have gcase : ∀ t, Gone L ops m (fun j => D j ∨ j = k) t → Gone L ops m D t ∨ srcOf L o = some t := fun t ⟨c, o', h1, h2, h3, h4⟩ => by
    rcases h2 with h2 | rfl
    · exact .inl ⟨c, o', h1, h2, h3, h4⟩
    · rw [ho] at h3; cases h3; exact .inr h4
  have s0at : ∀ t, ¬ Gone L ops m (fun j => D j ∨ j = k) t → s0.slots t = s.slots t := fun t hg => by
    rcases hs0 with ⟨rfl, _⟩ | ⟨x, hx, rfl⟩
    · rfl
    · show (if t = x then _ else s.slots t) = _
      rw [if_neg fun e => hg ⟨k, o, hk, .inr rfl, ho, by rw [e]; exact hx⟩]
  refine ⟨fun j t hj hD hjt hg => ?_, fun t hg => ?_, fun t ht hg => ?_, fun j o' d' z hj hD ho' hd' hz => ?_, fun id hi => ?_⟩
  · show (if t = d then _ else s0.slots t) = _
    by_cases htd : t = d
    · subst htd
      have : j = k := Classical.byContradiction fun hjk => hne j hj hjk hjt
      subst this
      rw [if_pos rfl]
    · rw [if_neg htd, s0at t hg]
      rcases hD with hD | rfl
      · exact h.put j t hj hD hjt fun g => hg (gsub t g)
      · rw [hjt] at hdk; exact absurd (Option.some.inj hdk) htd
  · show (if t = d then _ else s0.slots t) = _
    rw [if_neg (hgone t hg)]
    rcases hs0 with ⟨rfl, hn⟩ | ⟨x, hx, rfl⟩
    · rcases gcase t hg with g | g
      · exact h.gone t g
      · rw [hn] at g; cases g
    · show (if t = x then _ else s.slots t) = _
      by_cases htx : t = x
      · rw [if_pos htx]
      · rw [if_neg htx]
        rcases gcase t hg with g | g
        · exact h.gone t g
        · rw [hx] at g; exact absurd (Option.some.inj g).symm htx
  · show (if t = d then _ else s0.slots t) = _
    have htd : t ≠ d := fun e => ht k hk (.inr rfl) (by rw [e]; exact hdk)
    rw [if_neg htd, s0at t hg]
    exact h.old t (fun j hj hD => ht j hj (.inl hD)) fun g => hg (gsub t g)
  · show s0.boxes _ = _
    rw [hb]
    rcases hD with hD | rfl
    · exact h.newb j o' d' z hj hD ho' hd' hz
    · rw [ho] at ho'; cases ho'
      rw [hal] at hz; cases hz
  · show s0.boxes _ = _
    rw [hb]
    exact h.oldb id fun j o' d' z hj hD => hi j o' d' z hj (.inl hD)

/-- One more has made its box. -/
theorem isA_box {D : Nat → Prop} {s : St} (h : IsA C L ops rs st m D s) {k d : Nat} {o : Oper} {z : List AV} (hk : k < m) (ho : ops[k]? = some o) (hd : o.dst = some d) (hal : isAl C o = some z) (hsrc : srcOf L o = none) (hne : ∀ j, j < m → j ≠ k → dstOf ops j ≠ some d) (hgd : ∀ c o', c < m → ops[c]? = some o' → srcOf L o' = some d → ¬ (D c ∨ c = k)) :
    IsA C L ops rs st m (fun j => D j ∨ j = k) ((s.setBox (C.base + d) (some (alZ C d z))).put d (.ptr (C.base + d) 0)) := by
  have hdk : dstOf ops k = some d := by simp [dstOf, ho, hd]
  have hpk : putA C ops L rs st k = .ptr (C.base + d) 0 := by simp [putA, ho, hd, vA, hal]
  have geq : ∀ t, Gone L ops m (fun j => D j ∨ j = k) t → Gone L ops m D t := fun t ⟨c, o', h1, h2, h3, h4⟩ => by
    rcases h2 with h2 | rfl
    · exact ⟨c, o', h1, h2, h3, h4⟩
    · rw [ho] at h3; cases h3; rw [hsrc] at h4; cases h4
  have gsub : ∀ t, Gone L ops m D t → Gone L ops m (fun j => D j ∨ j = k) t := fun t ⟨c, o', h1, h2, h3⟩ => ⟨c, o', h1, .inl h2, h3⟩
  refine ⟨fun j t hj hD hjt hg => ?_, fun t hg => ?_, fun t ht hg => ?_, fun j o' d' z' hj hD ho' hd' hz => ?_, fun id hi => ?_⟩
  · show (if t = d then _ else s.slots t) = _
    by_cases htd : t = d
    · subst htd
      have : j = k := Classical.byContradiction fun hjk => hne j hj hjk hjt
      subst this
      rw [if_pos rfl, hpk]
    · rw [if_neg htd]
      rcases hD with hD | rfl
      · exact h.put j t hj hD hjt fun g => hg (gsub t g)
      · rw [hjt] at hdk; exact absurd (Option.some.inj hdk) htd
  · show (if t = d then _ else s.slots t) = _
    have htd : t ≠ d := fun e => by
      obtain ⟨c, o', h1, h2, h3, h4⟩ := hg
      subst e
      exact hgd c o' h1 h3 h4 h2
    rw [if_neg htd]
    exact h.gone t (geq t hg)
  · show (if t = d then _ else s.slots t) = _
    have htd : t ≠ d := fun e => ht k hk (.inr rfl) (by rw [e]; exact hdk)
    rw [if_neg htd]
    exact h.old t (fun j hj hD => ht j hj (.inl hD)) fun g => hg (gsub t g)
  · show (if C.base + d' = C.base + d then _ else s.boxes (C.base + d')) = _
    by_cases hjk : j = k
    · subst hjk
      rw [ho] at ho'; cases ho'
      rw [hd] at hd'; cases hd'
      rw [hal] at hz; cases hz
      rw [if_pos rfl]
    · have hdd : d' ≠ d := fun e => hne j hj hjk (by subst e; simp [dstOf, ho', hd'])
      have hbd : C.base + d' ≠ C.base + d := fun e => hdd (Nat.add_left_cancel e)
      rw [if_neg hbd]
      exact h.newb j o' d' z' hj (hD.resolve_right hjk) ho' hd' hz
  · have hidk := hi k o d z hk (.inr rfl) ho hd hal
    show (if id = C.base + d then _ else s.boxes id) = _
    rw [if_neg hidk]
    exact h.oldb id fun j o' d' z' hj hD => hi j o' d' z' hj (.inl hD)

/-- The slots of the text's order. -/
theorem canonA_slots (hdst : ∀ k, k < m → ∃ o d, ops[k]? = some o ∧ o.dst = some d) (hne : ∀ j k d, j < m → k < m → j ≠ k → dstOf ops k = some d → dstOf ops j ≠ some d) :
    ∀ k, k ≤ m → (canonA C ops L rs st k).boxes = st.boxes ∧ (∀ j t, j < k → dstOf ops j = some t → (canonA C ops L rs st k).slots t = putA C ops L rs st j) ∧ ∀ t, (∀ j, j < k → dstOf ops j ≠ some t) → (canonA C ops L rs st k).slots t = st.slots t
  | 0, _ => ⟨rfl, fun j t h => absurd h (by omega), fun t _ => rfl⟩
  | k + 1, hk => by
    obtain ⟨o, d, ho, hd⟩ := hdst k (by omega)
    have hdk : dstOf ops k = some d := by simp [dstOf, ho, hd]
    obtain ⟨h1, h2, h3⟩ := canonA_slots hdst hne k (by omega)
    have e : canonA C ops L rs st (k + 1) = (canonA C ops L rs st k).put d (putA C ops L rs st k) := by simp [canonA, putA, ho, hd]
    rw [e]
    refine ⟨h1, fun j t hj hjt => ?_, fun t ht => ?_⟩
    · show (if t = d then _ else (canonA C ops L rs st k).slots t) = _
      by_cases htd : t = d
      · subst htd
        have : j = k := Classical.byContradiction fun hjk => hne j k t (by omega) (by omega) hjk hdk hjt
        subst this
        rw [if_pos rfl]
      · rw [if_neg htd]
        have : j ≠ k := fun e => by subst e; rw [hjt] at hdk; exact htd (Option.some.inj hdk)
        exact h2 j t (by omega) hjt
    · show (if t = d then _ else (canonA C ops L rs st k).slots t) = _
      have htd : t ≠ d := fun e => ht k (by omega) (by rw [e]; exact hdk)
      rw [if_neg htd]
      exact h3 t fun j hj => ht j (by omega)

/-- A state in which all have put, none has taken. -/
structure AllA (C : Cx) (L : List Nat) (ops : Array Oper) (rs : Nat → AV) (st : St) (m : Nat) (s : St) : Prop where
  put : ∀ j t, j < m → dstOf ops j = some t → s.slots t = putA C ops L rs st j
  newb : ∀ j o d z, j < m → ops[j]? = some o → o.dst = some d → isAl C o = some z → s.boxes (C.base + d) = some (alZ C d z)

theorem any_tr {h : Place → AV → AV} (hl : ∀ p, h p .any = .any) (p : Place) : AV.tr h p .any = .any := by
  rw [AV.tr_leaf rfl, hl]

/-- What stays in the first and in the last state, stays in all between. -/
theorem keep_mix {D : Nat → Prop} {s fin : St} (h : IsA C L ops rs st m D s) (hf : AllA C L ops rs st m fin) {d : Nat} {z : List AV} (hnd : ∀ j, j < m → D j → dstOf ops j ≠ some d) (h1 : keep C d z st) (h2 : keepF C d z fin) : keep C d z s := by
  obtain ⟨gb, hgb⟩ := alTr_boxes C d z
  let g : Nat → AV → AV := fun t x => ((x.tr (fzLeaf (alF C d z)) (.slot t [])).tr (takeLeaf (alQ C d z)) (.slot t [])).tr (killBLeaf (C.base + d)) (.slot t [])
  have hg : ∀ s t, (alTr C d z s).slots t = g t (s.slots t) := fun _ _ => rfl
  have ga : ∀ t, g t .any = .any := fun t => by
    show ((AV.any.tr _ _).tr _ _).tr _ _ = _
    rw [any_tr (fun _ => rfl), any_tr (fun _ => rfl), any_tr (fun _ => rfl)]
  have s1 : ∀ t, g t (st.slots t) = st.slots t := fun t => by rw [← hg]; exact congrFun (congrArg St.slots h1) t
  have s2 : ∀ t, t ≠ d → g t (fin.slots t) = fin.slots t := fun t htd => by
    have h3 := congrFun (congrArg St.slots h2) t
    have e : (fin.noSlot d).slots t = fin.slots t := if_neg htd
    rw [hg, e] at h3
    exact h3
  have b1 : ∀ t, gb t (st.boxes t) = st.boxes t := fun t => by rw [← hgb]; exact congrFun (congrArg St.boxes h1) t
  have b2 : ∀ t, gb t (fin.boxes t) = fin.boxes t := fun t => by
    have h3 := congrFun (congrArg St.boxes h2) t
    rw [hgb] at h3
    exact h3
  refine St.ext' (fun t => ?_) (fun id => ?_)
  · rw [hg]
    by_cases hgn : Gone L ops m D t
    · rw [h.gone t hgn]; exact ga t
    by_cases ht : ∃ j, j < m ∧ D j ∧ dstOf ops j = some t
    · obtain ⟨j, hj, hD, hjt⟩ := ht
      rw [h.put j t hj hD hjt hgn, ← hf.put j t hj hjt]
      exact s2 t fun e => hnd j hj hD (by rw [← e]; exact hjt)
    · rw [h.old t (fun j hj hD he => ht ⟨j, hj, hD, he⟩) hgn]
      exact s1 t
  · rw [hgb]
    by_cases hb : ∃ j o d z, j < m ∧ D j ∧ ops[j]? = some o ∧ o.dst = some d ∧ isAl C o = some z ∧ id = C.base + d
    · obtain ⟨j, o, d', z', g1, g2, g3, g4, g5, rfl⟩ := hb
      rw [h.newb j o d' z' g1 g2 g3 g4 g5, ← hf.newb j o d' z' g1 g3 g4 g5]
      exact b2 _
    · rw [h.oldb id fun j o d' z' g1 g2 g3 g4 g5 e => hb ⟨j, o, d', z', g1, g2, g3, g4, g5, e⟩]
      exact b1 _

/-- The same, where a literal's row is taken. -/
theorem take_mix {D : Nat → Prop} {s fin : St} (h : IsA C L ops rs st m D s) (hf : AllA C L ops rs st m fin) {x sz : Nat} (hx : s.slots x = .sl .own sz []) (h1 : keepT x st) (h2 : keepT x fin) : s.take (srcQ x) = s.put x .any := by
  obtain ⟨gb, hgb⟩ := tkTr_boxes x
  let g : Nat → AV → AV := fun t y => y.tr (takeLeaf (srcQ x)) (.slot t [])
  have hg : ∀ s t, (tkTr x s).slots t = g t (s.slots t) := fun _ _ => rfl
  have ga : ∀ t, g t .any = .any := fun t => any_tr (fun _ => rfl) _
  have s1 : ∀ t, t ≠ x → g t (st.slots t) = st.slots t := fun t htx => by
    have h3 := congrFun (congrArg St.slots h1) t
    have e : (st.noSlot x).slots t = st.slots t := if_neg htx
    rw [hg, e] at h3
    exact h3
  have s2 : ∀ t, t ≠ x → g t (fin.slots t) = fin.slots t := fun t htx => by
    have h3 := congrFun (congrArg St.slots h2) t
    have e : (fin.noSlot x).slots t = fin.slots t := if_neg htx
    rw [hg, e] at h3
    exact h3
  have b1 : ∀ t, gb t (st.boxes t) = st.boxes t := fun t => by
    have h3 := congrFun (congrArg St.boxes h1) t
    rw [hgb] at h3
    exact h3
  have b2 : ∀ t, gb t (fin.boxes t) = fin.boxes t := fun t => by
    have h3 := congrFun (congrArg St.boxes h2) t
    rw [hgb] at h3
    exact h3
  show tkTr x s = _
  refine St.ext' (fun t => ?_) (fun id => ?_)
  · rw [hg]
    show _ = if t = x then _ else s.slots t
    by_cases htx : t = x
    · subst htx
      rw [if_pos rfl, hx]
      show AV.tr _ _ _ = _
      rw [AV.tr_leaf rfl]
      simp [takeLeaf, srcQ]
    rw [if_neg htx]
    by_cases hgn : Gone L ops m D t
    · rw [h.gone t hgn]; exact ga t
    by_cases ht : ∃ j, j < m ∧ D j ∧ dstOf ops j = some t
    · obtain ⟨j, hj, hD, hjt⟩ := ht
      rw [h.put j t hj hD hjt hgn, ← hf.put j t hj hjt]
      exact s2 t htx
    · rw [h.old t (fun j hj hD he => ht ⟨j, hj, hD, he⟩) hgn]
      exact s1 t htx
  · rw [hgb]
    show _ = s.boxes id
    by_cases hb : ∃ j o d z, j < m ∧ D j ∧ ops[j]? = some o ∧ o.dst = some d ∧ isAl C o = some z ∧ id = C.base + d
    · obtain ⟨j, o, d', z', g1, g2, g3, g4, g5, rfl⟩ := hb
      rw [h.newb j o d' z' g1 g2 g3 g4 g5, ← hf.newb j o d' z' g1 g3 g4 g5]
      exact b2 _
    · rw [h.oldb id fun j o d' z' g1 g2 g3 g4 g5 e => hb ⟨j, o, d', z', g1, g2, g3, g4, g5, e⟩]
      exact b1 _
end

section
variable {C : Cx} {L : List Nat} {S : Start} {ops : Array Oper} {R : Exit → Act → World → Prop} {m : Nat}

/-- Behind the first m operations there is but one order. -/
theorem draw_tailA (D : DrawA ops m) (hbase : S.k ≤ C.base) {K : St → Prop} (hR : ∀ E a, Inv C.N S E → a.tmps = E.tm → a.defers = [] → K E.st → R .normal a E.w) :
    ∀ (fuel k : Nat) (listed : Array Bool) (E : Env) (a : Act), k ≤ ops.size → ops.size ≤ k + fuel → m ≤ k → listed.size = ops.size → (∀ j, j < ops.size → listed.getD j true = decide (j < k)) → Inv C.N S E → a.tmps = E.tm → a.defers = [] →
      aops C ops (ops.toList.drop k) E.st K → wpAny C.P .any ops R fuel listed a E.w := by
  intro fuel
  have fin : ∀ (fuel k : Nat) (listed : Array Bool) (E : Env) (a : Act), k = ops.size → (∀ j, j < ops.size → listed.getD j true = decide (j < k)) → Inv C.N S E → a.tmps = E.tm → a.defers = [] → aops C ops (ops.toList.drop k) E.st K → wpAny C.P .any ops R fuel listed a E.w := by
    intro fuel k listed E a hk hl I ha hd h
    subst hk
    refine wpAny_done ?_ ?_ fuel
    · apply List.eq_nil_iff_forall_not_mem.2
      intro j hj
      obtain ⟨h1, o, ho, _⟩ := mem_ready.1 hj
      have hlt := (Array.getElem?_eq_some_iff.1 ho).1
      rw [hl j hlt] at h1
      simp [hlt] at h1
    · rw [List.drop_eq_nil_of_le (by simp)] at h
      exact hR E a I ha hd h
  induction fuel with
  | zero =>
    intro k listed E a hk hk2 hm hs hl I ha hd h
    exact fin 0 k listed E a (by omega) hl I ha hd h
  | succ fuel ih =>
    intro k listed E a hk hk2 hm hs hl I ha hd h
    by_cases hke : k = ops.size
    · exact fin _ k listed E a hke hl I ha hd h
    have hlt : k < ops.size := by omega
    have ho : ops[k]? = some ops[k] := Array.getElem?_eq_getElem hlt
    have hgf : ∀ j, j < ops.size → listed.getD j false = decide (j < k) := fun j hj => by
      have h1 := hl j hj
      have hjs : j < listed.size := by omega
      rw [Array.getD_eq_getD_getElem?, Array.getElem?_eq_getElem hjs] at h1 ⊢
      exact h1
    have hcl : ClosedL ops listed := fun i j hi hr => by
      have hio : i < ops.size := by
        cases hr with
        | one ho' _ => exact (Array.getElem?_eq_some_iff.1 ho').1
        | more ho' _ _ => exact (Array.getElem?_eq_some_iff.1 ho').1
      rw [hgf i hio] at hi
      have hij := hr.lt D
      have hi : i < k := by simpa using hi
      rw [hgf j (by omega)]
      simp; omega
    have hkr : k ∈ Region.ready .any ops listed := by
      refine mem_ready.2 ⟨by rw [hl k hlt]; simp, _, ho, fun e he hb => ?_⟩
      have := D.back k _ ho e he hb
      rw [hgf e.on (by omega)]; simpa using this
    refine ⟨fun h0 => by rw [h0] at hkr; simp at hkr, fun i hi => ?_⟩
    have hik : i = k := by
      obtain ⟨h1, o, hoi, h2⟩ := mem_ready.1 hi
      have hil := (Array.getElem?_eq_some_iff.1 hoi).1
      rw [hl i hil] at h1
      have h1 : ¬ i < k := by simpa using h1
      refine Classical.byContradiction fun hne => ?_
      have := ready_reach hcl hi (D.tail i o (by omega) hoi k (by omega))
      rw [hgf k hlt] at this
      simp at this
    subst hik
    have hdrop : ops.toList.drop i = ops[i] :: ops.toList.drop (i + 1) := by
      rw [List.drop_eq_getElem_cons (by simpa using hlt)]; simp
    rw [hdrop] at h
    refine aops_head I hbase ha hd ho h fun E' a' I' ha' hd' h' => ?_
    refine ih (i + 1) _ E' a' (by omega) (by omega) (by omega) (by simpa using hs) (fun j hj => ?_) I' ha' hd' h'
    by_cases hji : i = j
    · subst hji
      rw [Array.getD_eq_getD_getElem?, Array.getElem?_setIfInBounds_self_of_lt (by omega)]
      simp
    · rw [getD_set_ne true hji, hl j hj]
      have : (j < i) ↔ (j < i + 1) := by omega
      simp [this]

/-- A box is made: nothing else turns. -/
theorem al_head {E : Env} (I : Inv C.N S E) (hbase : S.k ≤ C.base) {a : Act} (ha : a.tmps = E.tm) (hd : a.defers = []) {i d : Nat} {o : Oper} {z : List AV} (ho : ops[i]? = some o) (hdst : o.dst = some d) (hal : isAl C o = some z) (hok : alOk C d z) (hk : keep C d z E.st)
    {next : Act → World → Prop} (hnext : ∀ E' a', Inv C.N S E' → a'.tmps = E'.tm → a'.defers = [] → E'.st = (E.st.setBox (C.base + d) (some (alZ C d z))).put d (.ptr (C.base + d) 0) → next a' E'.w) : wpOp C.P ops R i next a E.w := by
  unfold isAl at hal
  split at hal
  · rename_i t hop hg
    obtain ⟨y, hy, rfl⟩ := Option.map_eq_some_iff.1 hal
    unfold wpOp
    simp only [ho]
    have hw : Region.wanted o (yielded ops a.tmps) = true := by simp [Region.wanted, hg]
    rw [if_pos hw]
    refine .inl (wp_alloc (K := fun s => s = (E.st.setBox (C.base + d) (some (alZ C d y.zero))).put d (.ptr (C.base + d) 0)) I hbase ha (fun E' a' I' ha' hd' hK => hnext E' a' I' ha' (hd'.trans hd) hK) hy hdst hop ?_)
    obtain ⟨h1, h2, h3, h4, h5⟩ := hok
    refine ⟨h1, h2, h3, h4, h5, ?_⟩
    show (((alTr C d y.zero E.st).setBox (C.base + d) (some (alZ C d y.zero))).put d (.ptr (C.base + d) 0)) = _
    rw [show alTr C d y.zero E.st = E.st from hk]
  · cases hal

/-- An empty literal. -/
theorem lit_head {E : Env} (I : Inv C.N S E) {a : Act} (ha : a.tmps = E.tm) (hd : a.defers = []) {i d t : Nat} {o : Oper} (ho : ops[i]? = some o) (hdst : o.dst = some d) (hl : isLit o = some t) (hok : (qbs C t 0 []).ok) (hN : d < C.N) (hf : (E.st.slots d).free = true)
    {next : Act → World → Prop} (hnext : ∀ E' a', Inv C.N S E' → a'.tmps = E'.tm → a'.defers = [] → E'.st = E.st.put d (.sl .own (szOf C.T t) []) → next a' E'.w) : wpOp C.P ops R i next a E.w := by
  unfold isLit at hl
  split at hl
  · rename_i t' len parts hop hg
    split at hl
    · rename_i h0
      cases hl
      obtain ⟨rfl, hp⟩ := h0
      have hpe : parts = #[] := Array.eq_empty_of_size_eq_zero hp
      subst hpe
      unfold wpOp
      simp only [ho]
      have hw : Region.wanted o (yielded ops a.tmps) = true := by simp [Region.wanted, hg]
      rw [if_pos hw]
      unfold qbs at hok
      split at hok
      · rename_i e hk
        split at hok
        · rename_i y hy
          split at hok
          · rename_i cs hcs
            obtain ⟨h1, h2, h3, h4, h5, h6, h7⟩ := hok
            have hsz : szOf C.T t = y.size := by
              obtain ⟨yt, hyt, hkt⟩ := Option.map_eq_some_iff.1 hk
              unfold szOf
              rw [hyt]
              simp only
              rw [hkt]
              simp only [hy]
              rfl
            refine .inl (wp_buildSlice (K := fun s => s = E.st.put d (.sl .own (szOf C.T t) [])) (sz := elemSz C.T t) I ha (fun E' a' I' ha' hd' hK => hnext E' a' I' ha' (hd'.trans hd) hK) hdst hop ?_)
            show abuildSlice C E.st d t 0 [] _
            unfold abuildSlice
            rw [hk]
            simp only
            rw [hy]
            simp only
            have hv0 : AV.vwsN (([] : List (Nat × AV)).map (·.2)) = [] := rfl
            rw [hv0]
            simp only [List.isEmpty_nil, settleF]
            have hn : (fun _ => false : Place → Bool) = noF := rfl
            rw [hcs]
            exact ⟨hN, hf, h2, h3, h4, h5, h6, h7, by rw [St.fz_no, hsz]; rfl⟩
          · exact hok.elim
        · exact hok.elim
      · exact hok.elim
    · cases hl
  · cases hl

theorem Leans.take_congr {SP : Place → Prop} {SB : Nat → Prop} {Q Q' : Place → Option Place} (hQ : ∀ q, SP q → (Q q).isSome = (Q' q).isSome) {p : Place} {x : AV} (h : Leans SP SB p x) : x.tr (takeLeaf Q) p = x.tr (takeLeaf Q') p := by
  have lst : ∀ (l : List AV) (k : Nat) (p : Place), (∀ (j : Nat) (c : AV), l[j]? = some c → c.tr (takeLeaf Q) (p.sub (k + j)) = c.tr (takeLeaf Q') (p.sub (k + j))) → AV.trL (takeLeaf Q) p k l = AV.trL (takeLeaf Q') p k l := by
    intro l
    induction l with
    | nil => intros; rfl
    | cons x l ih =>
      intro k p h
      rw [AV.trL, AV.trL, show AV.tr (takeLeaf Q) (p.sub k) x = AV.tr (takeLeaf Q') (p.sub k) x from h 0 x rfl, ih (k + 1) p fun j c hc => by rw [show k + 1 + j = k + (j + 1) by omega]; exact h (j + 1) c (by simpa using hc)]
  have lsn : ∀ (l : List AV), (∀ c ∈ l, c.tr (takeLeaf Q) .no = c.tr (takeLeaf Q') .no) → AV.trN (takeLeaf Q) l = AV.trN (takeLeaf Q') l := by
    intro l
    induction l with
    | nil => intros; rfl
    | cons x l ih =>
      intro h
      rw [AV.trN, AV.trN, h x (by simp), ih fun c hc => h c (by simp [hc])]
  induction h with
  | pt p g ix cells off hq =>
    rw [AV.tr_leaf rfl, AV.tr_leaf rfl]
    cases g <;> first | rfl | skip
    rename_i q ex
    simp only [takeLeaf, hQ q (hq q ex rfl)]
  | sl p g sz xs hq hp =>
    rw [AV.tr_leaf rfl, AV.tr_leaf rfl]
    cases g <;> first | rfl | skip
    · simp only [takeLeaf, hQ p (hp rfl)]
    · rename_i q ex
      simp only [takeLeaf, hQ q (hq q ex rfl)]
  | fn p f fi ca _ _ h1 h2 =>
    rw [AV.tr, AV.tr, lsn fi h1, lsn ca h2]
  | agg p cs _ ih =>
    rw [AV.tr, AV.tr, lst cs 0 p fun j c hc => by rw [Nat.zero_add]; exact ih j c hc]
  | tup p cs _ ih =>
    rw [AV.tr, AV.tr, lst cs 0 p fun j c hc => by rw [Nat.zero_add]; exact ih j c hc]
  | _ => rfl

/-- A free slot is neither viewed nor owns: what is taken is the literal's row alone. -/
theorem take_src {N : Nat} {E : Env} (R : Rel N E) {d t : Nat} (hf : (E.st.slots d).free = true) : E.st.take (appendQ d (.slot t [])) = E.st.take (srcQ t) := by
  have hq : ∀ q sz xs, E.st.abs q = .sl .own sz xs → (fun q => isSlotOf d q = false ∧ ∀ i, q ≠ .box i) q := by
    intro q sz xs h
    cases q with
    | slot t' π =>
      refine ⟨?_, fun i => by simp⟩
      simp only [isSlotOf, beq_eq_false_iff_ne, ne_eq]
      rintro rfl
      exact absurd h (free_noOwn π hf)
    | cell => exact ⟨rfl, fun i => by simp⟩
    | box i => cases h
    | no => cases h
  have hQ : ∀ q, (isSlotOf d q = false ∧ ∀ i, q ≠ .box i) → (appendQ d (.slot t []) q).isSome = (srcQ t q).isSome := by
    rintro q ⟨h1, h2⟩
    cases q with
    | box i => exact absurd rfl (h2 i)
    | slot t' π =>
      simp only [appendQ, srcQ, h1]
      split <;> rfl
    | cell => rfl
    | no => rfl
  refine St.ext' (fun x => ?_) (fun id => ?_)
  · exact (R.leansSlot (SP := fun q => isSlotOf d q = false ∧ ∀ i, q ≠ .box i) hq ⟨rfl, fun i => by simp⟩ x).take_congr hQ
  · show (E.st.boxes id).map (AV.trC (takeLeaf (appendQ d (.slot t []))) id 0) = (E.st.boxes id).map (AV.trC (takeLeaf (srcQ t)) id 0)
    cases hb : E.st.boxes id with
    | none => rfl
    | some cs =>
      show some _ = some _
      congr 1
      have key : ∀ (l : List AV) (k : Nat), (∀ (j : Nat) (c : AV), l[j]? = some c → c.tr (takeLeaf (appendQ d (.slot t []))) (.cell id (k + j)) = c.tr (takeLeaf (srcQ t)) (.cell id (k + j))) → AV.trC (takeLeaf (appendQ d (.slot t []))) id k l = AV.trC (takeLeaf (srcQ t)) id k l := by
        intro l
        induction l with
        | nil => intros; rfl
        | cons x l ih =>
          intro k h
          rw [AV.trC, AV.trC, show AV.tr (takeLeaf (appendQ d (.slot t []))) (.cell id k) x = AV.tr (takeLeaf (srcQ t)) (.cell id k) x from h 0 x rfl, ih (k + 1) fun j c hc => by rw [show k + 1 + j = k + (j + 1) by omega]; exact h (j + 1) c (by simpa using hc)]
      exact key cs 0 fun j c hc => by
        rw [Nat.zero_add]
        exact (R.leansCell (SP := fun q => isSlotOf d q = false ∧ ∀ i, q ≠ .box i) hq ⟨rfl, fun i => by simp⟩ hb hc).take_congr hQ

/-- A literal's row, appended to. -/
theorem app_head {E : Env} (I : Inv C.N S E) {a : Act} (ha : a.tmps = E.tm) (hd : a.defers = []) {i d t sz0 : Nat} {o : Oper} (ho : ops[i]? = some o) (hdst : o.dst = some d) (hs : srcOf L o = some t) (hok : (qappO C o E.st).ok) (hN : d < C.N) (hx : E.st.slots t = .sl .own sz0 []) (hfr : (E.st.slots d).free = true) (htk : E.st.take (srcQ t) = E.st.put t .any)
    {next : Act → World → Prop} (hnext : ∀ E' a', Inv C.N S E' → a'.tmps = E'.tm → a'.defers = [] → E'.st = (E.st.put t .any).put d (qappO C o E.st).v → next a' E'.w) : wpOp C.P ops R i next a E.w := by
  unfold srcOf at hs
  split at hs
  · rename_i args ts hop hg
    split at hs
    · rename_i t' x hargs
      split at hs
      · cases hs
        unfold wpOp
        simp only [ho]
        have hw : Region.wanted o (yielded ops a.tmps) = true := by simp [Region.wanted, hg]
        rw [if_pos hw]
        have hq : qappO C o E.st = qapp C (rdArgs C E.st args.toList ts.toList) ts.toList := by unfold qappO; rw [hop]
        rw [hq] at hok hnext
        have hhead : ∀ u l, rdArgs C E.st args.toList ts.toList = u :: l → u = .sl (.vw (.slot t []) true) sz0 [] := fun u l he => by
          rw [hargs] at he
          have hr : ∀ n, E.st.rd n (.tmp t) = .sl (.vw (.slot t []) true) sz0 [] := fun n => by
            show (E.st.slots t).view (.slot t []) = _
            rw [hx]
            unfold AV.view
            rw [AV.tr_leaf rfl]
            rfl
          cases hts : ts.toList with
          | nil => rw [hts, rdArgs, hr] at he; exact (List.cons.inj he).1.symm
          | cons b l' => rw [hts, rdArgs, hr] at he; exact (List.cons.inj he).1.symm
        generalize hrd : rdArgs C E.st args.toList ts.toList = l1 at hok hnext hhead
        generalize hts : ts.toList = l2 at hok hnext hrd
        unfold qapp at hok hnext
        split at hok
        · rename_i t'' sz x' t1 t2
          have hh := hhead _ _ rfl
          have e2 : sz = sz0 := by injection hh
          subst e2
          simp only at hnext
          split at hok
          · rename_i e e2' sz2 ys hk hk2 hap
            rw [hk, hk2, hap] at hnext
            simp only at hnext
            split at hok
            · rename_i y hy
              rw [hy] at hnext
              simp only at hnext
              obtain ⟨hby, h2, h3, h4⟩ := hok
              subst h2
              refine .inl (wp_append (K := fun s => s = (E.st.put t .any).put d (.sl .own y.size ys)) I ha (fun E' a' I' ha' hd' hK => hnext E' a' I' ha' (hd'.trans hd) hK) hdst hop ?_)
              rw [hts, hrd, hh]
              show aappend C E.st d t1 t2 (.sl (.vw (.slot t []) true) sz []) x' _
              unfold aappend
              rw [hk, hk2, hap]
              simp only
              rw [hy]
              exact ⟨hN, hby, rfl, h3, by simpa using h4, by rw [take_src I.rel hfr, htk, List.nil_append]⟩
            · exact hok.elim
          · exact hok.elim
        · exact hok.elim
      · cases hs
    · cases hs
  · cases hs

theorem srcOf_looks {L : List Nat} {ops : Array Oper} {o : Oper} {t : Nat} (h : srcOf L o = some t) : t ∈ o.looksAt ops := by
  unfold srcOf at h
  split at h
  · rename_i args ts hop hg
    split at h
    · rename_i t' x hargs
      split at h
      · cases h
        refine List.mem_append_left _ (List.mem_filterMap.2 ⟨.tmp t, ?_, rfl⟩)
        rw [hop]
        have : Operand.tmp t ∈ args.toList := by rw [hargs]; simp
        simp [Op.operands, Call.operands]
        simpa using this
      · cases h
    · cases h
  · cases h

theorem srcOf_mem {L : List Nat} {o : Oper} {t : Nat} (h : srcOf L o = some t) : t ∈ L := by
  unfold srcOf at h
  split at h
  · split at h
    · rename_i t' x hargs
      split at h
      · rename_i hany
        cases h
        simpa using hany
      · cases h
    · cases h
  · cases h

theorem isLit_src {L : List Nat} {o : Oper} {t : Nat} (h : isLit o = some t) : srcOf L o = none := by
  unfold isLit at h
  split at h
  · rename_i hop hg
    unfold srcOf
    rw [hop]
  · cases h
theorem isLit_al {C : Cx} {o : Oper} {t : Nat} (h : isLit o = some t) : isAl C o = none := by
  unfold isLit at h
  split at h
  · rename_i hop hg
    unfold isAl
    rw [hop]
  · cases h
theorem isAl_src {C : Cx} {L : List Nat} {o : Oper} {z : List AV} (h : isAl C o = some z) : srcOf L o = none := by
  unfold isAl at h
  split at h
  · rename_i hop hg
    unfold srcOf
    rw [hop]
  · cases h
theorem qappO_congr {C : Cx} {ops : Array Oper} {o : Oper} {s s' : St} (h : ∀ t ∈ o.looksAt ops, s.slots t = s'.slots t) : qappO C o s = qappO C o s' := by
  unfold qappO
  split
  · rename_i args ts hop
    rw [rdArgs_congr args.toList ts.toList fun x hx t ht => h t (List.mem_append_left _ (List.mem_filterMap.2 ⟨x, by rw [hop]; simp [Op.operands, Call.operands]; simpa using hx, by rw [ht]⟩))]
  · rfl

/-- The first m operations put their values, and make their boxes, in any order. -/
theorem draw_putsA (D : DrawA ops m) (hbase : S.k ≤ C.base) {rs : Nat → AV} {st : St} {K : St → Prop} (hR : ∀ E a, Inv C.N S E → a.tmps = E.tm → a.defers = [] → K E.st → R .normal a E.w)
    (hcan : ∀ j, j < m → ∃ o d, ops[j]? = some o ∧ o.dst = some d ∧ okA C ops L (rs j) o d (canonA C ops L rs st j)) {fin finU : St} (hfinA : IsA C L ops rs st m (fun _ => True) fin) (hU : AllA C L ops rs st m finU) (hso : srcOk L ops m = true) (hL : ∀ t ∈ L, ∃ j oj tj, j < m ∧ ops[j]? = some oj ∧ oj.dst = some t ∧ isLit oj = some tj)
    (hk1 : ∀ j o d z, j < m → ops[j]? = some o → o.dst = some d → isAl C o = some z → keep C d z st) (hk2 : ∀ j o d z, j < m → ops[j]? = some o → o.dst = some d → isAl C o = some z → keepF C d z finU)
    (ht1 : ∀ j o t, j < m → ops[j]? = some o → srcOf L o = some t → keepT t st) (ht2 : ∀ j o t, j < m → ops[j]? = some o → srcOf L o = some t → keepT t finU) (hfin : aops C ops (ops.toList.drop m) fin K) :
    ∀ (fuel : Nat) (listed : Array Bool) (E : Env) (a : Act), (List.range m).countP (fun j => !listed.getD j true) + (ops.size - m) ≤ fuel → listed.size = ops.size → (∀ j, m ≤ j → j < ops.size → listed.getD j true = false) → ClosedL ops listed →
      IsA C L ops rs st m (fun j => listed.getD j true = true) E.st → Inv C.N S E → a.tmps = E.tm → a.defers = [] → wpAny C.P .any ops R fuel listed a E.w := by
  have hdst : ∀ k, k < m → ∃ o d, ops[k]? = some o ∧ o.dst = some d := fun k hk => by
    obtain ⟨o, d, h1, h2, _⟩ := hcan k hk; exact ⟨o, d, h1, h2⟩
  have hne : ∀ j k d, j < m → k < m → j ≠ k → dstOf ops k = some d → dstOf ops j ≠ some d := by
    intro j k d hj hk hjk hd he
    obtain ⟨oj, dj, h1, h2⟩ := hdst j hj
    obtain ⟨ok, dk, h3, h4⟩ := hdst k hk
    refine D.dst k j ok oj hk hj hjk h3 h1 ?_
    simp only [dstOf, h1, h3, Option.bind_some] at hd he
    rw [hd, he]
  have hcs := fun k hk => canonA_slots (C := C) (L := L) (ops := ops) (rs := rs) (st := st) hdst hne k hk
  have hle := D.le
  have hold : ∀ {Dn : Nat → Prop} {s : St}, IsA C L ops rs st m Dn s → ∀ id cs, st.boxes id = some cs → s.boxes id = some cs := fun {Dn s} h id cs hc => by
    rw [h.oldb id fun j o d z hj _ ho hd hz e => ?_, hc]
    obtain ⟨o', d', ho', hd', hok⟩ := hcan j hj
    rw [ho] at ho'; cases ho'
    rw [hd] at hd'; cases hd'
    unfold okA at hok
    rw [hz] at hok
    rw [(hcs j (by omega)).1, ← e, hc] at hok
    cases hok.2
  intro fuel
  induction fuel with
  | zero =>
    intro listed E a hf hs htail hcl hT I ha hd
    have hall : ∀ j, j < m → listed.getD j true = true := fun j hj => by
      have h0 : (List.range m).countP (fun j => !listed.getD j true) = 0 := by omega
      rw [List.countP_eq_zero] at h0
      simpa using h0 j (List.mem_range.2 hj)
    have hst : E.st = fin := isA_unique (isA_congr hT (D' := fun _ => True) fun j hj => ⟨fun _ => trivial, fun _ => hall j hj⟩) hfinA
    refine draw_tailA D hbase hR 0 m listed E a hle (by omega) (Nat.le_refl m) hs (fun j hj => ?_) I ha hd (by rw [hst]; exact hfin)
    by_cases hjm : j < m
    · rw [hall j hjm]; simp [hjm]
    · rw [htail j (by omega) hj]; simp [hjm]
  | succ fuel ih =>
    intro listed E a hf hs htail hcl hT I ha hd
    by_cases hall : ∀ j, j < m → listed.getD j true = true
    · have hst : E.st = fin := isA_unique (isA_congr hT (D' := fun _ => True) fun j hj => ⟨fun _ => trivial, fun _ => hall j hj⟩) hfinA
      refine draw_tailA D hbase hR (fuel + 1) m listed E a hle (by omega) (Nat.le_refl m) hs (fun j hj => ?_) I ha hd (by rw [hst]; exact hfin)
      by_cases hjm : j < m
      · rw [hall j hjm]; simp [hjm]
      · rw [htail j (by omega) hj]; simp [hjm]
    · have hgf : ∀ j, j < ops.size → listed.getD j false = listed.getD j true := fun j hj => by
        have hjs : j < listed.size := by omega
        rw [Array.getD_eq_getD_getElem?, Array.getD_eq_getD_getElem?, Array.getElem?_eq_getElem hjs]; rfl
      have hex : ∃ j, j < m ∧ listed.getD j true = false := by
        refine Classical.byContradiction fun hn => hall fun j hj => ?_
        cases hb : listed.getD j true with
        | true => rfl
        | false => exact absurd ⟨j, hj, hb⟩ hn
      refine ⟨fun h0 => ?_, fun i hi => ?_⟩
      · exfalso
        have least : ∃ j, (j < m ∧ listed.getD j true = false) ∧ ∀ i, i < j → listed.getD i true = true := by
          obtain ⟨j, hj⟩ := hex
          induction j using Nat.strongRecOn with
          | _ j ihj =>
            by_cases hall2 : ∀ i, i < j → listed.getD i true = true
            · exact ⟨j, hj, hall2⟩
            · have : ∃ i, i < j ∧ listed.getD i true = false := by
                refine Classical.byContradiction fun hn => hall2 fun i hi => ?_
                cases hb : listed.getD i true with
                | true => rfl
                | false => exact absurd ⟨i, hi, hb⟩ hn
              obtain ⟨i, hi, hb⟩ := this
              exact ihj i hi ⟨by omega, hb⟩
        obtain ⟨j, ⟨hj1, hj2⟩, hj3⟩ := least
        obtain ⟨o, d, ho, _⟩ := hdst j hj1
        have hr : j ∈ Region.ready .any ops listed := by
          refine mem_ready.2 ⟨hj2, o, ho, fun e he hb => ?_⟩
          have h1 := D.back j o ho e he hb
          rw [hgf e.on (by omega)]; exact hj3 _ h1
        rw [h0] at hr; simp at hr
      · obtain ⟨h1, o, ho, h2⟩ := mem_ready.1 hi
        have hil := (Array.getElem?_eq_some_iff.1 ho).1
        have him : i < m := by
          refine Classical.byContradiction fun hn => ?_
          obtain ⟨j, hj1, hj2⟩ := hex
          have := ready_reach hcl hi (D.tail i o (by omega) ho j (by omega))
          rw [hgf j (by omega), hj2] at this; cases this
        obtain ⟨o', d, ho', hod, hok⟩ := hcan i him
        rw [ho] at ho'; cases ho'
        have hdi : dstOf ops i = some d := by simp [dstOf, ho, hod]
        obtain ⟨hc1, hc2, hc3⟩ := hcs i (by omega)
        have hgl : ∀ t ∈ o.looksAt ops, ¬ Gone L ops m (fun j => listed.getD j true = true) t := fun t ht ⟨c, oc, hcm, hcD, hoc, hcs⟩ => by
          have hci : c ≠ i := fun e => by
            subst e
            have h6 : listed.getD c true = true := hcD
            rw [h1] at h6; cases h6
          exact srcOk_spec hso hcm him (Ne.symm hci) hoc ho hcs ht
        have hslot : ∀ t ∈ o.looksAt ops, (canonA C ops L rs st i).slots t = E.st.slots t := by
          intro t ht
          by_cases hj : ∃ j, j < m ∧ dstOf ops j = some t
          · obtain ⟨j, hj, hjt⟩ := hj
            obtain ⟨oj, hoj, hdj⟩ := Option.bind_eq_some_iff.1 hjt
            obtain ⟨hji, hr⟩ := D.look i j o oj t him hj ho hoj ht hdj
            have hlj := ready_reach hcl hi hr
            rw [hgf j (by omega)] at hlj
            rw [hT.put j t hj hlj hjt (hgl t ht), hc2 j t hji hjt]
          · have hn : ∀ j, j < m → dstOf ops j ≠ some t := fun j hj' he => hj ⟨j, hj', he⟩
            rw [hT.old t (fun j hj _ => hn j hj) (hgl t ht), hc3 t fun j hj => hn j (by omega)]
        have hgd : ∀ c o', c < m → ops[c]? = some o' → srcOf L o' = some d → ¬ (listed.getD c true = true ∨ c = i) := fun c o' hcm hoc hcs hh => by
          obtain ⟨hic, hr⟩ := D.look c i o' o d hcm him hoc ho (srcOf_looks hcs) hod
          rcases hh with hh | rfl
          · have h5 := hcl c i (by rw [hgf c (by omega)]; exact hh) hr
            rw [hgf i (by omega), h1] at h5; cases h5
          · omega
        have hd1 : ∀ j, j < m → j ≠ i → dstOf ops j ≠ some d := fun j hj hji => hne j i d hj him hji hdi
        have hset : ∀ j, j ≠ i → (listed.setIfInBounds i true).getD j true = listed.getD j true := fun j hj => getD_set_ne true (Ne.symm hj)
        have hseti : (listed.setIfInBounds i true).getD i true = true := by
          rw [Array.getD_eq_getD_getElem?, Array.getElem?_setIfInBounds_self_of_lt (by omega)]; rfl
        have hfuel : (List.range m).countP (fun j => !(listed.setIfInBounds i true).getD j true) + (ops.size - m) ≤ fuel := by
          have := countP_lt (p := fun j => !listed.getD j true) (p' := fun j => !(listed.setIfInBounds i true).getD j true) (List.range m) (fun j _ h => by
            by_cases hji : j = i
            · subst hji; rw [hseti] at h; cases h
            · rw [hset j hji] at h; exact h) ⟨i, List.mem_range.2 him, by rw [h1]; rfl, by rw [hseti]; rfl⟩
          omega
        have hcl' : ClosedL ops (listed.setIfInBounds i true) := closed_add hcl hi (by omega)
        have hD' : ∀ {s : St}, IsA C L ops rs st m (fun j => listed.getD j true = true ∨ j = i) s → IsA C L ops rs st m (fun j => (listed.setIfInBounds i true).getD j true = true) s := fun h => isA_congr h fun j hj => by
          by_cases hji : j = i
          · subst hji; simp [hseti]
          · rw [hset j hji]; simp [hji]
        have hngd : ¬ Gone L ops m (fun j => listed.getD j true = true) d := fun ⟨c, oc, g1, g2, g3, g4⟩ => hgd c oc g1 g3 g4 (.inl g2)
        have hdE : E.st.slots d = (canonA C ops L rs st i).slots d := by
          rw [hT.old d (fun j hj hl => hd1 j hj fun e => by subst e; rw [h1] at hl; cases hl) hngd, hc3 d (fun j hj => hd1 j (by omega) (by omega))]
        have hnd : ∀ j, j < m → listed.getD j true = true → dstOf ops j ≠ some d := fun j hj hl => hd1 j hj fun e => by subst e; rw [h1] at hl; cases hl
        unfold okA at hok
        cases hal : isAl C o with
        | some z =>
          rw [hal] at hok
          refine al_head I hbase ha hd ho hod hal hok.1 (keep_mix hT hU hnd (hk1 i o d z him ho hod hal) (hk2 i o d z him ho hod hal)) fun E' a' I' ha' hd' hst' => ?_
          refine ih _ E' a' hfuel (by simpa using hs) (fun j hj hjl => by rw [hset j (by omega)]; exact htail j hj hjl) hcl' (hD' ?_) I' ha' hd'
          rw [hst']
          exact isA_box hT him ho hod hal (isAl_src hal) (fun j hj hji => hd1 j hj hji) hgd
        | none =>
          rw [hal] at hok
          simp only at hok
          cases hlit : isLit o with
          | some tl =>
            rw [hlit] at hok
            have hput : putA C ops L rs st i = .sl .own (szOf C.T tl) [] := by simp [putA, ho, hod, vA, hal, hlit]
            refine lit_head I ha hd ho hod hlit hok.1 hok.2.1 (by rw [hdE]; exact hok.2.2) fun E' a' I' ha' hd' hst' => ?_
            refine ih _ E' a' hfuel (by simpa using hs) (fun j hj hjl => by rw [hset j (by omega)]; exact htail j hj hjl) hcl' (hD' ?_) I' ha' hd'
            rw [hst', ← hput]
            exact isA_put hT him ho hod hal (fun j hj hji => hd1 j hj hji) hgd (.inl ⟨rfl, isLit_src hlit⟩)
          | none =>
            rw [hlit] at hok
            simp only at hok
            cases hsr : srcOf L o with
            | some t =>
              rw [hsr] at hok
              have hlook := srcOf_looks (ops := ops) hsr
              obtain ⟨j, oj, tj, hj, hoj, hdj, hlj⟩ := hL t (srcOf_mem hsr)
              have hjt : dstOf ops j = some t := by simp [dstOf, hoj, hdj]
              have hji := (D.look i j o oj t him hj ho hoj hlook hdj).1
              have hpj : putA C ops L rs st j = .sl .own (szOf C.T tj) [] := by simp [putA, hoj, hdj, vA, isLit_al hlj, hlj]
              have hx : E.st.slots t = .sl .own (szOf C.T tj) [] := by rw [← hslot t hlook, hc2 j t hji hjt, hpj]
              have hqe : qappO C o E.st = qappO C o (canonA C ops L rs st i) := (qappO_congr fun t' ht' => hslot t' ht').symm
              have hput : putA C ops L rs st i = (qappO C o (canonA C ops L rs st i)).v := by simp [putA, ho, hod, vA, hal, hlit, hsr]
              refine app_head I ha hd ho hod hsr (by rw [hqe]; exact hok.1) hok.2.1 hx (by rw [hdE]; exact hok.2.2) (take_mix hT hU hx (ht1 i o t him ho hsr) (ht2 i o t him ho hsr)) fun E' a' I' ha' hd' hst' => ?_
              refine ih _ E' a' hfuel (by simpa using hs) (fun j hj hjl => by rw [hset j (by omega)]; exact htail j hj hjl) hcl' (hD' ?_) I' ha' hd'
              rw [hst', hqe, ← hput]
              exact isA_put hT him ho hod hal (fun j hj hji => hd1 j hj hji) hgd (.inr ⟨t, hsr, rfl⟩)
            | none =>
              rw [hsr] at hok
              obtain ⟨hok, hdN, hfree⟩ := hok
              have hpeq : popg C ops (rs i) o E.st = popg C ops (rs i) o (canonA C ops L rs st i) := popg_mono hslot (fun id cs hc => by rw [hc1] at hc; exact hold hT id cs hc) hok
              have hput : putA C ops L rs st i = (popg C ops (rs i) o (canonA C ops L rs st i)).v := by simp [putA, ho, hod, vA, hal, hlit, hsr]
              refine pop_head I hbase ha hd ho hod (by rw [hpeq]; exact hok) hdN (by rw [hdE]; exact hfree) fun E' a' I' ha' hd' hst' => ?_
              refine ih _ E' a' hfuel (by simpa using hs) (fun j hj hjl => by rw [hset j (by omega)]; exact htail j hj hjl) hcl' (hD' ?_) I' ha' hd'
              rw [hst', hpeq, ← hput]
              exact isA_put hT him ho hod hal (fun j hj hji => hd1 j hj hji) hgd (.inl ⟨rfl, hsr⟩)
end
end Go.AM
namespace Go.AM

theorem aputsA_get {C : Cx} {ops : Array Oper} {L : List Nat} {rs : Nat → AV} {st : St} {m : Nat} {K : St → Prop} (hm : m ≤ ops.size) : ∀ (l : List Oper) (k : Nat), k ≤ m → l = (ops.toList.take m).drop k → aputsA C ops L rs k l (canonA C ops L rs st k) K →
    (∀ j, k ≤ j → j < m → ∃ o d, ops[j]? = some o ∧ o.dst = some d ∧ okA C ops L (rs j) o d (canonA C ops L rs st j)) ∧ K (canonA C ops L rs st m)
  | [], k, hk, hl, h => by
    have : m ≤ k := by
      have := congrArg List.length hl
      simp at this; omega
    have hkm : k = m := by omega
    subst hkm
    exact ⟨fun j h1 h2 => absurd h1 (by omega), h⟩
  | o :: rest, k, hk, hl, h => by
    have hlt : k < m := by
      have := congrArg List.length hl
      simp at this; omega
    have ho : ops[k]? = some o := by
      have := congrArg (·[0]?) hl
      simp only [List.getElem?_cons_zero, List.getElem?_drop, Nat.add_zero, List.getElem?_take, hlt, if_true] at this
      rw [← Array.getElem?_toList]; exact this.symm
    have hrest : rest = (ops.toList.take m).drop (k + 1) := by
      have := congrArg List.tail hl
      simpa [List.tail_drop] using this
    rw [aputsA] at h
    split at h
    · rename_i d hd
      obtain ⟨h1, h4⟩ := h
      have e : canonA C ops L rs st (k + 1) = (canonA C ops L rs st k).put d (vA C ops L (rs k) o d (canonA C ops L rs st k)) := by simp [canonA, ho, hd]
      rw [← e] at h4
      obtain ⟨g1, g2⟩ := aputsA_get hm rest (k + 1) (by omega) hrest h4
      refine ⟨fun j hj1 hj2 => ?_, g2⟩
      by_cases hjk : j = k
      · subst hjk; exact ⟨o, d, ho, hd, h1⟩
      · exact g1 j (by omega) hj2
    · exact h.elim

/-- What is asked of the first and the last state. -/
def sideA (C : Cx) (L : List Nat) (l : List Oper) (st fin : St) : Prop := keeps C l st ∧ keepsF C l fin ∧ tks L l st ∧ tks L l fin

theorem getD_listed (n j : Nat) (d : Bool) (h : j < n) : (Array.replicate n false).getD j d = false := by simp [h]

section
variable {C : Cx} {Q : Exit → St → Prop} {st : St}

/-- A region that draws its order. -/
theorem AWp.drawA (m : Nat) (rs : Nat → AV) {id : Nat} {ops : Array Oper} (hmix : C.P.follows .mixedOrders = true) (hok : (drawOkA ops m && srcOk (litsOf (ops.toList.take m)) ops m) = true)
    (h : aputsA C ops (litsOf (ops.toList.take m)) rs 0 (ops.toList.take m) st fun s => sideA C (litsOf (ops.toList.take m)) (ops.toList.take m) st (s.addB (newsA C (ops.toList.take m))) ∧ aops C ops (ops.toList.drop m) ((s.addB (newsA C (ops.toList.take m))).noSlots (srcs (litsOf (ops.toList.take m)) (ops.toList.take m))) (Q .normal)) : AWp C (.region id ops true) st Q := by
  generalize hLe : litsOf (ops.toList.take m) = L at h hok
  intro S E a hb I ha hd he
  rw [Bool.and_eq_true] at hok
  have D := drawOkA_spec hok.1
  obtain ⟨hcan, ⟨hk1, hk2, ht1, ht2⟩, hfin⟩ := aputsA_get D.le _ 0 (by omega) (by simp) h
  have hle := D.le
  have hdst : ∀ k, k < m → ∃ o d, ops[k]? = some o ∧ o.dst = some d := fun k hk => by
    obtain ⟨o, d, h1, h2, _⟩ := hcan k (by omega) hk; exact ⟨o, d, h1, h2⟩
  have hne : ∀ j k d, j < m → k < m → j ≠ k → dstOf ops k = some d → dstOf ops j ≠ some d := by
    intro j k d hj hk hjk hd he
    obtain ⟨oj, dj, h1, h2⟩ := hdst j hj
    obtain ⟨ok, dk, h3, h4⟩ := hdst k hk
    refine D.dst k j ok oj hk hj hjk h3 h1 ?_
    simp only [dstOf, h1, h3, Option.bind_some] at hd he
    rw [hd, he]
  obtain ⟨c1, c2, c3⟩ := canonA_slots (C := C) (L := L) (rs := rs) (st := st) hdst hne m (Nat.le_refl m)
  have hmem : ∀ j o, j < m → ops[j]? = some o → o ∈ ops.toList.take m := fun j o hj ho => by
    rw [List.mem_take_iff_getElem]
    have hjl : j < ops.size := by omega
    rw [Array.getElem?_eq_getElem hjl] at ho
    exact ⟨j, by simp; omega, by simpa using ho⟩
  have hat : ∀ o, o ∈ ops.toList.take m → ∃ j, j < m ∧ ops[j]? = some o := fun o ho => by
    rw [List.mem_take_iff_getElem] at ho
    obtain ⟨j, hj, rfl⟩ := ho
    exact ⟨j, by omega, by rw [← Array.getElem?_toList, List.getElem?_eq_getElem]⟩
  have hL : ∀ t ∈ L, ∃ j oj tj, j < m ∧ ops[j]? = some oj ∧ oj.dst = some t ∧ isLit oj = some tj := fun t ht => by
    rw [← hLe] at ht
    obtain ⟨o, h1, h2, h3⟩ := mem_litsOf ht
    obtain ⟨j, hj, hoj⟩ := hat o h1
    obtain ⟨tj, htj⟩ := Option.isSome_iff_exists.1 h3
    exact ⟨j, o, tj, hj, hoj, h2, htj⟩
  have hU : AllA C L ops rs st m ((canonA C ops L rs st m).addB (newsA C (ops.toList.take m))) := by
    refine ⟨fun j t hj hjt => c2 j t hj hjt, fun j o d z hj ho hd hz => ?_⟩
    have h1 := newsA_mem (C := C) (hmem j o hj ho) hd hz
    obtain ⟨cs, hcs⟩ := Option.isSome_iff_exists.1 h1
    obtain ⟨o', ho', d', z', hd', hz', he', rfl⟩ := newsA_get hcs
    have hdd : d' = d := (Nat.add_left_cancel he').symm
    subst hdd
    obtain ⟨j', hj', ho''⟩ := hat o' ho'
    have hjj : j' = j := Classical.byContradiction fun hn => hne j' j d' hj' hj hn (by simp [dstOf, ho, hd]) (by simp [dstOf, ho'', hd'])
    subst hjj
    rw [ho] at ho''; cases ho''
    rw [hz] at hz'; cases hz'
    show (match (newsA C (ops.toList.take m)).lookup (C.base + d') with | some cs => some cs | none => _) = _
    rw [hcs]
  have hg : ∀ t, Gone L ops m (fun _ => True) t ↔ (srcs L (ops.toList.take m)).contains t = true := fun t => by
    rw [List.contains_iff_mem, mem_srcs]
    constructor
    · rintro ⟨c, o, h1, _, h2, h3⟩; exact ⟨o, hmem c o h1 h2, h3⟩
    · rintro ⟨o, h1, h2⟩
      obtain ⟨j, hj, hoj⟩ := hat o h1
      exact ⟨j, o, hj, trivial, hoj, h2⟩
  have hfinA : IsA C L ops rs st m (fun _ => True) (((canonA C ops L rs st m).addB (newsA C (ops.toList.take m))).noSlots (srcs L (ops.toList.take m))) := by
    refine ⟨fun j t hj _ hjt hgn => ?_, fun t hgn => ?_, fun t ht hgn => ?_, fun j o d z hj _ ho hd hz => hU.newb j o d z hj ho hd hz, fun id hi => ?_⟩
    · show (if _ then _ else _) = _
      rw [if_neg fun h => hgn ((hg t).2 h)]
      exact c2 j t hj hjt
    · show (if _ then _ else _) = _
      rw [if_pos ((hg t).1 hgn)]
    · show (if _ then _ else _) = _
      rw [if_neg fun h => hgn ((hg t).2 h)]
      exact c3 t fun j hj => ht j hj trivial
    · have hn : (newsA C (ops.toList.take m)).lookup id = none := by
        cases hc : (newsA C (ops.toList.take m)).lookup id with
        | none => rfl
        | some cs =>
          obtain ⟨o, ho, d, z, hd, hz, he, _⟩ := newsA_get hc
          obtain ⟨j, hj, hoj⟩ := hat o ho
          exact absurd he (hi j o d z hj trivial hoj hd hz)
      show (match (newsA C (ops.toList.take m)).lookup id with | some cs => some cs | none => _) = _
      rw [hn]
      simp only [c1]
  refine wp_region_any hmix ?_
  refine draw_putsA (E := { E with w := { E.w with drawn := E.w.drawn + 1 } }) (st := st) D hb (K := Q .normal) (R := APost C S Q) (fun E a I ha hd h => ⟨E, rfl, I, ha, hd, h⟩) (fun j hj => hcan j (by omega) hj) hfinA hU hok.2 hL
    (fun j o d z hj ho hd hz => keeps_get hk1 (hmem j o hj ho) hd hz) (fun j o d z hj ho hd hz => keepsF_get hk2 (hmem j o hj ho) hd hz)
    (fun j o t hj ho hz => tks_get ht1 (hmem j o hj ho) hz) (fun j o t hj ho hz => tks_get ht2 (hmem j o hj ho) hz) hfin ops.size (Array.replicate ops.size false) a ?_ (by simp) (fun j _ hj => getD_listed _ _ _ hj) ?_ ?_ (I.drawn _ (Nat.le_succ _)) ha hd
  · have h1 : (List.range m).countP (fun j => !(Array.replicate ops.size false).getD j true) ≤ (List.range m).length := List.countP_le_length
    rw [List.length_range] at h1
    omega
  · intro i j hi _
    rw [Array.getD_eq_getD_getElem?] at hi
    rcases Nat.lt_or_ge i ops.size with h1 | h1
    · rw [Array.getElem?_replicate, if_pos h1] at hi; cases hi
    · rw [Array.getElem?_replicate, if_neg (by omega)] at hi; cases hi
  · refine ⟨fun j t hj hD _ _ => ?_, fun t hgn => ?_, fun t _ _ => by rw [← he], fun j o d z hj hD => ?_, fun id _ => by rw [← he]⟩
    · rw [getD_listed _ _ _ (by omega)] at hD; cases hD
    · obtain ⟨c, o, h1, h2, _⟩ := hgn
      have h2' : (Array.replicate ops.size false).getD c true = true := h2
      rw [getD_listed _ _ _ (by omega)] at h2'; cases h2'
    · rw [getD_listed _ _ _ (by omega)] at hD; cases hD

theorem AWp.goA (m : Nat) (rs : Nat → AV) (ks kb : List Nat) {id : Nat} {ops : Array Oper} {y : Code} (hmix : C.P.follows .mixedOrders = true) (hok : (drawOkA ops m && srcOk (litsOf (ops.toList.take m)) ops m) = true)
    (h : ∀ K : St → Prop, (∀ l bx, AWp C y (St.of l bx) Q → K (St.of l bx)) → aputsA C ops (litsOf (ops.toList.take m)) rs 0 (ops.toList.take m) st fun s => sideA C (litsOf (ops.toList.take m)) (ops.toList.take m) st (s.addB (newsA C (ops.toList.take m))) ∧
      aops C ops (ops.toList.drop m) ((s.addB (newsA C (ops.toList.take m))).noSlots (srcs (litsOf (ops.toList.take m)) (ops.toList.take m))) fun s => K (St.of (seeS ks kb s ks) (seeB ks kb s kb))) : AWp C (.seq (.region id ops true) y) st Q := by
  refine AWp.seq (AWp.post (fun _ => (ks, kb)) ((AWp.drawA (Q := fun e s => thenQ (fun s => AWp C y (s.clean ks kb) Q) (fun _ _ => False) e s) m rs hmix hok ?_).mono ?_))
  · have := h (fun s => AWp C y s Q) fun _ _ h => h
    simp only [← St.clean_eq] at this
    exact this
  · intro e s hs
    cases e with
    | normal => exact hs
    | _ => exact hs.elim

theorem AWp.stepA (m : Nat) (rs : Nat → AV) (ks kb : List Nat) (l : List (Nat × AV)) (bx : Boxes) {id : Nat} {ops : Array Oper} {y : Code} (hmix : C.P.follows .mixedOrders = true) (hok : (drawOkA ops m && srcOk (litsOf (ops.toList.take m)) ops m) = true)
    (h : aputsA C ops (litsOf (ops.toList.take m)) rs 0 (ops.toList.take m) st fun s => sideA C (litsOf (ops.toList.take m)) (ops.toList.take m) st (s.addB (newsA C (ops.toList.take m))) ∧ aops C ops (ops.toList.drop m) ((s.addB (newsA C (ops.toList.take m))).noSlots (srcs (litsOf (ops.toList.take m)) (ops.toList.take m))) fun s => s.sees ks kb l bx) (h2 : AWp C y (St.of l bx) Q) : AWp C (.seq (.region id ops true) y) st Q := by
  refine AWp.seq (AWp.postFit (AWp.post (fun _ => (ks, kb)) ((AWp.drawA (Q := fun e s => thenQ (fun s => s.sees ks kb l bx) (fun _ _ => False) e s) m rs hmix hok h).mono ?_)))
  intro e s hs
  cases e with
  | normal => exact ⟨_, St.sees_fits hs, h2⟩
  | _ => exact hs.elim

theorem AWp.lastA (m : Nat) (rs : Nat → AV) (ks kb : List Nat) (l : List (Nat × AV)) (bx : Boxes) {id : Nat} {ops : Array Oper} (hmix : C.P.follows .mixedOrders = true) (hok : (drawOkA ops m && srcOk (litsOf (ops.toList.take m)) ops m) = true)
    (h : aputsA C ops (litsOf (ops.toList.take m)) rs 0 (ops.toList.take m) st fun s => sideA C (litsOf (ops.toList.take m)) (ops.toList.take m) st (s.addB (newsA C (ops.toList.take m))) ∧ aops C ops (ops.toList.drop m) ((s.addB (newsA C (ops.toList.take m))).noSlots (srcs (litsOf (ops.toList.take m)) (ops.toList.take m))) fun s => s.sees ks kb l bx) (h2 : Q .normal (St.of l bx)) : AWp C (.region id ops true) st Q := by
  refine AWp.postFit (AWp.post (fun _ => (ks, kb)) ((AWp.drawA (Q := fun e s => thenQ (fun s => s.sees ks kb l bx) (fun _ _ => False) e s) m rs hmix hok h).mono ?_))
  intro e s hs
  cases e with
  | normal => exact ⟨_, St.sees_fits hs, h2⟩
  | _ => exact hs.elim
end

attribute [simp] qapp qappO isLit srcOf isAl okA vA alOk keep keepF alQ alF alZ sideA keepT srcQ
@[simp] theorem aputsA_nil {C : Cx} {ops : Array Oper} {L : List Nat} {rs : Nat → AV} {k : Nat} {st : St} {K : St → Prop} : aputsA C ops L rs k [] st K = K st := rfl
@[simp] theorem aputsA_cons {C : Cx} {ops : Array Oper} {L : List Nat} {rs : Nat → AV} {k d : Nat} {op type pos after guard} {rest : List Oper} {st : St} {K : St → Prop} : aputsA C ops L rs k (⟨some d, op, type, pos, after, guard⟩ :: rest) st K =
    (okA C ops L (rs k) ⟨some d, op, type, pos, after, guard⟩ d st ∧ aputsA C ops L rs (k + 1) rest (st.put d (vA C ops L (rs k) ⟨some d, op, type, pos, after, guard⟩ d st)) K) := rfl
@[congr] theorem aputsA_congr {C : Cx} {ops : Array Oper} {L L' : List Nat} {rs : Nat → AV} {k k' : Nat} {l l' : List Oper} {st st' : St} {K : St → Prop} (hl : L = L') (h0 : k = k') (h1 : l = l') (h2 : st = st') : aputsA C ops L rs k l st K = aputsA C ops L' rs k' l' st' K := by
  subst_vars; rfl
@[simp] theorem alTr_of {C : Cx} {d : Nat} {z : List AV} {l : List (Nat × AV)} {bx : Boxes} : alTr C d z (St.of l bx) = ((St.of l bx).settle (alQ C d z) (alF C d z)).killB (C.base + d) := rfl
@[simp] theorem tkTr_of {t : Nat} {l : List (Nat × AV)} {bx : Boxes} : tkTr t (St.of l bx) = (St.of l bx).take (srcQ t) := rfl
@[simp] theorem litsOf_nil : litsOf [] = [] := rfl
@[simp] theorem litsOf_cons {d : Nat} {op type pos after guard} {rest : List Oper} : litsOf (⟨some d, op, type, pos, after, guard⟩ :: rest) = match isLit ⟨some d, op, type, pos, after, guard⟩ with
    | some _ => d :: litsOf rest
    | none => litsOf rest := by
  rw [litsOf]
  cases isLit ⟨some d, op, type, pos, after, guard⟩ <;> rfl
@[simp] theorem newsA_nil {C : Cx} : newsA C [] = [] := rfl
@[simp] theorem newsA_cons {C : Cx} {d : Nat} {op type pos after guard} {rest : List Oper} : newsA C (⟨some d, op, type, pos, after, guard⟩ :: rest) = match isAl C ⟨some d, op, type, pos, after, guard⟩ with
    | some z => (C.base + d, alZ C d z) :: newsA C rest
    | none => newsA C rest := by
  rw [newsA]
  cases isAl C ⟨some d, op, type, pos, after, guard⟩ <;> rfl
@[simp] theorem keeps_nil {C : Cx} {s : St} : keeps C [] s = True := rfl
@[simp] theorem keeps_cons {C : Cx} {d : Nat} {op type pos after guard} {rest : List Oper} {s : St} : keeps C (⟨some d, op, type, pos, after, guard⟩ :: rest) s = match isAl C ⟨some d, op, type, pos, after, guard⟩ with
    | some z => keep C d z s ∧ keeps C rest s
    | none => keeps C rest s := by
  rw [keeps]
  cases isAl C ⟨some d, op, type, pos, after, guard⟩ <;> simp
@[simp] theorem keepsF_nil {C : Cx} {s : St} : keepsF C [] s = True := rfl
@[simp] theorem keepsF_cons {C : Cx} {d : Nat} {op type pos after guard} {rest : List Oper} {s : St} : keepsF C (⟨some d, op, type, pos, after, guard⟩ :: rest) s = match isAl C ⟨some d, op, type, pos, after, guard⟩ with
    | some z => keepF C d z s ∧ keepsF C rest s
    | none => keepsF C rest s := by
  rw [keepsF]
  cases isAl C ⟨some d, op, type, pos, after, guard⟩ <;> simp
@[simp] theorem tks_nil {L : List Nat} {s : St} : tks L [] s = True := rfl
@[simp] theorem tks_cons {L : List Nat} {o : Oper} {rest : List Oper} {s : St} : tks L (o :: rest) s = match srcOf L o with
    | some t => keepT t s ∧ tks L rest s
    | none => tks L rest s := by
  rw [tks]
  cases srcOf L o <;> simp
@[simp] theorem srcs_nil {L : List Nat} : srcs L [] = [] := rfl
@[simp] theorem srcs_cons {L : List Nat} {o : Oper} {rest : List Oper} : srcs L (o :: rest) = match srcOf L o with
    | some t => t :: srcs L rest
    | none => srcs L rest := rfl
@[simp] theorem St.of_noSlot {l : List (Nat × AV)} {bx : Boxes} {d : Nat} : (St.of l bx).noSlot d = St.of (l.filter fun e => !(e.1 == d)) bx := by
  refine St.ext' (fun t => ?_) (fun id => rfl)
  show (if t = d then AV.any else (l.lookup t).getD .any) = ((l.filter fun e => !(e.1 == d)).lookup t).getD .any
  rw [lookup_filter fun k => !(k == d)]
  by_cases htd : t = d
  · subst htd; simp
  · simp [htd]
@[simp] theorem St.of_noSlots {l : List (Nat × AV)} {bx : Boxes} {ts : List Nat} : (St.of l bx).noSlots ts = St.of (l.filter fun e => !ts.contains e.1) bx := by
  refine St.ext' (fun t => ?_) (fun id => rfl)
  show (if ts.contains t then AV.any else (l.lookup t).getD .any) = ((l.filter fun e => !ts.contains e.1).lookup t).getD .any
  rw [lookup_filter fun k => !ts.contains k]
  cases ts.contains t <;> simp
attribute [simp] St.of_addB
end Go.AM
