/- Rules: alike, by the program and by the document. -/
import Derived.Test.YtmhkagfncnnfdaaAmF
import Derived.Test.YtmhkagfncnnfdaaAmE
set_option linter.unusedSimpArgs false
set_option linter.unusedVariables false
namespace Go.AM
open Go.Proofs
theorem kbeq (a b : ByteArray) : (a.toList == b.toList) = decide (a = b) := by
  rw [Bool.eq_iff_iff, beq_iff_eq, decide_eq_true_eq]
  exact ⟨fun h => (eqK_eq (a := a) (b := b)).1 (by unfold eqK; simpa using h), fun h => by rw [h]⟩
theorem Dg.eq_iff (a b : Dg) : a = b ↔ a.kind = b.kind ∧ a.thing = b.thing ∧ a.num = b.num := by
  cases a; cases b; simp
instance : DecidableEq Dg := fun a b => decidable_of_iff _ (Dg.eq_iff a b).symm
theorem Opn.eq_iff (a b : Opn) : a = b ↔ a.name = b.name ∧ a.does = b.does := by
  cases a; cases b; simp
instance : DecidableEq Opn := fun a b => decidable_of_iff _ (Opn.eq_iff a b).symm
theorem Rul.eq_iff (a b : Rul) : a = b ↔ a.sets = b.sets ∧ a.counts = b.counts ∧ a.notes = b.notes ∧ a.cls = b.cls ∧ a.opers = b.opers := by
  cases a; cases b; simp
instance : DecidableEq Rul := fun a b => decidable_of_iff _ (Rul.eq_iff a b).symm
@[simp] theorem try_eqDg : flatEq Try.prog 84 = some [.int .i64, .int .i64, .int .i64] := by kernel_rfl
theorem list_ne_at {α : Type} [DecidableEq α] {a b : List α} {i : Nat} (h : i < a.length) (h' : i < b.length) (hn : a[i] ≠ b[i]) : decide (a = b) = false := by
  rw [decide_eq_false_iff_not]
  rintro rfl
  exact hn rfl
theorem list_eq_of {α : Type} [DecidableEq α] {a b : List α} (hl : (a.length : Int) = b.length) (h : a.take a.length = b.take a.length) : decide (a = b) = true := by
  rw [decide_eq_true_eq]
  have h2 : a.length = b.length := by omega
  rw [List.take_length, h2, List.take_length] at h
  exact h
theorem list_ne_len {α : Type} [DecidableEq α] {a b : List α} (hl : ¬ (a.length : Int) = b.length) : decide (a = b) = false := by
  rw [decide_eq_false_iff_not]
  rintro rfl
  exact hl rfl
set_option maxRecDepth 8000 in
theorem c_EqualD_Str (a b : List ByteArray) (ha : a.length ≤ 100000) : Pure Try.prog 107 [.sl .fro 1 (strsAV a), .sl .fro 1 (strsAV b)] (.b (decide (a = b))) := by
  refine proc_of (cx Try.prog 26 [0, 1, 4, 5, 10, 12, 13, 14, 24] [4]) 24 [.tmp 4] Try.func107 rfl rfl rfl rfl rfl rfl (Nat.le_refl _) rfl ?_
  refine AWp.go [0, 1] [] fun K hK => ?_
  simp
  first | refine hK _ _ ?_ | refine ⟨by omega, hK _ _ ?_⟩ | refine ⟨by omega, by omega, hK _ _ ?_⟩
  clear hK K
  refine AWp.seq ?_
  refine AWp.go [0, 1, 10] [] fun K hK => ?_
  simp
  first | refine hK _ _ ?_ | refine ⟨by omega, hK _ _ ?_⟩ | refine ⟨by omega, by omega, hK _ _ ?_⟩
  clear hK K
  by_cases q0 : (a.length : Int) = b.length
  · refine AWp.cond (t := false) (by first | (simp [q0]; done) | (simp [q0]; omega)) (by simp) (fun _ => ?_)
    refine AWp.skip ?_
    show AWp _ _ _ _
    refine AWp.seq ?_
    refine AWp.go [0, 1, 12, 13] [] fun K hK => ?_
    simp
    first | refine hK _ _ ?_ | refine ⟨by omega, hK _ _ ?_⟩ | refine ⟨by omega, by omega, hK _ _ ?_⟩
    clear hK K
    refine AWp.block (AWp.while (fun i : Nat => [(0, .sl .fro 1 (strsAV a)), (1, .sl .fro 1 (strsAV b)), (12, .i .i64 a.length), (13, .i .i64 i)]) (fun i => []) (fun i => i ≤ a.length ∧ a.take i = b.take i) (fun i => a.length - i) [0, 1, 12, 13] [] 0 (by simp) (by simp) ?_)
    rintro i ⟨hi, hall⟩
    refine AWp.go [0, 1, 12, 13, 14] [] fun K hK => ?_
    simp
    first | refine hK _ _ ?_ | refine ⟨by omega, hK _ _ ?_⟩ | refine ⟨by omega, by omega, hK _ _ ?_⟩
    clear hK K
    refine AWp.seq ?_
    by_cases h : i < a.length
    · refine AWp.cond (t := true) (by first | (simp [h]; done) | (simp [h]; omega)) (fun _ => ?_) (by simp)
      refine AWp.skip ?_
      show AWp _ _ _ _
      refine AWp.seq ?_
      refine AWp.block ?_
      refine AWp.go [0, 1, 5, 12, 13] [] fun K hK => ?_
      simp
      first | refine hK _ _ ?_ | refine ⟨by omega, hK _ _ ?_⟩ | refine ⟨by omega, by omega, hK _ _ ?_⟩
      clear hK K
      have h' : i < b.length := by omega
      refine AWp.stepD 9 (fun _ => .any) [0, 1, 12, 13, 24] [] [(0, .sl .fro 1 (strsAV a)), (1, .sl .fro 1 (strsAV b)), (12, .i .i64 a.length), (13, .i .i64 i), (24, .b (!decide (a[i] = b[i])))] [] mix (by kernel_rfl) ?_ ?_
      · simp [h, h', kbeq, Cl.eq_iff, Dg.eq_iff, bbeq]
      by_cases hp : a[i] = b[i]
      · refine AWp.cond (t := false) (by first | (simp [hp]; done) | (simp [hp]; omega)) (by simp) (fun _ => ?_)
        refine AWp.skip ?_
        show AWp _ _ _ _
        refine AWp.goLast [0, 1, 12, 13] [] fun K hK => ?_
        simp
        first | refine hK _ _ ?_ | refine ⟨by omega, hK _ _ ?_⟩ | refine ⟨by omega, by omega, hK _ _ ?_⟩
        clear hK K
        refine ⟨i + 1, ⟨by omega, ?_⟩, by omega, ?_⟩
        · rw [List.take_succ_eq_append_getElem h, List.take_succ_eq_append_getElem h', hall, hp]
        · simp
          exact wrap64 (by omega) (by omega)
      · refine AWp.cond (t := true) (by first | (simp [hp]; done) | (simp [hp]; omega)) (fun _ => ?_) (by simp)
        refine AWp.go [4] [] fun K hK => ?_
        simp
        first | refine hK _ _ ?_ | refine ⟨by omega, hK _ _ ?_⟩ | refine ⟨by omega, by omega, hK _ _ ?_⟩
        clear hK K
        refine AWp.ret ?_
        simp [list_ne_at h h' hp]
    · refine AWp.cond (t := false) (by first | (simp [h]; done) | (simp [h]; omega)) (by simp) (fun _ => ?_)
      refine AWp.exit ?_
      show AWp _ _ _ _
      obtain rfl : i = a.length := by omega
      refine AWp.go [4] [] fun K hK => ?_
      simp
      first | refine hK _ _ ?_ | refine ⟨by omega, hK _ _ ?_⟩ | refine ⟨by omega, by omega, hK _ _ ?_⟩
      clear hK K
      refine AWp.ret ?_
      simp [list_eq_of q0 hall]
  · refine AWp.cond (t := true) (by first | (simp [q0]; done) | (simp [q0]; omega)) (fun _ => ?_) (by simp)
    refine AWp.go [4] [] fun K hK => ?_
    simp
    first | refine hK _ _ ?_ | refine ⟨by omega, hK _ _ ?_⟩ | refine ⟨by omega, by omega, hK _ _ ?_⟩
    clear hK K
    refine AWp.ret ?_
    simp [list_ne_len q0]
set_option maxRecDepth 8000 in
theorem c_EqualD_Cl (a b : List Cl) (ha : a.length ≤ 100000) : Pure Try.prog 108 [.sl .fro 5 (clsAV a), .sl .fro 5 (clsAV b)] (.b (decide (a = b))) := by
  refine proc_of (cx Try.prog 26 [0, 1, 4, 5, 10, 12, 13, 14, 24] [4]) 24 [.tmp 4] Try.func108 rfl rfl rfl rfl rfl rfl (Nat.le_refl _) rfl ?_
  refine AWp.go [0, 1] [] fun K hK => ?_
  simp
  first | refine hK _ _ ?_ | refine ⟨by omega, hK _ _ ?_⟩ | refine ⟨by omega, by omega, hK _ _ ?_⟩
  clear hK K
  refine AWp.seq ?_
  refine AWp.go [0, 1, 10] [] fun K hK => ?_
  simp
  first | refine hK _ _ ?_ | refine ⟨by omega, hK _ _ ?_⟩ | refine ⟨by omega, by omega, hK _ _ ?_⟩
  clear hK K
  by_cases q0 : (a.length : Int) = b.length
  · refine AWp.cond (t := false) (by first | (simp [q0]; done) | (simp [q0]; omega)) (by simp) (fun _ => ?_)
    refine AWp.skip ?_
    show AWp _ _ _ _
    refine AWp.seq ?_
    refine AWp.go [0, 1, 12, 13] [] fun K hK => ?_
    simp
    first | refine hK _ _ ?_ | refine ⟨by omega, hK _ _ ?_⟩ | refine ⟨by omega, by omega, hK _ _ ?_⟩
    clear hK K
    refine AWp.block (AWp.while (fun i : Nat => [(0, .sl .fro 5 (clsAV a)), (1, .sl .fro 5 (clsAV b)), (12, .i .i64 a.length), (13, .i .i64 i)]) (fun i => []) (fun i => i ≤ a.length ∧ a.take i = b.take i) (fun i => a.length - i) [0, 1, 12, 13] [] 0 (by simp) (by simp) ?_)
    rintro i ⟨hi, hall⟩
    refine AWp.go [0, 1, 12, 13, 14] [] fun K hK => ?_
    simp
    first | refine hK _ _ ?_ | refine ⟨by omega, hK _ _ ?_⟩ | refine ⟨by omega, by omega, hK _ _ ?_⟩
    clear hK K
    refine AWp.seq ?_
    by_cases h : i < a.length
    · refine AWp.cond (t := true) (by first | (simp [h]; done) | (simp [h]; omega)) (fun _ => ?_) (by simp)
      refine AWp.skip ?_
      show AWp _ _ _ _
      refine AWp.seq ?_
      refine AWp.block ?_
      refine AWp.go [0, 1, 5, 12, 13] [] fun K hK => ?_
      simp
      first | refine hK _ _ ?_ | refine ⟨by omega, hK _ _ ?_⟩ | refine ⟨by omega, by omega, hK _ _ ?_⟩
      clear hK K
      have h' : i < b.length := by omega
      refine AWp.stepD 9 (fun _ => .any) [0, 1, 12, 13, 24] [] [(0, .sl .fro 5 (clsAV a)), (1, .sl .fro 5 (clsAV b)), (12, .i .i64 a.length), (13, .i .i64 i), (24, .b (!decide (a[i] = b[i])))] [] mix (by kernel_rfl) ?_ ?_
      · simp [h, h', kbeq, Cl.eq_iff, Dg.eq_iff, bbeq]
      by_cases hp : a[i] = b[i]
      · refine AWp.cond (t := false) (by first | (simp [hp]; done) | (simp [hp]; omega)) (by simp) (fun _ => ?_)
        refine AWp.skip ?_
        show AWp _ _ _ _
        refine AWp.goLast [0, 1, 12, 13] [] fun K hK => ?_
        simp
        first | refine hK _ _ ?_ | refine ⟨by omega, hK _ _ ?_⟩ | refine ⟨by omega, by omega, hK _ _ ?_⟩
        clear hK K
        refine ⟨i + 1, ⟨by omega, ?_⟩, by omega, ?_⟩
        · rw [List.take_succ_eq_append_getElem h, List.take_succ_eq_append_getElem h', hall, hp]
        · simp
          exact wrap64 (by omega) (by omega)
      · refine AWp.cond (t := true) (by first | (simp [hp]; done) | (simp [hp]; omega)) (fun _ => ?_) (by simp)
        refine AWp.go [4] [] fun K hK => ?_
        simp
        first | refine hK _ _ ?_ | refine ⟨by omega, hK _ _ ?_⟩ | refine ⟨by omega, by omega, hK _ _ ?_⟩
        clear hK K
        refine AWp.ret ?_
        simp [list_ne_at h h' hp]
    · refine AWp.cond (t := false) (by first | (simp [h]; done) | (simp [h]; omega)) (by simp) (fun _ => ?_)
      refine AWp.exit ?_
      show AWp _ _ _ _
      obtain rfl : i = a.length := by omega
      refine AWp.go [4] [] fun K hK => ?_
      simp
      first | refine hK _ _ ?_ | refine ⟨by omega, hK _ _ ?_⟩ | refine ⟨by omega, by omega, hK _ _ ?_⟩
      clear hK K
      refine AWp.ret ?_
      simp [list_eq_of q0 hall]
  · refine AWp.cond (t := true) (by first | (simp [q0]; done) | (simp [q0]; omega)) (fun _ => ?_) (by simp)
    refine AWp.go [4] [] fun K hK => ?_
    simp
    first | refine hK _ _ ?_ | refine ⟨by omega, hK _ _ ?_⟩ | refine ⟨by omega, by omega, hK _ _ ?_⟩
    clear hK K
    refine AWp.ret ?_
    simp [list_ne_len q0]
set_option maxRecDepth 8000 in
theorem c_EqualD_Dg (a b : List Dg) (ha : a.length ≤ 100000) : Pure Try.prog 111 [.sl .fro 3 (dgsAV a), .sl .fro 3 (dgsAV b)] (.b (decide (a = b))) := by
  refine proc_of (cx Try.prog 26 [0, 1, 4, 5, 10, 12, 13, 14, 24] [4]) 24 [.tmp 4] Try.func111 rfl rfl rfl rfl rfl rfl (Nat.le_refl _) rfl ?_
  refine AWp.go [0, 1] [] fun K hK => ?_
  simp
  first | refine hK _ _ ?_ | refine ⟨by omega, hK _ _ ?_⟩ | refine ⟨by omega, by omega, hK _ _ ?_⟩
  clear hK K
  refine AWp.seq ?_
  refine AWp.go [0, 1, 10] [] fun K hK => ?_
  simp
  first | refine hK _ _ ?_ | refine ⟨by omega, hK _ _ ?_⟩ | refine ⟨by omega, by omega, hK _ _ ?_⟩
  clear hK K
  by_cases q0 : (a.length : Int) = b.length
  · refine AWp.cond (t := false) (by first | (simp [q0]; done) | (simp [q0]; omega)) (by simp) (fun _ => ?_)
    refine AWp.skip ?_
    show AWp _ _ _ _
    refine AWp.seq ?_
    refine AWp.go [0, 1, 12, 13] [] fun K hK => ?_
    simp
    first | refine hK _ _ ?_ | refine ⟨by omega, hK _ _ ?_⟩ | refine ⟨by omega, by omega, hK _ _ ?_⟩
    clear hK K
    refine AWp.block (AWp.while (fun i : Nat => [(0, .sl .fro 3 (dgsAV a)), (1, .sl .fro 3 (dgsAV b)), (12, .i .i64 a.length), (13, .i .i64 i)]) (fun i => []) (fun i => i ≤ a.length ∧ a.take i = b.take i) (fun i => a.length - i) [0, 1, 12, 13] [] 0 (by simp) (by simp) ?_)
    rintro i ⟨hi, hall⟩
    refine AWp.go [0, 1, 12, 13, 14] [] fun K hK => ?_
    simp
    first | refine hK _ _ ?_ | refine ⟨by omega, hK _ _ ?_⟩ | refine ⟨by omega, by omega, hK _ _ ?_⟩
    clear hK K
    refine AWp.seq ?_
    by_cases h : i < a.length
    · refine AWp.cond (t := true) (by first | (simp [h]; done) | (simp [h]; omega)) (fun _ => ?_) (by simp)
      refine AWp.skip ?_
      show AWp _ _ _ _
      refine AWp.seq ?_
      refine AWp.block ?_
      refine AWp.go [0, 1, 5, 12, 13] [] fun K hK => ?_
      simp
      first | refine hK _ _ ?_ | refine ⟨by omega, hK _ _ ?_⟩ | refine ⟨by omega, by omega, hK _ _ ?_⟩
      clear hK K
      have h' : i < b.length := by omega
      refine AWp.stepD 9 (fun _ => .any) [0, 1, 12, 13, 24] [] [(0, .sl .fro 3 (dgsAV a)), (1, .sl .fro 3 (dgsAV b)), (12, .i .i64 a.length), (13, .i .i64 i), (24, .b (!decide (a[i] = b[i])))] [] mix (by kernel_rfl) ?_ ?_
      · simp [h, h', kbeq, Cl.eq_iff, Dg.eq_iff, bbeq]
      by_cases hp : a[i] = b[i]
      · refine AWp.cond (t := false) (by first | (simp [hp]; done) | (simp [hp]; omega)) (by simp) (fun _ => ?_)
        refine AWp.skip ?_
        show AWp _ _ _ _
        refine AWp.goLast [0, 1, 12, 13] [] fun K hK => ?_
        simp
        first | refine hK _ _ ?_ | refine ⟨by omega, hK _ _ ?_⟩ | refine ⟨by omega, by omega, hK _ _ ?_⟩
        clear hK K
        refine ⟨i + 1, ⟨by omega, ?_⟩, by omega, ?_⟩
        · rw [List.take_succ_eq_append_getElem h, List.take_succ_eq_append_getElem h', hall, hp]
        · simp
          exact wrap64 (by omega) (by omega)
      · refine AWp.cond (t := true) (by first | (simp [hp]; done) | (simp [hp]; omega)) (fun _ => ?_) (by simp)
        refine AWp.go [4] [] fun K hK => ?_
        simp
        first | refine hK _ _ ?_ | refine ⟨by omega, hK _ _ ?_⟩ | refine ⟨by omega, by omega, hK _ _ ?_⟩
        clear hK K
        refine AWp.ret ?_
        simp [list_ne_at h h' hp]
    · refine AWp.cond (t := false) (by first | (simp [h]; done) | (simp [h]; omega)) (by simp) (fun _ => ?_)
      refine AWp.exit ?_
      show AWp _ _ _ _
      obtain rfl : i = a.length := by omega
      refine AWp.go [4] [] fun K hK => ?_
      simp
      first | refine hK _ _ ?_ | refine ⟨by omega, hK _ _ ?_⟩ | refine ⟨by omega, by omega, hK _ _ ?_⟩
      clear hK K
      refine AWp.ret ?_
      simp [list_eq_of q0 hall]
  · refine AWp.cond (t := true) (by first | (simp [q0]; done) | (simp [q0]; omega)) (fun _ => ?_) (by simp)
    refine AWp.go [4] [] fun K hK => ?_
    simp
    first | refine hK _ _ ?_ | refine ⟨by omega, hK _ _ ?_⟩ | refine ⟨by omega, by omega, hK _ _ ?_⟩
    clear hK K
    refine AWp.ret ?_
    simp [list_ne_len q0]
set_option maxRecDepth 8000 in
theorem c_ref16_texts (a b : List ByteArray) (ha : a.length ≤ 100000) : Pure Try.prog 55 [.sl .fro 1 (strsAV a), .sl .fro 1 (strsAV b)] (.b (decide (a = b))) := by
  refine proc_of (cx Try.prog 26 [0, 1, 4, 5, 10, 14, 25] [4]) 24 [.tmp 4] Try.func55 rfl rfl rfl rfl rfl rfl (Nat.le_refl _) rfl ?_
  refine AWp.go [0, 1] [] fun K hK => ?_
  simp
  first | refine hK _ _ ?_ | refine ⟨by omega, hK _ _ ?_⟩ | refine ⟨by omega, by omega, hK _ _ ?_⟩
  clear hK K
  refine AWp.seq ?_
  refine AWp.go [0, 1, 10] [] fun K hK => ?_
  simp
  first | refine hK _ _ ?_ | refine ⟨by omega, hK _ _ ?_⟩ | refine ⟨by omega, by omega, hK _ _ ?_⟩
  clear hK K
  by_cases q0 : (a.length : Int) = b.length
  · refine AWp.cond (t := false) (by first | (simp [q0]; done) | (simp [q0]; omega)) (by simp) (fun _ => ?_)
    refine AWp.skip ?_
    show AWp _ _ _ _
    refine AWp.seq ?_
    refine AWp.go [0, 1, 5] [] fun K hK => ?_
    simp
    first | refine hK _ _ ?_ | refine ⟨by omega, hK _ _ ?_⟩ | refine ⟨by omega, by omega, hK _ _ ?_⟩
    clear hK K
    refine AWp.block (AWp.while (fun i : Nat => [(0, .sl .fro 1 (strsAV a)), (1, .sl .fro 1 (strsAV b)), (5, .i .i64 i)]) (fun i => []) (fun i => i ≤ a.length ∧ a.take i = b.take i) (fun i => a.length - i) [0, 1, 5] [] 0 (by simp) (by simp) ?_)
    rintro i ⟨hi, hall⟩
    refine AWp.seq ?_
    refine AWp.go [0, 1, 5, 14] [] fun K hK => ?_
    simp
    first | refine hK _ _ ?_ | refine ⟨by omega, hK _ _ ?_⟩ | refine ⟨by omega, by omega, hK _ _ ?_⟩
    clear hK K
    by_cases h : i < a.length
    · refine AWp.cond (t := true) (by first | (simp [h]; done) | (simp [h]; omega)) (fun _ => ?_) (by simp)
      refine AWp.skip ?_
      show AWp _ _ _ _
      refine AWp.seq ?_
      refine AWp.block ?_
      have h' : i < b.length := by omega
      refine AWp.stepD 9 (fun _ => .any) [0, 1, 5, 25] [] [(0, .sl .fro 1 (strsAV a)), (1, .sl .fro 1 (strsAV b)), (5, .i .i64 i), (25, .b (!decide (a[i] = b[i])))] [] mix (by kernel_rfl) ?_ ?_
      · simp [h, h', kbeq, Cl.eq_iff, Dg.eq_iff, bbeq]
      by_cases hp : a[i] = b[i]
      · refine AWp.cond (t := false) (by first | (simp [hp]; done) | (simp [hp]; omega)) (by simp) (fun _ => ?_)
        refine AWp.skip ?_
        show AWp _ _ _ _
        refine AWp.goLast [0, 1, 5] [] fun K hK => ?_
        simp
        first | refine hK _ _ ?_ | refine ⟨by omega, hK _ _ ?_⟩ | refine ⟨by omega, by omega, hK _ _ ?_⟩
        clear hK K
        refine ⟨i + 1, ⟨by omega, ?_⟩, by omega, ?_⟩
        · rw [List.take_succ_eq_append_getElem h, List.take_succ_eq_append_getElem h', hall, hp]
        · simp
          exact wrap64 (by omega) (by omega)
      · refine AWp.cond (t := true) (by first | (simp [hp]; done) | (simp [hp]; omega)) (fun _ => ?_) (by simp)
        refine AWp.go [4] [] fun K hK => ?_
        simp
        first | refine hK _ _ ?_ | refine ⟨by omega, hK _ _ ?_⟩ | refine ⟨by omega, by omega, hK _ _ ?_⟩
        clear hK K
        refine AWp.ret ?_
        simp [list_ne_at h h' hp]
    · refine AWp.cond (t := false) (by first | (simp [h]; done) | (simp [h]; omega)) (by simp) (fun _ => ?_)
      refine AWp.exit ?_
      show AWp _ _ _ _
      obtain rfl : i = a.length := by omega
      refine AWp.go [4] [] fun K hK => ?_
      simp
      first | refine hK _ _ ?_ | refine ⟨by omega, hK _ _ ?_⟩ | refine ⟨by omega, by omega, hK _ _ ?_⟩
      clear hK K
      refine AWp.ret ?_
      simp [list_eq_of q0 hall]
  · refine AWp.cond (t := true) (by first | (simp [q0]; done) | (simp [q0]; omega)) (fun _ => ?_) (by simp)
    refine AWp.go [4] [] fun K hK => ?_
    simp
    first | refine hK _ _ ?_ | refine ⟨by omega, hK _ _ ?_⟩ | refine ⟨by omega, by omega, hK _ _ ?_⟩
    clear hK K
    refine AWp.ret ?_
    simp [list_ne_len q0]
set_option maxRecDepth 8000 in
theorem c_ref16_Does (a b : List Dg) (ha : a.length ≤ 100000) : Pure Try.prog 56 [.sl .fro 3 (dgsAV a), .sl .fro 3 (dgsAV b)] (.b (decide (a = b))) := by
  refine proc_of (cx Try.prog 26 [0, 1, 4, 5, 10, 14, 25] [4]) 24 [.tmp 4] Try.func56 rfl rfl rfl rfl rfl rfl (Nat.le_refl _) rfl ?_
  refine AWp.go [0, 1] [] fun K hK => ?_
  simp
  first | refine hK _ _ ?_ | refine ⟨by omega, hK _ _ ?_⟩ | refine ⟨by omega, by omega, hK _ _ ?_⟩
  clear hK K
  refine AWp.seq ?_
  refine AWp.go [0, 1, 10] [] fun K hK => ?_
  simp
  first | refine hK _ _ ?_ | refine ⟨by omega, hK _ _ ?_⟩ | refine ⟨by omega, by omega, hK _ _ ?_⟩
  clear hK K
  by_cases q0 : (a.length : Int) = b.length
  · refine AWp.cond (t := false) (by first | (simp [q0]; done) | (simp [q0]; omega)) (by simp) (fun _ => ?_)
    refine AWp.skip ?_
    show AWp _ _ _ _
    refine AWp.seq ?_
    refine AWp.go [0, 1, 5] [] fun K hK => ?_
    simp
    first | refine hK _ _ ?_ | refine ⟨by omega, hK _ _ ?_⟩ | refine ⟨by omega, by omega, hK _ _ ?_⟩
    clear hK K
    refine AWp.block (AWp.while (fun i : Nat => [(0, .sl .fro 3 (dgsAV a)), (1, .sl .fro 3 (dgsAV b)), (5, .i .i64 i)]) (fun i => []) (fun i => i ≤ a.length ∧ a.take i = b.take i) (fun i => a.length - i) [0, 1, 5] [] 0 (by simp) (by simp) ?_)
    rintro i ⟨hi, hall⟩
    refine AWp.seq ?_
    refine AWp.go [0, 1, 5, 14] [] fun K hK => ?_
    simp
    first | refine hK _ _ ?_ | refine ⟨by omega, hK _ _ ?_⟩ | refine ⟨by omega, by omega, hK _ _ ?_⟩
    clear hK K
    by_cases h : i < a.length
    · refine AWp.cond (t := true) (by first | (simp [h]; done) | (simp [h]; omega)) (fun _ => ?_) (by simp)
      refine AWp.skip ?_
      show AWp _ _ _ _
      refine AWp.seq ?_
      refine AWp.block ?_
      have h' : i < b.length := by omega
      refine AWp.stepD 9 (fun _ => .any) [0, 1, 5, 25] [] [(0, .sl .fro 3 (dgsAV a)), (1, .sl .fro 3 (dgsAV b)), (5, .i .i64 i), (25, .b (!decide (a[i] = b[i])))] [] mix (by kernel_rfl) ?_ ?_
      · simp [h, h', kbeq, Cl.eq_iff, Dg.eq_iff, bbeq]
      by_cases hp : a[i] = b[i]
      · refine AWp.cond (t := false) (by first | (simp [hp]; done) | (simp [hp]; omega)) (by simp) (fun _ => ?_)
        refine AWp.skip ?_
        show AWp _ _ _ _
        refine AWp.goLast [0, 1, 5] [] fun K hK => ?_
        simp
        first | refine hK _ _ ?_ | refine ⟨by omega, hK _ _ ?_⟩ | refine ⟨by omega, by omega, hK _ _ ?_⟩
        clear hK K
        refine ⟨i + 1, ⟨by omega, ?_⟩, by omega, ?_⟩
        · rw [List.take_succ_eq_append_getElem h, List.take_succ_eq_append_getElem h', hall, hp]
        · simp
          exact wrap64 (by omega) (by omega)
      · refine AWp.cond (t := true) (by first | (simp [hp]; done) | (simp [hp]; omega)) (fun _ => ?_) (by simp)
        refine AWp.go [4] [] fun K hK => ?_
        simp
        first | refine hK _ _ ?_ | refine ⟨by omega, hK _ _ ?_⟩ | refine ⟨by omega, by omega, hK _ _ ?_⟩
        clear hK K
        refine AWp.ret ?_
        simp [list_ne_at h h' hp]
    · refine AWp.cond (t := false) (by first | (simp [h]; done) | (simp [h]; omega)) (by simp) (fun _ => ?_)
      refine AWp.exit ?_
      show AWp _ _ _ _
      obtain rfl : i = a.length := by omega
      refine AWp.go [4] [] fun K hK => ?_
      simp
      first | refine hK _ _ ?_ | refine ⟨by omega, hK _ _ ?_⟩ | refine ⟨by omega, by omega, hK _ _ ?_⟩
      clear hK K
      refine AWp.ret ?_
      simp [list_eq_of q0 hall]
  · refine AWp.cond (t := true) (by first | (simp [q0]; done) | (simp [q0]; omega)) (fun _ => ?_) (by simp)
    refine AWp.go [4] [] fun K hK => ?_
    simp
    first | refine hK _ _ ?_ | refine ⟨by omega, hK _ _ ?_⟩ | refine ⟨by omega, by omega, hK _ _ ?_⟩
    clear hK K
    refine AWp.ret ?_
    simp [list_ne_len q0]
set_option maxRecDepth 8000 in
theorem c_sorts_Same1 (a b : Opn) (ha : a.does.length ≤ 100000) : Pure Try.prog 110 [.agg (opnC a), .agg (opnC b)] (.b (decide (a = b))) := by
  have g := c_EqualD_Dg a.does b.does ha
  refine proc_of (cx Try.prog 17 [2, 3, 4] [4]) 15 [.tmp 4] Try.func110 rfl rfl rfl rfl rfl rfl (Nat.le_refl _) rfl ?_
  refine AWp.go [2, 3] [2, 3] fun K hK => ?_
  simp [opnC]
  first | refine hK _ _ ?_ | refine ⟨by omega, hK _ _ ?_⟩ | refine ⟨by omega, by omega, hK _ _ ?_⟩
  clear hK K
  refine AWp.step [4] [2, 3] [(4, .b (decide (a = b)))] [(2, [.s a.name, .sl .fro 3 (dgsAV a.does)]), (3, [.s b.name, .sl .fro 3 (dgsAV b.does)])] ?_ ?_
  · by_cases q1 : a.name = b.name
    · simp [q1]
      refine call_pure g (by simp) ?_
      simp [Opn.eq_iff, q1]
    · simp [kbeq, Opn.eq_iff, q1]
  refine AWp.ret ?_
  simp
set_option maxRecDepth 8000 in
set_option maxHeartbeats 2000000 in
theorem c_EqualFunc_Opn (a b : List Opn) (ha : a.length ≤ 100000) (hd : ∀ o ∈ a, o.does.length ≤ 100000) : Pure Try.prog 109 [.sl .fro 2 (opnsAV a), .sl .fro 2 (opnsAV b), .fn 110 [] []] (.b (decide (a = b))) := by
  refine proc_of (cx Try.prog 32 [0, 1, 2, 6, 7, 8, 9, 14, 15, 16, 17, 18, 30] [6]) 29 [.tmp 6] Try.func109 rfl rfl rfl rfl rfl rfl (Nat.le_refl _) rfl ?_
  refine AWp.go [0, 1, 2] [] fun K hK => ?_
  simp
  first | refine hK _ _ ?_ | refine ⟨by omega, hK _ _ ?_⟩ | refine ⟨by omega, by omega, hK _ _ ?_⟩
  clear hK K
  refine AWp.seq ?_
  refine AWp.go [0, 1, 2, 14] [] fun K hK => ?_
  simp
  first | refine hK _ _ ?_ | refine ⟨by omega, hK _ _ ?_⟩ | refine ⟨by omega, by omega, hK _ _ ?_⟩
  clear hK K
  by_cases q0 : (a.length : Int) = b.length
  · refine AWp.cond (t := false) (by first | (simp [q0]; done) | (simp [q0]; omega)) (by simp) (fun _ => ?_)
    refine AWp.skip ?_
    show AWp _ _ _ _
    refine AWp.seq ?_
    refine AWp.go [1, 2, 15, 16, 17] [] fun K hK => ?_
    simp
    first | refine hK _ _ ?_ | refine ⟨by omega, hK _ _ ?_⟩ | refine ⟨by omega, by omega, hK _ _ ?_⟩
    clear hK K
    refine AWp.block (AWp.while (fun i : Nat => [(1, .sl .fro 2 (opnsAV b)), (2, .fn 110 [] []), (15, .sl .fro 2 (opnsAV a)), (16, .i .i64 a.length), (17, .i .i64 i)]) (fun i => []) (fun i => i ≤ a.length ∧ a.take i = b.take i) (fun i => a.length - i) [1, 2, 15, 16, 17] [] 0 (by simp) (by simp) ?_)
    rintro i ⟨hi, hall⟩
    refine AWp.go [1, 2, 15, 16, 17, 18] [] fun K hK => ?_
    simp
    first | refine hK _ _ ?_ | refine ⟨by omega, hK _ _ ?_⟩ | refine ⟨by omega, by omega, hK _ _ ?_⟩
    clear hK K
    refine AWp.seq ?_
    by_cases h : i < a.length
    · refine AWp.cond (t := true) (by first | (simp [h]; done) | (simp [h]; omega)) (fun _ => ?_) (by simp)
      refine AWp.skip ?_
      show AWp _ _ _ _
      refine AWp.seq ?_
      refine AWp.block ?_
      have h' : i < b.length := by omega
      refine AWp.go [1, 2, 7, 8, 15, 16, 17] [8] fun K hK => ?_
      simp [h]
      first | refine hK _ _ ?_ | refine ⟨by omega, hK _ _ ?_⟩ | refine ⟨by omega, by omega, hK _ _ ?_⟩
      clear hK K
      refine AWp.go [1, 2, 8, 9, 15, 16, 17] [8, 9] fun K hK => ?_
      simp [h']
      first | refine hK _ _ ?_ | refine ⟨by omega, hK _ _ ?_⟩ | refine ⟨by omega, by omega, hK _ _ ?_⟩
      clear hK K
      have g := c_sorts_Same1 a[i] b[i] (hd _ (List.getElem_mem h))
      simp [opnC] at g
      refine AWp.go [1, 2, 15, 16, 17, 30] [] fun K hK => ?_
      simp
      refine call_pure g (by simp) ?_
      simp
      first | refine hK _ _ ?_ | refine ⟨by omega, hK _ _ ?_⟩ | refine ⟨by omega, by omega, hK _ _ ?_⟩
      clear hK K
      by_cases hp : a[i] = b[i]
      · refine AWp.cond (t := false) (by first | (simp [hp]; done) | (simp [hp]; omega)) (by simp) (fun _ => ?_)
        refine AWp.skip ?_
        show AWp _ _ _ _
        refine AWp.goLast [1, 2, 15, 16, 17] [] fun K hK => ?_
        simp
        first | refine hK _ _ ?_ | refine ⟨by omega, hK _ _ ?_⟩ | refine ⟨by omega, by omega, hK _ _ ?_⟩
        clear hK K
        refine ⟨i + 1, ⟨by omega, ?_⟩, by omega, ?_⟩
        · rw [List.take_succ_eq_append_getElem h, List.take_succ_eq_append_getElem h', hall, hp]
        · simp
          exact wrap64 (by omega) (by omega)
      · refine AWp.cond (t := true) (by first | (simp [hp]; done) | (simp [hp]; omega)) (fun _ => ?_) (by simp)
        refine AWp.go [6] [] fun K hK => ?_
        simp
        first | refine hK _ _ ?_ | refine ⟨by omega, hK _ _ ?_⟩ | refine ⟨by omega, by omega, hK _ _ ?_⟩
        clear hK K
        refine AWp.ret ?_
        simp [list_ne_at h h' hp]
    · refine AWp.cond (t := false) (by first | (simp [h]; done) | (simp [h]; omega)) (by simp) (fun _ => ?_)
      refine AWp.exit ?_
      show AWp _ _ _ _
      obtain rfl : i = a.length := by omega
      refine AWp.go [6] [] fun K hK => ?_
      simp
      first | refine hK _ _ ?_ | refine ⟨by omega, hK _ _ ?_⟩ | refine ⟨by omega, by omega, hK _ _ ?_⟩
      clear hK K
      refine AWp.ret ?_
      simp [list_eq_of q0 hall]
  · refine AWp.cond (t := true) (by first | (simp [q0]; done) | (simp [q0]; omega)) (fun _ => ?_) (by simp)
    refine AWp.go [6] [] fun K hK => ?_
    simp
    first | refine hK _ _ ?_ | refine ⟨by omega, hK _ _ ?_⟩ | refine ⟨by omega, by omega, hK _ _ ?_⟩
    clear hK K
    refine AWp.ret ?_
    simp [list_ne_len q0]
set_option maxRecDepth 8000 in
set_option maxHeartbeats 4000000 in
theorem c_sorts_Same (a b : Rul) (ha : Slight a) (hd : ∀ o ∈ a.opers, o.does.length ≤ 100000) : Pure Try.prog 57 [.agg (rulC a), .agg (rulC b)] (.b (decide (a = b))) := by
  obtain ⟨k1, k2, k3, k4, k5⟩ := ha
  have g1 := c_EqualD_Str a.sets b.sets (by omega)
  have g2 := c_EqualD_Str a.counts b.counts (by omega)
  have g3 := c_EqualD_Str a.notes b.notes (by omega)
  have g4 := c_EqualD_Cl a.cls b.cls (by omega)
  have g5 := c_EqualFunc_Opn a.opers b.opers (by omega) hd
  refine proc_of (cx Try.prog 38 [2, 3, 4] [4]) 36 [.tmp 4] Try.func57 rfl rfl rfl rfl rfl rfl (Nat.le_refl _) rfl ?_
  refine AWp.go [2, 3] [2, 3] fun K hK => ?_
  simp [rulC]
  first | refine hK _ _ ?_ | refine ⟨by omega, hK _ _ ?_⟩ | refine ⟨by omega, by omega, hK _ _ ?_⟩
  clear hK K
  refine AWp.step [4] [2, 3] [(4, .b (decide (a = b)))] [(2, [.sl .fro 1 (strsAV a.sets), .sl .fro 1 (strsAV a.counts), .sl .fro 1 (strsAV a.notes), .sl .fro 5 (clsAV a.cls), .sl .fro 2 (opnsAV a.opers)]), (3, [.sl .fro 1 (strsAV b.sets), .sl .fro 1 (strsAV b.counts), .sl .fro 1 (strsAV b.notes), .sl .fro 5 (clsAV b.cls), .sl .fro 2 (opnsAV b.opers)])] ?_ ?_
  · simp
    refine call_pure g1 (by simp) ?_
    by_cases q1 : a.sets = b.sets
    · simp [q1]
      refine call_pure g2 (by simp) ?_
      by_cases q2 : a.counts = b.counts
      · simp [q2]
        refine call_pure g3 (by simp) ?_
        by_cases q3 : a.notes = b.notes
        · simp [q3]
          refine call_pure g4 (by simp) ?_
          by_cases q4 : a.cls = b.cls
          · simp [q4]
            refine call_pure g5 (by simp) ?_
            simp [Rul.eq_iff, q1, q2, q3, q4]
          · simp [q4, Rul.eq_iff]
        · simp [q3, Rul.eq_iff]
      · simp [q2, Rul.eq_iff]
    · simp [q1, Rul.eq_iff]
  refine AWp.ret ?_
  simp
set_option maxRecDepth 8000 in
set_option maxHeartbeats 8000000 in
theorem c_ref16_Same (a b : Rul) (ha : Slight a) (hd : ∀ o ∈ a.opers, o.does.length ≤ 100000) : Pure Try.prog 29 [.agg (rulC a), .agg (rulC b)] (.b (decide (a = b))) := by
  obtain ⟨k1, k2, k3, k4, k5⟩ := ha
  have g1 := c_ref16_texts a.sets b.sets (by omega)
  have g2 := c_ref16_texts a.counts b.counts (by omega)
  have g3 := c_ref16_texts a.notes b.notes (by omega)
  refine proc_of (cx Try.prog 101 [2, 3, 4, 5, 6, 46, 51, 64, 69, 100] [4]) 99 [.tmp 4] Try.func29 rfl rfl rfl rfl rfl rfl (Nat.le_refl _) rfl ?_
  refine AWp.go [2, 3] [2, 3] fun K hK => ?_
  simp [rulC]
  first | refine hK _ _ ?_ | refine ⟨by omega, hK _ _ ?_⟩ | refine ⟨by omega, by omega, hK _ _ ?_⟩
  clear hK K
  refine AWp.seq ?_
  refine AWp.step [2, 3, 46] [2, 3] [(2, .ptr 2 0), (3, .ptr 3 0), (46, .b (!(decide (a.sets = b.sets) && decide (a.counts = b.counts) && decide (a.notes = b.notes) && decide ((a.cls.length : Int) = b.cls.length) && decide ((a.opers.length : Int) = b.opers.length))))] [(2, [.sl .fro 1 (strsAV a.sets), .sl .fro 1 (strsAV a.counts), .sl .fro 1 (strsAV a.notes), .sl .fro 5 (clsAV a.cls), .sl .fro 2 (opnsAV a.opers)]), (3, [.sl .fro 1 (strsAV b.sets), .sl .fro 1 (strsAV b.counts), .sl .fro 1 (strsAV b.notes), .sl .fro 5 (clsAV b.cls), .sl .fro 2 (opnsAV b.opers)])] ?_ ?_
  · simp
    refine call_pure g1 (by simp) ?_
    by_cases q1 : a.sets = b.sets
    · simp [q1]
      refine call_pure g2 (by simp) ?_
      by_cases q2 : a.counts = b.counts
      · simp [q2]
        refine call_pure g3 (by simp) ?_
        by_cases q3 : a.notes = b.notes
        · by_cases q4 : (a.cls.length : Int) = b.cls.length
          · simp [q3, q4]
          · simp [q3, q4]
        · simp [q3]
      · simp [q2]
    · simp [q1]
  cases hh : decide (a.sets = b.sets) && decide (a.counts = b.counts) && decide (a.notes = b.notes) && decide ((a.cls.length : Int) = b.cls.length) && decide ((a.opers.length : Int) = b.opers.length)
  · refine AWp.cond (t := true) (by simp) (fun _ => ?_) (by simp)
    have e : decide (a = b) = false := by
      rw [decide_eq_false_iff_not]
      rintro rfl
      simp at hh
    refine AWp.go [4] [2, 3] fun K hK => ?_
    simp
    first | refine hK _ _ ?_ | refine ⟨by omega, hK _ _ ?_⟩ | refine ⟨by omega, by omega, hK _ _ ?_⟩
    clear hK K
    refine AWp.ret ?_
    simp [e]
  · refine AWp.cond (t := false) (by simp) (by simp) (fun _ => ?_)
    refine AWp.skip ?_
    show AWp _ _ _ _
    refine AWp.seq ?_
    simp only [Bool.and_eq_true, decide_eq_true_eq] at hh
    obtain ⟨⟨⟨⟨q1, q2⟩, q3⟩, q4⟩, q5⟩ := hh
    refine AWp.go [2, 3, 5] [2, 3] fun K hK => ?_
    simp
    first | refine hK _ _ ?_ | refine ⟨by omega, hK _ _ ?_⟩ | refine ⟨by omega, by omega, hK _ _ ?_⟩
    clear hK K
    refine AWp.block (AWp.while (fun i : Nat => [(2, .ptr 2 0), (3, .ptr 3 0), (5, .i .i64 i)]) (fun i => [(2, [.sl .fro 1 (strsAV a.sets), .sl .fro 1 (strsAV a.counts), .sl .fro 1 (strsAV a.notes), .sl .fro 5 (clsAV a.cls), .sl .fro 2 (opnsAV a.opers)]), (3, [.sl .fro 1 (strsAV b.sets), .sl .fro 1 (strsAV b.counts), .sl .fro 1 (strsAV b.notes), .sl .fro 5 (clsAV b.cls), .sl .fro 2 (opnsAV b.opers)])]) (fun i => i ≤ a.cls.length ∧ a.cls.take i = b.cls.take i) (fun i => a.cls.length - i) [2, 3, 5] [2, 3] 0 (by simp) (by simp) ?_)
    rintro i ⟨hi, hall⟩
    refine AWp.seq ?_
    refine AWp.go [2, 3, 5, 51] [2, 3] fun K hK => ?_
    simp
    first | refine hK _ _ ?_ | refine ⟨by omega, hK _ _ ?_⟩ | refine ⟨by omega, by omega, hK _ _ ?_⟩
    clear hK K
    by_cases h : i < a.cls.length
    · refine AWp.cond (t := true) (by first | (simp [h]; done) | (simp [h]; omega)) (fun _ => ?_) (by simp)
      refine AWp.skip ?_
      show AWp _ _ _ _
      refine AWp.seq ?_
      refine AWp.block ?_
      have h' : i < b.cls.length := by omega
      refine AWp.stepD 11 (fun _ => .any) [2, 3, 5, 64] [2, 3] [(2, .ptr 2 0), (3, .ptr 3 0), (5, .i .i64 i), (64, .b (!decide (a.cls[i] = b.cls[i])))] [(2, [.sl .fro 1 (strsAV a.sets), .sl .fro 1 (strsAV a.counts), .sl .fro 1 (strsAV a.notes), .sl .fro 5 (clsAV a.cls), .sl .fro 2 (opnsAV a.opers)]), (3, [.sl .fro 1 (strsAV b.sets), .sl .fro 1 (strsAV b.counts), .sl .fro 1 (strsAV b.notes), .sl .fro 5 (clsAV b.cls), .sl .fro 2 (opnsAV b.opers)])] mix (by kernel_rfl) ?_ ?_
      · simp [h, h', Cl.eq_iff, bbeq]
      by_cases hp : a.cls[i] = b.cls[i]
      · refine AWp.cond (t := false) (by first | (simp [hp]; done) | (simp [hp]; omega)) (by simp) (fun _ => ?_)
        refine AWp.skip ?_
        show AWp _ _ _ _
        refine AWp.goLast [2, 3, 5] [2, 3] fun K hK => ?_
        simp
        first | refine hK _ _ ?_ | refine ⟨by omega, hK _ _ ?_⟩ | refine ⟨by omega, by omega, hK _ _ ?_⟩
        clear hK K
        refine ⟨i + 1, ⟨by omega, ?_⟩, by omega, ?_⟩
        · rw [List.take_succ_eq_append_getElem h, List.take_succ_eq_append_getElem h', hall, hp]
        · simp
          exact wrap64 (by omega) (by omega)
      · refine AWp.cond (t := true) (by first | (simp [hp]; done) | (simp [hp]; omega)) (fun _ => ?_) (by simp)
        have e : decide (a = b) = false := by
          rw [decide_eq_false_iff_not]
          rintro rfl
          exact hp rfl
        refine AWp.go [4] [2, 3] fun K hK => ?_
        simp
        first | refine hK _ _ ?_ | refine ⟨by omega, hK _ _ ?_⟩ | refine ⟨by omega, by omega, hK _ _ ?_⟩
        clear hK K
        refine AWp.ret ?_
        simp [e]
    · refine AWp.cond (t := false) (by first | (simp [h]; done) | (simp [h]; omega)) (by simp) (fun _ => ?_)
      refine AWp.exit ?_
      show AWp _ _ _ _
      refine AWp.seq ?_
      obtain rfl : i = a.cls.length := by omega
      have hC := list_eq_of q4 hall
      rw [decide_eq_true_eq] at hC
      refine AWp.go [2, 3, 6] [2, 3] fun K hK => ?_
      simp
      first | refine hK _ _ ?_ | refine ⟨by omega, hK _ _ ?_⟩ | refine ⟨by omega, by omega, hK _ _ ?_⟩
      clear hK K
      refine AWp.block (AWp.while (fun j : Nat => [(2, .ptr 2 0), (3, .ptr 3 0), (6, .i .i64 j)]) (fun j => [(2, [.sl .fro 1 (strsAV a.sets), .sl .fro 1 (strsAV a.counts), .sl .fro 1 (strsAV a.notes), .sl .fro 5 (clsAV a.cls), .sl .fro 2 (opnsAV a.opers)]), (3, [.sl .fro 1 (strsAV b.sets), .sl .fro 1 (strsAV b.counts), .sl .fro 1 (strsAV b.notes), .sl .fro 5 (clsAV b.cls), .sl .fro 2 (opnsAV b.opers)])]) (fun j => j ≤ a.opers.length ∧ a.opers.take j = b.opers.take j) (fun j => a.opers.length - j) [2, 3, 6] [2, 3] 0 (by simp) (by simp) ?_)
      rintro j ⟨hj, hallj⟩
      refine AWp.seq ?_
      refine AWp.go [2, 3, 6, 69] [2, 3] fun K hK => ?_
      simp
      first | refine hK _ _ ?_ | refine ⟨by omega, hK _ _ ?_⟩ | refine ⟨by omega, by omega, hK _ _ ?_⟩
      clear hK K
      by_cases h : j < a.opers.length
      · refine AWp.cond (t := true) (by first | (simp [h]; done) | (simp [h]; omega)) (fun _ => ?_) (by simp)
        refine AWp.skip ?_
        show AWp _ _ _ _
        refine AWp.seq ?_
        refine AWp.block ?_
        have h' : j < b.opers.length := by omega
        have g := c_ref16_Does a.opers[j].does b.opers[j].does (hd _ (List.getElem_mem h))
        refine AWp.stepD 29 (fun k => if k = 26 then .b (decide (a.opers[j].does = b.opers[j].does)) else .any) [2, 3, 6, 100] [2, 3] [(2, .ptr 2 0), (3, .ptr 3 0), (6, .i .i64 j), (100, .b (!decide (a.opers[j] = b.opers[j])))] [(2, [.sl .fro 1 (strsAV a.sets), .sl .fro 1 (strsAV a.counts), .sl .fro 1 (strsAV a.notes), .sl .fro 5 (clsAV a.cls), .sl .fro 2 (opnsAV a.opers)]), (3, [.sl .fro 1 (strsAV b.sets), .sl .fro 1 (strsAV b.counts), .sl .fro 1 (strsAV b.notes), .sl .fro 5 (clsAV b.cls), .sl .fro 2 (opnsAV b.opers)])] mix (by kernel_rfl) ?_ ?_
        · by_cases hq : a.opers[j].name = b.opers[j].name <;> simp [h, h', kbeq, g, hq, Opn.eq_iff]
        by_cases hp : a.opers[j] = b.opers[j]
        · refine AWp.cond (t := false) (by first | (simp [hp]; done) | (simp [hp]; omega)) (by simp) (fun _ => ?_)
          refine AWp.skip ?_
          show AWp _ _ _ _
          refine AWp.goLast [2, 3, 6] [2, 3] fun K hK => ?_
          simp
          first | refine hK _ _ ?_ | refine ⟨by omega, hK _ _ ?_⟩ | refine ⟨by omega, by omega, hK _ _ ?_⟩
          clear hK K
          refine ⟨j + 1, ⟨by omega, ?_⟩, by omega, ?_⟩
          · rw [List.take_succ_eq_append_getElem h, List.take_succ_eq_append_getElem h', hallj, hp]
          · simp
            exact wrap64 (by omega) (by omega)
        · refine AWp.cond (t := true) (by first | (simp [hp]; done) | (simp [hp]; omega)) (fun _ => ?_) (by simp)
          have e : decide (a = b) = false := by
            rw [decide_eq_false_iff_not]
            rintro rfl
            exact hp rfl
          refine AWp.go [4] [2, 3] fun K hK => ?_
          simp
          first | refine hK _ _ ?_ | refine ⟨by omega, hK _ _ ?_⟩ | refine ⟨by omega, by omega, hK _ _ ?_⟩
          clear hK K
          refine AWp.ret ?_
          simp [e]
      · refine AWp.cond (t := false) (by first | (simp [h]; done) | (simp [h]; omega)) (by simp) (fun _ => ?_)
        refine AWp.exit ?_
        show AWp _ _ _ _
        obtain rfl : j = a.opers.length := by omega
        have hO := list_eq_of q5 hallj
        rw [decide_eq_true_eq] at hO
        have e : decide (a = b) = true := by
          rw [decide_eq_true_eq, Rul.eq_iff]
          exact ⟨q1, q2, q3, hC, hO⟩
        refine AWp.go [4] [2, 3] fun K hK => ?_
        simp
        first | refine hK _ _ ?_ | refine ⟨by omega, hK _ _ ?_⟩ | refine ⟨by omega, by omega, hK _ _ ?_⟩
        clear hK K
        refine AWp.ret ?_
        simp [e]
theorem normR_slight {r : Rul} (hr : Slim r) : Slight (normR r) ∧ ∀ o ∈ (normR r).opers, o.does.length ≤ 1000 := by
  unfold normR
  split
  · obtain ⟨⟨k1, k2, k3, k4, k5⟩, hd, -⟩ := hr
    refine ⟨⟨k1, k2, k3, ?_, ?_⟩, fun o ho => ?_⟩
    · have h1 := allCl_len r.cls
      have h2 : (clausesP r.cls).length ≤ (allCl r.cls).length := List.length_filter_le ..
      show (clausesP r.cls).length ≤ 100
      omega
    · show (r.opers.map sortO).length ≤ 100
      simpa using k5
    · obtain ⟨o', ho', rfl⟩ := List.mem_map.1 ho
      show (sortDg o'.does).length ≤ 1000
      rw [sortDg_len]; exact hd _ ho'
  · exact ⟨⟨by simp [emptyR], by simp [emptyR], by simp [emptyR], by simp [emptyR], by simp [emptyR]⟩, fun o ho => by simp [emptyR] at ho⟩
set_option maxRecDepth 8000 in
set_option maxHeartbeats 2000000 in
theorem c_norm_Is (r : Rul) (hr : Slim r) : Pure Try.prog 30 [.agg (rulC r)] (.b (rulesB r && decide (normR r = r))) := by
  have gP := c_norm_Plain r hr
  obtain ⟨hs, hd⟩ := normR_slight hr
  have gS := c_sorts_Same (normR r) r hs (fun o ho => by have := hd o ho; omega)
  obtain ⟨N, hN⟩ : ∃ N, N = normR r := ⟨_, rfl⟩
  rw [← hN] at gP gS ⊢
  simp [rulC] at gP gS
  refine proc_of (cx Try.prog 17 [1, 2, 3, 4] [2]) 16 [.tmp 2] Try.func30 rfl rfl rfl rfl rfl rfl (Nat.le_refl _) rfl ?_
  refine AWp.go [1] [1] fun K hK => ?_
  simp [rulC]
  first | refine hK _ _ ?_ | refine ⟨by omega, hK _ _ ?_⟩ | refine ⟨by omega, by omega, hK _ _ ?_⟩
  clear hK K
  refine AWp.go [1, 3, 4] [1, 3] fun K hK => ?_
  simp
  refine call_pure gP (by simp) ?_
  simp
  first | refine hK _ _ ?_ | refine ⟨by omega, hK _ _ ?_⟩ | refine ⟨by omega, by omega, hK _ _ ?_⟩
  clear hK K
  refine AWp.step [2] [1, 3] [(2, .b (rulesB r && decide (N = r)))] [(1, [.sl .fro 1 (strsAV r.sets), .sl .fro 1 (strsAV r.counts), .sl .fro 1 (strsAV r.notes), .sl .fro 5 (clsAV r.cls), .sl .fro 2 (opnsAV r.opers)]), (3, [.sl .fro 1 (strsAV N.sets), .sl .fro 1 (strsAV N.counts), .sl .fro 1 (strsAV N.notes), .sl .fro 5 (clsAV N.cls), .sl .own 2 (opnsAV N.opers)])] ?_ ?_
  · cases q : rulesB r
    · simp
    · simp
      refine call_pure gS (by simp) ?_
      simp
  refine AWp.ret ?_
  simp
end Go.AM
namespace Go.AM
open Go.Proofs
def turnR (c : Cl) : Cl := if c.kind = 5 ∧ c.b < c.a then ⟨c.kind, c.strict, c.b, c.a, 0⟩ else c
def lexI : List Int → List Int → Bool → Bool
  | x :: xs, y :: ys, e => if x = y then lexI xs ys e else decide (x < y)
  | [], _, e => e
  | _, [], e => e
def lessR (a b : Cl) : Bool := lexI [a.kind, a.a, a.b, a.num] [b.kind, b.a, b.b, b.num] (!a.strict && b.strict)
def bndB (e : Cl) : Bool := decide (e.kind = 6) || decide (e.kind = 7)
def oneB (x e : Cl) : Bool := decide (x.kind = e.kind) && decide (x.a = e.a) && decide (x.b = e.b)
def scanCl (e : Cl) : List Cl → Option (List Cl)
  | [] => some []
  | x :: l => if oneB x e && bndB e then (if x.num ≤ e.num then none else scanCl e l) else if oneB x e && decide (x.num = e.num) then (if x.strict || !e.strict then none else scanCl e l) else (scanCl e l).map (x :: ·)
def insCl (e : Cl) : List Cl → List Cl
  | [] => [e]
  | x :: l => if lessR x e then x :: insCl e l else e :: x :: l
def putCl (l : List Cl) (c : Cl) : List Cl := match scanCl (turnR c) l with
  | none => l
  | some out => insCl (turnR c) out
theorem clsAV_app (a b : List Cl) : clsAV (a ++ b) = clsAV a ++ clsAV b := by simp [clsAV]
end Go.AM
namespace Go.AM
open Go.Proofs
def grpD (l : List Dg) (kind of : Int) : List Dg := l.filter fun d => decide (d.kind = kind) && decide (d.thing = of)
def rowD (l : List Dg) (kind : Int) (n : Nat) : List Dg := (List.range n).flatMap fun (o : Nat) => grpD l kind o
def allD (l : List Dg) (n : Nat) : List Dg := (List.range n).flatMap fun (k : Nat) => rowD l ((k : Int) + 1) 6
def gathO (o : Opn) : Opn := ⟨o.name, allD o.does 6⟩
def putsCl (l : List Cl) : List Cl := l.foldl putCl []
def docR (r : Rul) : Rul := ⟨r.sets, r.counts, r.notes, putsCl r.cls, r.opers.map gathO⟩
theorem putsCl_take (l : List Cl) (i : Nat) (h : i < l.length) : putsCl (l.take (i + 1)) = putCl (putsCl (l.take i)) l[i] := by
  unfold putsCl
  rw [List.take_succ_eq_append_getElem h, List.foldl_append]
  rfl
end Go.AM
namespace Go.AM
open Go.Proofs Go.Shelf Go.Sort
def LC (x y : Cl) : Prop := ltOf cmpCl x y = true
theorem LC_iff (x y : Cl) : LC x y ↔ (x.kind < y.kind ∨ x.kind = y.kind ∧ (x.a < y.a ∨ x.a = y.a ∧ (x.b < y.b ∨ x.b = y.b ∧ (x.num < y.num ∨ x.num = y.num ∧ stI x < stI y)))) := ltCl x y
theorem LC.irrefl (x : Cl) : ¬ LC x x := by rw [LC_iff]; omega
theorem LC.trans {x y z : Cl} (h1 : LC x y) (h2 : LC y z) : LC x z := by rw [LC_iff] at *; omega
theorem LC.asymm {x y : Cl} (h1 : LC x y) : ¬ LC y x := fun h => LC.irrefl _ (h1.trans h)
theorem LC.tri {x y : Cl} (h1 : ¬ LC x y) (h2 : ¬ LC y x) : x = y := totCl x y (by simpa [LC] using h1) (by simpa [LC] using h2)
theorem lessR_LC (a b : Cl) : lessR a b = true ↔ LC a b := by
  rw [LC_iff]
  unfold lessR
  have hs : (!a.strict && b.strict) = true ↔ stI a < stI b := by unfold stI; cases a.strict <;> cases b.strict <;> simp
  by_cases h1 : a.kind = b.kind
  · by_cases h2 : a.a = b.a
    · by_cases h3 : a.b = b.b
      · by_cases h4 : a.num = b.num
        · simp only [lexI, if_pos h1, if_pos h2, if_pos h3, if_pos h4, hs]; omega
        · simp only [lexI, if_pos h1, if_pos h2, if_pos h3, if_neg h4, decide_eq_true_eq]; omega
      · simp only [lexI, if_pos h1, if_pos h2, if_neg h3, decide_eq_true_eq]; omega
    · simp only [lexI, if_pos h1, if_neg h2, decide_eq_true_eq]; omega
  · simp only [lexI, if_neg h1, decide_eq_true_eq]; omega
theorem sorted_unique {α : Type} {R : α → α → Prop} (irr : ∀ x, ¬ R x x) (asy : ∀ {x y}, R x y → ¬ R y x) : ∀ (l m : List α), l.Pairwise R → m.Pairwise R → (∀ x, x ∈ l ↔ x ∈ m) → l = m
  | [], [], _, _, _ => rfl
  | [], y :: m, _, _, h => by have := (h y).2 (by simp); simp at this
  | x :: l, [], _, _, h => by have := (h x).1 (by simp); simp at this
  | x :: l, y :: m, hl, hm, h => by
    obtain ⟨hx, hl'⟩ := List.pairwise_cons.1 hl
    obtain ⟨hy, hm'⟩ := List.pairwise_cons.1 hm
    have hxy : x = y := by
      rcases List.mem_cons.1 ((h x).1 (by simp)) with h1 | h1
      · exact h1
      · rcases List.mem_cons.1 ((h y).2 (by simp)) with h2 | h2
        · exact h2.symm
        · exact absurd (hy _ h1) (asy (hx _ h2))
    subst hxy
    rw [sorted_unique irr asy l m hl' hm' fun z => ?_]
    constructor
    · intro hz
      rcases List.mem_cons.1 ((h z).1 (List.mem_cons_of_mem _ hz)) with rfl | h1
      · exact absurd (hx _ hz) (irr _)
      · exact h1
    · intro hz
      rcases List.mem_cons.1 ((h z).2 (List.mem_cons_of_mem _ hz)) with rfl | h1
      · exact absurd (hy _ hz) (irr _)
      · exact h1
def GC (x y : Cl) : Prop := x.kind = y.kind ∧ x.a = y.a ∧ x.b = y.b
theorem one_iff (x e : Cl) : oneB x e = true ↔ GC x e := by simp [oneB, GC, and_assoc]
def Bnd (e : Cl) : Prop := e.kind = 6 ∨ e.kind = 7
theorem bnd_iff (e : Cl) : bndB e = true ↔ Bnd e := by simp [bndB, Bnd]
def Ovr (c d : Cl) : Prop := GC c d ∧ c ≠ d ∧ (Bnd c ∧ d.num < c.num ∨ ¬ Bnd c ∧ c.num = d.num ∧ d.strict = true)
theorem over_iff (c d : Cl) : overB c d = true ↔ Ovr c d := by
  unfold overB Ovr GC Bnd
  by_cases h : c.kind = 6 ∨ c.kind = 7
  · rw [if_pos h]
    simp only [Bool.and_eq_true, decide_eq_true_eq, Bool.not_eq_true', decide_eq_false_iff_not]
    constructor
    · rintro ⟨⟨⟨⟨a, b⟩, c⟩, d⟩, e⟩; exact ⟨⟨a, b, c⟩, d, .inl ⟨h, e⟩⟩
    · rintro ⟨⟨a, b, c⟩, d, e⟩
      rcases e with e | e
      · exact ⟨⟨⟨⟨a, b⟩, c⟩, d⟩, e.2⟩
      · exact absurd h e.1
  · rw [if_neg h]
    simp only [Bool.and_eq_true, decide_eq_true_eq, Bool.not_eq_true', decide_eq_false_iff_not]
    constructor
    · rintro ⟨⟨⟨⟨a, b⟩, c⟩, d⟩, e⟩; exact ⟨⟨a, b, c⟩, d, .inr ⟨h, e⟩⟩
    · rintro ⟨⟨a, b, c⟩, d, e⟩
      rcases e with e | e
      · exact absurd e.1 h
      · exact ⟨⟨⟨⟨a, b⟩, c⟩, d⟩, e.2⟩
/-- What bounds bears no word 'strict'. -/
def Loose (e : Cl) : Prop := Bnd e → e.strict = false
def Blk (x e : Cl) : Prop := GC x e ∧ (Bnd e ∧ x.num ≤ e.num ∨ ¬ Bnd e ∧ x.num = e.num ∧ (x.strict = true ∨ e.strict = false))
def Kept (x e : Cl) : Prop := ¬ (GC x e ∧ (Bnd e ∨ x.num = e.num))
theorem scan_none {e : Cl} : ∀ {l : List Cl}, scanCl e l = none → ∃ x ∈ l, Blk x e
  | [], h => by rw [scanCl] at h; cases h
  | x :: l, h => by
    rw [scanCl] at h
    by_cases h1 : oneB x e = true
    · by_cases h2 : bndB e = true
      · rw [if_pos (by simp [h1, h2])] at h
        split at h
        · rename_i h3
          exact ⟨x, by simp, (one_iff x e).1 h1, .inl ⟨(bnd_iff e).1 h2, h3⟩⟩
        · obtain ⟨y, hy, hb⟩ := scan_none h
          exact ⟨y, by simp [hy], hb⟩
      · have h2' : ¬ Bnd e := fun hb => h2 ((bnd_iff e).2 hb)
        rw [if_neg (by simp [h2])] at h
        by_cases h3 : x.num = e.num
        · rw [if_pos (by simp [h1, h3])] at h
          split at h
          · rename_i h4
            refine ⟨x, by simp, (one_iff x e).1 h1, .inr ⟨h2', h3, ?_⟩⟩
            simpa using h4
          · obtain ⟨y, hy, hb⟩ := scan_none h
            exact ⟨y, by simp [hy], hb⟩
        · rw [if_neg (by simp [h3])] at h
          obtain ⟨y, hy, hb⟩ := scan_none (Option.map_eq_none_iff.1 h)
          exact ⟨y, by simp [hy], hb⟩
    · have h1' : oneB x e = false := by simpa using h1
      rw [if_neg (by simp [h1']), if_neg (by simp [h1'])] at h
      obtain ⟨y, hy, hb⟩ := scan_none (Option.map_eq_none_iff.1 h)
      exact ⟨y, by simp [hy], hb⟩
theorem scan_some {e : Cl} : ∀ {l out : List Cl}, scanCl e l = some out → out.Sublist l ∧ (∀ x, x ∈ out ↔ x ∈ l ∧ Kept x e) ∧ ∀ x ∈ l, ¬ Blk x e
  | [], out, h => by
    rw [scanCl] at h; cases h
    exact ⟨List.Sublist.refl _, fun x => by simp, fun x hx => by simp at hx⟩
  | x :: l, out, h => by
    rw [scanCl] at h
    have cut : scanCl e l = some out → ¬ Kept x e → ¬ Blk x e → out.Sublist (x :: l) ∧ (∀ y, y ∈ out ↔ y ∈ x :: l ∧ Kept y e) ∧ ∀ y ∈ x :: l, ¬ Blk y e := fun h1 hk hb => by
      obtain ⟨a, b, c⟩ := scan_some h1
      refine ⟨a.cons _, fun y => ?_, fun y hy => ?_⟩
      · rw [b, List.mem_cons]
        constructor
        · rintro ⟨p, q⟩; exact ⟨.inr p, q⟩
        · rintro ⟨rfl | p, q⟩
          · exact absurd q hk
          · exact ⟨p, q⟩
      · rcases List.mem_cons.1 hy with rfl | hy
        · exact hb
        · exact c y hy
    have keep : (scanCl e l).map (x :: ·) = some out → Kept x e → ¬ Blk x e → out.Sublist (x :: l) ∧ (∀ y, y ∈ out ↔ y ∈ x :: l ∧ Kept y e) ∧ ∀ y ∈ x :: l, ¬ Blk y e := fun h1 hk hb => by
      obtain ⟨o', ho', rfl⟩ := Option.map_eq_some_iff.1 h1
      obtain ⟨a, b, c⟩ := scan_some ho'
      refine ⟨a.cons_cons _, fun y => ?_, fun y hy => ?_⟩
      · rw [List.mem_cons, List.mem_cons, b]
        constructor
        · rintro (rfl | ⟨p, q⟩)
          · exact ⟨.inl rfl, hk⟩
          · exact ⟨.inr p, q⟩
        · rintro ⟨rfl | p, q⟩
          · exact .inl rfl
          · exact .inr ⟨p, q⟩
      · rcases List.mem_cons.1 hy with rfl | hy
        · exact hb
        · exact c y hy
    by_cases h1 : oneB x e = true
    · have g := (one_iff x e).1 h1
      by_cases h2 : bndB e = true
      · have hb := (bnd_iff e).1 h2
        rw [if_pos (by simp [h1, h2])] at h
        split at h
        · cases h
        · rename_i h3
          exact cut h (fun hk => hk ⟨g, .inl hb⟩) fun ⟨_, hh⟩ => by
            rcases hh with hh | hh
            · exact h3 hh.2
            · exact hh.1 hb
      · have h2' : ¬ Bnd e := fun hb => h2 ((bnd_iff e).2 hb)
        rw [if_neg (by simp [h2])] at h
        by_cases h3 : x.num = e.num
        · rw [if_pos (by simp [h1, h3])] at h
          split at h
          · cases h
          · rename_i h4
            refine cut h (fun hk => hk ⟨g, .inr h3⟩) fun ⟨_, hh⟩ => ?_
            rcases hh with hh | hh
            · exact h2' hh.1
            · exact h4 (by simpa using hh.2.2)
        · rw [if_neg (by simp [h3])] at h
          exact keep h (fun ⟨_, hh⟩ => hh.elim h2' h3) fun ⟨_, hh⟩ => by
            rcases hh with hh | hh
            · exact h2' hh.1
            · exact h3 hh.2.1
    · have h1' : oneB x e = false := by simpa using h1
      have g : ¬ GC x e := fun g => h1 ((one_iff x e).2 g)
      rw [if_neg (by simp [h1']), if_neg (by simp [h1'])] at h
      exact keep h (fun hh => g hh.1) fun hh => g hh.1
theorem insCl_mem (e x : Cl) : ∀ l : List Cl, x ∈ insCl e l ↔ x = e ∨ x ∈ l
  | [] => by simp [insCl]
  | y :: l => by
    rw [insCl]
    split
    · rw [List.mem_cons, insCl_mem e x l, List.mem_cons]
      constructor
      · rintro (h | h | h)
        · exact .inr (.inl h)
        · exact .inl h
        · exact .inr (.inr h)
      · rintro (h | h | h)
        · exact .inr (.inl h)
        · exact .inl h
        · exact .inr (.inr h)
    · simp
theorem insCl_sort (e : Cl) : ∀ l : List Cl, l.Pairwise LC → e ∉ l → (insCl e l).Pairwise LC
  | [], _, _ => by simp [insCl]
  | y :: l, hs, hn => by
    obtain ⟨hy, hl⟩ := List.pairwise_cons.1 hs
    have hne : y ≠ e := fun h => hn (by simp [h])
    rw [insCl]
    split
    · rename_i h
      have hye := (lessR_LC y e).1 h
      refine List.pairwise_cons.2 ⟨fun z hz => ?_, insCl_sort e l hl fun h => hn (by simp [h])⟩
      rcases (insCl_mem e z l).1 hz with rfl | hz
      · exact hye
      · exact hy z hz
    · rename_i h
      have hey : LC e y := by
        by_cases h2 : LC e y
        · exact h2
        · exact absurd (LC.tri (fun h3 => h ((lessR_LC y e).2 h3)) h2) hne
      refine List.pairwise_cons.2 ⟨fun z hz => ?_, hs⟩
      rcases List.mem_cons.1 hz with rfl | hz
      · exact hey
      · exact hey.trans (hy z hz)
def InM (T : List Cl) (x : Cl) : Prop := x ∈ T ∧ ∀ d ∈ T, ¬ Ovr x d
structure PlainOf (T S : List Cl) : Prop where
  sort : S.Pairwise LC
  mem : ∀ x, x ∈ S ↔ InM T x
  dom : ∀ d ∈ T, ∃ x ∈ S, x = d ∨ Ovr d x
theorem same_of {x e : Cl} (g : GC x e) (hn : x.num = e.num) (hs : x.strict = e.strict) : x = e := (Cl.eq_iff x e).2 ⟨g.1, hs, g.2.1, g.2.2, hn⟩
theorem GC.bnd {x e : Cl} (g : GC x e) : Bnd x ↔ Bnd e := by unfold Bnd; rw [g.1]
theorem GC.trans {x y z : Cl} (h : GC x y) (k : GC y z) : GC x z := ⟨h.1.trans k.1, h.2.1.trans k.2.1, h.2.2.trans k.2.2⟩
theorem GC.symm {x y : Cl} (h : GC x y) : GC y x := ⟨h.1.symm, h.2.1.symm, h.2.2.symm⟩
/-- What blocks a clause is it, or says more. -/
theorem blk_says {x e : Cl} (hx : Loose x) (he : Loose e) (h : Blk x e) : x = e ∨ Ovr e x := by
  obtain ⟨g, hh⟩ := h
  rcases hh with ⟨hb, hn⟩ | ⟨hb, hn, hs⟩
  · by_cases hne : x.num = e.num
    · exact .inl (same_of g hne ((hx (g.bnd.2 hb)).trans (he hb).symm))
    · exact .inr ⟨g.symm, fun h => hne (by rw [h]), .inl ⟨hb, by omega⟩⟩
  · by_cases hss : x.strict = e.strict
    · exact .inl (same_of g hn hss)
    · refine .inr ⟨g.symm, fun h => hss (by rw [h]), .inr ⟨hb, hn.symm, ?_⟩⟩
      rcases hs with hs | hs
      · exact hs
      · cases hx1 : x.strict
        · rw [hx1, hs] at hss; exact absurd rfl hss
        · rfl
theorem plain_step {T S : List Cl} {e : Cl} (hT : ∀ d ∈ T, Loose d) (he : Loose e) (h : PlainOf T S) : PlainOf (T ++ [e]) (match scanCl e S with | none => S | some out => insCl e out) := by
  have hS : ∀ x ∈ S, x ∈ T := fun x hx => ((h.mem x).1 hx).1
  cases hsc : scanCl e S with
  | none =>
    obtain ⟨x, hx, hb⟩ := scan_none hsc
    have hsay := blk_says (hT x (hS x hx)) he hb
    simp only
    refine ⟨h.sort, fun y => ?_, fun d hd => ?_⟩
    · rw [h.mem]
      constructor
      · rintro ⟨h1, h2⟩
        refine ⟨List.mem_append_left _ h1, fun d hd ho => ?_⟩
        rcases List.mem_append.1 hd with hd | hd
        · exact h2 d hd ho
        · rw [List.mem_singleton] at hd
          subst hd
          rcases hsay with rfl | hsay
          · exact h2 _ (hS _ hx) ho
          · obtain ⟨g1, n1, k1⟩ := ho
            obtain ⟨g2, n2, k2⟩ := hsay
            rcases k1 with ⟨b1, k1⟩ | ⟨b1, k1, s1⟩
            · rcases k2 with ⟨b2, k2⟩ | ⟨b2, k2, s2⟩
              · exact h2 x (hS x hx) ⟨g1.trans g2, fun hh => by rw [hh] at k1; omega, .inl ⟨b1, by omega⟩⟩
              · exact b2 (g1.bnd.1 b1)
            · rcases k2 with ⟨b2, k2⟩ | ⟨b2, k2, s2⟩
              · exact b1 (g1.bnd.2 b2)
              · exact n2 (same_of g2 k2 (s1.trans s2.symm))
      · rintro ⟨h1, h2⟩
        have hnT : ∀ d ∈ T, ¬ Ovr y d := fun d hd => h2 d (List.mem_append_left _ hd)
        rcases List.mem_append.1 h1 with h1 | h1
        · exact ⟨h1, hnT⟩
        · rw [List.mem_singleton] at h1
          subst h1
          rcases hsay with hsay | hsay
          · exact ⟨by rw [← hsay]; exact hS _ hx, hnT⟩
          · exact absurd hsay (hnT x (hS x hx))
    · rcases List.mem_append.1 hd with hd | hd
      · exact h.dom d hd
      · rw [List.mem_singleton] at hd
        subst hd
        exact ⟨x, hx, hsay⟩
  | some out =>
    obtain ⟨hsub, hmem, hnb⟩ := scan_some hsc
    simp only
    have heo : e ∉ out := fun hm => by
      have h1 := ((hmem e).1 hm).1
      refine hnb e h1 ⟨⟨rfl, rfl, rfl⟩, ?_⟩
      by_cases hb : Bnd e
      · exact .inl ⟨hb, Int.le_refl _⟩
      · exact .inr ⟨hb, rfl, by cases e.strict <;> simp⟩
    have drop : ∀ x ∈ S, ¬ Kept x e → Ovr x e := fun x hx hk => by
      have hk : GC x e ∧ (Bnd e ∨ x.num = e.num) := Classical.byContradiction hk
      obtain ⟨g, hk⟩ := hk
      have hb := hnb x hx
      by_cases hbe : Bnd e
      · have hlt : e.num < x.num := by
          refine Classical.byContradiction fun hh => hb ⟨g, .inl ⟨hbe, by omega⟩⟩
        exact ⟨g, fun h => by rw [h] at hlt; omega, .inl ⟨g.bnd.2 hbe, hlt⟩⟩
      · have hn : x.num = e.num := hk.resolve_left hbe
        have hs : ¬ (x.strict = true ∨ e.strict = false) := fun hs => hb ⟨g, .inr ⟨hbe, hn, hs⟩⟩
        have h1 : x.strict = false := by cases hx1 : x.strict; rfl; exact absurd (.inl hx1) hs
        have h2 : e.strict = true := by cases he1 : e.strict; exact absurd (.inr he1) hs; rfl
        exact ⟨g, fun h => (by rw [h, h2] at h1; cases h1), .inr ⟨fun hbx => hbe (g.bnd.1 hbx), hn, h2⟩⟩
    have hovr : ∀ d x, Ovr d x → Ovr x e → Ovr d e := fun d x h1 h2 => by
      obtain ⟨g1, n1, k1⟩ := h1
      obtain ⟨g2, n2, k2⟩ := h2
      rcases k1 with ⟨b1, k1⟩ | ⟨b1, k1, s1⟩
      · rcases k2 with ⟨b2, k2⟩ | ⟨b2, k2, s2⟩
        · exact ⟨g1.trans g2, fun hh => by rw [hh] at k1; omega, .inl ⟨b1, by omega⟩⟩
        · exact absurd (g1.bnd.1 b1) b2
      · rcases k2 with ⟨b2, k2⟩ | ⟨b2, k2, s2⟩
        · exact absurd (g1.bnd.2 b2) b1
        · exact absurd (same_of g2 k2 (s1.trans s2.symm)) n2
    refine ⟨insCl_sort e out (h.sort.sublist hsub) heo, fun y => ?_, fun d hd => ?_⟩
    · rw [insCl_mem, hmem]
      constructor
      · rintro (rfl | ⟨h1, hk⟩)
        · refine ⟨by simp, fun d hd ho => ?_⟩
          rcases List.mem_append.1 hd with hd | hd
          · obtain ⟨x, hx, hxd⟩ := h.dom d hd
            obtain ⟨g1, n1, k1⟩ := ho
            refine hnb x hx ?_
            rcases hxd with rfl | hxd
            · refine ⟨g1.symm, ?_⟩
              rcases k1 with ⟨b1, k1⟩ | ⟨b1, k1, s1⟩
              · exact .inl ⟨b1, by omega⟩
              · exact .inr ⟨b1, k1.symm, .inl s1⟩
            · obtain ⟨g2, n2, k2⟩ := hxd
              refine ⟨(g1.trans g2).symm, ?_⟩
              rcases k1 with ⟨b1, k1⟩ | ⟨b1, k1, s1⟩
              · rcases k2 with ⟨b2, k2⟩ | ⟨b2, k2, s2⟩
                · exact .inl ⟨b1, by omega⟩
                · exact absurd (g1.bnd.1 b1) b2
              · rcases k2 with ⟨b2, k2⟩ | ⟨b2, k2, s2⟩
                · exact absurd (g1.bnd.2 b2) b1
                · exact .inr ⟨b1, (k1.trans k2).symm, .inl s2⟩
          · rw [List.mem_singleton] at hd
            exact ho.2.1 hd.symm
        · obtain ⟨h2, h3⟩ := (h.mem y).1 h1
          refine ⟨List.mem_append_left _ h2, fun d hd ho => ?_⟩
          rcases List.mem_append.1 hd with hd | hd
          · exact h3 d hd ho
          · rw [List.mem_singleton] at hd
            subst hd
            refine hk ⟨ho.1, ?_⟩
            rcases ho.2.2 with ⟨b1, _⟩ | ⟨_, k1, _⟩
            · exact .inl (ho.1.bnd.1 b1)
            · exact .inr k1
      · rintro ⟨h1, h2⟩
        rcases List.mem_append.1 h1 with h1 | h1
        · have hyS : y ∈ S := (h.mem y).2 ⟨h1, fun d hd => h2 d (List.mem_append_left _ hd)⟩
          refine .inr ⟨hyS, ?_⟩
          exact Classical.byContradiction fun hk => h2 e (by simp) (drop y hyS hk)
        · exact .inl (List.mem_singleton.1 h1)
    · have hein : e ∈ insCl e out := (insCl_mem e e out).2 (.inl rfl)
      rcases List.mem_append.1 hd with hd | hd
      · obtain ⟨x, hx, hxd⟩ := h.dom d hd
        by_cases hk : Kept x e
        · exact ⟨x, (insCl_mem e x out).2 (.inr ((hmem x).2 ⟨hx, hk⟩)), hxd⟩
        · have ho := drop x hx hk
          refine ⟨e, hein, .inr ?_⟩
          rcases hxd with rfl | hxd
          · exact ho
          · exact hovr d x hxd ho
      · rw [List.mem_singleton] at hd
        exact ⟨e, hein, .inl hd.symm⟩
end Go.AM
namespace Go.AM
open Go.Proofs Go.Shelf Go.Sort
theorem clB_loose {r : Rul} {c : Cl} (h : clB r c = true) : Loose (turnC c) ∧ turnR c = turnC c := by
  have hs : Bnd c → c.strict = false := fun hb => by
    unfold clB at h
    rcases hb with hb | hb
    · rw [if_neg (by omega), if_neg (by omega), if_pos hb] at h
      simp only [Bool.and_eq_true, Bool.not_eq_true'] at h
      exact h.2
    · rw [if_neg (by omega), if_neg (by omega), if_neg (by omega), if_pos hb] at h
      simp only [Bool.and_eq_true, Bool.not_eq_true'] at h
      exact h.2
  unfold turnC turnR
  split
  · rename_i h5
    unfold clB at h
    rw [if_pos (.inr h5.1)] at h
    simp only [Bool.and_eq_true, decide_eq_true_eq] at h
    refine ⟨fun hb => ?_, by rw [h.2]⟩
    rcases hb with hb | hb
    · simp only at hb; omega
    · simp only at hb; omega
  · exact ⟨hs, rfl⟩
theorem putsCl_plain {l : List Cl} (hl : ∀ c ∈ l, Loose (turnC c) ∧ turnR c = turnC c) : ∀ i, i ≤ l.length → PlainOf ((l.take i).map turnC) (putsCl (l.take i))
  | 0, _ => ⟨by simp [putsCl], fun x => by simp [putsCl, InM], fun d hd => by simp at hd⟩
  | i + 1, hi => by
    have ih := putsCl_plain hl i (by omega)
    have hc := hl _ (List.getElem_mem (show i < l.length by omega))
    have := plain_step (e := turnC l[i]) (fun d hd => by
      obtain ⟨c, hc, rfl⟩ := List.mem_map.1 hd
      exact (hl c (List.mem_of_mem_take hc)).1) hc.1 ih
    rw [putsCl_take l i (by omega), List.take_succ_eq_append_getElem (by omega), List.map_append, List.map_singleton]
    unfold putCl
    rw [hc.2]
    exact this
theorem cmpN_sort {S : List Cl} (hs : S.Pairwise fun x y => ¬ LC y x) : ∀ i, i ≤ S.length → (cmpN S i).Pairwise LC ∧ ∀ x, x ∈ cmpN S i ↔ x ∈ S.take i
  | 0, _ => by simp [cmpN]
  | i + 1, hi => by
    obtain ⟨h1, h2⟩ := cmpN_sort hs i (by omega)
    have hlt : i < S.length := by omega
    have e : S.take (i + 1) = S.take i ++ [S[i]] := List.take_succ_eq_append_getElem hlt
    by_cases h0 : ∃ k, i = k + 1 ∧ ∃ hk : k < S.length, S[k] = S[i]
    · obtain ⟨k, rfl, hk, he⟩ := h0
      rw [cmpN_eq S k (k + 1) rfl hlt he.symm]
      refine ⟨h1, fun x => ?_⟩
      rw [h2, e, List.mem_append, List.mem_singleton]
      constructor
      · exact .inl
      · rintro (h | rfl)
        · exact h
        · rw [← he, List.mem_take_iff_getElem]
          exact ⟨k, by omega, rfl⟩
    · have hstep : cmpN S (i + 1) = cmpN S i ++ [S[i]] := by
        cases i with
        | zero =>
          conv => lhs; unfold cmpN
          rw [List.getElem?_eq_getElem hlt]
          simp
        | succ k => exact cmpN_ne S k (k + 1) rfl hlt fun he => h0 ⟨k, rfl, by omega, he.symm⟩
      have hlow : ∀ y ∈ S.take i, LC y S[i] := fun y hy => by
        rw [List.mem_take_iff_getElem] at hy
        obtain ⟨j, hj, rfl⟩ := hy
        have hj : j < i := by omega
        have hn : ¬ LC S[i] S[j] := List.pairwise_iff_getElem.1 hs j i (by omega) hlt hj
        have hne : S[j] ≠ S[i] := fun he => by
          cases i with
          | zero => omega
          | succ k =>
            refine h0 ⟨k, rfl, by omega, ?_⟩
            refine LC.tri (fun hlc => ?_) (List.pairwise_iff_getElem.1 hs k (k + 1) (by omega) hlt (by omega))
            rcases Nat.lt_or_ge j k with hjk | hjk
            · have := List.pairwise_iff_getElem.1 hs j k (by omega) (by omega) hjk
              rw [he] at this
              exact this hlc
            · have : j = k := by omega
              subst this
              rw [he] at hlc
              exact LC.irrefl _ hlc
        by_cases h : LC S[j] S[i]
        · exact h
        · exact absurd (LC.tri h hn) hne
      rw [hstep]
      refine ⟨List.pairwise_append.2 ⟨h1, by simp, fun a ha b hb => ?_⟩, fun x => ?_⟩
      · rw [List.mem_singleton] at hb
        subst hb
        exact hlow a ((h2 a).1 ha)
      · rw [e, List.mem_append, List.mem_append, h2]
theorem allCl_spec (l : List Cl) : (allCl l).Pairwise LC ∧ ∀ x, x ∈ allCl l ↔ x ∈ l.map turnC := by
  have hp := List.pairwise_mergeSort (le := fun x y => !(ltOf cmpCl) y x) (fun a b c h1 h2 => by
    have h1' : ¬ LC b a := by simpa [LC] using h1
    have h2' : ¬ LC c b := by simpa [LC] using h2
    have : ¬ LC c a := by rw [LC_iff] at *; omega
    simpa [LC] using this) (fun a b => by
    by_cases h : LC a b
    · have := h.asymm
      have h2 : ltOf cmpCl b a = false := by simpa [LC] using this
      simp [h2]
    · have h2 : ltOf cmpCl a b = false := by simpa [LC] using h
      simp [h2]) (l.map turnC)
  have hs : (sortCl (l.map turnC)).Pairwise fun x y => ¬ LC y x := hp.imp fun {a b} h => by
    show ¬ ltOf cmpCl b a = true
    simpa using h
  obtain ⟨h1, h2⟩ := cmpN_sort hs (sortCl (l.map turnC)).length (Nat.le_refl _)
  refine ⟨h1, fun x => ?_⟩
  have h3 := h2 x
  rw [List.take_length] at h3
  refine h3.trans ?_
  unfold sortCl
  exact (List.mergeSort_perm _ _).mem_iff
theorem clausesP_spec (l : List Cl) : (clausesP l).Pairwise LC ∧ ∀ x, x ∈ clausesP l ↔ InM (l.map turnC) x := by
  obtain ⟨h1, h2⟩ := allCl_spec l
  refine ⟨h1.filter _, fun x => ?_⟩
  unfold clausesP InM
  rw [List.mem_filter, h2]
  simp only [Bool.not_eq_true', List.any_eq_false, h2, over_iff]
theorem clauses_law {l : List Cl} (hl : ∀ c ∈ l, Loose (turnC c) ∧ turnR c = turnC c) : putsCl l = clausesP l := by
  have h1 := putsCl_plain hl l.length (Nat.le_refl _)
  rw [List.take_length] at h1
  obtain ⟨h2, h3⟩ := clausesP_spec l
  exact sorted_unique LC.irrefl LC.asymm _ _ h1.sort h2 fun x => (h1.mem x).trans (h3 x).symm
def LD (x y : Dg) : Prop := x.kind < y.kind ∨ x.kind = y.kind ∧ x.thing < y.thing
theorem LD.irrefl (x : Dg) : ¬ LD x x := by unfold LD; omega
theorem LD.asymm {x y : Dg} (h : LD x y) : ¬ LD y x := by unfold LD at *; omega
def DK (x y : Dg) : Prop := toK x ≠ toK y
theorem DK.symm {x y : Dg} (h : DK x y) : DK y x := Ne.symm h
theorem DK.key {x y : Dg} (h : DK x y) : ¬ (x.kind = y.kind ∧ x.thing = y.thing) := fun ⟨h1, h2⟩ => h (by unfold toK; rw [h1, h2])
theorem opB_iff (r : Rul) (o : Opn) : opB r o = true ↔ (1 ≤ o.does.length ∧ o.does.length ≤ 16) ∧ (∀ d ∈ o.does, doB r d = true) ∧ o.does.Pairwise DK := by
  simp only [opB, Bool.and_eq_true, inB, decide_eq_true_eq, List.all_eq_true]
  constructor
  · rintro ⟨h1, h2⟩
    refine ⟨by omega, fun d hd => ?_, ?_⟩
    · obtain ⟨i, hi, rfl⟩ := List.mem_iff_getElem.1 hd
      have := h2 i (by simpa using hi)
      rw [oprAt_at r hi, Bool.and_eq_true] at this
      exact this.1
    · rw [List.pairwise_iff_getElem]
      intro i j hi hj hij he
      have := h2 j (by simpa using hj)
      rw [oprAt_at r hj, Bool.and_eq_true, Bool.not_eq_true', didB] at this
      have h3 : (o.does.take j).any (fun x => decide (toK x = toK o.does[j])) = true := List.any_eq_true.2 ⟨o.does[i], by
        rw [List.mem_take_iff_getElem]; exact ⟨i, by omega, rfl⟩, by simpa using he⟩
      rw [h3] at this
      cases this.2
  · rintro ⟨h1, h2, h3⟩
    refine ⟨by omega, fun i hi => ?_⟩
    have hi : i < o.does.length := by simpa using hi
    rw [oprAt_at r hi, h2 _ (List.getElem_mem hi), Bool.true_and, Bool.not_eq_true', didB, List.any_eq_false]
    intro x hx he
    rw [List.mem_take_iff_getElem] at hx
    obtain ⟨j, hj, rfl⟩ := hx
    exact List.pairwise_iff_getElem.1 h3 j i (by omega) hi (by omega) (by simpa using he)
theorem sortDg_perm (l : List Dg) : (sortDg l).Perm l := List.mergeSort_perm _ _
theorem sortDg_LD {l : List Dg} (hl : l.Pairwise DK) : (sortDg l).Pairwise LD := by
  have hp := List.pairwise_mergeSort (le := fun x y => !(ltOf cmpDg) y x) (fun a b c h1 h2 => by
    have h1' : ¬ LD b a := fun h => by simp [(ltDg b a).2 h] at h1
    have h2' : ¬ LD c b := fun h => by simp [(ltDg c b).2 h] at h2
    have : ¬ LD c a := by unfold LD at *; omega
    have h3 : ltOf cmpDg c a = false := by rw [Bool.eq_false_iff]; exact fun h => this ((ltDg c a).1 h)
    simp [h3]) (fun a b => by
    by_cases h : LD a b
    · have h2 : ltOf cmpDg b a = false := by rw [Bool.eq_false_iff]; exact fun h' => h.asymm ((ltDg b a).1 h')
      simp [h2]
    · have h2 : ltOf cmpDg a b = false := by rw [Bool.eq_false_iff]; exact fun h' => h ((ltDg a b).1 h')
      simp [h2]) l
  have hd : (sortDg l).Pairwise DK := ((sortDg_perm l).pairwise_iff DK.symm).2 hl
  refine (hp.and hd).imp fun {a b} h => ?_
  have h1 : ¬ LD b a := fun hh => by have := h.1; simp [(ltDg b a).2 hh] at this
  have h2 := DK.key h.2
  unfold LD at *
  omega
theorem grpD_mem (l : List Dg) (a b : Int) (x : Dg) : x ∈ grpD l a b ↔ x ∈ l ∧ x.kind = a ∧ x.thing = b := by simp [grpD]
theorem rowD_mem (l : List Dg) (a : Int) (n : Nat) (x : Dg) : x ∈ rowD l a n ↔ x ∈ l ∧ x.kind = a ∧ 0 ≤ x.thing ∧ x.thing < n := by
  simp only [rowD, List.mem_flatMap, List.mem_range, grpD_mem]
  constructor
  · rintro ⟨o, ho, h1, h2, h3⟩; exact ⟨h1, h2, by omega, by omega⟩
  · rintro ⟨h1, h2, h3, h4⟩; exact ⟨x.thing.toNat, by omega, h1, h2, by omega⟩
theorem allD_mem (l : List Dg) (n : Nat) (x : Dg) : x ∈ allD l n ↔ x ∈ l ∧ 1 ≤ x.kind ∧ x.kind ≤ n ∧ 0 ≤ x.thing ∧ x.thing < 6 := by
  simp only [allD, List.mem_flatMap, List.mem_range, rowD_mem]
  constructor
  · rintro ⟨o, ho, h1, h2, h3, h4⟩; exact ⟨h1, by omega, by omega, by omega, by omega⟩
  · rintro ⟨h1, h2, h3, h4, h5⟩; exact ⟨(x.kind - 1).toNat, by omega, h1, by omega, by omega, by omega⟩
theorem range_lt (n : Nat) : (List.range n).Pairwise fun a b => a < b := List.pairwise_lt_range
theorem allD_LD {l : List Dg} (hl : l.Pairwise DK) (n : Nat) : (allD l n).Pairwise LD := by
  unfold allD
  rw [List.pairwise_flatMap]
  refine ⟨fun k _ => ?_, (range_lt n).imp fun {a b} hab x hx y hy => ?_⟩
  · unfold rowD
    rw [List.pairwise_flatMap]
    refine ⟨fun o _ => ?_, (range_lt 6).imp fun {a b} hab x hx y hy => ?_⟩
    · have h1 := hl.filter (p := fun d : Dg => decide (d.kind = (k : Int) + 1) && decide (d.thing = (o : Int)))
      refine h1.imp_of_mem fun {a b} ha hb h => ?_
      have g1 := (grpD_mem l ((k : Int) + 1) o a).1 ha
      have g2 := (grpD_mem l ((k : Int) + 1) o b).1 hb
      exact absurd ⟨g1.2.1.trans g2.2.1.symm, g1.2.2.trans g2.2.2.symm⟩ (DK.key h)
    · have g1 := (grpD_mem l _ _ x).1 hx
      have g2 := (grpD_mem l _ _ y).1 hy
      unfold LD; omega
  · have g1 := (rowD_mem l _ _ x).1 hx
    have g2 := (rowD_mem l _ _ y).1 hy
    unfold LD; omega
theorem does_law {l : List Dg} (hl : l.Pairwise DK) (hr : ∀ d ∈ l, 1 ≤ d.kind ∧ d.kind ≤ 6 ∧ 0 ≤ d.thing ∧ d.thing < 6) : allD l 6 = sortDg l := by
  refine sorted_unique LD.irrefl LD.asymm _ _ (allD_LD hl 6) (sortDg_LD hl) fun x => ?_
  rw [allD_mem, (sortDg_perm l).mem_iff]
  constructor
  · exact fun h => h.1
  · intro h
    have := hr x h
    exact ⟨h, by omega, by omega, by omega, by omega⟩
theorem doB_range {r : Rul} {d : Dg} (hr : lensB r = true) (h : doB r d = true) : 1 ≤ d.kind ∧ d.kind ≤ 6 ∧ 0 ≤ d.thing ∧ d.thing < 6 := by
  simp only [lensB, Bool.and_eq_true, Bool.not_eq_true', decide_eq_false_iff_not] at hr
  obtain ⟨⟨⟨⟨h1, h2⟩, h3⟩, h4⟩, h5⟩ := hr
  unfold doB at h
  split at h
  · simp only [Bool.and_eq_true, inN, inB, decide_eq_true_eq] at h; omega
  · split at h
    · simp only [Bool.and_eq_true, inN, inB, decide_eq_true_eq] at h; omega
    · split at h
      · simp only [Bool.and_eq_true, inN, inB, decide_eq_true_eq] at h; omega
      · cases h
theorem rulesB_parts {r : Rul} (h : rulesB r = true) : lensB r = true ∧ namedB (allN r) = true ∧ floorsB r.cls = true ∧ (∀ c ∈ r.cls, clB r c = true) ∧ ∀ o ∈ r.opers, opB r o = true := by
  simp only [rulesB, headB, Bool.and_eq_true, List.all_eq_true] at h
  exact ⟨h.1.1.1.1, h.1.1.1.2, h.1.1.2, h.1.2, h.2⟩
/-- The document's plainest form is the program's. -/
theorem plain_doc {r : Rul} (h : rulesB r = true) : docR r = plainP r := by
  obtain ⟨h1, h2, h3, h4, h5⟩ := rulesB_parts h
  unfold docR plainP
  rw [clauses_law fun c hc => clB_loose (h4 c hc)]
  congr 1
  refine List.map_congr_left fun o ho => ?_
  have := (opB_iff r o).1 (h5 o ho)
  unfold gathO sortO
  rw [does_law this.2.2 fun d hd => doB_range h1 (this.2.1 d hd)]
end Go.AM
namespace Go.AM
open Go.Proofs Go.Shelf Go.Sort
theorem turnC_kind (c : Cl) : (turnC c).kind = c.kind := by unfold turnC; split <;> rfl
theorem turnC_8 {c : Cl} (h : c.kind = 8) : turnC c = c := by unfold turnC; rw [if_neg (by omega)]
theorem floors_apart {l : List Cl} (h : floorsB l = true) {p q : Nat} (hp : p < l.length) (hq : q < l.length) (hpq : p < q) (h1 : l[p].kind = 8) (h2 : l[q].kind = 8) (ha : l[p].a = l[q].a) : False := by
  simp only [floorsB, List.all_eq_true] at h
  have := h q (by simpa using hq)
  rw [floorAt_at hq, h2] at this
  have h3 : flooredB (l.take q) l[q] = true := by
    unfold flooredB
    refine List.any_eq_true.2 ⟨l[p], ?_, by simp [h1, ha]⟩
    rw [List.mem_take_iff_getElem]; exact ⟨p, by omega, rfl⟩
  rw [h3] at this
  simp at this
theorem allN_plain (r : Rul) : allN (plainP r) = allN r := by simp [allN, plainP, sortO, Function.comp_def]
theorem clausesP_len (l : List Cl) : (clausesP l).length ≤ l.length := Nat.le_trans (List.length_filter_le ..) (allCl_len l)
theorem clB_turn {r : Rul} {c : Cl} (h : clB r c = true) : clB (plainP r) (turnC c) = true := by
  have e : clB (plainP r) (turnC c) = clB r (turnC c) := by
    unfold clB plainP
    simp only
  rw [e]
  unfold turnC
  split
  · rename_i h5
    unfold clB at h ⊢
    rw [if_pos (.inr h5.1)] at h ⊢
    simp only [Bool.and_eq_true, Bool.not_eq_true', decide_eq_false_iff_not, decide_eq_true_eq] at h ⊢
    exact ⟨⟨⟨h.1.1.2, h.1.1.1⟩, fun hh => h.1.2 hh.symm⟩, h.2⟩
  · exact h
/-- Plain rules may be. -/
theorem plain_may {r : Rul} (h : rulesB r = true) : rulesB (plainP r) = true := by
  obtain ⟨h1, h2, h3, h4, h5⟩ := rulesB_parts h
  obtain ⟨hs, hm⟩ := clausesP_spec r.cls
  have hof : ∀ x ∈ clausesP r.cls, ∃ c ∈ r.cls, turnC c = x := fun x hx => List.mem_map.1 ((hm x).1 hx).1
  have hlens : lensB (plainP r) = true := by
    have := clausesP_len r.cls
    simp only [lensB, Bool.and_eq_true, Bool.not_eq_true', decide_eq_false_iff_not] at h1 ⊢
    obtain ⟨⟨⟨⟨a, b⟩, c⟩, d⟩, e⟩ := h1
    refine ⟨⟨⟨⟨a, b⟩, c⟩, ?_⟩, ?_⟩
    · show ¬ (16 : Int) < (r.opers.map sortO).length
      simpa using d
    · show ¬ (12 : Int) < (clausesP r.cls).length
      omega
  have hfl : floorsB (clausesP r.cls) = true := by
    simp only [floorsB, List.all_eq_true]
    intro i hi
    have hi : i < (clausesP r.cls).length := by simpa using hi
    rw [floorAt_at hi]
    cases hfb : decide ((clausesP r.cls)[i].kind = 8) && flooredB ((clausesP r.cls).take i) (clausesP r.cls)[i]
    · rfl
    · exfalso
      simp only [Bool.and_eq_true, decide_eq_true_eq, flooredB, List.any_eq_true] at hfb
      obtain ⟨k8, x, hx, x8, xa⟩ := hfb
      rw [List.mem_take_iff_getElem] at hx
      obtain ⟨j, hj, rfl⟩ := hx
      have hj : j < i := by omega
      have hne : (clausesP r.cls)[j] ≠ (clausesP r.cls)[i] := fun he => by
        have := List.pairwise_iff_getElem.1 hs j i (by omega) hi hj
        rw [he] at this
        exact LC.irrefl _ this
      obtain ⟨c1, m1, e1⟩ := hof _ (List.getElem_mem (show j < (clausesP r.cls).length by omega))
      obtain ⟨c2, m2, e2⟩ := hof _ (List.getElem_mem hi)
      have n1 : c1.kind = 8 := by rw [← turnC_kind, e1]; exact x8
      have n2 : c2.kind = 8 := by rw [← turnC_kind, e2]; exact k8
      rw [turnC_8 n1] at e1
      rw [turnC_8 n2] at e2
      rw [← e1, ← e2] at hne xa
      obtain ⟨p, hp, rfl⟩ := List.mem_iff_getElem.1 m1
      obtain ⟨q, hq, rfl⟩ := List.mem_iff_getElem.1 m2
      rcases Nat.lt_trichotomy p q with hpq | hpq | hpq
      · exact floors_apart h3 hp hq hpq n1 n2 xa
      · subst hpq; exact hne rfl
      · exact floors_apart h3 hq hp hpq n2 n1 xa.symm
  have hcl : ∀ c ∈ clausesP r.cls, clB (plainP r) c = true := fun c hc => by
    obtain ⟨c0, m0, rfl⟩ := hof c hc
    exact clB_turn (h4 c0 m0)
  have hop : ∀ o ∈ (plainP r).opers, opB (plainP r) o = true := fun o ho => by
    obtain ⟨o0, m0, rfl⟩ := List.mem_map.1 ho
    have h6 := (opB_iff r o0).1 (h5 o0 m0)
    rw [opB_iff]
    refine ⟨?_, fun d hd => ?_, ?_⟩
    · show 1 ≤ (sortDg o0.does).length ∧ (sortDg o0.does).length ≤ 16
      rw [sortDg_len]; exact h6.1
    · have := h6.2.1 d ((sortDg_perm o0.does).mem_iff.1 hd)
      have e : doB (plainP r) d = doB r d := by unfold doB plainP; simp only
      rw [e]; exact this
    · exact ((sortDg_perm o0.does).pairwise_iff DK.symm).2 h6.2.2
  simp only [rulesB, headB, Bool.and_eq_true, List.all_eq_true]
  exact ⟨⟨⟨⟨hlens, by rw [allN_plain]; exact h2⟩, hfl⟩, hcl⟩, hop⟩
theorem normR_ok {r : Rul} (h : rulesB r = true) : normR r = plainP r := by rw [normR, if_pos h]
theorem slim_plain {r : Rul} (hr : Slim r) : Slim (normR r) := by
  obtain ⟨h1, h2⟩ := normR_slight hr
  refine ⟨h1, h2, ?_⟩
  unfold normR
  split
  · rw [allN_plain]; exact hr.2.2
  · intro s hs; simp [allN, emptyR] at hs
def w18 : Rul := ⟨[⟨#[97]⟩], [], [], [⟨6, false, 0, 0, 5⟩, ⟨6, false, 0, 0, 3⟩], []⟩
def v18 : Rul := ⟨[⟨#[97]⟩], [], [], [⟨6, false, 0, 0, 3⟩], []⟩
theorem w18_ok : rulesB w18 = true := by kernel_rfl
theorem v18_ok : rulesB v18 = true := by kernel_rfl
theorem w18_norm : normR w18 = v18 := by
  rw [normR_ok w18_ok, ← plain_doc w18_ok]
  kernel_rfl
theorem v18_norm : normR v18 = v18 := by
  rw [normR_ok v18_ok, ← plain_doc v18_ok]
  kernel_rfl
theorem w18_slim : Slim w18 := by
  refine ⟨⟨by decide, by decide, by decide, by decide, by decide⟩, fun o ho => ?_, fun s hs => ?_⟩
  · cases ho
  · simp [allN, w18] at hs
    rcases hs with rfl <;> decide
theorem v18_slim : Slim v18 := by
  refine ⟨⟨by decide, by decide, by decide, by decide, by decide⟩, fun o ho => ?_, fun s hs => ?_⟩
  · cases ho
  · simp [allN, v18] at hs
    rcases hs with rfl <;> decide
set_option maxRecDepth 8000 in
set_option maxHeartbeats 8000000 in
theorem c_law18_awake : Pure Try.prog 27 [] (.b true) := by
  have g1 := c_norm_Plain w18 w18_slim
  have g2 := c_norm_Is v18 v18_slim
  rw [w18_norm, w18_ok] at g1
  rw [v18_norm, v18_ok] at g2
  simp [rulC, w18, v18, strsAV, clsAV, clC, opnsAV] at g1 g2
  refine proc_of (cx Try.prog 32 [0, 1, 2] [0]) 32 [.tmp 0] Try.func27 rfl rfl rfl rfl rfl rfl (Nat.le_refl _) rfl ?_
  refine AWp.go [] [] fun K hK => ?_
  simp
  first | refine hK _ _ ?_ | refine ⟨by omega, hK _ _ ?_⟩ | refine ⟨by omega, by omega, hK _ _ ?_⟩
  clear hK K
  refine AWp.go [1, 2] [1] fun K hK => ?_
  simp
  refine call_pure g1 (by simp) ?_
  simp
  first | refine hK _ _ ?_ | refine ⟨by omega, hK _ _ ?_⟩ | refine ⟨by omega, by omega, hK _ _ ?_⟩
  clear hK K
  refine AWp.step [0] [1] [(0, .b true)] [(1, [.sl .fro 1 [[.s ⟨#[97]⟩]], .sl .fro 1 [], .sl .fro 1 [], .sl .fro 5 [[.i .i64 6, .b false, .i .i64 0, .i .i64 0, .i .i64 3]], .sl .own 2 []])] ?_ ?_
  · simp
    refine call_pure g2 (by simp) ?_
    simp
  refine AWp.ret ?_
  simp
end Go.AM
namespace Go.AM
open Go.Proofs Go.Shelf Go.Sort
def FA (x y : Cl) : Prop := ¬ (x.kind = 8 ∧ y.kind = 8 ∧ x.a = y.a)
theorem FA.symm {x y : Cl} (h : FA x y) : FA y x := fun ⟨a, b, c⟩ => h ⟨b, a, c.symm⟩
theorem floorsB_iff (l : List Cl) : floorsB l = true ↔ l.Pairwise FA := by
  constructor
  · intro h
    rw [List.pairwise_iff_getElem]
    exact fun i j hi hj hij ⟨a, b, c⟩ => floors_apart h hi hj hij a b c
  · intro h
    simp only [floorsB, List.all_eq_true]
    intro i hi
    have hi : i < l.length := by simpa using hi
    rw [floorAt_at hi]
    cases hfb : decide (l[i].kind = 8) && flooredB (l.take i) l[i]
    · rfl
    · exfalso
      simp only [Bool.and_eq_true, decide_eq_true_eq, flooredB, List.any_eq_true] at hfb
      obtain ⟨k8, x, hx, x8, xa⟩ := hfb
      rw [List.mem_take_iff_getElem] at hx
      obtain ⟨j, hj, rfl⟩ := hx
      exact List.pairwise_iff_getElem.1 h j i (by omega) hi (by omega) ⟨x8, k8, xa⟩
theorem clauses_ext {l m : List Cl} (h : ∀ x, x ∈ l.map turnC ↔ x ∈ m.map turnC) : clausesP l = clausesP m := by
  obtain ⟨h1, h2⟩ := clausesP_spec l
  obtain ⟨h3, h4⟩ := clausesP_spec m
  refine sorted_unique LC.irrefl LC.asymm _ _ h1 h3 fun x => ?_
  rw [h2, h4]
  unfold InM
  simp only [h]
theorem turnC_idem (c : Cl) : turnC (turnC c) = turnC c := by
  unfold turnC
  by_cases h : c.kind = 5 ∧ c.b < c.a
  · rw [if_pos h]
    exact if_neg (by simp only; omega)
  · rw [if_neg h, if_neg h]
theorem clauses_again (l : List Cl) : clausesP (clausesP l) = clausesP l := by
  obtain ⟨h1, h2⟩ := clausesP_spec l
  obtain ⟨h3, h4⟩ := clausesP_spec (clausesP l)
  have hid : (clausesP l).map turnC = clausesP l := by
    conv => rhs; rw [← List.map_id (clausesP l)]
    refine List.map_congr_left fun x hx => ?_
    obtain ⟨c, _, rfl⟩ := List.mem_map.1 ((h2 x).1 hx).1
    exact turnC_idem c
  refine sorted_unique LC.irrefl LC.asymm _ _ h3 h1 fun x => ?_
  rw [h4, hid]
  unfold InM
  constructor
  · exact fun h => h.1
  · intro h
    refine ⟨h, fun d hd => ((h2 x).1 h).2 d ((h2 d).1 hd).1⟩
theorem plain_again {r : Rul} (h : rulesB r = true) : plainP (plainP r) = plainP r := by
  obtain ⟨h1, h2, h3, h4, h5⟩ := rulesB_parts h
  rw [Rul.eq_iff]
  refine ⟨rfl, rfl, rfl, clauses_again r.cls, ?_⟩
  show (r.opers.map sortO).map sortO = r.opers.map sortO
  rw [List.map_map]
  refine List.map_congr_left fun o ho => ?_
  have hd := ((opB_iff r o).1 (h5 o ho)).2.2
  rw [Opn.eq_iff]
  refine ⟨rfl, ?_⟩
  show sortDg (sortDg o.does) = sortDg o.does
  have hd2 : (sortDg o.does).Pairwise DK := ((sortDg_perm o.does).pairwise_iff DK.symm).2 hd
  exact sorted_unique LD.irrefl LD.asymm _ _ (sortDg_LD hd2) (sortDg_LD hd) fun x => (sortDg_perm _).mem_iff
def mixR (r : Rul) (E : List Cl) : Rul := ⟨r.sets, r.counts, r.notes, E ++ r.cls.reverse, r.opers⟩
theorem mix_law {r : Rul} {E : List Cl} (h : rulesB r = true) (hE : ∀ c ∈ E, c ∈ r.cls ∧ c.kind ≠ 8) (hl : E.length + r.cls.length ≤ 12) : rulesB (mixR r E) = true ∧ plainP (mixR r E) = plainP r := by
  obtain ⟨h1, h2, h3, h4, h5⟩ := rulesB_parts h
  have hmem : ∀ c, c ∈ E ++ r.cls.reverse ↔ c ∈ r.cls := fun c => by
    rw [List.mem_append, List.mem_reverse]
    exact ⟨fun hh => hh.elim (fun a => (hE c a).1) id, .inr⟩
  constructor
  · have hlens : lensB (mixR r E) = true := by
      simp only [lensB, Bool.and_eq_true, Bool.not_eq_true', decide_eq_false_iff_not] at h1 ⊢
      obtain ⟨⟨⟨⟨a, b⟩, c⟩, d⟩, e⟩ := h1
      refine ⟨⟨⟨⟨a, b⟩, c⟩, d⟩, ?_⟩
      show ¬ (12 : Int) < (E ++ r.cls.reverse).length
      rw [List.length_append, List.length_reverse]
      omega
    have hfl : floorsB (E ++ r.cls.reverse) = true := by
      rw [floorsB_iff] at h3 ⊢
      refine List.pairwise_append.2 ⟨?_, ?_, fun a ha b _ hh => (hE a ha).2 hh.1⟩
      · exact List.pairwise_iff_getElem.2 fun i j hi hj _ hh => (hE _ (List.getElem_mem hi)).2 hh.1
      · rw [List.pairwise_reverse]
        exact h3.imp FA.symm
    have hcl : ∀ c ∈ E ++ r.cls.reverse, clB (mixR r E) c = true := fun c hc => h4 c ((hmem c).1 hc)
    have hop : ∀ o ∈ r.opers, opB (mixR r E) o = true := fun o ho => by
      have := h5 o ho
      rw [opB_iff] at this ⊢
      exact ⟨this.1, fun d hd => this.2.1 d hd, this.2.2⟩
    simp only [rulesB, headB, Bool.and_eq_true, List.all_eq_true]
    exact ⟨⟨⟨⟨hlens, h2⟩, hfl⟩, hcl⟩, hop⟩
  · rw [Rul.eq_iff]
    refine ⟨rfl, rfl, rfl, clauses_ext fun x => ?_, rfl⟩
    rw [List.mem_map, List.mem_map]
    constructor
    · rintro ⟨c, hc, rfl⟩; exact ⟨c, (hmem c).1 hc, rfl⟩
    · rintro ⟨c, hc, rfl⟩; exact ⟨c, (hmem c).2 hc, rfl⟩
def bysI (l : List Int) : List (List AV) := l.map fun n => [.i .u8 n]
@[simp] theorem bysI_length (l : List Int) : (bysI l).length = l.length := by simp [bysI]
@[simp] theorem bysI_getElem (l : List Int) (i : Nat) (h : i < (bysI l).length) : (bysI l)[i] = [.i .u8 (l[i]'(by simpa using h))] := by simp [bysI]
set_option maxRecDepth 8000 in
set_option maxHeartbeats 16000000 in
theorem c_NormAgain (r : Rul) (ts : List Int) (hts : ∀ n ∈ ts, 0 ≤ n ∧ n ≤ 255) (htl : ts.length ≤ 9223372036854775807) : Pure Try.prog 5 [.agg (rulC r), .sl .fro 1 (bysI ts)] (.b true) := by
  have g0 := c_law16_Light r
  have gw := c_law18_awake
  have gM := fun hr => c_ref16_May r hr
  simp [rulC] at g0 gM
  refine proc_of (cx Try.prog 135 [1, 2, 4, 5, 6, 7, 8, 9, 10, 11, 12, 13, 14, 27, 50, 78, 90] [4]) 133 [.tmp 4] Try.func5 rfl rfl rfl rfl rfl rfl (Nat.le_refl _) rfl ?_
  refine AWp.go [1, 2] [2] fun K hK => ?_
  simp [rulC]
  first | refine hK _ _ ?_ | refine ⟨by omega, hK _ _ ?_⟩ | refine ⟨by omega, by omega, hK _ _ ?_⟩
  clear hK K
  refine AWp.seq ?_
  refine AWp.step [1, 2, 27] [2] [(1, .sl .fro 1 (bysI ts)), (2, .ptr 2 0), (27, .b (!(slimB r && rulesB r && !decide ((30 : Int) < ts.length))))] [(2, [.sl .fro 1 (strsAV r.sets), .sl .fro 1 (strsAV r.counts), .sl .fro 1 (strsAV r.notes), .sl .fro 5 (clsAV r.cls), .sl .fro 2 (opnsAV r.opers)])] ?_ ?_
  · simp
    refine call_pure g0 (by simp) ?_
    cases q1 : slimB r
    · simp
    simp
    refine call_pure (gM (slim_of q1)) (by simp) ?_
    cases q2 : rulesB r
    · simp
    · simp
  cases hg : slimB r && rulesB r && !decide ((30 : Int) < ts.length)
  · refine AWp.cond (t := true) (by simp) (fun _ => ?_) (by simp)
    refine AWp.go [4] [2] fun K hK => ?_
    simp
    refine call_pure gw (by simp) ?_
    simp
    first | refine hK _ _ ?_ | refine ⟨by omega, hK _ _ ?_⟩ | refine ⟨by omega, by omega, hK _ _ ?_⟩
    clear hK K
    refine AWp.ret ?_
    simp
  · refine AWp.cond (t := false) (by simp) (by simp) (fun _ => ?_)
    refine AWp.skip ?_
    show AWp _ _ _ _
    have hL : slimB r = true ∧ rulesB r = true ∧ ts.length ≤ 30 := by
      simp only [Bool.and_eq_true, Bool.not_eq_true', decide_eq_false_iff_not] at hg
      exact ⟨hg.1.1, hg.1.2, by omega⟩
    have hr := slim_of hL.1
    have hrB := hL.2.1
    have ht30 := hL.2.2
    clear g0 gM hg
    have gP := (c_norm_Plain r hr).fro
    have hnr := normR_ok hrB
    have hsn := slim_plain hr
    rw [hnr] at hsn gP
    have hmay := plain_may hrB
    have gQ := (c_norm_Plain (plainP r) hsn).fro
    have hagain := plain_again hrB
    rw [normR_ok hmay, hagain, hmay] at gQ
    rw [hrB] at gP
    have gI := c_norm_Is (plainP r) hsn
    rw [normR_ok hmay, hagain, hmay] at gI
    have gS := c_ref16_Same (plainP r) (plainP r) hsn.1 (fun o ho => by have := hsn.2.1 o ho; omega)
    have hmix := fun (E : List Cl) hE hl => mix_law (r := r) (E := E) hrB hE hl
    have h12 : r.cls.length ≤ 12 := by
      have := (rulesB_parts hrB).1
      simp only [lensB, Bool.and_eq_true, Bool.not_eq_true', decide_eq_false_iff_not] at this
      omega
    obtain ⟨N, hN⟩ : ∃ N, N = plainP r := ⟨_, rfl⟩
    rw [← hN] at gP gQ gI gS hmix
    simp [rulC] at gP gQ gI gS
    obtain ⟨⟨k1, k2, k3, k4, k5⟩, kd, -⟩ := id hr
    refine AWp.go [1, 2, 5, 6] [2, 5] fun K hK => ?_
    simp
    refine call_pure gP (by simp) ?_
    simp
    first | refine hK _ _ ?_ | refine ⟨by omega, hK _ _ ?_⟩ | refine ⟨by omega, by omega, hK _ _ ?_⟩
    clear hK K
    refine AWp.go [1, 2, 5, 6, 7, 8] [2, 5, 7] fun K hK => ?_
    simp
    refine call_pure gQ (by simp) ?_
    simp
    first | refine hK _ _ ?_ | refine ⟨by omega, hK _ _ ?_⟩ | refine ⟨by omega, by omega, hK _ _ ?_⟩
    clear hK K
    refine AWp.go [1, 2, 5, 6, 7, 8, 9] [2, 5, 7, 9] fun K hK => ?_
    simp
    first | refine hK _ _ ?_ | refine ⟨by omega, hK _ _ ?_⟩ | refine ⟨by omega, by omega, hK _ _ ?_⟩
    clear hK K
    refine AWp.go [1, 2, 5, 6, 7, 8, 9] [2, 5, 7, 9] fun K hK => ?_
    simp
    first | refine hK _ _ ?_ | refine ⟨by omega, hK _ _ ?_⟩ | refine ⟨by omega, by omega, hK _ _ ?_⟩
    clear hK K
    refine AWp.seq ?_
    refine AWp.go [1, 2, 5, 6, 7, 8, 9, 10] [2, 5, 7, 9] fun K hK => ?_
    simp
    first | refine hK _ _ ?_ | refine ⟨by omega, hK _ _ ?_⟩ | refine ⟨by omega, by omega, hK _ _ ?_⟩
    clear hK K
    refine AWp.block (AWp.while (fun p : Nat × List Cl => [(1, .sl .fro 1 (bysI ts)), (2, .ptr 2 0), (5, .ptr 5 0), (6, .i .i64 0), (7, .ptr 7 0), (8, .i .i64 0), (9, .ptr 9 0), (10, .i .i64 p.1)]) (fun p => [(2, [.sl .fro 1 (strsAV r.sets), .sl .fro 1 (strsAV r.counts), .sl .fro 1 (strsAV r.notes), .sl .fro 5 (clsAV r.cls), .sl .fro 2 (opnsAV r.opers)]), (5, [.sl .fro 1 (strsAV N.sets), .sl .fro 1 (strsAV N.counts), .sl .fro 1 (strsAV N.notes), .sl .fro 5 (clsAV N.cls), .sl .fro 2 (opnsAV N.opers)]), (7, [.sl .fro 1 (strsAV N.sets), .sl .fro 1 (strsAV N.counts), .sl .fro 1 (strsAV N.notes), .sl .fro 5 (clsAV N.cls), .sl .fro 2 (opnsAV N.opers)]), (9, [.sl .fro 1 (strsAV r.sets), .sl .fro 1 (strsAV r.counts), .sl .fro 1 (strsAV r.notes), .sl .own 5 (clsAV p.2), .sl .fro 2 (opnsAV r.opers)])]) (fun p => p.1 ≤ ts.length ∧ p.2.length + r.cls.length ≤ 12 ∧ ∀ c ∈ p.2, c ∈ r.cls ∧ c.kind ≠ 8) (fun p => ts.length - p.1) [1, 2, 5, 6, 7, 8, 9, 10] [2, 5, 7, 9] (0, []) (by exact ⟨by simp, by simpa using h12, fun c hc => by simp at hc⟩) (by simp [clsAV]) ?_)
    rintro ⟨i, E⟩ ⟨hi, hEl, hE⟩
    dsimp only at hi hEl hE
    try dsimp only
    refine AWp.seq ?_
    refine AWp.step [1, 2, 5, 6, 7, 8, 9, 10, 50] [2, 5, 7, 9] [(1, .sl .fro 1 (bysI ts)), (2, .ptr 2 0), (5, .ptr 5 0), (6, .i .i64 0), (7, .ptr 7 0), (8, .i .i64 0), (9, .ptr 9 0), (10, .i .i64 i), (50, .b (decide (i < ts.length) && decide (0 < r.cls.length)))] [(2, [.sl .fro 1 (strsAV r.sets), .sl .fro 1 (strsAV r.counts), .sl .fro 1 (strsAV r.notes), .sl .fro 5 (clsAV r.cls), .sl .fro 2 (opnsAV r.opers)]), (5, [.sl .fro 1 (strsAV N.sets), .sl .fro 1 (strsAV N.counts), .sl .fro 1 (strsAV N.notes), .sl .fro 5 (clsAV N.cls), .sl .fro 2 (opnsAV N.opers)]), (7, [.sl .fro 1 (strsAV N.sets), .sl .fro 1 (strsAV N.counts), .sl .fro 1 (strsAV N.notes), .sl .fro 5 (clsAV N.cls), .sl .fro 2 (opnsAV N.opers)]), (9, [.sl .fro 1 (strsAV r.sets), .sl .fro 1 (strsAV r.counts), .sl .fro 1 (strsAV r.notes), .sl .own 5 (clsAV E), .sl .fro 2 (opnsAV r.opers)])] ?_ ?_
    · by_cases q : i < ts.length <;> simp [q]
    cases hc : decide (i < ts.length) && decide (0 < r.cls.length)
    · refine AWp.cond (t := false) (by simp) (by simp) (fun _ => ?_)
      refine AWp.exit ?_
      show AWp _ _ _ _
      refine AWp.seq ?_
      clear hc
      obtain ⟨hxB, hxP⟩ := hmix E hE hEl
      have w0 : IntKind.i64.wrap ((r.cls.length : Int) - 1) = (r.cls.length : Int) - 1 := wrap64 (by omega) (by omega)
      refine AWp.go [2, 5, 6, 7, 8, 9, 12] [2, 5, 7, 9] fun K hK => ?_
      simp [w0]
      first | refine hK _ _ ?_ | refine ⟨by omega, hK _ _ ?_⟩ | refine ⟨by omega, by omega, hK _ _ ?_⟩
      clear hK K
      refine AWp.block (AWp.while (fun k : Nat => [(2, .ptr 2 0), (5, .ptr 5 0), (6, .i .i64 0), (7, .ptr 7 0), (8, .i .i64 0), (9, .ptr 9 0), (12, .i .i64 ((r.cls.length : Int) - 1 - k))]) (fun k => [(2, [.sl .fro 1 (strsAV r.sets), .sl .fro 1 (strsAV r.counts), .sl .fro 1 (strsAV r.notes), .sl .fro 5 (clsAV r.cls), .sl .fro 2 (opnsAV r.opers)]), (5, [.sl .fro 1 (strsAV N.sets), .sl .fro 1 (strsAV N.counts), .sl .fro 1 (strsAV N.notes), .sl .fro 5 (clsAV N.cls), .sl .fro 2 (opnsAV N.opers)]), (7, [.sl .fro 1 (strsAV N.sets), .sl .fro 1 (strsAV N.counts), .sl .fro 1 (strsAV N.notes), .sl .fro 5 (clsAV N.cls), .sl .fro 2 (opnsAV N.opers)]), (9, [.sl .fro 1 (strsAV r.sets), .sl .fro 1 (strsAV r.counts), .sl .fro 1 (strsAV r.notes), .sl .own 5 (clsAV (E ++ r.cls.reverse.take k)), .sl .fro 2 (opnsAV r.opers)])]) (fun k => k ≤ r.cls.length) (fun k => r.cls.length - k) [2, 5, 6, 7, 8, 9, 12] [2, 5, 7, 9] 0 (by simp) (by simp) ?_)
      intro k hk
      refine AWp.seq ?_
      refine AWp.go [2, 5, 6, 7, 8, 9, 12, 90] [2, 5, 7, 9] fun K hK => ?_
      simp
      first | refine hK _ _ ?_ | refine ⟨by omega, hK _ _ ?_⟩ | refine ⟨by omega, by omega, hK _ _ ?_⟩
      clear hK K
      by_cases h : k < r.cls.length
      · refine AWp.cond (t := true) (by first | (simp [h]; done) | (simp [h]; omega)) (fun _ => ?_) (by simp)
        refine AWp.skip ?_
        show AWp _ _ _ _
        refine AWp.seq ?_
        refine AWp.block ?_
        have hix : r.cls.length - 1 - k < r.cls.length := by omega
        have hzi : (r.cls.length : Int) - 1 - k = ((r.cls.length - 1 - k : Nat) : Int) := by omega
        obtain ⟨c, hcc⟩ : ∃ c, c = r.cls[r.cls.length - 1 - k] := ⟨_, rfl⟩
        have hsn : clsAV (E ++ r.cls.reverse.take (k + 1)) = clsAV (E ++ r.cls.reverse.take k) ++ [[.i .i64 c.kind, .b c.strict, .i .i64 c.a, .i .i64 c.b, .i .i64 c.num]] := by
          rw [List.take_succ_eq_append_getElem (by simpa using h), ← List.append_assoc, clsAV_snoc, List.getElem_reverse, ← hcc]
        rw [hzi]
        refine AWp.lastA 8 (fun _ => .any) [2, 5, 6, 7, 8, 9, 12] [2, 5, 7, 9] [(2, .ptr 2 0), (5, .ptr 5 0), (6, .i .i64 0), (7, .ptr 7 0), (8, .i .i64 0), (9, .ptr 9 0), (12, .i .i64 ((r.cls.length - 1 - k : Nat) : Int))] [(2, [.sl .fro 1 (strsAV r.sets), .sl .fro 1 (strsAV r.counts), .sl .fro 1 (strsAV r.notes), .sl .fro 5 (clsAV r.cls), .sl .fro 2 (opnsAV r.opers)]), (5, [.sl .fro 1 (strsAV N.sets), .sl .fro 1 (strsAV N.counts), .sl .fro 1 (strsAV N.notes), .sl .fro 5 (clsAV N.cls), .sl .fro 2 (opnsAV N.opers)]), (7, [.sl .fro 1 (strsAV N.sets), .sl .fro 1 (strsAV N.counts), .sl .fro 1 (strsAV N.notes), .sl .fro 5 (clsAV N.cls), .sl .fro 2 (opnsAV N.opers)]), (9, [.sl .fro 1 (strsAV r.sets), .sl .fro 1 (strsAV r.counts), .sl .fro 1 (strsAV r.notes), .sl .own 5 (clsAV (E ++ r.cls.reverse.take (k + 1))), .sl .fro 2 (opnsAV r.opers)])] mix (by kernel_rfl) ?_ ?_
        · simp [hix, ← hcc, hsn]
          omega
        show AWp _ _ _ _
        refine AWp.goLast [2, 5, 6, 7, 8, 9, 12] [2, 5, 7, 9] fun K hK => ?_
        simp
        first | refine hK _ _ ?_ | refine ⟨by omega, hK _ _ ?_⟩ | refine ⟨by omega, by omega, hK _ _ ?_⟩
        clear hK K
        refine ⟨k + 1, by omega, by omega, ?_⟩
        simp
        rw [wrap64 (by omega) (by omega)]
        omega
      · refine AWp.cond (t := false) (by first | (simp [h]; done) | (simp [h]; omega)) (by simp) (fun _ => ?_)
        refine AWp.exit ?_
        show AWp _ _ _ _
        obtain rfl : k = r.cls.length := by omega
        rw [List.take_of_length_le (by simp)]
        have hxs : Slim (mixR r E) := ⟨⟨k1, k2, k3, by show (E ++ r.cls.reverse).length ≤ 100; rw [List.length_append, List.length_reverse]; omega, k5⟩, hr.2.1, hr.2.2⟩
        have gX := (c_norm_Plain (mixR r E) hxs).fro
        rw [normR_ok hxB, hxP, hxB] at gX
        simp [rulC, mixR] at gX
        refine AWp.go [5, 6, 7, 8, 13, 14] [2, 5, 7, 9, 13] fun K hK => ?_
        simp [clsAV_app]
        refine call_pure gX (by simp [clsAV_app]) ?_
        simp [clsAV_app]
        first | refine hK _ _ ?_ | refine ⟨by omega, hK _ _ ?_⟩ | refine ⟨by omega, by omega, hK _ _ ?_⟩
        clear hK K
        refine AWp.step [4] [2, 5, 7, 9, 13] [(4, .b true)] [(2, [.sl .fro 1 (strsAV r.sets), .sl .fro 1 (strsAV r.counts), .sl .fro 1 (strsAV r.notes), .sl .fro 5 (clsAV r.cls), .sl .fro 2 (opnsAV r.opers)]), (5, [.sl .fro 1 (strsAV N.sets), .sl .fro 1 (strsAV N.counts), .sl .fro 1 (strsAV N.notes), .sl .fro 5 (clsAV N.cls), .sl .fro 2 (opnsAV N.opers)]), (7, [.sl .fro 1 (strsAV N.sets), .sl .fro 1 (strsAV N.counts), .sl .fro 1 (strsAV N.notes), .sl .fro 5 (clsAV N.cls), .sl .fro 2 (opnsAV N.opers)]), (9, [.sl .fro 1 (strsAV r.sets), .sl .fro 1 (strsAV r.counts), .sl .fro 1 (strsAV r.notes), .sl .fro 5 (clsAV E ++ clsAV r.cls.reverse), .sl .fro 2 (opnsAV r.opers)]), (13, [.sl .fro 1 (strsAV N.sets), .sl .fro 1 (strsAV N.counts), .sl .fro 1 (strsAV N.notes), .sl .fro 5 (clsAV N.cls), .sl .fro 2 (opnsAV N.opers)])] ?_ ?_
        · simp
          refine call_pure gS (by simp) ?_
          simp
          refine call_pure gS (by simp) ?_
          simp
          refine call_pure gI (by simp) ?_
          simp
          refine call_pure gw (by simp) ?_
          simp
        refine AWp.ret ?_
        simp
    · refine AWp.cond (t := true) (by simp) (fun _ => ?_) (by simp)
      refine AWp.skip ?_
      show AWp _ _ _ _
      refine AWp.seq ?_
      refine AWp.block ?_
      simp only [Bool.and_eq_true, decide_eq_true_eq] at hc
      obtain ⟨hit, hpos⟩ := hc
      obtain ⟨v, hv⟩ : ∃ v : Nat, ts[i] = v := ⟨(ts[i]).toNat, by have := hts _ (List.getElem_mem hit); omega⟩
      have hv2 : v ≤ 255 := by have := hts _ (List.getElem_mem hit); omega
      have hwv : IntKind.i64.wrap (v : Int) = v := wrap64 (by omega) (by omega)
      have hml : v % r.cls.length < r.cls.length := Nat.mod_lt _ hpos
      have hne : ¬ r.cls = [] := fun h => by rw [h] at hpos; simp at hpos
      obtain ⟨m, hm⟩ : ∃ m, m = v % r.cls.length := ⟨_, rfl⟩
      have hrem : Int.tmod (v : Int) (r.cls.length : Int) = (m : Int) := by
        rw [Int.tmod_eq_emod_of_nonneg (by omega), hm]; simp
      rw [← hm] at hml
      obtain ⟨c, hcc⟩ : ∃ c, c = r.cls[m] := ⟨_, rfl⟩
      have hcm : c ∈ r.cls := by rw [hcc]; exact List.getElem_mem hml
      refine AWp.goA 14 (fun _ => .any) [1, 2, 5, 6, 7, 8, 9, 10, 11] [2, 5, 7, 9, 11] mix (by kernel_rfl) fun K hK => ?_
      simp [hit, hv, hwv, hrem, hml, hne, ← hcc]
      first | refine hK _ _ ?_ | refine ⟨by omega, hK _ _ ?_⟩ | refine ⟨by omega, by omega, hK _ _ ?_⟩
      clear hK K
      have w1 : IntKind.i64.wrap ((E.length : Int) + r.cls.length) = (E.length : Int) + r.cls.length := wrap64 (by omega) (by omega)
      refine AWp.step [1, 2, 5, 6, 7, 8, 9, 10, 11, 78] [2, 5, 7, 9, 11] [(1, .sl .fro 1 (bysI ts)), (2, .ptr 2 0), (5, .ptr 5 0), (6, .i .i64 0), (7, .ptr 7 0), (8, .i .i64 0), (9, .ptr 9 0), (10, .i .i64 i), (11, .ptr 11 0), (78, .b (decide (c.kind ≠ 8) && decide (E.length + r.cls.length < 12)))] [(2, [.sl .fro 1 (strsAV r.sets), .sl .fro 1 (strsAV r.counts), .sl .fro 1 (strsAV r.notes), .sl .fro 5 (clsAV r.cls), .sl .fro 2 (opnsAV r.opers)]), (5, [.sl .fro 1 (strsAV N.sets), .sl .fro 1 (strsAV N.counts), .sl .fro 1 (strsAV N.notes), .sl .fro 5 (clsAV N.cls), .sl .fro 2 (opnsAV N.opers)]), (7, [.sl .fro 1 (strsAV N.sets), .sl .fro 1 (strsAV N.counts), .sl .fro 1 (strsAV N.notes), .sl .fro 5 (clsAV N.cls), .sl .fro 2 (opnsAV N.opers)]), (9, [.sl .fro 1 (strsAV r.sets), .sl .fro 1 (strsAV r.counts), .sl .fro 1 (strsAV r.notes), .sl .own 5 (clsAV E), .sl .fro 2 (opnsAV r.opers)]), (11, [.i .i64 c.kind, .b c.strict, .i .i64 c.a, .i .i64 c.b, .i .i64 c.num])] ?_ ?_
      · by_cases q : c.kind = 8
        · simp [q]
        · by_cases q2 : E.length + r.cls.length < 12
          · simp [q, q2, w1]
            omega
          · simp [q, q2, w1]
            omega
      cases hd : decide (c.kind ≠ 8) && decide (E.length + r.cls.length < 12)
      · refine AWp.cond (t := false) (by simp) (by simp) (fun _ => ?_)
        refine AWp.skip ?_
        show AWp _ _ _ _
        refine AWp.goLast [1, 2, 5, 6, 7, 8, 9, 10] [2, 5, 7, 9] fun K hK => ?_
        simp
        first | refine hK _ _ ?_ | refine ⟨by omega, hK _ _ ?_⟩ | refine ⟨by omega, by omega, hK _ _ ?_⟩
        clear hK K
        refine ⟨(i + 1, E), ⟨by dsimp only; omega, hEl, hE⟩, by dsimp only; omega, ?_⟩
        simp
        exact wrap64 (by omega) (by omega)
      · refine AWp.cond (t := true) (by simp) (fun _ => ?_) (by simp)
        refine AWp.last [1, 2, 5, 6, 7, 8, 9, 10] [2, 5, 7, 9] [(1, .sl .fro 1 (bysI ts)), (2, .ptr 2 0), (5, .ptr 5 0), (6, .i .i64 0), (7, .ptr 7 0), (8, .i .i64 0), (9, .ptr 9 0), (10, .i .i64 i)] [(2, [.sl .fro 1 (strsAV r.sets), .sl .fro 1 (strsAV r.counts), .sl .fro 1 (strsAV r.notes), .sl .fro 5 (clsAV r.cls), .sl .fro 2 (opnsAV r.opers)]), (5, [.sl .fro 1 (strsAV N.sets), .sl .fro 1 (strsAV N.counts), .sl .fro 1 (strsAV N.notes), .sl .fro 5 (clsAV N.cls), .sl .fro 2 (opnsAV N.opers)]), (7, [.sl .fro 1 (strsAV N.sets), .sl .fro 1 (strsAV N.counts), .sl .fro 1 (strsAV N.notes), .sl .fro 5 (clsAV N.cls), .sl .fro 2 (opnsAV N.opers)]), (9, [.sl .fro 1 (strsAV r.sets), .sl .fro 1 (strsAV r.counts), .sl .fro 1 (strsAV r.notes), .sl .own 5 (clsAV (E ++ [c])), .sl .fro 2 (opnsAV r.opers)])] ?_ ?_
        · simp [clsAV_snoc]
          omega
        show AWp _ _ _ _
        refine AWp.goLast [1, 2, 5, 6, 7, 8, 9, 10] [2, 5, 7, 9] fun K hK => ?_
        simp
        first | refine hK _ _ ?_ | refine ⟨by omega, hK _ _ ?_⟩ | refine ⟨by omega, by omega, hK _ _ ?_⟩
        clear hK K
        simp only [Bool.and_eq_true, decide_eq_true_eq] at hd
        refine ⟨(i + 1, E ++ [c]), ⟨by dsimp only; omega, by simp; omega, fun x hx => ?_⟩, by dsimp only; omega, ?_⟩
        · rcases List.mem_append.1 hx with hx | hx
          · exact hE x hx
          · rw [List.mem_singleton] at hx
            subst hx
            exact ⟨hcm, hd.1⟩
        · simp
          exact wrap64 (by omega) (by omega)
end Go.AM
