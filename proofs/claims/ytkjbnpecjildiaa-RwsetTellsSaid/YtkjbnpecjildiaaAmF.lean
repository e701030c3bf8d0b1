/- Sets: put, add, drop where the key is there; at nil. -/
import Derived.Test.YtkjbnpecjildiaaAmE
import Derived.Test.YtkjbnpecjildiaaAmD
import Derived.ChangeArms
import Derived.ChangeOld
import Derived.ChangeShapes
import Derived.Below
import Derived.SizedLaws
import Derived.Carry
import Derived.OpenShut
import Derived.WideShapes
set_option linter.unusedSimpArgs false
set_option linter.unusedVariables false
namespace Go.AM
open Go.Proofs

theorem c_Clone_EntryN : Pure Try.prog 85 [.sl .nl 3 []] (.sl .nl 3 []) := by
  refine proc_of (cx Try.prog 8 [0, 2, 4] [2]) 7 [.tmp 2] Try.func85 rfl rfl rfl rfl rfl rfl (Nat.le_refl _) rfl ?_
  refine AWp.go [0] [] fun K hK => ?_
  simp
  first | refine hK _ _ ?_ | refine ⟨by omega, hK _ _ ?_⟩ | refine ⟨by omega, by omega, hK _ _ ?_⟩
  clear hK K
  refine AWp.seq ?_
  refine AWp.go [0, 4] [] fun K hK => ?_
  simp
  first | refine hK _ _ ?_ | refine ⟨by omega, hK _ _ ?_⟩ | refine ⟨by omega, by omega, hK _ _ ?_⟩
  clear hK K
  refine AWp.cond (t := true) (by first | (simp; done) | (simp; omega)) (fun _ => ?_) (by simp)
  refine AWp.go [2] [] fun K hK => ?_
  simp
  first | refine hK _ _ ?_ | refine ⟨by omega, hK _ _ ?_⟩ | refine ⟨by omega, by omega, hK _ _ ?_⟩
  clear hK K
  refine AWp.ret ?_
  simp

set_option maxRecDepth 8000 in
theorem c_rwset_copiedN : Pure Try.prog 51 [.sl .nl 3 []] (.sl .nl 3 []) := by
  refine proc_of (cx Try.prog 34 [0, 2, 3, 4, 8, 9, 10] [2]) 33 [.tmp 2] Try.func51 rfl rfl rfl rfl rfl rfl (Nat.le_refl _) rfl ?_
  refine AWp.go [0] [] fun K hK => ?_
  simp
  first | refine hK _ _ ?_ | refine ⟨by omega, hK _ _ ?_⟩ | refine ⟨by omega, by omega, hK _ _ ?_⟩
  clear hK K
  refine AWp.go [3] [] fun K hK => ?_
  simp
  refine call_procK [] none c_Clone_EntryN (by simp) (by simp) ?_
  simp
  first | refine hK _ _ ?_ | refine ⟨by omega, hK _ _ ?_⟩ | refine ⟨by omega, by omega, hK _ _ ?_⟩
  clear hK K
  refine AWp.seq ?_
  refine AWp.go [3, 8, 9] [] fun K hK => ?_
  simp
  first | refine hK _ _ ?_ | refine ⟨by omega, hK _ _ ?_⟩ | refine ⟨by omega, by omega, hK _ _ ?_⟩
  clear hK K
  refine AWp.block (AWp.while (fun i : Nat => [(3, .sl .nl 3 []), (8, .i .i64 0), (9, .i .i64 0)]) (fun i => []) (fun i => True) (fun i => 0) [3, 8, 9] [] 0 (by simp) (by simp) ?_)
  intro i hi
  refine AWp.go [3, 8, 9, 10] [] fun K hK => ?_
  simp
  first | refine hK _ _ ?_ | refine ⟨by omega, hK _ _ ?_⟩ | refine ⟨by omega, by omega, hK _ _ ?_⟩
  clear hK K
  refine AWp.seq ?_
  refine AWp.cond (t := false) (by first | (simp; done) | (simp; omega)) (by simp) (fun _ => ?_)
  refine AWp.exit ?_
  show AWp _ _ _ _
  refine AWp.go [2] [] fun K hK => ?_
  simp
  first | refine hK _ _ ?_ | refine ⟨by omega, hK _ _ ?_⟩ | refine ⟨by omega, by omega, hK _ _ ?_⟩
  clear hK K
  refine AWp.ret ?_
  simp

set_option maxRecDepth 8000 in
theorem c_Insert_EntryN (e : Entry) : Pure Try.prog 89 [.sl .nl 3 [], .i .i64 0, .sl .fro 3 [entC e]] (.sl .own 3 [entC e]) := by
  refine proc_of (cx Try.prog 95 [0, 1, 2, 6, 7, 8, 9, 16, 22, 31, 68] [6]) 92 [.tmp 6] Try.func89 rfl rfl rfl rfl rfl rfl (Nat.le_refl _) rfl ?_
  refine AWp.go [0, 1, 2] [] fun K hK => ?_
  simp
  first | refine hK _ _ ?_ | refine ⟨by omega, hK _ _ ?_⟩ | refine ⟨by omega, by omega, hK _ _ ?_⟩
  clear hK K
  refine AWp.go [0, 1, 2] [] fun K hK => ?_
  simp
  first | refine hK _ _ ?_ | refine ⟨by omega, hK _ _ ?_⟩ | refine ⟨by omega, by omega, hK _ _ ?_⟩
  clear hK K
  refine AWp.go [0, 1, 2, 7] [] fun K hK => ?_
  simp
  first | refine hK _ _ ?_ | refine ⟨by omega, hK _ _ ?_⟩ | refine ⟨by omega, by omega, hK _ _ ?_⟩
  clear hK K
  refine AWp.seq ?_
  refine AWp.go [0, 1, 2, 7, 16] [] fun K hK => ?_
  simp
  first | refine hK _ _ ?_ | refine ⟨by omega, hK _ _ ?_⟩ | refine ⟨by omega, by omega, hK _ _ ?_⟩
  clear hK K
  refine AWp.cond (t := false) (by first | (simp; done) | (simp; omega)) (by simp) (fun _ => ?_)
  refine AWp.skip ?_
  show AWp _ _ _ _
  refine AWp.go [0, 1, 2, 7, 8] [] fun K hK => ?_
  simp
  first | refine hK _ _ ?_ | refine ⟨by omega, hK _ _ ?_⟩ | refine ⟨by omega, by omega, hK _ _ ?_⟩
  clear hK K
  refine AWp.seq ?_
  refine AWp.go [0, 1, 2, 7, 8, 22] [] fun K hK => ?_
  simp
  first | refine hK _ _ ?_ | refine ⟨by omega, hK _ _ ?_⟩ | refine ⟨by omega, by omega, hK _ _ ?_⟩
  clear hK K
  refine AWp.cond (t := true) (by first | (simp; done) | (simp; omega)) (fun _ => ?_) (by simp)
  refine AWp.go [6] [] fun K hK => ?_
  simp
  first | refine hK _ _ ?_ | refine ⟨by omega, hK _ _ ?_⟩ | refine ⟨by omega, by omega, hK _ _ ?_⟩
  clear hK K
  refine AWp.ret ?_
  simp

theorem place_nil (k : ByteArray) : place [] k = 0 := bsF_done _ 0
theorem there_nil (k : ByteArray) : there [] k = false := rfl
theorem entsAV_set (s : List Entry) (i : Nat) (e : Entry) : entsAV (s.set i e) = (entsAV s).set i [.s e.key, .sl .fro 2 (dotsAV e.live), .sl .fro 2 (dotsAV e.dead)] := by
  unfold entsAV; rw [List.map_set]; rfl

set_option maxRecDepth 8000 in
set_option maxHeartbeats 1000000 in
theorem c_rwset_putN (e : Entry) : Pure Try.prog 53 [.sl .nl 3 [], .agg (entC e)] (.tup [.sl .own 3 [entC e], .i .i64 0]) := by
  refine proc_of (cx Try.prog 36 [0, 3, 4, 5, 6, 7, 9, 20, 27] [4, 5]) 34 [.tmp 4, .tmp 5] Try.func53 rfl rfl rfl rfl rfl rfl (Nat.le_refl _) rfl ?_
  refine AWp.go [0, 3] [3] fun K hK => ?_
  simp [entC]
  first | refine hK _ _ ?_ | refine ⟨by omega, hK _ _ ?_⟩ | refine ⟨by omega, by omega, hK _ _ ?_⟩
  clear hK K
  refine AWp.go [3, 6] [3] fun K hK => ?_
  simp
  refine call_procK [] none c_rwset_copiedN (by simp) (by simp) ?_
  simp
  first | refine hK _ _ ?_ | refine ⟨by omega, hK _ _ ?_⟩ | refine ⟨by omega, by omega, hK _ _ ?_⟩
  clear hK K
  refine AWp.go [3, 6, 7, 9] [3] fun K hK => ?_
  simp
  refine call_pure (c_rwset_at [] e.key fine_nil) (by simp [entsAV]) ?_
  simp [place_nil, there_nil, entC]
  first | refine hK _ _ ?_ | refine ⟨by omega, hK _ _ ?_⟩ | refine ⟨by omega, by omega, hK _ _ ?_⟩
  clear hK K
  refine AWp.seq ?_
  refine AWp.block ?_
  refine AWp.go [3, 6, 7, 20] [3] fun K hK => ?_
  simp
  first | refine hK _ _ ?_ | refine ⟨by omega, hK _ _ ?_⟩ | refine ⟨by omega, by omega, hK _ _ ?_⟩
  clear hK K
  refine AWp.cond (t := false) (by first | (simp; done) | (simp; omega)) (by simp) (fun _ => ?_)
  refine AWp.go [3, 6, 7, 27] [3] fun K hK => ?_
  simp
  first | refine hK _ _ ?_ | refine ⟨by omega, hK _ _ ?_⟩ | refine ⟨by omega, by omega, hK _ _ ?_⟩
  clear hK K
  refine AWp.cond (t := false) (by first | (simp; done) | (simp; omega)) (by simp) (fun _ => ?_)
  refine AWp.skip ?_
  show AWp _ _ _ _
  refine AWp.go [4, 5] [] fun K hK => ?_
  simp
  refine call_procK [] none (c_Insert_EntryN e) (by simp [entC]) (by simp) ?_
  simp
  first | refine hK _ _ ?_ | refine ⟨by omega, hK _ _ ?_⟩ | refine ⟨by omega, by omega, hK _ _ ?_⟩
  clear hK K
  refine AWp.ret ?_
  simp

set_option maxRecDepth 8000 in
set_option maxHeartbeats 2000000 in
theorem c_BSearch_EntryB (s : List Entry) (k : ByteArray) (pad : List AV) (cap : Nat) (hs : Fine s) (hpad : Calm pad) : Proc Try.prog 1 79 [.bs 0 0 s.length cap, .s k, .fn 80 [] []] [(0, boxR entC s pad)] (.tup [.i .i64 (place s k), .b (there s k)]) [(0, boxR entC s pad)] := by
  have hC : Calm (boxR entC s pad) := boxR_calm entC_ok hpad
  have hL : (boxR entC s pad).length = s.length * 3 + pad.length := boxR_len entC_ok s pad
  refine proc_of (cxb Try.prog 49 1 [0, 1, 2, 6, 7, 8, 9, 10, 11, 17, 31] [] [6, 7]) 46 [.tmp 6, .tmp 7] Try.func79 rfl rfl rfl rfl rfl rfl (Nat.le_refl _) rfl ?_
  refine AWp.go [0, 1, 2] [0] fun K hK => ?_
  simp [hC]
  first | refine hK _ _ ?_ | refine ⟨by omega, hK _ _ ?_⟩ | refine ⟨by omega, by omega, hK _ _ ?_⟩
  clear hK K
  refine AWp.go [0, 1, 2, 8] [0] fun K hK => ?_
  simp [hC]
  first | refine hK _ _ ?_ | refine ⟨by omega, hK _ _ ?_⟩ | refine ⟨by omega, by omega, hK _ _ ?_⟩
  clear hK K
  refine AWp.go [0, 1, 2, 8, 9, 10] [0] fun K hK => ?_
  simp [hC]
  first | refine hK _ _ ?_ | refine ⟨by omega, hK _ _ ?_⟩ | refine ⟨by omega, by omega, hK _ _ ?_⟩
  clear hK K
  refine AWp.seq ?_
  refine AWp.block (AWp.while (fun p : Nat × Nat => [(0, .bs 0 0 s.length cap), (1, .s k), (2, .fn 80 [] []), (8, .i .i64 s.length), (9, .i .i64 p.1), (10, .i .i64 p.2)]) (fun p => [(0, boxR entC s pad)]) (fun p => p.1 ≤ p.2 ∧ p.2 ≤ s.length ∧ bsF (less s k) p.1 p.2 = place s k) (fun p => p.2 - p.1) [0, 1, 2, 8, 9, 10] [0] (0, s.length) (by exact ⟨Nat.zero_le _, Nat.le_refl _, rfl⟩) (by simp [hC]) ?_)
  rintro ⟨lo, hi⟩ ⟨h1, h2, h3⟩
  have hlen := hs.1
  refine AWp.seq ?_
  refine AWp.go [0, 1, 2, 8, 9, 10, 17] [0] fun K hK => ?_
  simp [hC]
  first | refine hK _ _ ?_ | refine ⟨by omega, hK _ _ ?_⟩ | refine ⟨by omega, by omega, hK _ _ ?_⟩
  clear hK K
  by_cases h : lo < hi
  · refine AWp.cond (t := true) (by first | (simp [h]; done) | (simp [h]; omega)) (fun _ => ?_) (by simp)
    refine AWp.skip ?_
    show AWp _ _ _ _
    refine AWp.block ?_
    obtain ⟨m, hm⟩ : ∃ m : Nat, m = (lo + hi) / 2 := ⟨_, rfl⟩
    have hml : m < s.length := by omega
    refine AWp.step [0, 1, 2, 8, 9, 10, 11] [0] [(0, .bs 0 0 s.length cap), (1, .s k), (2, .fn 80 [] []), (8, .i .i64 s.length), (9, .i .i64 lo), (10, .i .i64 hi), (11, .i .i64 m)] [(0, boxR entC s pad)] ?_ ?_
    · have w1 : IntKind.i64.wrap ((lo : Int) + hi) = (lo : Int) + hi := wrap64 (by omega) (by omega)
      simp [w1, hC]
      exact mid_wrap (by omega) hm
    refine AWp.go [0, 1, 2, 8, 9, 10, 11, 31] [0] fun K hK => ?_
    simp [hml, entR_get s pad m hml, hL]
    refine ⟨by omega, ?_⟩
    refine call_pure (c_rwset_at1 s[m] k) (by simp [entC]) ?_
    simp [hC]
    first | refine hK _ _ ?_ | refine ⟨by omega, hK _ _ ?_⟩ | refine ⟨by omega, by omega, hK _ _ ?_⟩
    clear hK K
    by_cases hp : cmpK s[m].key k < 0
    · refine AWp.cond (t := true) (by first | (simp [hp]; done) | (simp [hp]; omega)) (fun _ => ?_) (by simp)
      refine AWp.goLast [0, 1, 2, 8, 9, 10] [0] fun K hK => ?_
      simp (disch := omega) [wrap64]
      first | refine hK _ _ ?_ | refine ⟨by omega, hK _ _ ?_⟩ | refine ⟨by omega, by omega, hK _ _ ?_⟩
      clear hK K
      refine ⟨(m + 1, hi), ⟨by simp; omega, h2, ?_⟩, by simp; omega, ?_⟩
      · rw [bsF, if_pos h, ← hm, if_pos (by simp [less, hml, hp])] at h3
        exact h3
      · simp [hC]
    · refine AWp.cond (t := false) (by first | (simp [hp]; done) | (simp [hp]; omega)) (by simp) (fun _ => ?_)
      refine AWp.goLast [0, 1, 2, 8, 9, 10] [0] fun K hK => ?_
      simp [hC]
      first | refine hK _ _ ?_ | refine ⟨by omega, hK _ _ ?_⟩ | refine ⟨by omega, by omega, hK _ _ ?_⟩
      clear hK K
      refine ⟨(lo, m), ⟨by simp; omega, by simp; omega, ?_⟩, by simp; omega, ?_⟩
      · rw [bsF, if_pos h, ← hm, if_neg (by simp [less, hml, hp])] at h3
        exact h3
      · simp [hC]
  · refine AWp.cond (t := false) (by first | (simp [h]; done) | (simp [h]; omega)) (by simp) (fun _ => ?_)
    refine AWp.exit ?_
    show AWp _ _ _ _
    obtain rfl : lo = hi := by omega
    rw [bsF_done] at h3
    refine AWp.step [6, 7] [0] [(6, .i .i64 (place s k)), (7, .b (there s k))] [(0, boxR entC s pad)] ?_ ?_
    · by_cases hq : lo < s.length
      · simp [hq, there, ← h3, hL, entR_get s pad lo hq]
        refine ⟨by omega, ?_⟩
        refine call_pure (c_rwset_at1 s[lo] k) (by simp [entC]) ?_
        simp [hC]
      · simp [hq, there, ← h3, hC]
    refine AWp.ret ?_
    simp [hC]
    simpa using hC.still

set_option maxRecDepth 8000 in
set_option maxHeartbeats 2000000 in
theorem c_rwset_atB (s : List Entry) (k : ByteArray) (pad : List AV) (cap : Nat) (hs : Fine s) (hpad : Calm pad) : Proc Try.prog 1 49 [.bs 0 0 s.length cap, .s k] [(0, boxR entC s pad)] (.tup [.i .i64 (place s k), .agg (entC (atE s k)), .b (there s k)]) [(0, boxR entC s pad)] := by
  have hC : Calm (boxR entC s pad) := boxR_calm entC_ok hpad
  have hL : (boxR entC s pad).length = s.length * 3 + pad.length := boxR_len entC_ok s pad
  refine proc_of (cxb Try.prog 24 1 [0, 1, 4, 5, 6, 7, 8, 15] [] [4, 5, 6]) 22 [.tmp 4, .cell 5 60, .tmp 6] Try.func49 rfl rfl rfl rfl rfl rfl (Nat.le_refl _) rfl ?_
  refine AWp.go [0, 1, 5] [0, 6] fun K hK => ?_
  simp [hC]
  first | refine hK _ _ ?_ | refine ⟨by omega, hK _ _ ?_⟩ | refine ⟨by omega, by omega, hK _ _ ?_⟩
  clear hK K
  refine AWp.go [0, 1, 5, 7, 8] [0, 6] fun K hK => ?_
  simp
  refine call_proc [(0, 0)] none (c_BSearch_EntryB s k pad cap hs hpad) (by simp) (by simp) ?_
  simp [hC]
  refine ⟨by simpa using hC.still, hK _ _ ?_⟩
  clear hK K
  refine AWp.seq ?_
  have hpl := place_le s k
  refine AWp.go [0, 1, 5, 7, 15] [0, 6] fun K hK => ?_
  simp [hC]
  first | refine hK _ _ ?_ | refine ⟨by omega, hK _ _ ?_⟩ | refine ⟨by omega, by omega, hK _ _ ?_⟩
  clear hK K
  by_cases hp : there s k = true
  · refine AWp.cond (t := true) (by first | (simp [hp]; done) | (simp [hp]; omega)) (fun _ => ?_) (by simp)
    have hlt := there_lt hp
    refine AWp.stepD 6 (fun _ => .any) [4, 5, 6] [0, 6] [(4, .i .i64 (place s k)), (5, .ptr 6 0), (6, .b true)] [(0, boxR entC s pad), (6, [.s s[place s k].key, .sl .fro 2 (dotsAV s[place s k].live), .sl .fro 2 (dotsAV s[place s k].dead)])] mix (by kernel_rfl) ?_ ?_
    · simp [hlt, hC, hL, entR_get s pad _ hlt]
      omega
    refine AWp.ret ?_
    simp [atE, hp, hlt, entC, hC]
    simpa using hC.still
  · refine AWp.cond (t := false) (by first | (simp [hp]; done) | (simp [hp]; omega)) (by simp) (fun _ => ?_)
    refine AWp.skip ?_
    show AWp _ _ _ _
    refine AWp.go [4, 5, 6] [0, 6] fun K hK => ?_
    simp [hC]
    first | refine hK _ _ ?_ | refine ⟨by omega, hK _ _ ?_⟩ | refine ⟨by omega, by omega, hK _ _ ?_⟩
    clear hK K
    refine AWp.ret ?_
    simp [atE, hp, emptyE, entC, dotsAV, hC]
    simpa using hC.still

set_option maxRecDepth 8000 in
set_option maxHeartbeats 2000000 in
theorem c_rwset_putT (s : List Entry) (e : Entry) (hs : Fine s) (ht : there s e.key = true) : Pure Try.prog 53 [.sl .fro 3 (entsAV s), .agg (entC e)] (.tup [.sl .own 3 (entsAV (s.set (place s e.key) e)), .i .i64 0]) := by
  have hlt := there_lt ht
  have hne : s ≠ [] := by rintro rfl; simp at hlt
  refine proc_of (cx Try.prog 36 [0, 3, 4, 5, 6, 7, 9, 20, 27] [4, 5]) 34 [.tmp 4, .tmp 5] Try.func53 rfl rfl rfl rfl rfl rfl (Nat.le_refl _) rfl ?_
  refine AWp.go [0, 3] [3] fun K hK => ?_
  simp [entC]
  first | refine hK _ _ ?_ | refine ⟨by omega, hK _ _ ?_⟩ | refine ⟨by omega, by omega, hK _ _ ?_⟩
  clear hK K
  refine AWp.go [3, 6] [3] fun K hK => ?_
  simp
  refine call_pure (c_rwset_copied s hs) (by simp) ?_
  simp
  first | refine hK _ _ ?_ | refine ⟨by omega, hK _ _ ?_⟩ | refine ⟨by omega, by omega, hK _ _ ?_⟩
  clear hK K
  refine AWp.unown 6 100 rfl (by simp) (by simpa [entsAV] using hne) rfl (by simp) fun cap hcap => ?_
  simp at hcap
  have hcc : ∀ l, Calm (boxR entC l (padE s cap)) := fun l => boxR_calm entC_ok (Calm.replicate _ rfl)
  have hbl := boxR_len entC_ok s (padE s cap)
  have e0 : (entsAV s).flatten ++ List.replicate ((cap - s.length) * 3) AV.any = boxR entC s (padE s cap) := rfl
  simp [e0]
  refine AWp.go [3, 6, 7, 9] [3, 100] fun K hK => ?_
  simp
  refine call_proc [(0, 100)] none (c_rwset_atB s e.key (padE s cap) cap hs (Calm.replicate _ rfl)) (by simp) (by simp) ?_
  simp [hcc, entC]
  refine ⟨by simpa using (hcc s).still, hK _ _ ?_⟩
  clear hK K
  refine AWp.seq ?_
  refine AWp.block ?_
  refine AWp.go [3, 6, 7, 20] [3, 100] fun K hK => ?_
  simp [hcc, ht]
  first | refine hK _ _ ?_ | refine ⟨by omega, hK _ _ ?_⟩ | refine ⟨by omega, by omega, hK _ _ ?_⟩
  clear hK K
  refine AWp.cond (t := true) (by first | (simp; done) | (simp; omega)) (fun _ => ?_) (by simp)
  refine AWp.step [6] [100] [(6, .bs 100 0 s.length cap)] [(100, boxR entC (s.set (place s e.key) e) (padE s cap))] ?_ ?_
  · simp [hcc, hbl, hlt, entR_set s (padE s cap) _ hlt e]
    omega
  have hrl : ((entsAV (s.set (place s e.key) e)).flatten).length = (s.set (place s e.key) e).length * 3 := rows_len entC_ok _
  refine AWp.reown 6 100 cap (sz := 3) (entsAV (s.set (place s e.key) e)) (padE s cap) (by simp) (by simp) rfl ?_ (fun z hz => ?_) (ents_dat _) (hcc _).freeL ?_
  · rw [List.length_append, hrl, List.length_replicate, List.length_set]; omega
  · obtain ⟨x, _, rfl⟩ := List.mem_map.1 hz; rfl
  simp
  refine AWp.go [4, 5] [100] fun K hK => ?_
  simp
  first | refine hK _ _ ?_ | refine ⟨by omega, hK _ _ ?_⟩ | refine ⟨by omega, by omega, hK _ _ ?_⟩
  clear hK K
  refine AWp.ret ?_
  simp
end Go.AM
namespace Go.AM
open Go.Proofs

theorem dotsAV_snoc (l : List Dot) (d : Dot) : dotsAV (l ++ [d]) = dotsAV l ++ [[.i .i64 d.1, .i .i64 d.2]] := by
  unfold dotsAV; rw [List.map_append]; rfl
def addE (s : List Entry) (k : ByteArray) (d : Dot) (c : List Int) : List Entry :=
  if 0 < (leftD (atE s k).dead c).length then s else s.set (place s k) ⟨k, ordP (leftD (atE s k).live c ++ [d]), (atE s k).dead⟩

set_option maxRecDepth 8000 in
set_option maxHeartbeats 2000000 in
theorem c_rwset_AddT (s : List Entry) (k : ByteArray) (d : Dot) (c : List Int) (hs : Fine s) (hc : c.length ≤ 1000000) (hok : (setOk s && keyOk k && mayD d && clockOk c) = true) (ht : there s k = true) (hb : (atE s k).live.length ≤ 999999 ∧ (atE s k).dead.length ≤ 999999) : Pure Try.prog 13 [.sl .fro 3 (entsAV s), .s k, .agg (dotC d), .sl .fro 1 (intsAV c)] (.tup [.sl .own 3 (entsAV (addE s k d c)), .i .i64 0]) := by
  have gm := c_rwset_may s k d c hs hc
  rw [hok] at gm
  have hl1 := leftD_len (atE s k).live c
  refine proc_of (cx Try.prog 53 [0, 1, 3, 6, 8, 9, 11, 13, 19, 32] [8, 9]) 49 [.tmp 8, .tmp 9] Try.func13 rfl rfl rfl rfl rfl rfl (Nat.le_refl _) rfl ?_
  refine AWp.go [0, 1, 3, 6] [6] fun K hK => ?_
  simp [dotC]
  first | refine hK _ _ ?_ | refine ⟨by omega, hK _ _ ?_⟩ | refine ⟨by omega, by omega, hK _ _ ?_⟩
  clear hK K
  refine AWp.seq ?_
  refine AWp.go [0, 1, 3, 6, 19] [6] fun K hK => ?_
  simp
  refine call_pure gm (by simp [dotC]) ?_
  simp
  first | refine hK _ _ ?_ | refine ⟨by omega, hK _ _ ?_⟩ | refine ⟨by omega, by omega, hK _ _ ?_⟩
  clear hK K
  refine AWp.cond (t := false) (by first | (simp; done) | (simp; omega)) (by simp) (fun _ => ?_)
  refine AWp.skip ?_
  show AWp _ _ _ _
  refine AWp.go [0, 1, 3, 6, 11] [6, 11] fun K hK => ?_
  simp
  refine call_pure (c_rwset_at s k hs) (by simp) ?_
  simp [entC]
  first | refine hK _ _ ?_ | refine ⟨by omega, hK _ _ ?_⟩ | refine ⟨by omega, by omega, hK _ _ ?_⟩
  clear hK K
  refine AWp.seq ?_
  refine AWp.go [0, 1, 3, 6, 11, 32] [6, 11] fun K hK => ?_
  simp
  refine call_pure (c_rwset_unknown (atE s k).dead c (by omega) hc) (by simp) ?_
  simp
  first | refine hK _ _ ?_ | refine ⟨by omega, hK _ _ ?_⟩ | refine ⟨by omega, by omega, hK _ _ ?_⟩
  clear hK K
  by_cases h : 0 < (leftD (atE s k).dead c).length
  · refine AWp.cond (t := true) (by first | (simp [h]; done) | (simp [h]; omega)) (fun _ => ?_) (by simp)
    refine AWp.go [8, 9] [] fun K hK => ?_
    simp
    refine call_pure (c_rwset_copied s hs) (by simp) ?_
    simp
    first | refine hK _ _ ?_ | refine ⟨by omega, hK _ _ ?_⟩ | refine ⟨by omega, by omega, hK _ _ ?_⟩
    clear hK K
    refine AWp.ret ?_
    simp [addE, h]
  · refine AWp.cond (t := false) (by first | (simp [h]; done) | (simp [h]; omega)) (by simp) (fun _ => ?_)
    refine AWp.skip ?_
    show AWp _ _ _ _
    refine AWp.stepT (.take 0 (.take 2 (.alt 1 (.alt 3 (.alt 4 (.alt 5 (.alt 6 (.alt 7 (.take 8 .fin) .stop) .stop) .stop) .stop) (.alt 4 (.alt 3 (.alt 5 (.alt 6 (.alt 7 (.take 8 .fin) .stop) .stop) .stop) (.alt 5 (.alt 3 (.alt 6 (.alt 7 (.take 8 .fin) .stop) .stop) .stop) .stop)) .stop)) (.alt 4 (.alt 1 (.alt 3 (.alt 5 (.alt 6 (.alt 7 (.take 8 .fin) .stop) .stop) .stop) (.alt 5 (.alt 3 (.alt 6 (.alt 7 (.take 8 .fin) .stop) .stop) .stop) .stop)) (.alt 5 (.alt 1 (.alt 3 (.alt 6 (.alt 7 (.take 8 .fin) .stop) .stop) .stop) .stop) .stop)) .stop)))) [0, 1, 11, 13] [11] [(0, .sl .fro 3 (entsAV s)), (1, .s k), (11, .ptr 11 0), (13, .sl .fro 2 (dotsAV (ordP (leftD (atE s k).live c ++ [d]))))] [(11, [.s (atE s k).key, .sl .fro 2 (dotsAV (atE s k).live), .sl .fro 2 (dotsAV (atE s k).dead)])] mix (by kernel_rfl) ?_ ?_
    · refine atree.tk fun K1 h1 => ?_
      simp
      first | refine h1 _ _ ?_ | refine ⟨by omega, h1 _ _ ?_⟩ | refine ⟨by omega, by omega, h1 _ _ ?_⟩
      clear h1 K1
      refine atree.tk fun K1 h1 => ?_
      simp
      first | refine h1 _ _ ?_ | refine ⟨by omega, h1 _ _ ?_⟩ | refine ⟨by omega, by omega, h1 _ _ ?_⟩
      clear h1 K1
      refine atree.al (fun K1 h1 => ?_) ?_
      · simp
        first | refine h1 _ _ ?_ | refine ⟨by omega, h1 _ _ ?_⟩ | refine ⟨by omega, by omega, h1 _ _ ?_⟩
        clear h1 K1
        refine atree.al (fun K1 h1 => ?_) ?_
        · simp
          refine call_pure (c_rwset_unknown (atE s k).live c (by omega) hc) (by simp) ?_
          simp
          first | refine h1 _ _ ?_ | refine ⟨by omega, h1 _ _ ?_⟩ | refine ⟨by omega, by omega, h1 _ _ ?_⟩
          clear h1 K1
          refine atree.a1 fun K1 h1 => ?_
          simp
          first | refine h1 _ _ ?_ | refine ⟨by omega, h1 _ _ ?_⟩ | refine ⟨by omega, by omega, h1 _ _ ?_⟩
          clear h1 K1
          refine atree.a1 fun K1 h1 => ?_
          simp
          first | refine h1 _ _ ?_ | refine ⟨by omega, h1 _ _ ?_⟩ | refine ⟨by omega, by omega, h1 _ _ ?_⟩
          clear h1 K1
          refine atree.a1 fun K1 h1 => ?_
          simp
          first | refine h1 _ _ ?_ | refine ⟨by omega, h1 _ _ ?_⟩ | refine ⟨by omega, by omega, h1 _ _ ?_⟩
          clear h1 K1
          refine atree.a1 fun K1 h1 => ?_
          simp
          refine call_pure (c_dots_Order (leftD (atE s k).live c ++ [d]) (by simp; omega)) (by simp) ?_
          simp
          first | refine h1 _ _ ?_ | refine ⟨by omega, h1 _ _ ?_⟩ | refine ⟨by omega, by omega, h1 _ _ ?_⟩
          clear h1 K1
          refine atree.tk fun K1 h1 => ?_
          simp
          first | refine h1 _ _ ?_ | refine ⟨by omega, h1 _ _ ?_⟩ | refine ⟨by omega, by omega, h1 _ _ ?_⟩
          clear h1 K1
          simp
        · refine atree.a1 fun K1 h1 => ?_
          simp
          first | refine h1 _ _ ?_ | refine ⟨by omega, h1 _ _ ?_⟩ | refine ⟨by omega, by omega, h1 _ _ ?_⟩
          clear h1 K1
          refine atree.al (fun K1 h1 => ?_) ?_
          · simp
            refine call_pure (c_rwset_unknown (atE s k).live c (by omega) hc) (by simp) ?_
            simp
            first | refine h1 _ _ ?_ | refine ⟨by omega, h1 _ _ ?_⟩ | refine ⟨by omega, by omega, h1 _ _ ?_⟩
            clear h1 K1
            refine atree.a1 fun K1 h1 => ?_
            simp
            first | refine h1 _ _ ?_ | refine ⟨by omega, h1 _ _ ?_⟩ | refine ⟨by omega, by omega, h1 _ _ ?_⟩
            clear h1 K1
            refine atree.a1 fun K1 h1 => ?_
            simp
            first | refine h1 _ _ ?_ | refine ⟨by omega, h1 _ _ ?_⟩ | refine ⟨by omega, by omega, h1 _ _ ?_⟩
            clear h1 K1
            refine atree.a1 fun K1 h1 => ?_
            simp
            refine call_pure (c_dots_Order (leftD (atE s k).live c ++ [d]) (by simp; omega)) (by simp) ?_
            simp
            first | refine h1 _ _ ?_ | refine ⟨by omega, h1 _ _ ?_⟩ | refine ⟨by omega, by omega, h1 _ _ ?_⟩
            clear h1 K1
            refine atree.tk fun K1 h1 => ?_
            simp
            first | refine h1 _ _ ?_ | refine ⟨by omega, h1 _ _ ?_⟩ | refine ⟨by omega, by omega, h1 _ _ ?_⟩
            clear h1 K1
            simp
          · refine atree.a1 fun K1 h1 => ?_
            simp
            first | refine h1 _ _ ?_ | refine ⟨by omega, h1 _ _ ?_⟩ | refine ⟨by omega, by omega, h1 _ _ ?_⟩
            clear h1 K1
            refine atree.a1 fun K1 h1 => ?_
            simp
            refine call_pure (c_rwset_unknown (atE s k).live c (by omega) hc) (by simp) ?_
            simp
            first | refine h1 _ _ ?_ | refine ⟨by omega, h1 _ _ ?_⟩ | refine ⟨by omega, by omega, h1 _ _ ?_⟩
            clear h1 K1
            refine atree.a1 fun K1 h1 => ?_
            simp
            first | refine h1 _ _ ?_ | refine ⟨by omega, h1 _ _ ?_⟩ | refine ⟨by omega, by omega, h1 _ _ ?_⟩
            clear h1 K1
            refine atree.a1 fun K1 h1 => ?_
            simp
            refine call_pure (c_dots_Order (leftD (atE s k).live c ++ [d]) (by simp; omega)) (by simp) ?_
            simp
            first | refine h1 _ _ ?_ | refine ⟨by omega, h1 _ _ ?_⟩ | refine ⟨by omega, by omega, h1 _ _ ?_⟩
            clear h1 K1
            refine atree.tk fun K1 h1 => ?_
            simp
            first | refine h1 _ _ ?_ | refine ⟨by omega, h1 _ _ ?_⟩ | refine ⟨by omega, by omega, h1 _ _ ?_⟩
            clear h1 K1
            simp
      · refine atree.a1 fun K1 h1 => ?_
        simp
        first | refine h1 _ _ ?_ | refine ⟨by omega, h1 _ _ ?_⟩ | refine ⟨by omega, by omega, h1 _ _ ?_⟩
        clear h1 K1
        refine atree.al (fun K1 h1 => ?_) ?_
        · simp
          first | refine h1 _ _ ?_ | refine ⟨by omega, h1 _ _ ?_⟩ | refine ⟨by omega, by omega, h1 _ _ ?_⟩
          clear h1 K1
          refine atree.al (fun K1 h1 => ?_) ?_
          · simp
            refine call_pure (c_rwset_unknown (atE s k).live c (by omega) hc) (by simp) ?_
            simp
            first | refine h1 _ _ ?_ | refine ⟨by omega, h1 _ _ ?_⟩ | refine ⟨by omega, by omega, h1 _ _ ?_⟩
            clear h1 K1
            refine atree.a1 fun K1 h1 => ?_
            simp
            first | refine h1 _ _ ?_ | refine ⟨by omega, h1 _ _ ?_⟩ | refine ⟨by omega, by omega, h1 _ _ ?_⟩
            clear h1 K1
            refine atree.a1 fun K1 h1 => ?_
            simp
            first | refine h1 _ _ ?_ | refine ⟨by omega, h1 _ _ ?_⟩ | refine ⟨by omega, by omega, h1 _ _ ?_⟩
            clear h1 K1
            refine atree.a1 fun K1 h1 => ?_
            simp
            refine call_pure (c_dots_Order (leftD (atE s k).live c ++ [d]) (by simp; omega)) (by simp) ?_
            simp
            first | refine h1 _ _ ?_ | refine ⟨by omega, h1 _ _ ?_⟩ | refine ⟨by omega, by omega, h1 _ _ ?_⟩
            clear h1 K1
            refine atree.tk fun K1 h1 => ?_
            simp
            first | refine h1 _ _ ?_ | refine ⟨by omega, h1 _ _ ?_⟩ | refine ⟨by omega, by omega, h1 _ _ ?_⟩
            clear h1 K1
            simp
          · refine atree.a1 fun K1 h1 => ?_
            simp
            first | refine h1 _ _ ?_ | refine ⟨by omega, h1 _ _ ?_⟩ | refine ⟨by omega, by omega, h1 _ _ ?_⟩
            clear h1 K1
            refine atree.a1 fun K1 h1 => ?_
            simp
            refine call_pure (c_rwset_unknown (atE s k).live c (by omega) hc) (by simp) ?_
            simp
            first | refine h1 _ _ ?_ | refine ⟨by omega, h1 _ _ ?_⟩ | refine ⟨by omega, by omega, h1 _ _ ?_⟩
            clear h1 K1
            refine atree.a1 fun K1 h1 => ?_
            simp
            first | refine h1 _ _ ?_ | refine ⟨by omega, h1 _ _ ?_⟩ | refine ⟨by omega, by omega, h1 _ _ ?_⟩
            clear h1 K1
            refine atree.a1 fun K1 h1 => ?_
            simp
            refine call_pure (c_dots_Order (leftD (atE s k).live c ++ [d]) (by simp; omega)) (by simp) ?_
            simp
            first | refine h1 _ _ ?_ | refine ⟨by omega, h1 _ _ ?_⟩ | refine ⟨by omega, by omega, h1 _ _ ?_⟩
            clear h1 K1
            refine atree.tk fun K1 h1 => ?_
            simp
            first | refine h1 _ _ ?_ | refine ⟨by omega, h1 _ _ ?_⟩ | refine ⟨by omega, by omega, h1 _ _ ?_⟩
            clear h1 K1
            simp
        · refine atree.a1 fun K1 h1 => ?_
          simp
          first | refine h1 _ _ ?_ | refine ⟨by omega, h1 _ _ ?_⟩ | refine ⟨by omega, by omega, h1 _ _ ?_⟩
          clear h1 K1
          refine atree.a1 fun K1 h1 => ?_
          simp
          first | refine h1 _ _ ?_ | refine ⟨by omega, h1 _ _ ?_⟩ | refine ⟨by omega, by omega, h1 _ _ ?_⟩
          clear h1 K1
          refine atree.a1 fun K1 h1 => ?_
          simp
          refine call_pure (c_rwset_unknown (atE s k).live c (by omega) hc) (by simp) ?_
          simp
          first | refine h1 _ _ ?_ | refine ⟨by omega, h1 _ _ ?_⟩ | refine ⟨by omega, by omega, h1 _ _ ?_⟩
          clear h1 K1
          refine atree.a1 fun K1 h1 => ?_
          simp
          first | refine h1 _ _ ?_ | refine ⟨by omega, h1 _ _ ?_⟩ | refine ⟨by omega, by omega, h1 _ _ ?_⟩
          clear h1 K1
          refine atree.a1 fun K1 h1 => ?_
          simp
          refine call_pure (c_dots_Order (leftD (atE s k).live c ++ [d]) (by simp; omega)) (by simp) ?_
          simp
          first | refine h1 _ _ ?_ | refine ⟨by omega, h1 _ _ ?_⟩ | refine ⟨by omega, by omega, h1 _ _ ?_⟩
          clear h1 K1
          refine atree.tk fun K1 h1 => ?_
          simp
          first | refine h1 _ _ ?_ | refine ⟨by omega, h1 _ _ ?_⟩ | refine ⟨by omega, by omega, h1 _ _ ?_⟩
          clear h1 K1
          simp
    refine AWp.go [8, 9] [] fun K hK => ?_
    simp
    refine call_pure (c_Clone_Dot (dotsAV (atE s k).dead) (by simp; omega)) (by simp) ?_
    simp
    refine call_pure (c_rwset_putT s ⟨k, ordP (leftD (atE s k).live c ++ [d]), (atE s k).dead⟩ hs ht) (by simp [entC]) ?_
    simp
    first | refine hK _ _ ?_ | refine ⟨by omega, hK _ _ ?_⟩ | refine ⟨by omega, by omega, hK _ _ ?_⟩
    clear hK K
    refine AWp.ret ?_
    simp [addE, h]

def dropE (s : List Entry) (k : ByteArray) (d : Dot) (c : List Int) : List Entry :=
  s.set (place s k) ⟨k, [], ordP (leftD (atE s k).dead c ++ [d])⟩

set_option maxRecDepth 8000 in
set_option maxHeartbeats 2000000 in
theorem c_rwset_DropT (s : List Entry) (k : ByteArray) (d : Dot) (c : List Int) (hs : Fine s) (hc : c.length ≤ 1000000) (hok : (setOk s && keyOk k && mayD d && clockOk c) = true) (ht : there s k = true) (hb : (atE s k).dead.length ≤ 999999) : Pure Try.prog 14 [.sl .fro 3 (entsAV s), .s k, .agg (dotC d), .sl .fro 1 (intsAV c)] (.tup [.sl .own 3 (entsAV (dropE s k d c)), .i .i64 0]) := by
  have gm := c_rwset_may s k d c hs hc
  rw [hok] at gm
  have hl1 := leftD_len (atE s k).dead c
  refine proc_of (cx Try.prog 40 [0, 1, 3, 6, 8, 9, 11, 18] [8, 9]) 36 [.tmp 8, .tmp 9] Try.func14 rfl rfl rfl rfl rfl rfl (Nat.le_refl _) rfl ?_
  refine AWp.go [0, 1, 3, 6] [6] fun K hK => ?_
  simp [dotC]
  first | refine hK _ _ ?_ | refine ⟨by omega, hK _ _ ?_⟩ | refine ⟨by omega, by omega, hK _ _ ?_⟩
  clear hK K
  refine AWp.seq ?_
  refine AWp.go [0, 1, 3, 6, 18] [6] fun K hK => ?_
  simp
  refine call_pure gm (by simp [dotC]) ?_
  simp
  first | refine hK _ _ ?_ | refine ⟨by omega, hK _ _ ?_⟩ | refine ⟨by omega, by omega, hK _ _ ?_⟩
  clear hK K
  refine AWp.cond (t := false) (by first | (simp; done) | (simp; omega)) (by simp) (fun _ => ?_)
  refine AWp.skip ?_
  show AWp _ _ _ _
  refine AWp.go [0, 1, 3, 6, 11] [6, 11] fun K hK => ?_
  simp
  refine call_pure (c_rwset_at s k hs) (by simp) ?_
  simp [entC]
  first | refine hK _ _ ?_ | refine ⟨by omega, hK _ _ ?_⟩ | refine ⟨by omega, by omega, hK _ _ ?_⟩
  clear hK K
  refine AWp.stepT (.take 0 (.take 1 (.take 2 (.take 4 (.alt 3 (.alt 5 (.alt 6 (.alt 7 (.alt 8 (.alt 9 (.alt 10 (.alt 11 (.take 12 (.take 13 (.take 14 (.take 15 .fin)))) .stop) .stop) .stop) .stop) .stop) .stop) (.alt 6 (.alt 5 (.alt 7 (.alt 8 (.alt 9 (.alt 10 (.alt 11 (.take 12 (.take 13 (.take 14 (.take 15 .fin)))) .stop) .stop) .stop) .stop) .stop) (.alt 7 (.alt 5 (.alt 8 (.alt 9 (.alt 10 (.alt 11 (.take 12 (.take 13 (.take 14 (.take 15 .fin)))) .stop) .stop) .stop) .stop) .stop) .stop)) .stop)) (.alt 6 (.alt 3 (.alt 5 (.alt 7 (.alt 8 (.alt 9 (.alt 10 (.alt 11 (.take 12 (.take 13 (.take 14 (.take 15 .fin)))) .stop) .stop) .stop) .stop) .stop) (.alt 7 (.alt 5 (.alt 8 (.alt 9 (.alt 10 (.alt 11 (.take 12 (.take 13 (.take 14 (.take 15 .fin)))) .stop) .stop) .stop) .stop) .stop) .stop)) (.alt 7 (.alt 3 (.alt 5 (.alt 8 (.alt 9 (.alt 10 (.alt 11 (.take 12 (.take 13 (.take 14 (.take 15 .fin)))) .stop) .stop) .stop) .stop) .stop) .stop) .stop)) .stop)))))) [8, 9] [] [(8, .sl .own 3 (entsAV (dropE s k d c))), (9, .i .i64 0)] [] mix (by kernel_rfl) ?_ ?_
  · refine atree.tk fun K1 h1 => ?_
    simp
    first | refine h1 _ _ ?_ | refine ⟨by omega, h1 _ _ ?_⟩ | refine ⟨by omega, by omega, h1 _ _ ?_⟩
    clear h1 K1
    refine atree.tk fun K1 h1 => ?_
    simp
    first | refine h1 _ _ ?_ | refine ⟨by omega, h1 _ _ ?_⟩ | refine ⟨by omega, by omega, h1 _ _ ?_⟩
    clear h1 K1
    refine atree.tk fun K1 h1 => ?_
    simp
    first | refine h1 _ _ ?_ | refine ⟨by omega, h1 _ _ ?_⟩ | refine ⟨by omega, by omega, h1 _ _ ?_⟩
    clear h1 K1
    refine atree.tk fun K1 h1 => ?_
    simp
    first | refine h1 _ _ ?_ | refine ⟨by omega, h1 _ _ ?_⟩ | refine ⟨by omega, by omega, h1 _ _ ?_⟩
    clear h1 K1
    refine atree.al (fun K1 h1 => ?_) ?_
    · simp
      first | refine h1 _ _ ?_ | refine ⟨by omega, h1 _ _ ?_⟩ | refine ⟨by omega, by omega, h1 _ _ ?_⟩
      clear h1 K1
      refine atree.al (fun K1 h1 => ?_) ?_
      · simp
        refine call_pure (c_rwset_unknown (atE s k).dead c (by omega) hc) (by simp) ?_
        simp
        first | refine h1 _ _ ?_ | refine ⟨by omega, h1 _ _ ?_⟩ | refine ⟨by omega, by omega, h1 _ _ ?_⟩
        clear h1 K1
        refine atree.a1 fun K1 h1 => ?_
        simp
        first | refine h1 _ _ ?_ | refine ⟨by omega, h1 _ _ ?_⟩ | refine ⟨by omega, by omega, h1 _ _ ?_⟩
        clear h1 K1
        refine atree.a1 fun K1 h1 => ?_
        simp
        first | refine h1 _ _ ?_ | refine ⟨by omega, h1 _ _ ?_⟩ | refine ⟨by omega, by omega, h1 _ _ ?_⟩
        clear h1 K1
        refine atree.a1 fun K1 h1 => ?_
        simp
        first | refine h1 _ _ ?_ | refine ⟨by omega, h1 _ _ ?_⟩ | refine ⟨by omega, by omega, h1 _ _ ?_⟩
        clear h1 K1
        refine atree.a1 fun K1 h1 => ?_
        simp
        refine call_pure (c_dots_Order (leftD (atE s k).dead c ++ [d]) (by simp; omega)) (by simp) ?_
        simp
        first | refine h1 _ _ ?_ | refine ⟨by omega, h1 _ _ ?_⟩ | refine ⟨by omega, by omega, h1 _ _ ?_⟩
        clear h1 K1
        refine atree.a1 fun K1 h1 => ?_
        simp
        first | refine h1 _ _ ?_ | refine ⟨by omega, h1 _ _ ?_⟩ | refine ⟨by omega, by omega, h1 _ _ ?_⟩
        clear h1 K1
        refine atree.a1 fun K1 h1 => ?_
        simp
        refine call_pure (c_rwset_putT s ⟨k, [], ordP (leftD (atE s k).dead c ++ [d])⟩ hs ht) (by simp [entC, dotsAV]) ?_
        simp
        first | refine h1 _ _ ?_ | refine ⟨by omega, h1 _ _ ?_⟩ | refine ⟨by omega, by omega, h1 _ _ ?_⟩
        clear h1 K1
        refine atree.tk fun K1 h1 => ?_
        simp
        first | refine h1 _ _ ?_ | refine ⟨by omega, h1 _ _ ?_⟩ | refine ⟨by omega, by omega, h1 _ _ ?_⟩
        clear h1 K1
        refine atree.tk fun K1 h1 => ?_
        simp
        first | refine h1 _ _ ?_ | refine ⟨by omega, h1 _ _ ?_⟩ | refine ⟨by omega, by omega, h1 _ _ ?_⟩
        clear h1 K1
        refine atree.tk fun K1 h1 => ?_
        simp
        first | refine h1 _ _ ?_ | refine ⟨by omega, h1 _ _ ?_⟩ | refine ⟨by omega, by omega, h1 _ _ ?_⟩
        clear h1 K1
        refine atree.tk fun K1 h1 => ?_
        simp
        first | refine h1 _ _ ?_ | refine ⟨by omega, h1 _ _ ?_⟩ | refine ⟨by omega, by omega, h1 _ _ ?_⟩
        clear h1 K1
        simp [dropE]
      · refine atree.a1 fun K1 h1 => ?_
        simp
        first | refine h1 _ _ ?_ | refine ⟨by omega, h1 _ _ ?_⟩ | refine ⟨by omega, by omega, h1 _ _ ?_⟩
        clear h1 K1
        refine atree.al (fun K1 h1 => ?_) ?_
        · simp
          refine call_pure (c_rwset_unknown (atE s k).dead c (by omega) hc) (by simp) ?_
          simp
          first | refine h1 _ _ ?_ | refine ⟨by omega, h1 _ _ ?_⟩ | refine ⟨by omega, by omega, h1 _ _ ?_⟩
          clear h1 K1
          refine atree.a1 fun K1 h1 => ?_
          simp
          first | refine h1 _ _ ?_ | refine ⟨by omega, h1 _ _ ?_⟩ | refine ⟨by omega, by omega, h1 _ _ ?_⟩
          clear h1 K1
          refine atree.a1 fun K1 h1 => ?_
          simp
          first | refine h1 _ _ ?_ | refine ⟨by omega, h1 _ _ ?_⟩ | refine ⟨by omega, by omega, h1 _ _ ?_⟩
          clear h1 K1
          refine atree.a1 fun K1 h1 => ?_
          simp
          refine call_pure (c_dots_Order (leftD (atE s k).dead c ++ [d]) (by simp; omega)) (by simp) ?_
          simp
          first | refine h1 _ _ ?_ | refine ⟨by omega, h1 _ _ ?_⟩ | refine ⟨by omega, by omega, h1 _ _ ?_⟩
          clear h1 K1
          refine atree.a1 fun K1 h1 => ?_
          simp
          first | refine h1 _ _ ?_ | refine ⟨by omega, h1 _ _ ?_⟩ | refine ⟨by omega, by omega, h1 _ _ ?_⟩
          clear h1 K1
          refine atree.a1 fun K1 h1 => ?_
          simp
          refine call_pure (c_rwset_putT s ⟨k, [], ordP (leftD (atE s k).dead c ++ [d])⟩ hs ht) (by simp [entC, dotsAV]) ?_
          simp
          first | refine h1 _ _ ?_ | refine ⟨by omega, h1 _ _ ?_⟩ | refine ⟨by omega, by omega, h1 _ _ ?_⟩
          clear h1 K1
          refine atree.tk fun K1 h1 => ?_
          simp
          first | refine h1 _ _ ?_ | refine ⟨by omega, h1 _ _ ?_⟩ | refine ⟨by omega, by omega, h1 _ _ ?_⟩
          clear h1 K1
          refine atree.tk fun K1 h1 => ?_
          simp
          first | refine h1 _ _ ?_ | refine ⟨by omega, h1 _ _ ?_⟩ | refine ⟨by omega, by omega, h1 _ _ ?_⟩
          clear h1 K1
          refine atree.tk fun K1 h1 => ?_
          simp
          first | refine h1 _ _ ?_ | refine ⟨by omega, h1 _ _ ?_⟩ | refine ⟨by omega, by omega, h1 _ _ ?_⟩
          clear h1 K1
          refine atree.tk fun K1 h1 => ?_
          simp
          first | refine h1 _ _ ?_ | refine ⟨by omega, h1 _ _ ?_⟩ | refine ⟨by omega, by omega, h1 _ _ ?_⟩
          clear h1 K1
          simp [dropE]
        · refine atree.a1 fun K1 h1 => ?_
          simp
          first | refine h1 _ _ ?_ | refine ⟨by omega, h1 _ _ ?_⟩ | refine ⟨by omega, by omega, h1 _ _ ?_⟩
          clear h1 K1
          refine atree.a1 fun K1 h1 => ?_
          simp
          refine call_pure (c_rwset_unknown (atE s k).dead c (by omega) hc) (by simp) ?_
          simp
          first | refine h1 _ _ ?_ | refine ⟨by omega, h1 _ _ ?_⟩ | refine ⟨by omega, by omega, h1 _ _ ?_⟩
          clear h1 K1
          refine atree.a1 fun K1 h1 => ?_
          simp
          first | refine h1 _ _ ?_ | refine ⟨by omega, h1 _ _ ?_⟩ | refine ⟨by omega, by omega, h1 _ _ ?_⟩
          clear h1 K1
          refine atree.a1 fun K1 h1 => ?_
          simp
          refine call_pure (c_dots_Order (leftD (atE s k).dead c ++ [d]) (by simp; omega)) (by simp) ?_
          simp
          first | refine h1 _ _ ?_ | refine ⟨by omega, h1 _ _ ?_⟩ | refine ⟨by omega, by omega, h1 _ _ ?_⟩
          clear h1 K1
          refine atree.a1 fun K1 h1 => ?_
          simp
          first | refine h1 _ _ ?_ | refine ⟨by omega, h1 _ _ ?_⟩ | refine ⟨by omega, by omega, h1 _ _ ?_⟩
          clear h1 K1
          refine atree.a1 fun K1 h1 => ?_
          simp
          refine call_pure (c_rwset_putT s ⟨k, [], ordP (leftD (atE s k).dead c ++ [d])⟩ hs ht) (by simp [entC, dotsAV]) ?_
          simp
          first | refine h1 _ _ ?_ | refine ⟨by omega, h1 _ _ ?_⟩ | refine ⟨by omega, by omega, h1 _ _ ?_⟩
          clear h1 K1
          refine atree.tk fun K1 h1 => ?_
          simp
          first | refine h1 _ _ ?_ | refine ⟨by omega, h1 _ _ ?_⟩ | refine ⟨by omega, by omega, h1 _ _ ?_⟩
          clear h1 K1
          refine atree.tk fun K1 h1 => ?_
          simp
          first | refine h1 _ _ ?_ | refine ⟨by omega, h1 _ _ ?_⟩ | refine ⟨by omega, by omega, h1 _ _ ?_⟩
          clear h1 K1
          refine atree.tk fun K1 h1 => ?_
          simp
          first | refine h1 _ _ ?_ | refine ⟨by omega, h1 _ _ ?_⟩ | refine ⟨by omega, by omega, h1 _ _ ?_⟩
          clear h1 K1
          refine atree.tk fun K1 h1 => ?_
          simp
          first | refine h1 _ _ ?_ | refine ⟨by omega, h1 _ _ ?_⟩ | refine ⟨by omega, by omega, h1 _ _ ?_⟩
          clear h1 K1
          simp [dropE]
    · refine atree.a1 fun K1 h1 => ?_
      simp
      first | refine h1 _ _ ?_ | refine ⟨by omega, h1 _ _ ?_⟩ | refine ⟨by omega, by omega, h1 _ _ ?_⟩
      clear h1 K1
      refine atree.al (fun K1 h1 => ?_) ?_
      · simp
        first | refine h1 _ _ ?_ | refine ⟨by omega, h1 _ _ ?_⟩ | refine ⟨by omega, by omega, h1 _ _ ?_⟩
        clear h1 K1
        refine atree.al (fun K1 h1 => ?_) ?_
        · simp
          refine call_pure (c_rwset_unknown (atE s k).dead c (by omega) hc) (by simp) ?_
          simp
          first | refine h1 _ _ ?_ | refine ⟨by omega, h1 _ _ ?_⟩ | refine ⟨by omega, by omega, h1 _ _ ?_⟩
          clear h1 K1
          refine atree.a1 fun K1 h1 => ?_
          simp
          first | refine h1 _ _ ?_ | refine ⟨by omega, h1 _ _ ?_⟩ | refine ⟨by omega, by omega, h1 _ _ ?_⟩
          clear h1 K1
          refine atree.a1 fun K1 h1 => ?_
          simp
          first | refine h1 _ _ ?_ | refine ⟨by omega, h1 _ _ ?_⟩ | refine ⟨by omega, by omega, h1 _ _ ?_⟩
          clear h1 K1
          refine atree.a1 fun K1 h1 => ?_
          simp
          refine call_pure (c_dots_Order (leftD (atE s k).dead c ++ [d]) (by simp; omega)) (by simp) ?_
          simp
          first | refine h1 _ _ ?_ | refine ⟨by omega, h1 _ _ ?_⟩ | refine ⟨by omega, by omega, h1 _ _ ?_⟩
          clear h1 K1
          refine atree.a1 fun K1 h1 => ?_
          simp
          first | refine h1 _ _ ?_ | refine ⟨by omega, h1 _ _ ?_⟩ | refine ⟨by omega, by omega, h1 _ _ ?_⟩
          clear h1 K1
          refine atree.a1 fun K1 h1 => ?_
          simp
          refine call_pure (c_rwset_putT s ⟨k, [], ordP (leftD (atE s k).dead c ++ [d])⟩ hs ht) (by simp [entC, dotsAV]) ?_
          simp
          first | refine h1 _ _ ?_ | refine ⟨by omega, h1 _ _ ?_⟩ | refine ⟨by omega, by omega, h1 _ _ ?_⟩
          clear h1 K1
          refine atree.tk fun K1 h1 => ?_
          simp
          first | refine h1 _ _ ?_ | refine ⟨by omega, h1 _ _ ?_⟩ | refine ⟨by omega, by omega, h1 _ _ ?_⟩
          clear h1 K1
          refine atree.tk fun K1 h1 => ?_
          simp
          first | refine h1 _ _ ?_ | refine ⟨by omega, h1 _ _ ?_⟩ | refine ⟨by omega, by omega, h1 _ _ ?_⟩
          clear h1 K1
          refine atree.tk fun K1 h1 => ?_
          simp
          first | refine h1 _ _ ?_ | refine ⟨by omega, h1 _ _ ?_⟩ | refine ⟨by omega, by omega, h1 _ _ ?_⟩
          clear h1 K1
          refine atree.tk fun K1 h1 => ?_
          simp
          first | refine h1 _ _ ?_ | refine ⟨by omega, h1 _ _ ?_⟩ | refine ⟨by omega, by omega, h1 _ _ ?_⟩
          clear h1 K1
          simp [dropE]
        · refine atree.a1 fun K1 h1 => ?_
          simp
          first | refine h1 _ _ ?_ | refine ⟨by omega, h1 _ _ ?_⟩ | refine ⟨by omega, by omega, h1 _ _ ?_⟩
          clear h1 K1
          refine atree.a1 fun K1 h1 => ?_
          simp
          refine call_pure (c_rwset_unknown (atE s k).dead c (by omega) hc) (by simp) ?_
          simp
          first | refine h1 _ _ ?_ | refine ⟨by omega, h1 _ _ ?_⟩ | refine ⟨by omega, by omega, h1 _ _ ?_⟩
          clear h1 K1
          refine atree.a1 fun K1 h1 => ?_
          simp
          first | refine h1 _ _ ?_ | refine ⟨by omega, h1 _ _ ?_⟩ | refine ⟨by omega, by omega, h1 _ _ ?_⟩
          clear h1 K1
          refine atree.a1 fun K1 h1 => ?_
          simp
          refine call_pure (c_dots_Order (leftD (atE s k).dead c ++ [d]) (by simp; omega)) (by simp) ?_
          simp
          first | refine h1 _ _ ?_ | refine ⟨by omega, h1 _ _ ?_⟩ | refine ⟨by omega, by omega, h1 _ _ ?_⟩
          clear h1 K1
          refine atree.a1 fun K1 h1 => ?_
          simp
          first | refine h1 _ _ ?_ | refine ⟨by omega, h1 _ _ ?_⟩ | refine ⟨by omega, by omega, h1 _ _ ?_⟩
          clear h1 K1
          refine atree.a1 fun K1 h1 => ?_
          simp
          refine call_pure (c_rwset_putT s ⟨k, [], ordP (leftD (atE s k).dead c ++ [d])⟩ hs ht) (by simp [entC, dotsAV]) ?_
          simp
          first | refine h1 _ _ ?_ | refine ⟨by omega, h1 _ _ ?_⟩ | refine ⟨by omega, by omega, h1 _ _ ?_⟩
          clear h1 K1
          refine atree.tk fun K1 h1 => ?_
          simp
          first | refine h1 _ _ ?_ | refine ⟨by omega, h1 _ _ ?_⟩ | refine ⟨by omega, by omega, h1 _ _ ?_⟩
          clear h1 K1
          refine atree.tk fun K1 h1 => ?_
          simp
          first | refine h1 _ _ ?_ | refine ⟨by omega, h1 _ _ ?_⟩ | refine ⟨by omega, by omega, h1 _ _ ?_⟩
          clear h1 K1
          refine atree.tk fun K1 h1 => ?_
          simp
          first | refine h1 _ _ ?_ | refine ⟨by omega, h1 _ _ ?_⟩ | refine ⟨by omega, by omega, h1 _ _ ?_⟩
          clear h1 K1
          refine atree.tk fun K1 h1 => ?_
          simp
          first | refine h1 _ _ ?_ | refine ⟨by omega, h1 _ _ ?_⟩ | refine ⟨by omega, by omega, h1 _ _ ?_⟩
          clear h1 K1
          simp [dropE]
      · refine atree.a1 fun K1 h1 => ?_
        simp
        first | refine h1 _ _ ?_ | refine ⟨by omega, h1 _ _ ?_⟩ | refine ⟨by omega, by omega, h1 _ _ ?_⟩
        clear h1 K1
        refine atree.a1 fun K1 h1 => ?_
        simp
        first | refine h1 _ _ ?_ | refine ⟨by omega, h1 _ _ ?_⟩ | refine ⟨by omega, by omega, h1 _ _ ?_⟩
        clear h1 K1
        refine atree.a1 fun K1 h1 => ?_
        simp
        refine call_pure (c_rwset_unknown (atE s k).dead c (by omega) hc) (by simp) ?_
        simp
        first | refine h1 _ _ ?_ | refine ⟨by omega, h1 _ _ ?_⟩ | refine ⟨by omega, by omega, h1 _ _ ?_⟩
        clear h1 K1
        refine atree.a1 fun K1 h1 => ?_
        simp
        first | refine h1 _ _ ?_ | refine ⟨by omega, h1 _ _ ?_⟩ | refine ⟨by omega, by omega, h1 _ _ ?_⟩
        clear h1 K1
        refine atree.a1 fun K1 h1 => ?_
        simp
        refine call_pure (c_dots_Order (leftD (atE s k).dead c ++ [d]) (by simp; omega)) (by simp) ?_
        simp
        first | refine h1 _ _ ?_ | refine ⟨by omega, h1 _ _ ?_⟩ | refine ⟨by omega, by omega, h1 _ _ ?_⟩
        clear h1 K1
        refine atree.a1 fun K1 h1 => ?_
        simp
        first | refine h1 _ _ ?_ | refine ⟨by omega, h1 _ _ ?_⟩ | refine ⟨by omega, by omega, h1 _ _ ?_⟩
        clear h1 K1
        refine atree.a1 fun K1 h1 => ?_
        simp
        refine call_pure (c_rwset_putT s ⟨k, [], ordP (leftD (atE s k).dead c ++ [d])⟩ hs ht) (by simp [entC, dotsAV]) ?_
        simp
        first | refine h1 _ _ ?_ | refine ⟨by omega, h1 _ _ ?_⟩ | refine ⟨by omega, by omega, h1 _ _ ?_⟩
        clear h1 K1
        refine atree.tk fun K1 h1 => ?_
        simp
        first | refine h1 _ _ ?_ | refine ⟨by omega, h1 _ _ ?_⟩ | refine ⟨by omega, by omega, h1 _ _ ?_⟩
        clear h1 K1
        refine atree.tk fun K1 h1 => ?_
        simp
        first | refine h1 _ _ ?_ | refine ⟨by omega, h1 _ _ ?_⟩ | refine ⟨by omega, by omega, h1 _ _ ?_⟩
        clear h1 K1
        refine atree.tk fun K1 h1 => ?_
        simp
        first | refine h1 _ _ ?_ | refine ⟨by omega, h1 _ _ ?_⟩ | refine ⟨by omega, by omega, h1 _ _ ?_⟩
        clear h1 K1
        refine atree.tk fun K1 h1 => ?_
        simp
        first | refine h1 _ _ ?_ | refine ⟨by omega, h1 _ _ ?_⟩ | refine ⟨by omega, by omega, h1 _ _ ?_⟩
        clear h1 K1
        simp [dropE]
  refine AWp.ret ?_
  simp
end Go.AM
namespace Go.AM
open Go.Proofs

theorem ordP_one (d : Dot) : ordP [d] = [d] := by
  have h := sortD_length [d]
  have e : sortD [d] = [d] := by simp [sortD]
  rw [ordP, e, compD_one _ rfl]

set_option maxRecDepth 8000 in
set_option maxHeartbeats 2000000 in
theorem c_rwset_AddN (k : ByteArray) (d : Dot) (hk : keyOk k = true) (hd : mayD d = true) : Pure Try.prog 13 [.sl .nl 3 [], .s k, .agg (dotC d), .sl .nl 1 []] (.tup [.sl .own 3 [entC ⟨k, [d], []⟩], .i .i64 0]) := by
  have gm := c_rwset_may [] k d [] fine_nil (by simp)
  have hok : (setOk [] && keyOk k && mayD d && clockOk []) = true := by rw [hk, hd]; rfl
  rw [hok] at gm
  have hn0 : leftD [] [] = [] := rfl
  have hd0 : dotsAV [] = [] := rfl
  refine proc_of (cx Try.prog 53 [0, 1, 3, 6, 8, 9, 11, 13, 19, 32] [8, 9]) 49 [.tmp 8, .tmp 9] Try.func13 rfl rfl rfl rfl rfl rfl (Nat.le_refl _) rfl ?_
  refine AWp.go [0, 1, 3, 6] [6] fun K hK => ?_
  simp [dotC]
  first | refine hK _ _ ?_ | refine ⟨by omega, hK _ _ ?_⟩ | refine ⟨by omega, by omega, hK _ _ ?_⟩
  clear hK K
  refine AWp.seq ?_
  refine AWp.go [0, 1, 3, 6, 19] [6] fun K hK => ?_
  simp
  refine call_pure gm (by simp [dotC, entsAV, intsAV]) ?_
  simp
  first | refine hK _ _ ?_ | refine ⟨by omega, hK _ _ ?_⟩ | refine ⟨by omega, by omega, hK _ _ ?_⟩
  clear hK K
  refine AWp.cond (t := false) (by first | (simp; done) | (simp; omega)) (by simp) (fun _ => ?_)
  refine AWp.skip ?_
  show AWp _ _ _ _
  refine AWp.go [0, 1, 3, 6, 11] [6, 11] fun K hK => ?_
  simp
  refine call_pure (c_rwset_at [] k fine_nil) (by simp [entsAV]) ?_
  simp [entC, place_nil, there_nil, atE, emptyE, hd0]
  first | refine hK _ _ ?_ | refine ⟨by omega, hK _ _ ?_⟩ | refine ⟨by omega, by omega, hK _ _ ?_⟩
  clear hK K
  refine AWp.seq ?_
  refine AWp.go [0, 1, 3, 6, 11, 32] [6, 11] fun K hK => ?_
  simp
  refine call_pure (c_rwset_unknown [] [] (by simp) (by simp)) (by simp [dotsAV, intsAV]) ?_
  simp [hn0, hd0]
  first | refine hK _ _ ?_ | refine ⟨by omega, hK _ _ ?_⟩ | refine ⟨by omega, by omega, hK _ _ ?_⟩
  clear hK K
  refine AWp.cond (t := false) (by first | (simp; done) | (simp; omega)) (by simp) (fun _ => ?_)
  refine AWp.skip ?_
  show AWp _ _ _ _
  refine AWp.stepT (.take 0 (.take 2 (.alt 1 (.alt 3 (.alt 4 (.alt 5 (.alt 6 (.alt 7 (.take 8 .fin) .stop) .stop) .stop) .stop) (.alt 4 (.alt 3 (.alt 5 (.alt 6 (.alt 7 (.take 8 .fin) .stop) .stop) .stop) (.alt 5 (.alt 3 (.alt 6 (.alt 7 (.take 8 .fin) .stop) .stop) .stop) .stop)) .stop)) (.alt 4 (.alt 1 (.alt 3 (.alt 5 (.alt 6 (.alt 7 (.take 8 .fin) .stop) .stop) .stop) (.alt 5 (.alt 3 (.alt 6 (.alt 7 (.take 8 .fin) .stop) .stop) .stop) .stop)) (.alt 5 (.alt 1 (.alt 3 (.alt 6 (.alt 7 (.take 8 .fin) .stop) .stop) .stop) .stop) .stop)) .stop)))) [0, 1, 11, 13] [11] [(0, .sl .nl 3 []), (1, .s k), (11, .ptr 11 0), (13, .sl .fro 2 (dotsAV [d]))] [(11, [.s k, .sl .fro 2 [], .sl .fro 2 []])] mix (by kernel_rfl) ?_ ?_
  · refine atree.tk fun K1 h1 => ?_
    simp
    first | refine h1 _ _ ?_ | refine ⟨by omega, h1 _ _ ?_⟩ | refine ⟨by omega, by omega, h1 _ _ ?_⟩
    clear h1 K1
    refine atree.tk fun K1 h1 => ?_
    simp
    first | refine h1 _ _ ?_ | refine ⟨by omega, h1 _ _ ?_⟩ | refine ⟨by omega, by omega, h1 _ _ ?_⟩
    clear h1 K1
    refine atree.al (fun K1 h1 => ?_) ?_
    · simp
      first | refine h1 _ _ ?_ | refine ⟨by omega, h1 _ _ ?_⟩ | refine ⟨by omega, by omega, h1 _ _ ?_⟩
      clear h1 K1
      refine atree.al (fun K1 h1 => ?_) ?_
      · simp
        refine call_pure (c_rwset_unknown [] [] (by simp) (by simp)) (by simp [dotsAV, intsAV]) ?_
        simp [hn0, hd0]
        first | refine h1 _ _ ?_ | refine ⟨by omega, h1 _ _ ?_⟩ | refine ⟨by omega, by omega, h1 _ _ ?_⟩
        clear h1 K1
        refine atree.a1 fun K1 h1 => ?_
        simp
        first | refine h1 _ _ ?_ | refine ⟨by omega, h1 _ _ ?_⟩ | refine ⟨by omega, by omega, h1 _ _ ?_⟩
        clear h1 K1
        refine atree.a1 fun K1 h1 => ?_
        simp
        first | refine h1 _ _ ?_ | refine ⟨by omega, h1 _ _ ?_⟩ | refine ⟨by omega, by omega, h1 _ _ ?_⟩
        clear h1 K1
        refine atree.a1 fun K1 h1 => ?_
        simp
        first | refine h1 _ _ ?_ | refine ⟨by omega, h1 _ _ ?_⟩ | refine ⟨by omega, by omega, h1 _ _ ?_⟩
        clear h1 K1
        refine atree.a1 fun K1 h1 => ?_
        simp
        refine call_pure (c_dots_Order [d] (by simp)) (by simp [dotsAV, dotC]) ?_
        simp [ordP_one]
        first | refine h1 _ _ ?_ | refine ⟨by omega, h1 _ _ ?_⟩ | refine ⟨by omega, by omega, h1 _ _ ?_⟩
        clear h1 K1
        refine atree.tk fun K1 h1 => ?_
        simp
        first | refine h1 _ _ ?_ | refine ⟨by omega, h1 _ _ ?_⟩ | refine ⟨by omega, by omega, h1 _ _ ?_⟩
        clear h1 K1
        simp
      · refine atree.a1 fun K1 h1 => ?_
        simp
        first | refine h1 _ _ ?_ | refine ⟨by omega, h1 _ _ ?_⟩ | refine ⟨by omega, by omega, h1 _ _ ?_⟩
        clear h1 K1
        refine atree.al (fun K1 h1 => ?_) ?_
        · simp
          refine call_pure (c_rwset_unknown [] [] (by simp) (by simp)) (by simp [dotsAV, intsAV]) ?_
          simp [hn0, hd0]
          first | refine h1 _ _ ?_ | refine ⟨by omega, h1 _ _ ?_⟩ | refine ⟨by omega, by omega, h1 _ _ ?_⟩
          clear h1 K1
          refine atree.a1 fun K1 h1 => ?_
          simp
          first | refine h1 _ _ ?_ | refine ⟨by omega, h1 _ _ ?_⟩ | refine ⟨by omega, by omega, h1 _ _ ?_⟩
          clear h1 K1
          refine atree.a1 fun K1 h1 => ?_
          simp
          first | refine h1 _ _ ?_ | refine ⟨by omega, h1 _ _ ?_⟩ | refine ⟨by omega, by omega, h1 _ _ ?_⟩
          clear h1 K1
          refine atree.a1 fun K1 h1 => ?_
          simp
          refine call_pure (c_dots_Order [d] (by simp)) (by simp [dotsAV, dotC]) ?_
          simp [ordP_one]
          first | refine h1 _ _ ?_ | refine ⟨by omega, h1 _ _ ?_⟩ | refine ⟨by omega, by omega, h1 _ _ ?_⟩
          clear h1 K1
          refine atree.tk fun K1 h1 => ?_
          simp
          first | refine h1 _ _ ?_ | refine ⟨by omega, h1 _ _ ?_⟩ | refine ⟨by omega, by omega, h1 _ _ ?_⟩
          clear h1 K1
          simp
        · refine atree.a1 fun K1 h1 => ?_
          simp
          first | refine h1 _ _ ?_ | refine ⟨by omega, h1 _ _ ?_⟩ | refine ⟨by omega, by omega, h1 _ _ ?_⟩
          clear h1 K1
          refine atree.a1 fun K1 h1 => ?_
          simp
          refine call_pure (c_rwset_unknown [] [] (by simp) (by simp)) (by simp [dotsAV, intsAV]) ?_
          simp [hn0, hd0]
          first | refine h1 _ _ ?_ | refine ⟨by omega, h1 _ _ ?_⟩ | refine ⟨by omega, by omega, h1 _ _ ?_⟩
          clear h1 K1
          refine atree.a1 fun K1 h1 => ?_
          simp
          first | refine h1 _ _ ?_ | refine ⟨by omega, h1 _ _ ?_⟩ | refine ⟨by omega, by omega, h1 _ _ ?_⟩
          clear h1 K1
          refine atree.a1 fun K1 h1 => ?_
          simp
          refine call_pure (c_dots_Order [d] (by simp)) (by simp [dotsAV, dotC]) ?_
          simp [ordP_one]
          first | refine h1 _ _ ?_ | refine ⟨by omega, h1 _ _ ?_⟩ | refine ⟨by omega, by omega, h1 _ _ ?_⟩
          clear h1 K1
          refine atree.tk fun K1 h1 => ?_
          simp
          first | refine h1 _ _ ?_ | refine ⟨by omega, h1 _ _ ?_⟩ | refine ⟨by omega, by omega, h1 _ _ ?_⟩
          clear h1 K1
          simp
    · refine atree.a1 fun K1 h1 => ?_
      simp
      first | refine h1 _ _ ?_ | refine ⟨by omega, h1 _ _ ?_⟩ | refine ⟨by omega, by omega, h1 _ _ ?_⟩
      clear h1 K1
      refine atree.al (fun K1 h1 => ?_) ?_
      · simp
        first | refine h1 _ _ ?_ | refine ⟨by omega, h1 _ _ ?_⟩ | refine ⟨by omega, by omega, h1 _ _ ?_⟩
        clear h1 K1
        refine atree.al (fun K1 h1 => ?_) ?_
        · simp
          refine call_pure (c_rwset_unknown [] [] (by simp) (by simp)) (by simp [dotsAV, intsAV]) ?_
          simp [hn0, hd0]
          first | refine h1 _ _ ?_ | refine ⟨by omega, h1 _ _ ?_⟩ | refine ⟨by omega, by omega, h1 _ _ ?_⟩
          clear h1 K1
          refine atree.a1 fun K1 h1 => ?_
          simp
          first | refine h1 _ _ ?_ | refine ⟨by omega, h1 _ _ ?_⟩ | refine ⟨by omega, by omega, h1 _ _ ?_⟩
          clear h1 K1
          refine atree.a1 fun K1 h1 => ?_
          simp
          first | refine h1 _ _ ?_ | refine ⟨by omega, h1 _ _ ?_⟩ | refine ⟨by omega, by omega, h1 _ _ ?_⟩
          clear h1 K1
          refine atree.a1 fun K1 h1 => ?_
          simp
          refine call_pure (c_dots_Order [d] (by simp)) (by simp [dotsAV, dotC]) ?_
          simp [ordP_one]
          first | refine h1 _ _ ?_ | refine ⟨by omega, h1 _ _ ?_⟩ | refine ⟨by omega, by omega, h1 _ _ ?_⟩
          clear h1 K1
          refine atree.tk fun K1 h1 => ?_
          simp
          first | refine h1 _ _ ?_ | refine ⟨by omega, h1 _ _ ?_⟩ | refine ⟨by omega, by omega, h1 _ _ ?_⟩
          clear h1 K1
          simp
        · refine atree.a1 fun K1 h1 => ?_
          simp
          first | refine h1 _ _ ?_ | refine ⟨by omega, h1 _ _ ?_⟩ | refine ⟨by omega, by omega, h1 _ _ ?_⟩
          clear h1 K1
          refine atree.a1 fun K1 h1 => ?_
          simp
          refine call_pure (c_rwset_unknown [] [] (by simp) (by simp)) (by simp [dotsAV, intsAV]) ?_
          simp [hn0, hd0]
          first | refine h1 _ _ ?_ | refine ⟨by omega, h1 _ _ ?_⟩ | refine ⟨by omega, by omega, h1 _ _ ?_⟩
          clear h1 K1
          refine atree.a1 fun K1 h1 => ?_
          simp
          first | refine h1 _ _ ?_ | refine ⟨by omega, h1 _ _ ?_⟩ | refine ⟨by omega, by omega, h1 _ _ ?_⟩
          clear h1 K1
          refine atree.a1 fun K1 h1 => ?_
          simp
          refine call_pure (c_dots_Order [d] (by simp)) (by simp [dotsAV, dotC]) ?_
          simp [ordP_one]
          first | refine h1 _ _ ?_ | refine ⟨by omega, h1 _ _ ?_⟩ | refine ⟨by omega, by omega, h1 _ _ ?_⟩
          clear h1 K1
          refine atree.tk fun K1 h1 => ?_
          simp
          first | refine h1 _ _ ?_ | refine ⟨by omega, h1 _ _ ?_⟩ | refine ⟨by omega, by omega, h1 _ _ ?_⟩
          clear h1 K1
          simp
      · refine atree.a1 fun K1 h1 => ?_
        simp
        first | refine h1 _ _ ?_ | refine ⟨by omega, h1 _ _ ?_⟩ | refine ⟨by omega, by omega, h1 _ _ ?_⟩
        clear h1 K1
        refine atree.a1 fun K1 h1 => ?_
        simp
        first | refine h1 _ _ ?_ | refine ⟨by omega, h1 _ _ ?_⟩ | refine ⟨by omega, by omega, h1 _ _ ?_⟩
        clear h1 K1
        refine atree.a1 fun K1 h1 => ?_
        simp
        refine call_pure (c_rwset_unknown [] [] (by simp) (by simp)) (by simp [dotsAV, intsAV]) ?_
        simp [hn0, hd0]
        first | refine h1 _ _ ?_ | refine ⟨by omega, h1 _ _ ?_⟩ | refine ⟨by omega, by omega, h1 _ _ ?_⟩
        clear h1 K1
        refine atree.a1 fun K1 h1 => ?_
        simp
        first | refine h1 _ _ ?_ | refine ⟨by omega, h1 _ _ ?_⟩ | refine ⟨by omega, by omega, h1 _ _ ?_⟩
        clear h1 K1
        refine atree.a1 fun K1 h1 => ?_
        simp
        refine call_pure (c_dots_Order [d] (by simp)) (by simp [dotsAV, dotC]) ?_
        simp [ordP_one]
        first | refine h1 _ _ ?_ | refine ⟨by omega, h1 _ _ ?_⟩ | refine ⟨by omega, by omega, h1 _ _ ?_⟩
        clear h1 K1
        refine atree.tk fun K1 h1 => ?_
        simp
        first | refine h1 _ _ ?_ | refine ⟨by omega, h1 _ _ ?_⟩ | refine ⟨by omega, by omega, h1 _ _ ?_⟩
        clear h1 K1
        simp
  refine AWp.go [8, 9] [] fun K hK => ?_
  simp
  refine call_pure (c_Clone_Dot [] (by simp)) (by simp) ?_
  simp
  refine call_procK [] none (c_rwset_putN ⟨k, [d], []⟩) (by simp [entC, hd0]) (by simp) ?_
  simp
  first | refine hK _ _ ?_ | refine ⟨by omega, hK _ _ ?_⟩ | refine ⟨by omega, by omega, hK _ _ ?_⟩
  clear hK K
  refine AWp.ret ?_
  simp

theorem cmpB_self : ∀ l : List UInt8, Lib.compareBytes l l = 0
  | [] => rfl
  | a :: l => by
    have h : ¬ a < a := UInt8.lt_irrefl a
    rw [Lib.compareBytes, if_neg h, if_neg h]
    exact cmpB_self l
theorem cmpK_self (k : ByteArray) : cmpK k k = 0 := cmpB_self _
theorem place_one (e : Entry) : place [e] e.key = 0 := by
  have h : less [e] e.key ((0 + 1) / 2) = false := by simp [less, cmpK_self]
  show bsF _ 0 1 = 0
  rw [bsF, if_pos (by omega), h, if_neg (by simp)]
  exact bsF_done _ 0
theorem there_one (e : Entry) : there [e] e.key = true := by
  unfold there
  rw [place_one]
  simp [cmpK_self]
theorem atE_one (e : Entry) : atE [e] e.key = e := by
  unfold atE
  rw [there_one, place_one]
  rfl
theorem fine_one (e : Entry) (h : e.live.length ≤ 1000000 ∧ e.dead.length ≤ 1000000) : Fine [e] := ⟨by simp, fun x hx => by
  rw [List.mem_singleton] at hx; subst hx; exact h⟩
abbrev kK : ByteArray := ⟨#[107]⟩
def wkA : Entry := ⟨kK, [(1, 1)], []⟩
def wkB : Entry := ⟨kK, [], [(2, 1)]⟩
def wkC : Entry := ⟨kK, [(1, 2)], [(2, 1)]⟩
theorem wkA_ok : (setOk [wkA] && keyOk kK && mayD (2, 1) && clockOk []) = true := by kernel_rfl
theorem wkB_ok : (setOk [wkB] && keyOk kK && mayD (1, 2) && clockOk [1, 1]) = true := by kernel_rfl
theorem wk_drop : dropE [wkA] kK (2, 1) [] = [wkB] := by
  have h1 : place [wkA] kK = 0 := place_one wkA
  have h2 : atE [wkA] kK = wkA := atE_one wkA
  rw [dropE, h1, h2]
  have : leftD wkA.dead [] ++ [(2, 1)] = [(2, 1)] := rfl
  rw [this, ordP_one]
  rfl
theorem wk_add : addE [wkB] kK (1, 2) [1, 1] = [wkC] := by
  have h1 : place [wkB] kK = 0 := place_one wkB
  have h2 : atE [wkB] kK = wkB := atE_one wkB
  have h3 : leftD wkB.dead [1, 1] = [] := by kernel_rfl
  rw [addE, h1, h2, h3, if_neg (by simp)]
  have : leftD wkB.live [1, 1] ++ [(1, 2)] = [(1, 2)] := rfl
  rw [this, ordP_one]
  rfl

set_option maxRecDepth 8000 in
set_option maxHeartbeats 4000000 in
theorem c_law09_awake : Pure Try.prog 12 [] (.b true) := by
  have eA : entsAV [wkA] = [entC wkA] := rfl
  have gD := c_rwset_DropT [wkA] kK (2, 1) [] (fine_one _ (by decide)) (by simp) wkA_ok (there_one wkA) (by rw [show atE [wkA] kK = wkA from atE_one wkA]; decide)
  have gA := c_rwset_AddT [wkB] kK (1, 2) [1, 1] (fine_one _ (by decide)) (by simp) wkB_ok (there_one wkB) (by rw [show atE [wkB] kK = wkB from atE_one wkB]; decide)
  have hA := c_rwset_Has [wkA] kK (fine_one _ (by decide))
  have hB := c_rwset_Has [wkB] kK (fine_one _ (by decide))
  have hC := c_rwset_Has [wkC] kK (fine_one _ (by decide))
  rw [wk_drop] at gD
  rw [wk_add] at gA
  rw [show atE [wkA] kK = wkA from atE_one wkA] at hA
  rw [show atE [wkB] kK = wkB from atE_one wkB] at hB
  rw [show atE [wkC] kK = wkC from atE_one wkC] at hC
  rw [show (setOk [wkA] && decide ((0 : Int) < wkA.live.length)) = true by kernel_rfl] at hA
  rw [show (setOk [wkB] && decide ((0 : Int) < wkB.live.length)) = false by kernel_rfl] at hB
  rw [show (setOk [wkC] && decide ((0 : Int) < wkC.live.length)) = true by kernel_rfl] at hC
  refine proc_of (cx Try.prog 48 [0, 1, 2, 3, 4, 5, 6] [0]) 48 [.tmp 0] Try.func12 rfl rfl rfl rfl rfl rfl (Nat.le_refl _) rfl ?_
  refine AWp.go [] [] fun K hK => ?_
  simp
  first | refine hK _ _ ?_ | refine ⟨by omega, hK _ _ ?_⟩ | refine ⟨by omega, by omega, hK _ _ ?_⟩
  clear hK K
  refine AWp.go [1, 2] [] fun K hK => ?_
  simp
  refine call_procK [] none (c_rwset_AddN kK (1, 1) (by kernel_rfl) (by kernel_rfl)) (by simp [dotC]) (by simp) ?_
  simp
  first | refine hK _ _ ?_ | refine ⟨by omega, hK _ _ ?_⟩ | refine ⟨by omega, by omega, hK _ _ ?_⟩
  clear hK K
  have e1 : [entC { key := kK, live := [(1, 1)], dead := [] }] = entsAV [wkA] := rfl
  rw [e1]
  refine AWp.frz [1] ?_
  simp
  refine AWp.go [1, 2, 3, 4] [] fun K hK => ?_
  simp
  refine call_pure gD (by simp [dotC, intsAV]) ?_
  simp
  first | refine hK _ _ ?_ | refine ⟨by omega, hK _ _ ?_⟩ | refine ⟨by omega, by omega, hK _ _ ?_⟩
  clear hK K
  refine AWp.frz [3] ?_
  simp
  refine AWp.go [1, 2, 3, 4, 5, 6] [] fun K hK => ?_
  simp
  refine call_pure gA (by simp [dotC, intsAV]) ?_
  simp
  first | refine hK _ _ ?_ | refine ⟨by omega, hK _ _ ?_⟩ | refine ⟨by omega, by omega, hK _ _ ?_⟩
  clear hK K
  refine AWp.frz [5] ?_
  simp
  refine AWp.step [0] [] [(0, .b true)] [] ?_ ?_
  · simp
    refine call_pure hA (by simp) ?_
    simp
    refine call_pure hB (by simp) ?_
    simp
    refine call_pure hC (by simp) ?_
    simp
  refine AWp.ret ?_
  simp
end Go.AM
namespace Go.AM
def KL (a b : ByteArray) : Prop := a.toList < b.toList
theorem ltK_iff (a b : ByteArray) : ltK a b = true ↔ KL a b := by
  unfold ltK KL
  rw [Go.Proofs.bytesLess_eq]
  simp
theorem eqK_iff (a b : ByteArray) : eqK a b = true ↔ a.toList = b.toList := by simp [eqK]
theorem KL.irrefl (a : ByteArray) : ¬ KL a a := List.lt_irrefl _
theorem KL.trans {a b c : ByteArray} (h1 : KL a b) (h2 : KL b c) : KL a c := List.lt_trans h1 h2
theorem KL.ne {a b : ByteArray} (h : KL a b) : eqK a b = false := by
  rw [Bool.eq_false_iff]
  intro e
  rw [eqK_iff] at e
  unfold KL at h
  rw [e] at h
  exact List.lt_irrefl _ h
theorem KL.of_leK {a b : ByteArray} (h : leK a b = false) : KL b a := by
  simp only [leK, Bool.or_eq_false_iff] at h
  have h1 : ¬ KL a b := fun h' => by rw [(ltK_iff a b).2 h'] at h; cases h.1
  have h2 : ¬ a.toList = b.toList := fun h' => by rw [(eqK_iff a b).2 h'] at h; cases h.2
  refine Classical.byContradiction fun h3 => h2 ?_
  exact List.le_antisymm (List.not_lt.1 h3) (List.not_lt.1 h1)
abbrev SortE (s : List Entry) : Prop := s.Pairwise fun a b => KL a.key b.key
theorem SortE.of_adj {l : List Entry} (h : ∀ i (hi : i + 1 < l.length), KL (l[i]'(by omega)).key l[i + 1].key) : SortE l := by
  induction l with
  | nil => exact List.Pairwise.nil
  | cons a l ih =>
    have hl : SortE l := ih fun i hi => h (i + 1) (by simpa using hi)
    refine List.Pairwise.cons (fun b hb => ?_) hl
    match l, hl, hb, h with
    | c :: m, hl, hb, h =>
      have h0 : KL a.key c.key := h 0 (by simp)
      rcases List.mem_cons.1 hb with rfl | hb
      · exact h0
      · exact h0.trans (List.rel_of_pairwise_cons hl hb)
theorem setOk_entry {s : List Entry} (h : setOk s = true) (i : Nat) (hi : i < s.length) : entOk (prevK s i) s[i] = true := by
  simp only [setOk, Bool.and_eq_true] at h
  have := List.all_eq_true.1 h.2 i (by simpa using hi)
  simpa [entAt, hi] using this
theorem setOk_sort {s : List Entry} (h : setOk s = true) : SortE s := by
  refine SortE.of_adj fun i hi => ?_
  have := setOk_entry h (i + 1) hi
  rw [prevK_succ s i (by omega)] at this
  simp only [entOk, Bool.and_eq_true, Bool.not_eq_true'] at this
  exact KL.of_leK this.1.1.1.2
theorem putTo_last (s : List Entry) (e : Entry) (h : ∀ y ∈ s, KL y.key e.key) : ∀ i, i ≤ s.length → putTo s e i = (s.take i, noneE e)
  | 0, _ => rfl
  | i + 1, hi => by
    have ih := putTo_last s e h i (by omega)
    have hk := h s[i] (List.getElem_mem (by omega))
    rw [putTo_succ s e i (by omega), ih, putStep, (ltK_iff _ _).2 hk, hk.ne, List.take_succ_eq_append_getElem (by omega)]
    simp
theorem putE_last (s : List Entry) (e : Entry) (h : ∀ y ∈ s, KL y.key e.key) : putE s e = if noneE e then s else s ++ [e] := by
  unfold putE
  rw [putTo_last s e h s.length (Nat.le_refl _), List.take_length]
theorem putsTo_sorted (f : Entry → Entry) (hf : ∀ e, (f e).key = e.key) {s : List Entry} (h : SortE s) : ∀ i, i ≤ s.length → putsTo f s i = ((s.take i).map f).filter fun e => !noneE e
  | 0, _ => rfl
  | i + 1, hi => by
    have ih := putsTo_sorted f hf h i (by omega)
    rw [putsTo_succ f s i (by omega), ih, putE_last, List.take_succ_eq_append_getElem (by omega), List.map_append, List.filter_append]
    · cases hn : noneE (f s[i]) <;> simp [hn]
    · intro y hy
      obtain ⟨x, hx, rfl⟩ := List.mem_map.1 (List.mem_filter.1 hy).1
      obtain ⟨k, hk, rfl⟩ := List.mem_take_iff_getElem.1 hx
      rw [hf, hf]
      exact List.pairwise_iff_getElem.1 h k i (by omega) (by omega) (by omega)
theorem putsTo_small (f : Entry → Entry) (hf : ∀ e, (f e).key = e.key) {s : List Entry} (h : SortE s) (i : Nat) (hi : i ≤ s.length) : (putsTo f s i).length ≤ s.length := by
  rw [putsTo_sorted f hf h i hi]
  refine Nat.le_trans (List.length_filter_le _ _) ?_
  rw [List.length_map, List.length_take]; omega
theorem plain_law {s : List Entry} (h : setOk s = true) : plainE s = putsE bare s := by
  rw [plainE, if_pos h, putsE, putsTo_sorted bare (fun _ => rfl) (setOk_sort h) _ (Nat.le_refl _), List.take_length]
  refine List.filter_congr fun e he => ?_
  obtain ⟨x, _, rfl⟩ := List.mem_map.1 he
  congr 1
  simp [noneE, bare]
theorem clean_law {s : List Entry} {c : List Int} (h : setOk s = true) (hc : clockOk c = true) : cleanE s c = putsE (lessen c) s := by
  rw [cleanE, h, hc, putsE, putsTo_sorted (lessen c) (fun _ => rfl) (setOk_sort h) _ (Nat.le_refl _), List.take_length]
  refine List.filter_congr fun e _ => ?_
  congr 1
  rw [Bool.eq_iff_iff]
  simp [noneE]
  rw [← List.length_eq_zero_iff, ← List.length_eq_zero_iff]
  omega
theorem sameE_refl (e : Entry) : sameE e e = true := by simp [sameE, eqK]
theorem sameB_refl (s : List Entry) : sameB s s = true := by
  simp only [sameB, decide_true, Bool.true_and, List.all_eq_true]
  intro i hi
  have hi : i < s.length := by simpa using hi
  simp [hi, sameE_refl]
end Go.AM
namespace Go.AM
theorem cmpB_lt : ∀ a b : List UInt8, Lib.compareBytes a b < 0 ↔ a < b
  | [], [] => by simp [Lib.compareBytes]
  | [], b :: bs => by simp [Lib.compareBytes]
  | a :: l, [] => by simp [Lib.compareBytes]
  | a :: l, b :: m => by
    rw [Lib.compareBytes, List.cons_lt_cons_iff]
    by_cases h1 : a < b
    · simp [h1]
    · by_cases h2 : b < a
      · have h3 : ¬ a = b := by rintro rfl; exact h1 h2
        simp [h1, h2, h3]
      · have h3 : a = b := UInt8.le_antisymm (UInt8.not_lt.1 h2) (UInt8.not_lt.1 h1)
        subst h3
        simp [h1, cmpB_lt l m]
theorem cmpB_eq : ∀ a b : List UInt8, Lib.compareBytes a b = 0 ↔ a = b
  | [], [] => by simp [Lib.compareBytes]
  | [], b :: bs => by simp [Lib.compareBytes]
  | a :: l, [] => by simp [Lib.compareBytes]
  | a :: l, b :: m => by
    rw [Lib.compareBytes]
    by_cases h1 : a < b
    · have h3 : ¬ a = b := by rintro rfl; exact UInt8.lt_irrefl _ h1
      simp [h1, h3]
    · by_cases h2 : b < a
      · have h3 : ¬ a = b := by rintro rfl; exact h1 h2
        simp [h1, h2, h3]
      · have h3 : a = b := UInt8.le_antisymm (UInt8.not_lt.1 h2) (UInt8.not_lt.1 h1)
        subst h3
        simp [h1, cmpB_eq l m]
theorem bsF_spec (p : Nat → Bool) (n : Nat) (mono : ∀ i j, i ≤ j → j < n → p j = true → p i = true) (lo hi : Nat) : lo ≤ hi → hi ≤ n → (∀ i, i < lo → p i = true) → (∀ i, hi ≤ i → i < n → p i = false) →
    (∀ i, i < bsF p lo hi → p i = true) ∧ ∀ i, bsF p lo hi ≤ i → i < n → p i = false := by
  induction lo, hi using bsF.induct p with
  | case1 lo hi h1 h2 ih =>
    intro a1 a2 a3 a4
    rw [bsF, if_pos h1, if_pos h2]
    exact ih (by omega) a2 (fun i hi => mono i _ (by omega) (by omega) h2) a4
  | case2 lo hi h1 h2 ih =>
    intro a1 a2 a3 a4
    rw [bsF, if_pos h1, if_neg h2]
    refine ih (by omega) (by omega) a3 fun i hi hn => ?_
    rw [Bool.eq_false_iff]
    exact fun hp => h2 (mono _ i hi hn hp)
  | case3 lo hi h1 =>
    intro a1 a2 a3 a4
    rw [bsF, if_neg h1]
    have : lo = hi := by omega
    subst this
    exact ⟨a3, a4⟩
theorem toList_data (k : ByteArray) : k.data.toList = k.toList := (ByteArray.toList_eq k).symm
theorem cmpK_lt (a b : ByteArray) : cmpK a b < 0 ↔ KL a b := by rw [cmpK, toList_data, toList_data]; exact cmpB_lt _ _
theorem cmpK_eq (a b : ByteArray) : cmpK a b = 0 ↔ eqK a b = true := by rw [cmpK, toList_data, toList_data, eqK_iff]; exact cmpB_eq _ _
theorem less_at (s : List Entry) (k : ByteArray) (i : Nat) (h : i < s.length) : less s k i = true ↔ KL s[i].key k := by
  simp [less, h, cmpK_lt]
theorem place_spec {s : List Entry} (hs : SortE s) (k : ByteArray) : (∀ i (h : i < s.length), i < place s k → KL s[i].key k) ∧ ∀ i (h : i < s.length), place s k ≤ i → ¬ KL s[i].key k := by
  have := bsF_spec (less s k) s.length (fun i j hij hj hp => ?_) 0 s.length (Nat.zero_le _) (Nat.le_refl _) (fun i h => by omega) (fun i h1 h2 => by omega)
  · refine ⟨fun i h hp => (less_at s k i h).1 (this.1 i hp), fun i h hp hk => ?_⟩
    have := this.2 i hp h
    rw [(less_at s k i h).2 hk] at this
    cases this
  · rw [less_at s k i (by omega)]
    have h2 := (less_at s k j hj).1 hp
    rcases Nat.lt_or_ge i j with h | h
    · exact (List.pairwise_iff_getElem.1 hs i j (by omega) hj h).trans h2
    · obtain rfl : i = j := by omega
      exact h2
theorem atE_get {s : List Entry} (hs : SortE s) (k : ByteArray) : atE s k = getE s k := by
  obtain ⟨h1, h2⟩ := place_spec hs k
  unfold atE getE
  cases ht : there s k with
  | true =>
    have hlt := there_lt ht
    have he : eqK s[place s k].key k = true := by
      unfold there at ht
      rw [List.getElem?_eq_getElem hlt] at ht
      exact (cmpK_eq _ _).1 (by simpa using ht)
    rw [find_at (p := fun e => eqK e.key k) (place s k) hlt (fun j hj => (h1 j (by omega) hj).ne) he]
    simp [hlt]
  | false =>
    have : s.find? (fun e => eqK e.key k) = none := by
      rw [List.find?_eq_none]
      intro x hx hk
      obtain ⟨j, hj, rfl⟩ := List.mem_iff_getElem.1 hx
      rcases Nat.lt_or_ge j (place s k) with h | h
      · rw [(h1 j hj h).ne] at hk; cases hk
      · have hp : place s k < s.length := by omega
        rcases Nat.lt_or_ge (place s k) j with h' | h'
        · have h3 := List.pairwise_iff_getElem.1 hs _ _ hp hj h'
          have h4 : KL s[place s k].key k := by
            unfold KL at h3 ⊢
            rw [← (eqK_iff _ _).1 hk]; exact h3
          exact h2 _ hp (Nat.le_refl _) h4
        · have e : j = place s k := by omega
          subst e
          unfold there at ht
          rw [List.getElem?_eq_getElem hp] at ht
          simp [(cmpK_eq _ _).2 hk] at ht
    rw [this]; rfl
end Go.AM
namespace Go.AM
theorem ent_uniq {s : List Entry} (hs : SortE s) {k : ByteArray} {x z : Entry} (hx : x ∈ s) (hz : z ∈ s) (ex : eqK x.key k = true) (ez : eqK z.key k = true) : x = z := by
  obtain ⟨i, hi, rfl⟩ := List.mem_iff_getElem.1 hx
  obtain ⟨j, hj, rfl⟩ := List.mem_iff_getElem.1 hz
  have e : s[i].key.toList = s[j].key.toList := ((eqK_iff _ _).1 ex).trans ((eqK_iff _ _).1 ez).symm
  rcases Nat.lt_trichotomy i j with h | h | h
  · have := List.pairwise_iff_getElem.1 hs i j hi hj h
    unfold KL at this; rw [e] at this
    exact absurd this (List.lt_irrefl _)
  · subst h; rfl
  · have := List.pairwise_iff_getElem.1 hs j i hj hi h
    unfold KL at this; rw [e] at this
    exact absurd this (List.lt_irrefl _)
theorem getE_cases (s : List Entry) (k : ByteArray) : (∃ x ∈ s, eqK x.key k = true ∧ getE s k = x) ∨ ((∀ x ∈ s, eqK x.key k = false) ∧ getE s k = emptyE k) := by
  unfold getE
  cases h : s.find? fun e => eqK e.key k with
  | none =>
    right
    refine ⟨fun x hx => ?_, rfl⟩
    have := List.find?_eq_none.1 h x hx
    simpa using this
  | some x =>
    left
    exact ⟨x, List.mem_of_find?_eq_some h, by simpa using List.find?_some h, rfl⟩
theorem has_law {s : List Entry} (h : setOk s = true) (k : ByteArray) : decide ((0 : Int) < (atE s k).live.length) = decide ((0 : Int) < (getE (plainE s) k).live.length) := by
  have hs := setOk_sort h
  rw [atE_get hs k]
  have hm : ∀ y, y ∈ plainE s ↔ ∃ x ∈ s, bare x = y ∧ y.live.length ≠ 0 := fun y => by
    rw [plainE, if_pos h]
    simp [List.mem_filter]
    constructor
    · rintro ⟨⟨x, hx, rfl⟩, h2⟩; exact ⟨x, hx, rfl, h2⟩
    · rintro ⟨x, hx, rfl, h2⟩; exact ⟨⟨x, hx, rfl⟩, h2⟩
  congr 1
  rcases getE_cases s k with ⟨x, hx, ex, gx⟩ | ⟨hn, gx⟩
  · rcases getE_cases (plainE s) k with ⟨y, hy, ey, gy⟩ | ⟨hn2, gy⟩
    · obtain ⟨z, hz, rfl, hne⟩ := (hm y).1 hy
      have := ent_uniq hs hx hz ex ey
      subst this
      rw [gx, gy]; rfl
    · rw [gx, gy]
      by_cases hl : x.live.length = 0
      · simp [hl, emptyE]
      · have := hn2 (bare x) ((hm _).2 ⟨x, hx, rfl, hl⟩)
        rw [show (bare x).key = x.key from rfl, ex] at this
        cases this
  · rcases getE_cases (plainE s) k with ⟨y, hy, ey, gy⟩ | ⟨_, gy⟩
    · obtain ⟨z, hz, rfl, hne⟩ := (hm y).1 hy
      have := hn z hz
      rw [show (bare z).key = z.key from rfl, this] at ey
      cases ey
    · rw [gx, gy]
end Go.AM
namespace Go.AM
open Go.Proofs
theorem light_fine {s : List Entry} (h : lightB s = true) : Fine s := by
  simp only [lightB, Bool.and_eq_true, decide_eq_true_eq, List.all_eq_true] at h
  refine ⟨by omega, fun e he => ?_⟩
  have := h.1 e he
  simp [lightE] at this
  omega
theorem fine_plain {s : List Entry} (h : Fine s) : Fine (plainE s) := by
  refine ⟨Nat.le_trans (plainE_len s) h.1, fun e he => ?_⟩
  unfold plainE at he
  split at he
  · obtain ⟨x, hx, rfl⟩ := List.mem_map.1 (List.mem_filter.1 he).1
    exact ⟨(h.2 x hx).1, by simp [bare]⟩
  · simp at he
theorem fine_clean {s : List Entry} (c : List Int) (h : Fine s) : Fine (cleanE s c) := by
  unfold cleanE
  split
  · refine ⟨?_, fun e he => ?_⟩
    · refine Nat.le_trans (List.length_filter_le _ _) ?_
      rw [List.length_map]; exact h.1
    · obtain ⟨x, hx, rfl⟩ := List.mem_map.1 (List.mem_filter.1 he).1
      have := h.2 x hx
      have h3 := leftD_len x.dead c
      exact ⟨this.1, by show (leftD x.dead c).length ≤ _; omega⟩
  · exact ⟨by simp, by simp⟩
@[simp] theorem keysAV_getElem (l : List Entry) (i : Nat) (h : i < (keysAV l).length) : (keysAV l)[i] = [.s (l[i]'(by simpa using h)).key] := by simp [keysAV]

set_option maxRecDepth 8000 in
set_option maxHeartbeats 4000000 in
theorem c_RwsetTells (s : List Entry) (k : ByteArray) (c : List Int) (hlen : s.length ≤ 9223372036854775807) (hcl : c.length ≤ 9223372036854775807) : Pure Try.prog 9 [.sl .fro 3 (entsAV s), .s k, .sl .fro 1 (intsAV c)] (.b true) := by
  have g0 := c_law08_Light s hlen
  have gw := c_law09_awake
  refine proc_of (cx Try.prog 132 [0, 1, 2, 6, 7, 8, 9, 10, 11, 12, 25, 39, 90, 94, 106, 109] [6]) 129 [.tmp 6] Try.func9 rfl rfl rfl rfl rfl rfl (Nat.le_refl _) rfl ?_
  refine AWp.go [0, 1, 2] [] fun K hK => ?_
  simp
  first | refine hK _ _ ?_ | refine ⟨by omega, hK _ _ ?_⟩ | refine ⟨by omega, by omega, hK _ _ ?_⟩
  clear hK K
  refine AWp.seq ?_
  refine AWp.step [0, 1, 2, 25] [] [(0, .sl .fro 3 (entsAV s)), (1, .s k), (2, .sl .fro 1 (intsAV c)), (25, .b (!(lightB s && !decide ((100 : Int) < k.size) && !decide ((20 : Int) < c.length))))] [] ?_ ?_
  · simp
    refine call_pure g0 (by simp) ?_
    cases q1 : lightB s
    · simp
    by_cases q2 : (100 : Int) < k.size
    · simp [q2]
    · simp [q2]
  cases hg : lightB s && !decide ((100 : Int) < k.size) && !decide ((20 : Int) < c.length)
  · refine AWp.cond (t := true) (by simp) (fun _ => ?_) (by simp)
    refine AWp.go [6] [] fun K hK => ?_
    simp
    refine call_pure gw (by simp) ?_
    simp
    first | refine hK _ _ ?_ | refine ⟨by omega, hK _ _ ?_⟩ | refine ⟨by omega, by omega, hK _ _ ?_⟩
    clear hK K
    refine AWp.ret ?_
    simp
  · refine AWp.cond (t := false) (by simp) (by simp) (fun _ => ?_)
    refine AWp.skip ?_
    show AWp _ _ _ _
    have hL : lightB s = true ∧ c.length ≤ 20 := by
      simp at hg
      exact ⟨hg.1.1, by omega⟩
    have hs := light_fine hL.1
    have gk := c_rwset_Keys s hs
    have gp := c_rwset_Plain s hs
    have gc := c_rwset_Clean s c hs (by omega)
    have gm := c_ref09_May s hs
    have gh := c_rwset_Has s k hs
    have hcm := c_ref03_May c (by omega)
    refine AWp.go [0, 1, 2, 7, 8] [] fun K hK => ?_
    simp
    refine call_pure gk (by simp) ?_
    simp
    refine call_pure gp (by simp) ?_
    simp
    first | refine hK _ _ ?_ | refine ⟨by omega, hK _ _ ?_⟩ | refine ⟨by omega, by omega, hK _ _ ?_⟩
    clear hK K
    refine AWp.frz [7] ?_
    simp
    refine AWp.frz [8] ?_
    simp
    skip
    refine AWp.go [0, 1, 2, 7, 8, 9, 10] [] fun K hK => ?_
    simp
    refine call_pure gc (by simp) ?_
    simp
    first | refine hK _ _ ?_ | refine ⟨by omega, hK _ _ ?_⟩ | refine ⟨by omega, by omega, hK _ _ ?_⟩
    clear hK K
    refine AWp.frz [9] ?_
    simp
    refine AWp.seq ?_
    refine AWp.go [0, 1, 2, 7, 8, 9, 10, 39] [] fun K hK => ?_
    simp
    refine call_pure gm (by simp) ?_
    simp
    first | refine hK _ _ ?_ | refine ⟨by omega, hK _ _ ?_⟩ | refine ⟨by omega, by omega, hK _ _ ?_⟩
    clear hK K
    cases hq : setOk s
    · refine AWp.cond (t := true) (by simp) (fun _ => ?_) (by simp)
      have e1 : plainE s = [] := by rw [plainE, hq]; rfl
      have e2 : cleanE s c = [] := by rw [cleanE, hq]; rfl
      have e3 : cleanN s c = 1 := by rw [cleanN, hq]; rfl
      rw [hq] at gh
      rw [e1, e2, e3]
      refine AWp.step [6] [] [(6, .b true)] [] ?_ ?_
      · simp
        refine call_pure gh (by simp) ?_
        simp
        refine call_pure gw (by simp) ?_
        simp
      refine AWp.ret ?_
      simp
    · refine AWp.cond (t := false) (by simp) (by simp) (fun _ => ?_)
      refine AWp.skip ?_
      show AWp _ _ _ _
      have hP := plain_law hq
      have hfp := fine_plain hs
      have g9 := c_ref09_Plain s hs (fun i hi => Nat.le_trans (putsTo_small bare (fun _ => rfl) (setOk_sort hq) i hi) hs.1)
      rw [← hP] at g9
      have gsame := c_ref08_Same (plainE s) (plainE s) hfp hfp
      rw [sameB_refl] at gsame
      have gget := c_ref08_Get (plainE s) k hfp
      have hlaw := has_law hq k
      rw [hq, hlaw] at gh
      simp [entC] at gget
      refine AWp.go [0, 1, 2, 7, 8, 9, 10, 11] [] fun K hK => ?_
      simp
      refine call_pure g9 (by simp) ?_
      simp
      first | refine hK _ _ ?_ | refine ⟨by omega, hK _ _ ?_⟩ | refine ⟨by omega, by omega, hK _ _ ?_⟩
      clear hK K
      refine AWp.seq ?_
      refine AWp.step [0, 2, 7, 9, 10, 11, 90] [] [(0, .sl .fro 3 (entsAV s)), (2, .sl .fro 1 (intsAV c)), (7, .sl .fro 1 (keysAV (plainE s))), (9, .sl .fro 3 (entsAV (cleanE s c))), (10, .i .i64 (cleanN s c)), (11, .sl .fro 3 (entsAV (plainE s))), (90, .b false)] [] ?_ ?_
      · simp
        refine call_pure gsame (by simp) ?_
        simp
        refine call_pure gh (by simp) ?_
        simp
        refine call_pure gget (by simp) ?_
        simp
      refine AWp.cond (t := false) (by first | (simp; done) | (simp; omega)) (by simp) (fun _ => ?_)
      refine AWp.skip ?_
      show AWp _ _ _ _
      refine AWp.seq ?_
      refine AWp.go [0, 2, 7, 9, 10, 11, 12] [] fun K hK => ?_
      simp
      first | refine hK _ _ ?_ | refine ⟨by omega, hK _ _ ?_⟩ | refine ⟨by omega, by omega, hK _ _ ?_⟩
      clear hK K
      refine AWp.block (AWp.while (fun i : Nat => [(0, .sl .fro 3 (entsAV s)), (2, .sl .fro 1 (intsAV c)), (7, .sl .fro 1 (keysAV (plainE s))), (9, .sl .fro 3 (entsAV (cleanE s c))), (10, .i .i64 (cleanN s c)), (11, .sl .fro 3 (entsAV (plainE s))), (12, .i .i64 i)]) (fun i => []) (fun i => i ≤ (plainE s).length) (fun i => (plainE s).length - i) [0, 2, 7, 9, 10, 11, 12] [] 0 (by simp) (by simp) ?_)
      intro i hi
      have hfl := hfp.1
      refine AWp.seq ?_
      refine AWp.go [0, 2, 7, 9, 10, 11, 12, 94] [] fun K hK => ?_
      simp
      first | refine hK _ _ ?_ | refine ⟨by omega, hK _ _ ?_⟩ | refine ⟨by omega, by omega, hK _ _ ?_⟩
      clear hK K
      by_cases h2 : i < (plainE s).length
      · refine AWp.cond (t := true) (by first | (simp [h2]; done) | (simp [h2]; omega)) (fun _ => ?_) (by simp)
        refine AWp.skip ?_
        show AWp _ _ _ _
        refine AWp.seq ?_
        refine AWp.block ?_
        refine AWp.stepD 10 (fun _ => .any) [0, 2, 7, 9, 10, 11, 12, 106] [] [(0, .sl .fro 3 (entsAV s)), (2, .sl .fro 1 (intsAV c)), (7, .sl .fro 1 (keysAV (plainE s))), (9, .sl .fro 3 (entsAV (cleanE s c))), (10, .i .i64 (cleanN s c)), (11, .sl .fro 3 (entsAV (plainE s))), (12, .i .i64 i), (106, .b false)] [] mix (by kernel_rfl) ?_ ?_
        · simp [h2]
        refine AWp.cond (t := false) (by first | (simp; done) | (simp; omega)) (by simp) (fun _ => ?_)
        refine AWp.skip ?_
        show AWp _ _ _ _
        refine AWp.goLast [0, 2, 7, 9, 10, 11, 12] [] fun K hK => ?_
        simp
        first | refine hK _ _ ?_ | refine ⟨by omega, hK _ _ ?_⟩ | refine ⟨by omega, by omega, hK _ _ ?_⟩
        clear hK K
        refine ⟨i + 1, by omega, by omega, ?_⟩
        simp
        exact wrap64 (by omega) (by omega)
      · refine AWp.cond (t := false) (by first | (simp [h2]; done) | (simp [h2]; omega)) (by simp) (fun _ => ?_)
        refine AWp.exit ?_
        show AWp _ _ _ _
        refine AWp.seq ?_
        refine AWp.go [0, 2, 9, 10, 109] [] fun K hK => ?_
        simp
        refine call_pure hcm (by simp) ?_
        simp
        first | refine hK _ _ ?_ | refine ⟨by omega, hK _ _ ?_⟩ | refine ⟨by omega, by omega, hK _ _ ?_⟩
        clear hK K
        cases hk : clockOk c
        · refine AWp.cond (t := true) (by simp) (fun _ => ?_) (by simp)
          have e2 : cleanE s c = [] := by rw [cleanE, hq, hk]; rfl
          have e3 : cleanN s c = 1 := by rw [cleanN, hq, hk]; rfl
          rw [e2, e3]
          refine AWp.step [6] [] [(6, .b true)] [] ?_ ?_
          · simp
            refine call_pure gw (by simp) ?_
            simp
          refine AWp.ret ?_
          simp
        · refine AWp.cond (t := false) (by simp) (by simp) (fun _ => ?_)
          refine AWp.skip ?_
          show AWp _ _ _ _
          have e3 : cleanN s c = 0 := by rw [cleanN, hq, hk]; rfl
          have hC := clean_law hq hk
          have hfc := fine_clean c hs
          have g10 := c_ref09_Clean s c hs (by omega) (fun i hi => Nat.le_trans (putsTo_small (lessen c) (fun _ => rfl) (setOk_sort hq) i hi) hs.1)
          rw [← hC] at g10
          have gsm := c_ref08_Same (cleanE s c) (cleanE s c) hfc hfc
          rw [sameB_refl] at gsm
          rw [e3]
          refine AWp.step [6] [] [(6, .b true)] [] ?_ ?_
          · simp
            refine call_pure g10 (by simp) ?_
            simp
            refine call_pure gsm (by simp) ?_
            simp
            refine call_pure gw (by simp) ?_
            simp
          refine AWp.ret ?_
          simp
end Go.AM
namespace Go.AM

inductive TT where
  | int (k : IntKind)
  | bool
  | str
  | sl (sz : Nat) (e : TT)
  | st (fs : List TT)

mutual
def TT.size : TT → Nat
  | .st fs => TT.sizeL fs
  | _ => 1
def TT.sizeL : List TT → Nat
  | [] => 0
  | f :: fs => f.size + TT.sizeL fs
end

mutual
/-- Is it the shape of a type? -/
def TT.isAt (P : Program) : TT → TypeId → Bool
  | .int k, t => match P.underlying t with
    | some (.int k') => k' == k
    | _ => false
  | .bool, t => match P.underlying t with
    | some .bool => true
    | _ => false
  | .str, t => match P.underlying t with
    | some .string => true
    | _ => false
  | .sl sz e, t => match P.underlying t with
    | some (.slice et) => P.cellsOf et == sz && decide (0 < sz) && e.size == sz && e.isAt P et
    | _ => false
  | .st fs, t => match P.underlying t with
    | some (.struct fl) => P.cellsOf t == TT.sizeL fs && TT.isL P fs fl.toList 0
    | _ => false
def TT.isL (P : Program) : List TT → List Field → Nat → Bool
  | [], [], _ => true
  | f :: fs, d :: ds, off => d.offset == off && P.cellsOf d.type == f.size && f.isAt P d.type && TT.isL P fs ds (off + f.size)
  | _, _, _ => false
end

mutual
/-- Cells of such a shape. -/
def TT.fit : TT → List AV → Prop
  | .int k, avs => ∃ n, avs = [.i k n] ∧ k.min ≤ n ∧ n ≤ k.max
  | .bool, avs => ∃ b, avs = [.b b]
  | .str, avs => ∃ s, avs = [.s s] ∧ s.size ≤ maxLen
  | .sl sz e, avs => ∃ xs, avs = [.sl .fro sz xs] ∧ xs.length ≤ maxLen ∧ ∀ x ∈ xs, e.fit x
  | .st fs, avs => TT.fitL fs avs
def TT.fitL : List TT → List AV → Prop
  | [], avs => avs = []
  | f :: fs, avs => ∃ a b, avs = a ++ b ∧ f.fit a ∧ TT.fitL fs b
end

section
variable {H : Type} {enc : TypeId × Value → H} {P : Program} {w : World} {held : Bool}

/-- Cells that are read as data. -/
def AsDat (w : World) (avs : List AV) (cs : List Value) : Prop := avs.length = cs.length ∧ ∀ (k : Nat) c, avs[k]? = some c → ∃ u, cs[k]? = some u ∧ DatC (fun b => b < w.heap.size) w c u

theorem AsDat.one {w : World} {c : AV} {u : Value} (h : Dat (fun b => b < w.heap.size) w c u) (h1 : u.oneCell' = true) : AsDat w [c] [u] := ⟨rfl, fun k c' hk => by
  cases k with
  | zero => simp at hk; subst hk; exact ⟨u, rfl, h, h1⟩
  | succ k => simp at hk⟩

theorem cell_spot {w : World} {a : Addr} {v : Value} (h : w.cell? a = some v) : a.spot = none := by
  unfold World.cell? at h
  split at h
  · cases hs : a.spot with
    | none => rfl
    | some s => simp [hs] at h
  · cases h

theorem cell_lt' {w : World} {a : Addr} {v : Value} (h : w.cell? a = some v) : a.block < w.heap.size := by
  unfold World.cell? at h
  split at h
  · rename_i h1; exact (Array.getElem?_eq_some_iff.1 h1).1
  · cases h

mutual
theorem trod_dat : ∀ (T : TT) (n : Nat) (t : TypeId) (cs : List Value) (x : DataW H × List MemPlace), T.isAt P t = true → DataW.trod enc P w 0 (fun _ => true) held n t cs = some x → ∃ avs, T.fit avs ∧ avs.length = T.size ∧ AsDat w avs cs
  | .int k, n, t, cs, x, hT, h => by
    simp only [TT.isAt] at hT
    split at hT
    · rename_i k' hu
      have : k' = k := by simpa using hT
      subst this
      obtain ⟨m, rfl, _, hw⟩ := DataW.trod_int hu h
      simp only [Lit.wf, Bool.and_eq_true, decide_eq_true_eq] at hw
      exact ⟨[.i k' m], ⟨m, rfl, hw⟩, rfl, .one (.i _ _) rfl⟩
    · cases hT
  | .bool, n, t, cs, x, hT, h => by
    simp only [TT.isAt] at hT
    split at hT
    · rename_i hu
      obtain ⟨b, rfl, _⟩ := DataW.trod_bool hu h
      exact ⟨[.b b], ⟨b, rfl⟩, rfl, .one (.b _) rfl⟩
    · cases hT
  | .str, n, t, cs, x, hT, h => by
    simp only [TT.isAt] at hT
    split at hT
    · rename_i hu
      obtain ⟨s, rfl, _, hs⟩ := DataW.trod_string hu h
      exact ⟨[.s s], ⟨s, rfl, hs⟩, rfl, .one (.s _) rfl⟩
    · cases hT
  | .sl sz e, n, t, cs, x, hT, h => by
    simp only [TT.isAt] at hT
    split at hT
    · rename_i et hu
      simp only [Bool.and_eq_true, beq_iff_eq, decide_eq_true_eq] at hT
      obtain ⟨⟨⟨hc, hz⟩, hes⟩, he⟩ := hT
      rcases DataW.trod_slice hu h with ⟨rfl, _⟩ | ⟨a, len, cap, elems, rest, m, _, rfl, _, _, hlc, hm, hlen, hel, _, _⟩
      · exact ⟨[.sl .fro sz []], ⟨[], rfl, by simp, by simp⟩, rfl, .one (.sl0 sz) rfl⟩
      · have each : ∀ i, i < len → ∃ avs : List AV, e.fit avs ∧ avs.length = sz ∧ ∀ (j : Nat) c, avs[j]? = some c → ∃ u, w.cell? ((a.add (i * sz)).add j) = some u ∧ DatC (fun b => b < w.heap.size) w c u := by
          intro i hi
          have h1 := hel i hi
          rw [hc, List.getElem?_eq_getElem (by omega)] at h1
          obtain ⟨cs', h2, h3⟩ := Option.bind_eq_some_iff.1 h1
          obtain ⟨avs, g1, g2, g3, g4⟩ := trod_dat e m et cs' _ he h3
          refine ⟨avs, g1, by rw [g2, hes], fun j c hj => ?_⟩
          obtain ⟨u, hu1, hd⟩ := g4 j c hj
          have hjl := (List.getElem?_eq_some_iff.1 hj).1
          exact ⟨u, by rw [(World.cells?_some h2).2.2 j (by omega)]; exact hu1, hd⟩
        obtain ⟨xs, hxl, hxs⟩ : ∃ xs : List (List AV), xs.length = len ∧ ∀ (i : Nat) x, xs[i]? = some x → e.fit x ∧ x.length = sz ∧ ∀ (j : Nat) c, x[j]? = some c → ∃ u, w.cell? ((a.add (i * sz)).add j) = some u ∧ DatC (fun b => b < w.heap.size) w c u := by
          refine ⟨(List.range len).map fun i => if hi : i < len then Classical.choose (each i hi) else [], by simp, fun i x hx => ?_⟩
          rw [List.getElem?_map] at hx
          obtain ⟨i', hi', rfl⟩ := Option.map_eq_some_iff.1 hx
          obtain ⟨hl, hi2⟩ := List.getElem?_eq_some_iff.1 hi'
          simp at hl hi2
          subst hi2
          rw [dif_pos hl]
          exact Classical.choose_spec (each i hl)
        have hfit : ∀ x ∈ xs, e.fit x := fun x hx => by
          obtain ⟨i, hi⟩ := List.mem_iff_getElem?.1 hx
          exact (hxs i x hi).1
        refine ⟨[.sl .fro sz xs], ⟨xs, rfl, by omega, hfit⟩, rfl, .one ?_ rfl⟩
        rcases Nat.eq_zero_or_pos len with h0 | h0
        · have : xs = [] := List.eq_nil_of_length_eq_zero (by omega)
          subst this
          rw [h0]
          exact .sl1 sz a cap
        · obtain ⟨g1, g2, g3⟩ := hxs 0 _ (List.getElem?_eq_getElem (by omega))
          obtain ⟨u, hu1, _⟩ := g3 0 _ (List.getElem?_eq_getElem (by omega))
          have haa : (a.add (0 * sz)).add 0 = a := by simp [Addr.add]
          rw [haa] at hu1
          have hsp := cell_spot hu1
          have hlt := cell_lt' hu1
          obtain ⟨bk, off, sp⟩ := a
          simp only at hsp hlt
          subst hsp
          rw [← hxl]
          have hl : ∀ x ∈ xs, x.length = sz := fun x hx => by
            obtain ⟨i, hi⟩ := List.mem_iff_getElem?.1 hx
            exact (hxs i x hi).2.1
          have hcell : ∀ (k : Nat) c, xs.flatten[k]? = some c → ∃ u, w.cell? ⟨bk, off + k, none⟩ = some u ∧ DatC (fun b => b < w.heap.size) w c u := by
            intro k c hk
            have hfl := flatten_length hl
            have hk1 := (List.getElem?_eq_some_iff.1 hk).1
            have hdiv : k / sz < xs.length := by rw [Nat.div_lt_iff_lt_mul hz]; omega
            have hmod : k % sz < sz := Nat.mod_lt _ hz
            have hx := List.getElem?_eq_getElem hdiv
            obtain ⟨_, q2, q3⟩ := hxs _ _ hx
            have hj : (xs[k / sz])[k % sz]? = some ((xs[k / sz])[k % sz]'(by omega)) := List.getElem?_eq_getElem (by omega)
            have e1 := flat_get hl (k / sz) (k % sz) _ _ hx hj
            rw [show k / sz * sz + k % sz = k by rw [Nat.mul_comm]; exact Nat.div_add_mod k sz, hk] at e1
            obtain rfl := Option.some.inj e1
            obtain ⟨u, hu2, hd⟩ := q3 _ _ hj
            refine ⟨u, ?_, hd⟩
            rw [add_none, add_none, Nat.add_assoc, show k / sz * sz + k % sz = k by rw [Nat.mul_comm]; exact Nat.div_add_mod k sz] at hu2
            exact hu2
          refine .sl sz xs bk off cap (fun k => (w.cell? ⟨bk, off + k, none⟩).getD undef) hlt (by omega) hl (fun k c hk => ?_) (fun k c hk => ?_) (fun k c hk => ?_)
          · obtain ⟨u, hu2, hd⟩ := hcell k c hk
            simp [hu2]
          · obtain ⟨u, hu2, hd⟩ := hcell k c hk
            simpa [hu2] using hd.2
          · obtain ⟨u, hu2, hd⟩ := hcell k c hk
            simpa [hu2] using hd.1
    · cases hT
  | .st fs, n, t, cs, x, hT, h => by
    simp only [TT.isAt] at hT
    split at hT
    · rename_i fl hu
      simp only [Bool.and_eq_true, beq_iff_eq] at hT
      obtain ⟨xs, m, _, _, hlen, hxl, hf⟩ := DataW.trod_struct hu h
      obtain ⟨avs, g1, g2, g3⟩ := trod_datL fs m fl.toList 0 cs hT.2 (fun i f hi => by
        rw [Array.getElem?_toList] at hi
        rw [hf i f hi]
        exact ⟨_, List.getElem?_eq_getElem (by rw [hxl]; exact (Array.getElem?_eq_some_iff.1 hi).1)⟩) (by omega)
      refine ⟨avs, g1, g2, ?_, fun k c hk => ?_⟩
      · rw [g2, hlen, hT.1]
      · obtain ⟨u, hu1, hd⟩ := g3 k c hk
        exact ⟨u, by simpa using hu1, hd⟩
    · cases hT
theorem trod_datL : ∀ (fs : List TT) (n : Nat) (fl : List Field) (off : Nat) (cs : List Value), TT.isL P fs fl off = true →
    (∀ (i : Nat) f, fl[i]? = some f → ∃ x, DataW.trod enc P w 0 (fun _ => true) held n f.type ((cs.drop f.offset).take (P.cellsOf f.type)) = some x) → off + TT.sizeL fs ≤ cs.length →
    ∃ avs, TT.fitL fs avs ∧ avs.length = TT.sizeL fs ∧ ∀ (k : Nat) c, avs[k]? = some c → ∃ u, cs[off + k]? = some u ∧ DatC (fun b => b < w.heap.size) w c u
  | [], n, fl, off, cs, _, _, _ => ⟨[], rfl, rfl, by simp⟩
  | f :: fs, n, [], off, cs, hT, _, _ => by simp [TT.isL] at hT
  | f :: fs, n, d :: ds, off, cs, hT, h, hl => by
    simp only [TT.isL, Bool.and_eq_true, beq_iff_eq] at hT
    obtain ⟨⟨⟨h1, h2⟩, h3⟩, h4⟩ := hT
    simp only [TT.sizeL] at hl
    obtain ⟨x, hx⟩ := h 0 d rfl
    obtain ⟨a, a1, a2, a3, a4⟩ := trod_dat f n d.type _ x h3 hx
    obtain ⟨b, b1, b2, b3⟩ := trod_datL fs n ds (off + f.size) cs h4 (fun i g hi => h (i + 1) g (by simpa using hi)) (by omega)
    refine ⟨a ++ b, ⟨a, b, rfl, a1, b1⟩, by simp [TT.sizeL, a2, b2], fun k c hk => ?_⟩
    by_cases hlt : k < a.length
    · rw [List.getElem?_append_left hlt] at hk
      obtain ⟨u, hu, hd⟩ := a4 k c hk
      rw [List.getElem?_take, if_pos (by omega), List.getElem?_drop, h1] at hu
      exact ⟨u, hu, hd⟩
    · rw [List.getElem?_append_right (by omega)] at hk
      obtain ⟨u, hu, hd⟩ := b3 _ c hk
      exact ⟨u, by rw [← hu]; congr 1; omega, hd⟩
end
end
end Go.AM
namespace Go.AM
open Go.RowKit Go.WideShapes

/-- A law that holds over data, called. -/
theorem Pure.calls {P : Program} {f : Nat} {args : List AV} {b : Bool} (h : Pure P f args (.b b)) {w : World} {vs : Array Value} (hl : args.length = vs.size) (hv : ∀ (k : Nat) c, args[k]? = some c → Dat (fun b => b < w.heap.size) w c (vs.getD k undef)) :
    Calls P f vs w fun e w' => e = .returned (.bool b) ∧ Below w.heap.size w w' := by
  refine (h.2 w (fun _ => 0) (fun _ => none) (fun bk => bk < w.heap.size) vs (rel_empty _ _ _ fun _ h => h) (by simp) hl (fun k c hk => (hv k c hk).val (E := ⟨w, fun _ => 0, fun _ => none, fun bk => bk < w.heap.size, St.ofBoxes [], #[]⟩) _)).mono ?_
  rintro e w' ⟨v, E', rfl, rfl, I, _, _, hr⟩
  refine ⟨by cases hr; rfl, I.fr.os, I.fr.tape, I.fr.output, I.fr.size, fun k hk => I.fr.block k hk (by simp)⟩

def TT.wrap : TT → List AV → AV
  | .st _, avs => .agg avs
  | _, avs => avs.getD 0 .any

theorem arg_dat {H : Type} {enc : TypeId × Value → H} {P : Program} {w : World} {held : Bool} {r : Reach} {b0 : Nat} {t : TypeId} {v : Value} {d : DataW H} {p : List MemPlace} (T : TT) (hT : T.isAt P t = true) (hval : Value.okWide P w r b0 t v)
    (h : DataW.Trod enc P w 0 (fun _ => true) held t v d p) : ∃ avs, T.fit avs ∧ Dat (fun b => b < w.heap.size) w (T.wrap avs) v := by
  obtain ⟨n, hn⟩ := h
  obtain ⟨avs, h1, h2, h3⟩ := trod_dat T n t _ _ hT hn
  refine ⟨avs, h1, ?_⟩
  have one : v.cells.toList = [v] → avs.length = 1 → Dat (fun b => b < w.heap.size) w (avs.getD 0 .any) v := by
    intro hc hl
    match avs, hl with
    | [c], _ =>
      obtain ⟨u, hu, hd⟩ := h3.2 0 c rfl
      rw [hc] at hu
      obtain rfl := Option.some.inj hu
      exact hd.1
  cases T with
  | int k =>
    simp only [TT.isAt] at hT
    split at hT
    · rename_i k' hu
      obtain ⟨n, rfl⟩ := okWide_int hu hval
      exact one rfl h2
    · cases hT
  | bool =>
    simp only [TT.isAt] at hT
    split at hT
    · rename_i hu
      obtain ⟨n, rfl⟩ := okWide_bool hu hval
      exact one rfl h2
    · cases hT
  | str =>
    simp only [TT.isAt] at hT
    split at hT
    · rename_i hu
      obtain ⟨n, rfl⟩ := okWide_string hu hval
      exact one rfl h2
    · cases hT
  | sl sz e =>
    simp only [TT.isAt] at hT
    split at hT
    · rename_i et hu
      obtain ⟨a, len, cap, rfl⟩ := okWide_slice hu hval
      exact one rfl h2
    · cases hT
  | st fs =>
    simp only [TT.isAt] at hT
    split at hT
    · rename_i fl hu
      simp only [Value.okWide, hu] at hval
      obtain ⟨cs, rfl, _, _⟩ := hval
      refine .agg _ cs (by rw [h3.1]; simp [Value.cells]) fun k c hk => ?_
      obtain ⟨u, hu, hd⟩ := h3.2 k c hk
      simp only [Value.cells, Array.getElem?_toList] at hu
      rw [Array.getD_eq_getD_getElem?, hu]
      exact hd.1
    · cases hT

theorem list_of {α : Type} {g : α → List AV} : ∀ {xs : List (List AV)}, (∀ x ∈ xs, ∃ a, x = g a) → ∃ l : List α, xs = l.map g
  | [], _ => ⟨[], rfl⟩
  | x :: xs, h => by
    obtain ⟨a, rfl⟩ := h x (by simp)
    obtain ⟨l, rfl⟩ := list_of (xs := xs) fun y hy => h y (by simp [hy])
    exact ⟨a :: l, rfl⟩
end Go.AM
