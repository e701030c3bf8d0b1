/- Part of a proof: contracts of functions of the given program, by abstract states. -/
import Derived.Test.YtlilmkblggifaaaAmF
import Derived.Test.YtlilmkblggifaaaAmD
namespace Go.AM
open Go.Proofs

set_option maxRecDepth 8000 in
theorem c18n (m : Msg) : Pure Try.prog 18 [.nil, .agg (msgAV m)] (.i .i64 1) := by
  refine proc_of (cxb Try.prog 48 0 [0, 3, 4, 5, 30] [4] [4]) 46 [.tmp 4] Try.func18 rfl rfl rfl rfl rfl rfl (Nat.le_refl _) rfl ?_
  refine AWp.go [0, 3] [3] fun K hK => ?_
  simp [msgAV]
  refine hK _ _ (AWp.seq (AWp.block (AWp.seq ?_)))
  clear hK K
  refine AWp.go [0, 3, 5] [3] fun K hK => ?_
  simp
  refine hK _ _ ?_
  clear hK K
  refine AWp.cond (t := true) (by simp) (fun _ => AWp.skip ?_) (by simp)
  show AWp _ _ _ _
  refine AWp.cond (t := true) (by simp) (fun _ => ?_) (by simp)
  refine AWp.go [0, 4] [] fun K hK => ?_
  simp
  refine hK _ _ (AWp.ret ?_)
  simp

theorem c19n (n : Int) : Pure Try.prog 19 [.nil, .i .i64 n] (.i .i64 3) := by
  refine proc_of (cxb Try.prog 18 0 [0, 1, 4, 8] [] [4]) 16 [.tmp 4] Try.func19 rfl rfl rfl rfl rfl rfl (Nat.le_refl _) rfl ?_
  refine AWp.go [0, 1] [] fun K hK => ?_
  simp
  refine hK _ _ (AWp.seq ?_)
  clear hK K
  refine AWp.go [0, 1, 8] [] fun K hK => ?_
  simp
  refine call_pure (c72n n) (by simp) ?_
  simp
  refine hK _ _ ?_
  clear hK K
  refine AWp.cond (t := true) (by simp) (fun _ => ?_) (by simp)
  refine AWp.go [4] [] fun K hK => ?_
  simp
  refine hK _ _ (AWp.ret ?_)
  simp

theorem c21n (n : Int) : Pure Try.prog 21 [.nil, .i .i64 n] (.i .i64 3) := by
  refine proc_of (cxb Try.prog 21 0 [0, 1, 4, 8] [] [4]) 19 [.tmp 4] Try.func21 rfl rfl rfl rfl rfl rfl (Nat.le_refl _) rfl ?_
  refine AWp.go [0, 1] [] fun K hK => ?_
  simp
  refine hK _ _ (AWp.seq ?_)
  clear hK K
  refine AWp.go [0, 1, 8] [] fun K hK => ?_
  simp
  refine call_pure (c72n n) (by simp) ?_
  simp
  refine hK _ _ ?_
  clear hK K
  refine AWp.cond (t := true) (by simp) (fun _ => ?_) (by simp)
  refine AWp.go [4] [] fun K hK => ?_
  simp
  refine hK _ _ (AWp.ret ?_)
  simp

theorem c22n (n : Int) : Pure Try.prog 22 [.nil, .i .i64 n] (.tup [.agg [.i .i64 0, .i .i64 0, .sl .fro 1 []], .i .i64 3]) := by
  refine proc_of (cxb Try.prog 24 0 [0, 1, 4, 5, 6, 10] [4, 6] [4, 5]) 22 [.cell 4 32, .tmp 5] Try.func22 rfl rfl rfl rfl rfl rfl (Nat.le_refl _) rfl ?_
  refine AWp.go [0, 1, 4] [4] fun K hK => ?_
  simp
  refine hK _ _ (AWp.seq ?_)
  clear hK K
  refine AWp.go [0, 1, 4, 10] [4] fun K hK => ?_
  simp
  refine call_pure (c72n n) (by simp) ?_
  simp
  refine hK _ _ ?_
  clear hK K
  refine AWp.cond (t := true) (by simp) (fun _ => ?_) (by simp)
  refine AWp.go [4, 5] [4] fun K hK => ?_
  simp
  refine hK _ _ (AWp.ret ?_)
  simp

theorem c15n (t : Int) : Pure Try.prog 15 [.nil, .i .i64 t] (.sl .own 1 []) := by
  refine proc_of (cxb Try.prog 26 0 [0, 1, 5, 6, 7, 9, 10, 11, 12, 19] [7] [4]) 24 [.tmp 4] Try.func15 rfl rfl rfl rfl rfl rfl (Nat.le_refl _) rfl ?_
  refine AWp.go [0, 1] [] fun K hK => ?_
  simp
  refine hK _ _ ?_
  refine AWp.go [0, 1, 5] [] fun K hK => ?_
  simp
  refine hK _ _ (AWp.seq ?_)
  clear hK K
  refine AWp.go [1, 5, 9, 10, 11] [] fun K hK => ?_
  simp
  refine call_pure c17n (by simp) ?_
  simp
  refine hK _ _ ?_
  clear hK K
  refine AWp.block (AWp.while (fun _ : Nat => [(1, .i .i64 t), (5, .sl .own 1 []), (9, .sl .own 3 []), (10, .i .i64 0), (11, .i .i64 0)]) (fun _ => []) (fun _ => True) (fun _ => 0) [1, 5, 9, 10, 11] [] 0 trivial (by simp) ?_)
  intro i _
  refine AWp.go [1, 5, 9, 10, 11, 12] [] fun K hK => ?_
  simp
  refine hK _ _ ?_
  clear hK K
  refine AWp.seq (AWp.cond (t := false) (by simp) (by simp) (fun _ => AWp.exit ?_))
  show AWp _ _ _ _
  refine AWp.go [4] [] fun K hK => ?_
  simp
  refine hK _ _ (AWp.ret ?_)
  simp

theorem c20n : Pure Try.prog 20 [.nil] .nil := by
  refine proc_of (cxb Try.prog 13 0 [0, 2, 4] [] [2]) 12 [.tmp 2] Try.func20 rfl rfl rfl rfl rfl rfl (Nat.le_refl _) rfl ?_
  refine AWp.go [0] [] fun K hK => ?_
  simp
  refine hK _ _ (AWp.seq ?_)
  clear hK K
  refine AWp.go [0, 4] [] fun K hK => ?_
  simp
  refine hK _ _ ?_
  clear hK K
  refine AWp.cond (t := true) (by simp) (fun _ => ?_) (by simp)
  refine AWp.go [2] [] fun K hK => ?_
  simp
  refine hK _ _ (AWp.ret ?_)
  simp

set_option maxRecDepth 8000 in
theorem c20 (l : List Msg) (b : Bool) (hl : l.length ≤ 1000000) (hb : ∀ m ∈ l, m.body.length ≤ 140737488355328) : Proc Try.prog 1 20 [.ptr 0 0] [(0, [.sl .own 3 (msgsAV l), .b b])] (.ptr 13 0) [(0, [.sl .own 3 (msgsAV l), .b b]), (13, [.sl .own 3 (msgsAV l), .b b])] := by
  refine proc_of (cxb Try.prog 13 1 [0, 2, 4] [] [2]) 12 [.tmp 2] Try.func20 rfl rfl rfl rfl rfl rfl (Nat.le_refl _) rfl ?_
  refine AWp.go [0] [0] fun K hK => ?_
  simp
  refine hK _ _ (AWp.seq ?_)
  clear hK K
  refine AWp.go [0, 4] [0] fun K hK => ?_
  simp
  refine hK _ _ ?_
  clear hK K
  refine AWp.cond (t := false) (by simp) (by simp) (fun _ => AWp.skip ?_)
  show AWp _ _ _ _
  refine AWp.stepT (.take 0 (.take 2 (.take 3 (.take 4 (.alt 1 (.alt 5 (.alt 6 (.alt 7 (.take 8 .fin) .stop) .stop) .stop) (.alt 5 (.alt 1 (.alt 6 (.alt 7 (.take 8 .fin) .stop) .stop) .stop) .stop)))))) [2] [0, 13] [(2, .ptr 13 0)] [(0, [.sl .own 3 (msgsAV l), .b b]), (13, [.sl .own 3 (msgsAV l), .b b])] mix (by kernel_rfl) ?_ ?_
  focus
    refine atree.tk fun K1 h1 => ?_
    simp
    refine h1 _ _ ?_
    clear h1 K1
    refine atree.tk fun K1 h1 => ?_
    simp
    refine h1 _ _ ?_
    clear h1 K1
    refine atree.tk fun K1 h1 => ?_
    simp
    refine h1 _ _ ?_
    clear h1 K1
    refine atree.tk fun K1 h1 => ?_
    simp
    refine h1 _ _ ?_
    clear h1 K1
    refine atree.al (fun K1 h1 => ?_) ?_
    · simp
      refine call_proc [(0, 0)] none (c17 l b hl hb) (by simp) (by simp) ?_
      simp
      refine h1 _ _ ?_
      clear h1 K1
      refine atree.a1 fun K1 h1 => ?_
      simp
      refine h1 _ _ ?_
      clear h1 K1
      refine atree.a1 fun K1 h1 => ?_
      simp
      refine h1 _ _ ?_
      clear h1 K1
      refine atree.a1 fun K1 h1 => ?_
      simp
      refine h1 _ _ ?_
      clear h1 K1
      refine atree.tk fun K1 h1 => ?_
      simp
      refine h1 _ _ ?_
      clear h1 K1
      simp
    · refine atree.a1 fun K1 h1 => ?_
      simp
      refine h1 _ _ ?_
      clear h1 K1
      refine atree.a1 fun K1 h1 => ?_
      simp
      refine call_proc [(0, 0)] none (c17 l b hl hb) (by simp) (by simp) ?_
      simp
      refine h1 _ _ ?_
      clear h1 K1
      refine atree.a1 fun K1 h1 => ?_
      simp
      refine h1 _ _ ?_
      clear h1 K1
      refine atree.a1 fun K1 h1 => ?_
      simp
      refine h1 _ _ ?_
      clear h1 K1
      refine atree.tk fun K1 h1 => ?_
      simp
      refine h1 _ _ ?_
      clear h1 K1
      simp
  refine AWp.ret ?_
  simp
  intro id cs h
  by_cases h0 : id = 0
  · simp [h0] at h ⊢; subst h; simp
  · by_cases h13 : id = 13
    · simp [h13] at h ⊢; subst h; simp
    · simp [h0, h13] at h
end Go.AM
namespace Go.AM
open Go.Proofs

def m1 : Msg := ⟨1, 2, []⟩
theorem m1_may : mayB m1 = true := by decide
theorem msgsAV_rep (n : Nat) : msgsAV (List.replicate n m1) = List.replicate n (msgAV m1) := by simp [msgsAV]
theorem m1_body (n : Nat) : ∀ m ∈ List.replicate n m1, m.body.length ≤ 140737488355328 := by
  intro m h
  rw [List.eq_of_mem_replicate h]
  decide

theorem rep_copy (i : Nat) (h1 : 1 ≤ i) (h2 : i < 200) : copyE true (List.replicate i m1) ((i : Int) - 1) = 0 ∧ copyL true (List.replicate i m1) ((i : Int) - 1) = List.replicate (i + 1) m1 := by
  have hin : 0 ≤ (i : Int) - 1 ∧ (i : Int) - 1 < (List.replicate i m1).length := by simp; omega
  have hg : (List.replicate i m1).getD ((i : Int) - 1).toNat default = m1 := by
    rw [List.getD_eq_getElem?_getD, List.getElem?_replicate, if_pos (by omega)]
    rfl
  constructor
  · rw [copyE, if_pos hin, hg]
    simp [sendE, m1_may]
    omega
  · rw [copyL, if_pos hin, hg]
    simp [sendL, m1_may, h2, List.replicate_succ']

theorem rep_lose : loseL (List.replicate 200 m1) 5 = List.replicate 199 m1 := by
  have h : (0 : Int) ≤ 5 ∧ (5 : Int) < (List.replicate 200 m1).length := by rw [List.length_replicate]; decide
  rw [loseL, if_pos h, List.take_replicate, List.drop_replicate, List.replicate_append_replicate]
  rfl

set_option maxHeartbeats 4000000 in
set_option maxRecDepth 16000 in
theorem c4 (n : Int) (hn0 : 0 ≤ n) : Pure Try.prog 4 [.i .u8 n] (.b true) := by
  refine proc_of (cx Try.prog 110 [0, 2, 3, 4, 5, 6, 7, 8, 9, 10, 11, 17, 19, 26, 33, 44, 48, 52, 96] [2]) 109 [.tmp 2] Try.func4 rfl rfl rfl rfl rfl rfl (Nat.le_refl _) rfl ?_
  refine AWp.go [0] [] fun K hK => ?_
  simp
  refine hK _ _ ?_
  clear hK K
  refine AWp.go [0, 3] [12] fun K hK => ?_
  simp
  refine call_proc [] (some (2, 12)) c13 (by simp) (by simp) ?_
  simp
  refine hK _ _ ?_
  clear hK K
  refine AWp.step [0, 3, 4] [12, 4] [(0, .i .u8 n), (3, .ptr 12 0), (4, .ptr 4 0)] [(12, [.sl .own 3 [], .b true]), (4, [.i .i64 1, .i .i64 2, .sl .fro 1 []])] (by simp) ?_
  refine AWp.seq ?_
  refine AWp.go [0, 3, 4, 17] [12, 4] fun K hK => ?_
  simp
  refine call_proc [(0, 12)] none (c18 [] true m1 (by simp) (by decide)) (by simp [msgAV, m1, bytesAV]) (by simp) ?_
  simp [msgsAV]
  rw [show sendE true [] m1 = 0 by decide, show sendL true [] m1 = List.replicate 1 m1 by decide]
  simp
  refine hK _ _ ?_
  clear hK K
  refine AWp.cond (t := false) (by simp) (by simp) (fun _ => AWp.skip ?_)
  show AWp _ _ _ _
  refine AWp.seq ?_
  refine AWp.go [0, 3, 4, 5] [12, 4] fun K hK => ?_
  simp
  refine hK _ _ ?_
  clear hK K
  refine AWp.block (AWp.while (fun i : Nat => [(0, .i .u8 n), (3, .ptr 12 0), (4, .ptr 4 0), (5, .i .i64 i)]) (fun i => [(12, [.sl .own 3 (msgsAV (List.replicate i m1)), .b true]), (4, [.i .i64 1, .i .i64 2, .sl .fro 1 []])]) (fun i => 1 ≤ i ∧ i ≤ 200) (fun i => 200 - i) [0, 3, 4, 5] [12, 4] 1 (by simp) (by simp [msgsAV]) ?_)
  rintro i ⟨hi1, hi2⟩
  refine AWp.seq ?_
  refine AWp.go [0, 3, 4, 5, 19] [12, 4] fun K hK => ?_
  simp
  refine hK _ _ ?_
  clear hK K
  by_cases h : i < 200
  · obtain ⟨q1, q2⟩ := rep_copy i hi1 h
    refine AWp.cond (t := true) (by simp; omega) (fun _ => AWp.skip ?_) (by simp)
    show AWp _ _ _ _
    refine AWp.seq (AWp.block ?_)
    refine AWp.go [0, 3, 4, 5, 26] [12, 4] fun K hK => ?_
    simp
    refine call_proc [(0, 12)] none (c19 (List.replicate i m1) true ((i : Int) - 1) (by simp; omega) (m1_body i)) (by simp [wrap64 (show -9223372036854775808 ≤ (i : Int) - 1 by omega) (by omega)]) (by simp) ?_
    simp [q1, q2]
    refine hK _ _ ?_
    clear hK K
    refine AWp.cond (t := false) (by simp) (by simp) (fun _ => AWp.skip ?_)
    show AWp _ _ _ _
    refine AWp.goLast [0, 3, 4, 5] [12, 4] fun K hK => ?_
    simp
    refine hK _ _ ?_
    refine ⟨i + 1, ⟨by omega, by omega⟩, by omega, ?_⟩
    simp [wrap64 (show -9223372036854775808 ≤ (i : Int) + 1 by omega) (by omega)]
  refine AWp.cond (t := false) (by simp; omega) (by simp) (fun _ => AWp.exit ?_)
  have hi : i = 200 := by omega
  subst hi
  show AWp _ _ _ _
  generalize hL : List.replicate 200 m1 = L
  have hLl : L.length = 200 := by rw [← hL]; simp
  have hLb : ∀ m ∈ L, m.body.length ≤ 140737488355328 := by rw [← hL]; exact m1_body 200
  refine AWp.go [0, 3, 4, 6] [12, 4, 28] fun K hK => ?_
  simp
  refine call_proc [(0, 12)] (some (13, 28)) (c20 L true (by omega) hLb) (by simp) (by simp) ?_
  simp
  refine hK _ _ (AWp.seq ?_)
  clear hK K
  refine AWp.go [0, 3, 4, 6, 7] [12, 4, 28] fun K hK => ?_
  simp
  refine hK _ _ ?_
  clear hK K
  refine AWp.block (AWp.while (fun i : Nat => [(0, .i .u8 n), (3, .ptr 12 0), (4, .ptr 4 0), (6, .ptr 28 0), (7, .i .i64 i)]) (fun i => [(12, [.sl .own 3 (msgsAV L), .b true]), (4, [.i .i64 1, .i .i64 2, .sl .fro 1 []]), (28, [.sl .own 3 (msgsAV L), .b true])]) (fun i => i ≤ 4) (fun i => 4 - i) [0, 3, 4, 6, 7] [12, 4, 28] 0 (by simp) (by simp) ?_)
  intro i hi
  refine AWp.seq ?_
  refine AWp.go [0, 3, 4, 6, 7, 33] [12, 4, 28] fun K hK => ?_
  simp
  refine hK _ _ ?_
  clear hK K
  have hB : ∃ B : Nat, B ≤ 3 ∧ IntKind.i64.wrap (n.tmod 4) = B := by
    refine ⟨(n.tmod 4).toNat, ?_, ?_⟩
    · rw [Int.tmod_eq_emod_of_nonneg hn0]; omega
    · rw [Int.tmod_eq_emod_of_nonneg hn0, wrap64 (by omega) (by omega)]; omega
  obtain ⟨B, hB3, hBw⟩ := hB
  rw [hBw]
  have hrep : copyE true L 0 = 6 ∧ copyL true L 0 = L ∧ sendE true L m1 = 6 ∧ sendL true L m1 = L := by
    have hg : L.getD 0 default = m1 := by rw [← hL]; rfl
    have hin : (0 : Int) ≤ 0 ∧ (0 : Int) < L.length := by omega
    have e1 : sendE true L m1 = 6 := by simp [sendE, m1_may, hLl]
    have e2 : sendL true L m1 = L := by simp [sendL, m1_may, hLl]
    refine ⟨?_, ?_, e1, e2⟩
    · rw [copyE, if_pos hin]; exact (congrArg (sendE true L) hg).trans e1
    · rw [copyL, if_pos hin]; exact (congrArg (sendL true L) hg).trans e2
  obtain ⟨r1, r2, r3, r4⟩ := hrep
  by_cases h : i < B
  · refine AWp.cond (t := true) (by simp; omega) (fun _ => AWp.skip ?_) (by simp)
    show AWp _ _ _ _
    refine AWp.seq (AWp.block ?_)
    refine AWp.go [0, 3, 4, 6, 7, 44] [12, 4, 28] fun K hK => ?_
    simp
    refine call_proc [(0, 12)] none (c18 L true m1 (by omega) (by decide)) (by simp [msgAV, m1, bytesAV]) (by simp) ?_
    simp [r3, r4]
    refine call_proc [(0, 12)] none (c19 L true 0 (by omega) hLb) (by simp) (by simp) ?_
    simp [r1, r2]
    refine hK _ _ ?_
    clear hK K
    refine AWp.cond (t := false) (by simp) (by simp) (fun _ => AWp.skip ?_)
    show AWp _ _ _ _
    refine AWp.goLast [0, 3, 4, 6, 7] [12, 4, 28] fun K hK => ?_
    simp
    refine hK _ _ ?_
    refine ⟨i + 1, by omega, by omega, ?_⟩
    simp [wrap64 (show -9223372036854775808 ≤ (i : Int) + 1 by omega) (by omega)]
  refine AWp.cond (t := false) (by simp; omega) (by simp) (fun _ => AWp.exit ?_)
  show AWp _ _ _ _
  refine AWp.go [3, 4, 6] [12, 4, 28] fun K hK => ?_
  simp
  refine call_proc [(0, 12)] none (c21 L true 5 (by omega)) (by simp) (by simp) ?_
  simp
  rw [← hL, rep_lose, hL]
  generalize hM : List.replicate 199 m1 = M
  have hMl : M.length = 199 := by rw [← hM]; simp
  have hMb : ∀ m ∈ M, m.body.length ≤ 140737488355328 := by rw [← hM]; exact m1_body 199
  refine hK _ _ (AWp.seq ?_)
  clear hK K
  refine AWp.go [3, 4, 6, 8] [12, 4, 28] fun K hK => ?_
  simp
  refine hK _ _ ?_
  clear hK K
  refine AWp.block (AWp.while (fun i : Nat => [(3, .ptr 12 0), (4, .ptr 4 0), (6, .ptr 28 0), (8, .i .i64 i)]) (fun i => [(12, [.sl .own 3 (msgsAV M), .b true]), (4, [.i .i64 1, .i .i64 2, .sl .fro 1 []]), (28, [.sl .own 3 (msgsAV L), .b true])]) (fun i => i ≤ 2) (fun i => 2 - i) [3, 4, 6, 8] [12, 4, 28] 0 (by simp) (by simp) ?_)
  clear hi h i
  intro i hi
  refine AWp.seq ?_
  refine AWp.go [3, 4, 6, 8, 48] [12, 4, 28] fun K hK => ?_
  simp
  refine hK _ _ ?_
  clear hK K
  have hi3 : i = 0 ∨ i = 1 ∨ i = 2 := by omega
  rcases hi3 with rfl | rfl | rfl
  · refine AWp.cond (t := true) (by simp) (fun _ => AWp.skip ?_) (by simp)
    show AWp _ _ _ _
    refine AWp.seq (AWp.block ?_)
    refine AWp.go [3, 4, 6, 8, 9] [12, 4, 28] fun K hK => ?_
    simp
    refine hK _ _ ?_
    clear hK K
    refine AWp.mid [3, 4, 6, 8, 9] [12, 4, 28] [(3, .ptr 12 0), (4, .ptr 4 0), (6, .ptr 28 0), (8, .i .i64 0), (9, .nil)] [(12, [.sl .own 3 (msgsAV M), .b true]), (4, [.i .i64 1, .i .i64 2, .sl .fro 1 []]), (28, [.sl .own 3 (msgsAV L), .b true])] ?_ ?_
    · refine AWp.go [3, 4, 6, 8, 9, 52] [12, 4, 28] fun K hK => ?_
      simp
      refine hK _ _ ?_
      clear hK K
      refine AWp.cond (t := false) (by simp) (by simp) (fun _ => AWp.skip ?_)
      simp
    refine AWp.go [3, 4, 6, 8, 9, 11] [12, 4, 28] fun K hK => ?_
    simp
    refine call_pure (c22n 0) (by simp) ?_
    simp
    refine hK _ _ ?_
    clear hK K
    refine AWp.go [3, 4, 6, 8, 96] [12, 4, 28] fun K hK => ?_
    refine aops.part 3 fun K1 h1 => ?_
    simp
    refine call_pure (c18n m1) (by simp [msgAV, m1, bytesAV]) ?_
    simp
    refine h1 _ _ ?_
    clear h1 K1
    refine aops.part 8 fun K1 h1 => ?_
    simp
    refine call_pure (c19n 0) (by simp) ?_
    simp
    refine h1 _ _ ?_
    clear h1 K1
    refine aops.part 5 fun K1 h1 => ?_
    simp
    refine call_pure (c21n 0) (by simp) ?_
    simp
    refine h1 _ _ ?_
    clear h1 K1
    refine aops.part 5 fun K1 h1 => ?_
    simp
    refine call_pure c17n (by simp) ?_
    simp
    refine h1 _ _ ?_
    clear h1 K1
    refine aops.part 6 fun K1 h1 => ?_
    simp
    refine call_pure (c15n 2) (by simp) ?_
    simp
    refine h1 _ _ ?_
    clear h1 K1
    refine aops.part 6 fun K1 h1 => ?_
    simp
    refine call_pure c20n (by simp) ?_
    simp
    refine h1 _ _ ?_
    clear h1 K1
    refine aops.part 1 fun K1 h1 => ?_
    simp
    refine call_pure c17n (by simp) ?_
    simp
    refine h1 _ _ ?_
    clear h1 K1
    simp
    refine hK _ _ ?_
    clear hK K
    refine AWp.cond (t := false) (by simp) (by simp) (fun _ => AWp.skip ?_)
    show AWp _ _ _ _
    refine AWp.goLast [3, 4, 6, 8] [12, 4, 28] fun K hK => ?_
    simp
    refine hK _ _ ?_
    refine ⟨1, by omega, by omega, ?_⟩
    simp [show IntKind.i64.wrap 1 = 1 by decide]
  · refine AWp.cond (t := true) (by simp) (fun _ => AWp.skip ?_) (by simp)
    show AWp _ _ _ _
    refine AWp.seq (AWp.block ?_)
    refine AWp.go [3, 4, 6, 8, 9] [12, 4, 28] fun K hK => ?_
    simp
    refine hK _ _ ?_
    clear hK K
    refine AWp.mid [3, 4, 6, 8, 9] [12, 4, 28, 54] [(3, .ptr 12 0), (4, .ptr 4 0), (6, .ptr 28 0), (8, .i .i64 1), (9, .ptr 54 0)] [(12, [.sl .own 3 (msgsAV M), .b true]), (4, [.i .i64 1, .i .i64 2, .sl .fro 1 []]), (28, [.sl .own 3 (msgsAV L), .b true]), (54, [.sl .own 3 (msgsAV []), .b false])] ?_ ?_
    · refine AWp.go [3, 4, 6, 8, 9, 52] [12, 4, 28] fun K hK => ?_
      simp
      refine hK _ _ ?_
      clear hK K
      refine AWp.cond (t := true) (by simp) (fun _ => ?_) (by simp)
      refine AWp.goLast [3, 4, 6, 8, 9] [12, 4, 28, 54] fun K hK => ?_
      simp
      refine hK _ _ ?_
      simp [msgsAV]
    refine AWp.go [3, 4, 6, 8, 9, 11] [12, 4, 28, 54] fun K hK => ?_
    simp
    refine call_proc [(0, 54)] none (c22 [] false 0 (by simp) (by simp)) (by simp) (by simp) ?_
    simp
    have e1 : sendE false [] m1 = 1 := by decide
    have e2 : sendL false [] m1 = [] := by decide
    have e3 : copyE false [] 0 = 3 := by decide
    have e4 : copyL false [] 0 = [] := by decide
    have e5 : loseE [] 0 = 3 := by decide
    have e6 : loseL [] 0 = [] := by decide
    have e7 : forL [] 2 0 = [] := by decide
    rw [show loseE [] 0 = 3 by decide, show loseL [] 0 = [] by decide]
    refine hK _ _ ?_
    clear hK K
    refine AWp.go [3, 4, 6, 8, 96] [12, 4, 28] fun K hK => ?_
    refine aops.part 3 fun K1 h1 => ?_
    simp
    refine call_proc [(0, 54)] none (c18 [] false m1 (by simp) (by decide)) (by simp [msgAV, m1, bytesAV]) (by simp) ?_
    simp [e1, e2, e3, e4, e5, e6, e7]
    refine h1 _ _ ?_
    clear h1 K1
    refine aops.part 8 fun K1 h1 => ?_
    simp
    refine call_proc [(0, 54)] none (c19 [] false 0 (by simp) (by simp)) (by simp) (by simp) ?_
    simp [e1, e2, e3, e4, e5, e6, e7]
    refine h1 _ _ ?_
    clear h1 K1
    refine aops.part 5 fun K1 h1 => ?_
    simp
    refine call_proc [(0, 54)] none (c21 [] false 0 (by simp)) (by simp) (by simp) ?_
    simp [e1, e2, e3, e4, e5, e6, e7]
    refine h1 _ _ ?_
    clear h1 K1
    refine aops.part 5 fun K1 h1 => ?_
    simp
    refine call_proc [(0, 54)] none (c17 [] false (by simp) (by simp)) (by simp) (by simp) ?_
    simp [e1, e2, e3, e4, e5, e6, e7]
    refine h1 _ _ ?_
    clear h1 K1
    refine aops.part 6 fun K1 h1 => ?_
    simp
    refine call_proc [(0, 54)] none (c15 [] false 2 (by simp) (by simp)) (by simp) (by simp) ?_
    simp [e1, e2, e3, e4, e5, e6, e7]
    refine h1 _ _ ?_
    clear h1 K1
    refine aops.part 6 fun K1 h1 => ?_
    simp
    refine call_proc [(0, 54)] (some (13, 92)) (c20 [] false (by simp) (by simp)) (by simp) (by simp) ?_
    simp [e1, e2, e3, e4, e5, e6, e7]
    refine h1 _ _ ?_
    clear h1 K1
    refine aops.part 1 fun K1 h1 => ?_
    simp
    refine call_proc [(0, 92)] none (c17 [] false (by simp) (by simp)) (by simp) (by simp) ?_
    simp [e1, e2, e3, e4, e5, e6, e7]
    refine h1 _ _ ?_
    clear h1 K1
    simp
    refine hK _ _ ?_
    clear hK K
    refine AWp.cond (t := false) (by simp) (by simp) (fun _ => AWp.skip ?_)
    show AWp _ _ _ _
    refine AWp.goLast [3, 4, 6, 8] [12, 4, 28] fun K hK => ?_
    simp
    refine hK _ _ ?_
    refine ⟨2, by omega, by omega, ?_⟩
    simp [show IntKind.i64.wrap 2 = 2 by decide]
  · refine AWp.cond (t := false) (by simp) (by simp) (fun _ => AWp.exit ?_)
    show AWp _ _ _ _
    refine AWp.go [2] [] fun K hK => ?_
    simp
    refine call_proc [(0, 28)] none (c17 L true (by omega) hLb) (by simp) (by simp) ?_
    simp [hLl]
    refine call_proc [(0, 12)] none (c17 M true (by omega) hMb) (by simp) (by simp) ?_
    simp [hMl]
    refine call_pure c12 (by simp) ?_
    simp
    refine hK _ _ (AWp.ret ?_)
    simp
end Go.AM
