/- Part of a proof: contracts of functions of the given program, by abstract states. -/
import Derived.Test.YtlilmkblggifaaaAmT
import Derived.Test.YtlilmkblggifaaaAmD
namespace Go.AM
open Go.Proofs
abbrev cx (P : Program) (N : Nat) (kept res : List Nat) : Cx := ⟨P, N, kept, [], res, 0⟩

theorem c71 (n : Int) : Pure Try.prog 71 [.i .i64 n] (.b (decide (1 ≤ n) && decide (n ≤ 5))) := by
  refine proc_of (cx Try.prog 9 [0, 2] [2]) 8 [.tmp 2] Try.func71 rfl rfl rfl rfl rfl rfl (Nat.le_refl _) rfl ?_
  refine AWp.go [0] [] fun K hK => ?_
  simp
  refine hK _ _ ?_
  refine AWp.step [2] [] [(2, .b (decide (1 ≤ n) && decide (n ≤ 5)))] [] ?_ ?_
  · by_cases h1 : 1 ≤ n <;> by_cases h2 : n ≤ 5 <;> simp [h1, h2]
  · refine AWp.ret ?_
    simp
end Go.AM
namespace Go.AM
open Go.Proofs

theorem c118 (xs : List (List AV)) (h : xs.length ≤ 140737488355328) : Pure Try.prog 118 [.sl .fro 1 xs] (.sl .own 1 xs) := by
  refine proc_of (cx Try.prog 8 [0, 2, 4] [2]) 7 [.tmp 2] Try.func118 rfl rfl rfl rfl rfl rfl (Nat.le_refl _) rfl ?_
  refine AWp.go [0] [] fun K hK => ?_
  simp
  refine hK _ _ (AWp.seq ?_)
  refine AWp.go [0, 4] [] fun K hK => ?_
  simp
  refine ⟨fun h0 => hK _ _ ?_, hK _ _ ?_⟩
  · refine AWp.cond (t := true) (by simp) (fun _ => ?_) (by simp)
    refine AWp.go [2] [] fun K hK => ?_
    simp
    refine hK _ _ (AWp.ret ?_)
    simp [h0]
  · refine AWp.cond (t := false) (by simp) (by simp) (fun _ => AWp.skip ?_)
    show AWp _ _ _ _
    refine AWp.go [2] [] fun K hK => ?_
    simp
    refine ⟨h, hK _ _ (AWp.ret ?_)⟩
    simp 
end Go.AM
namespace Go.AM
open Go.Proofs

theorem c70 (a b : Int) (xs : List (List AV)) (h : xs.length ≤ 140737488355328) : Pure Try.prog 70 [.agg [.i .i64 a, .i .i64 b, .sl .fro 1 xs]] (.agg [.i .i64 a, .i .i64 b, .sl .own 1 xs]) := by
  refine proc_of (cx Try.prog 8 [0, 1, 2] [2]) 7 [.cell 2 32] Try.func70 rfl rfl rfl rfl rfl rfl (Nat.le_refl _) rfl ?_
  refine AWp.go [1, 2] [1, 2] fun K hK => ?_
  simp
  refine hK _ _ ?_
  refine AWp.go [1, 2] [1, 2] fun K hK => ?_
  simp
  refine call_pure (c118 xs h) (by simp) ?_
  simp
  refine hK _ _ ?_
  refine AWp.go [1, 2] [1, 2] fun K hK => ?_
  simp
  refine hK _ _ (AWp.ret ?_)
  simp

end Go.AM
namespace Go.AM
open Go.Proofs
abbrev cxb (P : Program) (N k : Nat) (kept keptB res : List Nat) : Cx := ⟨P, N, kept, keptB, res, k⟩

theorem c13 : Proc Try.prog 0 13 [] [] (.ptr 2 0) [(2, [.sl .own 3 [], .b true])] := by
  refine proc_of (cxb Try.prog 3 0 [0] [] [0]) 3 [.tmp 0] Try.func13 rfl rfl rfl rfl rfl rfl (Nat.le_refl _) rfl ?_
  refine AWp.go [0] [] fun K hK => ?_
  simp
  refine hK _ _ ?_
  refine AWp.go [0] [2] fun K hK => ?_
  simp
  refine hK _ _ (AWp.ret ?_)
  simp

theorem c72n (n : Int) : Pure Try.prog 72 [.nil, .i .i64 n] (.b false) := by
  refine proc_of (cxb Try.prog 20 0 [0, 1, 4] [] [4]) 18 [.tmp 4] Try.func72 rfl rfl rfl rfl rfl rfl (Nat.le_refl _) rfl ?_
  refine AWp.go [0, 1] [] fun K hK => ?_
  simp
  refine hK _ _ ?_
  refine AWp.go [4] [] fun K hK => ?_
  simp
  refine hK _ _ (AWp.ret ?_)
  simp

theorem c72 (n : Int) (xs : List (List AV)) (b : Bool) : Proc Try.prog 1 72 [.ptr 0 0, .i .i64 n] [(0, [.sl .own 3 xs, .b b])] (.b (decide (0 ≤ n) && decide (n < xs.length))) [(0, [.sl .own 3 xs, .b b])] := by
  refine proc_of (cxb Try.prog 20 1 [0, 1, 4] [] [4]) 18 [.tmp 4] Try.func72 rfl rfl rfl rfl rfl rfl (Nat.le_refl _) rfl ?_
  refine AWp.go [0, 1] [0] fun K hK => ?_
  simp
  refine hK _ _ ?_
  refine AWp.step [4] [0] [(4, .b (decide (0 ≤ n) && decide (n < xs.length)))] [(0, [.sl .own 3 xs, .b b])] ?_ (AWp.ret ?_)
  · by_cases h1 : 0 ≤ n <;> by_cases h2 : n < xs.length <;> simp [h1, h2]
  · simp
end Go.AM
namespace Go.AM
open Go.Proofs

theorem mix : Try.prog.follows .mixedOrders = true := by kernel_rfl

def bytesAV (l : List Int) : List (List AV) := l.map fun n => [.i .u8 n]
@[simp] theorem bytesAV_length (l : List Int) : (bytesAV l).length = l.length := by simp [bytesAV]
@[simp] theorem bytesAV_getElem (l : List Int) (i : Nat) (h : i < (bytesAV l).length) : (bytesAV l)[i] = [.i .u8 (l[i]'(by simpa using h))] := by simp [bytesAV]
theorem bytesAV_get (l : List Int) (i : Nat) (h : i < l.length) : (bytesAV l)[i]? = some [.i .u8 l[i]] := by simp [bytesAV, h]

theorem wrap64 {x : Int} (h1 : -9223372036854775808 ≤ x) (h2 : x < 9223372036854775808) : IntKind.i64.wrap x = x := by
  unfold IntKind.wrap
  simp [IntKind.bits, IntKind.signed]
  omega

theorem c117 (us vs : List Int) (hlen : us.length ≤ 140737488355328) : Pure Try.prog 117 [.sl .fro 1 (bytesAV us), .sl .fro 1 (bytesAV vs)] (.b (decide (us = vs))) := by
  refine proc_of (cx Try.prog 26 [0, 1, 4, 5, 10, 14, 25] [4]) 24 [.tmp 4] Try.func117 rfl rfl rfl rfl rfl rfl (Nat.le_refl _) rfl ?_
  refine AWp.go [0, 1] [] fun K hK => ?_
  simp
  refine hK _ _ (AWp.seq ?_)
  refine AWp.go [0, 1, 10] [] fun K hK => ?_
  simp
  refine hK _ _ ?_
  clear hK
  by_cases hl : us.length = vs.length
  · refine AWp.cond (t := false) (by simp [hl, bytesAV]) (by simp) (fun _ => AWp.skip ?_)
    show AWp _ _ _ _
    refine AWp.seq (AWp.go [0, 1, 5] [] fun K hK => ?_)
    simp
    refine hK _ _ (AWp.block (AWp.while (fun i : Nat => [(0, .sl .fro 1 (bytesAV us)), (1, .sl .fro 1 (bytesAV vs)), (5, .i .i64 i)]) (fun _ => []) (fun i => i ≤ us.length ∧ us.take i = vs.take i) (fun i => us.length - i) [0, 1, 5] [] 0 (by simp) (by simp) ?_))
    clear hK K
    intro i hi
    refine AWp.seq (AWp.seq ?_)
    refine AWp.goLast [0, 1, 5, 14] [] fun K hK => ?_
    simp
    refine hK _ _ ?_
    clear hK K
    have hiv : i < us.length → i < vs.length := fun h => by omega
    by_cases h : i < us.length
    · refine AWp.cond (t := true) (by simp [h]) (fun _ => AWp.skip ?_) (by simp)
      refine AWp.seq (AWp.block ?_)
      refine AWp.goD 9 (fun _ => .any) [0, 1, 5, 25] [] mix (by kernel_rfl) fun K hK => ?_
      simp [h, hiv h]
      refine hK _ _ ?_
      clear hK K
      by_cases he : us[i] = vs[i]'(hiv h)
      · refine AWp.cond (t := false) (by simp [he]) (by simp) (fun _ => AWp.skip ?_)
        show AWp _ _ _ _
        refine AWp.goLast [0, 1, 5] [] fun K hK => ?_
        simp
        refine hK _ _ ?_
        refine ⟨i + 1, ⟨by omega, ?_⟩, by omega, ?_⟩
        · rw [List.take_succ_eq_append_getElem h, List.take_succ_eq_append_getElem (hiv h), hi.2, he]
        · simp
          exact wrap64 (by omega) (by omega)
      · refine AWp.cond (t := true) (by simp [he]) (fun _ => ?_) (by simp)
        refine AWp.go [4] [] fun K hK => ?_
        simp
        refine hK _ _ (AWp.ret ?_)
        simp
        intro hh; subst hh; exact he rfl
    · refine AWp.cond (t := false) (by simp [h]) (by simp) (fun _ => AWp.exit ?_)
      show AWp _ _ _ _
      refine AWp.go [4] [] fun K hK => ?_
      simp
      refine hK _ _ (AWp.ret ?_)
      have hil : i = us.length := by omega
      have := hi.2
      rw [hil, List.take_length, hl, List.take_length] at this
      simp [this]
  · refine AWp.cond (t := true) (by simp [bytesAV]; omega) (fun _ => ?_) (by simp)
    refine AWp.go [4] [] fun K hK => ?_
    simp
    refine hK _ _ (AWp.ret ?_)
    simp
    intro h; subst h; exact hl rfl
end Go.AM
namespace Go.AM
open Go.Proofs

theorem c68 (a b c d : Int) (us vs : List Int) (hl : us.length ≤ 140737488355328) : Pure Try.prog 68 [.agg [.i .i64 a, .i .i64 b, .sl .fro 1 (bytesAV us)], .agg [.i .i64 c, .i .i64 d, .sl .fro 1 (bytesAV vs)]] (.b (decide (a = c) && decide (b = d) && decide (us = vs))) := by
  refine proc_of (cx Try.prog 24 [2, 3, 4] [4]) 22 [.tmp 4] Try.func68 rfl rfl rfl rfl rfl rfl (Nat.le_refl _) rfl ?_
  refine AWp.go [2, 3] [2, 3] fun K hK => ?_
  simp
  refine hK _ _ ?_
  refine AWp.step [4] [] [(4, .b (decide (a = c) && decide (b = d) && decide (us = vs)))] [] ?_ (AWp.ret (by simp))
  by_cases h1 : a = c
  · by_cases h2 : b = d
    · simp [h1, h2]
      refine call_pure (c117 us vs hl) (by simp) ?_
      simp
    · simp [h1, h2]
  · simp [h1]

set_option maxRecDepth 8000 in
theorem c67 (a b : Int) (us : List (List AV)) : Pure Try.prog 67 [.agg [.i .i64 a, .i .i64 b, .sl .fro 1 us]] (.b (decide (1 ≤ a) && decide (a ≤ 5) && decide (1 ≤ b) && decide (b ≤ 5) && decide (a ≠ b) && decide (us.length ≤ 65536))) := by
  refine proc_of (cx Try.prog 34 [1, 2] [2]) 33 [.tmp 2] Try.func67 rfl rfl rfl rfl rfl rfl (Nat.le_refl _) rfl ?_
  refine AWp.go [1] [1] fun K hK => ?_
  simp
  refine hK _ _ ?_
  refine AWp.step [2] [] [(2, .b (decide (1 ≤ a) && decide (a ≤ 5) && decide (1 ≤ b) && decide (b ≤ 5) && decide (a ≠ b) && decide (us.length ≤ 65536)))] [] ?_ (AWp.ret (by simp))
  by_cases h1 : 1 ≤ a
  · by_cases h2 : a ≤ 5
    · by_cases h3 : 1 ≤ b
      · by_cases h4 : b ≤ 5
        · by_cases h5 : a = b
          · subst h5; simp [h1, h2]
          · simp [h1, h2, h3, h4, h5]
            omega
        · simp [h1, h2, h3, h4]
      · simp [h1, h2, h3]
    · simp [h1, h2]
  · simp [h1]
end Go.AM
namespace Go.AM
open Go.Proofs

structure Msg where
  src : Int
  dst : Int
  body : List Int
  deriving DecidableEq

theorem msg_eq (m n : Msg) : decide (m = n) = (decide (m.src = n.src) && decide (m.dst = n.dst) && decide (m.body = n.body)) := by
  cases m; cases n
  simp [Bool.and_assoc]

def msgAV (m : Msg) : List AV := [.i .i64 m.src, .i .i64 m.dst, .sl .fro 1 (bytesAV m.body)]
def msgsAV (l : List Msg) : List (List AV) := l.map msgAV
@[simp] theorem msgsAV_length (l : List Msg) : (msgsAV l).length = l.length := by simp [msgsAV]
@[simp] theorem msgsAV_getElem (l : List Msg) (i : Nat) (h : i < (msgsAV l).length) : (msgsAV l)[i] = [.i .i64 (l[i]'(by simpa using h)).src, .i .i64 (l[i]'(by simpa using h)).dst, .sl .fro 1 (bytesAV (l[i]'(by simpa using h)).body)] := by simp [msgsAV, msgAV]

theorem c16 (us vs : List Msg) (hlen : us.length ≤ 140737488355328) (hb : ∀ m ∈ us, m.body.length ≤ 140737488355328) : Pure Try.prog 16 [.sl .fro 3 (msgsAV us), .sl .fro 3 (msgsAV vs)] (.b (decide (us = vs))) := by
  refine proc_of (cx Try.prog 27 [0, 1, 4, 5, 10, 14, 26] [4]) 25 [.tmp 4] Try.func16 rfl rfl rfl rfl rfl rfl (Nat.le_refl _) rfl ?_
  refine AWp.go [0, 1] [] fun K hK => ?_
  simp
  refine hK _ _ (AWp.seq ?_)
  refine AWp.go [0, 1, 10] [] fun K hK => ?_
  simp
  refine hK _ _ ?_
  clear hK
  by_cases hl : us.length = vs.length
  · refine AWp.cond (t := false) (by simp [hl, msgsAV]) (by simp) (fun _ => AWp.skip ?_)
    show AWp _ _ _ _
    refine AWp.seq (AWp.go [0, 1, 5] [] fun K hK => ?_)
    simp
    refine hK _ _ (AWp.block (AWp.while (fun i : Nat => [(0, .sl .fro 3 (msgsAV us)), (1, .sl .fro 3 (msgsAV vs)), (5, .i .i64 i)]) (fun _ => []) (fun i => i ≤ us.length ∧ us.take i = vs.take i) (fun i => us.length - i) [0, 1, 5] [] 0 (by simp) (by simp) ?_))
    clear hK K
    intro i hi
    refine AWp.seq (AWp.seq ?_)
    refine AWp.goLast [0, 1, 5, 14] [] fun K hK => ?_
    simp
    refine hK _ _ ?_
    clear hK K
    have hiv : i < us.length → i < vs.length := fun h => by omega
    by_cases h : i < us.length
    · refine AWp.cond (t := true) (by simp [h]) (fun _ => AWp.skip ?_) (by simp)
      refine AWp.seq (AWp.block ?_)
      refine AWp.goD 10 (fun _ => .b (decide (us[i] = vs[i]'(hiv h)))) [0, 1, 5, 26] [] mix (by kernel_rfl) fun K hK => ?_
      simp [h, hiv h, AV.scalar]
      refine ⟨?_, hK _ _ ?_⟩
      · have := c68 us[i].src (us[i].dst) (vs[i]'(hiv h)).src (vs[i]'(hiv h)).dst us[i].body (vs[i]'(hiv h)).body (hb _ (List.getElem_mem h))
        rwa [← msg_eq] at this
      clear hK K
      by_cases he : us[i] = vs[i]'(hiv h)
      · refine AWp.cond (t := false) (by simp [he]) (by simp) (fun _ => AWp.skip ?_)
        show AWp _ _ _ _
        refine AWp.goLast [0, 1, 5] [] fun K hK => ?_
        simp
        refine hK _ _ ?_
        refine ⟨i + 1, ⟨by omega, ?_⟩, by omega, ?_⟩
        · rw [List.take_succ_eq_append_getElem h, List.take_succ_eq_append_getElem (hiv h), hi.2, he]
        · simp
          exact wrap64 (by omega) (by omega)
      · refine AWp.cond (t := true) (by simp [he]) (fun _ => ?_) (by simp)
        refine AWp.go [4] [] fun K hK => ?_
        simp
        refine hK _ _ (AWp.ret ?_)
        simp
        intro hh; subst hh; exact he rfl
    · refine AWp.cond (t := false) (by simp [h]) (by simp) (fun _ => AWp.exit ?_)
      show AWp _ _ _ _
      refine AWp.go [4] [] fun K hK => ?_
      simp
      refine hK _ _ (AWp.ret ?_)
      have hil : i = us.length := by omega
      have := hi.2
      rw [hil, List.take_length, hl, List.take_length] at this
      simp [this]
  · refine AWp.cond (t := true) (by simp [msgsAV]; omega) (fun _ => ?_) (by simp)
    refine AWp.go [4] [] fun K hK => ?_
    simp
    refine hK _ _ (AWp.ret ?_)
    simp
    intro h; subst h; exact hl rfl
end Go.AM
namespace Go.AM
open Go.Proofs

set_option maxRecDepth 8000 in
theorem c17 (l : List Msg) (b : Bool) (hl : l.length ≤ 1000000) (hb : ∀ m ∈ l, m.body.length ≤ 140737488355328) : Proc Try.prog 1 17 [.ptr 0 0] [(0, [.sl .own 3 (msgsAV l), .b b])] (.sl .own 3 (msgsAV l)) [(0, [.sl .own 3 (msgsAV l), .b b])] := by
  refine proc_of (cxb Try.prog 24 1 [0, 2, 3, 5, 7, 11, 12, 13, 14] [] [2]) 23 [.tmp 2] Try.func17 rfl rfl rfl rfl rfl rfl (Nat.le_refl _) rfl ?_
  refine AWp.go [0] [0] fun K hK => ?_
  simp
  refine hK _ _ ?_
  refine AWp.go [0, 3] [0] fun K hK => ?_
  simp
  refine hK _ _ (AWp.seq ?_)
  refine AWp.go [0, 3, 7] [0] fun K hK => ?_
  simp
  refine hK _ _ ?_
  clear hK K
  refine AWp.cond (t := true) (by simp) (fun _ => ?_) (by simp)
  refine AWp.go [0, 3, 11, 12, 13] [0] fun K hK => ?_
  simp
  refine hK _ _ ?_
  clear hK K
  refine AWp.block (AWp.while (fun i : Nat => [(0, .ptr 0 0), (3, .sl .own 3 (msgsAV (l.take i))), (11, .sl (.vw (.cell 0 0) true) 3 (msgsAV l)), (12, .i .i64 l.length), (13, .i .i64 i)]) (fun _ => [(0, [.sl .own 3 (msgsAV l), .b b])]) (fun i => i ≤ l.length) (fun i => l.length - i) [0, 3, 11, 12, 13] [0] 0 (by simp) (by simp [msgsAV]) ?_)
  intro i hi
  refine AWp.go [0, 3, 11, 12, 13, 14] [0] fun K hK => ?_
  simp
  refine hK _ _ ?_
  clear hK K
  by_cases h : i < l.length
  · refine AWp.seq (AWp.cond (t := true) (by simp [h]) (fun _ => AWp.skip ?_) (by simp))
    refine AWp.seq (AWp.block ?_)
    refine AWp.go [0, 3, 5, 11, 12, 13] [0, 6] fun K hK => ?_
    simp [h]
    refine hK _ _ ?_
    clear hK K
    refine AWp.goLast [0, 3, 11, 12, 13] [0] fun K hK => ?_
    simp
    refine call_pure (c70 l[i].src l[i].dst (bytesAV l[i].body) (by rw [bytesAV_length]; exact hb _ (List.getElem_mem h))) (by simp) ?_
    simp
    refine ⟨by omega, hK _ _ ?_⟩
    clear hK K
    show AWp _ _ _ _
    refine AWp.goLast [0, 3, 11, 12, 13] [0] fun K hK => ?_
    simp
    refine hK _ _ ?_
    refine ⟨i + 1, by omega, by omega, ?_⟩
    simp
    refine ⟨?_, wrap64 (by omega) (by omega)⟩
    have : msgsAV (l.take (i + 1)) = msgsAV (l.take i) ++ [msgAV l[i]] := by
      unfold msgsAV
      rw [List.take_succ_eq_append_getElem h, List.map_append, List.map_singleton]
    rw [this]
    rfl
  · refine AWp.seq (AWp.cond (t := false) (by simp [h]) (by simp) (fun _ => AWp.exit ?_))
    have hil : i = l.length := by omega
    subst hil
    show AWp _ _ _ _
    refine AWp.go [0, 2] [0] fun K hK => ?_
    simp
    refine hK _ _ (AWp.ret ?_)
    simp
end Go.AM
namespace Go.AM
open Go.Proofs

theorem c74 (xs : List (List AV)) (h : xs.length * 40 ≤ 140737488355328) : Pure Try.prog 74 [.sl .fro 3 xs] (.sl .own 3 xs) := by
  refine proc_of (cx Try.prog 8 [0, 2, 4] [2]) 7 [.tmp 2] Try.func74 rfl rfl rfl rfl rfl rfl (Nat.le_refl _) rfl ?_
  refine AWp.go [0] [] fun K hK => ?_
  simp
  refine hK _ _ (AWp.seq ?_)
  refine AWp.go [0, 4] [] fun K hK => ?_
  simp
  refine ⟨fun h0 => hK _ _ ?_, hK _ _ ?_⟩
  · refine AWp.cond (t := true) (by simp) (fun _ => ?_) (by simp)
    refine AWp.go [2] [] fun K hK => ?_
    simp
    refine hK _ _ (AWp.ret ?_)
    simp [h0]
  · refine AWp.cond (t := false) (by simp) (by simp) (fun _ => AWp.skip ?_)
    show AWp _ _ _ _
    refine AWp.go [2] [] fun K hK => ?_
    simp
    refine ⟨h, hK _ _ (AWp.ret ?_)⟩
    simp 

theorem c17n : Pure Try.prog 17 [.nil] (.sl .own 3 []) := by
  refine proc_of (cx Try.prog 24 [0, 2, 3, 5, 7, 11, 12, 13, 14] [2]) 23 [.tmp 2] Try.func17 rfl rfl rfl rfl rfl rfl (Nat.le_refl _) rfl ?_
  refine AWp.go [0] [] fun K hK => ?_
  simp
  refine hK _ _ ?_
  refine AWp.go [0, 3] [] fun K hK => ?_
  simp
  refine hK _ _ (AWp.seq ?_)
  refine AWp.go [0, 3, 7] [] fun K hK => ?_
  simp
  refine hK _ _ ?_
  clear hK K
  refine AWp.cond (t := false) (by simp) (by simp) (fun _ => AWp.skip ?_)
  show AWp _ _ _ _
  refine AWp.go [2] [] fun K hK => ?_
  simp
  refine hK _ _ (AWp.ret ?_)
  simp
end Go.AM
namespace Go.AM
open Go.Proofs

theorem msgsAV_append (l m : List Msg) : msgsAV (l ++ m) = msgsAV l ++ msgsAV m := by simp [msgsAV]
theorem msgsAV_take (l : List Msg) (n : Nat) : (msgsAV l).take n = msgsAV (l.take n) := by simp [msgsAV, List.map_take]
theorem msgsAV_drop (l : List Msg) (n : Nat) : (msgsAV l).drop n = msgsAV (l.drop n) := by simp [msgsAV, List.map_drop]

set_option maxRecDepth 8000 in
theorem c69 (l : List Msg) (i : Nat) (hi : i < l.length) (hl : l.length ≤ 1000000) : Pure Try.prog 69 [.sl .fro 3 (msgsAV l), .i .i64 i] (.sl .own 3 (msgsAV (l.take i ++ l.drop (i + 1)))) := by
  refine proc_of (cx Try.prog 15 [0, 1] [4]) 13 [.tmp 4] Try.func69 rfl rfl rfl rfl rfl rfl (Nat.le_refl _) rfl ?_
  refine AWp.go [0, 1] [] fun K hK => ?_
  simp
  refine hK _ _ ?_
  clear hK K
  refine AWp.goT (.take 1 (.take 2 (.take 3 (.take 5 (.take 6 (.take 7 (.take 8 (.alt 0 (.alt 4 (.alt 9 (.take 10 .fin) .stop) .stop) .stop)))))))) [4] [] mix (by kernel_rfl) fun K hK => ?_
  refine atree.tk fun K1 h1 => ?_
  simp
  refine h1 _ _ ?_
  clear h1 K1
  refine atree.tk fun K1 h1 => ?_
  simp
  refine h1 _ _ ?_
  clear h1 K1
  refine atree.tk fun K1 h1 => ?_
  simp
  refine ⟨by omega, h1 _ _ ?_⟩
  clear h1 K1
  refine atree.tk fun K1 h1 => ?_
  simp
  refine h1 _ _ ?_
  clear h1 K1
  refine atree.tk fun K1 h1 => ?_
  simp
  refine h1 _ _ ?_
  clear h1 K1
  refine atree.tk fun K1 h1 => ?_
  simp
  refine h1 _ _ ?_
  clear h1 K1
  refine atree.tk fun K1 h1 => ?_
  simp
  refine ⟨by rw [wrap64 (by omega) (by omega)]; omega, h1 _ _ ?_⟩
  clear h1 K1
  refine atree.a1 fun K1 h1 => ?_
  simp
  refine h1 _ _ ?_
  clear h1 K1
  refine atree.a1 fun K1 h1 => ?_
  simp
  refine ⟨by omega, h1 _ _ ?_⟩
  clear h1 K1
  refine atree.a1 fun K1 h1 => ?_
  simp
  refine ⟨by rw [wrap64 (by omega) (by omega)]; omega, h1 _ _ ?_⟩
  clear h1 K1
  refine atree.tk fun K1 h1 => ?_
  simp
  refine h1 _ _ ?_
  clear h1 K1
  simp
  refine hK _ _ (AWp.ret ?_)
  simp
  rw [wrap64 (by omega) (by omega), show ((i : Int) + 1).toNat = i + 1 by omega, msgsAV_append, msgsAV_take, List.take_of_length_le (l := msgsAV l) (by simp), msgsAV_drop]
end Go.AM
