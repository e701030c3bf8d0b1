/- Clocks joined; closures that know a box; dots that one lacks. -/
import Derived.Test.YtlilmkblggifaaaAmE
import Derived.Test.YtlilmkblggifaaaAmD
import Derived.ChangeArms
import Derived.ChangeOld
import Derived.ChangeShapes
import Derived.Below
import Derived.SizedLaws
import Derived.Carry
import Derived.OpenShut
import Derived.WideShapes
namespace Go.AM
open Go.Proofs

theorem max_if (x y : Int) : (if x < y then y else x) = max x y := by split <;> omega
def maxF (f g : List Int) : List Int := List.zipWith max f g
def joinL (ls : List (List Int)) : List Int := ls.foldl (fun f c => maxF f (ofL c)) [0, 0, 0, 0, 0]
theorem joinL_len (ls : List (List Int)) : (joinL ls).length = 5 := by
  have key : ∀ (ls : List (List Int)) (f : List Int), f.length = 5 → (ls.foldl (fun f c => maxF f (ofL c)) f).length = 5 := by
    intro ls
    induction ls with
    | nil => intro f h; exact h
    | cons c ls ih =>
      intro f h
      refine ih _ ?_
      unfold maxF
      rw [List.length_zipWith, h, ofL_length]; rfl
  exact key ls _ rfl
theorem joinL_succ (ls : List (List Int)) (i : Nat) (h : i < ls.length) : joinL (ls.take (i + 1)) = maxF (joinL (ls.take i)) (ofL ls[i]) := by
  unfold joinL
  rw [List.take_succ_eq_append_getElem h, List.foldl_append]
  rfl

set_option maxRecDepth 8000 in
set_option maxHeartbeats 4000000 in
theorem c_clock_Join (ls : List (List Int)) (hls : ls.length ≤ 1000000) (hl : ∀ c ∈ ls, c.length ≤ 1000000) : Pure Try.prog 113 [.sl .fro 1 (rowsL 1 (ls.map intsAV))] (.sl .own 1 (intsAV (plainL (joinL ls)))) := by
  refine proc_of (cx Try.prog 31 [0, 2, 3, 5, 6, 7, 8, 9, 10, 11, 15, 16, 17] [2]) 30 [.tmp 2] Try.func113 rfl rfl rfl rfl rfl rfl (Nat.le_refl _) rfl ?_
  refine AWp.go [0] [] fun K hK => ?_
  simp
  first | refine hK _ _ ?_ | refine ⟨by omega, hK _ _ ?_⟩ | refine ⟨by omega, by omega, hK _ _ ?_⟩
  clear hK K
  refine AWp.go [0, 3] [3] fun K hK => ?_
  simp
  first | refine hK _ _ ?_ | refine ⟨by omega, hK _ _ ?_⟩ | refine ⟨by omega, by omega, hK _ _ ?_⟩
  clear hK K
  refine AWp.seq ?_
  refine AWp.go [3, 8, 9, 10] [3] fun K hK => ?_
  simp
  first | refine hK _ _ ?_ | refine ⟨by omega, hK _ _ ?_⟩ | refine ⟨by omega, by omega, hK _ _ ?_⟩
  clear hK K
  refine AWp.block (AWp.while (fun i : Nat => [(3, .ptr 3 0), (8, .sl .fro 1 (rowsL 1 (ls.map intsAV))), (9, .i .i64 ls.length), (10, .i .i64 i)]) (fun i => [(3, [.i .i64 ((joinL (ls.take i)).getD 0 0), .i .i64 ((joinL (ls.take i)).getD 1 0), .i .i64 ((joinL (ls.take i)).getD 2 0), .i .i64 ((joinL (ls.take i)).getD 3 0), .i .i64 ((joinL (ls.take i)).getD 4 0)])]) (fun i => i ≤ ls.length) (fun i => ls.length - i) [3, 8, 9, 10] [3] 0 (by simp) (by simp [joinL]) ?_)
  intro i hi
  obtain ⟨x0, x1, x2, x3, x4, hx⟩ := five (joinL_len (ls.take i))
  rw [hx]
  refine AWp.go [3, 8, 9, 10, 11] [3] fun K hK => ?_
  simp
  first | refine hK _ _ ?_ | refine ⟨by omega, hK _ _ ?_⟩ | refine ⟨by omega, by omega, hK _ _ ?_⟩
  clear hK K
  refine AWp.seq ?_
  by_cases h : i < ls.length
  · refine AWp.cond (t := true) (by first | (simp [h]; done) | (simp [h]; omega)) (fun _ => ?_) (by simp)
    obtain ⟨y0, y1, y2, y3, y4, hy⟩ := five (ofL_length ls[i])
    have hs := joinL_succ ls i h
    rw [hx, hy] at hs
    have w1 : IntKind.i64.wrap ((i : Int) + 1) = i + 1 := wrap64 (by omega) (by omega)
    refine AWp.skip ?_
    show AWp _ _ _ _
    refine AWp.seq ?_
    refine AWp.block ?_
    refine AWp.go [3, 5, 8, 9, 10] [3] fun K hK => ?_
    simp [h]
    first | refine hK _ _ ?_ | refine ⟨by omega, hK _ _ ?_⟩ | refine ⟨by omega, by omega, hK _ _ ?_⟩
    clear hK K
    refine AWp.go [3, 8, 9, 10, 15, 16] [3] fun K hK => ?_
    simp
    refine call_pure (c163 ls[i] (by have := hl _ (List.getElem_mem h); omega)) (by simp) ?_
    simp [hy, cellsI]
    first | refine hK _ _ ?_ | refine ⟨by omega, hK _ _ ?_⟩ | refine ⟨by omega, by omega, hK _ _ ?_⟩
    clear hK K
    refine AWp.block (AWp.while (fun j : Nat => [(3, .ptr 3 0), (8, .sl .fro 1 (rowsL 1 (ls.map intsAV))), (9, .i .i64 ls.length), (10, .i .i64 i), (15, .agg [.i .i64 y0, .i .i64 y1, .i .i64 y2, .i .i64 y3, .i .i64 y4]), (16, .i .i64 j)]) (fun j => [(3, [.i .i64 (if 0 < j then max x0 y0 else x0), .i .i64 (if 1 < j then max x1 y1 else x1), .i .i64 (if 2 < j then max x2 y2 else x2), .i .i64 (if 3 < j then max x3 y3 else x3), .i .i64 (if 4 < j then max x4 y4 else x4)])]) (fun j => j ≤ 5) (fun j => 5 - j) [3, 8, 9, 10, 15, 16] [3] 0 (by simp) (by simp) ?_)
    intro j hj
    refine AWp.go [3, 8, 9, 10, 15, 16, 17] [3] fun K hK => ?_
    simp
    first | refine hK _ _ ?_ | refine ⟨by omega, hK _ _ ?_⟩ | refine ⟨by omega, by omega, hK _ _ ?_⟩
    clear hK K
    refine AWp.seq ?_
    by_cases h2 : j < 5
    · refine AWp.cond (t := true) (by first | (simp; done) | (simp; omega)) (fun _ => ?_) (by simp)
      refine AWp.skip ?_
      show AWp _ _ _ _
      refine AWp.seq ?_
      refine AWp.block ?_
      have h5 : j = 0 ∨ j = 1 ∨ j = 2 ∨ j = 3 ∨ j = 4 := by omega
      rcases h5 with rfl | rfl | rfl | rfl | rfl
      all_goals (
        refine AWp.go [3, 6, 7, 8, 9, 10, 15, 16] [3] fun K hK => ?_
        simp
        first | refine hK _ _ ?_ | refine ⟨by omega, hK _ _ ?_⟩ | refine ⟨by omega, by omega, hK _ _ ?_⟩
        clear hK K
        refine AWp.goLast [3, 8, 9, 10, 15, 16] [3] fun K hK => ?_
        simp
        first | refine hK _ _ ?_ | refine ⟨by omega, hK _ _ ?_⟩ | refine ⟨by omega, by omega, hK _ _ ?_⟩
        clear hK K
        show AWp _ _ _ _
        refine AWp.goLast [3, 8, 9, 10, 15, 16] [3] fun K hK => ?_
        simp
        first | refine hK _ _ ?_ | refine ⟨by omega, hK _ _ ?_⟩ | refine ⟨by omega, by omega, hK _ _ ?_⟩
        clear hK K
        have v2 : IntKind.i64.wrap 2 = 2 := by decide
        have v3 : IntKind.i64.wrap 3 = 3 := by decide
        have v4 : IntKind.i64.wrap 4 = 4 := by decide
        have v5 : IntKind.i64.wrap 5 = 5 := by decide
        first | (refine ⟨1, by omega, by omega, ?_⟩; simp [max_if]; done) | (refine ⟨2, by omega, by omega, ?_⟩; simp [v2, max_if]; done) | (refine ⟨3, by omega, by omega, ?_⟩; simp [v3, max_if]; done) | (refine ⟨4, by omega, by omega, ?_⟩; simp [v4, max_if]; done) | (refine ⟨5, by omega, by omega, ?_⟩; simp [v5, max_if]; done))
    · refine AWp.cond (t := false) (by first | (simp; done) | (simp; omega)) (by simp) (fun _ => ?_)
      refine AWp.exit ?_
      show AWp _ _ _ _
      refine AWp.goLast [3, 8, 9, 10] [3] fun K hK => ?_
      simp
      first | refine hK _ _ ?_ | refine ⟨by omega, hK _ _ ?_⟩ | refine ⟨by omega, by omega, hK _ _ ?_⟩
      clear hK K
      obtain rfl : j = 5 := by omega
      refine ⟨i + 1, by omega, by omega, ?_⟩
      rw [hs]
      simp [w1, maxF]
  · refine AWp.cond (t := false) (by first | (simp [h]; done) | (simp [h]; omega)) (by simp) (fun _ => ?_)
    refine AWp.exit ?_
    show AWp _ _ _ _
    obtain rfl : i = ls.length := by omega
    rw [List.take_length] at hx
    refine AWp.go [2] [] fun K hK => ?_
    simp
    refine call_pure (c164 [x0, x1, x2, x3, x4] rfl) (by simp [cellsI]) ?_
    simp
    first | refine hK _ _ ?_ | refine ⟨by omega, hK _ _ ?_⟩ | refine ⟨by omega, by omega, hK _ _ ?_⟩
    clear hK K
    refine AWp.ret ?_
    rw [hx]
    simp

theorem c_dots_Lacks1 (s : Seen) (d : Dot) (hu : s.upto.length ≤ 1000000) (hm : s.more.length ≤ 1000000) : Proc Try.prog 1 116 [.agg (dotC d), .ptr 0 0] [(0, [.sl .fro 1 (intsAV s.upto), .sl .fro 2 (dotsAV s.more)])] (.b (!(seenOk s && hasD s d))) [(0, [.sl .fro 1 (intsAV s.upto), .sl .fro 2 (dotsAV s.more)])] := by
  refine proc_of (cxb Try.prog 8 1 [1, 2, 3] [] [3]) 6 [.tmp 3] Try.func116 rfl rfl rfl rfl rfl rfl (Nat.le_refl _) rfl ?_
  refine AWp.go [1, 2] [0, 3] fun K hK => ?_
  simp [dotC]
  first | refine hK _ _ ?_ | refine ⟨by omega, hK _ _ ?_⟩ | refine ⟨by omega, by omega, hK _ _ ?_⟩
  clear hK K
  refine AWp.go [3] [0] fun K hK => ?_
  simp
  refine call_pure (c_dots_Has s d hu hm) (by simp [seenC, dotC]) ?_
  simp
  first | refine hK _ _ ?_ | refine ⟨by omega, hK _ _ ?_⟩ | refine ⟨by omega, by omega, hK _ _ ?_⟩
  clear hK K
  refine AWp.ret ?_
  simp

set_option maxRecDepth 8000 in
theorem c_IndexFunc_Dot1 (l : List Dot) (g : Nat) (p : Dot → Bool) (cs : List AV) (hc : Calm cs) (hg : ∀ n, Proc Try.prog 1 g [.agg (dotC n), .ptr 0 0] [(0, cs)] (.b (p n)) [(0, cs)]) (hl : l.length ≤ 1000000) : Proc Try.prog 1 158 [.sl .fro 2 (dotsAV l), .fn g [] [.ptr 0 0]] [(0, cs)] (.i .i64 (idxI p l)) [(0, cs)] := by
  refine proc_of (cxb Try.prog 19 1 [0, 1, 4, 5, 7, 8, 9, 16] [] [4]) 17 [.tmp 4] Try.func158 rfl rfl rfl rfl rfl rfl (Nat.le_refl _) rfl ?_
  refine AWp.go [0, 1] [0] fun K hK => ?_
  simp [hc]
  first | refine hK _ _ ?_ | refine ⟨by omega, hK _ _ ?_⟩ | refine ⟨by omega, by omega, hK _ _ ?_⟩
  clear hK K
  refine AWp.seq ?_
  refine AWp.go [0, 1, 7, 8] [0] fun K hK => ?_
  simp [hc]
  first | refine hK _ _ ?_ | refine ⟨by omega, hK _ _ ?_⟩ | refine ⟨by omega, by omega, hK _ _ ?_⟩
  clear hK K
  refine AWp.block (AWp.while (fun i : Nat => [(0, .sl .fro 2 (dotsAV l)), (1, .fn g [] [.ptr 0 0]), (7, .i .i64 l.length), (8, .i .i64 i)]) (fun i => [(0, cs)]) (fun i => i ≤ l.length ∧ ∀ k (hk : k < i) (hk2 : k < l.length), p l[k] = false) (fun i => l.length - i) [0, 1, 7, 8] [0] 0 (by simp) (by simp [hc]) ?_)
  rintro i ⟨hi, hall⟩
  refine AWp.go [0, 1, 7, 8, 9] [0] fun K hK => ?_
  simp [hc]
  first | refine hK _ _ ?_ | refine ⟨by omega, hK _ _ ?_⟩ | refine ⟨by omega, by omega, hK _ _ ?_⟩
  clear hK K
  refine AWp.seq ?_
  by_cases h : i < l.length
  · refine AWp.cond (t := true) (by first | (simp [h]; done) | (simp [h]; omega)) (fun _ => ?_) (by simp)
    refine AWp.skip ?_
    show AWp _ _ _ _
    refine AWp.seq ?_
    refine AWp.block ?_
    refine AWp.go [0, 1, 5, 7, 8] [0] fun K hK => ?_
    simp [hc]
    first | refine hK _ _ ?_ | refine ⟨by omega, hK _ _ ?_⟩ | refine ⟨by omega, by omega, hK _ _ ?_⟩
    clear hK K
    refine AWp.go [0, 1, 5, 7, 8, 16] [0] fun K hK => ?_
    simp [h]
    refine call_proc [(0, 0)] none (hg l[i]) (by simp [dotC]) (by simp) ?_
    simp [hc]
    refine ⟨by simpa using hc.still, hK _ _ ?_⟩
    clear hK K
    cases hp : p l[i]
    · refine AWp.cond (t := false) (by simp) (by simp) (fun _ => ?_)
      refine AWp.skip ?_
      show AWp _ _ _ _
      refine AWp.goLast [0, 1, 7, 8] [0] fun K hK => ?_
      simp [hc]
      first | refine hK _ _ ?_ | refine ⟨by omega, hK _ _ ?_⟩ | refine ⟨by omega, by omega, hK _ _ ?_⟩
      clear hK K
      refine ⟨i + 1, ⟨by omega, fun k hk hk2 => ?_⟩, by omega, ?_⟩
      · by_cases hki : k = i
        · subst hki; exact hp
        · exact hall k (by omega) hk2
      · simp [hc]
        exact wrap64 (by omega) (by omega)
    · refine AWp.cond (t := true) (by simp) (fun _ => ?_) (by simp)
      refine AWp.go [4] [0] fun K hK => ?_
      simp [hc]
      first | refine hK _ _ ?_ | refine ⟨by omega, hK _ _ ?_⟩ | refine ⟨by omega, by omega, hK _ _ ?_⟩
      clear hK K
      refine AWp.ret ?_
      rw [idxI_at p l i h (fun k hk => hall k hk (by omega)) hp]
      simp [hc]
      simpa using hc.still
  · refine AWp.cond (t := false) (by first | (simp [h]; done) | (simp [h]; omega)) (by simp) (fun _ => ?_)
    refine AWp.exit ?_
    show AWp _ _ _ _
    refine AWp.go [4] [0] fun K hK => ?_
    simp [hc]
    first | refine hK _ _ ?_ | refine ⟨by omega, hK _ _ ?_⟩ | refine ⟨by omega, by omega, hK _ _ ?_⟩
    clear hK K
    refine AWp.ret ?_
    rw [idxI_none p l fun k hk => hall k (by omega) hk]
    simp [hc]
    simpa using hc.still

theorem c_ContainsFunc_Dot1 (l : List Dot) (g : Nat) (p : Dot → Bool) (cs : List AV) (hc : Calm cs) (hg : ∀ n, Proc Try.prog 1 g [.agg (dotC n), .ptr 0 0] [(0, cs)] (.b (p n)) [(0, cs)]) (hl : l.length ≤ 1000000) : Proc Try.prog 1 96 [.sl .fro 2 (dotsAV l), .fn g [] [.ptr 0 0]] [(0, cs)] (.b (l.any p)) [(0, cs)] := by
  refine proc_of (cxb Try.prog 9 1 [0, 1, 4] [] [4]) 7 [.tmp 4] Try.func96 rfl rfl rfl rfl rfl rfl (Nat.le_refl _) rfl ?_
  refine AWp.go [0, 1] [0] fun K hK => ?_
  simp [hc]
  first | refine hK _ _ ?_ | refine ⟨by omega, hK _ _ ?_⟩ | refine ⟨by omega, by omega, hK _ _ ?_⟩
  clear hK K
  refine AWp.go [4] [0] fun K hK => ?_
  simp
  refine call_proc [(0, 0)] none (c_IndexFunc_Dot1 l g p cs hc hg hl) (by simp) (by simp) ?_
  simp [hc]
  refine ⟨by simpa using hc.still, hK _ _ ?_⟩
  clear hK K
  refine AWp.ret ?_
  rw [← idxI_ge]
  simp [hc]
  simpa using hc.still
end Go.AM
namespace Go.AM
open Go.Proofs

def joinP (a b : Seen) : Seen := if seenOk a && seenOk b then fullS (settled (plainL (joinL [a.upto, b.upto])) (a.more ++ b.more)) else ⟨[], []⟩
def joinE (a b : Seen) : Int := if seenOk a && seenOk b then fullE (settled (plainL (joinL [a.upto, b.upto])) (a.more ++ b.more)) else 1

set_option maxRecDepth 8000 in
set_option maxHeartbeats 4000000 in
theorem c_dots_Join (a b : Seen) (hau : a.upto.length ≤ 1000) (ham : a.more.length ≤ 1000) (hbu : b.upto.length ≤ 1000) (hbm : b.more.length ≤ 1000) : Pure Try.prog 63 [.agg (seenC a), .agg (seenC b)] (.tup [.agg (seenC (joinP a b)), .i .i64 (joinE a b)]) := by
  refine proc_of (cx Try.prog 30 [2, 3, 4, 5, 13] [4, 5]) 28 [.cell 4 86, .tmp 5] Try.func63 rfl rfl rfl rfl rfl rfl (Nat.le_refl _) rfl ?_
  refine AWp.go [2, 3, 4] [2, 3, 4] fun K hK => ?_
  simp [seenC]
  first | refine hK _ _ ?_ | refine ⟨by omega, hK _ _ ?_⟩ | refine ⟨by omega, by omega, hK _ _ ?_⟩
  clear hK K
  refine AWp.seq ?_
  refine AWp.step [2, 3, 4, 13] [2, 3, 4] [(2, .ptr 2 0), (3, .ptr 3 0), (4, .ptr 4 0), (13, .b (!(seenOk a && seenOk b)))] [(2, [.sl .fro 1 (intsAV a.upto), .sl .fro 2 (dotsAV a.more)]), (3, [.sl .fro 1 (intsAV b.upto), .sl .fro 2 (dotsAV b.more)]), (4, [.sl .nl 1 [], .sl .nl 2 []])] ?_ ?_
  · simp
    refine call_pure (c_dots_Check a (by omega) (by omega)) (by simp [seenC]) ?_
    cases q1 : seenOk a
    · simp
    · simp
      refine call_pure (c_dots_Check b (by omega) (by omega)) (by simp [seenC]) ?_
      cases q2 : seenOk b <;> simp
  cases hq : seenOk a && seenOk b
  · refine AWp.cond (t := true) (by simp) (fun _ => ?_) (by simp)
    refine AWp.go [4, 5] [4] fun K hK => ?_
    simp
    first | refine hK _ _ ?_ | refine ⟨by omega, hK _ _ ?_⟩ | refine ⟨by omega, by omega, hK _ _ ?_⟩
    clear hK K
    refine AWp.ret ?_
    simp [seenC, joinP, joinE, hq]
  · refine AWp.cond (t := false) (by simp) (by simp) (fun _ => ?_)
    refine AWp.skip ?_
    show AWp _ _ _ _
    simp only [Bool.and_eq_true] at hq
    have hpl := plainL_len5 (joinL [a.upto, b.upto])
    have hs := c_dots_settle (plainL (joinL [a.upto, b.upto])) (a.more ++ b.more) (by omega) (by simp; omega) (fun d hd => by
      rcases List.mem_append.1 (mem_ordP _ _ hd) with h | h
      · exact seenOk_may hq.1 d h
      · exact seenOk_may hq.2 d h)
    have hcc := c_Concat_Dot [dotsAV a.more, dotsAV b.more] (by simp) (by simp; omega)
    have hcj := c_clock_Join [a.upto, b.upto] (by simp) (fun c hc => by simp at hc; rcases hc with rfl | rfl <;> omega)
    simp [rowsL] at hcc hcj
    refine AWp.stepD 15 (fun k => if k = 5 then .sl .fro 1 (intsAV (plainL (joinL [a.upto, b.upto]))) else if k = 11 then .sl .fro 2 (dotsAV a.more ++ dotsAV b.more) else .tup [.agg (seenC (fullS (settled (plainL (joinL [a.upto, b.upto])) (a.more ++ b.more)))), .i .i64 (fullE (settled (plainL (joinL [a.upto, b.upto])) (a.more ++ b.more)))]) [4, 5] [4] [(4, .ptr 4 0), (5, .i .i64 (joinE a b))] [(4, [.sl .fro 1 (intsAV (joinP a b).upto), .sl .fro 2 (dotsAV (joinP a b).more)])] mix (by kernel_rfl) ?_ ?_
    · have f1 := hcj.fro
      have f2 := hcc.fro
      simp at f1 f2
      simp [seenC] at hs
      simp [f1, f2, hs, seenC, joinP, joinE, hq.1, hq.2]
    refine AWp.ret ?_
    simp [seenC]

set_option maxRecDepth 8000 in
set_option maxHeartbeats 4000000 in
theorem c_dots_Lacks (a b : Seen) (hau : a.upto.length ≤ 1000000) (ham : a.more.length ≤ 1000000) (hbu : b.upto.length ≤ 1000000) (hbm : b.more.length ≤ 1000000) (r : Bool) (hr0 : (seenOk a && seenOk b) = false → r = false) (hr : (seenOk a && seenOk b) = true → (r = true ↔ ∃ d, mayD d = true ∧ Hs b d ∧ ¬ Hs a d)) : Pure Try.prog 65 [.agg (seenC a), .agg (seenC b)] (.b r) := by
  refine proc_of (cx Try.prog 43 [2, 3, 4, 5, 6, 14, 16, 29, 38] [4]) 41 [.tmp 4] Try.func65 rfl rfl rfl rfl rfl rfl (Nat.le_refl _) rfl ?_
  refine AWp.go [2, 3] [2, 3] fun K hK => ?_
  simp [seenC]
  first | refine hK _ _ ?_ | refine ⟨by omega, hK _ _ ?_⟩ | refine ⟨by omega, by omega, hK _ _ ?_⟩
  clear hK K
  refine AWp.seq ?_
  refine AWp.step [2, 3, 14] [2, 3] [(2, .ptr 2 0), (3, .ptr 3 0), (14, .b (!(seenOk a && seenOk b)))] [(2, [.sl .fro 1 (intsAV a.upto), .sl .fro 2 (dotsAV a.more)]), (3, [.sl .fro 1 (intsAV b.upto), .sl .fro 2 (dotsAV b.more)])] ?_ ?_
  · simp
    refine call_pure (c_dots_Check a (by omega) (by omega)) (by simp [seenC]) ?_
    cases q1 : seenOk a
    · simp
    · simp
      refine call_pure (c_dots_Check b (by omega) (by omega)) (by simp [seenC]) ?_
      cases q2 : seenOk b <;> simp
  cases hq : seenOk a && seenOk b
  · refine AWp.cond (t := true) (by simp) (fun _ => ?_) (by simp)
    refine AWp.go [4] [] fun K hK => ?_
    simp
    first | refine hK _ _ ?_ | refine ⟨by omega, hK _ _ ?_⟩ | refine ⟨by omega, by omega, hK _ _ ?_⟩
    clear hK K
    refine AWp.ret ?_
    simp [hr0 hq]
  · refine AWp.cond (t := false) (by simp) (by simp) (fun _ => ?_)
    refine AWp.skip ?_
    show AWp _ _ _ _
    refine AWp.seq ?_
    refine AWp.go [2, 3, 5] [2, 3] fun K hK => ?_
    simp
    first | refine hK _ _ ?_ | refine ⟨by omega, hK _ _ ?_⟩ | refine ⟨by omega, by omega, hK _ _ ?_⟩
    clear hK K
    refine AWp.block (AWp.while (fun i : Nat => [(2, .ptr 2 0), (3, .ptr 3 0), (5, .i .i64 (i + 1))]) (fun i => [(2, [.sl .fro 1 (intsAV a.upto), .sl .fro 2 (dotsAV a.more)]), (3, [.sl .fro 1 (intsAV b.upto), .sl .fro 2 (dotsAV b.more)])]) (fun i => i ≤ 5 ∧ ∀ rep n : Int, 1 ≤ rep → rep ≤ i → getC a.upto rep < n → n ≤ getC b.upto rep → (rep, n) ∈ a.more) (fun i => 5 - i) [2, 3, 5] [2, 3] 0 (by exact ⟨by omega, fun _ _ _ _ => by omega⟩) (by simp) ?_)
    rintro i ⟨hi, hall⟩
    refine AWp.seq ?_
    refine AWp.go [2, 3, 5, 16] [2, 3] fun K hK => ?_
    simp
    first | refine hK _ _ ?_ | refine ⟨by omega, hK _ _ ?_⟩ | refine ⟨by omega, by omega, hK _ _ ?_⟩
    clear hK K
    by_cases h : i < 5
    · refine AWp.cond (t := true) (by first | (simp; done) | (simp; omega)) (fun _ => ?_) (by simp)
      have w1 : IntKind.i64.wrap ((i : Int) + 1 + 1) = i + 1 + 1 := wrap64 (by omega) (by omega)
      have ga := getC_range a.upto (i + 1)
      have gb := getC_range b.upto (i + 1)
      have w2 : IntKind.i64.wrap (getC a.upto (i + 1) + 1) = getC a.upto (i + 1) + 1 := wrap64 (by omega) (by omega)
      refine AWp.skip ?_
      show AWp _ _ _ _
      refine AWp.seq ?_
      refine AWp.block ?_
      refine AWp.go [2, 3, 5, 6] [2, 3] fun K hK => ?_
      simp
      refine call_pure (c102 a.upto (i + 1) (by omega)) (by simp) ?_
      simp [w2]
      first | refine hK _ _ ?_ | refine ⟨by omega, hK _ _ ?_⟩ | refine ⟨by omega, by omega, hK _ _ ?_⟩
      clear hK K
      refine AWp.block (AWp.while (fun j : Nat => [(2, .ptr 2 0), (3, .ptr 3 0), (5, .i .i64 (i + 1)), (6, .i .i64 (getC a.upto (i + 1) + 1 + j))]) (fun j => [(2, [.sl .fro 1 (intsAV a.upto), .sl .fro 2 (dotsAV a.more)]), (3, [.sl .fro 1 (intsAV b.upto), .sl .fro 2 (dotsAV b.more)])]) (fun j => j ≤ 1048576 ∧ ∀ n : Int, getC a.upto (i + 1) < n → n < getC a.upto (i + 1) + 1 + j → (((i : Int) + 1, n) ∈ a.more)) (fun j => 1048576 - j) [2, 3, 5, 6] [2, 3] 0 (by exact ⟨by omega, fun n _ _ => by omega⟩) (by simp) ?_)
      rintro j ⟨hj, hallj⟩
      refine AWp.seq ?_
      refine AWp.go [2, 3, 5, 6, 29] [2, 3] fun K hK => ?_
      simp
      refine call_pure (c102 b.upto (i + 1) (by omega)) (by simp) ?_
      simp
      first | refine hK _ _ ?_ | refine ⟨by omega, hK _ _ ?_⟩ | refine ⟨by omega, by omega, hK _ _ ?_⟩
      clear hK K
      by_cases h2 : getC a.upto (i + 1) + 1 + j ≤ getC b.upto (i + 1)
      · refine AWp.cond (t := true) (by first | (simp [h2]; done) | (simp [h2]; omega)) (fun _ => ?_) (by simp)
        refine AWp.skip ?_
        show AWp _ _ _ _
        refine AWp.seq ?_
        refine AWp.block ?_
        refine AWp.go [2, 3, 5, 6, 38] [2, 3] fun K hK => ?_
        simp
        refine call_pure (c_Contains_Dot a.more ((i : Int) + 1, getC a.upto (i + 1) + 1 + j) (by omega)) (by simp [dotC]) ?_
        simp
        first | refine hK _ _ ?_ | refine ⟨by omega, hK _ _ ?_⟩ | refine ⟨by omega, by omega, hK _ _ ?_⟩
        clear hK K
        cases hm : decide ((((i : Int) + 1, getC a.upto (i + 1) + 1 + j) : Dot) ∈ a.more)
        · refine AWp.cond (t := true) (by simp) (fun _ => ?_) (by simp)
          refine AWp.go [4] [] fun K hK => ?_
          simp
          first | refine hK _ _ ?_ | refine ⟨by omega, hK _ _ ?_⟩ | refine ⟨by omega, by omega, hK _ _ ?_⟩
          clear hK K
          refine AWp.ret ?_
          have hmm := of_decide_eq_false hm
          have : r = true := (hr hq).2 ⟨(((i : Int) + 1, getC a.upto (i + 1) + 1 + j) : Dot), by simp [mayD]; omega, .inl h2, fun h => by
            rcases h with h | h
            · have : getC a.upto (i + 1) + 1 + j ≤ getC a.upto (i + 1) := h
              omega
            · exact hmm h⟩
          simp [this]
        · refine AWp.cond (t := false) (by simp) (by simp) (fun _ => ?_)
          refine AWp.skip ?_
          show AWp _ _ _ _
          refine AWp.goLast [2, 3, 5, 6] [2, 3] fun K hK => ?_
          simp
          first | refine hK _ _ ?_ | refine ⟨by omega, hK _ _ ?_⟩ | refine ⟨by omega, by omega, hK _ _ ?_⟩
          clear hK K
          have hmm := of_decide_eq_true hm
          have w3 : IntKind.i64.wrap (getC a.upto (i + 1) + 1 + j + 1) = getC a.upto (i + 1) + 1 + (j + 1 : Nat) := by rw [wrap64 (by omega) (by omega)]; omega
          refine ⟨j + 1, ⟨by omega, fun n hn1 hn2 => ?_⟩, by omega, ?_⟩
          · by_cases hn : n = getC a.upto (i + 1) + 1 + j
            · rw [hn]; exact hmm
            · exact hallj n hn1 (by omega)
          · simp [w3]
      · refine AWp.cond (t := false) (by first | (simp [h2]; done) | (simp [h2]; omega)) (by simp) (fun _ => ?_)
        refine AWp.exit ?_
        show AWp _ _ _ _
        refine AWp.goLast [2, 3, 5] [2, 3] fun K hK => ?_
        simp
        first | refine hK _ _ ?_ | refine ⟨by omega, hK _ _ ?_⟩ | refine ⟨by omega, by omega, hK _ _ ?_⟩
        clear hK K
        refine ⟨i + 1, ⟨by omega, fun rep n h3 h4 h5 h6 => ?_⟩, by omega, ?_⟩
        · by_cases hrep : rep ≤ i
          · exact hall rep n h3 hrep h5 h6
          · obtain rfl : rep = i + 1 := by omega
            exact hallj n h5 (by omega)
        · simp [w1]
    · refine AWp.cond (t := false) (by first | (simp; done) | (simp; omega)) (by simp) (fun _ => ?_)
      refine AWp.exit ?_
      show AWp _ _ _ _
      obtain rfl : i = 5 := by omega
      simp only [Bool.and_eq_true] at hq
      have hcl : Calm [AV.sl .fro 1 (intsAV a.upto), .sl .fro 2 (dotsAV a.more)] := fun c hc => by simp at hc; rcases hc with rfl | rfl <;> rfl
      refine AWp.go [4] [] fun K hK => ?_
      simp
      refine call_proc [(0, 2)] none (c_ContainsFunc_Dot1 b.more 116 (fun d => !(seenOk a && hasD a d)) [.sl .fro 1 (intsAV a.upto), .sl .fro 2 (dotsAV a.more)] hcl (fun n => c_dots_Lacks1 a n hau ham) hbm) (by simp) (by simp) ?_
      simp
      first | refine hK _ _ ?_ | refine ⟨by omega, hK _ _ ?_⟩ | refine ⟨by omega, by omega, hK _ _ ?_⟩
      clear hK K
      refine AWp.ret ?_
      have hb := ((seenOk_iff b).1 hq.2).1
      have hh : ∀ d, mayD d = true → (hasD a d = true ↔ Hs a d) := fun d hd => by simp [hasD, hd, Hs]
      have e : (b.more.any fun d => !(seenOk a && hasD a d)) = r := by
        rw [Bool.eq_iff_iff, hr (by simp [hq]), List.any_eq_true]
        constructor
        · rintro ⟨d, hd, h⟩
          rw [hq.1] at h
          simp only [Bool.true_and, Bool.not_eq_true', ← Bool.not_eq_true] at h
          exact ⟨d, hb.may d hd, .inr hd, fun h2 => h ((hh d (hb.may d hd)).2 h2)⟩
        · rintro ⟨d, hd, h1, h2⟩
          rcases h1 with h1 | h1
          · exfalso
            have hp := mayD_pos hd
            by_cases h3 : d.2 ≤ getC a.upto d.1
            · exact h2 (.inl h3)
            · exact h2 (.inr (hall d.1 d.2 (by omega) (by omega) (by omega) h1))
          · refine ⟨d, h1, ?_⟩
            rw [hq.1]
            simp only [Bool.true_and, Bool.not_eq_true', ← Bool.not_eq_true]
            exact fun h4 => h2 ((hh d hd).1 h4)
      simp [← e]
end Go.AM
namespace Go.AM
open Go.Proofs

theorem maxF_get {f g : List Int} (hf : f.length = 5) (hg : g.length = 5) (k : Nat) (hk : k < 5) : (maxF f g).getD k 0 = max (f.getD k 0) (g.getD k 0) := by
  unfold maxF
  rw [List.getD_eq_getElem?_getD, List.getD_eq_getElem?_getD, List.getD_eq_getElem?_getD, List.getElem?_eq_getElem (show k < f.length by omega), List.getElem?_eq_getElem (show k < g.length by omega), List.getElem?_zipWith_eq_some.2 ⟨f[k], g[k], List.getElem?_eq_getElem _, List.getElem?_eq_getElem _, rfl⟩]
  rfl
theorem join2_ok (u v : List Int) : (joinL [u, v]).length = 5 ∧ (∀ n ∈ joinL [u, v], okN n) ∧ ∀ k, k < 5 → (joinL [u, v]).getD k 0 = max ((ofL u).getD k 0) ((ofL v).getD k 0) := by
  have h1 := joinL_len [u, v]
  have hz : ([0, 0, 0, 0, 0] : List Int).length = 5 := rfl
  have h2 : (maxF [0, 0, 0, 0, 0] (ofL u)).length = 5 := by unfold maxF; rw [List.length_zipWith, ofL_length]; rfl
  have hget : ∀ (u : List Int) k, k < 5 → 0 ≤ (ofL u).getD k 0 ∧ (ofL u).getD k 0 ≤ 1048576 := by
    intro u k hk
    rw [← getC_at u k hk]
    exact getC_range u _
  have h3 : ∀ k, k < 5 → (joinL [u, v]).getD k 0 = max ((ofL u).getD k 0) ((ofL v).getD k 0) := by
    intro k hk
    have e : joinL [u, v] = maxF (maxF [0, 0, 0, 0, 0] (ofL u)) (ofL v) := rfl
    rw [e, maxF_get h2 (ofL_length v) k hk, maxF_get hz (ofL_length u) k hk]
    have h0 : ([0, 0, 0, 0, 0] : List Int).getD k 0 = 0 := by
      match k, hk with
      | 0, _ | 1, _ | 2, _ | 3, _ | 4, _ => rfl
    have := hget u k hk
    rw [h0]
    omega
  refine ⟨h1, fun n hn => ?_, h3⟩
  obtain ⟨k, hk, rfl⟩ := List.mem_iff_getElem.1 hn
  have := h3 k (by omega)
  rw [List.getD_eq_getElem?_getD, List.getElem?_eq_getElem hk] at this
  have a1 := hget u k (by omega)
  have a2 := hget v k (by omega)
  have e : (joinL [u, v])[k] = max ((ofL u).getD k 0) ((ofL v).getD k 0) := this
  rw [e]
  unfold okN
  omega
theorem getC_join (u v : List Int) (rep : Int) : getC (plainL (joinL [u, v])) rep = max (getC u rep) (getC v rep) := by
  obtain ⟨h1, h2, h3⟩ := join2_ok u v
  rw [getC_plainL h1 h2]
  unfold getC
  by_cases hr : 1 ≤ rep ∧ rep ≤ 5
  · rw [if_pos hr, if_pos hr, if_pos hr, h3 _ (by omega)]
  · rw [if_neg hr, if_neg hr, if_neg hr]; rfl

/-- The dots that a number tells. -/
def numL (rep : Int) (n : Nat) : List Dot := (List.range n).map fun k : Nat => (rep, (k : Int) + 1)
def numsTo (u : List Int) (i : Nat) : List Dot := ((List.range i).map fun r : Nat => numL ((r : Int) + 1) (getC u (r + 1)).toNat).flatten
theorem numsTo_succ (u : List Int) (i : Nat) : numsTo u (i + 1) = numsTo u i ++ numL ((i : Int) + 1) (getC u (i + 1)).toNat := by
  unfold numsTo
  rw [List.range_succ, List.map_append, List.flatten_append]
  simp
theorem numL_succ (rep : Int) (n : Nat) : numL rep (n + 1) = numL rep n ++ [(rep, (n : Int) + 1)] := by
  unfold numL
  rw [List.range_succ, List.map_append]
  rfl
theorem mem_numL (rep : Int) (n : Nat) (d : Dot) : d ∈ numL rep n ↔ d.1 = rep ∧ 1 ≤ d.2 ∧ d.2 ≤ n := by
  unfold numL
  rw [List.mem_map]
  constructor
  · rintro ⟨k, hk, rfl⟩
    have := List.mem_range.1 hk
    exact ⟨rfl, by show 1 ≤ (k : Int) + 1; omega, by show (k : Int) + 1 ≤ n; omega⟩
  · rintro ⟨h1, h2, h3⟩
    refine ⟨(d.2 - 1).toNat, List.mem_range.2 (by omega), ?_⟩
    refine Prod.ext h1.symm ?_
    show (((d.2 - 1).toNat : Nat) : Int) + 1 = d.2
    omega
theorem mem_numsTo (u : List Int) (d : Dot) : ∀ i, d ∈ numsTo u i ↔ (1 ≤ d.1 ∧ d.1 ≤ i) ∧ 1 ≤ d.2 ∧ d.2 ≤ getC u d.1
  | 0 => by simp [numsTo]; omega
  | i + 1 => by
    have hr := getC_range u (i + 1)
    rw [numsTo_succ, List.mem_append, mem_numsTo u d i, mem_numL]
    constructor
    · rintro (h | ⟨h1, h2, h3⟩)
      · omega
      · rw [h1]; omega
    · intro h
      by_cases hd : d.1 ≤ i
      · left; omega
      · right
        have h1 : d.1 = i + 1 := by omega
        rw [h1] at h
        omega
theorem numL_length (rep : Int) (n : Nat) : (numL rep n).length = n := by simp [numL]
theorem numsTo_len (u : List Int) : ∀ i, i ≤ 5 → (numsTo u i).length = (sumTo u i).toNat
  | 0, _ => by simp [numsTo, sumTo]
  | i + 1, h => by
    have := sumTo_range u i (by omega)
    have := getC_range u (i + 1)
    have e : sumTo u (i + 1) = sumTo u i + getC u (i + 1) := rfl
    rw [numsTo_succ, List.length_append, numL_length, numsTo_len u i (by omega), e]
    omega
theorem sumTo_mono (u : List Int) : ∀ i j, i ≤ j → j ≤ 5 → sumTo u i ≤ sumTo u j
  | i, 0, h, _ => by have : i = 0 := by omega
                     subst this; omega
  | i, j + 1, h, h5 => by
    by_cases he : i = j + 1
    · subst he; omega
    · have := sumTo_mono u i j (by omega) (by omega)
      have := getC_range u (j + 1)
      conv => rhs; unfold sumTo
      omega

/-- What both have seen, told in two ways. -/
theorem join_fold {a b : Seen} (ha : Ok a) (hb : Ok b) : (numsTo b.upto 5 ++ b.more).foldl addD a = settled (plainL (joinL [a.upto, b.upto])) (a.more ++ b.more) := by
  have hm : ∀ d ∈ numsTo b.upto 5 ++ b.more, mayD d = true := by
    intro d hd
    rcases List.mem_append.1 hd with h | h
    · have h2 := (mem_numsTo b.upto d 5).1 h
      have := getC_range b.upto d.1
      simp [mayD]; omega
    · exact hb.may d h
  have hm2 : ∀ d ∈ a.more ++ b.more, mayD d = true := fun d hd => (List.mem_append.1 hd).elim (ha.may d) (hb.may d)
  rw [addD_fold ha _ hm]
  have h1 := settled_spec a.upto (a.more ++ (numsTo b.upto 5 ++ b.more)) (fun d hd => (List.mem_append.1 hd).elim (ha.may d) (hm d))
  have h2 := settled_spec (plainL (joinL [a.upto, b.upto])) (a.more ++ b.more) hm2
  refine Ok.ext h1.1 h2.1 fun x hx => ?_
  have hp := mayD_pos hx
  rw [h1.2.2 x hx, h2.2.2 x hx, getC_join, List.mem_append, List.mem_append, List.mem_append, mem_numsTo]
  constructor
  · rintro (h | h | h | h)
    · left; omega
    · right; left; exact h
    · left; omega
    · right; right; exact h
  · rintro (h | h | h)
    · by_cases hx2 : x.2 ≤ getC a.upto x.1
      · exact .inl hx2
      · right; right; left; omega
    · right; left; exact h
    · right; right; right; exact h

theorem fold_hs {a b : Seen} (ha : Ok a) (hb : Ok b) (x : Dot) (hx : mayD x = true) : Hs ((numsTo b.upto 5 ++ b.more).foldl addD a) x ↔ Hs a x ∨ Hs b x := by
  rw [join_fold ha hb]
  have hm2 : ∀ d ∈ a.more ++ b.more, mayD d = true := fun d hd => (List.mem_append.1 hd).elim (ha.may d) (hb.may d)
  rw [(settled_spec (plainL (joinL [a.upto, b.upto])) (a.more ++ b.more) hm2).2.2 x hx, getC_join, List.mem_append]
  unfold Hs
  constructor
  · rintro (h | h | h)
    · by_cases h2 : x.2 ≤ getC a.upto x.1
      · exact .inl (.inl h2)
      · exact .inr (.inl (by omega))
    · exact .inl (.inr h)
    · exact .inr (.inr h)
  · rintro ((h | h) | (h | h))
    · left; omega
    · right; left; exact h
    · left; omega
    · right; right; exact h

theorem lacks_iff {a b : Seen} (ha : Ok a) (hb : Ok b) : (!decide ((numsTo b.upto 5 ++ b.more).foldl addD a = a)) = true ↔ ∃ d, mayD d = true ∧ Hs b d ∧ ¬ Hs a d := by
  have how : Ok ((numsTo b.upto 5 ++ b.more).foldl addD a) := by
    rw [join_fold ha hb]
    exact (settled_spec _ _ fun d hd => (List.mem_append.1 hd).elim (ha.may d) (hb.may d)).1
  rw [Bool.not_eq_true', decide_eq_false_iff_not]
  constructor
  · intro h
    refine Classical.byContradiction fun hn => h (Ok.ext how ha fun x hx => ?_)
    rw [fold_hs ha hb x hx]
    refine ⟨fun h2 => h2.elim id fun h3 => Classical.byContradiction fun h4 => hn ⟨x, hx, h3, h4⟩, .inl⟩
  · rintro ⟨d, hd, h1, h2⟩ he
    refine h2 ?_
    rw [← he]
    exact (fold_hs ha hb d hd).2 (.inr h1)

def lightS (s : Seen) : Bool := decide (s.upto.length ≤ 20) && decide (s.more.length ≤ 40)
def lowS (s : Seen) : Bool := decide (sumTo s.upto 5 ≤ 200)
def wD (a : Seen) (l : List Dot) : Seen := l.foldl addD a

set_option maxRecDepth 8000 in
set_option maxHeartbeats 8000000 in
theorem c_DotsJoin (a b : Seen) (hau : a.upto.length ≤ 9223372036854775807) (hbu : b.upto.length ≤ 9223372036854775807) : Pure Try.prog 10 [.agg (seenC a), .agg (seenC b)] (.b true) := by
  refine proc_of (cx Try.prog 119 [2, 3, 4, 5, 6, 7, 8, 9, 10, 28, 42, 50, 69, 77, 89] [4]) 117 [.tmp 4] Try.func10 rfl rfl rfl rfl rfl rfl (Nat.le_refl _) rfl ?_
  refine AWp.go [2, 3] [2, 3] fun K hK => ?_
  simp [seenC]
  first | refine hK _ _ ?_ | refine ⟨by omega, hK _ _ ?_⟩ | refine ⟨by omega, by omega, hK _ _ ?_⟩
  clear hK K
  refine AWp.seq ?_
  refine AWp.step [2, 3, 28] [2, 3] [(2, .ptr 2 0), (3, .ptr 3 0), (28, .b (!(lightS a && lightS b && lowS a && lowS b)))] [(2, [.sl .fro 1 (intsAV a.upto), .sl .fro 2 (dotsAV a.more)]), (3, [.sl .fro 1 (intsAV b.upto), .sl .fro 2 (dotsAV b.more)])] ?_ ?_
  · have k1 : ∀ s, Pure Try.prog 47 [.agg (seenC s)] (.b (lightS s)) := c_law04_Light
    have k2 : ∀ s : Seen, s.upto.length ≤ 1000000 → Pure Try.prog 62 [.agg (seenC s)] (.b (lowS s)) := c_law04_low
    simp
    refine call_pure (k1 a) (by simp [seenC]) ?_
    cases q1 : lightS a
    · simp
    · simp
      refine call_pure (k1 b) (by simp [seenC]) ?_
      cases q2 : lightS b
      · simp
      · simp only [lightS, Bool.and_eq_true, decide_eq_true_eq] at q1 q2
        simp
        refine call_pure (k2 a (by omega)) (by simp [seenC]) ?_
        cases q3 : lowS a
        · simp
        · simp
          refine call_pure (k2 b (by omega)) (by simp [seenC]) ?_
          simp
  cases hq : lightS a && lightS b && lowS a && lowS b
  · refine AWp.cond (t := true) (by simp) (fun _ => ?_) (by simp)
    refine AWp.go [4] [] fun K hK => ?_
    simp
    refine call_pure (c_law04_awake) (by simp) ?_
    simp
    first | refine hK _ _ ?_ | refine ⟨by omega, hK _ _ ?_⟩ | refine ⟨by omega, by omega, hK _ _ ?_⟩
    clear hK K
    refine AWp.ret ?_
    simp
  · refine AWp.cond (t := false) (by simp) (by simp) (fun _ => ?_)
    simp only [lightS, lowS, Bool.and_eq_true, decide_eq_true_eq] at hq
    obtain ⟨⟨⟨⟨ha1, ha2⟩, hb1, hb2⟩, hsa⟩, hsb⟩ := hq
    refine AWp.skip ?_
    show AWp _ _ _ _
    refine AWp.step [2, 3, 5, 6] [2, 3, 5] [(2, .ptr 2 0), (3, .ptr 3 0), (5, .ptr 5 0), (6, .i .i64 (joinE a b))] [(2, [.sl .fro 1 (intsAV a.upto), .sl .fro 2 (dotsAV a.more)]), (3, [.sl .fro 1 (intsAV b.upto), .sl .fro 2 (dotsAV b.more)]), (5, [.sl .fro 1 (intsAV (joinP a b).upto), .sl .fro 2 (dotsAV (joinP a b).more)])] ?_ ?_
    · simp
      refine call_pure (c_dots_Join a b (by omega) (by omega) (by omega) (by omega)) (by simp [seenC]) ?_
      simp [seenC]
    refine AWp.seq ?_
    refine AWp.stepD 7 (fun k => .b (decide (a = b))) [2, 3, 5, 6, 42] [2, 3, 5] [(2, .ptr 2 0), (3, .ptr 3 0), (5, .ptr 5 0), (6, .i .i64 (joinE a b)), (42, .b false)] [(2, [.sl .fro 1 (intsAV a.upto), .sl .fro 2 (dotsAV a.more)]), (3, [.sl .fro 1 (intsAV b.upto), .sl .fro 2 (dotsAV b.more)]), (5, [.sl .fro 1 (intsAV (joinP a b).upto), .sl .fro 2 (dotsAV (joinP a b).more)])] mix (by kernel_rfl) ?_ ?_
    · have g1 := c_dots_Same a b (by omega) (by omega)
      have g2 := c_ref04_Same a b (by omega) (by omega)
      simp [seenC] at g1 g2
      simp [g1, g2]
    refine AWp.cond (t := false) (by first | (simp; done) | (simp; omega)) (by simp) (fun _ => ?_)
    refine AWp.skip ?_
    show AWp _ _ _ _
    refine AWp.seq ?_
    refine AWp.step [2, 3, 5, 6, 50] [2, 3, 5] [(2, .ptr 2 0), (3, .ptr 3 0), (5, .ptr 5 0), (6, .i .i64 (joinE a b)), (50, .b (!(seenOk a && seenOk b)))] [(2, [.sl .fro 1 (intsAV a.upto), .sl .fro 2 (dotsAV a.more)]), (3, [.sl .fro 1 (intsAV b.upto), .sl .fro 2 (dotsAV b.more)]), (5, [.sl .fro 1 (intsAV (joinP a b).upto), .sl .fro 2 (dotsAV (joinP a b).more)])] ?_ ?_
    · simp
      refine call_pure (c_ref04_Seen a (by omega) (by omega)) (by simp [seenC]) ?_
      cases q1 : seenOk a
      · simp
      · simp
        refine call_pure (c_ref04_Seen b (by omega) (by omega)) (by simp [seenC]) ?_
        simp
    cases hs : seenOk a && seenOk b
    · refine AWp.cond (t := true) (by simp) (fun _ => ?_) (by simp)
      have hx : joinP a b = ⟨[], []⟩ := by unfold joinP; rw [hs]; rfl
      have he : joinE a b = 1 := by unfold joinE; rw [hs]; rfl
      rw [hx, he]
      refine AWp.step [4] [] [(4, .b true)] [] ?_ ?_
      · simp
        refine call_pure (c_ref04_Same ⟨[], []⟩ ⟨[], []⟩ (by simp) (by simp)) (by simp [seenC]) ?_
        simp
        refine call_pure (c_dots_Lacks a b (by omega) (by omega) (by omega) (by omega) false (fun _ => rfl) (fun h => by rw [hs] at h; cases h)) (by simp [seenC]) ?_
        simp
        refine call_pure c_law04_awake (by simp) ?_
        simp
      refine AWp.ret ?_
      simp
    · refine AWp.cond (t := false) (by simp) (by simp) (fun _ => ?_)
      have hs2 := hs
      simp only [Bool.and_eq_true] at hs2
      have hoa := ((seenOk_iff a).1 hs2.1).1
      have hob := ((seenOk_iff b).1 hs2.2).1
      have hsl := settled_len (plainL (joinL [a.upto, b.upto])) (a.more ++ b.more)
      rw [List.length_append] at hsl
      have hjf := join_fold hoa hob
      have hx : joinP a b = wD a (numsTo b.upto 5 ++ b.more) := by
        unfold wD
        rw [hjf]
        unfold joinP fullS
        rw [hs, if_pos rfl, if_pos (by omega)]
      have he : joinE a b = 0 := by
        unfold joinE fullE
        rw [hs, if_pos rfl, if_pos (by omega)]
      have hnm : ∀ i, i ≤ 5 → ∀ d ∈ numsTo b.upto i, mayD d = true := fun i hi d hd => by
        have h2 := (mem_numsTo b.upto d i).1 hd
        have := getC_range b.upto d.1
        simp [mayD]; omega
      refine AWp.skip ?_
      show AWp _ _ _ _
      refine AWp.go [2, 3, 5, 6, 7] [2, 3, 5, 7] fun K hK => ?_
      simp
      first | refine hK _ _ ?_ | refine ⟨by omega, hK _ _ ?_⟩ | refine ⟨by omega, by omega, hK _ _ ?_⟩
      clear hK K
      refine AWp.seq ?_
      refine AWp.go [2, 3, 5, 6, 7, 8] [2, 3, 5, 7] fun K hK => ?_
      simp
      first | refine hK _ _ ?_ | refine ⟨by omega, hK _ _ ?_⟩ | refine ⟨by omega, by omega, hK _ _ ?_⟩
      clear hK K
      refine AWp.block (AWp.while (fun i : Nat => [(2, .ptr 2 0), (3, .ptr 3 0), (5, .ptr 5 0), (6, .i .i64 (joinE a b)), (7, .ptr 7 0), (8, .i .i64 (i + 1))]) (fun i => [(2, [.sl .fro 1 (intsAV a.upto), .sl .fro 2 (dotsAV a.more)]), (3, [.sl .fro 1 (intsAV b.upto), .sl .fro 2 (dotsAV b.more)]), (5, [.sl .fro 1 (intsAV (joinP a b).upto), .sl .fro 2 (dotsAV (joinP a b).more)]), (7, [.sl .fro 1 (intsAV (wD a (numsTo b.upto i)).upto), .sl .fro 2 (dotsAV (wD a (numsTo b.upto i)).more)])]) (fun i => i ≤ 5) (fun i => 5 - i) [2, 3, 5, 6, 7, 8] [2, 3, 5, 7] 0 (by simp) (by simp [numsTo, wD]) ?_)
      intro i hi
      refine AWp.seq ?_
      refine AWp.go [2, 3, 5, 6, 7, 8, 69] [2, 3, 5, 7] fun K hK => ?_
      simp
      first | refine hK _ _ ?_ | refine ⟨by omega, hK _ _ ?_⟩ | refine ⟨by omega, by omega, hK _ _ ?_⟩
      clear hK K
      by_cases h : i < 5
      · refine AWp.cond (t := true) (by first | (simp; done) | (simp; omega)) (fun _ => ?_) (by simp)
        have w1 : IntKind.i64.wrap ((i : Int) + 1 + 1) = i + 1 + 1 := wrap64 (by omega) (by omega)
        have gb := getC_range b.upto (i + 1)
        have hsm := sumTo_mono b.upto (i + 1) 5 (by omega) (by omega)
        have hsr := sumTo_range b.upto i (by omega)
        have hsu : sumTo b.upto (i + 1) = sumTo b.upto i + getC b.upto (i + 1) := rfl
        have hnl := numsTo_len b.upto i (by omega)
        refine AWp.skip ?_
        show AWp _ _ _ _
        refine AWp.seq ?_
        refine AWp.block ?_
        refine AWp.go [2, 3, 5, 6, 7, 8, 9] [2, 3, 5, 7] fun K hK => ?_
        simp
        first | refine hK _ _ ?_ | refine ⟨by omega, hK _ _ ?_⟩ | refine ⟨by omega, by omega, hK _ _ ?_⟩
        clear hK K
        refine AWp.block (AWp.while (fun j : Nat => [(2, .ptr 2 0), (3, .ptr 3 0), (5, .ptr 5 0), (6, .i .i64 (joinE a b)), (7, .ptr 7 0), (8, .i .i64 (i + 1)), (9, .i .i64 (j + 1))]) (fun j => [(2, [.sl .fro 1 (intsAV a.upto), .sl .fro 2 (dotsAV a.more)]), (3, [.sl .fro 1 (intsAV b.upto), .sl .fro 2 (dotsAV b.more)]), (5, [.sl .fro 1 (intsAV (joinP a b).upto), .sl .fro 2 (dotsAV (joinP a b).more)]), (7, [.sl .fro 1 (intsAV (wD a (numsTo b.upto i ++ numL ((i : Int) + 1) j)).upto), .sl .fro 2 (dotsAV (wD a (numsTo b.upto i ++ numL ((i : Int) + 1) j)).more)])]) (fun j => (j : Int) ≤ getC b.upto (i + 1)) (fun j => (getC b.upto (i + 1)).toNat - j) [2, 3, 5, 6, 7, 8, 9] [2, 3, 5, 7] 0 (by simp; omega) (by simp [numL]) ?_)
        intro j hj
        have hmj : ∀ d ∈ numsTo b.upto i ++ numL ((i : Int) + 1) j, mayD d = true := by
          intro d hd
          rcases List.mem_append.1 hd with hd | hd
          · exact hnm i (by omega) d hd
          · have := (mem_numL _ _ _).1 hd
            simp [mayD]; omega
        obtain ⟨hf1, hf2⟩ := foldD_len hoa _ hmj
        replace hf1 : (wD a _).upto.length ≤ 5 := hf1
        replace hf2 : (wD a _).more.length ≤ _ := hf2
        rw [List.length_append, numL_length, hnl] at hf2
        have hup : (wD a (numsTo b.upto i ++ numL ((i : Int) + 1) j)).upto.length ≤ 1000 := by omega
        refine AWp.seq ?_
        refine AWp.go [2, 3, 5, 6, 7, 8, 9, 77] [2, 3, 5, 7] fun K hK => ?_
        simp
        refine call_pure (c_ref03_Get b.upto (i + 1) (by omega)) (by simp) ?_
        simp
        first | refine hK _ _ ?_ | refine ⟨by omega, hK _ _ ?_⟩ | refine ⟨by omega, by omega, hK _ _ ?_⟩
        clear hK K
        by_cases h2 : (j : Int) + 1 ≤ getC b.upto (i + 1)
        · refine AWp.cond (t := true) (by first | (simp [h2]; done) | (simp [h2]; omega)) (fun _ => ?_) (by simp)
          refine AWp.skip ?_
          show AWp _ _ _ _
          refine AWp.seq ?_
          refine AWp.block ?_
          have e : wD a (numsTo b.upto i ++ numL ((i : Int) + 1) (j + 1)) = addD (wD a (numsTo b.upto i ++ numL ((i : Int) + 1) j)) ((i : Int) + 1, (j : Int) + 1) := by unfold wD; rw [numL_succ, ← List.append_assoc, List.foldl_append]; rfl
          have g1 := c_ref04_Add (wD a (numsTo b.upto i ++ numL ((i : Int) + 1) j)) ((i : Int) + 1, (j : Int) + 1) (by omega) (by omega)
          rw [← e] at g1
          generalize wD a (numsTo b.upto i ++ numL ((i : Int) + 1) j) = cur at g1 ⊢
          simp only [seenC, dotC] at g1
          refine AWp.goLast [2, 3, 5, 6, 7, 8, 9] [2, 3, 5, 7] fun K hK => ?_
          simp
          refine call_pure g1 (by simp) ?_
          simp
          refine hK _ _ ?_
          clear hK K
          show AWp _ _ _ _
          refine AWp.goLast [2, 3, 5, 6, 7, 8, 9] [2, 3, 5, 7] fun K hK => ?_
          simp
          first | refine hK _ _ ?_ | refine ⟨by omega, hK _ _ ?_⟩ | refine ⟨by omega, by omega, hK _ _ ?_⟩
          clear hK K
          have w3 : IntKind.i64.wrap ((j : Int) + 1 + 1) = j + 1 + 1 := wrap64 (by omega) (by omega)
          refine ⟨j + 1, by omega, by omega, ?_⟩
          simp [w3]
        · refine AWp.cond (t := false) (by first | (simp [h2]; done) | (simp [h2]; omega)) (by simp) (fun _ => ?_)
          refine AWp.exit ?_
          show AWp _ _ _ _
          refine AWp.goLast [2, 3, 5, 6, 7, 8] [2, 3, 5, 7] fun K hK => ?_
          simp
          first | refine hK _ _ ?_ | refine ⟨by omega, hK _ _ ?_⟩ | refine ⟨by omega, by omega, hK _ _ ?_⟩
          clear hK K
          obtain rfl : j = (getC b.upto (i + 1)).toNat := by omega
          refine ⟨i + 1, by omega, by omega, ?_⟩
          rw [numsTo_succ]
          simp [w1]
      · refine AWp.cond (t := false) (by first | (simp; done) | (simp; omega)) (by simp) (fun _ => ?_)
        refine AWp.exit ?_
        show AWp _ _ _ _
        refine AWp.seq ?_
        obtain rfl : i = 5 := by omega
        have hnl := numsTo_len b.upto 5 (by omega)
        have hsr := sumTo_range b.upto 5 (by omega)
        refine AWp.go [2, 3, 5, 6, 7, 10] [2, 3, 5, 7] fun K hK => ?_
        simp
        first | refine hK _ _ ?_ | refine ⟨by omega, hK _ _ ?_⟩ | refine ⟨by omega, by omega, hK _ _ ?_⟩
        clear hK K
        refine AWp.block (AWp.while (fun j : Nat => [(2, .ptr 2 0), (3, .ptr 3 0), (5, .ptr 5 0), (6, .i .i64 (joinE a b)), (7, .ptr 7 0), (10, .i .i64 j)]) (fun j => [(2, [.sl .fro 1 (intsAV a.upto), .sl .fro 2 (dotsAV a.more)]), (3, [.sl .fro 1 (intsAV b.upto), .sl .fro 2 (dotsAV b.more)]), (5, [.sl .fro 1 (intsAV (joinP a b).upto), .sl .fro 2 (dotsAV (joinP a b).more)]), (7, [.sl .fro 1 (intsAV (wD a (numsTo b.upto 5 ++ b.more.take j)).upto), .sl .fro 2 (dotsAV (wD a (numsTo b.upto 5 ++ b.more.take j)).more)])]) (fun j => j ≤ b.more.length) (fun j => b.more.length - j) [2, 3, 5, 6, 7, 10] [2, 3, 5, 7] 0 (by simp) (by simp) ?_)
        intro j hj
        have hmj : ∀ d ∈ numsTo b.upto 5 ++ b.more.take j, mayD d = true := by
          intro d hd
          rcases List.mem_append.1 hd with hd | hd
          · exact hnm 5 (by omega) d hd
          · exact hob.may d (List.mem_of_mem_take hd)
        obtain ⟨hf1, hf2⟩ := foldD_len hoa _ hmj
        replace hf1 : (wD a _).upto.length ≤ 5 := hf1
        replace hf2 : (wD a _).more.length ≤ _ := hf2
        have htk : (b.more.take j).length ≤ 40 := by rw [List.length_take]; omega
        rw [List.length_append, hnl] at hf2
        refine AWp.seq ?_
        refine AWp.go [2, 3, 5, 6, 7, 10, 89] [2, 3, 5, 7] fun K hK => ?_
        simp
        first | refine hK _ _ ?_ | refine ⟨by omega, hK _ _ ?_⟩ | refine ⟨by omega, by omega, hK _ _ ?_⟩
        clear hK K
        by_cases h2 : j < b.more.length
        · refine AWp.cond (t := true) (by first | (simp [h2]; done) | (simp [h2]; omega)) (fun _ => ?_) (by simp)
          refine AWp.skip ?_
          show AWp _ _ _ _
          refine AWp.seq ?_
          refine AWp.block ?_
          have e : wD a (numsTo b.upto 5 ++ b.more.take (j + 1)) = addD (wD a (numsTo b.upto 5 ++ b.more.take j)) b.more[j] := by unfold wD; rw [List.take_succ_eq_append_getElem h2, ← List.append_assoc, List.foldl_append]; rfl
          have g1 := c_ref04_Add (wD a (numsTo b.upto 5 ++ b.more.take j)) b.more[j] (by omega) (by omega)
          rw [← e] at g1
          generalize wD a (numsTo b.upto 5 ++ b.more.take j) = cur at g1 ⊢
          simp only [seenC, dotC] at g1
          refine AWp.goLastD 7 (fun k => .agg (seenC (wD a (numsTo b.upto 5 ++ b.more.take (j + 1))))) [2, 3, 5, 6, 7, 10] [2, 3, 5, 7] mix (by kernel_rfl) fun K hK => ?_
          simp [h2, seenC]
          refine ⟨g1, hK _ _ ?_⟩
          clear hK K
          show AWp _ _ _ _
          refine AWp.goLast [2, 3, 5, 6, 7, 10] [2, 3, 5, 7] fun K hK => ?_
          simp
          first | refine hK _ _ ?_ | refine ⟨by omega, hK _ _ ?_⟩ | refine ⟨by omega, by omega, hK _ _ ?_⟩
          clear hK K
          have w3 : IntKind.i64.wrap ((j : Int) + 1) = j + 1 := wrap64 (by omega) (by omega)
          refine ⟨j + 1, by omega, by omega, ?_⟩
          simp [w3]
        · refine AWp.cond (t := false) (by first | (simp [h2]; done) | (simp [h2]; omega)) (by simp) (fun _ => ?_)
          refine AWp.exit ?_
          show AWp _ _ _ _
          obtain rfl : j = b.more.length := by omega
          rw [List.take_length] at hf1 hf2 ⊢
          rw [he, hx]
          have hlk : (!decide (wD a (numsTo b.upto 5 ++ b.more) = a)) = true ↔ _ := lacks_iff hoa hob
          refine AWp.stepD 20 (fun k => if k = 5 then .b true else if k = 10 then .b (!decide (wD a (numsTo b.upto 5 ++ b.more) = a)) else if k = 13 then .b (decide (wD a (numsTo b.upto 5 ++ b.more) = a)) else .b true) [4] [] [(4, .b true)] [] mix (by kernel_rfl) ?_ ?_
          · generalize hw : wD a (numsTo b.upto 5 ++ b.more) = w at hf1 hf2 hlk ⊢
            have g1 := c_ref04_Same w w (by omega) (by omega)
            have g2 := c_dots_Lacks a b (by omega) (by omega) (by omega) (by omega) (!decide (w = a)) (fun h => by rw [hs] at h; cases h) (fun _ => hlk)
            have g3 := c_ref04_Same w a (by omega) (by omega)
            have g4 := c_law04_awake
            simp [seenC] at g1 g2 g3
            simp [g1, g2, g3, g4]
          refine AWp.ret ?_
          simp
end Go.AM
namespace Go.AM

inductive TT where
  | int (k : IntKind)
  | bool
  | str
  | sl (sz : Nat) (e : TT)
  | st (fs : List TT)

mutual
def TT.size : TT → Nat
  | .st fs => TT.sizeL fs
  | _ => 1
def TT.sizeL : List TT → Nat
  | [] => 0
  | f :: fs => f.size + TT.sizeL fs
end

mutual
/-- Is it the shape of a type? -/
def TT.isAt (P : Program) : TT → TypeId → Bool
  | .int k, t => match P.underlying t with
    | some (.int k') => k' == k
    | _ => false
  | .bool, t => match P.underlying t with
    | some .bool => true
    | _ => false
  | .str, t => match P.underlying t with
    | some .string => true
    | _ => false
  | .sl sz e, t => match P.underlying t with
    | some (.slice et) => P.cellsOf et == sz && decide (0 < sz) && e.size == sz && e.isAt P et
    | _ => false
  | .st fs, t => match P.underlying t with
    | some (.struct fl) => P.cellsOf t == TT.sizeL fs && TT.isL P fs fl.toList 0
    | _ => false
def TT.isL (P : Program) : List TT → List Field → Nat → Bool
  | [], [], _ => true
  | f :: fs, d :: ds, off => d.offset == off && P.cellsOf d.type == f.size && f.isAt P d.type && TT.isL P fs ds (off + f.size)
  | _, _, _ => false
end

mutual
/-- Cells of such a shape. -/
def TT.fit : TT → List AV → Prop
  | .int k, avs => ∃ n, avs = [.i k n] ∧ k.min ≤ n ∧ n ≤ k.max
  | .bool, avs => ∃ b, avs = [.b b]
  | .str, avs => ∃ s, avs = [.s s] ∧ s.size ≤ maxLen
  | .sl sz e, avs => ∃ xs, avs = [.sl .fro sz xs] ∧ xs.length ≤ maxLen ∧ ∀ x ∈ xs, e.fit x
  | .st fs, avs => TT.fitL fs avs
def TT.fitL : List TT → List AV → Prop
  | [], avs => avs = []
  | f :: fs, avs => ∃ a b, avs = a ++ b ∧ f.fit a ∧ TT.fitL fs b
end

section
variable {H : Type} {enc : TypeId × Value → H} {P : Program} {w : World} {held : Bool}

/-- Cells that are read as data. -/
def AsDat (w : World) (avs : List AV) (cs : List Value) : Prop := avs.length = cs.length ∧ ∀ (k : Nat) c, avs[k]? = some c → ∃ u, cs[k]? = some u ∧ DatC (fun b => b < w.heap.size) w c u

theorem AsDat.one {w : World} {c : AV} {u : Value} (h : Dat (fun b => b < w.heap.size) w c u) (h1 : u.oneCell' = true) : AsDat w [c] [u] := ⟨rfl, fun k c' hk => by
  cases k with
  | zero => simp at hk; subst hk; exact ⟨u, rfl, h, h1⟩
  | succ k => simp at hk⟩

theorem cell_spot {w : World} {a : Addr} {v : Value} (h : w.cell? a = some v) : a.spot = none := by
  unfold World.cell? at h
  split at h
  · cases hs : a.spot with
    | none => rfl
    | some s => simp [hs] at h
  · cases h

theorem cell_lt' {w : World} {a : Addr} {v : Value} (h : w.cell? a = some v) : a.block < w.heap.size := by
  unfold World.cell? at h
  split at h
  · rename_i h1; exact (Array.getElem?_eq_some_iff.1 h1).1
  · cases h

mutual
theorem trod_dat : ∀ (T : TT) (n : Nat) (t : TypeId) (cs : List Value) (x : DataW H × List MemPlace), T.isAt P t = true → DataW.trod enc P w 0 (fun _ => true) held n t cs = some x → ∃ avs, T.fit avs ∧ avs.length = T.size ∧ AsDat w avs cs
  | .int k, n, t, cs, x, hT, h => by
    simp only [TT.isAt] at hT
    split at hT
    · rename_i k' hu
      have : k' = k := by simpa using hT
      subst this
      obtain ⟨m, rfl, _, hw⟩ := DataW.trod_int hu h
      simp only [Lit.wf, Bool.and_eq_true, decide_eq_true_eq] at hw
      exact ⟨[.i k' m], ⟨m, rfl, hw⟩, rfl, .one (.i _ _) rfl⟩
    · cases hT
  | .bool, n, t, cs, x, hT, h => by
    simp only [TT.isAt] at hT
    split at hT
    · rename_i hu
      obtain ⟨b, rfl, _⟩ := DataW.trod_bool hu h
      exact ⟨[.b b], ⟨b, rfl⟩, rfl, .one (.b _) rfl⟩
    · cases hT
  | .str, n, t, cs, x, hT, h => by
    simp only [TT.isAt] at hT
    split at hT
    · rename_i hu
      obtain ⟨s, rfl, _, hs⟩ := DataW.trod_string hu h
      exact ⟨[.s s], ⟨s, rfl, hs⟩, rfl, .one (.s _) rfl⟩
    · cases hT
  | .sl sz e, n, t, cs, x, hT, h => by
    simp only [TT.isAt] at hT
    split at hT
    · rename_i et hu
      simp only [Bool.and_eq_true, beq_iff_eq, decide_eq_true_eq] at hT
      obtain ⟨⟨⟨hc, hz⟩, hes⟩, he⟩ := hT
      rcases DataW.trod_slice hu h with ⟨rfl, _⟩ | ⟨a, len, cap, elems, rest, m, _, rfl, _, _, hlc, hm, hlen, hel, _, _⟩
      · exact ⟨[.sl .fro sz []], ⟨[], rfl, by simp, by simp⟩, rfl, .one (.sl0 sz) rfl⟩
      · have each : ∀ i, i < len → ∃ avs : List AV, e.fit avs ∧ avs.length = sz ∧ ∀ (j : Nat) c, avs[j]? = some c → ∃ u, w.cell? ((a.add (i * sz)).add j) = some u ∧ DatC (fun b => b < w.heap.size) w c u := by
          intro i hi
          have h1 := hel i hi
          rw [hc, List.getElem?_eq_getElem (by omega)] at h1
          obtain ⟨cs', h2, h3⟩ := Option.bind_eq_some_iff.1 h1
          obtain ⟨avs, g1, g2, g3, g4⟩ := trod_dat e m et cs' _ he h3
          refine ⟨avs, g1, by rw [g2, hes], fun j c hj => ?_⟩
          obtain ⟨u, hu1, hd⟩ := g4 j c hj
          have hjl := (List.getElem?_eq_some_iff.1 hj).1
          exact ⟨u, by rw [(World.cells?_some h2).2.2 j (by omega)]; exact hu1, hd⟩
        obtain ⟨xs, hxl, hxs⟩ : ∃ xs : List (List AV), xs.length = len ∧ ∀ (i : Nat) x, xs[i]? = some x → e.fit x ∧ x.length = sz ∧ ∀ (j : Nat) c, x[j]? = some c → ∃ u, w.cell? ((a.add (i * sz)).add j) = some u ∧ DatC (fun b => b < w.heap.size) w c u := by
          refine ⟨(List.range len).map fun i => if hi : i < len then Classical.choose (each i hi) else [], by simp, fun i x hx => ?_⟩
          rw [List.getElem?_map] at hx
          obtain ⟨i', hi', rfl⟩ := Option.map_eq_some_iff.1 hx
          obtain ⟨hl, hi2⟩ := List.getElem?_eq_some_iff.1 hi'
          simp at hl hi2
          subst hi2
          rw [dif_pos hl]
          exact Classical.choose_spec (each i hl)
        have hfit : ∀ x ∈ xs, e.fit x := fun x hx => by
          obtain ⟨i, hi⟩ := List.mem_iff_getElem?.1 hx
          exact (hxs i x hi).1
        refine ⟨[.sl .fro sz xs], ⟨xs, rfl, by omega, hfit⟩, rfl, .one ?_ rfl⟩
        rcases Nat.eq_zero_or_pos len with h0 | h0
        · have : xs = [] := List.eq_nil_of_length_eq_zero (by omega)
          subst this
          rw [h0]
          exact .sl1 sz a cap
        · obtain ⟨g1, g2, g3⟩ := hxs 0 _ (List.getElem?_eq_getElem (by omega))
          obtain ⟨u, hu1, _⟩ := g3 0 _ (List.getElem?_eq_getElem (by omega))
          have haa : (a.add (0 * sz)).add 0 = a := by simp [Addr.add]
          rw [haa] at hu1
          have hsp := cell_spot hu1
          have hlt := cell_lt' hu1
          obtain ⟨bk, off, sp⟩ := a
          simp only at hsp hlt
          subst hsp
          rw [← hxl]
          have hl : ∀ x ∈ xs, x.length = sz := fun x hx => by
            obtain ⟨i, hi⟩ := List.mem_iff_getElem?.1 hx
            exact (hxs i x hi).2.1
          have hcell : ∀ (k : Nat) c, xs.flatten[k]? = some c → ∃ u, w.cell? ⟨bk, off + k, none⟩ = some u ∧ DatC (fun b => b < w.heap.size) w c u := by
            intro k c hk
            have hfl := flatten_length hl
            have hk1 := (List.getElem?_eq_some_iff.1 hk).1
            have hdiv : k / sz < xs.length := by rw [Nat.div_lt_iff_lt_mul hz]; omega
            have hmod : k % sz < sz := Nat.mod_lt _ hz
            have hx := List.getElem?_eq_getElem hdiv
            obtain ⟨_, q2, q3⟩ := hxs _ _ hx
            have hj : (xs[k / sz])[k % sz]? = some ((xs[k / sz])[k % sz]'(by omega)) := List.getElem?_eq_getElem (by omega)
            have e1 := flat_get hl (k / sz) (k % sz) _ _ hx hj
            rw [show k / sz * sz + k % sz = k by rw [Nat.mul_comm]; exact Nat.div_add_mod k sz, hk] at e1
            obtain rfl := Option.some.inj e1
            obtain ⟨u, hu2, hd⟩ := q3 _ _ hj
            refine ⟨u, ?_, hd⟩
            rw [add_none, add_none, Nat.add_assoc, show k / sz * sz + k % sz = k by rw [Nat.mul_comm]; exact Nat.div_add_mod k sz] at hu2
            exact hu2
          refine .sl sz xs bk off cap (fun k => (w.cell? ⟨bk, off + k, none⟩).getD undef) hlt (by omega) hl (fun k c hk => ?_) (fun k c hk => ?_) (fun k c hk => ?_)
          · obtain ⟨u, hu2, hd⟩ := hcell k c hk
            simp [hu2]
          · obtain ⟨u, hu2, hd⟩ := hcell k c hk
            simpa [hu2] using hd.2
          · obtain ⟨u, hu2, hd⟩ := hcell k c hk
            simpa [hu2] using hd.1
    · cases hT
  | .st fs, n, t, cs, x, hT, h => by
    simp only [TT.isAt] at hT
    split at hT
    · rename_i fl hu
      simp only [Bool.and_eq_true, beq_iff_eq] at hT
      obtain ⟨xs, m, _, _, hlen, hxl, hf⟩ := DataW.trod_struct hu h
      obtain ⟨avs, g1, g2, g3⟩ := trod_datL fs m fl.toList 0 cs hT.2 (fun i f hi => by
        rw [Array.getElem?_toList] at hi
        rw [hf i f hi]
        exact ⟨_, List.getElem?_eq_getElem (by rw [hxl]; exact (Array.getElem?_eq_some_iff.1 hi).1)⟩) (by omega)
      refine ⟨avs, g1, g2, ?_, fun k c hk => ?_⟩
      · rw [g2, hlen, hT.1]
      · obtain ⟨u, hu1, hd⟩ := g3 k c hk
        exact ⟨u, by simpa using hu1, hd⟩
    · cases hT
theorem trod_datL : ∀ (fs : List TT) (n : Nat) (fl : List Field) (off : Nat) (cs : List Value), TT.isL P fs fl off = true →
    (∀ (i : Nat) f, fl[i]? = some f → ∃ x, DataW.trod enc P w 0 (fun _ => true) held n f.type ((cs.drop f.offset).take (P.cellsOf f.type)) = some x) → off + TT.sizeL fs ≤ cs.length →
    ∃ avs, TT.fitL fs avs ∧ avs.length = TT.sizeL fs ∧ ∀ (k : Nat) c, avs[k]? = some c → ∃ u, cs[off + k]? = some u ∧ DatC (fun b => b < w.heap.size) w c u
  | [], n, fl, off, cs, _, _, _ => ⟨[], rfl, rfl, by simp⟩
  | f :: fs, n, [], off, cs, hT, _, _ => by simp [TT.isL] at hT
  | f :: fs, n, d :: ds, off, cs, hT, h, hl => by
    simp only [TT.isL, Bool.and_eq_true, beq_iff_eq] at hT
    obtain ⟨⟨⟨h1, h2⟩, h3⟩, h4⟩ := hT
    simp only [TT.sizeL] at hl
    obtain ⟨x, hx⟩ := h 0 d rfl
    obtain ⟨a, a1, a2, a3, a4⟩ := trod_dat f n d.type _ x h3 hx
    obtain ⟨b, b1, b2, b3⟩ := trod_datL fs n ds (off + f.size) cs h4 (fun i g hi => h (i + 1) g (by simpa using hi)) (by omega)
    refine ⟨a ++ b, ⟨a, b, rfl, a1, b1⟩, by simp [TT.sizeL, a2, b2], fun k c hk => ?_⟩
    by_cases hlt : k < a.length
    · rw [List.getElem?_append_left hlt] at hk
      obtain ⟨u, hu, hd⟩ := a4 k c hk
      rw [List.getElem?_take, if_pos (by omega), List.getElem?_drop, h1] at hu
      exact ⟨u, hu, hd⟩
    · rw [List.getElem?_append_right (by omega)] at hk
      obtain ⟨u, hu, hd⟩ := b3 _ c hk
      exact ⟨u, by rw [← hu]; congr 1; omega, hd⟩
end
end
end Go.AM
namespace Go.AM
open Go.RowKit Go.WideShapes

/-- A law that holds over data, called. -/
theorem Pure.calls {P : Program} {f : Nat} {args : List AV} {b : Bool} (h : Pure P f args (.b b)) {w : World} {vs : Array Value} (hl : args.length = vs.size) (hv : ∀ (k : Nat) c, args[k]? = some c → Dat (fun b => b < w.heap.size) w c (vs.getD k undef)) :
    Calls P f vs w fun e w' => e = .returned (.bool b) ∧ Below w.heap.size w w' := by
  refine (h.2 w (fun _ => 0) (fun _ => none) (fun bk => bk < w.heap.size) vs (rel_empty _ _ _ fun _ h => h) (by simp) hl (fun k c hk => (hv k c hk).val (E := ⟨w, fun _ => 0, fun _ => none, fun bk => bk < w.heap.size, St.ofBoxes [], #[]⟩) _)).mono ?_
  rintro e w' ⟨v, E', rfl, rfl, I, _, _, hr⟩
  refine ⟨by cases hr; rfl, I.fr.os, I.fr.tape, I.fr.output, I.fr.size, fun k hk => I.fr.block k hk (by simp)⟩

def TT.wrap : TT → List AV → AV
  | .st _, avs => .agg avs
  | _, avs => avs.getD 0 .any

theorem arg_dat {H : Type} {enc : TypeId × Value → H} {P : Program} {w : World} {held : Bool} {r : Reach} {b0 : Nat} {t : TypeId} {v : Value} {d : DataW H} {p : List MemPlace} (T : TT) (hT : T.isAt P t = true) (hval : Value.okWide P w r b0 t v)
    (h : DataW.Trod enc P w 0 (fun _ => true) held t v d p) : ∃ avs, T.fit avs ∧ Dat (fun b => b < w.heap.size) w (T.wrap avs) v := by
  obtain ⟨n, hn⟩ := h
  obtain ⟨avs, h1, h2, h3⟩ := trod_dat T n t _ _ hT hn
  refine ⟨avs, h1, ?_⟩
  have one : v.cells.toList = [v] → avs.length = 1 → Dat (fun b => b < w.heap.size) w (avs.getD 0 .any) v := by
    intro hc hl
    match avs, hl with
    | [c], _ =>
      obtain ⟨u, hu, hd⟩ := h3.2 0 c rfl
      rw [hc] at hu
      obtain rfl := Option.some.inj hu
      exact hd.1
  cases T with
  | int k =>
    simp only [TT.isAt] at hT
    split at hT
    · rename_i k' hu
      obtain ⟨n, rfl⟩ := okWide_int hu hval
      exact one rfl h2
    · cases hT
  | bool =>
    simp only [TT.isAt] at hT
    split at hT
    · rename_i hu
      obtain ⟨n, rfl⟩ := okWide_bool hu hval
      exact one rfl h2
    · cases hT
  | str =>
    simp only [TT.isAt] at hT
    split at hT
    · rename_i hu
      obtain ⟨n, rfl⟩ := okWide_string hu hval
      exact one rfl h2
    · cases hT
  | sl sz e =>
    simp only [TT.isAt] at hT
    split at hT
    · rename_i et hu
      obtain ⟨a, len, cap, rfl⟩ := okWide_slice hu hval
      exact one rfl h2
    · cases hT
  | st fs =>
    simp only [TT.isAt] at hT
    split at hT
    · rename_i fl hu
      simp only [Value.okWide, hu] at hval
      obtain ⟨cs, rfl, _, _⟩ := hval
      refine .agg _ cs (by rw [h3.1]; simp [Value.cells]) fun k c hk => ?_
      obtain ⟨u, hu, hd⟩ := h3.2 k c hk
      simp only [Value.cells, Array.getElem?_toList] at hu
      rw [Array.getD_eq_getD_getElem?, hu]
      exact hd.1
    · cases hT

theorem list_of {α : Type} {g : α → List AV} : ∀ {xs : List (List AV)}, (∀ x ∈ xs, ∃ a, x = g a) → ∃ l : List α, xs = l.map g
  | [], _ => ⟨[], rfl⟩
  | x :: xs, h => by
    obtain ⟨a, rfl⟩ := h x (by simp)
    obtain ⟨l, rfl⟩ := list_of (xs := xs) fun y hy => h y (by simp [hy])
    exact ⟨a :: l, rfl⟩
end Go.AM
