/- The other sets: add, drop, has, keys; the document's; awake. -/
import Derived.Test.YtkjbnpecjildiaaAmG
import Derived.Test.YtkjbnpecjildiaaAmD
import Derived.ChangeArms
import Derived.ChangeOld
import Derived.ChangeShapes
import Derived.Below
import Derived.SizedLaws
import Derived.Carry
import Derived.OpenShut
import Derived.WideShapes
set_option linter.unusedSimpArgs false
set_option linter.unusedVariables false
namespace Go.AM
open Go.Proofs
theorem setOkA_live {s : List Entry} (h : setOkA s = true) {k : ByteArray} (ht : there s k = true) : (atE s k).live ≠ [] := by
  have hlt := there_lt ht
  have hat : atE s k = s[place s k] := by simp [atE, ht, hlt]
  rw [hat]
  exact (((setOkA_iff s).1 h).2 _ (List.getElem_mem hlt)).1
theorem c_awset_turn (s : List Entry) (k : ByteArray) (c : List Int) (more : List Dot) (hs : Fine s) (hl : s.length < 4000) (hc : c.length ≤ 1000000) (ho : setOkA s = true) (hm : more.length ≤ 1000) (hb : (atE s k).live.length ≤ 900000) :
    Pure Try.prog 64 [.sl .fro 3 (entsAV s), .s k, .sl .fro 1 (intsAV c), .sl .fro 2 (dotsAV more)] (.tup [.sl .own 3 (entsAV (turnA s k c more)), .i .i64 0]) := by
  unfold turnA
  split
  · rename_i ht; exact c_awset_turnT s k c more hs hc ht (setOkA_live ho ht) hm hb
  · rename_i ht; exact c_awset_turnM s k c more hs hl (by simpa using ht) hm
def mayA (s : List Entry) (k : ByteArray) (d : Dot) (c : List Int) : Bool := setOkA s && keyOk k && mayD d && clockOk c
def mayB (s : List Entry) (k : ByteArray) (c : List Int) : Bool := setOkA s && keyOk k && clockOk c

set_option maxRecDepth 8000 in
set_option maxHeartbeats 2000000 in
theorem c_awset_Add (s : List Entry) (k : ByteArray) (d : Dot) (c : List Int) (hs : Fine s) (hl : s.length < 4000) (hc : c.length ≤ 1000000) (hb : (atE s k).live.length ≤ 900000) : Pure Try.prog 26 [.sl .fro 3 (entsAV s), .s k, .agg (dotC d), .sl .fro 1 (intsAV c)] (.tup [.sl .own 3 (entsAV (if mayA s k d c then turnA s k c [d] else [])), .i .i64 (if mayA s k d c then 0 else 1)]) := by
  refine proc_of (cx Try.prog 36 [0, 1, 3, 6, 8, 9, 27] [8, 9]) 32 [.tmp 8, .tmp 9] Try.func26 rfl rfl rfl rfl rfl rfl (Nat.le_refl _) rfl ?_
  refine AWp.go [0, 1, 3, 6] [6] fun K hK => ?_
  simp [dotC]
  first | refine hK _ _ ?_ | refine ⟨by omega, hK _ _ ?_⟩ | refine ⟨by omega, by omega, hK _ _ ?_⟩
  clear hK K
  refine AWp.seq ?_
  refine AWp.step [0, 1, 3, 6, 27] [6] [(0, .sl .fro 3 (entsAV s)), (1, .s k), (3, .sl .fro 1 (intsAV c)), (6, .ptr 6 0), (27, .b (!mayA s k d c))] [(6, [.i .i64 d.1, .i .i64 d.2])] ?_ ?_
  · have g1 := c_awset_Check s hs
    have g2 := c_awset_rightKey k
    have g3 := c_dots_May d
    have g4 := c100 c (by omega)
    simp
    refine call_pure g1 (by simp) ?_
    cases q1 : setOkA s
    · simp [mayA, q1]
    simp
    refine call_pure g2 (by simp) ?_
    cases q2 : keyOk k
    · simp [mayA, q2]
    simp
    refine call_pure g3 (by simp [dotC]) ?_
    cases q3 : mayD d
    · simp [mayA, q3]
    simp
    refine call_pure g4 (by simp) ?_
    cases q4 : clockOk c <;> simp [mayA, q1, q2, q3, q4]
  cases hg : mayA s k d c
  · refine AWp.cond (t := true) (by simp) (fun _ => ?_) (by simp)
    refine AWp.go [8, 9] [] fun K hK => ?_
    simp
    first | refine hK _ _ ?_ | refine ⟨by omega, hK _ _ ?_⟩ | refine ⟨by omega, by omega, hK _ _ ?_⟩
    clear hK K
    refine AWp.ret ?_
    simp [entsAV]
  · refine AWp.cond (t := false) (by simp) (by simp) (fun _ => ?_)
    refine AWp.skip ?_
    show AWp _ _ _ _
    have ho : setOkA s = true := by
      simp [mayA] at hg
      exact hg.1.1.1
    refine AWp.go [8, 9] [] fun K hK => ?_
    simp
    refine call_pure (c_awset_turn s k c [d] hs hl hc ho (by simp) hb) (by simp [dotsAV, dotC]) ?_
    simp
    first | refine hK _ _ ?_ | refine ⟨by omega, hK _ _ ?_⟩ | refine ⟨by omega, by omega, hK _ _ ?_⟩
    clear hK K
    refine AWp.ret ?_
    simp

set_option maxRecDepth 8000 in
set_option maxHeartbeats 2000000 in
theorem c_awset_Drop (s : List Entry) (k : ByteArray) (c : List Int) (hs : Fine s) (hl : s.length < 4000) (hc : c.length ≤ 1000000) (hb : (atE s k).live.length ≤ 900000) : Pure Try.prog 27 [.sl .fro 3 (entsAV s), .s k, .sl .fro 1 (intsAV c)] (.tup [.sl .own 3 (entsAV (if mayB s k c then turnA s k c [] else [])), .i .i64 (if mayB s k c then 0 else 1)]) := by
  refine proc_of (cx Try.prog 27 [0, 1, 2, 6, 7, 20] [6, 7]) 24 [.tmp 6, .tmp 7] Try.func27 rfl rfl rfl rfl rfl rfl (Nat.le_refl _) rfl ?_
  refine AWp.go [0, 1, 2] [] fun K hK => ?_
  simp
  first | refine hK _ _ ?_ | refine ⟨by omega, hK _ _ ?_⟩ | refine ⟨by omega, by omega, hK _ _ ?_⟩
  clear hK K
  refine AWp.seq ?_
  refine AWp.step [0, 1, 2, 20] [] [(0, .sl .fro 3 (entsAV s)), (1, .s k), (2, .sl .fro 1 (intsAV c)), (20, .b (!mayB s k c))] [] ?_ ?_
  · have g1 := c_awset_Check s hs
    have g2 := c_awset_rightKey k
    have g4 := c100 c (by omega)
    simp
    refine call_pure g1 (by simp) ?_
    cases q1 : setOkA s
    · simp [mayB, q1]
    simp
    refine call_pure g2 (by simp) ?_
    cases q2 : keyOk k
    · simp [mayB, q2]
    simp
    refine call_pure g4 (by simp) ?_
    cases q4 : clockOk c <;> simp [mayB, q1, q2, q4]
  cases hg : mayB s k c
  · refine AWp.cond (t := true) (by simp) (fun _ => ?_) (by simp)
    refine AWp.go [6, 7] [] fun K hK => ?_
    simp
    first | refine hK _ _ ?_ | refine ⟨by omega, hK _ _ ?_⟩ | refine ⟨by omega, by omega, hK _ _ ?_⟩
    clear hK K
    refine AWp.ret ?_
    simp [entsAV]
  · refine AWp.cond (t := false) (by simp) (by simp) (fun _ => ?_)
    refine AWp.skip ?_
    show AWp _ _ _ _
    have ho : setOkA s = true := by
      simp [mayB] at hg
      exact hg.1.1
    refine AWp.go [6, 7] [] fun K hK => ?_
    simp
    refine call_pure (c_awset_turn s k c [] hs hl hc ho (by simp) hb) (by simp [dotsAV]) ?_
    simp
    first | refine hK _ _ ?_ | refine ⟨by omega, hK _ _ ?_⟩ | refine ⟨by omega, by omega, hK _ _ ?_⟩
    clear hK K
    refine AWp.ret ?_
    simp

set_option maxRecDepth 8000 in
theorem c_awset_Has (s : List Entry) (k : ByteArray) (hs : Fine s) : Pure Try.prog 37 [.sl .fro 3 (entsAV s), .s k] (.b (setOkA s && there s k)) := by
  refine proc_of (cx Try.prog 17 [0, 1, 4, 6, 9] [4]) 15 [.tmp 4] Try.func37 rfl rfl rfl rfl rfl rfl (Nat.le_refl _) rfl ?_
  refine AWp.go [0, 1] [] fun K hK => ?_
  simp
  first | refine hK _ _ ?_ | refine ⟨by omega, hK _ _ ?_⟩ | refine ⟨by omega, by omega, hK _ _ ?_⟩
  clear hK K
  refine AWp.seq ?_
  refine AWp.go [0, 1, 9] [] fun K hK => ?_
  simp
  refine call_pure (c_awset_Check s hs) (by simp) ?_
  simp
  first | refine hK _ _ ?_ | refine ⟨by omega, hK _ _ ?_⟩ | refine ⟨by omega, by omega, hK _ _ ?_⟩
  clear hK K
  cases hg : setOkA s
  · refine AWp.cond (t := true) (by simp) (fun _ => ?_) (by simp)
    refine AWp.go [4] [] fun K hK => ?_
    simp
    first | refine hK _ _ ?_ | refine ⟨by omega, hK _ _ ?_⟩ | refine ⟨by omega, by omega, hK _ _ ?_⟩
    clear hK K
    refine AWp.ret ?_
    simp
  · refine AWp.cond (t := false) (by simp) (by simp) (fun _ => ?_)
    refine AWp.skip ?_
    show AWp _ _ _ _
    refine AWp.go [6] [] fun K hK => ?_
    simp
    refine call_pure (c_awset_find s k hs) (by simp) ?_
    simp
    first | refine hK _ _ ?_ | refine ⟨by omega, hK _ _ ?_⟩ | refine ⟨by omega, by omega, hK _ _ ?_⟩
    clear hK K
    refine AWp.go [4] [] fun K hK => ?_
    simp
    first | refine hK _ _ ?_ | refine ⟨by omega, hK _ _ ?_⟩ | refine ⟨by omega, by omega, hK _ _ ?_⟩
    clear hK K
    refine AWp.ret ?_
    simp

set_option maxRecDepth 8000 in
theorem c_awset_Keys (s : List Entry) (hs : Fine s) : Pure Try.prog 46 [.sl .fro 3 (entsAV s)] (.sl .own 1 (keysAV (if setOkA s then s else []))) := by
  have hlen := hs.1
  refine proc_of (cx Try.prog 22 [0, 2, 3, 5, 8, 9, 10, 11, 12] [2]) 21 [.tmp 2] Try.func46 rfl rfl rfl rfl rfl rfl (Nat.le_refl _) rfl ?_
  refine AWp.go [0] [] fun K hK => ?_
  simp
  first | refine hK _ _ ?_ | refine ⟨by omega, hK _ _ ?_⟩ | refine ⟨by omega, by omega, hK _ _ ?_⟩
  clear hK K
  refine AWp.seq ?_
  refine AWp.go [0, 8] [] fun K hK => ?_
  simp
  refine call_pure (c_awset_Check s hs) (by simp) ?_
  simp
  first | refine hK _ _ ?_ | refine ⟨by omega, hK _ _ ?_⟩ | refine ⟨by omega, by omega, hK _ _ ?_⟩
  clear hK K
  cases hg : setOkA s
  · refine AWp.cond (t := true) (by simp) (fun _ => ?_) (by simp)
    refine AWp.go [2] [] fun K hK => ?_
    simp
    first | refine hK _ _ ?_ | refine ⟨by omega, hK _ _ ?_⟩ | refine ⟨by omega, by omega, hK _ _ ?_⟩
    clear hK K
    refine AWp.ret ?_
    simp [keysAV]
  · refine AWp.cond (t := false) (by simp) (by simp) (fun _ => ?_)
    refine AWp.skip ?_
    show AWp _ _ _ _
    refine AWp.go [0, 3] [] fun K hK => ?_
    simp
    first | refine hK _ _ ?_ | refine ⟨by omega, hK _ _ ?_⟩ | refine ⟨by omega, by omega, hK _ _ ?_⟩
    clear hK K
    refine AWp.seq ?_
    refine AWp.go [3, 9, 10, 11] [] fun K hK => ?_
    simp
    first | refine hK _ _ ?_ | refine ⟨by omega, hK _ _ ?_⟩ | refine ⟨by omega, by omega, hK _ _ ?_⟩
    clear hK K
    refine AWp.block (AWp.while (fun i : Nat => [(3, .sl .own 1 (keysAV (s.take i))), (9, .sl .fro 3 (entsAV s)), (10, .i .i64 s.length), (11, .i .i64 i)]) (fun i => []) (fun i => i ≤ s.length) (fun i => s.length - i) [3, 9, 10, 11] [] 0 (by simp) (by simp [keysAV]) ?_)
    intro i hi
    refine AWp.go [3, 9, 10, 11, 12] [] fun K hK => ?_
    simp
    first | refine hK _ _ ?_ | refine ⟨by omega, hK _ _ ?_⟩ | refine ⟨by omega, by omega, hK _ _ ?_⟩
    clear hK K
    refine AWp.seq ?_
    by_cases h2 : i < s.length
    · refine AWp.cond (t := true) (by first | (simp [h2]; done) | (simp [h2]; omega)) (fun _ => ?_) (by simp)
      refine AWp.skip ?_
      show AWp _ _ _ _
      refine AWp.seq ?_
      refine AWp.block ?_
      refine AWp.go [3, 5, 9, 10, 11] [5] fun K hK => ?_
      simp [h2]
      first | refine hK _ _ ?_ | refine ⟨by omega, hK _ _ ?_⟩ | refine ⟨by omega, by omega, hK _ _ ?_⟩
      clear hK K
      refine AWp.goLast [3, 9, 10, 11] [] fun K hK => ?_
      simp
      first | refine hK _ _ ?_ | refine ⟨by omega, hK _ _ ?_⟩ | refine ⟨by omega, by omega, hK _ _ ?_⟩
      clear hK K
      show AWp _ _ _ _
      refine AWp.goLast [3, 9, 10, 11] [] fun K hK => ?_
      simp
      first | refine hK _ _ ?_ | refine ⟨by omega, hK _ _ ?_⟩ | refine ⟨by omega, by omega, hK _ _ ?_⟩
      clear hK K
      refine ⟨i + 1, by omega, by omega, ?_⟩
      have w1 : IntKind.i64.wrap ((i : Int) + 1) = i + 1 := wrap64 (by omega) (by omega)
      simp [keysAV_succ _ _ h2, w1]
    · refine AWp.cond (t := false) (by first | (simp [h2]; done) | (simp [h2]; omega)) (by simp) (fun _ => ?_)
      refine AWp.exit ?_
      show AWp _ _ _ _
      obtain rfl : i = s.length := by omega
      refine AWp.go [2] [] fun K hK => ?_
      simp [List.take_length]
      first | refine hK _ _ ?_ | refine ⟨by omega, hK _ _ ?_⟩ | refine ⟨by omega, by omega, hK _ _ ?_⟩
      clear hK K
      refine AWp.ret ?_
      simp

set_option maxRecDepth 8000 in
set_option maxHeartbeats 2000000 in
theorem c_ref08_Add (s : List Entry) (k : ByteArray) (d : Dot) (c : List Int) (hs : Fine s) (hc : c.length ≤ 1000000) (hb : (getE s k).live.length ≤ 999999) : Pure Try.prog 30 [.sl .fro 3 (entsAV s), .s k, .agg (dotC d), .sl .fro 1 (intsAV c)] (.sl .fro 3 (entsAV (addA s k d c))) := by
  have hl1 := leftD_len (getE s k).live c
  have hlen := hs.1
  refine proc_of (cx Try.prog 21 [0, 1, 3, 6, 8] [8]) 17 [.tmp 8] Try.func30 rfl rfl rfl rfl rfl rfl (Nat.le_refl _) rfl ?_
  refine AWp.go [0, 1, 3, 6] [6] fun K hK => ?_
  simp [dotC]
  first | refine hK _ _ ?_ | refine ⟨by omega, hK _ _ ?_⟩ | refine ⟨by omega, by omega, hK _ _ ?_⟩
  clear hK K
  have g0 := (c_ref08_Get s k hs).fro
  have g1 := (c_ref08_Left (getE s k).live c (by omega) hc).fro
  have g2 := c_ref04_Put (leftD (getE s k).live c) d (by omega)
  have hpl : (putD (leftD (getE s k).live c) d).length ≤ (leftD (getE s k).live c).length + 1 := putD_length _ _
  have g3 := (c_ref08_Put s ⟨k, putD (leftD (getE s k).live c) d, []⟩ (by omega) ⟨by dsimp only; omega, by simp⟩).fro
  simp [entC, show dotsAV [] = [] from rfl] at g0 g1 g2 g3
  refine AWp.stepD 12 (fun k0 => if k0 = 4 then .agg [.s (getE s k).key, .sl .fro 2 (dotsAV (getE s k).live), .sl .fro 2 (dotsAV (getE s k).dead)] else if k0 = 7 then .sl .fro 2 (dotsAV (leftD (getE s k).live c)) else if k0 = 9 then .sl .fro 2 (dotsAV (putD (leftD (getE s k).live c) d)) else if k0 = 11 then .sl .fro 3 (entsAV (putE s ⟨k, putD (leftD (getE s k).live c) d, []⟩)) else .any) [8] [] [(8, .sl .fro 3 (entsAV (addA s k d c)))] [] mix (by kernel_rfl) ?_ ?_
  · simp [addA]
    exact ⟨g0, g1, by simpa [dotC] using g2, g3⟩
  refine AWp.ret ?_
  simp

set_option maxRecDepth 8000 in
set_option maxHeartbeats 2000000 in
theorem c_ref08_Drop (s : List Entry) (k : ByteArray) (c : List Int) (hs : Fine s) (hc : c.length ≤ 1000000) (hb : (getE s k).live.length ≤ 999999) : Pure Try.prog 31 [.sl .fro 3 (entsAV s), .s k, .sl .fro 1 (intsAV c)] (.sl .own 3 (entsAV (dropA s k c))) := by
  have hl1 := leftD_len (getE s k).live c
  have hlen := hs.1
  refine proc_of (cx Try.prog 17 [0, 1, 2, 6] [6]) 14 [.tmp 6] Try.func31 rfl rfl rfl rfl rfl rfl (Nat.le_refl _) rfl ?_
  refine AWp.go [0, 1, 2] [] fun K hK => ?_
  simp
  first | refine hK _ _ ?_ | refine ⟨by omega, hK _ _ ?_⟩ | refine ⟨by omega, by omega, hK _ _ ?_⟩
  clear hK K
  refine AWp.go [6] [] fun K hK => ?_
  simp
  refine call_pure (c_ref08_Get s k hs) (by simp) ?_
  simp [entC]
  refine call_pure (c_ref08_Left (getE s k).live c (by omega) hc) (by simp) ?_
  simp
  refine call_pure (c_ref08_Put s ⟨k, leftD (getE s k).live c, []⟩ (by omega) ⟨by dsimp only; omega, by simp⟩) (by simp [entC, dotsAV]) ?_
  simp
  first | refine hK _ _ ?_ | refine ⟨by omega, hK _ _ ?_⟩ | refine ⟨by omega, by omega, hK _ _ ?_⟩
  clear hK K
  refine AWp.ret ?_
  simp [dropA]

theorem aw_1 : turnA [] kK [] [(1, 1)] = [wkA] := by
  unfold turnA turnM
  simp only [there_nil, place_nil, ordP_one]
  rfl
theorem wkA_okA : setOkA [wkA] = true := by kernel_rfl
theorem aw_2 : turnA [wkA] kK [0, 3] [] = [wkA] := by rw [drop_lawA wkA_okA]; kernel_rfl
theorem aw_3 : turnA [wkA] kK [1] [] = [] := by rw [drop_lawA wkA_okA]; kernel_rfl

set_option maxRecDepth 8000 in
set_option maxHeartbeats 4000000 in
theorem c_law08_awake : Pure Try.prog 25 [] (.b true) := by
  have eA : entsAV [wkA] = [entC wkA] := rfl
  have hat : atE [wkA] kK = wkA := atE_one wkA
  have hth : there [wkA] kK = true := there_one wkA
  have gA := c_awset_Add [] kK (1, 1) [] fine_nil (by simp) (by simp) (by simp [atE, there_nil, emptyE])
  have gD := c_awset_Drop [wkA] kK [0, 3] (fine_one _ (by decide)) (by simp) (by simp) (by rw [hat]; decide)
  have gE := c_awset_Drop [wkA] kK [1] (fine_one _ (by decide)) (by simp) (by simp) (by rw [hat]; decide)
  have hA := c_awset_Has [wkA] kK (fine_one _ (by decide))
  have hB := c_awset_Has [] kK fine_nil
  rw [show mayA [] kK (1, 1) [] = true by kernel_rfl, aw_1] at gA
  rw [show mayB [wkA] kK [0, 3] = true by kernel_rfl, aw_2] at gD
  rw [show mayB [wkA] kK [1] = true by kernel_rfl, aw_3] at gE
  rw [wkA_okA, hth] at hA
  rw [there_nil, Bool.and_false] at hB
  simp only [if_true] at gA gD gE
  refine proc_of (cx Try.prog 43 [0, 1, 2, 3, 4, 5, 6] [0]) 43 [.tmp 0] Try.func25 rfl rfl rfl rfl rfl rfl (Nat.le_refl _) rfl ?_
  refine AWp.go [] [] fun K hK => ?_
  simp
  first | refine hK _ _ ?_ | refine ⟨by omega, hK _ _ ?_⟩ | refine ⟨by omega, by omega, hK _ _ ?_⟩
  clear hK K
  refine AWp.go [1, 2] [] fun K hK => ?_
  simp
  refine call_pure gA (by simp [dotC, entsAV, intsAV]) ?_
  simp
  first | refine hK _ _ ?_ | refine ⟨by omega, hK _ _ ?_⟩ | refine ⟨by omega, by omega, hK _ _ ?_⟩
  clear hK K
  refine AWp.frz [1] ?_
  simp
  refine AWp.go [1, 2, 3, 4] [] fun K hK => ?_
  simp
  refine call_pure gD (by simp [intsAV]) ?_
  simp
  first | refine hK _ _ ?_ | refine ⟨by omega, hK _ _ ?_⟩ | refine ⟨by omega, by omega, hK _ _ ?_⟩
  clear hK K
  refine AWp.frz [3] ?_
  simp
  refine AWp.go [2, 3, 4, 5, 6] [] fun K hK => ?_
  simp
  refine call_pure gE (by simp [intsAV]) ?_
  simp
  first | refine hK _ _ ?_ | refine ⟨by omega, hK _ _ ?_⟩ | refine ⟨by omega, by omega, hK _ _ ?_⟩
  clear hK K
  refine AWp.frz [5] ?_
  simp
  refine AWp.step [0] [] [(0, .b true)] [] ?_ ?_
  · simp
    refine call_pure hA (by simp) ?_
    simp
    refine call_pure hB (by simp) ?_
    simp
  refine AWp.ret ?_
  simp
end Go.AM
namespace Go.AM
open Go.Proofs
theorem Within.get {n : Nat} {s : List Entry} (h : Within n s) (k : ByteArray) : (getE s k).live.length ≤ n ∧ (getE s k).dead.length ≤ n := by
  rcases getE_mem s k with hm | he
  · exact h.2 _ hm
  · rw [he]; simp [emptyE]
theorem Within.putA {n : Nat} {s : List Entry} (h : Within n s) (hs : SortE s) {e : Entry} (he : e.live.length ≤ n + 1 ∧ e.dead.length ≤ n + 1) : Within (n + 1) (putE s e) :=
  ⟨by have := putA_len s hs e; have := h.1; omega, fun x hx => by
    rcases putA_mem hs hx with hx | hx
    · have := h.2 x hx; omega
    · rw [hx]; exact he⟩
theorem Within.addA {n : Nat} {s : List Entry} (h : Within n s) (hs : SortE s) (k : ByteArray) (d : Dot) (c : List Int) : Within (n + 1) (addA s k d c) := by
  have h2 := h.get k
  have h3 := leftD_len (getE s k).live c
  have h4 : (putD (leftD (getE s k).live c) d).length ≤ (leftD (getE s k).live c).length + 1 := putD_length _ _
  exact h.putA hs ⟨by dsimp only; omega, by simp⟩
theorem Within.dropA {n : Nat} {s : List Entry} (h : Within n s) (hs : SortE s) (k : ByteArray) (c : List Int) : Within (n + 1) (dropA s k c) := by
  have h2 := h.get k
  have h3 := leftD_len (getE s k).live c
  exact h.putA hs ⟨by dsimp only; omega, by simp⟩
theorem setA_sort {s : List Entry} (h : setOkA s = true) : SortE s := setOk_sort ((setOkA_iff s).1 h).1
theorem mayA_eq (s : List Entry) (k : ByteArray) (d : Dot) (c : List Int) : mayA s k d c = (mayB s k c && mayD d) := by
  unfold mayA mayB
  cases setOkA s <;> cases keyOk k <;> cases mayD d <;> cases clockOk c <;> rfl
theorem mayB_ok {s : List Entry} {k : ByteArray} {c : List Int} (h : mayB s k c = true) : setOkA s = true ∧ keyOk k = true ∧ clockOk c = true := by
  simp [mayB] at h
  exact ⟨h.1.1, h.1.2, h.2⟩

set_option maxRecDepth 8000 in
set_option maxHeartbeats 4000000 in
theorem c_AwsetTurns (s : List Entry) (x : Deed) (hlen : s.length ≤ 9223372036854775807) (hcl : x.past.length ≤ 9223372036854775807) : Pure Try.prog 5 [.sl .fro 3 (entsAV s), .agg (deedC x)] (.b true) := by
  have g0 := c_law08_Light s hlen
  have gw := c_law08_awake
  refine proc_of (cx Try.prog 121 [0, 3, 4, 5, 6, 7, 8, 9, 24, 63, 71, 78, 93, 95] [4]) 119 [.tmp 4] Try.func5 rfl rfl rfl rfl rfl rfl (Nat.le_refl _) rfl ?_
  refine AWp.go [0, 3] [3] fun K hK => ?_
  simp [deedC]
  first | refine hK _ _ ?_ | refine ⟨by omega, hK _ _ ?_⟩ | refine ⟨by omega, by omega, hK _ _ ?_⟩
  clear hK K
  refine AWp.seq ?_
  refine AWp.step [0, 3, 24] [3] [(0, .sl .fro 3 (entsAV s)), (3, .ptr 3 0), (24, .b (!(lightB s && !decide ((100 : Int) < x.key.size) && !decide ((20 : Int) < x.past.length))))] [(3, [.s x.key, .i .i64 x.dot.1, .i .i64 x.dot.2, .sl .fro 1 (intsAV x.past)])] ?_ ?_
  · simp
    refine call_pure g0 (by simp) ?_
    cases q1 : lightB s
    · simp
    by_cases q2 : (100 : Int) < x.key.size
    · simp [q2]
    · simp [q2]
  cases hg : lightB s && !decide ((100 : Int) < x.key.size) && !decide ((20 : Int) < x.past.length)
  · refine AWp.cond (t := true) (by simp) (fun _ => ?_) (by simp)
    refine AWp.go [4] [] fun K hK => ?_
    simp
    refine call_pure gw (by simp) ?_
    simp
    first | refine hK _ _ ?_ | refine ⟨by omega, hK _ _ ?_⟩ | refine ⟨by omega, by omega, hK _ _ ?_⟩
    clear hK K
    refine AWp.ret ?_
    simp
  · refine AWp.cond (t := false) (by simp) (by simp) (fun _ => ?_)
    refine AWp.skip ?_
    show AWp _ _ _ _
    have hL : lightB s = true ∧ x.past.length ≤ 20 := by
      simp at hg
      exact ⟨hg.1.1, by omega⟩
    have hW := Within.of hL.1
    have hs := hW.fine (by omega)
    have hl := light_len hL.1
    have ga := c_awset_Add s x.key x.dot x.past hs (by omega) (by omega) (by have := hW.at x.key; omega)
    have gd := c_awset_Drop s x.key x.past hs (by omega) (by omega) (by have := hW.at x.key; omega)
    have gk := c_awset_Check s hs
    have gm := c_ref08_May s hs
    refine AWp.go [0, 3, 5, 6] [3] fun K hK => ?_
    simp
    refine call_pure ga (by simp [dotC]) ?_
    simp
    first | refine hK _ _ ?_ | refine ⟨by omega, hK _ _ ?_⟩ | refine ⟨by omega, by omega, hK _ _ ?_⟩
    clear hK K
    refine AWp.frz [5] ?_
    simp
    refine AWp.go [0, 3, 5, 6, 7, 8] [3] fun K hK => ?_
    simp
    refine call_pure gd (by simp) ?_
    simp
    first | refine hK _ _ ?_ | refine ⟨by omega, hK _ _ ?_⟩ | refine ⟨by omega, by omega, hK _ _ ?_⟩
    clear hK K
    refine AWp.frz [7] ?_
    simp
    refine AWp.step [0, 3, 5, 6, 7, 8, 9] [3] [(0, .sl .fro 3 (entsAV s)), (3, .ptr 3 0), (5, .sl .fro 3 (entsAV (if mayA s x.key x.dot x.past then turnA s x.key x.past [x.dot] else []))), (6, .i .i64 (if mayA s x.key x.dot x.past then 0 else 1)), (7, .sl .fro 3 (entsAV (if mayB s x.key x.past then turnA s x.key x.past [] else []))), (8, .i .i64 (if mayB s x.key x.past then 0 else 1)), (9, .b (mayB s x.key x.past))] [(3, [.s x.key, .i .i64 x.dot.1, .i .i64 x.dot.2, .sl .fro 1 (intsAV x.past)])] ?_ ?_
    · have g2 := c_ref08_Key x.key
      have g4 := c_ref03_May x.past (by omega)
      simp
      refine call_pure gm (by simp) ?_
      cases q1 : setOkA s
      · simp [mayB, q1]
      simp
      refine call_pure g2 (by simp) ?_
      cases q2 : keyOk x.key
      · simp [mayB, q2]
      simp
      refine call_pure g4 (by simp) ?_
      cases q3 : clockOk x.past <;> simp [mayB, q1, q2, q3]
    refine AWp.seq ?_
    refine AWp.step [0, 3, 5, 6, 7, 8, 9, 63] [3] [(0, .sl .fro 3 (entsAV s)), (3, .ptr 3 0), (5, .sl .fro 3 (entsAV (if mayA s x.key x.dot x.past then turnA s x.key x.past [x.dot] else []))), (6, .i .i64 (if mayA s x.key x.dot x.past then 0 else 1)), (7, .sl .fro 3 (entsAV (if mayB s x.key x.past then turnA s x.key x.past [] else []))), (8, .i .i64 (if mayB s x.key x.past then 0 else 1)), (9, .b (mayB s x.key x.past)), (63, .b false)] [(3, [.s x.key, .i .i64 x.dot.1, .i .i64 x.dot.2, .sl .fro 1 (intsAV x.past)])] ?_ ?_
    · simp
      refine call_pure gk (by simp) ?_
      simp
      refine call_pure gm (by simp) ?_
      cases q1 : setOkA s <;> simp
    refine AWp.cond (t := false) (by first | (simp; done) | (simp; omega)) (by simp) (fun _ => ?_)
    refine AWp.skip ?_
    show AWp _ _ _ _
    refine AWp.seq ?_
    refine AWp.step [0, 3, 5, 6, 7, 8, 9, 71] [3] [(0, .sl .fro 3 (entsAV s)), (3, .ptr 3 0), (5, .sl .fro 3 (entsAV (if mayA s x.key x.dot x.past then turnA s x.key x.past [x.dot] else []))), (6, .i .i64 (if mayA s x.key x.dot x.past then 0 else 1)), (7, .sl .fro 3 (entsAV (if mayB s x.key x.past then turnA s x.key x.past [] else []))), (8, .i .i64 (if mayB s x.key x.past then 0 else 1)), (9, .b (mayB s x.key x.past)), (71, .b (!mayA s x.key x.dot x.past))] [(3, [.s x.key, .i .i64 x.dot.1, .i .i64 x.dot.2, .sl .fro 1 (intsAV x.past)])] ?_ ?_
    · have g3 := c_ref04_May x.dot
      rw [mayA_eq]
      cases q1 : mayB s x.key x.past
      · simp
      simp
      refine call_pure g3 (by simp [dotC]) ?_
      simp
    cases hm : mayA s x.key x.dot x.past
    · refine AWp.cond (t := true) (by simp) (fun _ => ?_) (by simp)
      refine AWp.step [0, 3, 7, 8, 9, 78] [3] [(0, .sl .fro 3 (entsAV s)), (3, .ptr 3 0), (7, .sl .fro 3 (entsAV (if mayB s x.key x.past then turnA s x.key x.past [] else []))), (8, .i .i64 (if mayB s x.key x.past then 0 else 1)), (9, .b (mayB s x.key x.past)), (78, .b false)] [(3, [.s x.key, .i .i64 x.dot.1, .i .i64 x.dot.2, .sl .fro 1 (intsAV x.past)])] ?_ ?_
      · simp [entsAV]
      refine AWp.cond (t := false) (by first | (simp; done) | (simp; omega)) (by simp) (fun _ => ?_)
      refine AWp.skip ?_
      show AWp _ _ _ _
      refine AWp.seq ?_
      refine AWp.go [0, 3, 7, 8, 95] [3] fun K hK => ?_
      simp
      first | refine hK _ _ ?_ | refine ⟨by omega, hK _ _ ?_⟩ | refine ⟨by omega, by omega, hK _ _ ?_⟩
      clear hK K
      cases hb : mayB s x.key x.past
      · refine AWp.cond (t := true) (by simp) (fun _ => ?_) (by simp)
        refine AWp.step [4] [] [(4, .b true)] [] ?_ ?_
        · simp [entsAV]
          refine call_pure gw (by simp) ?_
          simp
        refine AWp.ret ?_
        simp
      · refine AWp.cond (t := false) (by simp) (by simp) (fun _ => ?_)
        refine AWp.skip ?_
        show AWp _ _ _ _
        have hso2 := (mayB_ok hb).1
        have hfd := (hW.dropA (setA_sort hso2) x.key x.past).fine (by omega)
        have g6 := c_ref08_Drop s x.key x.past hs (by omega) (by have := light_get hL.1 x.key; omega)
        have g8 := c_ref08_Same _ _ hfd hfd
        rw [sameB_refl] at g8
        rw [drop_lawA hso2]
        refine AWp.step [4] [] [(4, .b true)] [] ?_ ?_
        · simp
          refine call_pure g6 (by simp) ?_
          simp
          refine call_pure g8 (by simp) ?_
          simp
          refine call_pure gw (by simp) ?_
          simp
        refine AWp.ret ?_
        simp
    · refine AWp.cond (t := false) (by simp) (by simp) (fun _ => ?_)
      have hb : mayB s x.key x.past = true := by
        rw [mayA_eq] at hm
        simp at hm
        exact hm.1
      have hso := (mayB_ok hb).1
      have hfa := (hW.addA (setA_sort hso) x.key x.dot x.past).fine (by omega)
      have g5 := c_ref08_Add s x.key x.dot x.past hs (by omega) (by have := light_get hL.1 x.key; omega)
      have g7 := c_ref08_Same _ _ hfa hfa
      rw [sameB_refl] at g7
      rw [add_lawA hso]
      refine AWp.step [0, 3, 7, 8, 9, 93] [3] [(0, .sl .fro 3 (entsAV s)), (3, .ptr 3 0), (7, .sl .fro 3 (entsAV (if mayB s x.key x.past then turnA s x.key x.past [] else []))), (8, .i .i64 (if mayB s x.key x.past then 0 else 1)), (9, .b (mayB s x.key x.past)), (93, .b false)] [(3, [.s x.key, .i .i64 x.dot.1, .i .i64 x.dot.2, .sl .fro 1 (intsAV x.past)])] ?_ ?_
      · simp
        refine call_pure g5 (by simp [dotC]) ?_
        simp
        refine call_pure g7 (by simp) ?_
        simp
      refine AWp.cond (t := false) (by first | (simp; done) | (simp; omega)) (by simp) (fun _ => ?_)
      refine AWp.skip ?_
      show AWp _ _ _ _
      refine AWp.seq ?_
      rw [hb]
      refine AWp.go [0, 3, 7, 8, 95] [3] fun K hK => ?_
      simp
      first | refine hK _ _ ?_ | refine ⟨by omega, hK _ _ ?_⟩ | refine ⟨by omega, by omega, hK _ _ ?_⟩
      clear hK K
      refine AWp.cond (t := false) (by first | (simp; done) | (simp; omega)) (by simp) (fun _ => ?_)
      refine AWp.skip ?_
      show AWp _ _ _ _
      have hso2 := (mayB_ok hb).1
      have hfd := (hW.dropA (setA_sort hso2) x.key x.past).fine (by omega)
      have g6 := c_ref08_Drop s x.key x.past hs (by omega) (by have := light_get hL.1 x.key; omega)
      have g8 := c_ref08_Same _ _ hfd hfd
      rw [sameB_refl] at g8
      rw [drop_lawA hso2]
      refine AWp.step [4] [] [(4, .b true)] [] ?_ ?_
      · simp
        refine call_pure g6 (by simp) ?_
        simp
        refine call_pure g8 (by simp) ?_
        simp
        refine call_pure gw (by simp) ?_
        simp
      refine AWp.ret ?_
      simp

set_option maxRecDepth 8000 in
set_option maxHeartbeats 4000000 in
theorem c_AwsetTells (s t : List Entry) (k : ByteArray) (hlen : s.length ≤ 9223372036854775807) (hlent : t.length ≤ 9223372036854775807) : Pure Try.prog 10 [.sl .fro 3 (entsAV s), .sl .fro 3 (entsAV t), .s k] (.b true) := by
  have g0 := c_law08_Light s hlen
  have g0t := c_law08_Light t hlent
  have gw := c_law08_awake
  refine proc_of (cx Try.prog 81 [0, 1, 2, 6, 7, 8, 21, 31, 34, 63, 67, 79] [6]) 78 [.tmp 6] Try.func10 rfl rfl rfl rfl rfl rfl (Nat.le_refl _) rfl ?_
  refine AWp.go [0, 1, 2] [] fun K hK => ?_
  simp
  first | refine hK _ _ ?_ | refine ⟨by omega, hK _ _ ?_⟩ | refine ⟨by omega, by omega, hK _ _ ?_⟩
  clear hK K
  refine AWp.seq ?_
  refine AWp.step [0, 1, 2, 21] [] [(0, .sl .fro 3 (entsAV s)), (1, .sl .fro 3 (entsAV t)), (2, .s k), (21, .b (!(lightB s && lightB t && !decide ((100 : Int) < k.size))))] [] ?_ ?_
  · simp
    refine call_pure g0 (by simp) ?_
    cases q1 : lightB s
    · simp
    simp
    refine call_pure g0t (by simp) ?_
    cases q2 : lightB t <;> simp
  cases hg : lightB s && lightB t && !decide ((100 : Int) < k.size)
  · refine AWp.cond (t := true) (by simp) (fun _ => ?_) (by simp)
    refine AWp.go [6] [] fun K hK => ?_
    simp
    refine call_pure gw (by simp) ?_
    simp
    first | refine hK _ _ ?_ | refine ⟨by omega, hK _ _ ?_⟩ | refine ⟨by omega, by omega, hK _ _ ?_⟩
    clear hK K
    refine AWp.ret ?_
    simp
  · refine AWp.cond (t := false) (by simp) (by simp) (fun _ => ?_)
    refine AWp.skip ?_
    show AWp _ _ _ _
    have hL : lightB s = true ∧ lightB t = true := by
      simp at hg
      exact hg.1
    have hs := light_fine hL.1
    have ht := light_fine hL.2
    have hl := light_len hL.1
    have gk := c_awset_Keys s hs
    refine AWp.go [0, 1, 2, 7] [] fun K hK => ?_
    simp
    refine call_pure gk (by simp) ?_
    simp
    first | refine hK _ _ ?_ | refine ⟨by omega, hK _ _ ?_⟩ | refine ⟨by omega, by omega, hK _ _ ?_⟩
    clear hK K
    refine AWp.frz [7] ?_
    simp
    refine AWp.seq ?_
    refine AWp.step [0, 2, 7, 31] [] [(0, .sl .fro 3 (entsAV s)), (2, .s k), (7, .sl .fro 1 (keysAV (if setOkA s then s else []))), (31, .b false)] [] ?_ ?_
    · have g1 := c_awset_Same s t hs ht
      have g2 := c_ref08_Same s t hs ht
      simp
      refine call_pure g1 (by simp) ?_
      simp
      refine call_pure g2 (by simp) ?_
      simp
    refine AWp.cond (t := false) (by first | (simp; done) | (simp; omega)) (by simp) (fun _ => ?_)
    refine AWp.skip ?_
    show AWp _ _ _ _
    refine AWp.seq ?_
    have gm := c_ref08_May s hs
    have gh := c_awset_Has s k hs
    refine AWp.go [0, 2, 7, 34] [] fun K hK => ?_
    simp
    refine call_pure gm (by simp) ?_
    simp
    first | refine hK _ _ ?_ | refine ⟨by omega, hK _ _ ?_⟩ | refine ⟨by omega, by omega, hK _ _ ?_⟩
    clear hK K
    cases hq : setOkA s
    · refine AWp.cond (t := true) (by simp) (fun _ => ?_) (by simp)
      rw [hq] at gh
      refine AWp.step [6] [] [(6, .b true)] [] ?_ ?_
      · simp [keysAV]
        refine call_pure gh (by simp) ?_
        simp
        refine call_pure gw (by simp) ?_
        simp
      refine AWp.ret ?_
      simp
    · refine AWp.cond (t := false) (by simp) (by simp) (fun _ => ?_)
      refine AWp.skip ?_
      show AWp _ _ _ _
      refine AWp.seq ?_
      have gget := c_ref08_Get s k hs
      rw [hq, thereA hq k] at gh
      simp [entC] at gget
      refine AWp.step [0, 7, 63] [] [(0, .sl .fro 3 (entsAV s)), (7, .sl .fro 1 (keysAV s)), (63, .b false)] [] ?_ ?_
      · simp
        refine call_pure gh (by simp) ?_
        simp
        refine call_pure gget (by simp) ?_
        simp
      refine AWp.cond (t := false) (by first | (simp; done) | (simp; omega)) (by simp) (fun _ => ?_)
      refine AWp.skip ?_
      show AWp _ _ _ _
      refine AWp.seq ?_
      refine AWp.go [0, 7, 8] [] fun K hK => ?_
      simp
      first | refine hK _ _ ?_ | refine ⟨by omega, hK _ _ ?_⟩ | refine ⟨by omega, by omega, hK _ _ ?_⟩
      clear hK K
      refine AWp.block (AWp.while (fun i : Nat => [(0, .sl .fro 3 (entsAV s)), (7, .sl .fro 1 (keysAV s)), (8, .i .i64 i)]) (fun i => []) (fun i => i ≤ s.length) (fun i => s.length - i) [0, 7, 8] [] 0 (by simp) (by simp) ?_)
      intro i hi
      refine AWp.seq ?_
      refine AWp.go [0, 7, 8, 67] [] fun K hK => ?_
      simp
      first | refine hK _ _ ?_ | refine ⟨by omega, hK _ _ ?_⟩ | refine ⟨by omega, by omega, hK _ _ ?_⟩
      clear hK K
      by_cases h2 : i < s.length
      · refine AWp.cond (t := true) (by first | (simp [h2]; done) | (simp [h2]; omega)) (fun _ => ?_) (by simp)
        refine AWp.skip ?_
        show AWp _ _ _ _
        refine AWp.seq ?_
        refine AWp.block ?_
        refine AWp.stepD 10 (fun _ => .any) [0, 7, 8, 79] [] [(0, .sl .fro 3 (entsAV s)), (7, .sl .fro 1 (keysAV s)), (8, .i .i64 i), (79, .b false)] [] mix (by kernel_rfl) ?_ ?_
        · simp [h2]
        refine AWp.cond (t := false) (by first | (simp; done) | (simp; omega)) (by simp) (fun _ => ?_)
        refine AWp.skip ?_
        show AWp _ _ _ _
        refine AWp.goLast [0, 7, 8] [] fun K hK => ?_
        simp
        first | refine hK _ _ ?_ | refine ⟨by omega, hK _ _ ?_⟩ | refine ⟨by omega, by omega, hK _ _ ?_⟩
        clear hK K
        refine ⟨i + 1, by omega, by omega, ?_⟩
        simp
        exact wrap64 (by omega) (by omega)
      · refine AWp.cond (t := false) (by first | (simp [h2]; done) | (simp [h2]; omega)) (by simp) (fun _ => ?_)
        refine AWp.exit ?_
        show AWp _ _ _ _
        refine AWp.go [6] [] fun K hK => ?_
        simp
        refine call_pure gw (by simp) ?_
        simp
        first | refine hK _ _ ?_ | refine ⟨by omega, hK _ _ ?_⟩ | refine ⟨by omega, by omega, hK _ _ ?_⟩
        clear hK K
        refine AWp.ret ?_
        simp

theorem drop_all {l : List Dot} (h : rowsB l = true) : leftD l allC = [] := by
  refine List.filter_eq_nil_iff.2 fun x hx => ?_
  have := allC_get ((rowsB_iff _).1 h |>.1 x hx)
  simpa using this
theorem drops_law {s : List Entry} (h : setOkA s = true) (hl : s.length < 3999) {k : ByteArray} (hk : keyOk k = true) {d : Dot} (hd : mayD d = true) (c : List Int) :
    setOkA (addA s k d c) = true ∧ there (addA s k d c) k = true ∧ setOkA (dropA (addA s k d c) k allC) = true ∧ there (dropA (addA s k d c) k allC) k = false ∧ ∀ o, eqK k o = false → there (dropA (addA s k d c) k allC) o = there s o := by
  have hs := setA_sort h
  have h1 := addA_ok h (by omega) hk hd c
  have hs1 := setA_sort h1
  have hll : (addA s k d c).length < 4000 := by have := putA_len s hs ⟨k, putD (leftD (getE s k).live c) d, []⟩; unfold addA; omega
  have h2 := dropA_ok h1 hll hk allC
  have e1 : getE (addA s k d c) k = ⟨k, putD (leftD (getE s k).live c) d, []⟩ := putA_get hs k _
  refine ⟨h1, ?_, h2, ?_, fun o ho => ?_⟩
  · rw [thereA h1, e1]
    have := putD_ne (leftD (getE s k).live c) d
    simp only [decide_eq_true_eq]
    omega
  · rw [thereA h2]
    have e2 : getE (dropA (addA s k d c) k allC) k = ⟨k, leftD (getE (addA s k d c) k).live allC, []⟩ := putA_get hs1 k _
    rw [e2, drop_all (get_rows ((setOkA_iff _).1 h1).1 k).1]
    rfl
  · rw [thereA h2, thereA h]
    have e2 : getE (dropA (addA s k d c) k allC) o = getE (addA s k d c) o := putA_other hs1 _ o ho
    have e3 : getE (addA s k d c) o = getE s o := putA_other hs _ o ho
    rw [e2, e3]

set_option maxRecDepth 8000 in
set_option maxHeartbeats 4000000 in
theorem c_AwsetDrops (s : List Entry) (x : Deed) (o : ByteArray) (hlen : s.length ≤ 9223372036854775807) (hcx : x.past.length ≤ 9223372036854775807) : Pure Try.prog 7 [.sl .fro 3 (entsAV s), .agg (deedC x), .s o] (.b true) := by
  have g0 := c_law08_Light s hlen
  have gw := c_law08_awake
  refine proc_of (cx Try.prog 89 [0, 2, 4, 6, 7, 8, 9, 10, 11, 31, 45] [6]) 86 [.tmp 6] Try.func7 rfl rfl rfl rfl rfl rfl (Nat.le_refl _) rfl ?_
  refine AWp.go [0, 2, 4] [4] fun K hK => ?_
  simp [deedC]
  first | refine hK _ _ ?_ | refine ⟨by omega, hK _ _ ?_⟩ | refine ⟨by omega, by omega, hK _ _ ?_⟩
  clear hK K
  refine AWp.seq ?_
  refine AWp.step [0, 2, 4, 31] [4] [(0, .sl .fro 3 (entsAV s)), (2, .s o), (4, .ptr 4 0), (31, .b (!(lightB s && !decide ((100 : Int) < x.key.size) && !decide ((20 : Int) < x.past.length) && !decide ((100 : Int) < o.size))))] [(4, [.s x.key, .i .i64 x.dot.1, .i .i64 x.dot.2, .sl .fro 1 (intsAV x.past)])] ?_ ?_
  · simp
    refine call_pure g0 (by simp) ?_
    cases q1 : lightB s
    · simp
    by_cases q2 : (100 : Int) < x.key.size
    · simp [q2]
    by_cases q3 : (20 : Int) < x.past.length
    · simp [q2, q3]
    · simp [q2, q3]
  cases hg : lightB s && !decide ((100 : Int) < x.key.size) && !decide ((20 : Int) < x.past.length) && !decide ((100 : Int) < o.size)
  · refine AWp.cond (t := true) (by simp) (fun _ => ?_) (by simp)
    refine AWp.go [6] [] fun K hK => ?_
    simp
    refine call_pure gw (by simp) ?_
    simp
    first | refine hK _ _ ?_ | refine ⟨by omega, hK _ _ ?_⟩ | refine ⟨by omega, by omega, hK _ _ ?_⟩
    clear hK K
    refine AWp.ret ?_
    simp
  · refine AWp.cond (t := false) (by simp) (by simp) (fun _ => ?_)
    refine AWp.skip ?_
    show AWp _ _ _ _
    have hL : lightB s = true ∧ x.past.length ≤ 20 := by
      simp at hg
      exact ⟨hg.1.1.1, by omega⟩
    have hW := Within.of hL.1
    have hs := hW.fine (by omega)
    have hl := light_len hL.1
    have ga := c_awset_Add s x.key x.dot x.past hs (by omega) (by omega) (by have := hW.at x.key; omega)
    refine AWp.go [0, 2, 4, 7, 8] [4] fun K hK => ?_
    simp
    refine call_pure ga (by simp [dotC]) ?_
    simp
    first | refine hK _ _ ?_ | refine ⟨by omega, hK _ _ ?_⟩ | refine ⟨by omega, by omega, hK _ _ ?_⟩
    clear hK K
    refine AWp.frz [7] ?_
    simp
    refine AWp.seq ?_
    refine AWp.go [0, 2, 4, 7, 45] [4] fun K hK => ?_
    simp
    first | refine hK _ _ ?_ | refine ⟨by omega, hK _ _ ?_⟩ | refine ⟨by omega, by omega, hK _ _ ?_⟩
    clear hK K
    cases hm : mayA s x.key x.dot x.past
    · refine AWp.cond (t := true) (by simp) (fun _ => ?_) (by simp)
      refine AWp.go [6] [] fun K hK => ?_
      simp
      refine call_pure gw (by simp) ?_
      simp
      first | refine hK _ _ ?_ | refine ⟨by omega, hK _ _ ?_⟩ | refine ⟨by omega, by omega, hK _ _ ?_⟩
      clear hK K
      refine AWp.ret ?_
      simp
    · refine AWp.cond (t := false) (by simp) (by simp) (fun _ => ?_)
      refine AWp.skip ?_
      show AWp _ _ _ _
      have hmd := hm
      rw [mayA_eq] at hmd
      simp at hmd
      obtain ⟨hmb, hdo⟩ := hmd
      obtain ⟨hso, hko, _⟩ := mayB_ok hmb
      simp only [if_true, add_lawA hso]
      have hWa := hW.addA (setA_sort hso) x.key x.dot x.past
      obtain ⟨p1, p2, p3, p4, p5⟩ := drops_law hso (by omega) hko hdo x.past
      obtain ⟨a, ha⟩ : ∃ a, a = addA s x.key x.dot x.past := ⟨_, rfl⟩
      rw [← ha] at hWa p1 p2 p3 p4 p5 ⊢
      have hfa := hWa.fine (by omega)
      have hla := hWa.1
      refine AWp.step [0, 2, 4, 7, 9] [4] [(0, .sl .fro 3 (entsAV s)), (2, .s o), (4, .ptr 4 0), (7, .sl .fro 3 (entsAV a)), (9, .sl .own 1 (intsAV allC))] [(4, [.s x.key, .i .i64 x.dot.1, .i .i64 x.dot.2, .sl .fro 1 (intsAV x.past)])] ?_ ?_
      · simp [intsAV, allC]
      refine AWp.frz [9] ?_
      simp
      have hmC : mayB a x.key allC = true := by
        simp [mayB, p1, hko]
        rfl
      have gD := c_awset_Drop a x.key allC hfa (by omega) (by simp [allC]) (by have := hWa.at x.key; omega)
      rw [hmC] at gD
      simp only [if_true, drop_lawA p1] at gD
      have hfb := (hWa.dropA (setA_sort p1) x.key allC).fine (by omega)
      refine AWp.go [0, 2, 4, 7, 10, 11] [4] fun K hK => ?_
      simp
      refine call_pure gD (by simp) ?_
      simp
      first | refine hK _ _ ?_ | refine ⟨by omega, hK _ _ ?_⟩ | refine ⟨by omega, by omega, hK _ _ ?_⟩
      clear hK K
      refine AWp.frz [10] ?_
      simp
      have gH := c_awset_Has a x.key hfa
      have gHb := c_awset_Has _ x.key hfb
      have gHo := c_awset_Has _ o hfb
      have gHs := c_awset_Has s o hs
      rw [p1, p2] at gH
      rw [p3, p4] at gHb
      rw [p3] at gHo
      rw [hso] at gHs
      refine AWp.step [6] [] [(6, .b true)] [] ?_ ?_
      · simp
        refine call_pure gH (by simp) ?_
        simp
        refine call_pure gHb (by simp) ?_
        by_cases he : o.toList = x.key.toList
        · simp [he]
          refine call_pure gw (by simp) ?_
          simp
        · have he2 : (o.toList == x.key.toList) = false := by simpa using he
          have he3 : eqK x.key o = false := by
            simp [eqK]
            exact fun h => he h.symm
          rw [p5 o he3] at gHo
          simp [he2]
          refine call_pure gHo (by simp) ?_
          simp
          refine call_pure gHs (by simp) ?_
          simp
          refine call_pure gw (by simp) ?_
          simp
      refine AWp.ret ?_
      simp
end Go.AM
namespace Go.AM

inductive TT where
  | int (k : IntKind)
  | bool
  | str
  | sl (sz : Nat) (e : TT)
  | st (fs : List TT)

mutual
def TT.size : TT → Nat
  | .st fs => TT.sizeL fs
  | _ => 1
def TT.sizeL : List TT → Nat
  | [] => 0
  | f :: fs => f.size + TT.sizeL fs
end

mutual
/-- Is it the shape of a type? -/
def TT.isAt (P : Program) : TT → TypeId → Bool
  | .int k, t => match P.underlying t with
    | some (.int k') => k' == k
    | _ => false
  | .bool, t => match P.underlying t with
    | some .bool => true
    | _ => false
  | .str, t => match P.underlying t with
    | some .string => true
    | _ => false
  | .sl sz e, t => match P.underlying t with
    | some (.slice et) => P.cellsOf et == sz && decide (0 < sz) && e.size == sz && e.isAt P et
    | _ => false
  | .st fs, t => match P.underlying t with
    | some (.struct fl) => P.cellsOf t == TT.sizeL fs && TT.isL P fs fl.toList 0
    | _ => false
def TT.isL (P : Program) : List TT → List Field → Nat → Bool
  | [], [], _ => true
  | f :: fs, d :: ds, off => d.offset == off && P.cellsOf d.type == f.size && f.isAt P d.type && TT.isL P fs ds (off + f.size)
  | _, _, _ => false
end

mutual
/-- Cells of such a shape. -/
def TT.fit : TT → List AV → Prop
  | .int k, avs => ∃ n, avs = [.i k n] ∧ k.min ≤ n ∧ n ≤ k.max
  | .bool, avs => ∃ b, avs = [.b b]
  | .str, avs => ∃ s, avs = [.s s] ∧ s.size ≤ maxLen
  | .sl sz e, avs => ∃ xs, avs = [.sl .fro sz xs] ∧ xs.length ≤ maxLen ∧ ∀ x ∈ xs, e.fit x
  | .st fs, avs => TT.fitL fs avs
def TT.fitL : List TT → List AV → Prop
  | [], avs => avs = []
  | f :: fs, avs => ∃ a b, avs = a ++ b ∧ f.fit a ∧ TT.fitL fs b
end

section
variable {H : Type} {enc : TypeId × Value → H} {P : Program} {w : World} {held : Bool}

/-- Cells that are read as data. -/
def AsDat (w : World) (avs : List AV) (cs : List Value) : Prop := avs.length = cs.length ∧ ∀ (k : Nat) c, avs[k]? = some c → ∃ u, cs[k]? = some u ∧ DatC (fun b => b < w.heap.size) w c u

theorem AsDat.one {w : World} {c : AV} {u : Value} (h : Dat (fun b => b < w.heap.size) w c u) (h1 : u.oneCell' = true) : AsDat w [c] [u] := ⟨rfl, fun k c' hk => by
  cases k with
  | zero => simp at hk; subst hk; exact ⟨u, rfl, h, h1⟩
  | succ k => simp at hk⟩

theorem cell_spot {w : World} {a : Addr} {v : Value} (h : w.cell? a = some v) : a.spot = none := by
  unfold World.cell? at h
  split at h
  · cases hs : a.spot with
    | none => rfl
    | some s => simp [hs] at h
  · cases h

theorem cell_lt' {w : World} {a : Addr} {v : Value} (h : w.cell? a = some v) : a.block < w.heap.size := by
  unfold World.cell? at h
  split at h
  · rename_i h1; exact (Array.getElem?_eq_some_iff.1 h1).1
  · cases h

mutual
theorem trod_dat : ∀ (T : TT) (n : Nat) (t : TypeId) (cs : List Value) (x : DataW H × List MemPlace), T.isAt P t = true → DataW.trod enc P w 0 (fun _ => true) held n t cs = some x → ∃ avs, T.fit avs ∧ avs.length = T.size ∧ AsDat w avs cs
  | .int k, n, t, cs, x, hT, h => by
    simp only [TT.isAt] at hT
    split at hT
    · rename_i k' hu
      have : k' = k := by simpa using hT
      subst this
      obtain ⟨m, rfl, _, hw⟩ := DataW.trod_int hu h
      simp only [Lit.wf, Bool.and_eq_true, decide_eq_true_eq] at hw
      exact ⟨[.i k' m], ⟨m, rfl, hw⟩, rfl, .one (.i _ _) rfl⟩
    · cases hT
  | .bool, n, t, cs, x, hT, h => by
    simp only [TT.isAt] at hT
    split at hT
    · rename_i hu
      obtain ⟨b, rfl, _⟩ := DataW.trod_bool hu h
      exact ⟨[.b b], ⟨b, rfl⟩, rfl, .one (.b _) rfl⟩
    · cases hT
  | .str, n, t, cs, x, hT, h => by
    simp only [TT.isAt] at hT
    split at hT
    · rename_i hu
      obtain ⟨s, rfl, _, hs⟩ := DataW.trod_string hu h
      exact ⟨[.s s], ⟨s, rfl, hs⟩, rfl, .one (.s _) rfl⟩
    · cases hT
  | .sl sz e, n, t, cs, x, hT, h => by
    simp only [TT.isAt] at hT
    split at hT
    · rename_i et hu
      simp only [Bool.and_eq_true, beq_iff_eq, decide_eq_true_eq] at hT
      obtain ⟨⟨⟨hc, hz⟩, hes⟩, he⟩ := hT
      rcases DataW.trod_slice hu h with ⟨rfl, _⟩ | ⟨a, len, cap, elems, rest, m, _, rfl, _, _, hlc, hm, hlen, hel, _, _⟩
      · exact ⟨[.sl .fro sz []], ⟨[], rfl, by simp, by simp⟩, rfl, .one (.sl0 sz) rfl⟩
      · have each : ∀ i, i < len → ∃ avs : List AV, e.fit avs ∧ avs.length = sz ∧ ∀ (j : Nat) c, avs[j]? = some c → ∃ u, w.cell? ((a.add (i * sz)).add j) = some u ∧ DatC (fun b => b < w.heap.size) w c u := by
          intro i hi
          have h1 := hel i hi
          rw [hc, List.getElem?_eq_getElem (by omega)] at h1
          obtain ⟨cs', h2, h3⟩ := Option.bind_eq_some_iff.1 h1
          obtain ⟨avs, g1, g2, g3, g4⟩ := trod_dat e m et cs' _ he h3
          refine ⟨avs, g1, by rw [g2, hes], fun j c hj => ?_⟩
          obtain ⟨u, hu1, hd⟩ := g4 j c hj
          have hjl := (List.getElem?_eq_some_iff.1 hj).1
          exact ⟨u, by rw [(World.cells?_some h2).2.2 j (by omega)]; exact hu1, hd⟩
        obtain ⟨xs, hxl, hxs⟩ : ∃ xs : List (List AV), xs.length = len ∧ ∀ (i : Nat) x, xs[i]? = some x → e.fit x ∧ x.length = sz ∧ ∀ (j : Nat) c, x[j]? = some c → ∃ u, w.cell? ((a.add (i * sz)).add j) = some u ∧ DatC (fun b => b < w.heap.size) w c u := by
          refine ⟨(List.range len).map fun i => if hi : i < len then Classical.choose (each i hi) else [], by simp, fun i x hx => ?_⟩
          rw [List.getElem?_map] at hx
          obtain ⟨i', hi', rfl⟩ := Option.map_eq_some_iff.1 hx
          obtain ⟨hl, hi2⟩ := List.getElem?_eq_some_iff.1 hi'
          simp at hl hi2
          subst hi2
          rw [dif_pos hl]
          exact Classical.choose_spec (each i hl)
        have hfit : ∀ x ∈ xs, e.fit x := fun x hx => by
          obtain ⟨i, hi⟩ := List.mem_iff_getElem?.1 hx
          exact (hxs i x hi).1
        refine ⟨[.sl .fro sz xs], ⟨xs, rfl, by omega, hfit⟩, rfl, .one ?_ rfl⟩
        rcases Nat.eq_zero_or_pos len with h0 | h0
        · have : xs = [] := List.eq_nil_of_length_eq_zero (by omega)
          subst this
          rw [h0]
          exact .sl1 sz a cap
        · obtain ⟨g1, g2, g3⟩ := hxs 0 _ (List.getElem?_eq_getElem (by omega))
          obtain ⟨u, hu1, _⟩ := g3 0 _ (List.getElem?_eq_getElem (by omega))
          have haa : (a.add (0 * sz)).add 0 = a := by simp [Addr.add]
          rw [haa] at hu1
          have hsp := cell_spot hu1
          have hlt := cell_lt' hu1
          obtain ⟨bk, off, sp⟩ := a
          simp only at hsp hlt
          subst hsp
          rw [← hxl]
          have hl : ∀ x ∈ xs, x.length = sz := fun x hx => by
            obtain ⟨i, hi⟩ := List.mem_iff_getElem?.1 hx
            exact (hxs i x hi).2.1
          have hcell : ∀ (k : Nat) c, xs.flatten[k]? = some c → ∃ u, w.cell? ⟨bk, off + k, none⟩ = some u ∧ DatC (fun b => b < w.heap.size) w c u := by
            intro k c hk
            have hfl := flatten_length hl
            have hk1 := (List.getElem?_eq_some_iff.1 hk).1
            have hdiv : k / sz < xs.length := by rw [Nat.div_lt_iff_lt_mul hz]; omega
            have hmod : k % sz < sz := Nat.mod_lt _ hz
            have hx := List.getElem?_eq_getElem hdiv
            obtain ⟨_, q2, q3⟩ := hxs _ _ hx
            have hj : (xs[k / sz])[k % sz]? = some ((xs[k / sz])[k % sz]'(by omega)) := List.getElem?_eq_getElem (by omega)
            have e1 := flat_get hl (k / sz) (k % sz) _ _ hx hj
            rw [show k / sz * sz + k % sz = k by rw [Nat.mul_comm]; exact Nat.div_add_mod k sz, hk] at e1
            obtain rfl := Option.some.inj e1
            obtain ⟨u, hu2, hd⟩ := q3 _ _ hj
            refine ⟨u, ?_, hd⟩
            rw [add_none, add_none, Nat.add_assoc, show k / sz * sz + k % sz = k by rw [Nat.mul_comm]; exact Nat.div_add_mod k sz] at hu2
            exact hu2
          refine .sl sz xs bk off cap (fun k => (w.cell? ⟨bk, off + k, none⟩).getD undef) hlt (by omega) hl (fun k c hk => ?_) (fun k c hk => ?_) (fun k c hk => ?_)
          · obtain ⟨u, hu2, hd⟩ := hcell k c hk
            simp [hu2]
          · obtain ⟨u, hu2, hd⟩ := hcell k c hk
            simpa [hu2] using hd.2
          · obtain ⟨u, hu2, hd⟩ := hcell k c hk
            simpa [hu2] using hd.1
    · cases hT
  | .st fs, n, t, cs, x, hT, h => by
    simp only [TT.isAt] at hT
    split at hT
    · rename_i fl hu
      simp only [Bool.and_eq_true, beq_iff_eq] at hT
      obtain ⟨xs, m, _, _, hlen, hxl, hf⟩ := DataW.trod_struct hu h
      obtain ⟨avs, g1, g2, g3⟩ := trod_datL fs m fl.toList 0 cs hT.2 (fun i f hi => by
        rw [Array.getElem?_toList] at hi
        rw [hf i f hi]
        exact ⟨_, List.getElem?_eq_getElem (by rw [hxl]; exact (Array.getElem?_eq_some_iff.1 hi).1)⟩) (by omega)
      refine ⟨avs, g1, g2, ?_, fun k c hk => ?_⟩
      · rw [g2, hlen, hT.1]
      · obtain ⟨u, hu1, hd⟩ := g3 k c hk
        exact ⟨u, by simpa using hu1, hd⟩
    · cases hT
theorem trod_datL : ∀ (fs : List TT) (n : Nat) (fl : List Field) (off : Nat) (cs : List Value), TT.isL P fs fl off = true →
    (∀ (i : Nat) f, fl[i]? = some f → ∃ x, DataW.trod enc P w 0 (fun _ => true) held n f.type ((cs.drop f.offset).take (P.cellsOf f.type)) = some x) → off + TT.sizeL fs ≤ cs.length →
    ∃ avs, TT.fitL fs avs ∧ avs.length = TT.sizeL fs ∧ ∀ (k : Nat) c, avs[k]? = some c → ∃ u, cs[off + k]? = some u ∧ DatC (fun b => b < w.heap.size) w c u
  | [], n, fl, off, cs, _, _, _ => ⟨[], rfl, rfl, by simp⟩
  | f :: fs, n, [], off, cs, hT, _, _ => by simp [TT.isL] at hT
  | f :: fs, n, d :: ds, off, cs, hT, h, hl => by
    simp only [TT.isL, Bool.and_eq_true, beq_iff_eq] at hT
    obtain ⟨⟨⟨h1, h2⟩, h3⟩, h4⟩ := hT
    simp only [TT.sizeL] at hl
    obtain ⟨x, hx⟩ := h 0 d rfl
    obtain ⟨a, a1, a2, a3, a4⟩ := trod_dat f n d.type _ x h3 hx
    obtain ⟨b, b1, b2, b3⟩ := trod_datL fs n ds (off + f.size) cs h4 (fun i g hi => h (i + 1) g (by simpa using hi)) (by omega)
    refine ⟨a ++ b, ⟨a, b, rfl, a1, b1⟩, by simp [TT.sizeL, a2, b2], fun k c hk => ?_⟩
    by_cases hlt : k < a.length
    · rw [List.getElem?_append_left hlt] at hk
      obtain ⟨u, hu, hd⟩ := a4 k c hk
      rw [List.getElem?_take, if_pos (by omega), List.getElem?_drop, h1] at hu
      exact ⟨u, hu, hd⟩
    · rw [List.getElem?_append_right (by omega)] at hk
      obtain ⟨u, hu, hd⟩ := b3 _ c hk
      exact ⟨u, by rw [← hu]; congr 1; omega, hd⟩
end
end
end Go.AM
namespace Go.AM
open Go.RowKit Go.WideShapes

/-- A law that holds over data, called. -/
theorem Pure.calls {P : Program} {f : Nat} {args : List AV} {b : Bool} (h : Pure P f args (.b b)) {w : World} {vs : Array Value} (hl : args.length = vs.size) (hv : ∀ (k : Nat) c, args[k]? = some c → Dat (fun b => b < w.heap.size) w c (vs.getD k undef)) :
    Calls P f vs w fun e w' => e = .returned (.bool b) ∧ Below w.heap.size w w' := by
  refine (h.2 w (fun _ => 0) (fun _ => none) (fun bk => bk < w.heap.size) vs (rel_empty _ _ _ fun _ h => h) (by simp) hl (fun k c hk => (hv k c hk).val (E := ⟨w, fun _ => 0, fun _ => none, fun bk => bk < w.heap.size, St.ofBoxes [], #[]⟩) _)).mono ?_
  rintro e w' ⟨v, E', rfl, rfl, I, _, _, hr⟩
  refine ⟨by cases hr; rfl, I.fr.os, I.fr.tape, I.fr.output, I.fr.size, fun k hk => I.fr.block k hk (by simp)⟩

def TT.wrap : TT → List AV → AV
  | .st _, avs => .agg avs
  | _, avs => avs.getD 0 .any

theorem arg_dat {H : Type} {enc : TypeId × Value → H} {P : Program} {w : World} {held : Bool} {r : Reach} {b0 : Nat} {t : TypeId} {v : Value} {d : DataW H} {p : List MemPlace} (T : TT) (hT : T.isAt P t = true) (hval : Value.okWide P w r b0 t v)
    (h : DataW.Trod enc P w 0 (fun _ => true) held t v d p) : ∃ avs, T.fit avs ∧ Dat (fun b => b < w.heap.size) w (T.wrap avs) v := by
  obtain ⟨n, hn⟩ := h
  obtain ⟨avs, h1, h2, h3⟩ := trod_dat T n t _ _ hT hn
  refine ⟨avs, h1, ?_⟩
  have one : v.cells.toList = [v] → avs.length = 1 → Dat (fun b => b < w.heap.size) w (avs.getD 0 .any) v := by
    intro hc hl
    match avs, hl with
    | [c], _ =>
      obtain ⟨u, hu, hd⟩ := h3.2 0 c rfl
      rw [hc] at hu
      obtain rfl := Option.some.inj hu
      exact hd.1
  cases T with
  | int k =>
    simp only [TT.isAt] at hT
    split at hT
    · rename_i k' hu
      obtain ⟨n, rfl⟩ := okWide_int hu hval
      exact one rfl h2
    · cases hT
  | bool =>
    simp only [TT.isAt] at hT
    split at hT
    · rename_i hu
      obtain ⟨n, rfl⟩ := okWide_bool hu hval
      exact one rfl h2
    · cases hT
  | str =>
    simp only [TT.isAt] at hT
    split at hT
    · rename_i hu
      obtain ⟨n, rfl⟩ := okWide_string hu hval
      exact one rfl h2
    · cases hT
  | sl sz e =>
    simp only [TT.isAt] at hT
    split at hT
    · rename_i et hu
      obtain ⟨a, len, cap, rfl⟩ := okWide_slice hu hval
      exact one rfl h2
    · cases hT
  | st fs =>
    simp only [TT.isAt] at hT
    split at hT
    · rename_i fl hu
      simp only [Value.okWide, hu] at hval
      obtain ⟨cs, rfl, _, _⟩ := hval
      refine .agg _ cs (by rw [h3.1]; simp [Value.cells]) fun k c hk => ?_
      obtain ⟨u, hu, hd⟩ := h3.2 k c hk
      simp only [Value.cells, Array.getElem?_toList] at hu
      rw [Array.getD_eq_getD_getElem?, hu]
      exact hd.1
    · cases hT

theorem list_of {α : Type} {g : α → List AV} : ∀ {xs : List (List AV)}, (∀ x ∈ xs, ∃ a, x = g a) → ∃ l : List α, xs = l.map g
  | [], _ => ⟨[], rfl⟩
  | x :: xs, h => by
    obtain ⟨a, rfl⟩ := h x (by simp)
    obtain ⟨l, rfl⟩ := list_of (xs := xs) fun y hy => h y (by simp [hy])
    exact ⟨a :: l, rfl⟩
end Go.AM
