/- Raws: light; nothing; copied; plain (the program). -/
import Derived.Test.YtjpedhcgokiojaaGreatAmF
import Derived.Test.YtjpedhcgokiojaaGreatAmC
import Derived.Test.YtjpedhcgokiojaaGreatAmE
import Derived.Shelf.Strconv.Itoa0
set_option linter.unusedSimpArgs false
set_option linter.unusedVariables false
namespace Go.AM
open Go.Proofs
@[simp] theorem St.setAt_slot (st : St) (t : Nat) (x : AV) : st.setAt (.slot t []) x = st.put t x := rfl
@[simp] theorem St.setAt_cell (st : St) (id j : Nat) (x : AV) : st.setAt (.cell id j) x = st.setBox id ((st.boxes id).map fun cs => cs.set j x) := rfl
attribute [simp] selfTake
structure MaxR (w : Rw) : Prop where
 s0 : w.sets.length ≤ 9223372036854775807
 t0 : w.tals.length ≤ 9223372036854775807
 a0 : w.accs.length ≤ 9223372036854775807
 n0 : w.regs.length ≤ 9223372036854775807
 s1 : ∀ l ∈ w.sets, l.length ≤ 9223372036854775807
 t1 : ∀ l ∈ w.tals, l.length ≤ 9223372036854775807
 a1 : ∀ l ∈ w.accs, l.length ≤ 9223372036854775807
 n1 : ∀ l ∈ w.regs, l.length ≤ 9223372036854775807
def fewR (k : Kin) (w : Rw) : Bool := decide ((10 : Int) < k.sets.length) || decide ((10 : Int) < k.counts.length) || decide ((10 : Int) < w.sets.length) || decide ((10 : Int) < w.tals.length) || decide ((10 : Int) < w.accs.length) || decide ((10 : Int) < w.regs.length)
def lgtC (l : List Cel) : Bool := l.all lightC && decide (l.length ≤ 60)
def lgtA (l : List Acc) : Bool := l.all lightA && decide (l.length ≤ 60)
def lgtN (l : List Nt) : Bool := l.all lightN && decide (l.length ≤ 60)
def lightR (k : Kin) (w : Rw) : Bool := !fewR k w && w.sets.all lightB && w.tals.all lgtC && w.accs.all lgtA && w.regs.all lgtN
set_option maxRecDepth 8000 in
set_option maxHeartbeats 4000000 in
theorem c_law13_Light (k : Kin) (w : Rw) (hw : MaxR w) : Pure Tryz.prog 7 [.agg (kinC k), .agg (rwC w)] (.b (lightR k w)) := by
 refine proc_of (cx Tryz.prog 99 [2, 3, 4, 5, 6, 7, 8, 42, 47, 56, 61, 70, 75, 84, 89, 98] [4]) 97 [.tmp 4] Tryz.func7 rfl rfl rfl rfl rfl rfl (Nat.le_refl _) rfl ?_
 refine AWp.g [2, 3] [2, 3] ?_
 simp [kinC, rwC]
 refine AWp.seq ?_
 refine AWp.step [3, 42] [2, 3] [(3, .ptr 3 0), (42, .b (fewR k w))] [(2, [.sl .fro 1 (boolsAV k.sets), .sl .fro 2 (flrsAV k.counts), .i .i64 k.regs]), (3, [.sl .fro 1 (rrE w.sets), .sl .fro 1 (rrC w.tals), .sl .fro 1 (rrA w.accs), .sl .fro 1 (rrN w.regs)])] ?_ ?_
 ·by_cases q1 : (10 : Int) < k.sets.length
  ·simp [q1, fewR]
  by_cases q2 : (10 : Int) < k.counts.length
  ·simp [q1, q2, fewR]
  by_cases q3 : (10 : Int) < w.sets.length
  ·simp [q1, q2, q3, fewR]
  by_cases q4 : (10 : Int) < w.tals.length
  ·simp [q1, q2, q3, q4, fewR]
  by_cases q5 : (10 : Int) < w.accs.length
  ·simp [q1, q2, q3, q4, q5, fewR]
  simp [q1, q2, q3, q4, q5, fewR]
 cases hq : fewR k w
 ·refine AWp.cF (by simp) ?_
  refine AWp.skip ?_
  show AWp _ _ _ _
  refine AWp.seq ?_
  refine AWp.g [3, 5] [2, 3] ?_
  simp
  refine AWp.block (AWp.while (fun i : Nat => [(3, .ptr 3 0), (5, .i .i64 i)]) (fun i => [(2, [.sl .fro 1 (boolsAV k.sets), .sl .fro 2 (flrsAV k.counts), .i .i64 k.regs]), (3, [.sl .fro 1 (rrE w.sets), .sl .fro 1 (rrC w.tals), .sl .fro 1 (rrA w.accs), .sl .fro 1 (rrN w.regs)])]) (fun i => i ≤ w.sets.length ∧ ∀ j (hj : j < i) (hj2 : j < w.sets.length), lightB w.sets[j] = true) (fun i => w.sets.length - i) [3, 5] [2, 3] 0 (by simp) (by simp) ?_)
  rintro i ⟨hii, halli⟩
  have hmi := hw.s0
  refine AWp.seq ?_
  refine AWp.g [3, 5, 47] [2, 3] ?_
  simp
  by_cases hi : i < w.sets.length
  ·refine AWp.cT (by simp [hi]) ?_
   refine AWp.skip ?_
   show AWp _ _ _ _
   refine AWp.seq ?_
   refine AWp.block ?_
   refine AWp.step [3, 5, 56] [2, 3] [(3, .ptr 3 0), (5, .i .i64 i), (56, .b (!lightB w.sets[i]))] [(2, [.sl .fro 1 (boolsAV k.sets), .sl .fro 2 (flrsAV k.counts), .i .i64 k.regs]), (3, [.sl .fro 1 (rrE w.sets), .sl .fro 1 (rrC w.tals), .sl .fro 1 (rrA w.accs), .sl .fro 1 (rrN w.regs)])] ?_ ?_
   ·simp [hi]
    refine call_p (c_law08_Light w.sets[i] (hw.s1 _ (List.getElem_mem hi))) ?_
    first | rfl | simp [lightB]
   cases hpi : lightB w.sets[i]
   ·refine AWp.cT (by simp) ?_
    refine AWp.g [4] [2, 3] ?_
    simp
    refine AWp.ret ?_
    simp [lightR, all_not hi hpi]
   ·refine AWp.cF (by simp) ?_
    refine AWp.skip ?_
    show AWp _ _ _ _
    refine AWp.gL [3, 5] [2, 3] ?_
    simp
    refine ⟨i + 1, ⟨by omega, fun j hj hj2 => ?_⟩, by omega, ?_⟩
    ·by_cases hji : j = i
     ·subst hji; exact hpi
     ·exact halli j (by omega) hj2
    ·simp
     exact wrap64 (by omega) (by omega)
  ·refine AWp.cF (by simp [hi]) ?_
   refine AWp.exit ?_
   show AWp _ _ _ _
   refine AWp.seq ?_
   obtain rfl : i = w.sets.length := by omega
   refine AWp.g [3, 6] [2, 3] ?_
   simp
   refine AWp.block (AWp.while (fun m : Nat => [(3, .ptr 3 0), (6, .i .i64 m)]) (fun m => [(2, [.sl .fro 1 (boolsAV k.sets), .sl .fro 2 (flrsAV k.counts), .i .i64 k.regs]), (3, [.sl .fro 1 (rrE w.sets), .sl .fro 1 (rrC w.tals), .sl .fro 1 (rrA w.accs), .sl .fro 1 (rrN w.regs)])]) (fun m => m ≤ w.tals.length ∧ ∀ j (hj : j < m) (hj2 : j < w.tals.length), lgtC w.tals[j] = true) (fun m => w.tals.length - m) [3, 6] [2, 3] 0 (by simp) (by simp) ?_)
   rintro m ⟨him, hallm⟩
   have hmm := hw.t0
   refine AWp.seq ?_
   refine AWp.g [3, 6, 61] [2, 3] ?_
   simp
   by_cases hm : m < w.tals.length
   ·refine AWp.cT (by simp [hm]) ?_
    refine AWp.skip ?_
    show AWp _ _ _ _
    refine AWp.seq ?_
    refine AWp.block ?_
    refine AWp.step [3, 6, 70] [2, 3] [(3, .ptr 3 0), (6, .i .i64 m), (70, .b (!lgtC w.tals[m]))] [(2, [.sl .fro 1 (boolsAV k.sets), .sl .fro 2 (flrsAV k.counts), .i .i64 k.regs]), (3, [.sl .fro 1 (rrE w.sets), .sl .fro 1 (rrC w.tals), .sl .fro 1 (rrA w.accs), .sl .fro 1 (rrN w.regs)])] ?_ ?_
    ·simp [hm]
     refine call_p (c_law10_Light w.tals[m] (hw.t1 _ (List.getElem_mem hm))) ?_
     first | rfl | simp [lgtC]
    cases hpm : lgtC w.tals[m]
    ·refine AWp.cT (by simp) ?_
     refine AWp.g [4] [2, 3] ?_
     simp
     refine AWp.ret ?_
     simp [lightR, all_not hm hpm]
    ·refine AWp.cF (by simp) ?_
     refine AWp.skip ?_
     show AWp _ _ _ _
     refine AWp.gL [3, 6] [2, 3] ?_
     simp
     refine ⟨m + 1, ⟨by omega, fun j hj hj2 => ?_⟩, by omega, ?_⟩
     ·by_cases hji : j = m
      ·subst hji; exact hpm
      ·exact hallm j (by omega) hj2
     ·simp
      exact wrap64 (by omega) (by omega)
   ·refine AWp.cF (by simp [hm]) ?_
    refine AWp.exit ?_
    show AWp _ _ _ _
    refine AWp.seq ?_
    obtain rfl : m = w.tals.length := by omega
    refine AWp.g [3, 7] [2, 3] ?_
    simp
    refine AWp.block (AWp.while (fun n : Nat => [(3, .ptr 3 0), (7, .i .i64 n)]) (fun n => [(2, [.sl .fro 1 (boolsAV k.sets), .sl .fro 2 (flrsAV k.counts), .i .i64 k.regs]), (3, [.sl .fro 1 (rrE w.sets), .sl .fro 1 (rrC w.tals), .sl .fro 1 (rrA w.accs), .sl .fro 1 (rrN w.regs)])]) (fun n => n ≤ w.accs.length ∧ ∀ j (hj : j < n) (hj2 : j < w.accs.length), lgtA w.accs[j] = true) (fun n => w.accs.length - n) [3, 7] [2, 3] 0 (by simp) (by simp) ?_)
    rintro n ⟨hin, halln⟩
    have hmn := hw.a0
    refine AWp.seq ?_
    refine AWp.g [3, 7, 75] [2, 3] ?_
    simp
    by_cases hn : n < w.accs.length
    ·refine AWp.cT (by simp [hn]) ?_
     refine AWp.skip ?_
     show AWp _ _ _ _
     refine AWp.seq ?_
     refine AWp.block ?_
     refine AWp.step [3, 7, 84] [2, 3] [(3, .ptr 3 0), (7, .i .i64 n), (84, .b (!lgtA w.accs[n]))] [(2, [.sl .fro 1 (boolsAV k.sets), .sl .fro 2 (flrsAV k.counts), .i .i64 k.regs]), (3, [.sl .fro 1 (rrE w.sets), .sl .fro 1 (rrC w.tals), .sl .fro 1 (rrA w.accs), .sl .fro 1 (rrN w.regs)])] ?_ ?_
     ·simp [hn]
      refine call_p (c_law11_Light w.accs[n] (hw.a1 _ (List.getElem_mem hn))) ?_
      first | rfl | simp [lgtA]
     cases hpn : lgtA w.accs[n]
     ·refine AWp.cT (by simp) ?_
      refine AWp.g [4] [2, 3] ?_
      simp
      refine AWp.ret ?_
      simp [lightR, all_not hn hpn]
     ·refine AWp.cF (by simp) ?_
      refine AWp.skip ?_
      show AWp _ _ _ _
      refine AWp.gL [3, 7] [2, 3] ?_
      simp
      refine ⟨n + 1, ⟨by omega, fun j hj hj2 => ?_⟩, by omega, ?_⟩
      ·by_cases hji : j = n
       ·subst hji; exact hpn
       ·exact halln j (by omega) hj2
      ·simp
       exact wrap64 (by omega) (by omega)
    ·refine AWp.cF (by simp [hn]) ?_
     refine AWp.exit ?_
     show AWp _ _ _ _
     refine AWp.seq ?_
     obtain rfl : n = w.accs.length := by omega
     refine AWp.g [3, 8] [2, 3] ?_
     simp
     refine AWp.block (AWp.while (fun o : Nat => [(3, .ptr 3 0), (8, .i .i64 o)]) (fun o => [(2, [.sl .fro 1 (boolsAV k.sets), .sl .fro 2 (flrsAV k.counts), .i .i64 k.regs]), (3, [.sl .fro 1 (rrE w.sets), .sl .fro 1 (rrC w.tals), .sl .fro 1 (rrA w.accs), .sl .fro 1 (rrN w.regs)])]) (fun o => o ≤ w.regs.length ∧ ∀ j (hj : j < o) (hj2 : j < w.regs.length), lgtN w.regs[j] = true) (fun o => w.regs.length - o) [3, 8] [2, 3] 0 (by simp) (by simp) ?_)
     rintro o ⟨hio, hallo⟩
     have hmo := hw.n0
     refine AWp.seq ?_
     refine AWp.g [3, 8, 89] [2, 3] ?_
     simp
     by_cases ho : o < w.regs.length
     ·refine AWp.cT (by simp [ho]) ?_
      refine AWp.skip ?_
      show AWp _ _ _ _
      refine AWp.seq ?_
      refine AWp.block ?_
      refine AWp.step [3, 8, 98] [2, 3] [(3, .ptr 3 0), (8, .i .i64 o), (98, .b (!lgtN w.regs[o]))] [(2, [.sl .fro 1 (boolsAV k.sets), .sl .fro 2 (flrsAV k.counts), .i .i64 k.regs]), (3, [.sl .fro 1 (rrE w.sets), .sl .fro 1 (rrC w.tals), .sl .fro 1 (rrA w.accs), .sl .fro 1 (rrN w.regs)])] ?_ ?_
      ·simp [ho]
       refine call_p (c_law12_Light w.regs[o] (hw.n1 _ (List.getElem_mem ho))) ?_
       first | rfl | simp [lgtN]
      cases hpo : lgtN w.regs[o]
      ·refine AWp.cT (by simp) ?_
       refine AWp.g [4] [2, 3] ?_
       simp
       refine AWp.ret ?_
       simp [lightR, all_not ho hpo]
      ·refine AWp.cF (by simp) ?_
       refine AWp.skip ?_
       show AWp _ _ _ _
       refine AWp.gL [3, 8] [2, 3] ?_
       simp
       refine ⟨o + 1, ⟨by omega, fun j hj hj2 => ?_⟩, by omega, ?_⟩
       ·by_cases hji : j = o
        ·subst hji; exact hpo
        ·exact hallo j (by omega) hj2
       ·simp
        exact wrap64 (by omega) (by omega)
     ·refine AWp.cF (by simp [ho]) ?_
      refine AWp.exit ?_
      show AWp _ _ _ _
      obtain rfl : o = w.regs.length := by omega
      refine AWp.g [4] [2, 3] ?_
      simp
      refine AWp.ret ?_
      rw [lightR, hq, all_of fun j hj => halli j hj hj, all_of fun j hj => hallm j hj hj, all_of fun j hj => halln j hj hj, all_of fun j hj => hallo j hj hj]
      simp
 ·refine AWp.cT (by simp) ?_
  refine AWp.g [4] [2, 3] ?_
  simp
  refine AWp.ret ?_
  simp [lightR, hq]
theorem lightR_fine {k : Kin} {w : Rw} (h : lightR k w = true) : FineK k ∧ FineR w := by
 simp only [lightR, fewR, Bool.and_eq_true, Bool.not_eq_true', Bool.or_eq_false_iff, decide_eq_false_iff_not, List.all_eq_true] at h
 obtain ⟨⟨⟨⟨⟨⟨⟨⟨⟨a1, a2⟩, a3⟩, a4⟩, a5⟩, a6⟩, hs⟩, ht⟩, ha⟩, hn⟩ := h
 refine ⟨⟨by omega, by omega⟩, ⟨by omega, by omega, by omega, by omega, fun l hl => ?_, fun l hl => ?_, fun l hl => ?_, fun l hl => ?_⟩⟩
 ·have := hs l hl
  simp only [lightB, lightE, Bool.and_eq_true, decide_eq_true_eq, List.all_eq_true, Bool.not_eq_true', decide_eq_false_iff_not] at this
  refine ⟨by omega, fun e he => ?_⟩
  have := this.1 e he
  omega
 ·have := ht l hl
  simp only [lgtC, Bool.and_eq_true, decide_eq_true_eq] at this
  omega
 ·have := ha l hl
  simp only [lgtA, Bool.and_eq_true, decide_eq_true_eq] at this
  omega
 ·have := hn l hl
  simp only [lgtN, Bool.and_eq_true, decide_eq_true_eq] at this
  omega
@[simp] theorem rrE_nils (n : Nat) : List.replicate n [AV.sl .fro 3 []] = rrE (List.replicate n []) := by simp [rrE, entsAV]
theorem rrE_set (l : List (List Entry)) (i : Nat) (x : List Entry) : (rrE l).set i [.sl .fro 3 (entsAV x)] = rrE (l.set i x) := by unfold rrE; rw [List.map_set]
@[simp] theorem rrC_nils (n : Nat) : List.replicate n [AV.sl .fro 2 []] = rrC (List.replicate n []) := by simp [rrC, celsAV]
theorem rrC_set (l : List (List Cel)) (i : Nat) (x : List Cel) : (rrC l).set i [.sl .fro 2 (celsAV x)] = rrC (l.set i x) := by unfold rrC; rw [List.map_set]
@[simp] theorem rrA_nils (n : Nat) : List.replicate n [AV.sl .fro 6 []] = rrA (List.replicate n []) := by simp [rrA, acsAV]
theorem rrA_set (l : List (List Acc)) (i : Nat) (x : List Acc) : (rrA l).set i [.sl .fro 6 (acsAV x)] = rrA (l.set i x) := by unfold rrA; rw [List.map_set]
@[simp] theorem rrN_nils (n : Nat) : List.replicate n [AV.sl .fro 4 []] = rrN (List.replicate n []) := by simp [rrN, ntsAV]
theorem rrN_set (l : List (List Nt)) (i : Nat) (x : List Nt) : (rrN l).set i [.sl .fro 4 (ntsAV x)] = rrN (l.set i x) := by unfold rrN; rw [List.map_set]
def newR (k : Kin) : Rw := ⟨List.replicate k.sets.length [], List.replicate k.counts.length [], List.replicate k.counts.length [], List.replicate k.regs.toNat []⟩
def noR : Rw := ⟨[], [], [], []⟩
def okR (k : Kin) : Rw := if kindsB k then newR k else noR
set_option maxRecDepth 8000 in
set_option maxHeartbeats 4000000 in
theorem c_raw_New (k : Kin) (hk : FineK k) : Pure Tryz.prog 23 [.agg (kinC k)] (.tup [.agg (rwC (okR k)), .i .i64 (if kindsB k then 0 else 1)]) := by
 have gc := c_raw_CheckKinds k hk
 simp [kinC] at gc
 obtain ⟨hk1, hk2⟩ := hk
 refine proc_of (cx Tryz.prog 27 [1, 2, 3, 4, 8] [2, 3]) 26 [.cell 2 31, .tmp 3] Tryz.func23 rfl rfl rfl rfl rfl rfl (Nat.le_refl _) rfl ?_
 refine AWp.g [1, 2] [1, 2] ?_
 simp [kinC]
 refine AWp.seq ?_
 refine AWp.g [1, 2, 4] [1, 2] ?_
 simp
 refine call_pure gc (by simp) ?_
 simp
 refine AWp.step [1, 2, 4, 8] [1, 2] [(1, .ptr 1 0), (2, .ptr 2 0), (4, .i .i64 (if kindsB k then 0 else 1)), (8, .b (!kindsB k))] [(1, [.sl .fro 1 (boolsAV k.sets), .sl .fro 2 (flrsAV k.counts), .i .i64 k.regs]), (2, [.sl .nl 1 [], .sl .nl 1 [], .sl .nl 1 [], .sl .nl 1 []])] ?_ ?_
 ·cases kindsB k <;> simp
 cases hh : kindsB k
 ·refine AWp.cT (by simp) ?_
  refine AWp.step [2, 3] [1, 2] [(2, .ptr 2 0), (3, .i .i64 1)] [(1, [.sl .fro 1 (boolsAV k.sets), .sl .fro 2 (flrsAV k.counts), .i .i64 k.regs]), (2, [.sl .nl 1 [], .sl .nl 1 [], .sl .nl 1 [], .sl .nl 1 []])] ?_ ?_
  ·simp [hh]
  refine AWp.ret ?_
  simp [okR, hh, rwC, noR, rrE, rrC, rrA, rrN]
 ·refine AWp.cF (by simp) ?_
  refine AWp.skip ?_
  show AWp _ _ _ _
  have hr : 0 ≤ k.regs ∧ k.regs ≤ 3 := by
   simp only [kindsB, Bool.and_eq_true, Bool.not_eq_true', decide_eq_false_iff_not] at hh
   omega
  refine AWp.stepA 16 (fun _ => .any) [2, 3] [1, 2] [(2, .ptr 2 0), (3, .i .i64 0)] [(1, [.sl .fro 1 (boolsAV k.sets), .sl .fro 2 (flrsAV k.counts), .i .i64 k.regs]), (2, [.sl .fro 1 (rrE (newR k).sets), .sl .fro 1 (rrC (newR k).tals), .sl .fro 1 (rrA (newR k).accs), .sl .fro 1 (rrN (newR k).regs)])] mix (by kernel_rfl) ?_ ?_
  ·simp [newR]
   omega
  refine AWp.ret ?_
  simp [okR, hh, rwC]
def eachTo {α : Type} (l : List (List α)) (i : Nat) : List (List α) := l.take i ++ List.replicate (l.length - i) []
@[simp] theorem eachTo_length {α : Type} (l : List (List α)) (i : Nat) (h : i ≤ l.length) : (eachTo l i).length = l.length := by simp [eachTo]; omega
theorem eachTo_zero {α : Type} (l : List (List α)) : eachTo l 0 = List.replicate l.length [] := by simp [eachTo]
theorem eachTo_all {α : Type} (l : List (List α)) : eachTo l l.length = l := by simp [eachTo]
theorem eachTo_set {α : Type} (l : List (List α)) (i : Nat) (h : i < l.length) : (eachTo l i).set i l[i] = eachTo l (i + 1) := by
 unfold eachTo
 have h1 : (l.take i).length = i := by rw [List.length_take]; omega
 rw [List.set_append_right _ _ (by omega), h1, Nat.sub_self, show l.length - i = (l.length - (i + 1)) + 1 by omega, List.replicate_succ, List.set_cons_zero, List.take_succ_eq_append_getElem h, List.append_assoc]
 rfl
set_option maxRecDepth 8000 in
set_option maxHeartbeats 1000000 in
theorem c_raw_each_E (l : List (List Entry)) (g : Nat) (hl : l.length ≤ 1000) (hg : ∀ x ∈ l, Pure Tryz.prog g [.sl .fro 3 (entsAV x)] (.sl .fro 3 (entsAV x))) : Pure Tryz.prog 115 [.sl .fro 1 (rrE l), .fn g [] []] (.sl .own 1 (rrE l)) := by
 refine proc_of (cx Tryz.prog 26 [0, 1, 4, 5, 6, 7, 11, 12, 13, 14] [4]) 24 [.tmp 4] Tryz.func115 rfl rfl rfl rfl rfl rfl (Nat.le_refl _) rfl ?_
 refine AWp.g [0, 1] [] ?_
 simp
 refine AWp.step [0, 1, 5] [] [(0, .sl .fro 1 (rrE l)), (1, .fn g [] []), (5, .sl .own 1 (rrE (List.replicate l.length [])))] [] ?_ ?_
 ·simp
  omega
 refine AWp.seq ?_
 refine AWp.g [1, 5, 11, 12, 13] [] ?_
 simp
 refine AWp.block (AWp.while (fun i : Nat => [(1, .fn g [] []), (5, .sl .own 1 (rrE (eachTo l i))), (11, .sl .fro 1 (rrE l)), (12, .i .i64 l.length), (13, .i .i64 i)]) (fun i => []) (fun i => i ≤ l.length) (fun i => l.length - i) [1, 5, 11, 12, 13] [] 0 (by simp) (by rw [eachTo_zero]; simp) ?_)
 intro i hi
 refine AWp.g [1, 5, 11, 12, 13, 14] [] ?_
 simp
 refine AWp.seq ?_
 by_cases h : i < l.length
 ·refine AWp.cT (by simp [h]) ?_
  refine AWp.skip ?_
  show AWp _ _ _ _
  refine AWp.seq ?_
  refine AWp.block ?_
  refine AWp.g [1, 5, 6, 7, 11, 12, 13] [] ?_
  simp [h]
  have hs := rrE_set (eachTo l i) i l[i]
  rw [eachTo_set l i h] at hs
  have hel := eachTo_length l i (by omega)
  refine AWp.last [1, 5, 11, 12, 13] [] [(1, .fn g [] []), (5, .sl .own 1 (rrE (eachTo l (i + 1)))), (11, .sl .fro 1 (rrE l)), (12, .i .i64 l.length), (13, .i .i64 i)] [] ?_ ?_
  ·simp
   refine call_p (hg l[i] (List.getElem_mem h)) ?_
   simp [hs, h, hel]
  show AWp _ _ _ _
  refine AWp.gL [1, 5, 11, 12, 13] [] ?_
  simp
  refine ⟨i + 1, by omega, by omega, ?_⟩
  simp
  exact wrap64 (by omega) (by omega)
 ·refine AWp.cF (by simp [h]) ?_
  refine AWp.exit ?_
  show AWp _ _ _ _
  obtain rfl : i = l.length := by omega
  rw [eachTo_all]
  refine AWp.g [4] [] ?_
  simp
  refine AWp.ret ?_
  simp
set_option maxRecDepth 8000 in
set_option maxHeartbeats 1000000 in
theorem c_raw_each_C (l : List (List Cel)) (g : Nat) (hl : l.length ≤ 1000) (hg : ∀ x ∈ l, Pure Tryz.prog g [.sl .fro 2 (celsAV x)] (.sl .fro 2 (celsAV x))) : Pure Tryz.prog 117 [.sl .fro 1 (rrC l), .fn g [] []] (.sl .own 1 (rrC l)) := by
 refine proc_of (cx Tryz.prog 26 [0, 1, 4, 5, 6, 7, 11, 12, 13, 14] [4]) 24 [.tmp 4] Tryz.func117 rfl rfl rfl rfl rfl rfl (Nat.le_refl _) rfl ?_
 refine AWp.g [0, 1] [] ?_
 simp
 refine AWp.step [0, 1, 5] [] [(0, .sl .fro 1 (rrC l)), (1, .fn g [] []), (5, .sl .own 1 (rrC (List.replicate l.length [])))] [] ?_ ?_
 ·simp
  omega
 refine AWp.seq ?_
 refine AWp.g [1, 5, 11, 12, 13] [] ?_
 simp
 refine AWp.block (AWp.while (fun i : Nat => [(1, .fn g [] []), (5, .sl .own 1 (rrC (eachTo l i))), (11, .sl .fro 1 (rrC l)), (12, .i .i64 l.length), (13, .i .i64 i)]) (fun i => []) (fun i => i ≤ l.length) (fun i => l.length - i) [1, 5, 11, 12, 13] [] 0 (by simp) (by rw [eachTo_zero]; simp) ?_)
 intro i hi
 refine AWp.g [1, 5, 11, 12, 13, 14] [] ?_
 simp
 refine AWp.seq ?_
 by_cases h : i < l.length
 ·refine AWp.cT (by simp [h]) ?_
  refine AWp.skip ?_
  show AWp _ _ _ _
  refine AWp.seq ?_
  refine AWp.block ?_
  refine AWp.g [1, 5, 6, 7, 11, 12, 13] [] ?_
  simp [h]
  have hs := rrC_set (eachTo l i) i l[i]
  rw [eachTo_set l i h] at hs
  have hel := eachTo_length l i (by omega)
  refine AWp.last [1, 5, 11, 12, 13] [] [(1, .fn g [] []), (5, .sl .own 1 (rrC (eachTo l (i + 1)))), (11, .sl .fro 1 (rrC l)), (12, .i .i64 l.length), (13, .i .i64 i)] [] ?_ ?_
  ·simp
   refine call_p (hg l[i] (List.getElem_mem h)) ?_
   simp [hs, h, hel]
  show AWp _ _ _ _
  refine AWp.gL [1, 5, 11, 12, 13] [] ?_
  simp
  refine ⟨i + 1, by omega, by omega, ?_⟩
  simp
  exact wrap64 (by omega) (by omega)
 ·refine AWp.cF (by simp [h]) ?_
  refine AWp.exit ?_
  show AWp _ _ _ _
  obtain rfl : i = l.length := by omega
  rw [eachTo_all]
  refine AWp.g [4] [] ?_
  simp
  refine AWp.ret ?_
  simp
set_option maxRecDepth 8000 in
set_option maxHeartbeats 1000000 in
theorem c_raw_each_A (l : List (List Acc)) (g : Nat) (hl : l.length ≤ 1000) (hg : ∀ x ∈ l, Pure Tryz.prog g [.sl .fro 6 (acsAV x)] (.sl .fro 6 (acsAV x))) : Pure Tryz.prog 119 [.sl .fro 1 (rrA l), .fn g [] []] (.sl .own 1 (rrA l)) := by
 refine proc_of (cx Tryz.prog 26 [0, 1, 4, 5, 6, 7, 11, 12, 13, 14] [4]) 24 [.tmp 4] Tryz.func119 rfl rfl rfl rfl rfl rfl (Nat.le_refl _) rfl ?_
 refine AWp.g [0, 1] [] ?_
 simp
 refine AWp.step [0, 1, 5] [] [(0, .sl .fro 1 (rrA l)), (1, .fn g [] []), (5, .sl .own 1 (rrA (List.replicate l.length [])))] [] ?_ ?_
 ·simp
  omega
 refine AWp.seq ?_
 refine AWp.g [1, 5, 11, 12, 13] [] ?_
 simp
 refine AWp.block (AWp.while (fun i : Nat => [(1, .fn g [] []), (5, .sl .own 1 (rrA (eachTo l i))), (11, .sl .fro 1 (rrA l)), (12, .i .i64 l.length), (13, .i .i64 i)]) (fun i => []) (fun i => i ≤ l.length) (fun i => l.length - i) [1, 5, 11, 12, 13] [] 0 (by simp) (by rw [eachTo_zero]; simp) ?_)
 intro i hi
 refine AWp.g [1, 5, 11, 12, 13, 14] [] ?_
 simp
 refine AWp.seq ?_
 by_cases h : i < l.length
 ·refine AWp.cT (by simp [h]) ?_
  refine AWp.skip ?_
  show AWp _ _ _ _
  refine AWp.seq ?_
  refine AWp.block ?_
  refine AWp.g [1, 5, 6, 7, 11, 12, 13] [] ?_
  simp [h]
  have hs := rrA_set (eachTo l i) i l[i]
  rw [eachTo_set l i h] at hs
  have hel := eachTo_length l i (by omega)
  refine AWp.last [1, 5, 11, 12, 13] [] [(1, .fn g [] []), (5, .sl .own 1 (rrA (eachTo l (i + 1)))), (11, .sl .fro 1 (rrA l)), (12, .i .i64 l.length), (13, .i .i64 i)] [] ?_ ?_
  ·simp
   refine call_p (hg l[i] (List.getElem_mem h)) ?_
   simp [hs, h, hel]
  show AWp _ _ _ _
  refine AWp.gL [1, 5, 11, 12, 13] [] ?_
  simp
  refine ⟨i + 1, by omega, by omega, ?_⟩
  simp
  exact wrap64 (by omega) (by omega)
 ·refine AWp.cF (by simp [h]) ?_
  refine AWp.exit ?_
  show AWp _ _ _ _
  obtain rfl : i = l.length := by omega
  rw [eachTo_all]
  refine AWp.g [4] [] ?_
  simp
  refine AWp.ret ?_
  simp
set_option maxRecDepth 8000 in
set_option maxHeartbeats 1000000 in
theorem c_raw_each_N (l : List (List Nt)) (g : Nat) (hl : l.length ≤ 1000) (hg : ∀ x ∈ l, Pure Tryz.prog g [.sl .fro 4 (ntsAV x)] (.sl .fro 4 (ntsAV x))) : Pure Tryz.prog 121 [.sl .fro 1 (rrN l), .fn g [] []] (.sl .own 1 (rrN l)) := by
 refine proc_of (cx Tryz.prog 26 [0, 1, 4, 5, 6, 7, 11, 12, 13, 14] [4]) 24 [.tmp 4] Tryz.func121 rfl rfl rfl rfl rfl rfl (Nat.le_refl _) rfl ?_
 refine AWp.g [0, 1] [] ?_
 simp
 refine AWp.step [0, 1, 5] [] [(0, .sl .fro 1 (rrN l)), (1, .fn g [] []), (5, .sl .own 1 (rrN (List.replicate l.length [])))] [] ?_ ?_
 ·simp
  omega
 refine AWp.seq ?_
 refine AWp.g [1, 5, 11, 12, 13] [] ?_
 simp
 refine AWp.block (AWp.while (fun i : Nat => [(1, .fn g [] []), (5, .sl .own 1 (rrN (eachTo l i))), (11, .sl .fro 1 (rrN l)), (12, .i .i64 l.length), (13, .i .i64 i)]) (fun i => []) (fun i => i ≤ l.length) (fun i => l.length - i) [1, 5, 11, 12, 13] [] 0 (by simp) (by rw [eachTo_zero]; simp) ?_)
 intro i hi
 refine AWp.g [1, 5, 11, 12, 13, 14] [] ?_
 simp
 refine AWp.seq ?_
 by_cases h : i < l.length
 ·refine AWp.cT (by simp [h]) ?_
  refine AWp.skip ?_
  show AWp _ _ _ _
  refine AWp.seq ?_
  refine AWp.block ?_
  refine AWp.g [1, 5, 6, 7, 11, 12, 13] [] ?_
  simp [h]
  have hs := rrN_set (eachTo l i) i l[i]
  rw [eachTo_set l i h] at hs
  have hel := eachTo_length l i (by omega)
  refine AWp.last [1, 5, 11, 12, 13] [] [(1, .fn g [] []), (5, .sl .own 1 (rrN (eachTo l (i + 1)))), (11, .sl .fro 1 (rrN l)), (12, .i .i64 l.length), (13, .i .i64 i)] [] ?_ ?_
  ·simp
   refine call_p (hg l[i] (List.getElem_mem h)) ?_
   simp [hs, h, hel]
  show AWp _ _ _ _
  refine AWp.gL [1, 5, 11, 12, 13] [] ?_
  simp
  refine ⟨i + 1, by omega, by omega, ?_⟩
  simp
  exact wrap64 (by omega) (by omega)
 ·refine AWp.cF (by simp [h]) ?_
  refine AWp.exit ?_
  show AWp _ _ _ _
  obtain rfl : i = l.length := by omega
  rw [eachTo_all]
  refine AWp.g [4] [] ?_
  simp
  refine AWp.ret ?_
  simp
set_option maxRecDepth 8000 in
set_option maxHeartbeats 4000000 in
theorem c_raw_own1 (s : List Entry) (hs : Fine s) (hne : s ≠ []) : Pure Tryz.prog 116 [.sl .fro 3 (entsAV s)] (.sl .own 3 (entsAV s)) := by
 refine proc_of (cx Tryz.prog 34 [0, 2, 3, 4, 8, 9, 10] [2]) 33 [.tmp 2] Tryz.func116 rfl rfl rfl rfl rfl rfl (Nat.le_refl _) rfl ?_
 refine AWp.g [0] [] ?_
 simp
 refine AWp.g [3] [] ?_
 simp
 refine call_p (c_Clone_Entry s hs) ?_
 simp
 refine AWp.unown 3 100 rfl (by simp) (by simpa [entsAV] using hne) rfl (by simp) fun cap hcap => ?_
 simp at hcap
 have hlen := hs.1
 have hcc : Calm (boxR entC s (List.replicate ((cap - s.length) * 3) AV.any)) := boxR_calm entC_ok (Calm.replicate _ rfl)
 have hbl := boxR_len entC_ok s (List.replicate ((cap - s.length) * 3) AV.any)
 simp at hbl
 have e0 : (entsAV s).flatten ++ List.replicate ((cap - s.length) * 3) AV.any = boxR entC s (List.replicate ((cap - s.length) * 3) AV.any) := rfl
 simp [e0, hcc]
 refine AWp.seq ?_
 refine AWp.g [3, 8, 9] [100] ?_
 simp [hcc]
 refine AWp.block (AWp.while (fun i : Nat => [(3, .bs 100 0 s.length cap), (8, .i .i64 s.length), (9, .i .i64 i)]) (fun i => [(100, boxR entC s (List.replicate ((cap - s.length) * 3) AV.any))]) (fun i => i ≤ s.length) (fun i => s.length - i) [3, 8, 9] [100] 0 (by simp) (by simp [hcc]) ?_)
 intro i hi
 refine AWp.g [3, 8, 9, 10] [100] ?_
 simp [hcc]
 refine AWp.seq ?_
 by_cases h2 : i < s.length
 ·refine AWp.cT (by simp [h2]) ?_
  refine AWp.skip ?_
  show AWp _ _ _ _
  refine AWp.seq ?_
  refine AWp.block ?_
  refine AWp.g [3, 4, 8, 9] [100] ?_
  simp [hcc]
  have hl := hs.2 _ (List.getElem_mem h2)
  have g1 := (c_Clone_Dot (dotsAV s[i].live) (by simp; omega)).fro
  have g2 := (c_Clone_Dot (dotsAV s[i].dead) (by simp; omega)).fro
  have q0 := entR_get s (List.replicate ((cap - s.length) * 3) AV.any) i h2
  have q1 := (take3_1 q0).1
  have q2 := (take3_1 q0).2
  have q3 := put_same q1
  have q4 := put_same q2
  have q5 := set_same q1
  have q6 := set_same q2
  refine AWp.lastT (.take 0 (.take 1 (.take 2 (.take 3 (.take 4 (.take 5 (.take 10 (.take 11 (.alt 6 (.take 7 (.alt 8 (.alt 9 (.alt 12 (.take 13 (.alt 14 (.alt 15 (.alt 16 (.take 17 (.alt 18 (.alt 19 (.take 20 (.alt 21 .fin .stop)) .stop) .stop)) .stop) .stop) .stop)) .stop) (.alt 12 (.take 13 (.alt 9 (.alt 14 (.alt 15 (.alt 16 (.take 17 (.alt 18 (.alt 19 (.take 20 (.alt 21 .fin .stop)) .stop) .stop)) .stop) .stop) .stop) (.alt 14 (.alt 9 (.alt 15 (.alt 16 (.take 17 (.alt 18 (.alt 19 (.take 20 (.alt 21 .fin .stop)) .stop) .stop)) .stop) .stop) .stop) .stop))) .stop)) (.alt 12 (.take 13 (.alt 8 (.alt 9 (.alt 14 (.alt 15 (.alt 16 (.take 17 (.alt 18 (.alt 19 (.take 20 (.alt 21 .fin .stop)) .stop) .stop)) .stop) .stop) .stop) (.alt 14 (.alt 9 (.alt 15 (.alt 16 (.take 17 (.alt 18 (.alt 19 (.take 20 (.alt 21 .fin .stop)) .stop) .stop)) .stop) .stop) .stop) .stop)) (.alt 14 (.alt 8 (.alt 9 (.alt 15 (.alt 16 (.take 17 (.alt 18 (.alt 19 (.take 20 (.alt 21 .fin .stop)) .stop) .stop)) .stop) .stop) .stop) .stop) .stop))) .stop))) (.alt 12 (.take 13 (.alt 6 (.take 7 (.alt 8 (.alt 9 (.alt 14 (.alt 15 (.alt 16 (.take 17 (.alt 18 (.alt 19 (.take 20 (.alt 21 .fin .stop)) .stop) .stop)) .stop) .stop) .stop) (.alt 14 (.alt 9 (.alt 15 (.alt 16 (.take 17 (.alt 18 (.alt 19 (.take 20 (.alt 21 .fin .stop)) .stop) .stop)) .stop) .stop) .stop) .stop)) (.alt 14 (.alt 8 (.alt 9 (.alt 15 (.alt 16 (.take 17 (.alt 18 (.alt 19 (.take 20 (.alt 21 .fin .stop)) .stop) .stop)) .stop) .stop) .stop) .stop) .stop))) (.alt 14 (.alt 6 (.take 7 (.alt 8 (.alt 9 (.alt 15 (.alt 16 (.take 17 (.alt 18 (.alt 19 (.take 20 (.alt 21 .fin .stop)) .stop) .stop)) .stop) .stop) .stop) .stop)) .stop) .stop))) .stop)))))))))) [3, 8, 9] [100] [(3, .bs 100 0 s.length cap), (8, .i .i64 s.length), (9, .i .i64 i)] [(100, boxR entC s (List.replicate ((cap - s.length) * 3) AV.any))] mix (by kernel_rfl) ?_ ?_
  ·refine atree.t ?_
   simp [h2, hcc, hbl, q1, q2, q3, q4, q5, q6]
   refine atree.t ?_
   simp [h2, hcc, hbl, q1, q2, q3, q4, q5, q6]
   refine atree.t ?_
   simp [h2, hcc, hbl, q1, q2, q3, q4, q5, q6]
   refine atree.t ?_
   simp [h2, hcc, hbl, q1, q2, q3, q4, q5, q6]
   refine atree.t ?_
   simp [h2, hcc, hbl, q1, q2, q3, q4, q5, q6]
   refine atree.t ?_
   simp [h2, hcc, hbl, q1, q2, q3, q4, q5, q6]
   refine atree.t ?_
   simp [h2, hcc, hbl, q1, q2, q3, q4, q5, q6]
   refine atree.t ?_
   simp [h2, hcc, hbl, q1, q2, q3, q4, q5, q6]
   refine atree.b ?_ ?_
   ·simp [h2, hcc, hbl, q1, q2, q3, q4, q5, q6]
    refine atree.t ?_
    simp [h2, hcc, hbl, q1, q2, q3, q4, q5, q6]
    refine atree.b ?_ ?_
    ·simp [h2, hcc, hbl, q1, q2, q3, q4, q5, q6]
     refine ⟨by omega, ?_⟩
     refine atree.b ?_ ?_
     ·simp [h2, hcc, hbl, q1, q2, q3, q4, q5, q6]
      refine call_pure g1 (by simp) ?_
      simp
      refine atree.a ?_
      simp [h2, hcc, hbl, q1, q2, q3, q4, q5, q6]
      refine atree.t ?_
      simp [h2, hcc, hbl, q1, q2, q3, q4, q5, q6]
      refine atree.a ?_
      simp [h2, hcc, hbl, q1, q2, q3, q4, q5, q6]
      refine ⟨by omega, ?_⟩
      refine atree.a ?_
      simp [h2, hcc, hbl, q1, q2, q3, q4, q5, q6]
      refine call_pure g2 (by simp) ?_
      simp
      refine atree.a ?_
      simp [h2, hcc, hbl, q1, q2, q3, q4, q5, q6]
      refine atree.t ?_
      simp [h2, hcc, hbl, q1, q2, q3, q4, q5, q6]
      refine atree.a ?_
      simp [h2, hcc, hbl, q1, q2, q3, q4, q5, q6]
      refine ⟨by omega, ?_⟩
      refine atree.a ?_
      simp [h2, hcc, hbl, q1, q2, q3, q4, q5, q6]
      refine atree.t ?_
      simp [h2, hcc, hbl, q1, q2, q3, q4, q5, q6]
      refine atree.a ?_
      simp [h2, hcc, hbl, q1, q2, q3, q4, q5, q6]
      refine ⟨by omega, ?_⟩
      refine atree.f ?_
      simp [hcc]
     ·refine atree.a ?_
      simp [h2, hcc, hbl, q1, q2, q3, q4, q5, q6]
      refine atree.t ?_
      simp [h2, hcc, hbl, q1, q2, q3, q4, q5, q6]
      refine atree.b ?_ ?_
      ·simp [h2, hcc, hbl, q1, q2, q3, q4, q5, q6]
       refine call_pure g1 (by simp) ?_
       simp
       refine atree.a ?_
       simp [h2, hcc, hbl, q1, q2, q3, q4, q5, q6]
       refine ⟨by omega, ?_⟩
       refine atree.a ?_
       simp [h2, hcc, hbl, q1, q2, q3, q4, q5, q6]
       refine call_pure g2 (by simp) ?_
       simp
       refine atree.a ?_
       simp [h2, hcc, hbl, q1, q2, q3, q4, q5, q6]
       refine atree.t ?_
       simp [h2, hcc, hbl, q1, q2, q3, q4, q5, q6]
       refine atree.a ?_
       simp [h2, hcc, hbl, q1, q2, q3, q4, q5, q6]
       refine ⟨by omega, ?_⟩
       refine atree.a ?_
       simp [h2, hcc, hbl, q1, q2, q3, q4, q5, q6]
       refine atree.t ?_
       simp [h2, hcc, hbl, q1, q2, q3, q4, q5, q6]
       refine atree.a ?_
       simp [h2, hcc, hbl, q1, q2, q3, q4, q5, q6]
       refine ⟨by omega, ?_⟩
       refine atree.f ?_
       simp [hcc]
      ·refine atree.a ?_
       simp [h2, hcc, hbl, q1, q2, q3, q4, q5, q6]
       refine ⟨by omega, ?_⟩
       refine atree.a ?_
       simp [h2, hcc, hbl, q1, q2, q3, q4, q5, q6]
       refine call_pure g1 (by simp) ?_
       simp
       refine atree.a ?_
       simp [h2, hcc, hbl, q1, q2, q3, q4, q5, q6]
       refine call_pure g2 (by simp) ?_
       simp
       refine atree.a ?_
       simp [h2, hcc, hbl, q1, q2, q3, q4, q5, q6]
       refine atree.t ?_
       simp [h2, hcc, hbl, q1, q2, q3, q4, q5, q6]
       refine atree.a ?_
       simp [h2, hcc, hbl, q1, q2, q3, q4, q5, q6]
       refine ⟨by omega, ?_⟩
       refine atree.a ?_
       simp [h2, hcc, hbl, q1, q2, q3, q4, q5, q6]
       refine atree.t ?_
       simp [h2, hcc, hbl, q1, q2, q3, q4, q5, q6]
       refine atree.a ?_
       simp [h2, hcc, hbl, q1, q2, q3, q4, q5, q6]
       refine ⟨by omega, ?_⟩
       refine atree.f ?_
       simp [hcc]
    ·refine atree.a ?_
     simp [h2, hcc, hbl, q1, q2, q3, q4, q5, q6]
     refine atree.t ?_
     simp [h2, hcc, hbl, q1, q2, q3, q4, q5, q6]
     refine atree.b ?_ ?_
     ·simp [h2, hcc, hbl, q1, q2, q3, q4, q5, q6]
      refine ⟨by omega, ?_⟩
      refine atree.b ?_ ?_
      ·simp [h2, hcc, hbl, q1, q2, q3, q4, q5, q6]
       refine call_pure g1 (by simp) ?_
       simp
       refine atree.a ?_
       simp [h2, hcc, hbl, q1, q2, q3, q4, q5, q6]
       refine ⟨by omega, ?_⟩
       refine atree.a ?_
       simp [h2, hcc, hbl, q1, q2, q3, q4, q5, q6]
       refine call_pure g2 (by simp) ?_
       simp
       refine atree.a ?_
       simp [h2, hcc, hbl, q1, q2, q3, q4, q5, q6]
       refine atree.t ?_
       simp [h2, hcc, hbl, q1, q2, q3, q4, q5, q6]
       refine atree.a ?_
       simp [h2, hcc, hbl, q1, q2, q3, q4, q5, q6]
       refine ⟨by omega, ?_⟩
       refine atree.a ?_
       simp [h2, hcc, hbl, q1, q2, q3, q4, q5, q6]
       refine atree.t ?_
       simp [h2, hcc, hbl, q1, q2, q3, q4, q5, q6]
       refine atree.a ?_
       simp [h2, hcc, hbl, q1, q2, q3, q4, q5, q6]
       refine ⟨by omega, ?_⟩
       refine atree.f ?_
       simp [hcc]
      ·refine atree.a ?_
       simp [h2, hcc, hbl, q1, q2, q3, q4, q5, q6]
       refine ⟨by omega, ?_⟩
       refine atree.a ?_
       simp [h2, hcc, hbl, q1, q2, q3, q4, q5, q6]
       refine call_pure g1 (by simp) ?_
       simp
       refine atree.a ?_
       simp [h2, hcc, hbl, q1, q2, q3, q4, q5, q6]
       refine call_pure g2 (by simp) ?_
       simp
       refine atree.a ?_
       simp [h2, hcc, hbl, q1, q2, q3, q4, q5, q6]
       refine atree.t ?_
       simp [h2, hcc, hbl, q1, q2, q3, q4, q5, q6]
       refine atree.a ?_
       simp [h2, hcc, hbl, q1, q2, q3, q4, q5, q6]
       refine ⟨by omega, ?_⟩
       refine atree.a ?_
       simp [h2, hcc, hbl, q1, q2, q3, q4, q5, q6]
       refine atree.t ?_
       simp [h2, hcc, hbl, q1, q2, q3, q4, q5, q6]
       refine atree.a ?_
       simp [h2, hcc, hbl, q1, q2, q3, q4, q5, q6]
       refine ⟨by omega, ?_⟩
       refine atree.f ?_
       simp [hcc]
     ·refine atree.a ?_
      simp [h2, hcc, hbl, q1, q2, q3, q4, q5, q6]
      refine ⟨by omega, ?_⟩
      refine atree.a ?_
      simp [h2, hcc, hbl, q1, q2, q3, q4, q5, q6]
      refine ⟨by omega, ?_⟩
      refine atree.a ?_
      simp [h2, hcc, hbl, q1, q2, q3, q4, q5, q6]
      refine call_pure g1 (by simp) ?_
      simp
      refine atree.a ?_
      simp [h2, hcc, hbl, q1, q2, q3, q4, q5, q6]
      refine call_pure g2 (by simp) ?_
      simp
      refine atree.a ?_
      simp [h2, hcc, hbl, q1, q2, q3, q4, q5, q6]
      refine atree.t ?_
      simp [h2, hcc, hbl, q1, q2, q3, q4, q5, q6]
      refine atree.a ?_
      simp [h2, hcc, hbl, q1, q2, q3, q4, q5, q6]
      refine ⟨by omega, ?_⟩
      refine atree.a ?_
      simp [h2, hcc, hbl, q1, q2, q3, q4, q5, q6]
      refine atree.t ?_
      simp [h2, hcc, hbl, q1, q2, q3, q4, q5, q6]
      refine atree.a ?_
      simp [h2, hcc, hbl, q1, q2, q3, q4, q5, q6]
      refine ⟨by omega, ?_⟩
      refine atree.f ?_
      simp [hcc]
   ·refine atree.a ?_
    simp [h2, hcc, hbl, q1, q2, q3, q4, q5, q6]
    refine atree.t ?_
    simp [h2, hcc, hbl, q1, q2, q3, q4, q5, q6]
    refine atree.b ?_ ?_
    ·simp [h2, hcc, hbl, q1, q2, q3, q4, q5, q6]
     refine atree.t ?_
     simp [h2, hcc, hbl, q1, q2, q3, q4, q5, q6]
     refine atree.b ?_ ?_
     ·simp [h2, hcc, hbl, q1, q2, q3, q4, q5, q6]
      refine ⟨by omega, ?_⟩
      refine atree.b ?_ ?_
      ·simp [h2, hcc, hbl, q1, q2, q3, q4, q5, q6]
       refine call_pure g1 (by simp) ?_
       simp
       refine atree.a ?_
       simp [h2, hcc, hbl, q1, q2, q3, q4, q5, q6]
       refine ⟨by omega, ?_⟩
       refine atree.a ?_
       simp [h2, hcc, hbl, q1, q2, q3, q4, q5, q6]
       refine call_pure g2 (by simp) ?_
       simp
       refine atree.a ?_
       simp [h2, hcc, hbl, q1, q2, q3, q4, q5, q6]
       refine atree.t ?_
       simp [h2, hcc, hbl, q1, q2, q3, q4, q5, q6]
       refine atree.a ?_
       simp [h2, hcc, hbl, q1, q2, q3, q4, q5, q6]
       refine ⟨by omega, ?_⟩
       refine atree.a ?_
       simp [h2, hcc, hbl, q1, q2, q3, q4, q5, q6]
       refine atree.t ?_
       simp [h2, hcc, hbl, q1, q2, q3, q4, q5, q6]
       refine atree.a ?_
       simp [h2, hcc, hbl, q1, q2, q3, q4, q5, q6]
       refine ⟨by omega, ?_⟩
       refine atree.f ?_
       simp [hcc]
      ·refine atree.a ?_
       simp [h2, hcc, hbl, q1, q2, q3, q4, q5, q6]
       refine ⟨by omega, ?_⟩
       refine atree.a ?_
       simp [h2, hcc, hbl, q1, q2, q3, q4, q5, q6]
       refine call_pure g1 (by simp) ?_
       simp
       refine atree.a ?_
       simp [h2, hcc, hbl, q1, q2, q3, q4, q5, q6]
       refine call_pure g2 (by simp) ?_
       simp
       refine atree.a ?_
       simp [h2, hcc, hbl, q1, q2, q3, q4, q5, q6]
       refine atree.t ?_
       simp [h2, hcc, hbl, q1, q2, q3, q4, q5, q6]
       refine atree.a ?_
       simp [h2, hcc, hbl, q1, q2, q3, q4, q5, q6]
       refine ⟨by omega, ?_⟩
       refine atree.a ?_
       simp [h2, hcc, hbl, q1, q2, q3, q4, q5, q6]
       refine atree.t ?_
       simp [h2, hcc, hbl, q1, q2, q3, q4, q5, q6]
       refine atree.a ?_
       simp [h2, hcc, hbl, q1, q2, q3, q4, q5, q6]
       refine ⟨by omega, ?_⟩
       refine atree.f ?_
       simp [hcc]
     ·refine atree.a ?_
      simp [h2, hcc, hbl, q1, q2, q3, q4, q5, q6]
      refine ⟨by omega, ?_⟩
      refine atree.a ?_
      simp [h2, hcc, hbl, q1, q2, q3, q4, q5, q6]
      refine ⟨by omega, ?_⟩
      refine atree.a ?_
      simp [h2, hcc, hbl, q1, q2, q3, q4, q5, q6]
      refine call_pure g1 (by simp) ?_
      simp
      refine atree.a ?_
      simp [h2, hcc, hbl, q1, q2, q3, q4, q5, q6]
      refine call_pure g2 (by simp) ?_
      simp
      refine atree.a ?_
      simp [h2, hcc, hbl, q1, q2, q3, q4, q5, q6]
      refine atree.t ?_
      simp [h2, hcc, hbl, q1, q2, q3, q4, q5, q6]
      refine atree.a ?_
      simp [h2, hcc, hbl, q1, q2, q3, q4, q5, q6]
      refine ⟨by omega, ?_⟩
      refine atree.a ?_
      simp [h2, hcc, hbl, q1, q2, q3, q4, q5, q6]
      refine atree.t ?_
      simp [h2, hcc, hbl, q1, q2, q3, q4, q5, q6]
      refine atree.a ?_
      simp [h2, hcc, hbl, q1, q2, q3, q4, q5, q6]
      refine ⟨by omega, ?_⟩
      refine atree.f ?_
      simp [hcc]
    ·refine atree.a ?_
     simp [h2, hcc, hbl, q1, q2, q3, q4, q5, q6]
     refine ⟨by omega, ?_⟩
     refine atree.a ?_
     simp [h2, hcc, hbl, q1, q2, q3, q4, q5, q6]
     refine atree.t ?_
     simp [h2, hcc, hbl, q1, q2, q3, q4, q5, q6]
     refine atree.a ?_
     simp [h2, hcc, hbl, q1, q2, q3, q4, q5, q6]
     refine ⟨by omega, ?_⟩
     refine atree.a ?_
     simp [h2, hcc, hbl, q1, q2, q3, q4, q5, q6]
     refine call_pure g1 (by simp) ?_
     simp
     refine atree.a ?_
     simp [h2, hcc, hbl, q1, q2, q3, q4, q5, q6]
     refine call_pure g2 (by simp) ?_
     simp
     refine atree.a ?_
     simp [h2, hcc, hbl, q1, q2, q3, q4, q5, q6]
     refine atree.t ?_
     simp [h2, hcc, hbl, q1, q2, q3, q4, q5, q6]
     refine atree.a ?_
     simp [h2, hcc, hbl, q1, q2, q3, q4, q5, q6]
     refine ⟨by omega, ?_⟩
     refine atree.a ?_
     simp [h2, hcc, hbl, q1, q2, q3, q4, q5, q6]
     refine atree.t ?_
     simp [h2, hcc, hbl, q1, q2, q3, q4, q5, q6]
     refine atree.a ?_
     simp [h2, hcc, hbl, q1, q2, q3, q4, q5, q6]
     refine ⟨by omega, ?_⟩
     refine atree.f ?_
     simp [hcc]
  show AWp _ _ _ _
  refine AWp.gL [3, 8, 9] [100] ?_
  simp [hcc]
  refine ⟨i + 1, by omega, by omega, ?_⟩
  simp [hcc]
  exact wrap64 (by omega) (by omega)
 ·refine AWp.cF (by simp [h2]) ?_
  refine AWp.exit ?_
  show AWp _ _ _ _
  obtain rfl : i = s.length := by omega
  have hrl : ((entsAV s).flatten).length = s.length * 3 := rows_len entC_ok s
  refine AWp.reown 3 100 cap (sz := 3) (entsAV s) (List.replicate ((cap - s.length) * 3) AV.any) (by simp) (by simp) rfl ?_ (fun z hz => ?_) (ents_dat s) hcc.freeL ?_
  ·rw [List.length_append, hrl, List.length_replicate]; omega
  ·obtain ⟨x, _, rfl⟩ := List.mem_map.1 hz; rfl
  simp
  refine AWp.g [2] [100] ?_
  simp [hcc]
  refine AWp.ret ?_
  simp
set_option maxRecDepth 8000 in
theorem c_raw_own0 : Pure Tryz.prog 116 [.sl .fro 3 []] (.sl .own 3 []) := by
 refine proc_of (cx Tryz.prog 34 [0, 2, 3, 4, 8, 9, 10] [2]) 33 [.tmp 2] Tryz.func116 rfl rfl rfl rfl rfl rfl (Nat.le_refl _) rfl ?_
 refine AWp.g [0] [] ?_
 simp
 refine AWp.g [3] [] ?_
 simp
 refine call_pure (c_Clone_Entry [] ⟨by simp, by simp⟩) (by simp [entsAV]) ?_
 simp
 refine AWp.seq ?_
 refine AWp.g [3, 8, 9] [] ?_
 simp
 refine AWp.block (AWp.while (fun i : Nat => [(3, .sl .own 3 []), (8, .i .i64 0), (9, .i .i64 0)]) (fun i => []) (fun i => True) (fun i => 0) [3, 8, 9] [] 0 (by simp) (by simp [entsAV]) ?_)
 intro i hi
 refine AWp.g [3, 8, 9, 10] [] ?_
 simp
 refine AWp.seq ?_
 refine AWp.cF (by simp) ?_
 refine AWp.exit ?_
 show AWp _ _ _ _
 refine AWp.g [2] [] ?_
 simp
 refine AWp.ret ?_
 simp
theorem c_raw_own (s : List Entry) (hs : Fine s) : Pure Tryz.prog 116 [.sl .fro 3 (entsAV s)] (.sl .own 3 (entsAV s)) := by
 by_cases h : s = []
 ·subst h; exact c_raw_own0
 ·exact c_raw_own1 s hs h
theorem c_Clone_Cel (l : List Cel) (hl : l.length ≤ 1000000) : Pure Tryz.prog 118 [.sl .fro 2 (celsAV l)] (.sl .own 2 (celsAV l)) := by
 refine proc_of (cx Tryz.prog 8 [0, 2, 4] [2]) 7 [.tmp 2] Tryz.func118 rfl rfl rfl rfl rfl rfl (Nat.le_refl _) rfl ?_
 refine AWp.g [0] [] ?_
 simp
 refine AWp.seq ?_
 refine AWp.g [0, 4] [] ?_
 simp
 refine ⟨fun h0 => ?_, ?_⟩
 ·refine AWp.cT (by simp) ?_
  refine AWp.g [2] [] ?_
  simp
  refine AWp.ret ?_
  simp [h0]
 ·refine AWp.cF (by simp) ?_
  refine AWp.skip ?_
  show AWp _ _ _ _
  refine AWp.g [2] [] ?_
  simp
  refine ⟨by omega, ?_⟩
  refine AWp.ret ?_
  simp
theorem c_Clone_Acc (l : List Acc) (hl : l.length ≤ 1000000) : Pure Tryz.prog 120 [.sl .fro 6 (acsAV l)] (.sl .own 6 (acsAV l)) := by
 refine proc_of (cx Tryz.prog 8 [0, 2, 4] [2]) 7 [.tmp 2] Tryz.func120 rfl rfl rfl rfl rfl rfl (Nat.le_refl _) rfl ?_
 refine AWp.g [0] [] ?_
 simp
 refine AWp.seq ?_
 refine AWp.g [0, 4] [] ?_
 simp
 refine ⟨fun h0 => ?_, ?_⟩
 ·refine AWp.cT (by simp) ?_
  refine AWp.g [2] [] ?_
  simp
  refine AWp.ret ?_
  simp [h0]
 ·refine AWp.cF (by simp) ?_
  refine AWp.skip ?_
  show AWp _ _ _ _
  refine AWp.g [2] [] ?_
  simp
  refine ⟨by omega, ?_⟩
  refine AWp.ret ?_
  simp
theorem c_Clone_Nt (l : List Nt) (hl : l.length ≤ 1000000) : Pure Tryz.prog 122 [.sl .fro 4 (ntsAV l)] (.sl .own 4 (ntsAV l)) := by
 refine proc_of (cx Tryz.prog 8 [0, 2, 4] [2]) 7 [.tmp 2] Tryz.func122 rfl rfl rfl rfl rfl rfl (Nat.le_refl _) rfl ?_
 refine AWp.g [0] [] ?_
 simp
 refine AWp.seq ?_
 refine AWp.g [0, 4] [] ?_
 simp
 refine ⟨fun h0 => ?_, ?_⟩
 ·refine AWp.cT (by simp) ?_
  refine AWp.g [2] [] ?_
  simp
  refine AWp.ret ?_
  simp [h0]
 ·refine AWp.cF (by simp) ?_
  refine AWp.skip ?_
  show AWp _ _ _ _
  refine AWp.g [2] [] ?_
  simp
  refine ⟨by omega, ?_⟩
  refine AWp.ret ?_
  simp
def rwO (w : Rw) : List AV := [.sl .own 1 (rrE w.sets), .sl .own 1 (rrC w.tals), .sl .own 1 (rrA w.accs), .sl .own 1 (rrN w.regs)]
set_option maxRecDepth 8000 in
set_option maxHeartbeats 4000000 in
theorem c_raw_copied (w : Rw) (hw : FineR w) : Pure Tryz.prog 50 [.agg (rwC w)] (.agg (rwO w)) := by
 have gs := c_raw_each_E w.sets 116 hw.s0 fun x hx => (c_raw_own x (hw.s1 x hx)).fro
 have gt := c_raw_each_C w.tals 118 hw.t0 fun x hx => (c_Clone_Cel x (by have := hw.t1 x hx; omega)).fro
 have ga := c_raw_each_A w.accs 120 hw.a0 fun x hx => (c_Clone_Acc x (by have := hw.a1 x hx; omega)).fro
 have gn := c_raw_each_N w.regs 122 hw.n0 fun x hx => (c_Clone_Nt x (by have := hw.n1 x hx; omega)).fro
 refine proc_of (cx Tryz.prog 16 [1, 2] [2]) 15 [.cell 2 31] Tryz.func50 rfl rfl rfl rfl rfl rfl (Nat.le_refl _) rfl ?_
 refine AWp.g [1, 2] [1, 2] ?_
 simp [rwC]
 show AWp _ _ _ _
 refine AWp.stepA 12 (fun k => if k = 2 then .sl .own 1 (rrE w.sets) else if k = 5 then .sl .own 1 (rrC w.tals) else if k = 8 then .sl .own 1 (rrA w.accs) else if k = 11 then .sl .own 1 (rrN w.regs) else .any) [2] [2] [(2, .ptr 2 0)] [(2, [.sl .own 1 (rrE w.sets), .sl .own 1 (rrC w.tals), .sl .own 1 (rrA w.accs), .sl .own 1 (rrN w.regs)])] mix (by kernel_rfl) ?_ ?_
 ·simp [gs, gt, ga, gn]
 refine AWp.ret ?_
 simp [rwO]
end Go.AM
namespace Go.AM
open Go.Proofs
def tuTo {α : Type} (f : α → α) (ks : List Bool) (l : List α) (i : Nat) : List α := l.mapIdx fun j x => if decide (j < i) && ks.getD j false then f x else x
@[simp] theorem tuTo_length {α : Type} (f : α → α) (ks : List Bool) (l : List α) (i : Nat) : (tuTo f ks l i).length = l.length := by simp [tuTo]
@[simp] theorem tuTo_zero {α : Type} (f : α → α) (ks : List Bool) (l : List α) : tuTo f ks l 0 = l := by
 refine List.ext_getElem (by simp) fun n h1 h2 => ?_
 simp [tuTo]
@[simp] theorem tuTo_get {α : Type} (f : α → α) (ks : List Bool) (l : List α) (i : Nat) (h : i < (tuTo f ks l i).length) : (tuTo f ks l i)[i] = l[i]'(by simpa using h) := by simp [tuTo]
theorem tuTo_set {α : Type} (f : α → α) (ks : List Bool) (l : List α) (i : Nat) (h : i < l.length) (hk : i < ks.length) (hi : ks[i] = true) : (tuTo f ks l i).set i (f l[i]) = tuTo f ks l (i + 1) := by
 refine List.ext_getElem (by simp) fun n h1 h2 => ?_
 by_cases hn : i = n
 ·subst hn; simp [tuTo, hk, hi]
 ·rw [List.getElem_set_ne hn]
  simp only [tuTo, List.getElem_mapIdx]
  have : decide (n < i) = decide (n < i + 1) := by rw [decide_eq_decide]; omega
  rw [this]
theorem tuTo_skip {α : Type} (f : α → α) (ks : List Bool) (l : List α) (i : Nat) (hk : i < ks.length) (hi : ks[i] = false) : tuTo f ks l (i + 1) = tuTo f ks l i := by
 refine List.ext_getElem (by simp) fun n h1 h2 => ?_
 by_cases hn : i = n
 ·subst hn; simp [tuTo, hk, hi]
 ·simp only [tuTo, List.getElem_mapIdx]
  have : decide (n < i + 1) = decide (n < i) := by rw [decide_eq_decide]; omega
  rw [this]
def turnR (f : List Entry → List Entry) (k : Kin) (w : Rw) : Rw := ⟨tuTo f k.sets w.sets k.sets.length, w.tals, w.accs, w.regs⟩
def plainR (k : Kin) (w : Rw) : Rw := if rawB k w then turnR plainE k w else noR
theorem rwO_no : rwO noR = [.sl .own 1 [], .sl .own 1 [], .sl .own 1 [], .sl .own 1 []] := rfl
set_option maxRecDepth 8000 in
set_option maxHeartbeats 4000000 in
theorem c_raw_Plain (k : Kin) (w : Rw) (hk : FineK k) (hw : FineR w) : Pure Tryz.prog 24 [.agg (kinC k), .agg (rwC w)] (.tup [.agg (rwO (plainR k w)), .i .i64 (if rawB k w then 0 else 1)]) := by
 have gc := c_raw_Check k w hk hw
 have gp := c_raw_copied w hw
 simp [kinC, rwC, rwO] at gc gp
 have hk1 := hk.1
 refine proc_of (cx Tryz.prog 40 [2, 3, 4, 5, 6, 7, 8, 9, 14, 20, 21, 22, 23, 27] [4, 5]) 38 [.cell 4 31, .tmp 5] Tryz.func24 rfl rfl rfl rfl rfl rfl (Nat.le_refl _) rfl ?_
 refine AWp.g [2, 3, 4] [2, 3, 4] ?_
 simp [kinC, rwC]
 refine AWp.seq ?_
 refine AWp.g [2, 3, 4, 6] [2, 3, 4] ?_
 simp
 refine call_pure gc (by simp) ?_
 simp
 refine AWp.step [2, 3, 4, 6, 14] [2, 3, 4] [(2, .ptr 2 0), (3, .ptr 3 0), (4, .ptr 4 0), (6, .i .i64 (if rawB k w then 0 else 1)), (14, .b (!rawB k w))] [(2, [.sl .fro 1 (boolsAV k.sets), .sl .fro 2 (flrsAV k.counts), .i .i64 k.regs]), (3, [.sl .fro 1 (rrE w.sets), .sl .fro 1 (rrC w.tals), .sl .fro 1 (rrA w.accs), .sl .fro 1 (rrN w.regs)]), (4, [.sl .nl 1 [], .sl .nl 1 [], .sl .nl 1 [], .sl .nl 1 []])] ?_ ?_
 ·cases rawB k w <;> simp
 cases hh : rawB k w
 ·refine AWp.cT (by simp) ?_
  refine AWp.step [4, 5] [2, 3, 4] [(4, .ptr 4 0), (5, .i .i64 1)] [(2, [.sl .fro 1 (boolsAV k.sets), .sl .fro 2 (flrsAV k.counts), .i .i64 k.regs]), (3, [.sl .fro 1 (rrE w.sets), .sl .fro 1 (rrC w.tals), .sl .fro 1 (rrA w.accs), .sl .fro 1 (rrN w.regs)]), (4, [.sl .nl 1 [], .sl .nl 1 [], .sl .nl 1 [], .sl .nl 1 []])] ?_ ?_
  ·simp [hh]
  refine AWp.ret ?_
  simp [plainR, hh, rwO_no]
 ·refine AWp.cF (by simp) ?_
  refine AWp.skip ?_
  show AWp _ _ _ _
  have hlo := hh
  simp only [rawB, Bool.and_eq_true] at hlo
  obtain ⟨e1, e2, e3, e4⟩ := lenOk_iff hlo.1.1.1.2
  refine AWp.g [2, 4, 7] [2, 3, 4, 7] ?_
  simp
  refine call_pure gp (by simp) ?_
  simp
  refine AWp.seq ?_
  refine AWp.g [4, 7, 20, 21, 22] [2, 3, 4, 7] ?_
  simp
  refine AWp.block (AWp.while (fun i : Nat => [(4, .ptr 4 0), (7, .ptr 7 0), (20, .sl .fro 1 (boolsAV k.sets)), (21, .i .i64 k.sets.length), (22, .i .i64 i)]) (fun i => [(2, [.sl .fro 1 (boolsAV k.sets), .sl .fro 2 (flrsAV k.counts), .i .i64 k.regs]), (3, [.sl .fro 1 (rrE w.sets), .sl .fro 1 (rrC w.tals), .sl .fro 1 (rrA w.accs), .sl .fro 1 (rrN w.regs)]), (4, [.sl .nl 1 [], .sl .nl 1 [], .sl .nl 1 [], .sl .nl 1 []]), (7, [.sl .own 1 (rrE (tuTo plainE k.sets w.sets i)), .sl .own 1 (rrC w.tals), .sl .own 1 (rrA w.accs), .sl .own 1 (rrN w.regs)])]) (fun i => i ≤ k.sets.length) (fun i => k.sets.length - i) [4, 7, 20, 21, 22] [2, 3, 4, 7] 0 (by simp) (by simp) ?_)
  intro i hi
  refine AWp.g [4, 7, 20, 21, 22, 23] [2, 3, 4, 7] ?_
  simp
  refine AWp.seq ?_
  by_cases h2 : i < k.sets.length
  ·refine AWp.cT (by simp [h2]) ?_
   refine AWp.skip ?_
   show AWp _ _ _ _
   refine AWp.seq ?_
   refine AWp.block ?_
   refine AWp.g [4, 7, 8, 9, 20, 21, 22] [2, 3, 4, 7] ?_
   simp [h2]
   refine AWp.g [4, 7, 8, 20, 21, 22, 27] [2, 3, 4, 7] ?_
   simp
   cases hd : k.sets[i]
   ·refine AWp.cF (by simp) ?_
    refine AWp.skip ?_
    show AWp _ _ _ _
    refine AWp.gL [4, 7, 20, 21, 22] [2, 3, 4, 7] ?_
    simp
    refine ⟨i + 1, by omega, by omega, ?_⟩
    rw [tuTo_skip plainE k.sets w.sets i h2 hd]
    simp
    exact wrap64 (by omega) (by omega)
   ·refine AWp.cT (by simp) ?_
    have h3 : i < w.sets.length := by omega
    have g9 := (c_rwset_Plain w.sets[i] (hw.s1 _ (List.getElem_mem h3))).fro
    have hs := rrE_set (tuTo plainE k.sets w.sets i) i (plainE w.sets[i])
    rw [tuTo_set plainE k.sets w.sets i h3 h2 hd] at hs
    simp at g9
    refine AWp.lastD 9 (fun n => if n = 8 then .sl .fro 3 (entsAV (plainE w.sets[i])) else .any) [4, 7, 20, 21, 22] [2, 3, 4, 7] [(4, .ptr 4 0), (7, .ptr 7 0), (20, .sl .fro 1 (boolsAV k.sets)), (21, .i .i64 k.sets.length), (22, .i .i64 i)] [(2, [.sl .fro 1 (boolsAV k.sets), .sl .fro 2 (flrsAV k.counts), .i .i64 k.regs]), (3, [.sl .fro 1 (rrE w.sets), .sl .fro 1 (rrC w.tals), .sl .fro 1 (rrA w.accs), .sl .fro 1 (rrN w.regs)]), (4, [.sl .nl 1 [], .sl .nl 1 [], .sl .nl 1 [], .sl .nl 1 []]), (7, [.sl .own 1 (rrE (tuTo plainE k.sets w.sets (i + 1))), .sl .own 1 (rrC w.tals), .sl .own 1 (rrA w.accs), .sl .own 1 (rrN w.regs)])] mix (by kernel_rfl) ?_ ?_
    ·simp [h3, g9, hs]
    show AWp _ _ _ _
    refine AWp.gL [4, 7, 20, 21, 22] [2, 3, 4, 7] ?_
    simp
    refine ⟨i + 1, by omega, by omega, ?_⟩
    simp
    exact wrap64 (by omega) (by omega)
  ·refine AWp.cF (by simp [h2]) ?_
   refine AWp.exit ?_
   show AWp _ _ _ _
   obtain rfl : i = k.sets.length := by omega
   refine AWp.g [4, 5] [2, 3, 4] ?_
   simp
   refine AWp.ret ?_
   simp [plainR, hh, rwO, turnR]
end Go.AM
namespace Go.AM
open Go.Proofs
def isAt (k : Kin) (i : Int) : Bool := match k.counts[i.toNat]? with
 | some f => f.is
 | none => false
def fitB (k : Kin) (x : Eff) : Bool :=
 if x.kind = 1 ∨ x.kind = 2 then decide (x.thing < k.sets.length)
 else if x.kind = 3 ∨ x.kind = 4 then decide (x.thing < k.counts.length)
 else if x.kind = 5 then decide (x.thing < k.counts.length) && isAt k x.thing
 else decide (x.thing < k.regs)
set_option maxRecDepth 8000 in
set_option maxHeartbeats 4000000 in
theorem c_raw_fits (k : Kin) (x : Eff) (hx : 0 ≤ x.thing) : Pure Tryz.prog 62 [.agg (kinC k), .agg (effC x)] (.b (fitB k x)) := by
 refine proc_of (cx Tryz.prog 47 [2, 3, 4, 6, 7, 16, 25] [4]) 45 [.tmp 4] Tryz.func62 rfl rfl rfl rfl rfl rfl (Nat.le_refl _) rfl ?_
 refine AWp.g [2, 3] [2, 3] ?_
 simp [kinC, effC]
 refine AWp.seq ?_
 refine AWp.g [2, 3, 6] [2, 3] ?_
 simp
 refine AWp.block ?_
 refine AWp.mid [2, 3, 6, 7] [2, 3] [(2, .ptr 2 0), (3, .ptr 3 0), (6, .i .i64 x.kind), (7, .b (decide (x.kind = 1) || decide (x.kind = 2)))] [(2, [.sl .fro 1 (boolsAV k.sets), .sl .fro 2 (flrsAV k.counts), .i .i64 k.regs]), (3, [.i .i64 x.kind, .i .i64 x.thing, .s x.key, .i .i64 x.num, .i .i64 x.dest, .s x.word])] ?_ ?_
 ·refine AWp.g [2, 3, 6, 7] [2, 3] ?_
  simp
  by_cases q1 : x.kind = 1
  ·refine AWp.cT (by simp [q1]) ?_
   refine AWp.skip ?_
   simp [q1]
  ·refine AWp.cF (by simp [q1]) ?_
   refine AWp.gL [2, 3, 6, 7] [2, 3] ?_
   simp
   refine kl ?_
   simp [q1]
 by_cases q12 : x.kind = 1 ∨ x.kind = 2
 ·refine AWp.cT (by simp [q12]) ?_
  refine AWp.g [4] [2, 3] ?_
  simp
  refine AWp.ret ?_
  simp [fitB, q12]
 ·refine AWp.cF (by simp [q12]; omega) ?_
  refine AWp.mid [2, 3, 6, 16] [2, 3] [(2, .ptr 2 0), (3, .ptr 3 0), (6, .i .i64 x.kind), (16, .b (decide (x.kind = 3) || decide (x.kind = 4)))] [(2, [.sl .fro 1 (boolsAV k.sets), .sl .fro 2 (flrsAV k.counts), .i .i64 k.regs]), (3, [.i .i64 x.kind, .i .i64 x.thing, .s x.key, .i .i64 x.num, .i .i64 x.dest, .s x.word])] ?_ ?_
  ·refine AWp.g [2, 3, 6, 16] [2, 3] ?_
   simp
   by_cases q3 : x.kind = 3
   ·refine AWp.cT (by simp [q3]) ?_
    refine AWp.skip ?_
    simp [q3]
   ·refine AWp.cF (by simp [q3]) ?_
    refine AWp.gL [2, 3, 6, 16] [2, 3] ?_
    simp
    refine kl ?_
    simp [q3]
  by_cases q34 : x.kind = 3 ∨ x.kind = 4
  ·refine AWp.cT (by simp [q34]) ?_
   refine AWp.g [4] [2, 3] ?_
   simp
   refine AWp.ret ?_
   simp [fitB, q12, q34]
  ·refine AWp.cF (by simp [q34]; omega) ?_
   refine AWp.g [2, 3, 25] [2, 3] ?_
   simp
   by_cases q5 : x.kind = 5
   ·refine AWp.cT (by simp [q5]) ?_
    refine AWp.step [4] [2, 3] [(4, .b (decide (x.thing < k.counts.length) && isAt k x.thing))] [(2, [.sl .fro 1 (boolsAV k.sets), .sl .fro 2 (flrsAV k.counts), .i .i64 k.regs]), (3, [.i .i64 x.kind, .i .i64 x.thing, .s x.key, .i .i64 x.num, .i .i64 x.dest, .s x.word])] ?_ ?_
    ·by_cases q : x.thing < k.counts.length
     ·obtain ⟨m, hm⟩ : ∃ m : Nat, x.thing = m := ⟨x.thing.toNat, by omega⟩
      have hm2 : m < k.counts.length := by omega
      simp [q, hm, hm2, isAt]
     ·simp [q]
    refine AWp.ret ?_
    simp [fitB, q12, q34, q5]
   ·refine AWp.cF (by simp [q5]) ?_
    refine AWp.skip ?_
    show AWp _ _ _ _
    refine AWp.g [4] [2, 3] ?_
    simp
    refine AWp.ret ?_
    simp [fitB, q12, q34, q5]
set_option maxRecDepth 8000 in
theorem c_IndexFunc1_Eff (l : List Eff) (g : Nat) (p : Eff → Bool) (cs : List AV) (hc : Calm cs) (hg : ∀ n ∈ l, Proc Tryz.prog 1 g [.agg (effC n), .ptr 0 0] [(0, cs)] (.b (p n)) [(0, cs)]) (hl : l.length ≤ 1000000) : Proc Tryz.prog 1 141 [.sl .fro 6 (effsAV l), .fn g [] [.ptr 0 0]] [(0, cs)] (.i .i64 (idxI p l)) [(0, cs)] := by
 refine proc_of (cxb Tryz.prog 19 1 [0, 1, 4, 5, 7, 8, 9, 16] [] [4]) 17 [.tmp 4] Tryz.func141 rfl rfl rfl rfl rfl rfl (Nat.le_refl _) rfl ?_
 refine AWp.g [0, 1] [0] ?_
 simp [hc]
 refine AWp.seq ?_
 refine AWp.g [0, 1, 7, 8] [0] ?_
 simp [hc]
 refine AWp.block (AWp.while (fun i : Nat => [(0, .sl .fro 6 (effsAV l)), (1, .fn g [] [.ptr 0 0]), (7, .i .i64 l.length), (8, .i .i64 i)]) (fun i => [(0, cs)]) (fun i => i ≤ l.length ∧ ∀ k (hk : k < i) (hk2 : k < l.length), p l[k] = false) (fun i => l.length - i) [0, 1, 7, 8] [0] 0 (by simp) (by simp [hc]) ?_)
 rintro i ⟨hi, hall⟩
 refine AWp.g [0, 1, 7, 8, 9] [0] ?_
 simp [hc]
 refine AWp.seq ?_
 by_cases h : i < l.length
 ·refine AWp.cT (by simp [h]) ?_
  refine AWp.skip ?_
  show AWp _ _ _ _
  refine AWp.seq ?_
  refine AWp.block ?_
  refine AWp.g [0, 1, 5, 7, 8] [0] ?_
  simp [hc]
  refine AWp.g [0, 1, 5, 7, 8, 16] [0] ?_
  simp [h, hc]
  refine call_proc [(0, 0)] none (hg l[i] (List.getElem_mem h)) (by simp [effC]) (by simp) ?_
  simp [h, hc]
  refine ⟨by simpa using hc.still, ?_⟩
  cases hp : p l[i]
  ·refine AWp.cF (by simp) ?_
   refine AWp.skip ?_
   show AWp _ _ _ _
   refine AWp.gL [0, 1, 7, 8] [0] ?_
   simp [hc]
   refine ⟨i + 1, ⟨by omega, fun k hk hk2 => ?_⟩, by omega, ?_⟩
   ·by_cases hki : k = i
    ·subst hki; exact hp
    ·exact hall k (by omega) hk2
   ·simp [hc]
    exact wrap64 (by omega) (by omega)
  ·refine AWp.cT (by simp) ?_
   refine AWp.g [4] [0] ?_
   simp [hc]
   refine AWp.ret ?_
   rw [idxI_at p l i h (fun k hk => hall k hk (by omega)) hp]
   simp [hc]
   simpa using hc.still
 ·refine AWp.cF (by simp [h]) ?_
  refine AWp.exit ?_
  show AWp _ _ _ _
  refine AWp.g [4] [0] ?_
  simp [hc]
  refine AWp.ret ?_
  rw [idxI_none p l fun k hk => hall k (by omega) hk]
  simp [hc]
  simpa using hc.still
theorem c_ContainsFunc1_Eff (l : List Eff) (g : Nat) (p : Eff → Bool) (cs : List AV) (hc : Calm cs) (hg : ∀ n ∈ l, Proc Tryz.prog 1 g [.agg (effC n), .ptr 0 0] [(0, cs)] (.b (p n)) [(0, cs)]) (hl : l.length ≤ 1000000) : Proc Tryz.prog 1 60 [.sl .fro 6 (effsAV l), .fn g [] [.ptr 0 0]] [(0, cs)] (.b (l.any p)) [(0, cs)] := by
 refine proc_of (cxb Tryz.prog 9 1 [0, 1, 4] [] [4]) 7 [.tmp 4] Tryz.func60 rfl rfl rfl rfl rfl rfl (Nat.le_refl _) rfl ?_
 refine AWp.g [0, 1] [0] ?_
 simp [hc]
 refine AWp.g [4] [0] ?_
 simp [hc]
 refine call_proc [(0, 0)] none (c_IndexFunc1_Eff l g p cs hc hg hl) (by simp) (by simp) ?_
 simp [hc]
 refine ⟨by simpa using hc.still, ?_⟩
 refine AWp.ret ?_
 rw [← idxI_ge]
 simp [hc]
 simpa using hc.still
set_option maxRecDepth 8000 in
theorem c_raw_Fits1 (k : Kin) (x : Eff) (hx : 0 ≤ x.thing) : Proc Tryz.prog 1 61 [.agg (effC x), .ptr 0 0] [(0, [.sl .fro 1 (boolsAV k.sets), .sl .fro 2 (flrsAV k.counts), .i .i64 k.regs])] (.b (!fitB k x)) [(0, [.sl .fro 1 (boolsAV k.sets), .sl .fro 2 (flrsAV k.counts), .i .i64 k.regs])] := by
 refine proc_of (cxb Tryz.prog 8 1 [1, 2, 3] [] [3]) 6 [.tmp 3] Tryz.func61 rfl rfl rfl rfl rfl rfl (Nat.le_refl _) rfl ?_
 refine AWp.g [1, 2] [0, 3] ?_
 simp [effC]
 refine AWp.step [3] [0, 3] [(3, .b (!fitB k x))] [(0, [.sl .fro 1 (boolsAV k.sets), .sl .fro 2 (flrsAV k.counts), .i .i64 k.regs]), (3, [.i .i64 x.kind, .i .i64 x.thing, .s x.key, .i .i64 x.num, .i .i64 x.dest, .s x.word])] ?_ ?_
 ·simp
  refine call_pure (c_raw_fits k x hx) (by simp [kinC, effC]) ?_
  simp
 refine AWp.ret ?_
 simp
def fitsE (k : Kin) (e : Ev) : Bool := kindsB k && evOk e && e.effs.all (fitB k)
theorem effOk_thing {x : Eff} (h : effOk x = true) : 0 ≤ x.thing ∧ x.thing ≤ 15 := by
 simp only [effOk, effA, Bool.and_eq_true, Bool.not_eq_true', decide_eq_false_iff_not] at h
 omega
theorem evOk_effs {e : Ev} (h : evOk e = true) : ∀ x ∈ e.effs, effOk x = true := by
 simp only [evOk, Bool.and_eq_true, List.all_eq_true] at h
 exact h.1.1.2
set_option maxRecDepth 8000 in
set_option maxHeartbeats 4000000 in
theorem c_raw_Fits (k : Kin) (e : Ev) (hk : FineK k) (he : FineE e) : Pure Tryz.prog 17 [.agg (kinC k), .agg (evC e)] (.b (fitsE k e)) := by
 have g1 := c_raw_CheckKinds k hk
 have g2 := c_event_Check e he
 simp [kinC] at g1
 simp [evC] at g2
 refine proc_of (cx Tryz.prog 20 [2, 3, 4] [4]) 18 [.tmp 4] Tryz.func17 rfl rfl rfl rfl rfl rfl (Nat.le_refl _) rfl ?_
 refine AWp.g [2, 3] [2, 3] ?_
 simp [kinC, evC]
 refine AWp.step [4] [2, 3] [(4, .b (fitsE k e))] [(2, [.sl .fro 1 (boolsAV k.sets), .sl .fro 2 (flrsAV k.counts), .i .i64 k.regs]), (3, [.i .i64 e.dot.1, .i .i64 e.dot.2, .sl .fro 1 (intsAV e.past), .sl .fro 6 (effsAV e.effs)])] ?_ ?_
 ·simp
  refine call_pure g1 (by simp) ?_
  cases q1 : kindsB k
  ·simp [fitsE, q1]
  simp
  refine call_pure g2 (by simp) ?_
  cases q2 : evOk e
  ·simp [fitsE, q1, q2]
  simp
  refine call_proc [(0, 2)] none (c_ContainsFunc1_Eff e.effs 61 (fun x => !fitB k x) [.sl .fro 1 (boolsAV k.sets), .sl .fro 2 (flrsAV k.counts), .i .i64 k.regs] (by intro c hc; simp at hc; rcases hc with rfl | rfl | rfl <;> rfl) (fun x hx => c_raw_Fits1 k x (effOk_thing (evOk_effs q2 x hx)).1) he.2) (by simp) (by simp) ?_
  rw [any_not_all]
  simp [fitsE, q1, q2]
 refine AWp.ret ?_
 simp
end Go.AM
namespace Go.AM
open Go.Proofs
def dC (k : Kin) (w : Rw) (e : Ev) : List AV := [.sl .fro 1 (boolsAV k.sets), .sl .fro 2 (flrsAV k.counts), .i .i64 k.regs, .sl .own 1 (rrE w.sets), .sl .own 1 (rrC w.tals), .sl .own 1 (rrA w.accs), .sl .own 1 (rrN w.regs), .i .i64 e.dot.1, .i .i64 e.dot.2, .sl .fro 1 (intsAV e.past), .sl .fro 6 (effsAV e.effs)]
def doF (i : Nat) : Nat := if i = 0 then 51 else if i = 1 then 52 else 53
abbrev Step := Nat → Eff → Rw → Rw × Int
def runE (f : Eff → Rw → Rw × Int) : List Eff → Rw → Rw × Int
 | [], w => (w, 0)
 | x :: l, w => if (f x w).2 = 0 then runE f l (f x w).1 else f x w
def runP (st : Step) (l : List Eff) : Nat → Nat → Rw → Rw × Int
 | 0, _, w => (w, 0)
 | n + 1, i, w => if (runE (st i) l w).2 = 0 then runP st l n (i + 1) (runE (st i) l w).1 else runE (st i) l w
def errR (r : Rw × Int) : Rw × Int := if r.2 = 0 then r else (noR, r.2)
def applyG (st : Step) (k : Kin) (w : Rw) (e : Ev) : Rw × Int := if rawB k w && evOk e then (if fitsE k e then errR (runP st e.effs 3 0 w) else (noR, 10)) else (noR, 1)
theorem runE_step {f : Eff → Rw → Rw × Int} {l : List Eff} {j : Nat} (h : j < l.length) (w : Rw) : runE f (l.drop j) w = if (f l[j] w).2 = 0 then runE f (l.drop (j + 1)) (f l[j] w).1 else f l[j] w := by rw [List.drop_eq_getElem_cons h, runE]
def contG (st : Step) (l : List Eff) (i j : Nat) (w : Rw) : Rw × Int := if (runE (st i) (l.drop j) w).2 = 0 then runP st l (2 - i) (i + 1) (runE (st i) (l.drop j) w).1 else runE (st i) (l.drop j) w
theorem contG_zero (st : Step) (l : List Eff) (i : Nat) (hi : i < 3) (w : Rw) : contG st l i 0 w = runP st l (3 - i) i w := by
 rw [show 3 - i = (2 - i) + 1 by omega, runP]; rfl
theorem contG_end (st : Step) (l : List Eff) (i : Nat) (hi : i < 3) (w : Rw) : contG st l i l.length w = runP st l (3 - (i + 1)) (i + 1) w := by
 unfold contG
 rw [List.drop_length]
 simp only [runE, if_true]
 rw [show 2 - i = 3 - (i + 1) by omega]
theorem contG_go (st : Step) (l : List Eff) (i j : Nat) (h : j < l.length) (w : Rw) (h0 : (st i l[j] w).2 = 0) : contG st l i (j + 1) (st i l[j] w).1 = contG st l i j w := by
 unfold contG
 rw [runE_step h, if_pos h0]
theorem contG_stop (st : Step) (l : List Eff) (i j : Nat) (h : j < l.length) (w : Rw) (h0 : ¬ (st i l[j] w).2 = 0) : contG st l i j w = st i l[j] w := by
 unfold contG
 rw [runE_step h, if_neg h0, if_neg h0]
set_option maxRecDepth 8000 in
set_option maxHeartbeats 8000000 in
theorem c_raw_ApplyG (k : Kin) (w : Rw) (e : Ev) (hk : FineK k) (hw : FineR w) (he : FineE e) (st : Step) (I : Nat → Nat → Rw → Prop) (hI : rawB k w = true → fitsE k e = true → I 0 0 w) (hst : rawB k w = true → fitsE k e = true → ∀ i, i < 3 → ∀ j (hj : j < e.effs.length), ∀ v, I i j v → Proc Tryz.prog 1 (doF i) [.ptr 0 0, .agg (effC e.effs[j])] [(0, dC k v e)] (.i .i64 (st i e.effs[j] v).2) [(0, dC k (st i e.effs[j] v).1 e)] ∧ ((st i e.effs[j] v).2 = 0 → I i (j + 1) (st i e.effs[j] v).1)) (hnx : ∀ i, i < 3 → ∀ v, I i e.effs.length v → I (i + 1) 0 v) : Pure Tryz.prog 14 [.agg (kinC k), .agg (rwC w), .agg (evC e)] (.tup [.agg (rwC (applyG st k w e).1), .i .i64 (applyG st k w e).2]) := by
 have g1 := c_raw_Check k w hk hw
 have g2 := c_event_Check e he
 have g3 := c_raw_Fits k e hk he
 have g4 := c_raw_copied w hw
 simp [kinC, rwC] at g1
 simp [evC] at g2
 simp [kinC, evC] at g3
 simp [rwC, rwO] at g4
 have he2 := he.2
 refine proc_of (cx Tryz.prog 69 [3, 4, 5, 6, 7, 8, 10, 12, 13, 14, 25, 43, 44, 45, 46, 50, 51, 52, 53, 60] [6, 7]) 66 [.cell 6 31, .tmp 7] Tryz.func14 rfl rfl rfl rfl rfl rfl (Nat.le_refl _) rfl ?_
 refine AWp.g [3, 4, 5, 6] [3, 4, 5, 6] ?_
 simp [kinC, rwC, evC]
 refine AWp.seq ?_
 refine AWp.block ?_
 refine AWp.step [3, 4, 5, 6, 14] [3, 4, 5, 6] [(3, .ptr 3 0), (4, .ptr 4 0), (5, .ptr 5 0), (6, .ptr 6 0), (14, .b (!(rawB k w && evOk e)))] [(3, [.sl .fro 1 (boolsAV k.sets), .sl .fro 2 (flrsAV k.counts), .i .i64 k.regs]), (4, [.sl .fro 1 (rrE w.sets), .sl .fro 1 (rrC w.tals), .sl .fro 1 (rrA w.accs), .sl .fro 1 (rrN w.regs)]), (5, [.i .i64 e.dot.1, .i .i64 e.dot.2, .sl .fro 1 (intsAV e.past), .sl .fro 6 (effsAV e.effs)]), (6, [.sl .nl 1 [], .sl .nl 1 [], .sl .nl 1 [], .sl .nl 1 []])] ?_ ?_
 ·simp
  refine call_pure g1 (by simp) ?_
  cases q1 : rawB k w
  ·simp
  simp
  refine call_pure g2 (by simp) ?_
  cases q2 : evOk e <;> simp
 cases hA : rawB k w && evOk e
 ·refine AWp.cT (by simp) ?_
  refine AWp.g [6, 7] [6] ?_
  simp
  refine AWp.ret ?_
  simp [applyG, hA, rwC, noR, rrE, rrC, rrA, rrN]
 ·refine AWp.cF (by simp) ?_
  refine AWp.g [3, 4, 5, 6, 25] [3, 4, 5, 6] ?_
  simp
  refine call_pure g3 (by simp) ?_
  simp
  cases hF : fitsE k e
  ·refine AWp.cT (by simp) ?_
   refine AWp.g [6, 7] [6] ?_
   simp
   refine AWp.ret ?_
   simp [applyG, hA, hF, rwC, noR, rrE, rrC, rrA, rrN]
  ·refine AWp.cF (by simp) ?_
   refine AWp.skip ?_
   show AWp _ _ _ _
   have hR : rawB k w = true := by rw [Bool.and_eq_true] at hA; exact hA.1
   have hG : applyG st k w e = errR (runP st e.effs 3 0 w) := by rw [applyG, hA, hF]; rfl
   refine AWp.stepA 4 (fun z => if z = 2 then .agg [.sl .own 1 (rrE w.sets), .sl .own 1 (rrC w.tals), .sl .own 1 (rrA w.accs), .sl .own 1 (rrN w.regs)] else .any) [5, 6, 8] [5, 6, 36] [(5, .ptr 5 0), (6, .ptr 6 0), (8, .ptr 36 0)] [(5, [.i .i64 e.dot.1, .i .i64 e.dot.2, .sl .fro 1 (intsAV e.past), .sl .fro 6 (effsAV e.effs)]), (6, [.sl .nl 1 [], .sl .nl 1 [], .sl .nl 1 [], .sl .nl 1 []]), (36, dC k w e)] mix (by kernel_rfl) ?_ ?_
   ·simp [g4, dC]
   refine AWp.seq ?_
   refine AWp.g [5, 6, 8, 43, 44, 45] [5, 6, 36, 43] ?_
   simp [dC]
   refine AWp.block (AWp.while (fun p : Nat × Rw => [(5, .ptr 5 0), (6, .ptr 6 0), (8, .ptr 36 0), (43, .bs 43 0 3 3), (44, .i .i64 3), (45, .i .i64 p.1)]) (fun p => [(5, [.i .i64 e.dot.1, .i .i64 e.dot.2, .sl .fro 1 (intsAV e.past), .sl .fro 6 (effsAV e.effs)]), (6, [.sl .nl 1 [], .sl .nl 1 [], .sl .nl 1 [], .sl .nl 1 []]), (36, dC k p.2 e), (43, [.fn 51 [.ptr 36 0] [], .fn 52 [.ptr 36 0] [], .fn 53 [.ptr 36 0] []])]) (fun p => p.1 ≤ 3 ∧ I p.1 0 p.2 ∧ runP st e.effs (3 - p.1) p.1 p.2 = runP st e.effs 3 0 w) (fun p => 3 - p.1) [5, 6, 8, 43, 44, 45] [5, 6, 36, 43] (0, w) (by exact ⟨by simp, hI hR hF, rfl⟩) (by simp [dC]) ?_)
   rintro ⟨i, v⟩ ⟨hi3, hIv, hrun⟩
   dsimp only at hi3 hIv hrun
   try dsimp only
   refine AWp.g [5, 6, 8, 43, 44, 45, 46] [5, 6, 36, 43] ?_
   simp [dC]
   refine AWp.seq ?_
   by_cases hi : i < 3
   ·refine AWp.cT (by simp [hi]; omega) ?_
    refine AWp.skip ?_
    show AWp _ _ _ _
    refine AWp.seq ?_
    refine AWp.block ?_
    refine AWp.step [5, 6, 8, 10, 43, 44, 45] [5, 6, 36, 43] [(5, .ptr 5 0), (6, .ptr 6 0), (8, .ptr 36 0), (10, .fn (doF i) [.ptr 36 0] []), (43, .bs 43 0 3 3), (44, .i .i64 3), (45, .i .i64 i)] [(5, [.i .i64 e.dot.1, .i .i64 e.dot.2, .sl .fro 1 (intsAV e.past), .sl .fro 6 (effsAV e.effs)]), (6, [.sl .nl 1 [], .sl .nl 1 [], .sl .nl 1 [], .sl .nl 1 []]), (36, dC k v e), (43, [.fn 51 [.ptr 36 0] [], .fn 52 [.ptr 36 0] [], .fn 53 [.ptr 36 0] []])] ?_ ?_
    ·obtain rfl | rfl | rfl : i = 0 ∨ i = 1 ∨ i = 2 := by omega
     all_goals simp [doF, dC]
    refine AWp.g [5, 6, 8, 10, 43, 44, 45, 50, 51, 52] [5, 6, 36, 43] ?_
    simp [dC]
    refine AWp.block (AWp.while (fun q : Nat × Rw => [(5, .ptr 5 0), (6, .ptr 6 0), (8, .ptr 36 0), (10, .fn (doF i) [.ptr 36 0] []), (43, .bs 43 0 3 3), (44, .i .i64 3), (45, .i .i64 i), (50, .sl .fro 6 (effsAV e.effs)), (51, .i .i64 e.effs.length), (52, .i .i64 q.1)]) (fun q => [(5, [.i .i64 e.dot.1, .i .i64 e.dot.2, .sl .fro 1 (intsAV e.past), .sl .fro 6 (effsAV e.effs)]), (6, [.sl .nl 1 [], .sl .nl 1 [], .sl .nl 1 [], .sl .nl 1 []]), (36, dC k q.2 e), (43, [.fn 51 [.ptr 36 0] [], .fn 52 [.ptr 36 0] [], .fn 53 [.ptr 36 0] []])]) (fun q => q.1 ≤ e.effs.length ∧ I i q.1 q.2 ∧ contG st e.effs i q.1 q.2 = runP st e.effs 3 0 w) (fun q => e.effs.length - q.1) [5, 6, 8, 10, 43, 44, 45, 50, 51, 52] [5, 6, 36, 43] (0, v) (by exact ⟨by simp, hIv, by rw [contG_zero st e.effs i hi]; exact hrun⟩) (by simp [dC]) ?_)
    rintro ⟨j, u⟩ ⟨hj, hIu, hcon⟩
    dsimp only at hj hIu hcon
    try dsimp only
    refine AWp.g [5, 6, 8, 10, 43, 44, 45, 50, 51, 52, 53] [5, 6, 36, 43] ?_
    simp [dC]
    refine AWp.seq ?_
    by_cases h2 : j < e.effs.length
    ·refine AWp.cT (by simp [h2]) ?_
     refine AWp.skip ?_
     show AWp _ _ _ _
     refine AWp.seq ?_
     refine AWp.block ?_
     refine AWp.g [5, 6, 8, 10, 12, 43, 44, 45, 50, 51, 52] [5, 6, 12, 36, 43] ?_
     simp [h2, dC]
     obtain ⟨hp, hIn⟩ := hst hR hF i hi j h2 u hIu
     refine AWp.step [5, 6, 8, 10, 13, 43, 44, 45, 50, 51, 52] [5, 6, 36, 43] [(5, .ptr 5 0), (6, .ptr 6 0), (8, .ptr 36 0), (10, .fn (doF i) [.ptr 36 0] []), (13, .i .i64 (st i e.effs[j] u).2), (43, .bs 43 0 3 3), (44, .i .i64 3), (45, .i .i64 i), (50, .sl .fro 6 (effsAV e.effs)), (51, .i .i64 e.effs.length), (52, .i .i64 j)] [(5, [.i .i64 e.dot.1, .i .i64 e.dot.2, .sl .fro 1 (intsAV e.past), .sl .fro 6 (effsAV e.effs)]), (6, [.sl .nl 1 [], .sl .nl 1 [], .sl .nl 1 [], .sl .nl 1 []]), (36, dC k (st i e.effs[j] u).1 e), (43, [.fn 51 [.ptr 36 0] [], .fn 52 [.ptr 36 0] [], .fn 53 [.ptr 36 0] []])] ?_ ?_
     ·simp [dC]
      refine call_proc [(0, 36)] none hp (by simp [effC]) (by simp) ?_
      simp [dC]
     refine AWp.g [5, 6, 8, 10, 13, 43, 44, 45, 50, 51, 52, 60] [5, 6, 36, 43] ?_
     simp [dC]
     by_cases h0 : (st i e.effs[j] u).2 ≠ 0
     ·refine AWp.cT (by simp [h0]) ?_
      refine AWp.g [6, 7] [6] ?_
      simp [dC]
      refine AWp.ret ?_
      rw [hG, ← hcon, contG_stop st e.effs i j h2 u h0]
      simp [errR, h0, rwC, noR, rrE, rrC, rrA, rrN]
     ·refine AWp.cF (by simp [h0]; omega) ?_
      refine AWp.skip ?_
      show AWp _ _ _ _
      refine AWp.gL [5, 6, 8, 10, 43, 44, 45, 50, 51, 52] [5, 6, 36, 43] ?_
      simp [dC]
      refine ⟨(j + 1, (st i e.effs[j] u).1), ⟨by simp only; omega, hIn (by simpa using h0), by rw [contG_go st e.effs i j h2 u (by simpa using h0)]; exact hcon⟩, by simp only; omega, ?_⟩
      simp [dC]
      exact wrap64 (by omega) (by omega)
    ·refine AWp.cF (by simp [h2]) ?_
     refine AWp.exit ?_
     show AWp _ _ _ _
     refine AWp.gL [5, 6, 8, 43, 44, 45] [5, 6, 36, 43] ?_
     simp [dC]
     obtain rfl : j = e.effs.length := by omega
     refine ⟨(i + 1, u), ⟨by simp only; omega, hnx i hi u hIu, by rw [← contG_end st e.effs i hi]; exact hcon⟩, by simp only; omega, ?_⟩
     simp [dC]
     exact wrap64 (by omega) (by omega)
   ·refine AWp.cF (by simp [hi]; omega) ?_
    refine AWp.exit ?_
    show AWp _ _ _ _
    obtain rfl : i = 3 := by omega
    have hfin : runP st e.effs 3 0 w = (v, 0) := hrun.symm
    refine AWp.frzc [(36, 3), (36, 4), (36, 5), (36, 6)] ?_
    simp [dC]
    refine AWp.g [6, 7] [6] ?_
    simp
    refine AWp.ret ?_
    rw [hG, hfin]
    simp [errR, rwC]
end Go.AM
namespace Go.AM
open Go.Proofs
def setS (w : Rw) (i : Nat) (s : List Entry) : Rw := ⟨w.sets.set i s, w.tals, w.accs, w.regs⟩
set_option maxRecDepth 8000 in
theorem c_doer_set (k : Kin) (w : Rw) (e : Ev) (m : Nat) (s : List Entry) (er : Int) (hm : m < w.sets.length) : Proc Tryz.prog 1 126 [.ptr 0 0, .i .i64 m, .sl .fro 3 (entsAV s), .i .i64 er] [(0, dC k w e)] (.i .i64 er) [(0, dC k (if er = 0 then setS w m s else w) e)] := by
 refine proc_of (cxb Tryz.prog 20 1 [0, 1, 2, 3, 8, 10] [] [8]) 16 [.tmp 8] Tryz.func126 rfl rfl rfl rfl rfl rfl (Nat.le_refl _) rfl ?_
 refine AWp.g [0, 1, 2, 3] [0] ?_
 simp [dC]
 refine AWp.seq ?_
 refine AWp.g [0, 1, 2, 3, 10] [0] ?_
 simp [dC]
 by_cases h : er = 0
 ·refine AWp.cT (by simp [h]) ?_
  refine AWp.last [3] [0] [(3, .i .i64 er)] [(0, dC k (setS w m s) e)] ?_ ?_
  ·have hs := rrE_set w.sets m s
   simp [dC, hm, hs, setS]
  show AWp _ _ _ _
  refine AWp.g [8] [0] ?_
  simp [dC]
  refine AWp.ret ?_
  simp [h, dC]
 ·refine AWp.cF (by simp [h]) ?_
  refine AWp.skip ?_
  show AWp _ _ _ _
  refine AWp.g [8] [0] ?_
  simp [dC]
  refine AWp.ret ?_
  simp [h, dC]
set_option maxRecDepth 8000 in
theorem c_doer_drop0 (k : Kin) (w : Rw) (e : Ev) (x : Eff) (h : x.kind ≠ 2) : Proc Tryz.prog 1 51 [.ptr 0 0, .agg (effC x)] [(0, dC k w e)] (.i .i64 0) [(0, dC k w e)] := by
 refine proc_of (cxb Tryz.prog 71 1 [0, 3, 4, 5, 6, 9, 31, 58] [] [4]) 69 [.tmp 4] Tryz.func51 rfl rfl rfl rfl rfl rfl (Nat.le_refl _) rfl ?_
 refine AWp.g [0, 3] [0, 4] ?_
 simp [effC, dC]
 refine AWp.seq ?_
 refine AWp.g [0, 3, 9] [0, 4] ?_
 simp [dC]
 refine AWp.cT (by simp [h]) ?_
 refine AWp.g [4] [0] ?_
 simp [dC]
 refine AWp.ret ?_
 simp [dC]
set_option maxRecDepth 8000 in
theorem c_doer_other0 (k : Kin) (w : Rw) (e : Ev) (x : Eff) (h : x.kind = 1 ∨ x.kind = 2) : Proc Tryz.prog 1 53 [.ptr 0 0, .agg (effC x)] [(0, dC k w e)] (.i .i64 0) [(0, dC k w e)] := by
 have h3 : ¬ x.kind = 3 := by omega
 have h4 : ¬ x.kind = 4 := by omega
 have h5 : ¬ x.kind = 5 := by omega
 have h6 : ¬ x.kind = 6 := by omega
 refine proc_of (cxb Tryz.prog 108 1 [0, 3, 4, 5, 6, 7, 8, 9, 13, 14, 16, 18, 20, 54, 97] [] [4]) 106 [.tmp 4] Tryz.func53 rfl rfl rfl rfl rfl rfl (Nat.le_refl _) rfl ?_
 refine AWp.g [0, 3] [0, 4] ?_
 simp [effC, dC]
 refine AWp.g [0, 3, 5] [0, 4] ?_
 simp [dC]
 refine AWp.seq ?_
 refine AWp.g [0, 3, 5, 13] [0, 4] ?_
 simp [dC]
 refine AWp.block ?_
 refine AWp.seq ?_
 refine AWp.block ?_
 refine AWp.seq ?_
 refine AWp.block ?_
 refine AWp.seq ?_
 refine AWp.block ?_
 refine AWp.seq ?_
 refine AWp.block ?_
 refine AWp.seq ?_
 refine AWp.seq ?_
 refine AWp.g [0, 3, 5, 13, 14] [0, 4] ?_
 simp [dC]
 refine AWp.cF (by simp [h4]) ?_
 refine AWp.skip ?_
 show AWp _ _ _ _
 refine AWp.seq ?_
 refine AWp.g [0, 3, 5, 13, 16] [0, 4] ?_
 simp [dC]
 refine AWp.cF (by simp [h3]) ?_
 refine AWp.skip ?_
 show AWp _ _ _ _
 refine AWp.seq ?_
 refine AWp.g [0, 3, 13, 18] [0, 4] ?_
 simp [dC]
 refine AWp.cF (by simp [h5]) ?_
 refine AWp.skip ?_
 show AWp _ _ _ _
 refine AWp.g [0, 3, 20] [0, 4] ?_
 simp [dC]
 refine AWp.cF (by simp [h6]) ?_
 refine AWp.skip ?_
 show AWp _ _ _ _
 refine AWp.exit ?_
 show AWp _ _ _ _
 refine AWp.g [4] [0] ?_
 simp [dC]
 refine AWp.ret ?_
 simp [dC]
end Go.AM
namespace Go.AM
open Go.Proofs
set_option maxRecDepth 8000 in
set_option maxHeartbeats 4000000 in
theorem c_ref08_May (s : List Entry) (hs : Fine s) : Pure Tryz.prog 40 [.sl .fro 3 (entsAV s)] (.b (setOkA s)) := by
 have hlen := hs.1
 refine proc_of (cx Tryz.prog 65 [0, 2, 3, 7, 61] [2]) 64 [.tmp 2] Tryz.func40 rfl rfl rfl rfl rfl rfl (Nat.le_refl _) rfl ?_
 refine AWp.g [0] [] ?_
 simp
 refine AWp.seq ?_
 refine AWp.g [0, 3] [] ?_
 simp
 refine AWp.block (AWp.while (fun i : Nat => [(0, .sl .fro 3 (entsAV s)), (3, .i .i64 i)]) (fun i => []) (fun i => i ≤ s.length ∧ ∀ k, k < i → entAtA s k = true) (fun i => s.length - i) [0, 3] [] 0 (by simp) (by simp) ?_)
 rintro i ⟨hi, hall⟩
 refine AWp.seq ?_
 refine AWp.g [0, 3, 7] [] ?_
 simp
 by_cases h2 : i < s.length
 ·refine AWp.cT (by simp [h2]) ?_
  refine AWp.skip ?_
  show AWp _ _ _ _
  refine AWp.seq ?_
  refine AWp.block ?_
  refine AWp.stepD 52 (fun k => if k = 5 then .b (keyOk s[i].key) else if k = 49 then .b (rowsB s[i].live) else .any) [0, 3, 61] [] [(0, .sl .fro 3 (entsAV s)), (3, .i .i64 i), (61, .b (!entOkA (prevK s i) s[i]))] [] mix (by kernel_rfl) ?_ ?_
  ·have hl := hs.2 _ (List.getElem_mem h2)
   have g1 := c_ref08_Key s[i].key
   have g2 := c_ref08_Rows s[i].live hl.1
   cases q1 : keyOk s[i].key
   ·rw [q1] at g1
    simp [entOkA, q1, g1, h2]
   rw [q1] at g1
   by_cases h0 : 0 < i
   ·obtain ⟨j, rfl⟩ : ∃ j, i = j + 1 := ⟨i - 1, by omega⟩
    have hj : j < s.length := by omega
    have w2 : IntKind.i64.wrap (j : Int) = j := wrap64 (by omega) (by omega)
    by_cases q2 : leK s[j + 1].key s[j].key = true
    ·have q3 := q2
     simp [leK, ltK, eqK] at q2
     rcases q2 with q2 | q2 <;> simp [entOkA, q1, q2, q3, w2, g1, prevK, hj, h2] <;> omega
    simp at q2
    have q3 := q2
    simp [leK, ltK, eqK] at q2
    by_cases q4 : s[j + 1].live = []
    ·simp [entOkA, q1, q2, q3, q4, w2, g1, prevK, hj, h2] <;> omega
    by_cases q5 : 0 < s[j + 1].dead.length
    ·simp [entOkA, q1, q2, q3, q4, q5, w2, g1, prevK, hj, h2] <;> omega
    cases q6 : rowsB s[j + 1].live <;> rw [q6] at g2 <;> simp [entOkA, q1, q2, q3, q4, q5, q6, w2, g1, g2, prevK, hj, h2] <;> omega
   ·obtain rfl : i = 0 := by omega
    have q3 := leK_empty q1
    have e3 : prevK s 0 = ByteArray.empty := rfl
    by_cases q4 : s[0].live = []
    ·simp [entOkA, q1, q4, g1, h2]
    by_cases q5 : 0 < s[0].dead.length
    ·simp [entOkA, q1, q4, q5, g1, h2]
    cases q6 : rowsB s[0].live <;> rw [q6] at g2 <;> simp [entOkA, q1, q3, q4, q5, q6, g1, g2, e3, h2]
  cases hp : entOkA (prevK s i) s[i]
  ·refine AWp.cT (by simp) ?_
   refine AWp.g [2] [] ?_
   simp
   refine AWp.ret ?_
   simp [setOkA, range_not (p := entAtA s) h2 (by simp [entAtA, h2, hp])]
  ·refine AWp.cF (by simp) ?_
   refine AWp.skip ?_
   show AWp _ _ _ _
   refine AWp.gL [0, 3] [] ?_
   simp
   refine ⟨i + 1, ⟨by omega, fun k hk => ?_⟩, by omega, ?_⟩
   ·by_cases hki : k = i
    ·subst hki; simp [entAtA, h2, hp]
    ·exact hall k (by omega)
   ·simp
    exact wrap64 (by omega) (by omega)
 ·refine AWp.cF (by simp [h2]) ?_
  refine AWp.exit ?_
  show AWp _ _ _ _
  obtain rfl : i = s.length := by omega
  refine AWp.g [2] [] ?_
  simp
  refine AWp.ret ?_
  rw [setOkA, range_all hall]
  simp
set_option maxRecDepth 8000 in
set_option maxHeartbeats 1000000 in
theorem c_awset_Same1 (a b : Entry) (ha : a.live.length ≤ 1000000 ∧ a.dead.length ≤ 1000000) : Pure Tryz.prog 166 [.agg (entC a), .agg (entC b)] (.b (sameE a b)) := by
 refine proc_of (cx Tryz.prog 24 [2, 3, 4] [4]) 22 [.tmp 4] Tryz.func166 rfl rfl rfl rfl rfl rfl (Nat.le_refl _) rfl ?_
 refine AWp.g [2, 3] [2, 3] ?_
 simp [entC]
 refine AWp.step [4] [] [(4, .b (sameE a b))] [] ?_ ?_
 ·have g2 := c_Equal_Dot a.live b.live (by omega)
  have g3 := c_Equal_Dot a.dead b.dead (by omega)
  by_cases q1 : a.key.toList = b.key.toList
  ·simp [q1]
   refine call_pure g2 (by simp) ?_
   by_cases q2 : a.live = b.live
   ·simp [q2]
    refine call_pure g3 (by simp) ?_
    simp [sameE, eqK, q1, q2]
   ·simp [sameE, eqK, q1, q2]
  ·have q1' : (a.key.toList == b.key.toList) = false := by simpa using q1
   simp [sameE, eqK, q1']
 refine AWp.ret ?_
 simp
set_option maxRecDepth 8000 in
set_option maxHeartbeats 2000000 in
theorem c_EqualFunc_Entry (a b : List Entry) (ha : Fine a) (hb : Fine b) : Pure Tryz.prog 165 [.sl .fro 3 (entsAV a), .sl .fro 3 (entsAV b), .fn 166 [] []] (.b (sameB a b)) := by
 have hlen := ha.1
 refine proc_of (cx Tryz.prog 32 [0, 1, 2, 6, 7, 8, 9, 14, 15, 16, 17, 18, 30] [6]) 29 [.tmp 6] Tryz.func165 rfl rfl rfl rfl rfl rfl (Nat.le_refl _) rfl ?_
 refine AWp.g [0, 1, 2] [] ?_
 simp
 refine AWp.seq ?_
 refine AWp.g [0, 1, 2, 14] [] ?_
 simp
 by_cases hab : ¬ (a.length : Int) = b.length
 ·refine AWp.cT (by simp [hab]) ?_
  refine AWp.g [6] [] ?_
  simp
  refine AWp.ret ?_
  have : ¬ a.length = b.length := by omega
  simp [sameB, this]
 ·refine AWp.cF (by simp [hab]; omega) ?_
  refine AWp.skip ?_
  show AWp _ _ _ _
  refine AWp.seq ?_
  have hab2 : a.length = b.length := by omega
  refine AWp.g [1, 2, 15, 16, 17] [] ?_
  simp
  refine AWp.block (AWp.while (fun i : Nat => [(1, .sl .fro 3 (entsAV b)), (2, .fn 166 [] []), (15, .sl .fro 3 (entsAV a)), (16, .i .i64 a.length), (17, .i .i64 i)]) (fun i => []) (fun i => i ≤ a.length ∧ ∀ k, k < i → (match a[k]?, b[k]? with | some x, some y => sameE x y | _, _ => false) = true) (fun i => a.length - i) [1, 2, 15, 16, 17] [] 0 (by simp) (by simp) ?_)
  rintro i ⟨hi, hall⟩
  refine AWp.g [1, 2, 15, 16, 17, 18] [] ?_
  simp
  refine AWp.seq ?_
  by_cases h2 : i < a.length
  ·refine AWp.cT (by simp [h2]) ?_
   refine AWp.skip ?_
   show AWp _ _ _ _
   refine AWp.seq ?_
   refine AWp.block ?_
   have h3 : i < b.length := by omega
   refine AWp.g [1, 2, 7, 8, 15, 16, 17] [8] ?_
   simp [h2]
   refine AWp.g [1, 2, 8, 9, 15, 16, 17] [8, 9] ?_
   simp [h3]
   refine AWp.g [1, 2, 15, 16, 17, 30] [] ?_
   simp
   refine call_pure (c_awset_Same1 a[i] b[i] (ha.2 _ (List.getElem_mem h2))) (by simp [entC]) ?_
   simp
   cases hp : sameE a[i] b[i]
   ·refine AWp.cT (by simp) ?_
    refine AWp.g [6] [] ?_
    simp
    refine AWp.ret ?_
    have h4 : sameB a b = false := by
     unfold sameB
     rw [range_not (i := i) h2 (by simp [h2, h3, hp])]
     simp
    rw [h4]
    simp
   ·refine AWp.cF (by simp) ?_
    refine AWp.skip ?_
    show AWp _ _ _ _
    refine AWp.gL [1, 2, 15, 16, 17] [] ?_
    simp
    refine ⟨i + 1, ⟨by omega, fun k hk => ?_⟩, by omega, ?_⟩
    ·by_cases hki : k = i
     ·subst hki; simp [h2, h3, hp]
     ·exact hall k (by omega)
    ·simp
     exact wrap64 (by omega) (by omega)
  ·refine AWp.cF (by simp [h2]) ?_
   refine AWp.exit ?_
   show AWp _ _ _ _
   obtain rfl : i = a.length := by omega
   refine AWp.g [6] [] ?_
   simp
   refine AWp.ret ?_
   have h4 : sameB a b = true := by
    unfold sameB
    rw [show decide (a.length = b.length) = true by simp [hab2], Bool.true_and]
    exact range_all hall
   rw [h4]
   simp
theorem c_awset_Same (a b : List Entry) (ha : Fine a) (hb : Fine b) : Pure Tryz.prog 98 [.sl .fro 3 (entsAV a), .sl .fro 3 (entsAV b)] (.b (sameB a b)) := by
 refine proc_of (cx Tryz.prog 8 [0, 1, 4] [4]) 6 [.tmp 4] Tryz.func98 rfl rfl rfl rfl rfl rfl (Nat.le_refl _) rfl ?_
 refine AWp.g [0, 1] [] ?_
 simp
 refine AWp.g [4] [] ?_
 simp
 refine call_p (c_EqualFunc_Entry a b ha hb) ?_
 simp
 refine AWp.ret ?_
 simp
end Go.AM
namespace Go.AM
open Go.Proofs
theorem c_awset_find1 (e : Entry) (k : ByteArray) : Pure Tryz.prog 230 [.agg (entC e), .s k] (.i .i64 (cmpK e.key k)) := by
 refine proc_of (cx Tryz.prog 9 [1, 2, 4] [4]) 7 [.tmp 4] Tryz.func230 rfl rfl rfl rfl rfl rfl (Nat.le_refl _) rfl ?_
 refine AWp.g [1, 2] [2] ?_
 simp [entC]
 refine AWp.g [4] [] ?_
 simp
 refine call_p (c_Compare e.key k) ?_
 simp
 refine AWp.ret ?_
 simp
set_option maxRecDepth 8000 in
set_option maxHeartbeats 2000000 in
theorem c_BSearchA_Entry (s : List Entry) (k : ByteArray) (hs : Fine s) : Pure Tryz.prog 201 [.sl .fro 3 (entsAV s), .s k, .fn 230 [] []] (.tup [.i .i64 (place s k), .b (there s k)]) := by
 refine proc_of (cx Tryz.prog 49 [0, 1, 2, 6, 7, 8, 9, 10, 11, 17, 31] [6, 7]) 46 [.tmp 6, .tmp 7] Tryz.func201 rfl rfl rfl rfl rfl rfl (Nat.le_refl _) rfl ?_
 refine AWp.g [0, 1, 2] [] ?_
 simp
 refine AWp.g [0, 1, 2, 8] [] ?_
 simp
 refine AWp.g [0, 1, 2, 8, 9, 10] [] ?_
 simp
 refine AWp.seq ?_
 refine AWp.block (AWp.while (fun p : Nat × Nat => [(0, .sl .fro 3 (entsAV s)), (1, .s k), (2, .fn 230 [] []), (8, .i .i64 s.length), (9, .i .i64 p.1), (10, .i .i64 p.2)]) (fun p => []) (fun p => p.1 ≤ p.2 ∧ p.2 ≤ s.length ∧ bsF (less s k) p.1 p.2 = place s k) (fun p => p.2 - p.1) [0, 1, 2, 8, 9, 10] [] (0, s.length) (by exact ⟨Nat.zero_le _, Nat.le_refl _, rfl⟩) (by simp) ?_)
 rintro ⟨lo, hi⟩ ⟨h1, h2, h3⟩
 have hlen := hs.1
 refine AWp.seq ?_
 refine AWp.g [0, 1, 2, 8, 9, 10, 17] [] ?_
 simp
 by_cases h : lo < hi
 ·refine AWp.cT (by simp [h]) ?_
  refine AWp.skip ?_
  show AWp _ _ _ _
  refine AWp.block ?_
  obtain ⟨m, hm⟩ : ∃ m : Nat, m = (lo + hi) / 2 := ⟨_, rfl⟩
  have hml : m < s.length := by omega
  refine AWp.step [0, 1, 2, 8, 9, 10, 11] [] [(0, .sl .fro 3 (entsAV s)), (1, .s k), (2, .fn 230 [] []), (8, .i .i64 s.length), (9, .i .i64 lo), (10, .i .i64 hi), (11, .i .i64 m)] [] ?_ ?_
  ·have w1 : IntKind.i64.wrap ((lo : Int) + hi) = (lo : Int) + hi := wrap64 (by omega) (by omega)
   simp [w1]
   exact mid_wrap (by omega) hm
  refine AWp.g [0, 1, 2, 8, 9, 10, 11, 31] [] ?_
  simp [hml]
  refine call_pure (c_awset_find1 s[m] k) (by simp [entC]) ?_
  simp [hml]
  by_cases hp : cmpK s[m].key k < 0
  ·refine AWp.cT (by simp [hp]) ?_
   refine AWp.gL [0, 1, 2, 8, 9, 10] [] ?_
   simp (disch := omega) [wrap64]
   refine ⟨(m + 1, hi), ⟨by simp; omega, h2, ?_⟩, by simp; omega, ?_⟩
   ·rw [bsF, if_pos h, ← hm, if_pos (by simp [less, hml, hp])] at h3
    exact h3
   ·simp
  ·refine AWp.cF (by simp [hp]) ?_
   refine AWp.gL [0, 1, 2, 8, 9, 10] [] ?_
   simp
   refine ⟨(lo, m), ⟨by simp; omega, by simp; omega, ?_⟩, by simp; omega, ?_⟩
   ·rw [bsF, if_pos h, ← hm, if_neg (by simp [less, hml, hp])] at h3
    exact h3
   ·simp
 ·refine AWp.cF (by simp [h]) ?_
  refine AWp.exit ?_
  show AWp _ _ _ _
  obtain rfl : lo = hi := by omega
  rw [bsF_done] at h3
  refine AWp.step [6, 7] [] [(6, .i .i64 (place s k)), (7, .b (there s k))] [] ?_ ?_
  ·by_cases hq : lo < s.length
   ·simp [hq, there, ← h3]
    refine call_pure (c_awset_find1 s[lo] k) (by simp [entC]) ?_
    simp
   ·simp [hq, there, ← h3]
  refine AWp.ret ?_
  simp
set_option maxRecDepth 8000 in
theorem c_awset_find (s : List Entry) (k : ByteArray) (hs : Fine s) : Pure Tryz.prog 209 [.sl .fro 3 (entsAV s), .s k] (.tup [.i .i64 (place s k), .b (there s k)]) := by
 refine proc_of (cx Tryz.prog 11 [0, 1, 4, 5] [4, 5]) 9 [.tmp 4, .tmp 5] Tryz.func209 rfl rfl rfl rfl rfl rfl (Nat.le_refl _) rfl ?_
 refine AWp.g [0, 1] [] ?_
 simp
 refine AWp.g [4, 5] [] ?_
 simp
 refine call_p (c_BSearchA_Entry s k hs) ?_
 simp
 refine AWp.ret ?_
 simp
theorem c_awset_past (c : List Int) (d : Dot) (hc : c.length ≤ 1000000) : Pure Tryz.prog 211 [.sl .fro 1 (intsAV c), .agg (dotC d)] (.b (decide (d.2 ≤ getC c d.1))) := by
 refine proc_of (cx Tryz.prog 12 [0, 3, 4] [4]) 10 [.tmp 4] Tryz.func211 rfl rfl rfl rfl rfl rfl (Nat.le_refl _) rfl ?_
 refine AWp.g [0, 3] [3] ?_
 simp [dotC]
 have g1 := c102 c d.1 (by omega)
 refine AWp.stepD 7 (fun k => .i .i64 (getC c d.1)) [4] [] [(4, .b (decide (d.2 ≤ getC c d.1)))] [] mix (by kernel_rfl) ?_ ?_
 ·simp [g1]
 refine AWp.ret ?_
 simp
set_option maxRecDepth 8000 in
theorem c_awset_turn1 (c : List Int) (hc : c.length ≤ 1000000) (d : Dot) : Proc Tryz.prog 1 210 [.agg (dotC d), .ptr 0 0] [(0, [.sl .fro 1 (intsAV c)])] (.b (decide (d.2 ≤ getC c d.1))) [(0, [.sl .fro 1 (intsAV c)])] := by
 refine proc_of (cxb Tryz.prog 7 1 [1, 2, 3] [] [3]) 5 [.tmp 3] Tryz.func210 rfl rfl rfl rfl rfl rfl (Nat.le_refl _) rfl ?_
 refine AWp.g [1, 2] [0, 3] ?_
 simp [dotC]
 refine AWp.g [3] [0] ?_
 simp
 refine call_pure (c_awset_past c d hc) (by simp [dotC]) ?_
 simp
 refine AWp.ret ?_
 simp
inductive LV where
 | here (l : List Dot)
 | at (b n cap : Nat)
def LV.c : LV → AV
 | .here l => .sl .fro 2 (dotsAV l)
 | .at b n cap => .ab b 0 n cap
structure EntL where
 key : ByteArray
 live : LV
 dead : List Dot
def entL (e : EntL) : List AV := [.s e.key, e.live.c, .sl .fro 2 (dotsAV e.dead)]
def hereL (e : Entry) : EntL := ⟨e.key, .here e.live, e.dead⟩
theorem LV.calm (x : LV) : x.c.calm = true := by cases x <;> rfl
theorem entL_ok : EncOk entL 3 := ⟨fun _ => rfl, fun x c hc => by simp [entL] at hc; rcases hc with rfl | rfl | rfl; rfl; exact x.live.calm; rfl⟩
theorem entL_here (e : Entry) : entL (hereL e) = entC e := rfl
def markL (s : List Entry) (j b cap : Nat) : List EntL := (s.map hereL).set j ⟨(s.getD j (emptyE ByteArray.empty)).key, .at b (s.getD j (emptyE ByteArray.empty)).live.length cap, (s.getD j (emptyE ByteArray.empty)).dead⟩
@[simp] theorem markL_len (s : List Entry) (j b cap : Nat) : (markL s j b cap).length = s.length := by simp [markL]
theorem markL_at {s : List Entry} {j : Nat} (b cap : Nat) (h : j < s.length) : (markL s j b cap)[j]'(by simpa using h) = ⟨s[j].key, .at b s[j].live.length cap, s[j].dead⟩ := by simp [markL, h]
theorem markL_ne {s : List Entry} {j i : Nat} (b cap : Nat) (h : i < s.length) (hne : i ≠ j) : (markL s j b cap)[i]'(by simpa using h) = hereL s[i] := by
 unfold markL
 rw [List.getElem_set_ne (by omega)]
 simp
theorem markL_take (s : List Entry) (j b cap : Nat) : (markL s j b cap).take j = (s.map hereL).take j := by
 unfold markL; rw [List.take_set_of_le (Nat.le_refl _)]
def rowsE (l : List EntL) : List (List AV) := l.map entL
@[simp] theorem rowsE_len (l : List EntL) : (rowsE l).length = l.length := by simp [rowsE]
theorem rowsE_here (l : List Entry) : rowsE (l.map hereL) = entsAV l := by simp [rowsE, entsAV, Function.comp_def, entL_here]
def parkC (s : List Entry) (j cap : Nat) : List AV := (dotsAV (s.getD j (emptyE ByteArray.empty)).live).flatten ++ List.replicate ((cap - (s.getD j (emptyE ByteArray.empty)).live.length) * 2) AV.any
theorem dots_flat_calm (l : List Dot) : Calm (dotsAV l).flatten := fun c hc => by
 obtain ⟨y, hy, hc⟩ := List.mem_flatten.1 hc
 obtain ⟨x, _, rfl⟩ := List.mem_map.1 hy
 exact dotC_ok.calm x c hc
theorem parkC_calm (s : List Entry) (j cap : Nat) : Calm (parkC s j cap) := (dots_flat_calm _).append (Calm.replicate _ rfl)
def outL (s : List Entry) (j i : Nat) : Option (Nat × Nat) → List (List AV)
 | none => entsAV (s.take i)
 | some p => rowsE ((markL s j p.1 p.2).take i)
theorem three {i j : Nat} {o : Option (Nat × Nat)} (h : o = none ↔ i ≤ j) : (o = none ∧ i < j) ∨ (o = none ∧ i = j) ∨ ∃ b cap, o = some (b, cap) ∧ j < i := by
 rcases o with _ | ⟨b, cap⟩
 ·have := h.1 rfl
  rcases Nat.lt_or_ge i j with h1 | h1
  ·exact .inl ⟨rfl, h1⟩
  ·exact .inr (.inl ⟨rfl, by omega⟩)
 ·refine .inr (.inr ⟨b, cap, rfl, ?_⟩)
  apply Classical.byContradiction
  intro h1
  have := h.2 (by omega)
  cases this
theorem ents_take (s : List Entry) (i : Nat) (h : i < s.length) : entsAV (s.take (i + 1)) = entsAV (s.take i) ++ [[.s s[i].key, .sl .fro 2 (dotsAV s[i].live), .sl .fro 2 (dotsAV s[i].dead)]] := by
 rw [List.take_succ_eq_append_getElem h, entsAV_snoc]
theorem rows_take (l : List EntL) (i : Nat) (h : i < l.length) : rowsE (l.take (i + 1)) = rowsE (l.take i) ++ [[.s l[i].key, l[i].live.c, .sl .fro 2 (dotsAV l[i].dead)]] := by
 rw [List.take_succ_eq_append_getElem h]
 unfold rowsE
 rw [List.map_append]
 rfl
set_option maxRecDepth 8000 in
set_option maxHeartbeats 4000000 in
theorem c_awset_own (s : List Entry) (j : Nat) (hs : Fine s) (hj : j < s.length) (hne : s[j].live ≠ []) : ProcE (ι := {q : Nat × Nat // s[j].live.length ≤ q.2}) Tryz.prog 0 208 [.sl .fro 3 (entsAV s)] [] (fun q => .sl .own 3 (rowsE (markL s j q.1.1 q.1.2))) (fun q => [(1000000 + q.1.1, parkC s j q.1.2)]) := by
 have hlen := hs.1
 refine procE_of (cx Tryz.prog 22 [0, 2, 3, 5, 6, 7, 8, 9] [2]) 21 [.tmp 2] Tryz.func208 rfl rfl rfl rfl rfl rfl (Nat.le_refl _) rfl ?_
 refine AWp.g [0] [] ?_
 simp
 refine AWp.g [0, 3] [] ?_
 simp
 refine AWp.seq ?_
 refine AWp.g [3, 6, 7, 8] [] ?_
 simp
 refine AWp.block (AWp.whileK (fun q : Nat × Option (Nat × Nat) => [(3, .sl .own 3 (outL s j q.1 q.2)), (6, .sl .fro 3 (entsAV s)), (7, .i .i64 s.length), (8, .i .i64 q.1)]) (fun q => (match q.2 with | none => [] | some p => [(1000000 + p.1, parkC s j p.2)])) (fun q => q.1 ≤ s.length ∧ (q.2 = none ↔ q.1 ≤ j) ∧ ∀ p, q.2 = some p → s[j].live.length ≤ p.2) (fun q => s.length - q.1) [3, 6, 7, 8] (fun q => (match q.2 with | none => [] | some p => [1000000 + p.1])) (0, none) (by simp) (by simp [outL, entsAV]) ?_)
 rintro ⟨i, o⟩ ⟨hi, ho, hcp⟩
 dsimp only at hi ho hcp ⊢
 rcases three ho with ⟨rfl, hij⟩ | ⟨rfl, rfl⟩ | ⟨b, cap, rfl, hij⟩
 ·have h2 : i < s.length := by omega
  simp only [outL]
  refine AWp.g [3, 6, 7, 8, 9] [] ?_
  simp
  refine AWp.seq ?_
  refine AWp.cT (by simp; omega) ?_
  refine AWp.skip ?_
  show AWp _ _ _ _
  refine AWp.seq ?_
  refine AWp.block ?_
  refine AWp.g [3, 5, 6, 7, 8] [5] ?_
  simp [h2]
  have hl := hs.2 _ (List.getElem_mem h2)
  refine AWp.g [3, 5, 6, 7, 8] [5] ?_
  simp
  refine call_pure (c_Clone_Dot (dotsAV s[i].live) (by simp; omega)) (by simp) ?_
  simp
  refine AWp.last [3, 6, 7, 8] [] [(3, .sl .own 3 (entsAV (s.take (i + 1)))), (6, .sl .fro 3 (entsAV s)), (7, .i .i64 s.length), (8, .i .i64 i)] [] ?_ ?_
  ·rw [ents_take s i h2]
   simp
   omega
  show AWp _ _ _ _
  refine AWp.gL [3, 6, 7, 8] [] ?_
  simp
  refine ⟨(i + 1, none), ⟨by dsimp only; omega, by simp; omega, by simp⟩, by dsimp only; omega, ?_⟩
  simp [outL]
  exact wrap64 (by omega) (by omega)
 ·simp only [outL]
  refine AWp.g [3, 6, 7, 8, 9] [] ?_
  simp
  refine AWp.seq ?_
  refine AWp.cT (by simp; omega) ?_
  refine AWp.skip ?_
  show AWp _ _ _ _
  refine AWp.seq ?_
  refine AWp.block ?_
  refine AWp.g [3, 5, 6, 7, 8] [5] ?_
  simp [hj]
  have hl := hs.2 _ (List.getElem_mem hj)
  refine AWp.goX fun K hK => ?_
  refine SOps.cut 3 rfl fun K' hK' => ?_
  simp
  refine call_pure (c_Clone_Dot (dotsAV s[i].live) (by simp; omega)) (by simp) ?_
  simp
  refine hK' _ _ ?_
  clear hK'
  refine SOps.park 14 rfl (by simp) (by simpa [dotsAV] using hne) (fun A hA => ?_) (by simp) fun b cap hcap => ?_
  ·have h5 : A ≠ 5 := by omega
   simp [h5]
  have e0 : (dotsAV s[i].live).flatten ++ List.replicate ((cap - s[i].live.length) * 2) AV.any = parkC s i cap := by simp [parkC, hj]
  have hpc := parkC_calm s i cap
  have hA : ∀ n, n < 1000000 → (n = 1000000 + b) = False := fun n hn => by simp; omega
  have hB : ∀ n, n < 1000000 → (1000000 + b = n) = False := fun n hn => by simp; omega
  simp [e0, hA, hB, hpc]
  refine SOps.cut 2 rfl fun K2 hK2 => ?_
  simp [hpc, hA, hB]
  refine hK2 _ _ (SOps.nil ?_)
  refine hK [3, 5, 6, 7, 8] [5, 1000000 + b] _ ?_
  clear hK hK2 K2 K
  simp [hpc, hA, hB, -Prod.exists]
  refine AWp.last [3, 6, 7, 8] [1000000 + b] [(3, .sl .own 3 (rowsE ((markL s i b cap).take (i + 1)))), (6, .sl .fro 3 (entsAV s)), (7, .i .i64 s.length), (8, .i .i64 i)] [(1000000 + b, parkC s i cap)] ?_ ?_
  ·rw [rows_take (markL s i b cap) i (by simpa using hj), markL_take, ← List.map_take, rowsE_here, markL_at b cap hj]
   simp [hpc, hA, hB, LV.c]
   omega
  show AWp _ _ _ _
  refine AWp.gL [3, 6, 7, 8] [1000000 + b] ?_
  simp [hpc, hA, hB]
  refine ⟨(i + 1, some (b, cap)), ⟨by dsimp only; omega, by simp, by simp; simpa using hcap⟩, by dsimp only; omega, ?_⟩
  simp [outL, hpc, hA, hB]
  exact wrap64 (by omega) (by omega)
 ·have hcp3 := hcp _ rfl
  dsimp only at hcp3
  simp only [outL]
  have hpc := parkC_calm s j cap
  have hA : ∀ n, n < 1000000 → (n = 1000000 + b) = False := fun n hn => by simp; omega
  have hB : ∀ n, n < 1000000 → (1000000 + b = n) = False := fun n hn => by simp; omega
  refine AWp.g [3, 6, 7, 8, 9] [1000000 + b] ?_
  simp [hpc, hA, hB]
  refine AWp.seq ?_
  by_cases h2 : i < s.length
  ·refine AWp.cT (by simp [h2]) ?_
   refine AWp.skip ?_
   show AWp _ _ _ _
   refine AWp.seq ?_
   refine AWp.block ?_
   refine AWp.g [3, 5, 6, 7, 8] [5, 1000000 + b] ?_
   simp [h2, hpc, hA, hB]
   have hl := hs.2 _ (List.getElem_mem h2)
   refine AWp.g [3, 5, 6, 7, 8] [5, 1000000 + b] ?_
   simp [hpc, hA, hB]
   refine call_pure (c_Clone_Dot (dotsAV s[i].live) (by simp; omega)) (by simp) ?_
   simp [hpc, hA, hB]
   refine AWp.last [3, 6, 7, 8] [1000000 + b] [(3, .sl .own 3 (rowsE ((markL s j b cap).take (i + 1)))), (6, .sl .fro 3 (entsAV s)), (7, .i .i64 s.length), (8, .i .i64 i)] [(1000000 + b, parkC s j cap)] ?_ ?_
   ·rw [rows_take (markL s j b cap) i (by simpa using h2), markL_ne b cap h2 (by omega)]
    simp [hpc, hA, hB, LV.c, hereL]
    omega
   show AWp _ _ _ _
   refine AWp.gL [3, 6, 7, 8] [1000000 + b] ?_
   simp [hpc, hA, hB]
   refine ⟨(i + 1, some (b, cap)), ⟨by dsimp only; omega, by simp; omega, by simp; exact hcp3⟩, by dsimp only; omega, ?_⟩
   simp [outL, hpc, hA, hB]
   exact wrap64 (by omega) (by omega)
  ·refine AWp.cF (by simp [h2]) ?_
   refine AWp.exit ?_
   show AWp _ _ _ _
   have hpc := parkC_calm s j cap
   have e3 : (markL s j b cap).take i = markL s j b cap := List.take_of_length_le (by simp; omega)
   rw [e3]
   refine AWp.g [2] [1000000 + b] ?_
   simp [hpc, hA, hB]
   refine AWp.ret ?_
   refine ⟨⟨(b, cap), hcp3⟩, ?_⟩
   simp [hpc, hA, hB]
   simpa using hpc.still
end Go.AM
namespace Go.AM
open Go.Proofs
set_option maxRecDepth 8000 in
set_option maxHeartbeats 2000000 in
theorem c_DeleteB_Entry (R : List (List AV)) (pad : List AV) (i j cap : Nat) (hR : Rows 3 R) (hij : i < j) (hj : j ≤ R.length) (hpad : Calm pad) (hc : R.length ≤ cap) (hn : R.length ≤ 1000000) (hp : pad.length = (cap - R.length) * 3) : Proc Tryz.prog 1 212 [.bs 0 0 R.length cap, .i .i64 i, .i .i64 j] [(0, boxF R pad)] (.bs 0 0 (R.length - (j - i)) cap) [(0, boxF (R.take i ++ R.drop j) (zerosL [.s ByteArray.empty, .sl .fro 2 [], .sl .fro 2 []] (j - i) ++ pad))] := by
 have hC : Calm (boxF R pad) := boxF_calm hR hpad
 have hL := boxF_len hR pad
 have hin : i ≤ R.length := by omega
 refine proc_of (cxb Tryz.prog 33 1 [0, 1, 2, 6, 7, 16] [] [6]) 30 [.tmp 6] Tryz.func212 rfl rfl rfl rfl rfl rfl (Nat.le_refl _) rfl ?_
 refine AWp.g [0, 1, 2] [0] ?_
 simp [hC, hL]
 refine AWp.g [0, 1, 2] [0] ?_
 simp [hC, hL]
 refine ⟨by omega, ?_⟩
 refine AWp.seq ?_
 refine AWp.g [0, 1, 2, 16] [0] ?_
 simp [hC, hL]
 refine AWp.cF (by simp; omega) ?_
 refine AWp.skip ?_
 show AWp _ _ _ _
 refine AWp.g [0, 1, 2, 7] [0] ?_
 simp [hC, hL]
 have hch := boxF_chunk_all hR pad j hj
 have hda := boxF_dat hR pad j (R.length - j) (by omega)
 have hpt := boxF_put (Y := R.drop j) hR pad i (by simp; omega)
 obtain ⟨R3, hR3⟩ : ∃ R3, R3 = R.take i ++ R.drop j ++ R.drop (i + (R.drop j).length) := ⟨_, rfl⟩
 rw [← hR3] at hpt
 have hsum := sum_len (hR.drop j)
 simp [-List.length_flatten] at hpt hsum
 have hr3 : Rows 3 R3 := by rw [hR3]; exact ((hR.take _).append (hR.drop _)).append (hR.drop _)
 have hR3l : R3.length = R.length := by rw [hR3]; simp; omega
 have hC3 : Calm (boxF R3 pad) := boxF_calm hr3 hpad
 have hL3 := boxF_len hr3 pad
 rw [hR3l] at hL3
 have hF : ∀ n, AV.freeL (List.take n (List.drop (i * 3) (boxF R pad))) = true := fun n => ((hC.drop _).take n).freeL
 have hle : i * 3 + (R.length - j) * 3 ≤ R.length * 3 + pad.length := by omega
 have hle2 : j * 3 + (R.length - j) * 3 ≤ R.length * 3 + pad.length := by omega
 have hle3 : i + (R.length - j) ≤ cap := by omega
 obtain ⟨m, hm⟩ : ∃ m, m = i + (R.length - j) := ⟨_, rfl⟩
 have hR3t : R3.take m = R.take i ++ R.drop j := by
  rw [hR3, List.take_append_of_le_length (by simp; omega), List.take_of_length_le (by simp; omega)]
 have hch2 : chunk 3 (R.length - j) (List.drop (if cap = j then 0 else j * 3) (boxF R pad)) = R.drop j := by
  split
  ·have : R.length - j = 0 := by omega
   have h2 : R.drop j = [] := List.drop_eq_nil_of_le (by omega)
   rw [this, h2]; rfl
  ·exact hch
 have hda2 : allDat (List.take ((R.length - j) * 3) (List.drop (if cap = j then 0 else j * 3) (boxF R pad))) = true := by
  split
  ·have : R.length - j = 0 := by omega
   rw [this]; simp [allDat]
  ·exact hda
 have hle4 : (if cap = j then 0 else j * 3) + (R.length - j) * 3 ≤ R.length * 3 + pad.length := by split <;> omega
 have hnm : ¬ cap = m := by omega
 obtain ⟨Z, hZ⟩ : ∃ Z : List AV, Z = zerosL [.s ByteArray.empty, .sl .fro 2 [], .sl .fro 2 []] (R.length - m) := ⟨_, rfl⟩
 have hZl : Z.length = (R.length - m) * 3 := by rw [hZ, zerosL_length]; rfl
 have hcz : Calm Z := by rw [hZ]; exact Calm.zeros (fun c hc => by simp at hc; first | (rcases hc with rfl | rfl | rfl <;> rfl) | (rcases hc with rfl | rfl <;> rfl) | (subst hc; rfl)) _
 have hcl := boxF_clear hr3 pad Z m (by omega) (by rw [hZl, hR3l])
 rw [hR3t, hZl] at hcl
 have hrT : Rows 3 (R.take i ++ R.drop j) := (hR.take _).append (hR.drop _)
 have hCT : Calm (boxF (R.take i ++ R.drop j) (Z ++ pad)) := boxF_calm hrT (hcz.append hpad)
 have hF2 : ∀ n, AV.freeL (List.take n (List.drop (m * 3) (boxF R3 pad))) = true := fun n => ((hC3.drop _).take n).freeL
 have hle5 : m * 3 + (R.length - m) * 3 ≤ R.length * 3 + pad.length := by omega
 have hmj : R.length - (j - i) = m := by omega
 have hmj2 : j - i = R.length - m := by omega
 rw [hmj, hmj2, ← hZ]
 refine AWp.stepT (.take 0 (.take 1 (.take 2 (.take 3 (.take 4 (.take 5 (.alt 6 (.take 7 .fin) .stop))))))) [0, 7] [0] [(0, .bs 0 0 m cap), (7, .i .i64 R.length)] [(0, boxF R3 pad)] mix (by kernel_rfl) ?_ ?_
 ·refine atree.t ?_
  simp [hC3, ← hm, hC, hL]
  refine atree.t ?_
  simp [hC3, ← hm, hC, hL]
  refine atree.t ?_
  simp [hC3, ← hm, hC, hL]
  refine ⟨by omega, ?_⟩
  refine atree.t ?_
  simp [hC3, ← hm, hC, hL]
  refine atree.t ?_
  simp [hC3, ← hm, hC, hL]
  refine atree.t ?_
  simp [hC3, ← hm, hC, hL]
  refine ⟨by omega, ?_⟩
  refine atree.a ?_
  simp [hC3, ← hm, hC, hL]
  refine append_room ?_
  simp [hC, hL, hch2, hda2, hle4, hpt, hsum, hF, hle, hle2, hle3, hC3, ← hm]
  refine ⟨by omega, ?_⟩
  refine atree.t ?_
  simp [hC3, ← hm, hC, hL]
  refine atree.f ?_
  simp [hC3]
 refine AWp.g [0] [0] ?_
 simp [hC3, hL3, hnm, ← hZ, hZl, hcl, hCT, hF2, hle5, hC, hL]
 refine ⟨by omega, ?_⟩
 refine AWp.g [6] [0] ?_
 simp [hCT, hC, hL]
 refine AWp.ret ?_
 simp [hCT]
 simpa using hCT.still
end Go.AM
namespace Go.AM
open Go.Proofs
theorem c_awset_find1b (k0 : ByteArray) (b n cap : Nat) (l : List Dot) (k : ByteArray) : Pure Tryz.prog 230 [.agg [.s k0, .ab b 0 n cap, .sl .fro 2 (dotsAV l)], .s k] (.i .i64 (cmpK k0 k)) := by
 refine proc_of (cx Tryz.prog 9 [1, 2, 4] [4]) 7 [.tmp 4] Tryz.func230 rfl rfl rfl rfl rfl rfl (Nat.le_refl _) rfl ?_
 refine AWp.g [1, 2] [2] ?_
 simp
 refine AWp.g [4] [] ?_
 simp
 refine call_p (c_Compare k0 k) ?_
 simp
 refine AWp.ret ?_
 simp
theorem c_awset_find1L (e : EntL) (k : ByteArray) : Pure Tryz.prog 230 [.agg (entL e), .s k] (.i .i64 (cmpK e.key k)) := by
 obtain ⟨k0, x, l⟩ := e
 cases x with
 | here y => exact c_awset_find1 ⟨k0, y, l⟩ k
 | «at» b n cap => exact c_awset_find1b k0 b n cap l k
theorem entLR_get (l : List EntL) (pad : List AV) (i : Nat) (h : i < l.length) : ((boxR entL l pad).drop (i * 3)).take 3 = [.s l[i].key, l[i].live.c, .sl .fro 2 (dotsAV l[i].dead)] := boxR_get entL_ok l pad i h
set_option maxRecDepth 8000 in
set_option maxHeartbeats 2000000 in
theorem c_BSearchA_Box (L : List EntL) (s : List Entry) (k : ByteArray) (pad : List AV) (cap : Nat) (hs : Fine s) (hpad : Calm pad) (hLl : L.length = s.length) (hLk : ∀ i (h : i < s.length), (L[i]'(by omega)).key = s[i].key) : Proc Tryz.prog 1 201 [.bs 0 0 s.length cap, .s k, .fn 230 [] []] [(0, boxR entL L pad)] (.tup [.i .i64 (place s k), .b (there s k)]) [(0, boxR entL L pad)] := by
 have hC : Calm (boxR entL L pad) := boxR_calm entL_ok hpad
 have hL : (boxR entL L pad).length = s.length * 3 + pad.length := by rw [← hLl]; exact boxR_len entL_ok L pad
 refine proc_of (cxb Tryz.prog 49 1 [0, 1, 2, 6, 7, 8, 9, 10, 11, 17, 31] [] [6, 7]) 46 [.tmp 6, .tmp 7] Tryz.func201 rfl rfl rfl rfl rfl rfl (Nat.le_refl _) rfl ?_
 refine AWp.g [0, 1, 2] [0] ?_
 simp [hC, hL]
 refine AWp.g [0, 1, 2, 8] [0] ?_
 simp [hC, hL]
 refine AWp.g [0, 1, 2, 8, 9, 10] [0] ?_
 simp [hC, hL]
 refine AWp.seq ?_
 refine AWp.block (AWp.while (fun p : Nat × Nat => [(0, .bs 0 0 s.length cap), (1, .s k), (2, .fn 230 [] []), (8, .i .i64 s.length), (9, .i .i64 p.1), (10, .i .i64 p.2)]) (fun p => [(0, boxR entL L pad)]) (fun p => p.1 ≤ p.2 ∧ p.2 ≤ s.length ∧ bsF (less s k) p.1 p.2 = place s k) (fun p => p.2 - p.1) [0, 1, 2, 8, 9, 10] [0] (0, s.length) (by exact ⟨Nat.zero_le _, Nat.le_refl _, rfl⟩) (by simp [hC]) ?_)
 rintro ⟨lo, hi⟩ ⟨h1, h2, h3⟩
 have hlen := hs.1
 refine AWp.seq ?_
 refine AWp.g [0, 1, 2, 8, 9, 10, 17] [0] ?_
 simp [hC, hL]
 by_cases h : lo < hi
 ·refine AWp.cT (by simp [h]) ?_
  refine AWp.skip ?_
  show AWp _ _ _ _
  refine AWp.block ?_
  obtain ⟨m, hm⟩ : ∃ m : Nat, m = (lo + hi) / 2 := ⟨_, rfl⟩
  have hml : m < s.length := by omega
  refine AWp.step [0, 1, 2, 8, 9, 10, 11] [0] [(0, .bs 0 0 s.length cap), (1, .s k), (2, .fn 230 [] []), (8, .i .i64 s.length), (9, .i .i64 lo), (10, .i .i64 hi), (11, .i .i64 m)] [(0, boxR entL L pad)] ?_ ?_
  ·have w1 : IntKind.i64.wrap ((lo : Int) + hi) = (lo : Int) + hi := wrap64 (by omega) (by omega)
   simp [w1, hC]
   exact mid_wrap (by omega) hm
  have g1 := c_awset_find1L (L[m]'(by omega)) k
  rw [hLk m hml] at g1
  refine AWp.g [0, 1, 2, 8, 9, 10, 11, 31] [0] ?_
  simp [hml, entLR_get L pad m (by omega), hC, hL]
  refine ⟨by omega, ?_⟩
  refine call_pure g1 (by simp only [entL]; generalize (L[m]'(by omega)).live = x; cases x <;> simp [LV.c, hLk m hml]) ?_
  simp [hml, entLR_get L pad m (by omega), hC, hL]
  by_cases hp : cmpK s[m].key k < 0
  ·refine AWp.cT (by simp [hp]) ?_
   refine AWp.gL [0, 1, 2, 8, 9, 10] [0] ?_
   simp (disch := omega) [wrap64, hC, hL]
   refine ⟨(m + 1, hi), ⟨by simp; omega, h2, ?_⟩, by simp; omega, ?_⟩
   ·rw [bsF, if_pos h, ← hm, if_pos (by simp [less, hml, hp])] at h3
    exact h3
   ·simp [hC]
  ·refine AWp.cF (by simp [hp]) ?_
   refine AWp.gL [0, 1, 2, 8, 9, 10] [0] ?_
   simp [hC, hL]
   refine ⟨(lo, m), ⟨by simp; omega, by simp; omega, ?_⟩, by simp; omega, ?_⟩
   ·rw [bsF, if_pos h, ← hm, if_neg (by simp [less, hml, hp])] at h3
    exact h3
   ·simp [hC]
 ·refine AWp.cF (by simp [h]) ?_
  refine AWp.exit ?_
  show AWp _ _ _ _
  obtain rfl : lo = hi := by omega
  rw [bsF_done] at h3
  refine AWp.step [6, 7] [0] [(6, .i .i64 (place s k)), (7, .b (there s k))] [(0, boxR entL L pad)] ?_ ?_
  ·by_cases hq : lo < s.length
   ·have g1 := c_awset_find1L (L[lo]'(by omega)) k
    rw [hLk lo hq] at g1
    simp [hq, there, ← h3, hC, hL, entLR_get L pad lo (by omega)]
    refine ⟨by omega, ?_⟩
    refine call_pure g1 (by simp only [entL]; generalize (L[lo]'(by omega)).live = x; cases x <;> simp [LV.c, hLk lo hq]) ?_
    simp [hC]
   ·simp [hq, there, ← h3, hC]
  refine AWp.ret ?_
  simp [hC]
  simpa using hC.still
set_option maxRecDepth 8000 in
theorem c_awset_findB (L : List EntL) (s : List Entry) (k : ByteArray) (pad : List AV) (cap : Nat) (hs : Fine s) (hpad : Calm pad) (hLl : L.length = s.length) (hLk : ∀ i (h : i < s.length), (L[i]'(by omega)).key = s[i].key) : Proc Tryz.prog 1 209 [.bs 0 0 s.length cap, .s k] [(0, boxR entL L pad)] (.tup [.i .i64 (place s k), .b (there s k)]) [(0, boxR entL L pad)] := by
 have hC : Calm (boxR entL L pad) := boxR_calm entL_ok hpad
 have hL : (boxR entL L pad).length = s.length * 3 + pad.length := by rw [← hLl]; exact boxR_len entL_ok L pad
 refine proc_of (cxb Tryz.prog 11 1 [0, 1, 4, 5] [] [4, 5]) 9 [.tmp 4, .tmp 5] Tryz.func209 rfl rfl rfl rfl rfl rfl (Nat.le_refl _) rfl ?_
 refine AWp.g [0, 1] [0] ?_
 simp [hC, hL]
 refine AWp.g [4, 5] [0] ?_
 simp [hC, hL]
 refine call_proc [(0, 0)] none (c_BSearchA_Box L s k pad cap hs hpad hLl hLk) (by simp) (by simp) ?_
 simp [hC, hL]
 refine ⟨by simpa using hC.still, ?_⟩
 refine AWp.ret ?_
 simp [hC]
 simpa using hC.still
end Go.AM
namespace Go.AM
open Go.Proofs
theorem boxL_here (s : List Entry) (pad : List AV) : boxR entL (s.map hereL) pad = boxR entC s pad := by
 unfold boxR
 rw [List.map_map]
 rfl
theorem markL_key (s : List Entry) (j b cap : Nat) (hj : j < s.length) (i : Nat) (h : i < s.length) : ((markL s j b cap)[i]'(by simpa using h)).key = s[i].key := by
 by_cases he : i = j
 ·subst he; rw [markL_at b cap h]
 ·rw [markL_ne b cap h he]; rfl
theorem markL_set (s : List Entry) (j b cap : Nat) (e : Entry) : (markL s j b cap).set j (hereL e) = (s.set j e).map hereL := by
 unfold markL
 rw [List.set_set, List.map_set]
theorem setL_live (s : List Entry) (j b cap : Nat) (hj : j < s.length) (l : List Dot) (pad : List AV) (L : List AV) (hL : L = boxR entL (markL s j b cap) pad) :
  L.take (j * 3 + 1) ++ (AV.sl .fro 2 (dotsAV l) :: L.drop (j * 3 + 1 + 1)) = boxR entC (s.set j ⟨s[j].key, l, s[j].dead⟩) pad := by
 have h1 := entLR_get (markL s j b cap) pad j (by simpa using hj)
 have h2 := boxR_set entL_ok (markL s j b cap) pad j (by simpa using hj) (hereL ⟨s[j].key, l, s[j].dead⟩)
 rw [markL_set, boxL_here, ← hL] at h2
 rw [← hL, markL_at b cap hj] at h1
 rw [← h2]
 have hlen : j * 3 + 3 ≤ L.length := by
  have := congrArg List.length h1
  simp at this
  omega
 obtain ⟨A, B, hAB, hA⟩ : ∃ A B, L = A ++ ([.s s[j].key, LV.c (.at b s[j].live.length cap), .sl .fro 2 (dotsAV s[j].dead)] ++ B) ∧ A.length = j * 3 := by
  refine ⟨L.take (j * 3), L.drop (j * 3 + 3), ?_, by simp; omega⟩
  rw [← h1]
  have : L.drop (j * 3) = (L.drop (j * 3)).take 3 ++ L.drop (j * 3 + 3) := by
   rw [← List.drop_drop]; exact (List.take_append_drop 3 _).symm
  rw [← this, List.take_append_drop]
 rw [hAB]
 have e1 : (A ++ ([AV.s s[j].key, LV.c (.at b s[j].live.length cap), .sl .fro 2 (dotsAV s[j].dead)] ++ B)).take (j * 3 + 1) = A ++ [.s s[j].key] := by
  rw [← hA, List.take_append, List.take_of_length_le (by omega)]
  simp
 have e2 : (A ++ ([AV.s s[j].key, LV.c (.at b s[j].live.length cap), .sl .fro 2 (dotsAV s[j].dead)] ++ B)).drop (j * 3 + 1 + 1) = .sl .fro 2 (dotsAV s[j].dead) :: B := by
  rw [← hA, List.drop_append, List.drop_eq_nil_of_le (by omega), show A.length + 1 + 1 - A.length = 2 by omega]
  rfl
 have e3 : (A ++ ([AV.s s[j].key, LV.c (.at b s[j].live.length cap), .sl .fro 2 (dotsAV s[j].dead)] ++ B)).take (j * 3) = A := by rw [← hA, List.take_left]
 have e4 : (A ++ ([AV.s s[j].key, LV.c (.at b s[j].live.length cap), .sl .fro 2 (dotsAV s[j].dead)] ++ B)).drop (j * 3 + 3) = B := by
  rw [← hA, List.drop_append, List.drop_eq_nil_of_le (by omega), show A.length + 3 - A.length = 3 by omega]
  rfl
 rw [e1, e2, e3, e4]
 simp [entL, hereL, LV.c]
def turnT (s : List Entry) (k : ByteArray) (c : List Int) (more : List Dot) : List Entry :=
 let l := ordP (leftD (atE s k).live c ++ more)
 if l.length = 0 then s.take (place s k) ++ s.drop (place s k + 1) else s.set (place s k) ⟨(atE s k).key, l, (atE s k).dead⟩
set_option maxRecDepth 8000 in
set_option maxHeartbeats 8000000 in
theorem c_awset_turnT (s : List Entry) (k : ByteArray) (c : List Int) (more : List Dot) (hs : Fine s) (hc : c.length ≤ 1000000) (ht : there s k = true) (hne : (atE s k).live ≠ []) (hm : more.length ≤ 1000) (hb : (atE s k).live.length ≤ 900000) : Pure Tryz.prog 183 [.sl .fro 3 (entsAV s), .s k, .sl .fro 1 (intsAV c), .sl .fro 2 (dotsAV more)] (.tup [.sl .own 3 (entsAV (turnT s k c more)), .i .i64 0]) := by
 have hlt := there_lt ht
 have hlen := hs.1
 have hat : atE s k = s[place s k] := by simp [atE, ht, hlt]
 rw [hat] at hne hb
 obtain ⟨j, hj0⟩ : ∃ j, j = place s k := ⟨_, rfl⟩
 obtain ⟨T, hT⟩ : ∃ T, T = turnT s k c more := ⟨_, rfl⟩
 rw [← hT]
 unfold turnT at hT
 rw [hat] at hT
 have hfd := c_awset_findB (k := k) (hs := hs)
 rw [ht] at hfd
 simp only [← hj0] at hlt hne hb hT hfd
 refine proc_of (cx Tryz.prog 70 [0, 1, 3, 6, 8, 9, 10, 11, 12, 13, 22, 34, 46, 51, 59] [8, 9]) 66 [.tmp 8, .tmp 9] Tryz.func183 rfl rfl rfl rfl rfl rfl (Nat.le_refl _) rfl ?_
 refine AWp.g [0, 1, 3, 6] [6] ?_
 simp
 refine AWp.goX fun K hK => ?_
 refine SOps.cut 2 rfl fun K' hK' => ?_
 simp
 refine call_procE [] (fun q => some (1000000 + q.1.1, 1000000 + q.1.1)) (c_awset_own s j hs hlt hne) (by simp) (by simp) ?_
 simp
 intro b cap hcap
 have hpc := parkC_calm s j cap
 have hA : ∀ n, n < 1000000 → (n = 1000000 + b) = False := fun n hn => by simp; omega
 have hB : ∀ n, n < 1000000 → (1000000 + b = n) = False := fun n hn => by simp; omega
 refine ⟨by simpa using hpc.still, ?_⟩
 simp [hA, hB, hpc]
 refine hK' _ _ ?_
 clear hK'
 refine SOps.cut 1 rfl fun K2 hK2 => ?_
 simp [hA, hB, hpc]
 refine hK2 _ _ (SOps.nil ?_)
 refine hK [1, 3, 6, 10] [6, 1000000 + b] _ ?_
 clear hK hK2 K2 K
 simp [hA, hB, hpc]
 refine AWp.unown 10 100 rfl (by simp) (by intro h0; have := congrArg List.length h0; rw [rowsE_len, markL_len, List.length_nil] at this; omega) (by simp [hA, hB]) (by simp) fun cap2 hcap2 => ?_
 simp at hcap2
 obtain ⟨M, hM⟩ : ∃ M, M = markL s j b cap := ⟨_, rfl⟩
 have hMl : M.length = s.length := by rw [hM]; simp
 have hcc : ∀ l, Calm (boxR entL l (padE s cap2)) := fun l => boxR_calm entL_ok (Calm.replicate _ rfl)
 have hbl := boxR_len entL_ok M (padE s cap2)
 have e0 : (rowsE M).flatten ++ List.replicate ((cap2 - s.length) * 3) AV.any = boxR entL M (padE s cap2) := rfl
 have hgt := entLR_get M (padE s cap2) j (by omega)
 have hgt1 := (take3_1 hgt).1
 have hMj : M[j]'(by omega) = ⟨s[j].key, .at b s[j].live.length cap, s[j].dead⟩ := by simp only [hM]; exact markL_at b cap hlt
 rw [hMj] at hgt1
 rw [← hM]
 simp [hA, hB, hpc, hMl, e0, hcc]
 have g2 := hfd M (padE s cap2) cap2 (Calm.replicate _ rfl) hMl (fun i h => by simp only [hM]; exact markL_key s j b cap hlt i h)
 refine AWp.g [1, 3, 6, 10, 11, 12] [6, 100, 1000000 + b] ?_
 simp [hA, hB, hpc, hcc]
 refine call_proc [(0, 100)] none g2 (by simp) (by simp) ?_
 simp [hA, hB, hpc, hcc]
 refine ⟨by simpa using (hcc M).still, ?_⟩
 refine AWp.g [1, 3, 6, 10, 11, 12, 13] [6, 100, 1000000 + b] ?_
 simp [hA, hB, hpc, hcc]
 refine AWp.seq ?_
 refine AWp.g [1, 3, 6, 10, 11, 12, 13, 22] [6, 100, 1000000 + b] ?_
 simp [hA, hB, hpc, hcc]
 refine AWp.cT (by simp) ?_
 refine AWp.goXL fun K hK => ?_
 refine SOps.cut 5 rfl fun K' hK' => ?_
 simp [hA, hB, hpc, hcc, hbl, hgt1, hMl, LV.c]
 refine ⟨by omega, by omega, ?_⟩
 refine hK' _ _ ?_
 clear hK'
 refine SOps.claim 27 b 101 (by rfl) (by simp [hA, hB]) hpc (by simp) (by simp [hA, hB]) (by simp) ?_
 have hcapb : s[j].live.length ≤ cap := hcap
 have hcs : Calm [AV.sl .fro 1 (intsAV c)] := fun x hx => by simp at hx; subst hx; rfl
 obtain ⟨l, hl⟩ : ∃ l, l = s[j].live := ⟨_, rfl⟩
 have e1 : parkC s j cap = boxR dotC l (List.replicate ((cap - l.length) * 2) AV.any) := by rw [hl]; simp [parkC, hlt]; rfl
 rw [← hl] at hcapb hb hT
 have hdf := c_DeleteFuncB_Dot l (List.replicate ((cap - l.length) * 2) AV.any) cap 210 (fun d => decide (d.2 ≤ getC c d.1)) _ hcapb (Calm.replicate _ rfl) (by simp) hcs (fun n => c_awset_turn1 c hc n) (by omega)
 rw [show (l.filter fun d => !decide (d.2 ≤ getC c d.1)) = leftD l c from rfl] at hdf
 have hst := (boxR_calm (l := leftD l c) dotC_ok ((Calm.zeros (zero := [AV.i .i64 0, AV.i .i64 0]) (fun c hc => by simp at hc; subst hc; rfl) (l.length - (leftD l c).length)).append (Calm.replicate ((cap - l.length) * 2) (x := AV.any) rfl)))
 have hlf : (leftD l c).length ≤ l.length := List.length_filter_le _ _
 have hrl := rows_len dotC_ok (leftD l c)
 have hcl : Calm (boxR dotC l (List.replicate ((cap - l.length) * 2) AV.any)) := by rw [← e1]; exact hpc
 rw [← hl]
 simp [hA, hB, hpc, hcc, e1, hcl]
 refine SOps.cut 2 rfl fun K2 hK2 => ?_
 simp [hA, hB, hcc, hcl]
 refine call_proc [(0, 101), (1, 6)] none hdf (by simp) (by simp) ?_
 simp [hA, hB, hcc, hcl, hst]
 refine ⟨by simpa using hcl.still, by simpa using hst.still, hK2 _ _ ?_⟩
 clear hK2
 refine SOps.reown 29 101 cap (sz := 2) (dotsAV (leftD l c)) (zerosL [.i .i64 0, .i .i64 0] (l.length - (leftD l c).length) ++ List.replicate ((cap - l.length) * 2) AV.any) (by simp) (by simp) (by simp; rfl) ?_ (fun z hz => ?_) (dots_dat2 _) hst.freeL ?_
 ·have h5 : ((dotsAV (leftD l c)).flatten).length = (leftD l c).length * 2 := hrl
  simp only [List.length_append, zerosL_length, List.length_replicate, h5]
  simp; omega
 ·obtain ⟨x, _, rfl⟩ := List.mem_map.1 hz; rfl
 simp [hA, hB, hcc]
 refine SOps.cut 1 rfl fun K3 hK3 => ?_
 simp [hA, hB, hcc]
 refine hK3 _ _ (SOps.nil ?_)
 refine hK _ ?_
 clear hK3 K3 hK K K2 K'
 show AWp _ _ _ _
 refine AWp.cleanOf [1, 3, 10, 11, 12, 13] [100] ?_
 simp [hA, hB, hcc]
 show AWp _ _ _ _
 refine AWp.g [1, 10, 11, 12, 13] [100] ?_
 simp [hcc]
 refine ⟨by omega, ?_⟩
 refine call_pure (c_dots_Order (leftD l c ++ more) (by simp; omega)) (by simp [dotsAV]) ?_
 simp [hcc]
 refine ?_
 obtain ⟨D, hD⟩ : ∃ D, D = ordP (leftD l c ++ more) := ⟨_, rfl⟩
 have hDl : D.length ≤ 901000 := by rw [hD]; have := ordP_length (leftD l c ++ more); rw [List.length_append] at this; omega
 rw [← hD] at hT ⊢
 refine AWp.seq ?_
 refine AWp.block ?_
 refine AWp.step [1, 10, 11, 12, 13, 34] [100] [(1, .s k), (10, .bs 100 0 s.length cap2), (11, .i .i64 j), (12, .b true), (13, .sl .fro 2 (dotsAV D)), (34, .b (decide (D.length = 0)))] [(100, boxR entL M (padE s cap2))] ?_ ?_
 ·by_cases h0 : D.length = 0
  ·simp [hcc, h0]
  ·simp [hcc, h0]
 by_cases h0 : D.length = 0
 ·refine AWp.cT (by simp [h0]) ?_
  have hw1 : IntKind.i64.wrap ((j : Int) + 1) = (j : Int) + 1 := wrap64 (by omega) (by omega)
  have hrM : Rows 3 (rowsE M) := fun r hr => by
   obtain ⟨e, _, rfl⟩ := List.mem_map.1 hr
   exact ⟨rfl, entL_ok.calm e, by obtain ⟨k0, x, y⟩ := e; cases x <;> rfl⟩
  have hDel := c_DeleteB_Entry (rowsE M) (padE s cap2) j (j + 1) cap2 hrM (by omega) (by simp; omega) (Calm.replicate _ rfl) (by simp; omega) (by simp; omega) (by simp [padE, hMl])
  have hT2 : (rowsE M).take j ++ (rowsE M).drop (j + 1) = entsAV T := by
   have e1 : M.take j = (s.take j).map hereL := by rw [hM, markL_take, List.map_take]
   have e2 : M.drop (j + 1) = (s.drop (j + 1)).map hereL := by
    rw [hM]; unfold markL
    rw [List.drop_set_of_lt (by omega), List.map_drop]
   rw [hT]
   simp only [if_pos h0]
   unfold rowsE
   rw [← List.map_take, ← List.map_drop, e1, e2]
   simp [entsAV, entL_here, Function.comp_def]
  rw [hT2, rowsE_len, hMl, show j + 1 - j = 1 by omega, show boxF (rowsE M) (padE s cap2) = boxR entL M (padE s cap2) from rfl] at hDel
  obtain ⟨p2, hp2⟩ : ∃ p2, p2 = zerosL [AV.s ByteArray.empty, .sl .fro 2 [], .sl .fro 2 []] 1 ++ padE s cap2 := ⟨_, rfl⟩
  rw [← hp2] at hDel
  have hcp2 : Calm p2 := by rw [hp2]; exact (Calm.zeros (fun c hc => by simp at hc; rcases hc with rfl | rfl | rfl <;> rfl) 1).append (Calm.replicate _ rfl)
  have hTl : T.length = s.length - 1 := by
   have := congrArg List.length hT2
   simp [hMl] at this
   omega
  have hCT : Calm (boxF (entsAV T) p2) := boxF_calm (ents_rows T) hcp2
  refine AWp.goS [8, 9] [] fun K hK => ?_
  refine SOps.cut 5 rfl fun K' hK' => ?_
  simp [hcc, hw1]
  refine call_proc [(0, 100)] none hDel (by simp) (by simp) ?_
  simp [hcc, hCT]
  refine ⟨by simpa using (hcc M).still, by simpa using hCT.still, hK' _ _ ?_⟩
  clear hK'
  rw [← hTl]
  have hrl : (entsAV T).flatten.length = T.length * 3 := rows_len entC_ok T
  refine SOps.reown 45 100 cap2 (sz := 3) (entsAV T) p2 (by simp) (by simp) (by simp; rfl) ?_ (fun z hz => ?_) (ents_dat T) hCT.freeL ?_
  ·rw [List.length_append, hrl, hp2]; simp [padE, zerosL]; omega
  ·obtain ⟨x, _, rfl⟩ := List.mem_map.1 hz; rfl
  simp
  refine SOps.cut 2 rfl fun K3 hK3 => ?_
  simp
  refine hK3 _ _ (SOps.nil ?_)
  simp
  refine hK _ _ (AWp.ret ?_)
  simp
 ·refine AWp.cF (by simp [h0]) ?_
  refine AWp.step [1, 10, 11, 12, 13, 46] [100] [(1, .s k), (10, .bs 100 0 s.length cap2), (11, .i .i64 j), (12, .b true), (13, .sl .fro 2 (dotsAV D)), (46, .b false)] [(100, boxR entL M (padE s cap2))] ?_ ?_
  ·simp [hcc]
   simpa using h0
  refine AWp.cF (by simp [h0]) ?_
  refine AWp.g [1, 10, 11, 13, 51] [100] ?_
  simp [hcc]
  refine AWp.cT (by simp) ?_
  have hst2 := fun l => setL_live s j b cap hlt l (padE s cap2) _ rfl
  rw [← hM] at hst2
  have hT3 : T = s.set j ⟨s[j].key, D, s[j].dead⟩ := by rw [hT]; simp only [if_neg h0]
  have hccE : ∀ l, Calm (boxR entC l (padE s cap2)) := fun l => boxR_calm entC_ok (Calm.replicate _ rfl)
  refine AWp.step [10] [100] [(10, .bs 100 0 s.length cap2)] [(100, boxR entC T (padE s cap2))] ?_ ?_
  ·rw [hT3]
   simp [hcc, hbl, hMl, hst2, hccE]
   exact ⟨hlt, by omega⟩
  have hTl : T.length = s.length := by rw [hT3]; simp
  have hrl : ((entsAV T).flatten).length = T.length * 3 := rows_len entC_ok _
  rw [← hTl]
  refine AWp.reown 10 100 cap2 (sz := 3) (entsAV T) (padE s cap2) (by simp) (by simp) rfl ?_ (fun z hz => ?_) (ents_dat _) (hccE _).freeL ?_
  ·rw [List.length_append, hrl]; simp [padE]; omega
  ·obtain ⟨x, _, rfl⟩ := List.mem_map.1 hz; rfl
  simp
  refine AWp.g [8, 9] [100] ?_
  simp
  refine AWp.ret ?_
  simp
end Go.AM
namespace Go.AM
open Go.Proofs
set_option maxRecDepth 8000 in
set_option maxHeartbeats 4000000 in
theorem c_awset_own0 (s : List Entry) (hs : Fine s) : Pure Tryz.prog 208 [.sl .fro 3 (entsAV s)] (.sl .own 3 (entsAV s)) := by
 have hlen := hs.1
 refine proc_of (cx Tryz.prog 22 [0, 2, 3, 5, 6, 7, 8, 9] [2]) 21 [.tmp 2] Tryz.func208 rfl rfl rfl rfl rfl rfl (Nat.le_refl _) rfl ?_
 refine AWp.g [0] [] ?_
 simp
 refine AWp.g [0, 3] [] ?_
 simp
 refine AWp.seq ?_
 refine AWp.g [3, 6, 7, 8] [] ?_
 simp
 refine AWp.block (AWp.while (fun i : Nat => [(3, .sl .own 3 (entsAV (s.take i))), (6, .sl .fro 3 (entsAV s)), (7, .i .i64 s.length), (8, .i .i64 i)]) (fun i => []) (fun i => i ≤ s.length) (fun i => s.length - i) [3, 6, 7, 8] [] 0 (by simp) (by simp [entsAV]) ?_)
 intro i hi
 refine AWp.g [3, 6, 7, 8, 9] [] ?_
 simp
 refine AWp.seq ?_
 by_cases h2 : i < s.length
 ·refine AWp.cT (by simp [h2]) ?_
  refine AWp.skip ?_
  show AWp _ _ _ _
  refine AWp.seq ?_
  refine AWp.block ?_
  refine AWp.g [3, 5, 6, 7, 8] [5] ?_
  simp [h2]
  have hl := hs.2 _ (List.getElem_mem h2)
  refine AWp.g [3, 5, 6, 7, 8] [5] ?_
  simp
  refine call_pure (c_Clone_Dot (dotsAV s[i].live) (by simp; omega)) (by simp) ?_
  simp
  refine AWp.last [3, 6, 7, 8] [] [(3, .sl .own 3 (entsAV (s.take (i + 1)))), (6, .sl .fro 3 (entsAV s)), (7, .i .i64 s.length), (8, .i .i64 i)] [] ?_ ?_
  ·rw [ents_take s i h2]
   simp
   omega
  show AWp _ _ _ _
  refine AWp.gL [3, 6, 7, 8] [] ?_
  simp
  refine ⟨i + 1, by omega, by omega, ?_⟩
  simp
  exact wrap64 (by omega) (by omega)
 ·refine AWp.cF (by simp [h2]) ?_
  refine AWp.exit ?_
  show AWp _ _ _ _
  obtain rfl : i = s.length := by omega
  refine AWp.g [2] [] ?_
  simp
  refine AWp.ret ?_
  simp
def turnM (s : List Entry) (k : ByteArray) (more : List Dot) : List Entry :=
 if (ordP more).length = 0 then s else s.take (place s k) ++ ⟨k, ordP more, []⟩ :: s.drop (place s k)
set_option maxRecDepth 8000 in
theorem c_Insert_EntryN2 (k : ByteArray) (l : List Dot) : Pure Tryz.prog 204 [.sl .nl 3 [], .i .i64 0, .sl .fro 3 [[.s k, .sl .fro 2 (dotsAV l), .sl .fro 2 []]]] (.sl .own 3 [[.s k, .sl .fro 2 (dotsAV l), .sl .fro 2 []]]) := by
 refine proc_of (cx Tryz.prog 95 [0, 1, 2, 6, 7, 8, 9, 16, 22, 31, 68] [6]) 92 [.tmp 6] Tryz.func204 rfl rfl rfl rfl rfl rfl (Nat.le_refl _) rfl ?_
 refine AWp.g [0, 1, 2] [] ?_
 simp
 refine AWp.g [0, 1, 2] [] ?_
 simp
 refine AWp.g [0, 1, 2, 7] [] ?_
 simp
 refine AWp.seq ?_
 refine AWp.g [0, 1, 2, 7, 16] [] ?_
 simp
 refine AWp.cF (by simp) ?_
 refine AWp.skip ?_
 show AWp _ _ _ _
 refine AWp.g [0, 1, 2, 7, 8] [] ?_
 simp
 refine AWp.seq ?_
 refine AWp.g [0, 1, 2, 7, 8, 22] [] ?_
 simp
 refine AWp.cT (by simp) ?_
 refine AWp.g [6] [] ?_
 simp
 refine AWp.ret ?_
 simp
set_option maxRecDepth 8000 in
set_option maxHeartbeats 8000000 in
theorem c_awset_turnM (s : List Entry) (k : ByteArray) (c : List Int) (more : List Dot) (hs : Fine s) (hl : s.length < 4000) (ht : there s k = false) (hm : more.length ≤ 1000) : Pure Tryz.prog 183 [.sl .fro 3 (entsAV s), .s k, .sl .fro 1 (intsAV c), .sl .fro 2 (dotsAV more)] (.tup [.sl .own 3 (entsAV (turnM s k more)), .i .i64 0]) := by
 have hpl := place_le s k
 obtain ⟨L, hL⟩ : ∃ L, L = turnM s k more := ⟨_, rfl⟩
 rw [← hL]
 unfold turnM at hL
 have hfd := c_awset_findB (k := k) (hs := hs)
 rw [ht] at hfd
 obtain ⟨D, hD⟩ : ∃ D, D = ordP more := ⟨_, rfl⟩
 have hDl : D.length ≤ 1000 := by rw [hD]; have := ordP_length more; omega
 have hord := c_dots_Order more (by omega)
 rw [← hD] at hL hord
 refine proc_of (cx Tryz.prog 70 [0, 1, 3, 6, 8, 9, 10, 11, 12, 13, 22, 34, 46, 51, 59] [8, 9]) 66 [.tmp 8, .tmp 9] Tryz.func183 rfl rfl rfl rfl rfl rfl (Nat.le_refl _) rfl ?_
 refine AWp.g [0, 1, 3, 6] [6] ?_
 simp
 refine AWp.g [1, 3, 6, 10] [6] ?_
 simp
 refine call_p (c_awset_own0 s hs) ?_
 simp
 refine AWp.unown0 10 100 rfl (by simp) rfl (by simp) (fun h0 => ?_) fun cap hcap => ?_
 ·have h0 : s = [] := by simpa [entsAV] using h0
  subst h0
  simp
  have g1 := c_awset_find [] k fine_nil
  refine AWp.g [1, 3, 6, 10, 11, 12] [6] ?_
  simp [place_nil, there_nil]
  refine call_pure g1 (by simp [entsAV]) ?_
  simp [place_nil, there_nil]
  refine AWp.g [1, 3, 6, 10, 11, 12, 13] [6] ?_
  simp
  refine AWp.seq ?_
  refine AWp.g [1, 3, 6, 10, 11, 12, 13, 22] [6] ?_
  simp
  refine AWp.cF (by simp) ?_
  refine AWp.skip ?_
  show AWp _ _ _ _
  refine AWp.g [1, 10, 11, 12, 13] [] ?_
  simp
  refine ⟨by omega, ?_⟩
  refine call_pure hord (by simp) ?_
  simp
  refine ?_
  refine AWp.seq ?_
  refine AWp.block ?_
  refine AWp.step [1, 10, 11, 12, 13, 34] [] [(1, .s k), (10, .sl .nl 3 []), (11, .i .i64 0), (12, .b false), (13, .sl .fro 2 (dotsAV D)), (34, .b false)] [] ?_ ?_
  ·by_cases h1 : D = [] <;> simp [h1]
  refine AWp.cF (by simp) ?_
  refine AWp.step [1, 10, 11, 12, 13, 46] [] [(1, .s k), (10, .sl .nl 3 []), (11, .i .i64 0), (12, .b false), (13, .sl .fro 2 (dotsAV D)), (46, .b (decide (D.length = 0)))] [] ?_ ?_
  ·simp
  by_cases h0 : D.length = 0
  ·refine AWp.cT (by simp [h0]) ?_
   refine AWp.g [8, 9] [] ?_
   simp
   refine AWp.ret ?_
   first | (rw [hL, if_pos h0]; simp [entsAV]; done) | simp
  ·refine AWp.cF (by simp [h0]) ?_
   refine AWp.g [1, 10, 11, 13, 51] [] ?_
   simp
   refine AWp.cF (by simp) ?_
   refine AWp.g [1, 10, 11, 13, 59] [] ?_
   simp
   refine AWp.cF (by simp) ?_
   refine AWp.skip ?_
   show AWp _ _ _ _
   refine AWp.g [8, 9] [] ?_
   simp
   refine call_procK [] none (c_Insert_EntryN2 k D) (by simp) (by simp) ?_
   simp
   refine AWp.ret ?_
   rw [hL, if_neg h0]
   simp [entsAV, entC, dotsAV]
 ·simp at hcap
  have hcc : ∀ l, Calm (boxR entC l (padE s cap)) := fun l => boxR_calm entC_ok (Calm.replicate _ rfl)
  have hbl := boxR_len entC_ok s (padE s cap)
  have e0 : (entsAV s).flatten ++ List.replicate ((cap - s.length) * 3) AV.any = boxR entC s (padE s cap) := rfl
  simp [e0, hcc]
  have g2 := hfd (s.map hereL) (padE s cap) cap (Calm.replicate _ rfl) (by simp) (fun i h => by simp [hereL])
  rw [boxL_here] at g2
  refine AWp.g [1, 3, 6, 10, 11, 12] [100] ?_
  simp [hcc]
  refine call_proc [(0, 100)] none g2 (by simp) (by simp) ?_
  simp [hcc]
  refine ⟨by simpa using (hcc s).still, ?_⟩
  refine AWp.g [1, 3, 6, 10, 11, 12, 13] [100] ?_
  simp [hcc]
  refine AWp.seq ?_
  refine AWp.g [1, 3, 6, 10, 11, 12, 13, 22] [100] ?_
  simp [hcc]
  refine AWp.cF (by simp) ?_
  refine AWp.skip ?_
  show AWp _ _ _ _
  refine AWp.g [1, 10, 11, 12, 13] [100] ?_
  simp [hcc]
  refine ⟨by omega, ?_⟩
  refine call_pure hord (by simp) ?_
  simp [hcc]
  refine ?_
  refine AWp.seq ?_
  refine AWp.block ?_
  refine AWp.step [1, 10, 11, 12, 13, 34] [100] [(1, .s k), (10, .bs 100 0 s.length cap), (11, .i .i64 (place s k)), (12, .b false), (13, .sl .fro 2 (dotsAV D)), (34, .b false)] [(100, boxR entC s (padE s cap))] ?_ ?_
  ·by_cases h1 : D = [] <;> simp [hcc, h1]
  refine AWp.cF (by simp) ?_
  refine AWp.step [1, 10, 11, 12, 13, 46] [100] [(1, .s k), (10, .bs 100 0 s.length cap), (11, .i .i64 (place s k)), (12, .b false), (13, .sl .fro 2 (dotsAV D)), (46, .b (decide (D.length = 0)))] [(100, boxR entC s (padE s cap))] ?_ ?_
  ·simp [hcc]
  by_cases h0 : D.length = 0
  ·refine AWp.cT (by simp [h0]) ?_
   have hLs : L = s := by rw [hL, if_pos h0]
   have hrl : ((entsAV s).flatten).length = s.length * 3 := rows_len entC_ok _
   refine AWp.reown 10 100 cap (sz := 3) (entsAV s) (padE s cap) (by simp) (by simp) rfl ?_ (fun z hz => ?_) (ents_dat _) (hcc _).freeL ?_
   ·rw [List.length_append, hrl]; simp [padE]; omega
   ·obtain ⟨x, _, rfl⟩ := List.mem_map.1 hz; rfl
   simp
   rw [hLs]
   refine AWp.g [8, 9] [100] ?_
   simp
   refine AWp.ret ?_
   first | (rw [hL, if_pos h0]; simp [entsAV]; done) | simp
  ·refine AWp.cF (by simp [h0]) ?_
   refine AWp.g [1, 10, 11, 13, 51] [100] ?_
   simp [hcc]
   refine AWp.cF (by simp) ?_
   refine AWp.g [1, 10, 11, 13, 59] [100] ?_
   simp [hcc]
   refine AWp.cF (by simp; omega) ?_
   refine AWp.skip ?_
   show AWp _ _ _ _
   have hins := ents_ins s (place s k) ⟨k, D, []⟩
   have hRl : (s.map entC).length = s.length := by simp
   have hLe : L = s.take (place s k) ++ ⟨k, D, []⟩ :: s.drop (place s k) := by rw [hL, if_neg h0]
   refine AWp.goS [8, 9] [] fun K hK => ?_
   refine SOps.cut 6 rfl fun K' hK' => ?_
   simp [hcc]
   refine hK' _ _ ?_
   clear hK'
   refine SOps.unown 68 101 rfl (by simp) (by simp) rfl (by simp) fun c1 hc1 => ?_
   simp [hcc]
   obtain ⟨X, hX⟩ : ∃ X, X = AV.s k :: AV.sl .fro 2 (dotsAV D) :: AV.sl .fro 2 [] :: List.replicate ((c1 - 1) * 3) AV.any := ⟨_, rfl⟩
   have hXc : Calm X := by rw [hX]; exact (entC_ok.calm ⟨k, D, []⟩).append (Calm.replicate _ rfl)
   have hXt : List.take 3 X = entC ⟨k, D, []⟩ := by rw [hX]; rfl
   have hXl : 3 ≤ X.length := by rw [hX]; simp
   rw [← hX]
   refine SOps.cut 1 rfl fun K2 hK2 => ?_
   simp [hcc]
   by_cases hroom : s.length < cap
   ·have hIns := c_Insert1_Entry (s.map entC) (entC ⟨k, D, []⟩) X (padE s cap) (place s k) cap c1 (ents_rows s) (ent_rows _) hXc hXt hXl (by simpa using hpl) (Calm.replicate _ rfl) (by simpa using hroom) (by simp; omega) (by simp [padE])
    have hLl : L.length = s.length + 1 := by rw [hLe]; simp; omega
    rw [hins, hRl, boxF_ents, ← hLe] at hIns
    obtain ⟨p2, hp2⟩ : ∃ p2, p2 = (padE s cap).drop 3 := ⟨_, rfl⟩
    rw [← hp2] at hIns
    have hcp : Calm p2 := by rw [hp2]; exact (Calm.replicate _ rfl).drop _
    have hC2 : Calm (boxF (entsAV L) p2) := boxF_calm (ents_rows L) hcp
    refine call_proc [(0, 100), (1, 101)] none hIns (by simp) (by simp) ?_
    simp [hcc, hXc, hC2]
    refine ⟨⟨by simpa using (hcc s).still, by simpa using hXc.still⟩, ⟨by simpa using hC2.still, by simpa using hXc.still⟩, hK2 _ _ ?_⟩
    have hrl : (entsAV L).flatten.length = L.length * 3 := rows_len entC_ok L
    rw [← hLl]
    refine SOps.reown 69 100 cap (sz := 3) (entsAV L) p2 (by simp) (by simp) (by simp; rfl) ?_ (fun z hz => ?_) (ents_dat L) hC2.freeL ?_
    ·rw [List.length_append, hrl, hp2]; simp [padE]; omega
    ·obtain ⟨x, _, rfl⟩ := List.mem_map.1 hz; rfl
    simp [hXc]
    refine SOps.cut 2 rfl fun K3 hK3 => ?_
    simp [hXc]
    refine hK3 _ _ (SOps.nil ?_)
    simp
    refine hK _ _ (AWp.ret ?_)
    simp
   ·have hcl : cap = s.length := by omega
    subst hcl
    have hIns := c_Insert2_Entry (s.map entC) (entC ⟨k, D, []⟩) X (padE s s.length) (place s k) c1 (ents_rows s) (ent_rows _) hXc hXt hXl (by simpa using hpl) (Calm.replicate _ rfl) (by simp; omega) (by simp [padE])
    rw [hins, hRl, boxF_ents, ← hLe] at hIns
    refine call_proc [(0, 100), (1, 101)] none hIns (by simp) (by simp) ?_
    simp [hcc, hXc]
    refine ⟨⟨by simpa using (hcc s).still, by simpa using hXc.still⟩, hK2 _ _ ?_⟩
    refine SOps.cut 2 rfl fun K3 hK3 => ?_
    simp [hXc]
    refine hK3 _ _ (SOps.nil ?_)
    simp
    refine hK _ _ (AWp.ret ?_)
    simp
end Go.AM
namespace Go.AM
theorem entOkA_iff (p : ByteArray) (e : Entry) : entOkA p e = true ↔ entOk p e = true ∧ e.live ≠ [] ∧ e.dead = [] := by
 simp only [entOkA, entOk, Bool.and_eq_true, Bool.not_eq_true', decide_eq_false_iff_not]
 constructor
 ·rintro ⟨⟨⟨⟨h1, h2⟩, h3⟩, h4⟩, h5⟩
  have h6 : e.dead = [] := List.length_eq_zero_iff.1 (by omega)
  exact ⟨⟨⟨⟨⟨h1, h2⟩, by omega⟩, h5⟩, by rw [h6]; rfl⟩, fun h => h3 (by rw [h]; rfl), h6⟩
 ·rintro ⟨⟨⟨⟨⟨h1, h2⟩, h3⟩, h5⟩, _⟩, h6, h7⟩
  refine ⟨⟨⟨⟨h1, h2⟩, fun h => h6 (List.length_eq_zero_iff.1 (by omega))⟩, by rw [h7]; simp⟩, h5⟩
theorem setOkA_iff (s : List Entry) : setOkA s = true ↔ setOk s = true ∧ ∀ e ∈ s, e.live ≠ [] ∧ e.dead = [] := by
 simp only [setOkA, setOk, Bool.and_eq_true, List.all_eq_true]
 constructor
 ·rintro ⟨h1, h2⟩
  have h3 : ∀ i (hi : i < s.length), entOkA (prevK s i) s[i] = true := fun i hi => by
   have := h2 i (by simpa using hi)
   simpa [entAtA, hi] using this
  refine ⟨⟨h1, fun i hi => ?_⟩, fun e he => ?_⟩
  ·have hi : i < s.length := by simpa using hi
   simpa [entAt, hi] using ((entOkA_iff _ _).1 (h3 i hi)).1
  ·obtain ⟨i, hi, rfl⟩ := List.mem_iff_getElem.1 he
   exact ((entOkA_iff _ _).1 (h3 i hi)).2
 ·rintro ⟨⟨h1, h2⟩, h3⟩
  refine ⟨h1, fun i hi => ?_⟩
  have h4 := h2 i hi
  have hi : i < s.length := by simpa using hi
  simp only [entAtA, entAt, List.getElem?_eq_getElem hi] at h4 ⊢
  exact (entOkA_iff _ _).2 ⟨h4, h3 _ (List.getElem_mem hi)⟩
def turnA (s : List Entry) (k : ByteArray) (c : List Int) (more : List Dot) : List Entry := if there s k then turnT s k c more else turnM s k more
def addA (s : List Entry) (k : ByteArray) (d : Dot) (c : List Int) : List Entry := putE s ⟨k, putD (leftD (getE s k).live c) d, []⟩
def dropA (s : List Entry) (k : ByteArray) (c : List Int) : List Entry := putE s ⟨k, leftD (getE s k).live c, []⟩
end Go.AM
namespace Go.AM
open Go.Proofs
theorem setOkA_live {s : List Entry} (h : setOkA s = true) {k : ByteArray} (ht : there s k = true) : (atE s k).live ≠ [] := by
 have hlt := there_lt ht
 have hat : atE s k = s[place s k] := by simp [atE, ht, hlt]
 rw [hat]
 exact (((setOkA_iff s).1 h).2 _ (List.getElem_mem hlt)).1
theorem c_awset_turn (s : List Entry) (k : ByteArray) (c : List Int) (more : List Dot) (hs : Fine s) (hl : s.length < 4000) (hc : c.length ≤ 1000000) (ho : setOkA s = true) (hm : more.length ≤ 1000) (hb : (atE s k).live.length ≤ 900000) :
  Pure Tryz.prog 183 [.sl .fro 3 (entsAV s), .s k, .sl .fro 1 (intsAV c), .sl .fro 2 (dotsAV more)] (.tup [.sl .own 3 (entsAV (turnA s k c more)), .i .i64 0]) := by
 unfold turnA
 split
 ·rename_i ht; exact c_awset_turnT s k c more hs hc ht (setOkA_live ho ht) hm hb
 ·rename_i ht; exact c_awset_turnM s k c more hs hl (by simpa using ht) hm
def mayA (s : List Entry) (k : ByteArray) (d : Dot) (c : List Int) : Bool := setOkA s && keyOk k && mayD d && clockOk c
def mayB (s : List Entry) (k : ByteArray) (c : List Int) : Bool := setOkA s && keyOk k && clockOk c
set_option maxRecDepth 8000 in
set_option maxHeartbeats 2000000 in
theorem c_awset_Add (s : List Entry) (k : ByteArray) (d : Dot) (c : List Int) (hs : Fine s) (hl : s.length < 4000) (hc : c.length ≤ 1000000) (hb : (atE s k).live.length ≤ 900000) : Pure Tryz.prog 127 [.sl .fro 3 (entsAV s), .s k, .agg (dotC d), .sl .fro 1 (intsAV c)] (.tup [.sl .own 3 (entsAV (if mayA s k d c then turnA s k c [d] else [])), .i .i64 (if mayA s k d c then 0 else 1)]) := by
 refine proc_of (cx Tryz.prog 36 [0, 1, 3, 6, 8, 9, 27] [8, 9]) 32 [.tmp 8, .tmp 9] Tryz.func127 rfl rfl rfl rfl rfl rfl (Nat.le_refl _) rfl ?_
 refine AWp.g [0, 1, 3, 6] [6] ?_
 simp [dotC]
 refine AWp.seq ?_
 refine AWp.step [0, 1, 3, 6, 27] [6] [(0, .sl .fro 3 (entsAV s)), (1, .s k), (3, .sl .fro 1 (intsAV c)), (6, .ptr 6 0), (27, .b (!mayA s k d c))] [(6, [.i .i64 d.1, .i .i64 d.2])] ?_ ?_
 ·have g1 := c_awset_Check s hs
  have g2 := c_awset_rightKey k
  have g3 := c_dots_May d
  have g4 := c100 c (by omega)
  simp
  refine call_pure g1 (by simp) ?_
  cases q1 : setOkA s
  ·simp [mayA, q1]
  simp
  refine call_pure g2 (by simp) ?_
  cases q2 : keyOk k
  ·simp [mayA, q2]
  simp
  refine call_pure g3 (by simp [dotC]) ?_
  cases q3 : mayD d
  ·simp [mayA, q3]
  simp
  refine call_pure g4 (by simp) ?_
  cases q4 : clockOk c <;> simp [mayA, q1, q2, q3, q4]
 cases hg : mayA s k d c
 ·refine AWp.cT (by simp) ?_
  refine AWp.g [8, 9] [] ?_
  simp
  refine AWp.ret ?_
  simp [entsAV]
 ·refine AWp.cF (by simp) ?_
  refine AWp.skip ?_
  show AWp _ _ _ _
  have ho : setOkA s = true := by
   simp [mayA] at hg
   exact hg.1.1.1
  refine AWp.g [8, 9] [] ?_
  simp
  refine call_pure (c_awset_turn s k c [d] hs hl hc ho (by simp) hb) (by simp [dotsAV, dotC]) ?_
  simp
  refine AWp.ret ?_
  simp
theorem aw_1 : turnA [] kK [] [(1, 1)] = [wkA] := by
 unfold turnA turnM
 simp only [there_nil, place_nil, ordP_one]
 rfl
end Go.AM
namespace Go.AM
open Go.Proofs
def addAw (s : List Entry) (k : ByteArray) (d : Dot) (c : List Int) : List Entry := if mayA s k d c then turnA s k c [d] else []
def errAw (s : List Entry) (k : ByteArray) (d : Dot) (c : List Int) : Int := if mayA s k d c then 0 else 1
set_option maxRecDepth 8000 in
set_option maxHeartbeats 4000000 in
theorem c_doer_addA (k : Kin) (w : Rw) (e : Ev) (x : Eff) (m : Nat) (h : x.kind = 1) (hx : x.thing = m) (hm : m < k.sets.length) (hm2 : m < w.sets.length) (hk : k.sets[m] = false) (hs : Fine w.sets[m]) (hl : w.sets[m].length < 4000) (hc : e.past.length ≤ 1000000) (hb : (atE w.sets[m] x.key).live.length ≤ 900000) : Proc Tryz.prog 1 52 [.ptr 0 0, .agg (effC x)] [(0, dC k w e)] (.i .i64 (errAw w.sets[m] x.key e.dot e.past)) [(0, dC k (if errAw w.sets[m] x.key e.dot e.past = 0 then setS w m (addAw w.sets[m] x.key e.dot e.past) else w) e)] := by
 have ga := (c_awset_Add w.sets[m] x.key e.dot e.past hs hl hc hb).fro
 simp [dotC] at ga
 have gs := c_doer_set k w e m (addAw w.sets[m] x.key e.dot e.past) (errAw w.sets[m] x.key e.dot e.past) hm2
 refine proc_of (cxb Tryz.prog 77 1 [0, 3, 4, 5, 6, 9, 36, 64] [] [4]) 75 [.tmp 4] Tryz.func52 rfl rfl rfl rfl rfl rfl (Nat.le_refl _) rfl ?_
 refine AWp.g [0, 3] [0, 4] ?_
 simp [effC, hx, dC]
 refine AWp.seq ?_
 refine AWp.g [0, 3, 9] [0, 4] ?_
 simp [dC]
 refine AWp.cF (by simp [h]) ?_
 refine AWp.skip ?_
 show AWp _ _ _ _
 refine AWp.g [0, 3] [0, 4] ?_
 simp [dC]
 show AWp _ _ _ _
 refine AWp.gD 10 (fun _ => .any) [0, 3, 6] [0, 4] mix (by kernel_rfl) ?_
 simp [hm2, dC]
 refine AWp.seq ?_
 refine AWp.block ?_
 refine AWp.stepD 11 (fun _ => .any) [0, 3, 6, 36] [0, 4] [(0, .ptr 0 0), (3, .ptr 4 0), (6, .sl .fro 3 (entsAV w.sets[m])), (36, .b true)] [(0, dC k w e), (4, [.i .i64 x.kind, .i .i64 m, .s x.key, .i .i64 x.num, .i .i64 x.dest, .s x.word])] mix (by kernel_rfl) ?_ ?_
 ·simp [dC, hm, hk]
 refine AWp.cT (by simp) ?_
 refine AWp.lastT (.take 0 (.take 1 (.take 3 (.take 4 (.take 5 (.take 6 (.take 8 (.take 9 (.take 10 (.take 11 (.alt 2 (.alt 7 (.alt 12 (.alt 13 (.take 14 (.take 15 (.take 16 (.take 17 (.take 18 .fin))))) .stop) .stop) (.alt 12 (.alt 7 (.alt 13 (.take 14 (.take 15 (.take 16 (.take 17 (.take 18 .fin))))) .stop) .stop) .stop)) (.alt 7 (.alt 2 (.alt 12 (.alt 13 (.take 14 (.take 15 (.take 16 (.take 17 (.take 18 .fin))))) .stop) .stop) (.alt 12 (.alt 2 (.alt 13 (.take 14 (.take 15 (.take 16 (.take 17 (.take 18 .fin))))) .stop) .stop) .stop)) (.alt 12 (.alt 2 (.alt 7 (.alt 13 (.take 14 (.take 15 (.take 16 (.take 17 (.take 18 .fin))))) .stop) .stop) (.alt 7 (.alt 2 (.alt 13 (.take 14 (.take 15 (.take 16 (.take 17 (.take 18 .fin))))) .stop) .stop) .stop)) .stop))))))))))))) [0, 3, 5, 6] [0, 4] [(0, .ptr 0 0), (3, .ptr 4 0), (5, .i .i64 (errAw w.sets[m] x.key e.dot e.past)), (6, .sl .fro 3 (entsAV (addAw w.sets[m] x.key e.dot e.past)))] [(0, dC k w e), (4, [.i .i64 x.kind, .i .i64 m, .s x.key, .i .i64 x.num, .i .i64 x.dest, .s x.word])] mix (by kernel_rfl) ?_ ?_
 ·repeat' (first | (refine atree.t ?_; (simp [dC]; (first | (refine call_pure ga (by simp) ?_; simp) | skip); (first | with_reducible refine kni ?_ | refine ⟨by omega, ?_⟩ | refine ⟨by omega, by omega, ?_⟩))) | (refine atree.a ?_; (simp [dC]; (first | (refine call_pure ga (by simp) ?_; simp) | skip); (first | with_reducible refine kni ?_ | refine ⟨by omega, ?_⟩ | refine ⟨by omega, by omega, ?_⟩))) | (refine atree.b ?_ ?_ <;> try (simp [dC]; (first | (refine call_pure ga (by simp) ?_; simp) | skip); (first | with_reducible refine kni ?_ | refine ⟨by omega, ?_⟩ | refine ⟨by omega, by omega, ?_⟩))))
  all_goals (refine atree.f ?_; simp [dC, addAw, errAw])
 show AWp _ _ _ _
 refine AWp.step [4] [0, 4] [(4, .i .i64 (errAw w.sets[m] x.key e.dot e.past))] [(0, dC k (if errAw w.sets[m] x.key e.dot e.past = 0 then setS w m (addAw w.sets[m] x.key e.dot e.past) else w) e), (4, [.i .i64 x.kind, .i .i64 m, .s x.key, .i .i64 x.num, .i .i64 x.dest, .s x.word])] ?_ ?_
 ·simp [dC]
  simp [dC] at gs
  refine call_proc [(0, 0)] none gs (by simp) (by simp) ?_
  simp
 refine AWp.ret ?_
 simp [dC]
end Go.AM
namespace Go.AM
open Go.Proofs Go.Shelf Go.RowKit Go.Lib
theorem pure_len64 {P : Program} {ρ : Ren} (L : Lays.n129 P ρ) (x : Int) (h0 : 0 ≤ x) (h1 : x ≤ 18446744073709551615) : Pure P (ρ.f 129) [.i .u64 x] (.i .i64 (Lib.bitLen x.toNat)) := by
 refine pure_int ⟨_, _, L.f129, rfl, rfl⟩ fun w E vs hl hv => ?_
 have e0 := hv 0 _ rfl
 have e2 : vs.getD 0 undef = .int .u64 x := by
  generalize vs.getD 0 undef = v at e0
  cases e0; rfl
 have hsz : vs.size = 1 := hl.symm
 have hvs : vs = #[.int .u64 x] := by
  apply Array.ext
  ·rw [hsz]; rfl
  ·intro j hj hj2
   rw [hsz] at hj
   match j, hj with
   | 0, _ => rw [Array.getD_eq_getD_getElem?, Array.getElem?_eq_getElem (by omega)] at e2; exact e2
 rw [hvs]
 exact Any.bits_Len64 L x w h0 h1
end Go.AM
namespace Go.AM
open Go.Proofs
def Tryz.len64_ren : Go.Shelf.Ren := ⟨fun | 129 => 196 | n => n, fun | 3 => 3 | 4 => 4 | 5 => 5 | 9 => 9 | 46 => 209 | 53 => 181 | n => n, fun | n => n⟩
theorem Tryz.len64 : Go.Proofs.Lays.n129 Tryz.prog Tryz.len64_ren := {
 mixed := by kernel_rfl,
 f129 := Tryz.func196.trans (congrArg some (by kernel_rfl)),
 t3 := Tryz.underlying3, a3 := Tryz.isAgg3, z3 := Tryz.sizeOf3, v3 := Tryz.zeroValue3,
 t4 := Tryz.underlying4, a4 := Tryz.isAgg4, z4 := Tryz.sizeOf4, v4 := Tryz.zeroValue4,
 t5 := Tryz.underlying5, a5 := Tryz.isAgg5, z5 := Tryz.sizeOf5, v5 := Tryz.zeroValue5,
 t9 := Tryz.underlying9, a9 := Tryz.isAgg9, z9 := Tryz.sizeOf9, v9 := Tryz.zeroValue9,
 t46 := Tryz.underlying209, a46 := Tryz.isAgg209, z46 := Tryz.sizeOf209, v46 := Tryz.zeroValue209,
 t53 := Tryz.underlying181, a53 := Tryz.isAgg181, z53 := Tryz.sizeOf181, v53 := Tryz.zeroValue181 }
def digsL (u : Nat) : List Int := if h : u = 0 then [] else digsL (u / 256) ++ [((u % 256 : Nat) : Int)]
termination_by u
decreasing_by omega
theorem digsL_zero : digsL 0 = [] := by rw [digsL]; simp
theorem digsL_pos {u : Nat} (h : u ≠ 0) : digsL u = digsL (u / 256) ++ [((u % 256 : Nat) : Int)] := by rw [digsL, dif_neg h]
theorem digsL_len (u : Nat) (hu : u < 18446744073709551616) : (digsL u).length = (Lib.bitLen u + 7) / 8 := by
 induction u using Nat.strongRecOn with
 | _ u ih =>
  by_cases h : u = 0
  ·subst h; rw [digsL_zero]; rfl
  ·rw [digsL_pos h, List.length_append, ih (u / 256) (by omega) (by omega), List.length_singleton]
   by_cases h2 : u < 256
   ·have h3 := Lib.bitLen_le8 ⟨u, h2⟩
    have h4 := Lib.bitLen_half u h (by omega)
    have hz : Lib.bitLen (u / 256) = 0 := by rw [Nat.div_eq_of_lt h2]; rfl
    simp only at h3
    omega
   ·have h3 := Lib.bitLen_shift8 u (by omega) hu
    omega
def numL (u : Nat) : List Int := ((digsL u).length : Int) :: digsL u
theorem digsL_lt {u k : Nat} (h : u < 256 ^ k) : (digsL u).length ≤ k := by
 induction k generalizing u with
 | zero =>
  have : u = 0 := by omega
  subst this
  rw [digsL_zero]
  simp
 | succ k ih =>
  by_cases h0 : u = 0
  ·subst h0; rw [digsL_zero]; simp
  ·rw [digsL_pos h0, List.length_append, List.length_singleton]
   have := ih (u := u / 256) (by rw [Nat.pow_succ] at h; omega)
   omega
theorem numL_len {u : Nat} (h : u < 18446744073709551616) : (numL u).length ≤ 9 := by
 have := digsL_lt (u := u) (k := 8) (by omega)
 simp [numL]; omega
theorem wrapU {x : Int} (h1 : 0 ≤ x) (h2 : x < 18446744073709551616) : IntKind.u64.wrap x = x := by
 unfold IntKind.wrap
 simp [IntKind.bits, IntKind.signed]
 omega
theorem wrap8 (x : Int) : IntKind.u8.wrap x = x % 256 := by
 unfold IntKind.wrap
 simp [IntKind.bits, IntKind.signed]
theorem bytesAV_set (l : List Int) (i : Nat) (x : Int) : (bytesAV l).set i [.i .u8 x] = bytesAV (l.set i x) := by unfold bytesAV; rw [List.map_set]
theorem bytesAV_zeros (n : Nat) : List.replicate n [AV.i .u8 0] = bytesAV (List.replicate n 0) := by simp [bytesAV]
structure NumAt (u i v : Nat) (t : List Int) : Prop where
 cut : digsL v ++ t = digsL u
 len : (digsL v).length = i
 le : v ≤ u
theorem NumAt.step {u i v : Nat} {t : List Int} (h : NumAt u (i + 1) v t) : NumAt u i (v / 256) (((v % 256 : Nat) : Int) :: t) := by
 have h0 : v ≠ 0 := by rintro rfl; have := h.len; rw [digsL_zero] at this; simp at this
 have h1 := h.len
 have h2 := h.cut
 rw [digsL_pos h0] at h1 h2
 refine ⟨by rw [← h2, List.append_assoc]; rfl, by simpa using h1, by have := h.le; omega⟩
def numRow (n i : Nat) (t : List Int) : List Int := (n : Int) :: (List.replicate i 0 ++ t)
@[simp] theorem numRow_len (n i : Nat) (t : List Int) : (numRow n i t).length = i + t.length + 1 := by simp [numRow]
theorem numRow_set (n i : Nat) (t : List Int) (x : Int) : (numRow n (i + 1) t).set (i + 1) x = numRow n i (x :: t) := by
 unfold numRow
 rw [List.set_cons_succ, List.replicate_succ', List.append_assoc, List.set_append_right _ _ (by simp)]
 simp
set_option maxRecDepth 8000 in
set_option maxHeartbeats 1000000 in
theorem c_wire_Num (u : Nat) (hu : u < 18446744073709551616) : Pure Tryz.prog 155 [.i .u64 u] (.sl .own 1 (bytesAV (numL u))) := by
 have hl8 := numL_len hu
 simp [numL] at hl8
 have hlen := digsL_len u hu
 have gl := pure_len64 Tryz.len64 (u : Int) (by omega) (by omega)
 simp at gl
 refine proc_of (cx Tryz.prog 30 [0, 2, 3, 4, 5, 19] [2]) 29 [.tmp 2] Tryz.func155 rfl rfl rfl rfl rfl rfl (Nat.le_refl _) rfl ?_
 refine AWp.g [0] [] ?_
 simp
 refine AWp.step [0, 3] [] [(0, .i .u64 u), (3, .i .i64 (digsL u).length)] [] ?_ ?_
 ·simp
  refine call_pure gl (by simp) ?_
  have w1 : IntKind.i64.wrap ((Lib.bitLen u : Int) + 7) = (Lib.bitLen u : Int) + 7 := wrap64 (by omega) (by omega)
  have w2 : IntKind.i64.wrap (((Lib.bitLen u : Int) + 7).tdiv 8) = (digsL u).length := by rw [Int.tdiv_eq_ediv_of_nonneg (by omega), wrap64 (by omega) (by omega)]; omega
  simp [w1, w2]
 have w3 : IntKind.i64.wrap (((digsL u).length : Int) + 1) = ((digsL u).length + 1 : Nat) := by rw [wrap64 (by omega) (by omega)]; omega
 refine AWp.step [0, 3, 4] [] [(0, .i .u64 u), (3, .i .i64 (digsL u).length), (4, .sl .own 1 (bytesAV (List.replicate ((digsL u).length + 1) 0)))] [] ?_ ?_
 ·simp [w3]
  rw [bytesAV_zeros]
  simp
  omega
 have w4 : IntKind.u8.wrap ((digsL u).length : Int) = (digsL u).length := by rw [wrap8]; omega
 have hs := bytesAV_set (List.replicate ((digsL u).length + 1) 0) 0 ((digsL u).length : Int)
 have e0 : (List.replicate ((digsL u).length + 1) (0 : Int)).set 0 ((digsL u).length : Int) = numRow (digsL u).length (digsL u).length [] := by simp [numRow, List.replicate_succ]
 rw [e0] at hs
 refine AWp.step [0, 3, 4] [] [(0, .i .u64 u), (3, .i .i64 (digsL u).length), (4, .sl .own 1 (bytesAV (numRow (digsL u).length (digsL u).length [])))] [] ?_ ?_
 ·simp [w4, hs]
 refine AWp.seq ?_
 refine AWp.g [0, 4, 5] [] ?_
 simp
 refine AWp.block (AWp.while (fun p : Nat × Nat × List Int => [(0, .i .u64 p.2.1), (4, .sl .own 1 (bytesAV (numRow (digsL u).length p.1 p.2.2))), (5, .i .i64 p.1)]) (fun p => []) (fun p => NumAt u p.1 p.2.1 p.2.2) (fun p => p.1) [0, 4, 5] [] ((digsL u).length, u, []) (by exact ⟨List.append_nil _, rfl, Nat.le_refl _⟩) (by simp) ?_)
 rintro ⟨i, v, t⟩ hN
 dsimp only at hN
 try dsimp only
 have hil : i ≤ (digsL u).length := by rw [← hN.cut, List.length_append, hN.len]; omega
 have hvu := hN.le
 refine AWp.seq ?_
 refine AWp.g [0, 4, 5, 19] [] ?_
 simp
 by_cases h : 0 < i
 ·refine AWp.cT (by simp [h]) ?_
  refine AWp.skip ?_
  show AWp _ _ _ _
  refine AWp.seq ?_
  refine AWp.block ?_
  obtain ⟨j, hj⟩ : ∃ j, i = j + 1 := ⟨i - 1, by omega⟩
  rw [hj] at hN
  have w5 : IntKind.u8.wrap (v : Int) = ((v % 256 : Nat) : Int) := by rw [wrap8]; omega
  have hs := bytesAV_set (numRow (digsL u).length (j + 1) t) (j + 1) ((v % 256 : Nat) : Int)
  rw [numRow_set] at hs
  have w6 : (v : Int).fdiv (2 ^ min 8 IntKind.u64.bits) = ((v / 256 : Nat) : Int) := by
   rw [show ((2 : Int) ^ min 8 IntKind.u64.bits) = 256 by decide, Int.fdiv_eq_ediv_of_nonneg _ (by omega)]
   omega
  have hg := bytesAV_get (numRow (digsL u).length (j + 1) t) (j + 1) (by simp; omega)
  refine AWp.step [0, 4, 5] [] [(0, .i .u64 v), (4, .sl .own 1 (bytesAV (numRow (digsL u).length j (((v % 256 : Nat) : Int) :: t)))), (5, .i .i64 i)] [] ?_ ?_
  ·simp at hs
   simp [hj, w5, hs, hg]
   omega
  refine AWp.last [0, 4, 5] [] [(0, .i .u64 (v / 256 : Nat)), (4, .sl .own 1 (bytesAV (numRow (digsL u).length j (((v % 256 : Nat) : Int) :: t)))), (5, .i .i64 i)] [] ?_ ?_
  ·simp [hj, w6]
  show AWp _ _ _ _
  refine AWp.gL [0, 4, 5] [] ?_
  simp
  refine ⟨(j, v / 256, ((v % 256 : Nat) : Int) :: t), hN.step, by simp only; omega, ?_⟩
  have w7 : IntKind.i64.wrap ((i : Int) - 1) = j := by rw [wrap64 (by omega) (by omega)]; omega
  simp [w7]
 ·refine AWp.cF (by simp [h]) ?_
  refine AWp.exit ?_
  show AWp _ _ _ _
  obtain rfl : i = 0 := by omega
  have e9 : numRow (digsL u).length 0 t = numL u := by
   have h1 := hN.cut
   rw [List.length_eq_zero_iff.1 hN.len, List.nil_append] at h1
   simp [numRow, numL, h1]
  rw [e9]
  refine AWp.g [2] [] ?_
  simp
  refine AWp.ret ?_
  simp
end Go.AM
namespace Go.AM
open Go.Proofs
def bsAV (l : List (List Int)) : List (List AV) := l.map fun x => [.sl .fro 1 (bytesAV x)]
@[simp] theorem bsAV_length (l : List (List Int)) : (bsAV l).length = l.length := by simp [bsAV]
@[simp] theorem bsAV_getElem (l : List (List Int)) (i : Nat) (h : i < (bsAV l).length) : (bsAV l)[i] = [.sl .fro 1 (bytesAV (l[i]'(by simpa using h)))] := by simp [bsAV]
@[simp] theorem bsAV_one (x : List Int) : bsAV [x] = [[.sl .fro 1 (bytesAV x)]] := rfl
theorem bsAV_append (a b : List (List Int)) : bsAV (a ++ b) = bsAV a ++ bsAV b := by simp [bsAV]
theorem bytesAV_append (a b : List Int) : bytesAV (a ++ b) = bytesAV a ++ bytesAV b := by simp [bytesAV]
def textL (l : List Int) : List Int := numL l.length ++ l
def packTo (l : List (List Int)) (i : Nat) : List Int := numL l.length ++ (l.take i).flatMap textL
def packL (l : List (List Int)) : List Int := numL l.length ++ l.flatMap textL
theorem packTo_all (l : List (List Int)) : packTo l l.length = packL l := by simp [packTo, packL]
theorem packTo_succ (l : List (List Int)) (i : Nat) (h : i < l.length) : packTo l (i + 1) = packTo l i ++ textL l[i] := by
 unfold packTo
 rw [List.take_succ_eq_append_getElem h, List.flatMap_append, ← List.append_assoc]
 simp
theorem packTo_le (l : List (List Int)) (i : Nat) : (packTo l i).length ≤ (packL l).length := by
 have : (l.flatMap textL) = (l.take i).flatMap textL ++ (l.drop i).flatMap textL := by rw [← List.flatMap_append, List.take_append_drop]
 unfold packTo packL
 rw [this]
 simp
theorem packL_mem {l : List (List Int)} {x : List Int} (h : x ∈ l) : x.length ≤ (packL l).length := by
 obtain ⟨i, hi, rfl⟩ := List.mem_iff_getElem.1 h
 have := packTo_le l (i + 1)
 rw [packTo_succ l i hi, List.length_append] at this
 unfold textL at this
 rw [List.length_append] at this
 omega
theorem packL_count (l : List (List Int)) : l.length ≤ (packL l).length := by
 have key : ∀ l : List (List Int), l.length ≤ (l.flatMap textL).length := fun l => by
  induction l with
  | nil => simp
  | cons x l ih =>
   have : 1 ≤ (textL x).length := by simp [textL, numL]
   rw [List.flatMap_cons, List.length_append, List.length_cons]
   omega
 have := key l
 unfold packL
 rw [List.length_append]
 omega
set_option maxRecDepth 8000 in
theorem c_wire_Text (l : List Int) (hl : l.length ≤ 100000000000000) : Pure Tryz.prog 156 [.sl .fro 1 (bytesAV l)] (.sl .own 1 (bytesAV (textL l))) := by
 have w1 : IntKind.u64.wrap (l.length : Int) = l.length := wrapU (by omega) (by omega)
 have hn := numL_len (u := l.length) (by omega)
 refine proc_of (cx Tryz.prog 9 [0, 2] [2]) 8 [.tmp 2] Tryz.func156 rfl rfl rfl rfl rfl rfl (Nat.le_refl _) rfl ?_
 refine AWp.g [0] [] ?_
 simp
 refine AWp.g [2] [] ?_
 simp [w1]
 refine call_p (c_wire_Num l.length (by omega)) ?_
 simp [w1]
 refine ⟨by omega, ?_⟩
 refine AWp.ret ?_
 simp [textL, bytesAV_append]
set_option maxRecDepth 8000 in
set_option maxHeartbeats 1000000 in
theorem c_wire_Pack (l : List (List Int)) (hl : (packL l).length ≤ 100000000000000) : Pure Tryz.prog 87 [.sl .fro 1 (bsAV l)] (.sl .own 1 (bytesAV (packL l))) := by
 have hc := packL_count l
 have w1 : IntKind.u64.wrap (l.length : Int) = l.length := wrapU (by omega) (by omega)
 refine proc_of (cx Tryz.prog 22 [0, 2, 3, 5, 10, 11, 12, 13] [2]) 21 [.tmp 2] Tryz.func87 rfl rfl rfl rfl rfl rfl (Nat.le_refl _) rfl ?_
 refine AWp.g [0] [] ?_
 simp
 refine AWp.g [0, 3] [] ?_
 simp [w1]
 refine call_p (c_wire_Num l.length (by omega)) ?_
 simp [w1]
 refine AWp.seq ?_
 refine AWp.g [3, 10, 11, 12] [] ?_
 simp
 refine AWp.block (AWp.while (fun i : Nat => [(3, .sl .own 1 (bytesAV (packTo l i))), (10, .sl .fro 1 (bsAV l)), (11, .i .i64 l.length), (12, .i .i64 i)]) (fun i => []) (fun i => i ≤ l.length) (fun i => l.length - i) [3, 10, 11, 12] [] 0 (by simp) (by simp [packTo]) ?_)
 intro i hi
 refine AWp.g [3, 10, 11, 12, 13] [] ?_
 simp
 refine AWp.seq ?_
 by_cases h : i < l.length
 ·refine AWp.cT (by simp [h]) ?_
  refine AWp.skip ?_
  show AWp _ _ _ _
  refine AWp.seq ?_
  refine AWp.block ?_
  refine AWp.g [3, 5, 10, 11, 12] [] ?_
  simp [h]
  have hm := packL_mem (List.getElem_mem h)
  have hs := packTo_le l (i + 1)
  rw [packTo_succ l i h, List.length_append] at hs
  refine AWp.last [3, 10, 11, 12] [] [(3, .sl .own 1 (bytesAV (packTo l (i + 1)))), (10, .sl .fro 1 (bsAV l)), (11, .i .i64 l.length), (12, .i .i64 i)] [] ?_ ?_
  ·simp
   refine call_p (c_wire_Text l[i] (by omega)) ?_
   simp [packTo_succ l i h, bytesAV_append]
   omega
  show AWp _ _ _ _
  refine AWp.gL [3, 10, 11, 12] [] ?_
  simp
  refine ⟨i + 1, by omega, by omega, ?_⟩
  simp
  exact wrap64 (by omega) (by omega)
 ·refine AWp.cF (by simp [h]) ?_
  refine AWp.exit ?_
  show AWp _ _ _ _
  obtain rfl : i = l.length := by omega
  rw [packTo_all]
  refine AWp.g [2] [] ?_
  simp
  refine AWp.ret ?_
  simp
set_option maxRecDepth 8000 in
theorem c_raw_nat (n : Int) (h0 : 0 ≤ n) (h1 : n < 9223372036854775808) : Pure Tryz.prog 153 [.i .i64 n] (.sl .own 1 (bytesAV (numL n.toNat))) := by
 have w1 : IntKind.u64.wrap n = (n.toNat : Int) := by rw [wrapU (by omega) (by omega)]; omega
 refine proc_of (cx Tryz.prog 6 [0, 2] [2]) 5 [.tmp 2] Tryz.func153 rfl rfl rfl rfl rfl rfl (Nat.le_refl _) rfl ?_
 refine AWp.g [0] [] ?_
 simp
 refine AWp.g [2] [] ?_
 simp [w1]
 refine call_p (c_wire_Num n.toNat (by omega)) ?_
 simp [w1]
 refine AWp.ret ?_
 simp
def zigN (n : Int) : Nat := if n < 0 then (-2 * n - 1).toNat else (2 * n).toNat
set_option maxRecDepth 8000 in
theorem c_raw_num (n : Int) (h0 : -1152921504606846976 ≤ n) (h1 : n ≤ 1152921504606846976) : Pure Tryz.prog 154 [.i .i64 n] (.sl .own 1 (bytesAV (numL (zigN n)))) := by
 refine proc_of (cx Tryz.prog 15 [0, 2, 4] [2]) 14 [.tmp 2] Tryz.func154 rfl rfl rfl rfl rfl rfl (Nat.le_refl _) rfl ?_
 refine AWp.g [0] [] ?_
 simp
 refine AWp.seq ?_
 refine AWp.g [0, 4] [] ?_
 simp
 by_cases h : n < 0
 ·refine AWp.cT (by simp [h]) ?_
  have w1 : IntKind.i64.wrap (-1 - n) = -1 - n := wrap64 (by omega) (by omega)
  have w2 : IntKind.u64.wrap (-1 - n) = -1 - n := wrapU (by omega) (by omega)
  have w3 : IntKind.u64.wrap ((-1 - n) * 2) = (-1 - n) * 2 := wrapU (by omega) (by omega)
  have w4 : IntKind.u64.wrap ((-1 - n) * 2 + 1) = (zigN n : Int) := by rw [wrapU (by omega) (by omega)]; unfold zigN; rw [if_pos h]; omega
  refine AWp.g [2] [] ?_
  simp [w1, w2, w3, w4]
  refine call_p (c_wire_Num (zigN n) (by unfold zigN; rw [if_pos h]; omega)) ?_
  simp [w1, w2, w3, w4]
  refine AWp.ret ?_
  simp
 ·refine AWp.cF (by simp [h]) ?_
  refine AWp.skip ?_
  show AWp _ _ _ _
  have w2 : IntKind.u64.wrap n = n := wrapU (by omega) (by omega)
  have w3 : IntKind.u64.wrap (n * 2) = (zigN n : Int) := by rw [wrapU (by omega) (by omega)]; unfold zigN; rw [if_neg h]; omega
  refine AWp.g [2] [] ?_
  simp [w2, w3]
  refine call_p (c_wire_Num (zigN n) (by unfold zigN; rw [if_neg h]; omega)) ?_
  simp [w2, w3]
  refine AWp.ret ?_
  simp
end Go.AM
namespace Go.AM
open Go.Proofs
def keyL (k : ByteArray) : List Int := k.data.toList.map fun c => (c.toNat : Int)
@[simp] theorem bytesOf_eq (k : ByteArray) : bytesOf k = bytesAV (keyL k) := by simp [bytesOf, bytesAV, keyL]
def dotL (d : Dot) : List (List Int) := [numL d.1.toNat, numL d.2.toNat]
def entTo (e : Entry) (j : Nat) : List (List Int) := keyL e.key :: (e.live.take j).flatMap dotL
def enL (e : Entry) : List (List Int) := keyL e.key :: e.live.flatMap dotL
theorem entTo_all (e : Entry) : entTo e e.live.length = enL e := by simp [entTo, enL]
theorem entTo_succ (e : Entry) (j : Nat) (h : j < e.live.length) : entTo e (j + 1) = entTo e j ++ dotL e.live[j] := by
 unfold entTo
 rw [List.take_succ_eq_append_getElem h, List.flatMap_append]
 simp
theorem entTo_len (e : Entry) (j : Nat) (h : j ≤ e.live.length) : (entTo e j).length = 2 * j + 1 := by
 induction j with
 | zero => simp [entTo]
 | succ j ih => rw [entTo_succ e j (by omega), List.length_append, ih (by omega)]; simp [dotL]; omega
def setL (s : List Entry) : List Int := packL (s.map fun e => packL (enL e))
def celL (c : Cel) : List (List Int) := [keyL c.key, numL (zigN c.num)]
def talL (l : List Cel) : List Int := packL (l.map fun c => packL (celL c))
def accTo (x : Acc) (j : Nat) : List (List Int) := keyL x.key :: (List.range j).map fun k => numL (zigN (hv x k))
def acsL (l : List Acc) : List Int := packL (l.map fun x => packL (accTo x 5))
def ntL (n : Nt) : List (List Int) := [keyL n.key, numL n.t.toNat, numL n.rep.toNat, keyL n.word]
def ntsL (l : List Nt) : List Int := packL (l.map fun n => packL (ntL n))
theorem accTo_succ (x : Acc) (j : Nat) : accTo x (j + 1) = accTo x j ++ [numL (zigN (hv x j))] := by simp [accTo, List.range_succ]
theorem map_snoc {α β : Type} (f : α → β) (l : List α) (i : Nat) (h : i < l.length) : (l.map f).take (i + 1) = (l.map f).take i ++ [f l[i]] := by rw [List.take_succ_eq_append_getElem (by simpa using h)]; simp
theorem map_all {α β : Type} (f : α → β) (l : List α) : (l.map f).take l.length = l.map f := by rw [List.take_of_length_le (by simp)]
theorem packL_el {α : Type} (f : α → List Int) {l : List α} {i : Nat} (h : i < l.length) : (f l[i]).length ≤ (packL (l.map f)).length := packL_mem (List.mem_map_of_mem (List.getElem_mem h))
theorem mayD_nat {d : Dot} (h : mayD d = true) : 0 ≤ d.1 ∧ d.1 < 9223372036854775808 ∧ 0 ≤ d.2 ∧ d.2 < 9223372036854775808 := by
 simp only [mayD, Bool.and_eq_true, decide_eq_true_eq] at h
 omega
set_option maxRecDepth 8000 in
set_option maxHeartbeats 4000000 in
theorem c_raw_setBytes (s : List Entry) (hs : Fine s) (hb : (setL s).length ≤ 100000000000000) (hd : ∀ e ∈ s, ∀ d ∈ e.live, mayD d = true) : Pure Tryz.prog 83 [.sl .fro 3 (entsAV s)] (.sl .own 1 (bytesAV (setL s))) := by
 have hlen := hs.1
 refine proc_of (cx Tryz.prog 44 [0, 2, 3, 5, 6, 8, 9, 10, 11, 12, 20, 21, 22, 23] [2]) 43 [.tmp 2] Tryz.func83 rfl rfl rfl rfl rfl rfl (Nat.le_refl _) rfl ?_
 refine AWp.g [0] [] ?_
 simp
 refine AWp.g [0, 3] [] ?_
 simp
 refine AWp.seq ?_
 refine AWp.g [3, 9, 10, 11] [] ?_
 simp
 refine AWp.block (AWp.while (fun i : Nat => [(3, .sl .own 1 (bsAV ((s.map fun e => packL (enL e)).take i))), (9, .sl .fro 3 (entsAV s)), (10, .i .i64 s.length), (11, .i .i64 i)]) (fun i => []) (fun i => i ≤ s.length) (fun i => s.length - i) [3, 9, 10, 11] [] 0 (by simp) (by simp [bsAV]) ?_)
 intro i hi
 refine AWp.g [3, 9, 10, 11, 12] [] ?_
 simp
 refine AWp.seq ?_
 by_cases h : i < s.length
 ·refine AWp.cT (by simp [h]) ?_
  refine AWp.skip ?_
  show AWp _ _ _ _
  refine AWp.seq ?_
  refine AWp.block ?_
  have hl := (hs.2 _ (List.getElem_mem h)).1
  refine AWp.g [3, 5, 9, 10, 11] [5] ?_
  simp [h]
  refine AWp.step [3, 5, 6, 9, 10, 11] [5] [(3, .sl .own 1 (bsAV ((s.map fun e => packL (enL e)).take i))), (5, .ptr 5 0), (6, .sl .own 1 (bsAV (entTo s[i] 0))), (9, .sl .fro 3 (entsAV s)), (10, .i .i64 s.length), (11, .i .i64 i)] [(5, [.s s[i].key, .sl .fro 2 (dotsAV s[i].live), .sl .fro 2 (dotsAV s[i].dead)])] ?_ ?_
  ·simp [entTo]
  refine AWp.seq ?_
  refine AWp.g [3, 6, 9, 10, 11, 20, 21, 22] [] ?_
  simp
  refine AWp.block (AWp.while (fun j : Nat => [(3, .sl .own 1 (bsAV ((s.map fun e => packL (enL e)).take i))), (6, .sl .own 1 (bsAV (entTo s[i] j))), (9, .sl .fro 3 (entsAV s)), (10, .i .i64 s.length), (11, .i .i64 i), (20, .sl .fro 2 (dotsAV s[i].live)), (21, .i .i64 s[i].live.length), (22, .i .i64 j)]) (fun j => []) (fun j => j ≤ s[i].live.length) (fun j => s[i].live.length - j) [3, 6, 9, 10, 11, 20, 21, 22] [] 0 (by simp) (by simp) ?_)
  intro j hj
  refine AWp.g [3, 6, 9, 10, 11, 20, 21, 22, 23] [] ?_
  simp
  refine AWp.seq ?_
  by_cases h2 : j < s[i].live.length
  ·refine AWp.cT (by simp [h2]) ?_
   refine AWp.skip ?_
   show AWp _ _ _ _
   refine AWp.seq ?_
   refine AWp.block ?_
   refine AWp.g [3, 6, 8, 9, 10, 11, 20, 21, 22] [8] ?_
   simp [h2]
   obtain ⟨d1, d2, d3, d4⟩ := mayD_nat (hd _ (List.getElem_mem h) _ (List.getElem_mem h2))
   have g1 := (c_raw_nat s[i].live[j].1 d1 d2).fro
   have g2 := (c_raw_nat s[i].live[j].2 d3 d4).fro
   have hL := entTo_len s[i] j (by omega)
   simp at g1 g2
   refine AWp.lastA 8 (fun k => if k = 3 then .sl .fro 1 (bytesAV (numL s[i].live[j].1.toNat)) else if k = 6 then .sl .fro 1 (bytesAV (numL s[i].live[j].2.toNat)) else .any) [3, 6, 9, 10, 11, 20, 21, 22] [] [(3, .sl .own 1 (bsAV ((s.map fun e => packL (enL e)).take i))), (6, .sl .own 1 (bsAV (entTo s[i] (j + 1)))), (9, .sl .fro 3 (entsAV s)), (10, .i .i64 s.length), (11, .i .i64 i), (20, .sl .fro 2 (dotsAV s[i].live)), (21, .i .i64 s[i].live.length), (22, .i .i64 j)] [] mix (by kernel_rfl) ?_ ?_
   ·simp [g1, g2, entTo_succ s[i] j h2, bsAV_append, dotL, hL]
    simp [bsAV]
    omega
   show AWp _ _ _ _
   refine AWp.gL [3, 6, 9, 10, 11, 20, 21, 22] [] ?_
   simp
   refine ⟨j + 1, by omega, by omega, ?_⟩
   simp
   exact wrap64 (by omega) (by omega)
  ·refine AWp.cF (by simp [h2]) ?_
   refine AWp.exit ?_
   show AWp _ _ _ _
   obtain rfl : j = s[i].live.length := by omega
   have hel := packL_el (fun e => packL (enL e)) h
   have gp := (c_wire_Pack (enL s[i]) (by unfold setL at hb; omega)).fro
   simp at gp
   refine AWp.last [3, 9, 10, 11] [] [(3, .sl .own 1 (bsAV ((s.map fun e => packL (enL e)).take (i + 1)))), (9, .sl .fro 3 (entsAV s)), (10, .i .i64 s.length), (11, .i .i64 i)] [] ?_ ?_
   ·rw [entTo_all]
    simp
    refine call_p gp ?_
    simp [map_snoc _ s i h, bsAV_append]
    omega
   show AWp _ _ _ _
   refine AWp.gL [3, 9, 10, 11] [] ?_
   simp
   refine ⟨i + 1, by omega, by omega, ?_⟩
   simp
   exact wrap64 (by omega) (by omega)
 ·refine AWp.cF (by simp [h]) ?_
  refine AWp.exit ?_
  show AWp _ _ _ _
  obtain rfl : i = s.length := by omega
  rw [map_all]
  refine AWp.g [2] [] ?_
  simp
  refine call_p (c_wire_Pack (s.map fun e => packL (enL e)) hb) ?_
  simp
  refine AWp.ret ?_
  simp [setL]
set_option maxRecDepth 8000 in
set_option maxHeartbeats 4000000 in
theorem c_raw_tallyBytes (l : List Cel) (hl : l.length ≤ 1000000) (hb : (talL l).length ≤ 100000000000000) (hn : ∀ c ∈ l, -1152921504606846976 ≤ c.num ∧ c.num ≤ 1152921504606846976) : Pure Tryz.prog 84 [.sl .fro 2 (celsAV l)] (.sl .own 1 (bytesAV (talL l))) := by
 refine proc_of (cx Tryz.prog 26 [0, 2, 3, 5, 6, 7, 8, 9] [2]) 25 [.tmp 2] Tryz.func84 rfl rfl rfl rfl rfl rfl (Nat.le_refl _) rfl ?_
 refine AWp.g [0] [] ?_
 simp
 refine AWp.g [0, 3] [] ?_
 simp
 refine AWp.seq ?_
 refine AWp.g [3, 6, 7, 8] [] ?_
 simp
 refine AWp.block (AWp.while (fun i : Nat => [(3, .sl .own 1 (bsAV ((l.map fun c => packL (celL c)).take i))), (6, .sl .fro 2 (celsAV l)), (7, .i .i64 l.length), (8, .i .i64 i)]) (fun i => []) (fun i => i ≤ l.length) (fun i => l.length - i) [3, 6, 7, 8] [] 0 (by simp) (by simp [bsAV]) ?_)
 intro i hi
 refine AWp.g [3, 6, 7, 8, 9] [] ?_
 simp
 refine AWp.seq ?_
 by_cases h : i < l.length
 ·refine AWp.cT (by simp [h]) ?_
  refine AWp.skip ?_
  show AWp _ _ _ _
  refine AWp.seq ?_
  refine AWp.block ?_
  refine AWp.g [3, 5, 6, 7, 8] [5] ?_
  simp [h]
  have hel := packL_el (fun c => packL (celL c)) h
  have gp := (c_wire_Pack (celL l[i]) (by unfold talL at hb; omega)).fro
  obtain ⟨n1, n2⟩ := hn _ (List.getElem_mem h)
  have gn := (c_raw_num l[i].num n1 n2).fro
  simp [celL, bsAV] at gp
  simp at gn
  refine AWp.lastA 10 (fun k => if k = 6 then .sl .fro 1 (bytesAV (numL (zigN l[i].num))) else if k = 8 then .sl .fro 1 (bytesAV (packL (celL l[i]))) else .any) [3, 6, 7, 8] [] [(3, .sl .own 1 (bsAV ((l.map fun c => packL (celL c)).take (i + 1)))), (6, .sl .fro 2 (celsAV l)), (7, .i .i64 l.length), (8, .i .i64 i)] [] mix (by kernel_rfl) ?_ ?_
  ·simp [gn, gp, map_snoc _ l i h, bsAV_append, celL]
   omega
  show AWp _ _ _ _
  refine AWp.gL [3, 6, 7, 8] [] ?_
  simp
  refine ⟨i + 1, by omega, by omega, ?_⟩
  simp
  exact wrap64 (by omega) (by omega)
 ·refine AWp.cF (by simp [h]) ?_
  refine AWp.exit ?_
  show AWp _ _ _ _
  obtain rfl : i = l.length := by omega
  rw [map_all]
  refine AWp.g [2] [] ?_
  simp
  refine call_p (c_wire_Pack (l.map fun c => packL (celL c)) hb) ?_
  simp
  refine AWp.ret ?_
  simp [talL]
set_option maxRecDepth 8000 in
set_option maxHeartbeats 4000000 in
theorem c_raw_accountBytes (l : List Acc) (hl : l.length ≤ 1000000) (hb : (acsL l).length ≤ 100000000000000) (hn : ∀ x ∈ l, ∀ k, k < 5 → -1152921504606846976 ≤ hv x k ∧ hv x k ≤ 1152921504606846976) : Pure Tryz.prog 85 [.sl .fro 6 (acsAV l)] (.sl .own 1 (bytesAV (acsL l))) := by
 refine proc_of (cx Tryz.prog 38 [0, 2, 3, 5, 6, 8, 9, 10, 11, 12, 20, 21, 22] [2]) 37 [.tmp 2] Tryz.func85 rfl rfl rfl rfl rfl rfl (Nat.le_refl _) rfl ?_
 refine AWp.g [0] [] ?_
 simp
 refine AWp.g [0, 3] [] ?_
 simp
 refine AWp.seq ?_
 refine AWp.g [3, 9, 10, 11] [] ?_
 simp
 refine AWp.block (AWp.while (fun i : Nat => [(3, .sl .own 1 (bsAV ((l.map fun x => packL (accTo x 5)).take i))), (9, .sl .fro 6 (acsAV l)), (10, .i .i64 l.length), (11, .i .i64 i)]) (fun i => []) (fun i => i ≤ l.length) (fun i => l.length - i) [3, 9, 10, 11] [] 0 (by simp) (by simp [bsAV]) ?_)
 intro i hi
 refine AWp.g [3, 9, 10, 11, 12] [] ?_
 simp
 refine AWp.seq ?_
 by_cases h : i < l.length
 ·refine AWp.cT (by simp [h]) ?_
  refine AWp.skip ?_
  show AWp _ _ _ _
  refine AWp.seq ?_
  refine AWp.block ?_
  refine AWp.g [3, 5, 9, 10, 11] [5] ?_
  simp [h, acC]
  refine AWp.step [3, 5, 6, 9, 10, 11] [5] [(3, .sl .own 1 (bsAV ((l.map fun x => packL (accTo x 5)).take i))), (5, .ptr 5 0), (6, .sl .own 1 (bsAV (accTo l[i] 0))), (9, .sl .fro 6 (acsAV l)), (10, .i .i64 l.length), (11, .i .i64 i)] [(5, [.s l[i].key, .i .i64 l[i].a, .i .i64 l[i].b, .i .i64 l[i].c, .i .i64 l[i].d, .i .i64 l[i].e])] ?_ ?_
  ·simp [accTo]
  refine AWp.seq ?_
  refine AWp.g [3, 6, 9, 10, 11, 20, 21] [] ?_
  simp
  refine AWp.block (AWp.while (fun j : Nat => [(3, .sl .own 1 (bsAV ((l.map fun x => packL (accTo x 5)).take i))), (6, .sl .own 1 (bsAV (accTo l[i] j))), (9, .sl .fro 6 (acsAV l)), (10, .i .i64 l.length), (11, .i .i64 i), (20, .agg [.i .i64 l[i].a, .i .i64 l[i].b, .i .i64 l[i].c, .i .i64 l[i].d, .i .i64 l[i].e]), (21, .i .i64 j)]) (fun j => []) (fun j => j ≤ 5) (fun j => 5 - j) [3, 6, 9, 10, 11, 20, 21] [] 0 (by simp) (by simp) ?_)
  intro j hj
  refine AWp.g [3, 6, 9, 10, 11, 20, 21, 22] [] ?_
  simp
  refine AWp.seq ?_
  by_cases h2 : j < 5
  ·refine AWp.cT (by simp [h2]; omega) ?_
   refine AWp.skip ?_
   show AWp _ _ _ _
   refine AWp.seq ?_
   refine AWp.block ?_
   refine AWp.step [3, 6, 8, 9, 10, 11, 20, 21] [] [(3, .sl .own 1 (bsAV ((l.map fun x => packL (accTo x 5)).take i))), (6, .sl .own 1 (bsAV (accTo l[i] j))), (8, .i .i64 (hv l[i] j)), (9, .sl .fro 6 (acsAV l)), (10, .i .i64 l.length), (11, .i .i64 i), (20, .agg [.i .i64 l[i].a, .i .i64 l[i].b, .i .i64 l[i].c, .i .i64 l[i].d, .i .i64 l[i].e]), (21, .i .i64 j)] [] ?_ ?_
   ·obtain rfl | rfl | rfl | rfl | rfl : j = 0 ∨ j = 1 ∨ j = 2 ∨ j = 3 ∨ j = 4 := by omega
    all_goals simp [hv]
   obtain ⟨n1, n2⟩ := hn _ (List.getElem_mem h) j h2
   have gn := (c_raw_num (hv l[i] j) n1 n2).fro
   have hL : (accTo l[i] j).length = j + 1 := by simp [accTo]
   simp at gn
   refine AWp.last [3, 6, 9, 10, 11, 20, 21] [] [(3, .sl .own 1 (bsAV ((l.map fun x => packL (accTo x 5)).take i))), (6, .sl .own 1 (bsAV (accTo l[i] (j + 1)))), (9, .sl .fro 6 (acsAV l)), (10, .i .i64 l.length), (11, .i .i64 i), (20, .agg [.i .i64 l[i].a, .i .i64 l[i].b, .i .i64 l[i].c, .i .i64 l[i].d, .i .i64 l[i].e]), (21, .i .i64 j)] [] ?_ ?_
   ·simp
    refine call_p gn ?_
    simp [accTo_succ, bsAV_append, hL]
    omega
   show AWp _ _ _ _
   refine AWp.gL [3, 6, 9, 10, 11, 20, 21] [] ?_
   simp
   refine ⟨j + 1, by omega, by omega, ?_⟩
   simp
   exact wrap64 (by omega) (by omega)
  ·refine AWp.cF (by simp [h2]; omega) ?_
   refine AWp.exit ?_
   show AWp _ _ _ _
   obtain rfl : j = 5 := by omega
   have hel := packL_el (fun x => packL (accTo x 5)) h
   have gp := (c_wire_Pack (accTo l[i] 5) (by unfold acsL at hb; omega)).fro
   simp at gp
   refine AWp.last [3, 9, 10, 11] [] [(3, .sl .own 1 (bsAV ((l.map fun x => packL (accTo x 5)).take (i + 1)))), (9, .sl .fro 6 (acsAV l)), (10, .i .i64 l.length), (11, .i .i64 i)] [] ?_ ?_
   ·simp
    refine call_p gp ?_
    simp [map_snoc _ l i h, bsAV_append]
    omega
   show AWp _ _ _ _
   refine AWp.gL [3, 9, 10, 11] [] ?_
   simp
   refine ⟨i + 1, by omega, by omega, ?_⟩
   simp
   exact wrap64 (by omega) (by omega)
 ·refine AWp.cF (by simp [h]) ?_
  refine AWp.exit ?_
  show AWp _ _ _ _
  obtain rfl : i = l.length := by omega
  rw [map_all]
  refine AWp.g [2] [] ?_
  simp
  refine call_p (c_wire_Pack (l.map fun x => packL (accTo x 5)) hb) ?_
  simp
  refine AWp.ret ?_
  simp [acsL]
set_option maxRecDepth 8000 in
set_option maxHeartbeats 4000000 in
theorem c_raw_noteBytes (l : List Nt) (hl : l.length ≤ 1000000) (hb : (ntsL l).length ≤ 100000000000000) (hn : ∀ n ∈ l, (0 ≤ n.t ∧ n.t < 9223372036854775808) ∧ 0 ≤ n.rep ∧ n.rep < 9223372036854775808) : Pure Tryz.prog 86 [.sl .fro 4 (ntsAV l)] (.sl .own 1 (bytesAV (ntsL l))) := by
 refine proc_of (cx Tryz.prog 32 [0, 2, 3, 5, 6, 7, 8, 9] [2]) 31 [.tmp 2] Tryz.func86 rfl rfl rfl rfl rfl rfl (Nat.le_refl _) rfl ?_
 refine AWp.g [0] [] ?_
 simp
 refine AWp.g [0, 3] [] ?_
 simp
 refine AWp.seq ?_
 refine AWp.g [3, 6, 7, 8] [] ?_
 simp
 refine AWp.block (AWp.while (fun i : Nat => [(3, .sl .own 1 (bsAV ((l.map fun n => packL (ntL n)).take i))), (6, .sl .fro 4 (ntsAV l)), (7, .i .i64 l.length), (8, .i .i64 i)]) (fun i => []) (fun i => i ≤ l.length) (fun i => l.length - i) [3, 6, 7, 8] [] 0 (by simp) (by simp [bsAV]) ?_)
 intro i hi
 refine AWp.g [3, 6, 7, 8, 9] [] ?_
 simp
 refine AWp.seq ?_
 by_cases h : i < l.length
 ·refine AWp.cT (by simp [h]) ?_
  refine AWp.skip ?_
  show AWp _ _ _ _
  refine AWp.seq ?_
  refine AWp.block ?_
  refine AWp.g [3, 5, 6, 7, 8] [5] ?_
  simp [h]
  have hel := packL_el (fun n => packL (ntL n)) h
  have gp := (c_wire_Pack (ntL l[i]) (by unfold ntsL at hb; omega)).fro
  obtain ⟨⟨n1, n2⟩, n3, n4⟩ := hn _ (List.getElem_mem h)
  have g1 := (c_raw_nat l[i].t n1 n2).fro
  have g2 := (c_raw_nat l[i].rep n3 n4).fro
  simp [ntL, bsAV] at gp
  simp at g1 g2
  refine AWp.lastA 16 (fun k => if k = 6 then .sl .fro 1 (bytesAV (numL l[i].t.toNat)) else if k = 9 then .sl .fro 1 (bytesAV (numL l[i].rep.toNat)) else if k = 14 then .sl .fro 1 (bytesAV (packL (ntL l[i]))) else .any) [3, 6, 7, 8] [] [(3, .sl .own 1 (bsAV ((l.map fun n => packL (ntL n)).take (i + 1)))), (6, .sl .fro 4 (ntsAV l)), (7, .i .i64 l.length), (8, .i .i64 i)] [] mix (by kernel_rfl) ?_ ?_
  ·simp [g1, g2, gp, map_snoc _ l i h, bsAV_append, ntL]
   omega
  show AWp _ _ _ _
  refine AWp.gL [3, 6, 7, 8] [] ?_
  simp
  refine ⟨i + 1, by omega, by omega, ?_⟩
  simp
  exact wrap64 (by omega) (by omega)
 ·refine AWp.cF (by simp [h]) ?_
  refine AWp.exit ?_
  show AWp _ _ _ _
  obtain rfl : i = l.length := by omega
  rw [map_all]
  refine AWp.g [2] [] ?_
  simp
  refine call_p (c_wire_Pack (l.map fun n => packL (ntL n)) hb) ?_
  simp
  refine AWp.ret ?_
  simp [ntsL]
end Go.AM
namespace Go.AM
open Go.Proofs
structure GoodR (w : Rw) : Prop where
 s : ∀ l ∈ w.sets, ∀ e ∈ l, ∀ d ∈ e.live, mayD d = true
 t : ∀ l ∈ w.tals, ∀ c ∈ l, -1152921504606846976 ≤ c.num ∧ c.num ≤ 1152921504606846976
 a : ∀ l ∈ w.accs, ∀ x ∈ l, ∀ k, k < 5 → -1152921504606846976 ≤ hv x k ∧ hv x k ≤ 1152921504606846976
 n : ∀ l ∈ w.regs, ∀ x ∈ l, (0 ≤ x.t ∧ x.t < 9223372036854775808) ∧ 0 ≤ x.rep ∧ x.rep < 9223372036854775808
def rawParts (w : Rw) : List (List Int) := w.sets.map setL ++ (w.tals.map talL ++ (w.accs.map acsL ++ w.regs.map ntsL))
def rawL (w : Rw) : List Int := packL (rawParts w)
theorem rawParts_le {w : Rw} {x : List Int} (h : x ∈ rawParts w) : x.length ≤ (rawL w).length := packL_mem h
set_option maxRecDepth 8000 in
set_option maxHeartbeats 8000000 in
theorem c_raw_Bytes0 (k : Kin) (w p : Rw) (hk : FineK k) (hw : FineR w) (hp : plainR k w = p) (hf : FineR p) (hg : GoodR p) (hb : (rawL p).length ≤ 100000000000000) : Pure Tryz.prog 25 [.agg (kinC k), .agg (rwC w)] (.tup [.sl .own 1 (bytesAV (if rawB k w then rawL p else [])), .i .i64 (if rawB k w then 0 else 1)]) := by
 have gp := c_raw_Plain k w hk hw
 rw [hp] at gp
 simp [kinC, rwC, rwO] at gp
 refine proc_of (cx Tryz.prog 80 [2, 3, 4, 5, 6, 7, 8, 10, 12, 14, 16, 24, 27, 28, 29, 30, 40, 41, 42, 43, 53, 54, 55, 56, 66, 67, 68, 69] [4, 5]) 78 [.tmp 4, .tmp 5] Tryz.func25 rfl rfl rfl rfl rfl rfl (Nat.le_refl _) rfl ?_
 refine AWp.g [2, 3] [2, 3] ?_
 simp [kinC, rwC]
 refine AWp.g [6, 7] [6] ?_
 simp
 refine call_pure gp (by simp) ?_
 simp
 refine AWp.seq ?_
 refine AWp.step [6, 7, 24] [6] [(6, .ptr 6 0), (7, .i .i64 (if rawB k w then 0 else 1)), (24, .b (!rawB k w))] [(6, [.sl .own 1 (rrE p.sets), .sl .own 1 (rrC p.tals), .sl .own 1 (rrA p.accs), .sl .own 1 (rrN p.regs)])] ?_ ?_
 ·cases rawB k w <;> simp
 cases hh : rawB k w
 ·refine AWp.cT (by simp) ?_
  refine AWp.step [4, 5] [6] [(4, .sl .nl 1 []), (5, .i .i64 1)] [(6, [.sl .own 1 (rrE p.sets), .sl .own 1 (rrC p.tals), .sl .own 1 (rrA p.accs), .sl .own 1 (rrN p.regs)])] ?_ ?_
  ·simp [hh]
  refine AWp.ret ?_
  simp [hh, bytesAV]
 ·refine AWp.cF (by simp) ?_
  refine AWp.skip ?_
  show AWp _ _ _ _
  refine AWp.g [6, 8] [6] ?_
  simp
  refine AWp.seq ?_
  refine AWp.g [6, 8, 27, 28, 29] [6] ?_
  simp
  refine AWp.block (AWp.while (fun i : Nat => [(6, .ptr 6 0), (8, .sl .own 1 (bsAV ( ((p.sets.map setL).take i)))), (27, .sl (.vw (.cell 6 0) true) 1 (rrE p.sets)), (28, .i .i64 p.sets.length), (29, .i .i64 i)]) (fun i => [(6, [.sl .own 1 (rrE p.sets), .sl .own 1 (rrC p.tals), .sl .own 1 (rrA p.accs), .sl .own 1 (rrN p.regs)])]) (fun i => i ≤ p.sets.length) (fun i => p.sets.length - i) [6, 8, 27, 28, 29] [6] 0 (by simp) (by simp [bsAV]) ?_)
  intro i hi
  have hmi := hf.s0
  refine AWp.g [6, 8, 27, 28, 29, 30] [6] ?_
  simp
  refine AWp.seq ?_
  by_cases ji : i < p.sets.length
  ·refine AWp.cT (by simp [ji]) ?_
   refine AWp.skip ?_
   show AWp _ _ _ _
   refine AWp.seq ?_
   refine AWp.block ?_
   refine AWp.g [6, 8, 10, 27, 28, 29] [6] ?_
   simp [ji]
   have gi := (c_raw_setBytes p.sets[i] (hf.s1 _ (List.getElem_mem ji)) (Nat.le_trans (rawParts_le (by simp [rawParts]; exact .inl ⟨_, List.getElem_mem ji, rfl⟩)) hb) (hg.s _ (List.getElem_mem ji))).fro
   simp at gi
   refine AWp.last [6, 8, 27, 28, 29] [6] [(6, .ptr 6 0), (8, .sl .own 1 (bsAV ( ((p.sets.map setL).take (i + 1))))), (27, .sl (.vw (.cell 6 0) true) 1 (rrE p.sets)), (28, .i .i64 p.sets.length), (29, .i .i64 i)] [(6, [.sl .own 1 (rrE p.sets), .sl .own 1 (rrC p.tals), .sl .own 1 (rrA p.accs), .sl .own 1 (rrN p.regs)])] ?_ ?_
   ·simp
    refine call_p gi ?_
    simp [map_snoc _ p.sets i ji, bsAV_append]
    omega
   show AWp _ _ _ _
   refine AWp.gL [6, 8, 27, 28, 29] [6] ?_
   simp
   refine ⟨i + 1, by omega, by omega, ?_⟩
   simp
   exact wrap64 (by omega) (by omega)
  ·refine AWp.cF (by simp [ji]) ?_
   refine AWp.exit ?_
   show AWp _ _ _ _
   refine AWp.seq ?_
   obtain rfl : i = p.sets.length := by omega
   rw [map_all]
   refine AWp.g [6, 8, 40, 41, 42] [6] ?_
   simp
   refine AWp.block (AWp.while (fun m : Nat => [(6, .ptr 6 0), (8, .sl .own 1 (bsAV (p.sets.map setL ++ ((p.tals.map talL).take m)))), (40, .sl (.vw (.cell 6 1) true) 1 (rrC p.tals)), (41, .i .i64 p.tals.length), (42, .i .i64 m)]) (fun m => [(6, [.sl .own 1 (rrE p.sets), .sl .own 1 (rrC p.tals), .sl .own 1 (rrA p.accs), .sl .own 1 (rrN p.regs)])]) (fun m => m ≤ p.tals.length) (fun m => p.tals.length - m) [6, 8, 40, 41, 42] [6] 0 (by simp) (by simp [bsAV]) ?_)
   intro m hm
   have hmm := hf.t0
   refine AWp.g [6, 8, 40, 41, 42, 43] [6] ?_
   simp
   refine AWp.seq ?_
   by_cases jm : m < p.tals.length
   ·refine AWp.cT (by simp [jm]) ?_
    refine AWp.skip ?_
    show AWp _ _ _ _
    refine AWp.seq ?_
    refine AWp.block ?_
    refine AWp.g [6, 8, 12, 40, 41, 42] [6] ?_
    simp [jm]
    have gm := (c_raw_tallyBytes p.tals[m] (by have := hf.t1 _ (List.getElem_mem jm); omega) (Nat.le_trans (rawParts_le (by simp [rawParts]; exact .inr (.inl ⟨_, List.getElem_mem jm, rfl⟩))) hb) (hg.t _ (List.getElem_mem jm))).fro
    simp at gm
    refine AWp.last [6, 8, 40, 41, 42] [6] [(6, .ptr 6 0), (8, .sl .own 1 (bsAV (p.sets.map setL ++ ((p.tals.map talL).take (m + 1))))), (40, .sl (.vw (.cell 6 1) true) 1 (rrC p.tals)), (41, .i .i64 p.tals.length), (42, .i .i64 m)] [(6, [.sl .own 1 (rrE p.sets), .sl .own 1 (rrC p.tals), .sl .own 1 (rrA p.accs), .sl .own 1 (rrN p.regs)])] ?_ ?_
    ·simp
     refine call_p gm ?_
     simp [map_snoc _ p.tals m jm, bsAV_append]
     omega
    show AWp _ _ _ _
    refine AWp.gL [6, 8, 40, 41, 42] [6] ?_
    simp
    refine ⟨m + 1, by omega, by omega, ?_⟩
    simp
    exact wrap64 (by omega) (by omega)
   ·refine AWp.cF (by simp [jm]) ?_
    refine AWp.exit ?_
    show AWp _ _ _ _
    refine AWp.seq ?_
    obtain rfl : m = p.tals.length := by omega
    rw [map_all]
    refine AWp.g [6, 8, 53, 54, 55] [6] ?_
    simp
    refine AWp.block (AWp.while (fun n : Nat => [(6, .ptr 6 0), (8, .sl .own 1 (bsAV ((p.sets.map setL ++ p.tals.map talL) ++ ((p.accs.map acsL).take n)))), (53, .sl (.vw (.cell 6 2) true) 1 (rrA p.accs)), (54, .i .i64 p.accs.length), (55, .i .i64 n)]) (fun n => [(6, [.sl .own 1 (rrE p.sets), .sl .own 1 (rrC p.tals), .sl .own 1 (rrA p.accs), .sl .own 1 (rrN p.regs)])]) (fun n => n ≤ p.accs.length) (fun n => p.accs.length - n) [6, 8, 53, 54, 55] [6] 0 (by simp) (by simp [bsAV]) ?_)
    intro n hn
    have hmn := hf.a0
    refine AWp.g [6, 8, 53, 54, 55, 56] [6] ?_
    simp
    refine AWp.seq ?_
    by_cases jn : n < p.accs.length
    ·refine AWp.cT (by simp [jn]) ?_
     refine AWp.skip ?_
     show AWp _ _ _ _
     refine AWp.seq ?_
     refine AWp.block ?_
     refine AWp.g [6, 8, 14, 53, 54, 55] [6] ?_
     simp [jn]
     have gn := (c_raw_accountBytes p.accs[n] (by have := hf.a1 _ (List.getElem_mem jn); omega) (Nat.le_trans (rawParts_le (by simp [rawParts]; exact .inr (.inr (.inl ⟨_, List.getElem_mem jn, rfl⟩)))) hb) (hg.a _ (List.getElem_mem jn))).fro
     simp at gn
     refine AWp.last [6, 8, 53, 54, 55] [6] [(6, .ptr 6 0), (8, .sl .own 1 (bsAV ((p.sets.map setL ++ p.tals.map talL) ++ ((p.accs.map acsL).take (n + 1))))), (53, .sl (.vw (.cell 6 2) true) 1 (rrA p.accs)), (54, .i .i64 p.accs.length), (55, .i .i64 n)] [(6, [.sl .own 1 (rrE p.sets), .sl .own 1 (rrC p.tals), .sl .own 1 (rrA p.accs), .sl .own 1 (rrN p.regs)])] ?_ ?_
     ·simp
      refine call_p gn ?_
      simp [map_snoc _ p.accs n jn, bsAV_append]
      omega
     show AWp _ _ _ _
     refine AWp.gL [6, 8, 53, 54, 55] [6] ?_
     simp
     refine ⟨n + 1, by omega, by omega, ?_⟩
     simp
     exact wrap64 (by omega) (by omega)
    ·refine AWp.cF (by simp [jn]) ?_
     refine AWp.exit ?_
     show AWp _ _ _ _
     refine AWp.seq ?_
     obtain rfl : n = p.accs.length := by omega
     rw [map_all]
     refine AWp.g [8, 66, 67, 68] [6] ?_
     simp
     refine AWp.block (AWp.while (fun o : Nat => [(8, .sl .own 1 (bsAV ((p.sets.map setL ++ p.tals.map talL ++ p.accs.map acsL) ++ ((p.regs.map ntsL).take o)))), (66, .sl (.vw (.cell 6 3) true) 1 (rrN p.regs)), (67, .i .i64 p.regs.length), (68, .i .i64 o)]) (fun o => [(6, [.sl .own 1 (rrE p.sets), .sl .own 1 (rrC p.tals), .sl .own 1 (rrA p.accs), .sl .own 1 (rrN p.regs)])]) (fun o => o ≤ p.regs.length) (fun o => p.regs.length - o) [8, 66, 67, 68] [6] 0 (by simp) (by simp [bsAV]) ?_)
     intro o ho
     have hmo := hf.n0
     refine AWp.g [8, 66, 67, 68, 69] [6] ?_
     simp
     refine AWp.seq ?_
     by_cases jo : o < p.regs.length
     ·refine AWp.cT (by simp [jo]) ?_
      refine AWp.skip ?_
      show AWp _ _ _ _
      refine AWp.seq ?_
      refine AWp.block ?_
      refine AWp.g [8, 16, 66, 67, 68] [6] ?_
      simp [jo]
      have go := (c_raw_noteBytes p.regs[o] (by have := hf.n1 _ (List.getElem_mem jo); omega) (Nat.le_trans (rawParts_le (by simp [rawParts]; exact .inr (.inr (.inr ⟨_, List.getElem_mem jo, rfl⟩)))) hb) (hg.n _ (List.getElem_mem jo))).fro
      simp at go
      refine AWp.last [8, 66, 67, 68] [6] [(8, .sl .own 1 (bsAV ((p.sets.map setL ++ p.tals.map talL ++ p.accs.map acsL) ++ ((p.regs.map ntsL).take (o + 1))))), (66, .sl (.vw (.cell 6 3) true) 1 (rrN p.regs)), (67, .i .i64 p.regs.length), (68, .i .i64 o)] [(6, [.sl .own 1 (rrE p.sets), .sl .own 1 (rrC p.tals), .sl .own 1 (rrA p.accs), .sl .own 1 (rrN p.regs)])] ?_ ?_
      ·simp
       refine call_p go ?_
       simp [map_snoc _ p.regs o jo, bsAV_append]
       omega
      show AWp _ _ _ _
      refine AWp.gL [8, 66, 67, 68] [6] ?_
      simp
      refine ⟨o + 1, by omega, by omega, ?_⟩
      simp
      exact wrap64 (by omega) (by omega)
     ·refine AWp.cF (by simp [jo]) ?_
      refine AWp.exit ?_
      show AWp _ _ _ _
      obtain rfl : o = p.regs.length := by omega
      rw [map_all]
      have he : p.sets.map setL ++ (p.tals.map talL ++ (p.accs.map acsL ++ p.regs.map ntsL)) = rawParts p := rfl
      rw [he]
      refine AWp.g [4, 5] [6] ?_
      simp
      refine call_p (c_wire_Pack (rawParts p) hb) ?_
      simp
      refine AWp.ret ?_
      simp [hh, rawL]
end Go.AM
namespace Go.AM
open Go.Proofs
@[simp] theorem try_eqCel : flatEq Tryz.prog 135 = some [.str, .int .i64] := by kernel_rfl
def celEq (a b : Cel) : Bool := eqK a.key b.key && decide (a.num = b.num)
def sameAt (a b : List Cel) (i : Nat) : Bool := match a[i]?, b[i]? with
 | some x, some y => celEq x y
 | _, _ => false
def sameK (a b : List Cel) : Bool := decide ((a.length : Int) = b.length) && (List.range a.length).all (sameAt a b)
set_option maxRecDepth 8000 in
set_option maxHeartbeats 2000000 in
theorem c_ref10_Same (a b : List Cel) (ha : a.length ≤ 100000) (hb : b.length ≤ 100000) : Pure Tryz.prog 75 [.sl .fro 2 (celsAV a), .sl .fro 2 (celsAV b)] (.b (sameK a b)) := by
 refine proc_of (cx Tryz.prog 26 [0, 1, 4, 5, 10, 14, 25] [4]) 24 [.tmp 4] Tryz.func75 rfl rfl rfl rfl rfl rfl (Nat.le_refl _) rfl ?_
 refine AWp.g [0, 1] [] ?_
 simp
 refine AWp.seq ?_
 refine AWp.g [0, 1, 10] [] ?_
 simp
 by_cases q0 : (a.length : Int) = b.length
 ·refine AWp.cF (by simp [q0]) ?_
  refine AWp.skip ?_
  show AWp _ _ _ _
  refine AWp.seq ?_
  refine AWp.g [0, 1, 5] [] ?_
  simp
  refine AWp.block (AWp.while (fun i : Nat => [(0, .sl .fro 2 (celsAV a)), (1, .sl .fro 2 (celsAV b)), (5, .i .i64 i)]) (fun i => []) (fun i => i ≤ a.length ∧ ∀ k, k < i → sameAt a b k = true) (fun i => a.length - i) [0, 1, 5] [] 0 (by simp) (by simp) ?_)
  rintro i ⟨hi, hall⟩
  refine AWp.seq ?_
  refine AWp.g [0, 1, 5, 14] [] ?_
  simp
  by_cases h : i < a.length
  ·refine AWp.cT (by simp [h]) ?_
   refine AWp.skip ?_
   show AWp _ _ _ _
   refine AWp.seq ?_
   refine AWp.block ?_
   have h' : i < b.length := by omega
   refine AWp.stepD 9 (fun _ => .any) [0, 1, 5, 25] [] [(0, .sl .fro 2 (celsAV a)), (1, .sl .fro 2 (celsAV b)), (5, .i .i64 i), (25, .b (!sameAt a b i))] [] mix (by kernel_rfl) ?_ ?_
   ·simp [h, h', sameAt, celEq, eqK]
   cases hp : sameAt a b i
   ·refine AWp.cT (by simp) ?_
    refine AWp.g [4] [] ?_
    simp
    refine AWp.ret ?_
    simp [sameK, range_not h hp]
   ·refine AWp.cF (by simp) ?_
    refine AWp.skip ?_
    show AWp _ _ _ _
    refine AWp.gL [0, 1, 5] [] ?_
    simp
    refine ⟨i + 1, ⟨by omega, fun k hk => ?_⟩, by omega, ?_⟩
    ·by_cases hki : k = i
     ·subst hki; exact hp
     ·exact hall k (by omega)
    ·simp
     exact wrap64 (by omega) (by omega)
  ·refine AWp.cF (by simp [h]) ?_
   refine AWp.exit ?_
   show AWp _ _ _ _
   refine AWp.g [4] [] ?_
   simp
   refine AWp.ret ?_
   simp [sameK, q0, range_all (fun k (hk : k < a.length) => hall k (by omega))]
 ·refine AWp.cT (by simp [q0]) ?_
  refine AWp.g [4] [] ?_
  simp
  refine AWp.ret ?_
  simp [sameK, q0]
def eqRow {α : Type} (f : List α → List α → Bool) (A B : List (List α)) (i : Nat) : Bool := match A[i]?, B[i]? with
 | some x, some y => f x y
 | _, _ => false
def eqAll {α : Type} (f : List α → List α → Bool) (A B : List (List α)) : Bool := (List.range A.length).all (eqRow f A B)
def lensR (a b : Rw) : Bool := decide ((a.sets.length : Int) = b.sets.length) && decide ((a.tals.length : Int) = b.tals.length) && decide ((a.accs.length : Int) = b.accs.length) && decide ((a.regs.length : Int) = b.regs.length)
def sameR (a b : Rw) : Bool := lensR a b && eqAll sameB a.sets b.sets && eqAll sameK a.tals b.tals && eqAll sameA a.accs b.accs && eqAll sameN a.regs b.regs
theorem lensR_iff {a b : Rw} (h : lensR a b = true) : a.sets.length = b.sets.length ∧ a.tals.length = b.tals.length ∧ a.accs.length = b.accs.length ∧ a.regs.length = b.regs.length := by
 simp only [lensR, Bool.and_eq_true, decide_eq_true_eq] at h
 omega
set_option maxRecDepth 8000 in
set_option maxHeartbeats 8000000 in
theorem c_ref13_Same (a b : Rw) (ha : FineR a) (hb : FineR b) : Pure Tryz.prog 20 [.agg (rwC a), .agg (rwC b)] (.b (sameR a b)) := by
 refine proc_of (cx Tryz.prog 119 [2, 3, 4, 5, 6, 7, 8, 42, 47, 61, 66, 80, 85, 99, 104, 118] [4]) 117 [.tmp 4] Tryz.func20 rfl rfl rfl rfl rfl rfl (Nat.le_refl _) rfl ?_
 refine AWp.g [2, 3] [2, 3] ?_
 simp [rwC]
 refine AWp.seq ?_
 refine AWp.step [2, 3, 42] [2, 3] [(2, .ptr 2 0), (3, .ptr 3 0), (42, .b (!lensR a b))] [(2, [.sl .fro 1 (rrE a.sets), .sl .fro 1 (rrC a.tals), .sl .fro 1 (rrA a.accs), .sl .fro 1 (rrN a.regs)]), (3, [.sl .fro 1 (rrE b.sets), .sl .fro 1 (rrC b.tals), .sl .fro 1 (rrA b.accs), .sl .fro 1 (rrN b.regs)])] ?_ ?_
 ·by_cases q1 : (a.sets.length : Int) = b.sets.length
  case neg => simp [q1, lensR]
  by_cases q2 : (a.tals.length : Int) = b.tals.length
  case neg => simp [q1, q2, lensR]
  by_cases q3 : (a.accs.length : Int) = b.accs.length
  case neg => simp [q1, q2, q3, lensR]
  simp [q1, q2, q3, lensR]
 cases hq : lensR a b
 ·refine AWp.cT (by simp) ?_
  refine AWp.g [4] [2, 3] ?_
  simp
  refine AWp.ret ?_
  simp [sameR, hq]
 ·refine AWp.cF (by simp) ?_
  refine AWp.skip ?_
  show AWp _ _ _ _
  refine AWp.seq ?_
  obtain ⟨x1, x2, x3, x4⟩ := lensR_iff hq
  refine AWp.g [2, 3, 5] [2, 3] ?_
  simp
  refine AWp.block (AWp.while (fun i : Nat => [(2, .ptr 2 0), (3, .ptr 3 0), (5, .i .i64 i)]) (fun i => [(2, [.sl .fro 1 (rrE a.sets), .sl .fro 1 (rrC a.tals), .sl .fro 1 (rrA a.accs), .sl .fro 1 (rrN a.regs)]), (3, [.sl .fro 1 (rrE b.sets), .sl .fro 1 (rrC b.tals), .sl .fro 1 (rrA b.accs), .sl .fro 1 (rrN b.regs)])]) (fun i => i ≤ a.sets.length ∧ ∀ j, j < i → eqRow sameB a.sets b.sets j = true) (fun i => a.sets.length - i) [2, 3, 5] [2, 3] 0 (by simp) (by simp) ?_)
  rintro i ⟨hii, halli⟩
  have hmi := ha.s0
  refine AWp.seq ?_
  refine AWp.g [2, 3, 5, 47] [2, 3] ?_
  simp
  by_cases hi : i < a.sets.length
  ·refine AWp.cT (by simp [hi]) ?_
   refine AWp.skip ?_
   show AWp _ _ _ _
   refine AWp.seq ?_
   refine AWp.block ?_
   have ki : i < b.sets.length := by omega
   have hE : eqRow sameB a.sets b.sets i = sameB a.sets[i] b.sets[i] := by simp [eqRow, hi, ki]
   have hg := c_ref08_Same a.sets[i] b.sets[i] (ha.s1 _ (List.getElem_mem hi)) (hb.s1 _ (List.getElem_mem ki))
   refine AWp.stepD 12 (fun z => if z = 10 then .b (sameB a.sets[i] (b.sets[i]'(by omega))) else .any) [2, 3, 5, 61] [2, 3] [(2, .ptr 2 0), (3, .ptr 3 0), (5, .i .i64 i), (61, .b (!sameB a.sets[i] (b.sets[i]'(by omega))))] [(2, [.sl .fro 1 (rrE a.sets), .sl .fro 1 (rrC a.tals), .sl .fro 1 (rrA a.accs), .sl .fro 1 (rrN a.regs)]), (3, [.sl .fro 1 (rrE b.sets), .sl .fro 1 (rrC b.tals), .sl .fro 1 (rrA b.accs), .sl .fro 1 (rrN b.regs)])] mix (by kernel_rfl) ?_ ?_
   ·simp [hi, ki, hg]
   cases hpi : sameB a.sets[i] (b.sets[i]'(by omega))
   ·refine AWp.cT (by simp) ?_
    refine AWp.g [4] [2, 3] ?_
    simp
    refine AWp.ret ?_
    simp [sameR, eqAll, range_not hi (hE.trans hpi)]
   ·refine AWp.cF (by simp) ?_
    refine AWp.skip ?_
    show AWp _ _ _ _
    refine AWp.gL [2, 3, 5] [2, 3] ?_
    simp
    refine ⟨i + 1, ⟨by omega, fun j hj => ?_⟩, by omega, ?_⟩
    ·by_cases hji : j = i
     ·subst hji; exact hE.trans hpi
     ·exact halli j (by omega)
    ·simp
     exact wrap64 (by omega) (by omega)
  ·refine AWp.cF (by simp [hi]) ?_
   refine AWp.exit ?_
   show AWp _ _ _ _
   refine AWp.seq ?_
   have ei : eqAll sameB a.sets b.sets = true := range_all fun j hj => halli j (by omega)
   refine AWp.g [2, 3, 6] [2, 3] ?_
   simp
   refine AWp.block (AWp.while (fun m : Nat => [(2, .ptr 2 0), (3, .ptr 3 0), (6, .i .i64 m)]) (fun m => [(2, [.sl .fro 1 (rrE a.sets), .sl .fro 1 (rrC a.tals), .sl .fro 1 (rrA a.accs), .sl .fro 1 (rrN a.regs)]), (3, [.sl .fro 1 (rrE b.sets), .sl .fro 1 (rrC b.tals), .sl .fro 1 (rrA b.accs), .sl .fro 1 (rrN b.regs)])]) (fun m => m ≤ a.tals.length ∧ ∀ j, j < m → eqRow sameK a.tals b.tals j = true) (fun m => a.tals.length - m) [2, 3, 6] [2, 3] 0 (by simp) (by simp) ?_)
   rintro m ⟨him, hallm⟩
   have hmm := ha.t0
   refine AWp.seq ?_
   refine AWp.g [2, 3, 6, 66] [2, 3] ?_
   simp
   by_cases hm : m < a.tals.length
   ·refine AWp.cT (by simp [hm]) ?_
    refine AWp.skip ?_
    show AWp _ _ _ _
    refine AWp.seq ?_
    refine AWp.block ?_
    have km : m < b.tals.length := by omega
    have hE : eqRow sameK a.tals b.tals m = sameK a.tals[m] b.tals[m] := by simp [eqRow, hm, km]
    have hg := c_ref10_Same a.tals[m] b.tals[m] (ha.t1 _ (List.getElem_mem hm)) (hb.t1 _ (List.getElem_mem km))
    refine AWp.stepD 12 (fun z => if z = 10 then .b (sameK a.tals[m] (b.tals[m]'(by omega))) else .any) [2, 3, 6, 80] [2, 3] [(2, .ptr 2 0), (3, .ptr 3 0), (6, .i .i64 m), (80, .b (!sameK a.tals[m] (b.tals[m]'(by omega))))] [(2, [.sl .fro 1 (rrE a.sets), .sl .fro 1 (rrC a.tals), .sl .fro 1 (rrA a.accs), .sl .fro 1 (rrN a.regs)]), (3, [.sl .fro 1 (rrE b.sets), .sl .fro 1 (rrC b.tals), .sl .fro 1 (rrA b.accs), .sl .fro 1 (rrN b.regs)])] mix (by kernel_rfl) ?_ ?_
    ·simp [hm, km, hg]
    cases hpm : sameK a.tals[m] (b.tals[m]'(by omega))
    ·refine AWp.cT (by simp) ?_
     refine AWp.g [4] [2, 3] ?_
     simp
     refine AWp.ret ?_
     simp [sameR, eqAll, range_not hm (hE.trans hpm)]
    ·refine AWp.cF (by simp) ?_
     refine AWp.skip ?_
     show AWp _ _ _ _
     refine AWp.gL [2, 3, 6] [2, 3] ?_
     simp
     refine ⟨m + 1, ⟨by omega, fun j hj => ?_⟩, by omega, ?_⟩
     ·by_cases hji : j = m
      ·subst hji; exact hE.trans hpm
      ·exact hallm j (by omega)
     ·simp
      exact wrap64 (by omega) (by omega)
   ·refine AWp.cF (by simp [hm]) ?_
    refine AWp.exit ?_
    show AWp _ _ _ _
    refine AWp.seq ?_
    have em : eqAll sameK a.tals b.tals = true := range_all fun j hj => hallm j (by omega)
    refine AWp.g [2, 3, 7] [2, 3] ?_
    simp
    refine AWp.block (AWp.while (fun n : Nat => [(2, .ptr 2 0), (3, .ptr 3 0), (7, .i .i64 n)]) (fun n => [(2, [.sl .fro 1 (rrE a.sets), .sl .fro 1 (rrC a.tals), .sl .fro 1 (rrA a.accs), .sl .fro 1 (rrN a.regs)]), (3, [.sl .fro 1 (rrE b.sets), .sl .fro 1 (rrC b.tals), .sl .fro 1 (rrA b.accs), .sl .fro 1 (rrN b.regs)])]) (fun n => n ≤ a.accs.length ∧ ∀ j, j < n → eqRow sameA a.accs b.accs j = true) (fun n => a.accs.length - n) [2, 3, 7] [2, 3] 0 (by simp) (by simp) ?_)
    rintro n ⟨hin, halln⟩
    have hmn := ha.a0
    refine AWp.seq ?_
    refine AWp.g [2, 3, 7, 85] [2, 3] ?_
    simp
    by_cases hn : n < a.accs.length
    ·refine AWp.cT (by simp [hn]) ?_
     refine AWp.skip ?_
     show AWp _ _ _ _
     refine AWp.seq ?_
     refine AWp.block ?_
     have kn : n < b.accs.length := by omega
     have hE : eqRow sameA a.accs b.accs n = sameA a.accs[n] b.accs[n] := by simp [eqRow, hn, kn]
     have hg := c_ref11_Same a.accs[n] b.accs[n] (ha.a1 _ (List.getElem_mem hn)) (hb.a1 _ (List.getElem_mem kn))
     refine AWp.stepD 12 (fun z => if z = 10 then .b (sameA a.accs[n] (b.accs[n]'(by omega))) else .any) [2, 3, 7, 99] [2, 3] [(2, .ptr 2 0), (3, .ptr 3 0), (7, .i .i64 n), (99, .b (!sameA a.accs[n] (b.accs[n]'(by omega))))] [(2, [.sl .fro 1 (rrE a.sets), .sl .fro 1 (rrC a.tals), .sl .fro 1 (rrA a.accs), .sl .fro 1 (rrN a.regs)]), (3, [.sl .fro 1 (rrE b.sets), .sl .fro 1 (rrC b.tals), .sl .fro 1 (rrA b.accs), .sl .fro 1 (rrN b.regs)])] mix (by kernel_rfl) ?_ ?_
     ·simp [hn, kn, hg]
     cases hpn : sameA a.accs[n] (b.accs[n]'(by omega))
     ·refine AWp.cT (by simp) ?_
      refine AWp.g [4] [2, 3] ?_
      simp
      refine AWp.ret ?_
      simp [sameR, eqAll, range_not hn (hE.trans hpn)]
     ·refine AWp.cF (by simp) ?_
      refine AWp.skip ?_
      show AWp _ _ _ _
      refine AWp.gL [2, 3, 7] [2, 3] ?_
      simp
      refine ⟨n + 1, ⟨by omega, fun j hj => ?_⟩, by omega, ?_⟩
      ·by_cases hji : j = n
       ·subst hji; exact hE.trans hpn
       ·exact halln j (by omega)
      ·simp
       exact wrap64 (by omega) (by omega)
    ·refine AWp.cF (by simp [hn]) ?_
     refine AWp.exit ?_
     show AWp _ _ _ _
     refine AWp.seq ?_
     have en : eqAll sameA a.accs b.accs = true := range_all fun j hj => halln j (by omega)
     refine AWp.g [2, 3, 8] [2, 3] ?_
     simp
     refine AWp.block (AWp.while (fun o : Nat => [(2, .ptr 2 0), (3, .ptr 3 0), (8, .i .i64 o)]) (fun o => [(2, [.sl .fro 1 (rrE a.sets), .sl .fro 1 (rrC a.tals), .sl .fro 1 (rrA a.accs), .sl .fro 1 (rrN a.regs)]), (3, [.sl .fro 1 (rrE b.sets), .sl .fro 1 (rrC b.tals), .sl .fro 1 (rrA b.accs), .sl .fro 1 (rrN b.regs)])]) (fun o => o ≤ a.regs.length ∧ ∀ j, j < o → eqRow sameN a.regs b.regs j = true) (fun o => a.regs.length - o) [2, 3, 8] [2, 3] 0 (by simp) (by simp) ?_)
     rintro o ⟨hio, hallo⟩
     have hmo := ha.n0
     refine AWp.seq ?_
     refine AWp.g [2, 3, 8, 104] [2, 3] ?_
     simp
     by_cases ho : o < a.regs.length
     ·refine AWp.cT (by simp [ho]) ?_
      refine AWp.skip ?_
      show AWp _ _ _ _
      refine AWp.seq ?_
      refine AWp.block ?_
      have ko : o < b.regs.length := by omega
      have hE : eqRow sameN a.regs b.regs o = sameN a.regs[o] b.regs[o] := by simp [eqRow, ho, ko]
      have hg := c_ref12_Same a.regs[o] b.regs[o] (ha.n1 _ (List.getElem_mem ho)) (hb.n1 _ (List.getElem_mem ko))
      refine AWp.stepD 12 (fun z => if z = 10 then .b (sameN a.regs[o] (b.regs[o]'(by omega))) else .any) [2, 3, 8, 118] [2, 3] [(2, .ptr 2 0), (3, .ptr 3 0), (8, .i .i64 o), (118, .b (!sameN a.regs[o] (b.regs[o]'(by omega))))] [(2, [.sl .fro 1 (rrE a.sets), .sl .fro 1 (rrC a.tals), .sl .fro 1 (rrA a.accs), .sl .fro 1 (rrN a.regs)]), (3, [.sl .fro 1 (rrE b.sets), .sl .fro 1 (rrC b.tals), .sl .fro 1 (rrA b.accs), .sl .fro 1 (rrN b.regs)])] mix (by kernel_rfl) ?_ ?_
      ·simp [ho, ko, hg]
      cases hpo : sameN a.regs[o] (b.regs[o]'(by omega))
      ·refine AWp.cT (by simp) ?_
       refine AWp.g [4] [2, 3] ?_
       simp
       refine AWp.ret ?_
       simp [sameR, eqAll, range_not ho (hE.trans hpo)]
      ·refine AWp.cF (by simp) ?_
       refine AWp.skip ?_
       show AWp _ _ _ _
       refine AWp.gL [2, 3, 8] [2, 3] ?_
       simp
       refine ⟨o + 1, ⟨by omega, fun j hj => ?_⟩, by omega, ?_⟩
       ·by_cases hji : j = o
        ·subst hji; exact hE.trans hpo
        ·exact hallo j (by omega)
       ·simp
        exact wrap64 (by omega) (by omega)
     ·refine AWp.cF (by simp [ho]) ?_
      refine AWp.exit ?_
      show AWp _ _ _ _
      have eo : eqAll sameN a.regs b.regs = true := range_all fun j hj => hallo j (by omega)
      refine AWp.g [4] [2, 3] ?_
      simp
      refine AWp.ret ?_
      simp [sameR, hq, ei, em, en, eo]
end Go.AM
namespace Go.AM
def vE (e : Entry) : List UInt8 × List Dot := (e.key.toList, e.live)
def vC (c : Cel) : List UInt8 × Int := (c.key.toList, c.num)
def vAc (x : Acc) : List UInt8 × Int × Int × Int × Int × Int := (x.key.toList, x.a, x.b, x.c, x.d, x.e)
def vN (n : Nt) : List UInt8 × Int × Int × List UInt8 := (n.key.toList, n.t, n.rep, n.word.toList)
def PlainS (s : List Entry) : Prop := ∀ e ∈ s, e.dead = [] ∧ ∀ d ∈ e.live, mayD d = true
def PosN (l : List Nt) : Prop := ∀ n ∈ l, 0 ≤ n.t ∧ 0 ≤ n.rep
structure PlainW (w : Rw) : Prop where
 s : ∀ l ∈ w.sets, PlainS l
 n : ∀ l ∈ w.regs, PosN l
end Go.AM
