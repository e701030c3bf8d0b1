/- Sets of texts: a key put in, or out. -/
import Derived.Test.YtmhkagfncnnfdaaGreatAmF
import Derived.Test.YtmhkagfncnnfdaaGreatAmD
set_option linter.unusedSimpArgs false
set_option linter.unusedVariables false
namespace Go.AM
open Go.Proofs
theorem rows_dat {k : Nat} {R : List (List AV)} (h : Rows k R) : (R.flatten.all fun c => c.data && c.cellOk) = true := by
  have := boxF_dat h [] 0 R.length (by omega)
  unfold allDat boxF at this
  rw [List.append_nil, Nat.zero_mul, List.drop_zero, ← h.flat, List.take_length] at this
  exact this
theorem strs_rows (l : List ByteArray) : Rows 1 (strsAV l) := fun r hr => by
  obtain ⟨e, _, rfl⟩ := List.mem_map.1 hr
  exact ⟨rfl, fun c hc => by simp at hc; subst hc; rfl, rfl⟩
theorem strs_ins (l : List ByteArray) (i : Nat) (k : ByteArray) : (strsAV l).take i ++ [.s k] :: (strsAV l).drop i = strsAV (l.take i ++ k :: l.drop i) := by
  unfold strsAV
  rw [List.map_append, List.map_cons, List.map_take, List.map_drop]
theorem strs_del (l : List ByteArray) (i j : Nat) : (strsAV l).take i ++ (strsAV l).drop j = strsAV (l.take i ++ l.drop j) := by
  unfold strsAV
  rw [List.map_append, List.map_take, List.map_drop]
def padN (n : Nat) : List AV := List.replicate n AV.any
theorem padN_calm (n : Nat) : Calm (padN n) := Calm.replicate _ rfl
@[simp] theorem padN_length (n : Nat) : (padN n).length = n := List.length_replicate
theorem thereS_lt {l : List ByteArray} {k : ByteArray} (h : thereS l k = true) : placeS l k < l.length := by
  unfold thereS at h
  rcases Nat.lt_or_ge (placeS l k) l.length with hp | hp
  · exact hp
  · rw [List.getElem?_eq_none hp] at h; cases h
set_option maxRecDepth 8000 in
theorem c_Insert_StrN (k : ByteArray) : Pure Tryz.prog 60 [.sl .nl 1 [], .i .i64 0, .sl .fro 1 [[.s k]]] (.sl .own 1 [[.s k]]) := by
  refine proc_of (cx Tryz.prog 95 [0, 1, 2, 6, 7, 8, 9, 16, 22, 31, 68] [6]) 92 [.tmp 6] Tryz.func60 rfl rfl rfl rfl rfl rfl (Nat.le_refl _) rfl ?_
  refine AWp.go [0, 1, 2] [] fun K hK => ?_
  simp
  first | refine hK _ _ ?_ | refine ⟨by omega, hK _ _ ?_⟩ | refine ⟨by omega, by omega, hK _ _ ?_⟩
  clear hK K
  refine AWp.go [0, 1, 2] [] fun K hK => ?_
  simp
  first | refine hK _ _ ?_ | refine ⟨by omega, hK _ _ ?_⟩ | refine ⟨by omega, by omega, hK _ _ ?_⟩
  clear hK K
  refine AWp.go [0, 1, 2, 7] [] fun K hK => ?_
  simp
  first | refine hK _ _ ?_ | refine ⟨by omega, hK _ _ ?_⟩ | refine ⟨by omega, by omega, hK _ _ ?_⟩
  clear hK K
  refine AWp.seq ?_
  refine AWp.go [0, 1, 2, 7, 16] [] fun K hK => ?_
  simp
  first | refine hK _ _ ?_ | refine ⟨by omega, hK _ _ ?_⟩ | refine ⟨by omega, by omega, hK _ _ ?_⟩
  clear hK K
  refine AWp.cond (t := false) (by first | (simp; done) | (simp; omega)) (by simp) (fun _ => ?_)
  refine AWp.skip ?_
  show AWp _ _ _ _
  refine AWp.go [0, 1, 2, 7, 8] [] fun K hK => ?_
  simp
  first | refine hK _ _ ?_ | refine ⟨by omega, hK _ _ ?_⟩ | refine ⟨by omega, by omega, hK _ _ ?_⟩
  clear hK K
  refine AWp.seq ?_
  refine AWp.go [0, 1, 2, 7, 8, 22] [] fun K hK => ?_
  simp
  first | refine hK _ _ ?_ | refine ⟨by omega, hK _ _ ?_⟩ | refine ⟨by omega, by omega, hK _ _ ?_⟩
  clear hK K
  refine AWp.cond (t := true) (by first | (simp; done) | (simp; omega)) (fun _ => ?_) (by simp)
  refine AWp.go [6] [] fun K hK => ?_
  simp
  first | refine hK _ _ ?_ | refine ⟨by omega, hK _ _ ?_⟩ | refine ⟨by omega, by omega, hK _ _ ?_⟩
  clear hK K
  refine AWp.ret ?_
  simp
def putT (l : List ByteArray) (k : ByteArray) (is : Bool) : List ByteArray := if is && !thereS l k then l.take (placeS l k) ++ k :: l.drop (placeS l k) else if !is && thereS l k then l.take (placeS l k) ++ l.drop (placeS l k + 1) else l
set_option maxRecDepth 8000 in
set_option maxHeartbeats 8000000 in
theorem c_eval_put (l : List ByteArray) (k : ByteArray) (is : Bool) (hl : l.length ≤ 100000) : Pure Tryz.prog 30 [.sl .fro 1 (strsAV l), .s k, .b is] (.sl .own 1 (strsAV (putT l k is))) := by
  have hpl := placeS_le l k
  refine proc_of (cx Tryz.prog 41 [0, 1, 2, 6, 7, 8, 9, 18, 29] [6]) 38 [.tmp 6] Tryz.func30 rfl rfl rfl rfl rfl rfl (Nat.le_refl _) rfl ?_
  refine AWp.go [0, 1, 2] [] fun K hK => ?_
  simp
  first | refine hK _ _ ?_ | refine ⟨by omega, hK _ _ ?_⟩ | refine ⟨by omega, by omega, hK _ _ ?_⟩
  clear hK K
  refine AWp.go [1, 2, 7] [] fun K hK => ?_
  simp
  refine call_pure (c_Clone_Str l (by omega)) (by simp) ?_
  simp
  first | refine hK _ _ ?_ | refine ⟨by omega, hK _ _ ?_⟩ | refine ⟨by omega, by omega, hK _ _ ?_⟩
  clear hK K
  refine AWp.go [1, 2, 7, 8, 9] [] fun K hK => ?_
  simp
  refine call_flat (c_BinarySearch_Str l k (by omega)) (by simp) rfl ?_
  simp
  first | refine hK _ _ ?_ | refine ⟨by omega, hK _ _ ?_⟩ | refine ⟨by omega, by omega, hK _ _ ?_⟩
  clear hK K
  refine AWp.seq ?_
  refine AWp.block ?_
  refine AWp.step [1, 2, 7, 8, 9, 18] [] [(1, .s k), (2, .b is), (7, .sl .own 1 (strsAV l)), (8, .i .i64 (placeS l k)), (9, .b (thereS l k)), (18, .b (is && !thereS l k))] [] ?_ ?_
  · cases is <;> simp
  cases q1 : is && !thereS l k
  · refine AWp.cond (t := false) (by simp) (by simp) (fun _ => ?_)
    refine AWp.step [7, 8, 29] [] [(7, .sl .own 1 (strsAV l)), (8, .i .i64 (placeS l k)), (29, .b (!is && thereS l k))] [] ?_ ?_
    · cases is <;> simp
    cases q2 : !is && thereS l k
    · refine AWp.cond (t := false) (by simp) (by simp) (fun _ => ?_)
      refine AWp.skip ?_
      show AWp _ _ _ _
      refine AWp.go [6] [] fun K hK => ?_
      simp
      first | refine hK _ _ ?_ | refine ⟨by omega, hK _ _ ?_⟩ | refine ⟨by omega, by omega, hK _ _ ?_⟩
      clear hK K
      refine AWp.ret ?_
      simp [putT, q1, q2]
    · refine AWp.cond (t := true) (by simp) (fun _ => ?_) (by simp)
      have hT : putT l k is = l.take (placeS l k) ++ l.drop (placeS l k + 1) := by rw [putT, if_neg (by rw [q1]; simp), if_pos q2]
      obtain ⟨L, hL⟩ : ∃ L, L = l.take (placeS l k) ++ l.drop (placeS l k + 1) := ⟨_, rfl⟩
      have hth : thereS l k = true := by simp only [Bool.and_eq_true] at q2; exact q2.2
      have hlt := thereS_lt hth
      have hLl : L.length = l.length - 1 := by rw [hL]; simp; omega
      have hw1 : IntKind.i64.wrap ((placeS l k : Int) + 1) = (placeS l k : Int) + 1 := wrap64 (by omega) (by omega)
      have hnn : strsAV l ≠ [] := fun h0 => by
        have h2 : (strsAV l).length = 0 := by rw [h0]; rfl
        simp at h2
        rw [h2] at hlt
        simp at hlt
      refine AWp.unown 7 100 rfl (by simp) hnn rfl (by simp) fun cap hcap => ?_
      obtain ⟨pd, hpd⟩ : ∃ pd, pd = padN (cap - l.length) := ⟨_, rfl⟩
      have hpc : Calm pd := by rw [hpd]; exact padN_calm _
      have hpdl : pd.length = cap - l.length := by rw [hpd]; simp
      have hcc : Calm (boxF (strsAV l) pd) := boxF_calm (strs_rows l) hpc
      have e0 : (strsAV l).flatten ++ List.replicate (cap - l.length) AV.any = boxF (strsAV l) pd := by rw [hpd]; rfl
      simp at hcap
      simp [e0, hcc]
      have hDel := c_DeleteB_Str (strsAV l) pd (placeS l k) (placeS l k + 1) cap (strs_rows l) (by omega) (by simp; omega) hpc (by simp; omega) (by simp; omega) (by simp [hpdl])
      rw [strs_del, ← hL, strsAV_length, show placeS l k + 1 - placeS l k = 1 by omega] at hDel
      obtain ⟨p2, hp2⟩ : ∃ p2, p2 = zerosL [AV.s ByteArray.empty] 1 ++ pd := ⟨_, rfl⟩
      rw [← hp2] at hDel
      have hcp2 : Calm p2 := by rw [hp2]; exact (Calm.zeros (fun c hc => by simp at hc; subst hc; rfl) 1).append hpc
      have hCT : Calm (boxF (strsAV L) p2) := boxF_calm (strs_rows L) hcp2
      refine AWp.goS [6] [] fun K hK => ?_
      refine SOps.cut 5 rfl fun K' hK' => ?_
      simp [hcc, hw1]
      refine call_proc [(0, 100)] none hDel (by simp) (by simp) ?_
      simp [hcc, hCT]
      refine ⟨by simpa using hcc.still, by simpa using hCT.still, hK' _ _ ?_⟩
      clear hK'
      rw [← hLl]
      have hrl : (strsAV L).flatten.length = L.length := by have := (strs_rows L).flat; simpa using this
      refine SOps.reown 39 100 cap (sz := 1) (strsAV L) p2 (by simp) (by simp) (by simp; rfl) ?_ (fun z hz => ?_) (rows_dat (strs_rows L)) hCT.freeL ?_
      · rw [List.length_append, hrl, hp2]; simp [zerosL, hpdl]; omega
      · obtain ⟨x, _, rfl⟩ := List.mem_map.1 hz; rfl
      simp
      refine SOps.cut 1 rfl fun K3 hK3 => ?_
      simp
      refine hK3 _ _ (SOps.nil ?_)
      simp
      refine hK _ _ (AWp.ret ?_)
      simp [hT, ← hL]
  · refine AWp.cond (t := true) (by simp) (fun _ => ?_) (by simp)
    have hT : putT l k is = l.take (placeS l k) ++ k :: l.drop (placeS l k) := by rw [putT, if_pos q1]
    obtain ⟨L, hL⟩ : ∃ L, L = l.take (placeS l k) ++ k :: l.drop (placeS l k) := ⟨_, rfl⟩
    have hLl : L.length = l.length + 1 := by rw [hL]; simp; omega
    refine AWp.unown0 7 100 rfl (by simp) rfl (by simp) (fun h0 => ?_) fun cap hcap => ?_
    · have h0 : l = [] := by simpa [strsAV] using h0
      subst h0
      have hp0 : placeS [] k = 0 := bsF_done _ 0
      rw [hp0] at hL hT ⊢
      simp
      refine AWp.go [6] [] fun K hK => ?_
      simp
      refine call_procK [] none (c_Insert_StrN k) (by simp) (by simp) ?_
      simp
      refine hK _ _ (AWp.ret ?_)
      simp [hT, strsAV]
    · obtain ⟨pd, hpd⟩ : ∃ pd, pd = padN (cap - l.length) := ⟨_, rfl⟩
      have hpc : Calm pd := by rw [hpd]; exact padN_calm _
      have hpdl : pd.length = cap - l.length := by rw [hpd]; simp
      have hcc : Calm (boxF (strsAV l) pd) := boxF_calm (strs_rows l) hpc
      have e0 : (strsAV l).flatten ++ List.replicate (cap - l.length) AV.any = boxF (strsAV l) pd := by rw [hpd]; rfl
      simp at hcap
      simp [e0, hcc]
      refine AWp.goS [6] [] fun K hK => ?_
      refine SOps.cut 4 rfl fun K' hK' => ?_
      simp [hcc]
      refine hK' _ _ ?_
      clear hK'
      refine SOps.unown 27 101 rfl (by simp) (by simp) rfl (by simp) fun c1 hc1 => ?_
      simp [hcc]
      obtain ⟨X, hX⟩ : ∃ X, X = AV.s k :: List.replicate (c1 - 1) AV.any := ⟨_, rfl⟩
      have hXc : Calm X := by rw [hX]; exact ((strs_rows [k]) _ (List.mem_singleton.2 rfl)).2.1.append (Calm.replicate _ rfl)
      have hXt : List.take 1 X = [.s k] := by rw [hX]; rfl
      have hXl : 1 ≤ X.length := by rw [hX]; simp
      rw [← hX]
      refine SOps.cut 1 rfl fun K2 hK2 => ?_
      simp [hcc]
      have hins := strs_ins l (placeS l k) k
      rw [← hL] at hins
      by_cases hroom : l.length < cap
      · have hIns := c_Insert1_Str (strsAV l) [.s k] X pd (placeS l k) cap c1 (strs_rows l) (strs_rows [k]) hXc hXt hXl (by simpa using hpl) hpc (by simpa using hroom) (by simp; omega) (by simp [hpdl])
        rw [hins, strsAV_length] at hIns
        obtain ⟨p2, hp2⟩ : ∃ p2, p2 = pd.tail := ⟨_, rfl⟩
        rw [← hp2] at hIns
        have hcp : Calm p2 := by rw [hp2]; have := hpc.drop 1; simpa using this
        have hC2 : Calm (boxF (strsAV L) p2) := boxF_calm (strs_rows L) hcp
        refine call_proc [(0, 100), (1, 101)] none hIns (by simp) (by simp) ?_
        simp [hcc, hXc, hC2]
        refine ⟨⟨by simpa using hcc.still, by simpa using hXc.still⟩, ⟨by simpa using hC2.still, by simpa using hXc.still⟩, hK2 _ _ ?_⟩
        have hrl : (strsAV L).flatten.length = L.length := by have := (strs_rows L).flat; simpa using this
        rw [← hLl]
        refine SOps.reown 28 100 cap (sz := 1) (strsAV L) p2 (by simp) (by simp) rfl ?_ (fun z hz => ?_) (rows_dat (strs_rows L)) hC2.freeL ?_
        · rw [List.length_append, hrl, hp2, List.length_tail, hpdl]; omega
        · obtain ⟨x, _, rfl⟩ := List.mem_map.1 hz; rfl
        simp [hXc]
        refine SOps.cut 1 rfl fun K3 hK3 => ?_
        simp [hXc]
        refine hK3 _ _ (SOps.nil ?_)
        simp
        refine hK _ _ (AWp.ret ?_)
        simp [hT, ← hL]
      · have hcl : cap = l.length := by omega
        subst hcl
        have hIns := c_Insert2_Str (strsAV l) [.s k] X pd (placeS l k) c1 (strs_rows l) (strs_rows [k]) hXc hXt hXl (by simpa using hpl) hpc (by simp; omega) (by omega)
        rw [hins, strsAV_length] at hIns
        refine call_proc [(0, 100), (1, 101)] none hIns (by simp) (by simp) ?_
        simp [hcc, hXc]
        refine ⟨⟨by simpa using hcc.still, by simpa using hXc.still⟩, hK2 _ _ ?_⟩
        refine SOps.cut 1 rfl fun K3 hK3 => ?_
        simp [hXc]
        refine hK3 _ _ (SOps.nil ?_)
        simp
        refine hK _ _ (AWp.ret ?_)
        simp [hT, ← hL]
end Go.AM
namespace Go.AM
open Go.Proofs
theorem cels_rows (l : List Cel) : Rows 2 (celsAV l) := fun r hr => by
  obtain ⟨e, _, rfl⟩ := List.mem_map.1 hr
  exact ⟨rfl, fun c hc => by simp [celC] at hc; rcases hc with rfl | rfl <;> rfl, rfl⟩
theorem cels_ins (l : List Cel) (i : Nat) (k : Cel) : (celsAV l).take i ++ celC k :: (celsAV l).drop i = celsAV (l.take i ++ k :: l.drop i) := by
  unfold celsAV
  rw [List.map_append, List.map_cons, List.map_take, List.map_drop]
theorem cels_del (l : List Cel) (i j : Nat) : (celsAV l).take i ++ (celsAV l).drop j = celsAV (l.take i ++ l.drop j) := by
  unfold celsAV
  rw [List.map_append, List.map_take, List.map_drop]
theorem cmpB_lt : ∀ a b : List UInt8, Lib.compareBytes a b < 0 ↔ a < b
  | [], [] => by simp [Lib.compareBytes]
  | [], b :: bs => by simp [Lib.compareBytes]
  | a :: l, [] => by simp [Lib.compareBytes]
  | a :: l, b :: m => by
    rw [Lib.compareBytes, List.cons_lt_cons_iff]
    by_cases h1 : a < b
    · simp [h1]
    · by_cases h2 : b < a
      · have h3 : ¬ a = b := by rintro rfl; exact h1 h2
        simp [h1, h2, h3]
      · have h3 : a = b := UInt8.le_antisymm (UInt8.not_lt.1 h2) (UInt8.not_lt.1 h1)
        subst h3
        simp [h1, cmpB_lt l m]
theorem cmpB_eq : ∀ a b : List UInt8, Lib.compareBytes a b = 0 ↔ a = b
  | [], [] => by simp [Lib.compareBytes]
  | [], b :: bs => by simp [Lib.compareBytes]
  | a :: l, [] => by simp [Lib.compareBytes]
  | a :: l, b :: m => by
    rw [Lib.compareBytes]
    by_cases h1 : a < b
    · have h3 : ¬ a = b := by rintro rfl; exact UInt8.lt_irrefl _ h1
      simp [h1, h3]
    · by_cases h2 : b < a
      · have h3 : ¬ a = b := by rintro rfl; exact UInt8.lt_irrefl _ h2
        simp [h1, h2, h3]
      · have h3 : a = b := UInt8.le_antisymm (UInt8.not_lt.1 h2) (UInt8.not_lt.1 h1)
        subst h3
        simp [h1, cmpB_eq l m]
theorem toList_data (k : ByteArray) : k.data.toList = k.toList := (ByteArray.toList_eq k).symm
theorem cmpK_lt (a b : ByteArray) : decide (cmpK a b < 0) = ltK a b := by
  rw [Bool.eq_iff_iff, decide_eq_true_eq, ltK_iff, cmpK, toList_data, toList_data]; exact cmpB_lt _ _
theorem cmpK_eq (a b : ByteArray) : decide (cmpK a b = 0) = eqK a b := by
  rw [Bool.eq_iff_iff, decide_eq_true_eq, cmpK, toList_data, toList_data, cmpB_eq]; simp [eqK]
@[simp] theorem St.setAt_slot (st : St) (t : Nat) (x : AV) : st.setAt (.slot t []) x = st.put t x := rfl
@[simp] theorem St.setAt_cell (st : St) (id j : Nat) (x : AV) : st.setAt (.cell id j) x = st.setBox id ((st.boxes id).map fun cs => cs.set j x) := rfl
attribute [simp] selfTake
theorem c_eval_more1 (c : Cel) (k : ByteArray) : Pure Tryz.prog 63 [.agg (celC c), .s k] (.i .i64 (cmpK c.key k)) := by
  refine proc_of (cx Tryz.prog 9 [1, 2, 4] [4]) 7 [.tmp 4] Tryz.func63 rfl rfl rfl rfl rfl rfl (Nat.le_refl _) rfl ?_
  refine AWp.go [1, 2] [2] fun K hK => ?_
  simp [celC]
  first | refine hK _ _ ?_ | refine ⟨by omega, hK _ _ ?_⟩ | refine ⟨by omega, by omega, hK _ _ ?_⟩
  clear hK K
  refine AWp.go [4] [] fun K hK => ?_
  simp
  refine call_pure (c_Compare c.key k) (by simp) ?_
  simp
  first | refine hK _ _ ?_ | refine ⟨by omega, hK _ _ ?_⟩ | refine ⟨by omega, by omega, hK _ _ ?_⟩
  clear hK K
  refine AWp.ret ?_
  simp
theorem lessC_at (l : List Cel) (k : ByteArray) (i : Nat) (h : i < l.length) : lessS (celKeys l) k i = ltK l[i].key k := by simp [lessS, celKeys, h]
set_option maxRecDepth 8000 in
set_option maxHeartbeats 2000000 in
theorem c_BSearch_Cel (s : List Cel) (k : ByteArray) (hs : s.length ≤ 1000000) : Pure Tryz.prog 62 [.sl .fro 2 (celsAV s), .s k, .fn 63 [] []] (.tup [.i .i64 (placeS (celKeys s) k), .b (thereS (celKeys s) k)]) := by
  refine proc_of (cx Tryz.prog 49 [0, 1, 2, 6, 7, 8, 9, 10, 11, 17, 31] [6, 7]) 46 [.tmp 6, .tmp 7] Tryz.func62 rfl rfl rfl rfl rfl rfl (Nat.le_refl _) rfl ?_
  refine AWp.go [0, 1, 2] [] fun K hK => ?_
  simp
  first | refine hK _ _ ?_ | refine ⟨by omega, hK _ _ ?_⟩ | refine ⟨by omega, by omega, hK _ _ ?_⟩
  clear hK K
  refine AWp.go [0, 1, 2, 8] [] fun K hK => ?_
  simp
  first | refine hK _ _ ?_ | refine ⟨by omega, hK _ _ ?_⟩ | refine ⟨by omega, by omega, hK _ _ ?_⟩
  clear hK K
  refine AWp.go [0, 1, 2, 8, 9, 10] [] fun K hK => ?_
  simp
  first | refine hK _ _ ?_ | refine ⟨by omega, hK _ _ ?_⟩ | refine ⟨by omega, by omega, hK _ _ ?_⟩
  clear hK K
  refine AWp.seq ?_
  refine AWp.block (AWp.while (fun p : Nat × Nat => [(0, .sl .fro 2 (celsAV s)), (1, .s k), (2, .fn 63 [] []), (8, .i .i64 s.length), (9, .i .i64 p.1), (10, .i .i64 p.2)]) (fun p => []) (fun p => p.1 ≤ p.2 ∧ p.2 ≤ s.length ∧ bsF (lessS (celKeys s) k) p.1 p.2 = placeS (celKeys s) k) (fun p => p.2 - p.1) [0, 1, 2, 8, 9, 10] [] (0, s.length) (by exact ⟨Nat.zero_le _, Nat.le_refl _, by unfold placeS; rw [celKeys_length]⟩) (by simp) ?_)
  rintro ⟨lo, hi⟩ ⟨h1, h2, h3⟩
  refine AWp.seq ?_
  refine AWp.go [0, 1, 2, 8, 9, 10, 17] [] fun K hK => ?_
  simp
  first | refine hK _ _ ?_ | refine ⟨by omega, hK _ _ ?_⟩ | refine ⟨by omega, by omega, hK _ _ ?_⟩
  clear hK K
  by_cases h : lo < hi
  · refine AWp.cond (t := true) (by first | (simp [h]; done) | (simp [h]; omega)) (fun _ => ?_) (by simp)
    refine AWp.skip ?_
    show AWp _ _ _ _
    refine AWp.block ?_
    obtain ⟨m, hm⟩ : ∃ m : Nat, m = (lo + hi) / 2 := ⟨_, rfl⟩
    have hml : m < s.length := by omega
    refine AWp.step [0, 1, 2, 8, 9, 10, 11] [] [(0, .sl .fro 2 (celsAV s)), (1, .s k), (2, .fn 63 [] []), (8, .i .i64 s.length), (9, .i .i64 lo), (10, .i .i64 hi), (11, .i .i64 m)] [] ?_ ?_
    · have w1 : IntKind.i64.wrap ((lo : Int) + hi) = (lo : Int) + hi := wrap64 (by omega) (by omega)
      simp [w1]
      exact mid_wrap (by omega) hm
    refine AWp.step [0, 1, 2, 8, 9, 10, 11, 31] [] [(0, .sl .fro 2 (celsAV s)), (1, .s k), (2, .fn 63 [] []), (8, .i .i64 s.length), (9, .i .i64 lo), (10, .i .i64 hi), (11, .i .i64 m), (31, .b (ltK s[m].key k))] [] ?_ ?_
    · simp [hml]
      refine call_pure (c_eval_more1 s[m] k) (by simp [celC]) ?_
      simp [cmpK_lt]
    cases hp : ltK s[m].key k
    · refine AWp.cond (t := false) (by simp) (by simp) (fun _ => ?_)
      refine AWp.goLast [0, 1, 2, 8, 9, 10] [] fun K hK => ?_
      simp
      first | refine hK _ _ ?_ | refine ⟨by omega, hK _ _ ?_⟩ | refine ⟨by omega, by omega, hK _ _ ?_⟩
      clear hK K
      refine ⟨(lo, m), ⟨by simp; omega, by simp; omega, ?_⟩, by simp; omega, ?_⟩
      · rw [bsF, if_pos h, ← hm, if_neg (by rw [lessC_at s k m hml, hp]; simp)] at h3
        exact h3
      · simp
    · refine AWp.cond (t := true) (by simp) (fun _ => ?_) (by simp)
      refine AWp.goLast [0, 1, 2, 8, 9, 10] [] fun K hK => ?_
      simp (disch := omega) [wrap64]
      first | refine hK _ _ ?_ | refine ⟨by omega, hK _ _ ?_⟩ | refine ⟨by omega, by omega, hK _ _ ?_⟩
      clear hK K
      refine ⟨(m + 1, hi), ⟨by simp; omega, h2, ?_⟩, by simp; omega, ?_⟩
      · rw [bsF, if_pos h, ← hm, if_pos (by rw [lessC_at s k m hml, hp])] at h3
        exact h3
      · simp
  · refine AWp.cond (t := false) (by first | (simp [h]; done) | (simp [h]; omega)) (by simp) (fun _ => ?_)
    refine AWp.exit ?_
    show AWp _ _ _ _
    obtain rfl : lo = hi := by omega
    rw [bsF_done] at h3
    refine AWp.step [6, 7] [] [(6, .i .i64 (placeS (celKeys s) k)), (7, .b (thereS (celKeys s) k))] [] ?_ ?_
    · have hth : thereS (celKeys s) k = if h : lo < s.length then eqK s[lo].key k else false := by
        unfold thereS
        rw [← h3]
        by_cases hq : lo < s.length <;> simp [celKeys, hq]
      by_cases hq : lo < s.length
      · simp [hq, ← h3]
        refine call_pure (c_eval_more1 s[lo] k) (by simp [celC]) ?_
        simp [hth, hq, cmpK_eq]
      · simp [hq, hth, ← h3]
    refine AWp.ret ?_
    simp
set_option maxRecDepth 8000 in
theorem c_Insert_CelN (c : Cel) : Pure Tryz.prog 65 [.sl .nl 2 [], .i .i64 0, .sl .fro 2 [celC c]] (.sl .own 2 [celC c]) := by
  refine proc_of (cx Tryz.prog 95 [0, 1, 2, 6, 7, 8, 9, 16, 22, 31, 68] [6]) 92 [.tmp 6] Tryz.func65 rfl rfl rfl rfl rfl rfl (Nat.le_refl _) rfl ?_
  refine AWp.go [0, 1, 2] [] fun K hK => ?_
  simp
  first | refine hK _ _ ?_ | refine ⟨by omega, hK _ _ ?_⟩ | refine ⟨by omega, by omega, hK _ _ ?_⟩
  clear hK K
  refine AWp.go [0, 1, 2] [] fun K hK => ?_
  simp
  first | refine hK _ _ ?_ | refine ⟨by omega, hK _ _ ?_⟩ | refine ⟨by omega, by omega, hK _ _ ?_⟩
  clear hK K
  refine AWp.go [0, 1, 2, 7] [] fun K hK => ?_
  simp
  first | refine hK _ _ ?_ | refine ⟨by omega, hK _ _ ?_⟩ | refine ⟨by omega, by omega, hK _ _ ?_⟩
  clear hK K
  refine AWp.seq ?_
  refine AWp.go [0, 1, 2, 7, 16] [] fun K hK => ?_
  simp
  first | refine hK _ _ ?_ | refine ⟨by omega, hK _ _ ?_⟩ | refine ⟨by omega, by omega, hK _ _ ?_⟩
  clear hK K
  refine AWp.cond (t := false) (by first | (simp; done) | (simp; omega)) (by simp) (fun _ => ?_)
  refine AWp.skip ?_
  show AWp _ _ _ _
  refine AWp.go [0, 1, 2, 7, 8] [] fun K hK => ?_
  simp
  first | refine hK _ _ ?_ | refine ⟨by omega, hK _ _ ?_⟩ | refine ⟨by omega, by omega, hK _ _ ?_⟩
  clear hK K
  refine AWp.seq ?_
  refine AWp.go [0, 1, 2, 7, 8, 22] [] fun K hK => ?_
  simp
  first | refine hK _ _ ?_ | refine ⟨by omega, hK _ _ ?_⟩ | refine ⟨by omega, by omega, hK _ _ ?_⟩
  clear hK K
  refine AWp.cond (t := true) (by first | (simp; done) | (simp; omega)) (fun _ => ?_) (by simp)
  refine AWp.go [6] [] fun K hK => ?_
  simp
  first | refine hK _ _ ?_ | refine ⟨by omega, hK _ _ ?_⟩ | refine ⟨by omega, by omega, hK _ _ ?_⟩
  clear hK K
  refine AWp.ret ?_
  simp
def moreT (l : List Cel) (k : ByteArray) (n : Int) : List Cel :=
  if !thereS (celKeys l) k then l.take (placeS (celKeys l) k) ++ ⟨k, n⟩ :: l.drop (placeS (celKeys l) k)
  else match l[placeS (celKeys l) k]? with
    | some c => if c.num = -n then l.take (placeS (celKeys l) k) ++ l.drop (placeS (celKeys l) k + 1) else l.set (placeS (celKeys l) k) ⟨c.key, c.num + n⟩
    | none => l
set_option maxRecDepth 8000 in
set_option maxHeartbeats 8000000 in
theorem c_eval_more (l : List Cel) (k : ByteArray) (n : Int) (hl : l.length ≤ 100000) (hn : -1000000000 ≤ n ∧ n ≤ 1000000000) (hln : ∀ c ∈ l, -1000000000 ≤ c.num ∧ c.num ≤ 1000000000) : Pure Tryz.prog 31 [.sl .fro 2 (celsAV l), .s k, .i .i64 n] (.sl .own 2 (celsAV (moreT l k n))) := by
  have hpl : placeS (celKeys l) k ≤ l.length := by have := placeS_le (celKeys l) k; simpa using this
  have wn : IntKind.i64.wrap (-n) = -n := wrap64 (by omega) (by omega)
  refine proc_of (cx Tryz.prog 52 [0, 1, 2, 6, 7, 8, 9, 18, 28] [6]) 49 [.tmp 6] Tryz.func31 rfl rfl rfl rfl rfl rfl (Nat.le_refl _) rfl ?_
  refine AWp.go [0, 1, 2] [] fun K hK => ?_
  simp
  first | refine hK _ _ ?_ | refine ⟨by omega, hK _ _ ?_⟩ | refine ⟨by omega, by omega, hK _ _ ?_⟩
  clear hK K
  refine AWp.go [1, 2, 7] [] fun K hK => ?_
  simp
  refine call_pure (c_Clone_Cel l (by omega)) (by simp) ?_
  simp
  first | refine hK _ _ ?_ | refine ⟨by omega, hK _ _ ?_⟩ | refine ⟨by omega, by omega, hK _ _ ?_⟩
  clear hK K
  refine AWp.go [1, 2, 7, 8, 9] [] fun K hK => ?_
  simp
  refine call_flat (c_BSearch_Cel l k (by omega)) (by simp) rfl ?_
  simp
  first | refine hK _ _ ?_ | refine ⟨by omega, hK _ _ ?_⟩ | refine ⟨by omega, by omega, hK _ _ ?_⟩
  clear hK K
  refine AWp.seq ?_
  refine AWp.block ?_
  refine AWp.step [1, 2, 7, 8, 18] [] [(1, .s k), (2, .i .i64 n), (7, .sl .own 2 (celsAV l)), (8, .i .i64 (placeS (celKeys l) k)), (18, .b (!thereS (celKeys l) k))] [] ?_ ?_
  · simp
  cases q1 : !thereS (celKeys l) k
  · refine AWp.cond (t := false) (by simp) (by simp) (fun _ => ?_)
    have hth : thereS (celKeys l) k = true := by simpa using q1
    have hlt : placeS (celKeys l) k < l.length := by have := thereS_lt hth; simpa using this
    have hb := hln _ (List.getElem_mem hlt)
    refine AWp.step [2, 7, 8, 28] [] [(2, .i .i64 n), (7, .sl .own 2 (celsAV l)), (8, .i .i64 (placeS (celKeys l) k)), (28, .b (decide (l[placeS (celKeys l) k].num = -n)))] [] ?_ ?_
    · simp [hlt, wn]
    by_cases q2 : l[placeS (celKeys l) k].num = -n
    · refine AWp.cond (t := true) (by first | (simp [q2]; done) | (simp [q2]; omega)) (fun _ => ?_) (by simp)
      have hT : moreT l k n = l.take (placeS (celKeys l) k) ++ l.drop (placeS (celKeys l) k + 1) := by rw [moreT, if_neg (by rw [q1]; simp)]; simp [hlt, q2]
      obtain ⟨L, hL⟩ : ∃ L, L = l.take (placeS (celKeys l) k) ++ l.drop (placeS (celKeys l) k + 1) := ⟨_, rfl⟩
      have hLl : L.length = l.length - 1 := by rw [hL]; simp; omega
      have hw1 : IntKind.i64.wrap ((placeS (celKeys l) k : Int) + 1) = (placeS (celKeys l) k : Int) + 1 := wrap64 (by omega) (by omega)
      have hnn : celsAV l ≠ [] := fun h0 => by
        have h2 : (celsAV l).length = 0 := by rw [h0]; rfl
        simp at h2
        rw [h2] at hlt
        simp at hlt
      refine AWp.unown 7 100 rfl (by simp) hnn rfl (by simp) fun cap hcap => ?_
      obtain ⟨pd, hpd⟩ : ∃ pd, pd = padN ((cap - l.length) * 2) := ⟨_, rfl⟩
      have hpc : Calm pd := by rw [hpd]; exact padN_calm _
      have hpdl : pd.length = (cap - l.length) * 2 := by rw [hpd]; simp
      have hcc : Calm (boxF (celsAV l) pd) := boxF_calm (cels_rows l) hpc
      have e0 : (celsAV l).flatten ++ List.replicate ((cap - l.length) * 2) AV.any = boxF (celsAV l) pd := by rw [hpd]; rfl
      simp at hcap
      simp [e0, hcc]
      have hDel := c_DeleteB_Cel (celsAV l) pd (placeS (celKeys l) k) (placeS (celKeys l) k + 1) cap (cels_rows l) (by omega) (by simp; omega) hpc (by simp; omega) (by simp; omega) (by simp [hpdl])
      rw [cels_del, ← hL, celsAV_length, show placeS (celKeys l) k + 1 - placeS (celKeys l) k = 1 by omega] at hDel
      obtain ⟨p2, hp2⟩ : ∃ p2, p2 = zerosL [AV.s ByteArray.empty, .i .i64 0] 1 ++ pd := ⟨_, rfl⟩
      rw [← hp2] at hDel
      have hcp2 : Calm p2 := by rw [hp2]; exact (Calm.zeros (fun c hc => by simp at hc; rcases hc with rfl | rfl <;> rfl) 1).append hpc
      have hCT : Calm (boxF (celsAV L) p2) := boxF_calm (cels_rows L) hcp2
      refine AWp.goS [6] [] fun K hK => ?_
      refine SOps.cut 5 rfl fun K' hK' => ?_
      simp [hcc, hw1]
      refine call_proc [(0, 100)] none hDel (by simp) (by simp) ?_
      simp [hcc, hCT]
      refine ⟨by simpa using hcc.still, by simpa using hCT.still, hK' _ _ ?_⟩
      clear hK'
      rw [← hLl]
      have hrl : (celsAV L).flatten.length = L.length * 2 := by have := (cels_rows L).flat; rw [celsAV_length] at this; exact this
      refine SOps.reown 41 100 cap (sz := 2) (celsAV L) p2 (by simp) (by simp) (by simp; rfl) ?_ (fun z hz => ?_) (rows_dat (cels_rows L)) hCT.freeL ?_
      · rw [List.length_append, hrl, hp2]; simp [zerosL, hpdl]; omega
      · obtain ⟨x, _, rfl⟩ := List.mem_map.1 hz; rfl
      simp
      refine SOps.cut 1 rfl fun K3 hK3 => ?_
      simp
      refine hK3 _ _ (SOps.nil ?_)
      simp
      refine hK _ _ (AWp.ret ?_)
      simp [hT, ← hL]
    · refine AWp.cond (t := false) (by first | (simp [q2]; done) | (simp [q2]; omega)) (by simp) (fun _ => ?_)
      refine AWp.skip ?_
      show AWp _ _ _ _
      have hT : moreT l k n = l.set (placeS (celKeys l) k) ⟨l[placeS (celKeys l) k].key, l[placeS (celKeys l) k].num + n⟩ := by rw [moreT, if_neg (by rw [q1]; simp)]; simp [hlt, q2]
      have hw : IntKind.i64.wrap (l[placeS (celKeys l) k].num + n) = l[placeS (celKeys l) k].num + n := wrap64 (by omega) (by omega)
      have hS : celsAV (moreT l k n) = (celsAV l).set (placeS (celKeys l) k) [.s l[placeS (celKeys l) k].key, .i .i64 (l[placeS (celKeys l) k].num + n)] := by rw [hT]; unfold celsAV; rw [List.map_set]; rfl
      refine AWp.go [7] [] fun K hK => ?_
      simp [hlt, hw]
      first | refine hK _ _ ?_ | refine ⟨by omega, hK _ _ ?_⟩ | refine ⟨by omega, by omega, hK _ _ ?_⟩
      clear hK K
      refine AWp.go [6] [] fun K hK => ?_
      simp
      first | refine hK _ _ ?_ | refine ⟨by omega, hK _ _ ?_⟩ | refine ⟨by omega, by omega, hK _ _ ?_⟩
      clear hK K
      refine AWp.ret ?_
      simp [hS]
  · refine AWp.cond (t := true) (by simp) (fun _ => ?_) (by simp)
    have hT : moreT l k n = l.take (placeS (celKeys l) k) ++ ⟨k, n⟩ :: l.drop (placeS (celKeys l) k) := by rw [moreT, if_pos q1]
    obtain ⟨L, hL⟩ : ∃ L, L = l.take (placeS (celKeys l) k) ++ ⟨k, n⟩ :: l.drop (placeS (celKeys l) k) := ⟨_, rfl⟩
    have hLl : L.length = l.length + 1 := by rw [hL]; simp; omega
    refine AWp.unown0 7 100 rfl (by simp) rfl (by simp) (fun h0 => ?_) fun cap hcap => ?_
    · have h0 : l = [] := by simpa [celsAV] using h0
      subst h0
      have hp0 : placeS (celKeys []) k = 0 := bsF_done _ 0
      rw [hp0] at hL hT ⊢
      simp
      refine AWp.go [6] [] fun K hK => ?_
      simp
      refine call_procK [] none (c_Insert_CelN ⟨k, n⟩) (by simp [celC]) (by simp) ?_
      simp
      refine hK _ _ (AWp.ret ?_)
      simp [hT, celsAV, celC]
    · obtain ⟨pd, hpd⟩ : ∃ pd, pd = padN ((cap - l.length) * 2) := ⟨_, rfl⟩
      have hpc : Calm pd := by rw [hpd]; exact padN_calm _
      have hpdl : pd.length = (cap - l.length) * 2 := by rw [hpd]; simp
      have hcc : Calm (boxF (celsAV l) pd) := boxF_calm (cels_rows l) hpc
      have e0 : (celsAV l).flatten ++ List.replicate ((cap - l.length) * 2) AV.any = boxF (celsAV l) pd := by rw [hpd]; rfl
      simp at hcap
      simp [e0, hcc]
      refine AWp.goS [6] [] fun K hK => ?_
      refine SOps.cut 6 rfl fun K' hK' => ?_
      simp [hcc]
      refine hK' _ _ ?_
      clear hK'
      refine SOps.unown 26 101 rfl (by simp) (by simp) rfl (by simp) fun c1 hc1 => ?_
      simp [hcc]
      obtain ⟨X, hX⟩ : ∃ X, X = AV.s k :: AV.i .i64 n :: List.replicate ((c1 - 1) * 2) AV.any := ⟨_, rfl⟩
      have hXc : Calm X := by rw [hX]; exact ((cels_rows [⟨k, n⟩]) _ (List.mem_singleton.2 rfl)).2.1.append (Calm.replicate _ rfl)
      have hXt : List.take 2 X = (celC ⟨k, n⟩) := by rw [hX]; rfl
      have hXl : 2 ≤ X.length := by rw [hX]; simp
      rw [← hX]
      refine SOps.cut 1 rfl fun K2 hK2 => ?_
      simp [hcc]
      have hins := cels_ins l (placeS (celKeys l) k) ⟨k, n⟩
      rw [← hL] at hins
      by_cases hroom : l.length < cap
      · have hIns := c_Insert1_Cel (celsAV l) (celC ⟨k, n⟩) X pd (placeS (celKeys l) k) cap c1 (cels_rows l) (cels_rows [⟨k, n⟩]) hXc hXt hXl (by simpa using hpl) hpc (by simpa using hroom) (by simp; omega) (by simp [hpdl])
        rw [hins, celsAV_length] at hIns
        obtain ⟨p2, hp2⟩ : ∃ p2, p2 = pd.drop 2 := ⟨_, rfl⟩
        rw [← hp2] at hIns
        have hcp : Calm p2 := by rw [hp2]; exact hpc.drop _
        have hC2 : Calm (boxF (celsAV L) p2) := boxF_calm (cels_rows L) hcp
        refine call_proc [(0, 100), (1, 101)] none hIns (by simp) (by simp) ?_
        simp [hcc, hXc, hC2]
        refine ⟨⟨by simpa using hcc.still, by simpa using hXc.still⟩, ⟨by simpa using hC2.still, by simpa using hXc.still⟩, hK2 _ _ ?_⟩
        have hrl : (celsAV L).flatten.length = L.length * 2 := by have := (cels_rows L).flat; rw [celsAV_length] at this; exact this
        rw [← hLl]
        refine SOps.reown 27 100 cap (sz := 2) (celsAV L) p2 (by simp) (by simp) rfl ?_ (fun z hz => ?_) (rows_dat (cels_rows L)) hC2.freeL ?_
        · rw [List.length_append, hrl, hp2, List.length_drop, hpdl]; omega
        · obtain ⟨x, _, rfl⟩ := List.mem_map.1 hz; rfl
        simp [hXc]
        refine SOps.cut 1 rfl fun K3 hK3 => ?_
        simp [hXc]
        refine hK3 _ _ (SOps.nil ?_)
        simp
        refine hK _ _ (AWp.ret ?_)
        simp [hT, ← hL]
      · have hcl : cap = l.length := by omega
        subst hcl
        have hIns := c_Insert2_Cel (celsAV l) (celC ⟨k, n⟩) X pd (placeS (celKeys l) k) c1 (cels_rows l) (cels_rows [⟨k, n⟩]) hXc hXt hXl (by simpa using hpl) hpc (by simp; omega) (by omega)
        rw [hins, celsAV_length] at hIns
        refine call_proc [(0, 100), (1, 101)] none hIns (by simp) (by simp) ?_
        simp [hcc, hXc]
        refine ⟨⟨by simpa using hcc.still, by simpa using hXc.still⟩, hK2 _ _ ?_⟩
        refine SOps.cut 1 rfl fun K3 hK3 => ?_
        simp [hXc]
        refine hK3 _ _ (SOps.nil ?_)
        simp
        refine hK _ _ (AWp.ret ?_)
        simp [hT, ← hL]
end Go.AM
namespace Go.AM
open Go.Proofs
theorem rowsS_set (l : List (List ByteArray)) (i : Nat) (x : List ByteArray) : (rowsS l).set i [.sl .fro 1 (strsAV x)] = rowsS (l.set i x) := by unfold rowsS; rw [List.map_set]
theorem rowsK_set (l : List (List Cel)) (i : Nat) (x : List Cel) : (rowsK l).set i [.sl .fro 2 (celsAV x)] = rowsK (l.set i x) := by unfold rowsK; rw [List.map_set]
set_option maxRecDepth 8000 in
set_option maxHeartbeats 4000000 in
theorem c_eval_copied (s : Sta) (hs : SlightS s) : Pure Tryz.prog 29 [.agg (staC s)] (.agg [.sl .own 1 (rowsS s.sets), .sl .own 1 (rowsK s.counts)]) := by
  obtain ⟨k1, k2, k3, k4⟩ := hs
  refine proc_of (cx Tryz.prog 48 [1, 2, 3, 4, 5, 15, 16, 17, 32, 33, 34] [2]) 47 [.cell 2 30] Tryz.func29 rfl rfl rfl rfl rfl rfl (Nat.le_refl _) rfl ?_
  refine AWp.go [1, 2] [1, 2] fun K hK => ?_
  simp [staC]
  first | refine hK _ _ ?_ | refine ⟨by omega, hK _ _ ?_⟩ | refine ⟨by omega, by omega, hK _ _ ?_⟩
  clear hK K
  refine AWp.stepT (.take 0 (.take 3 (.alt 1 (.alt 2 (.alt 4 (.alt 5 (.alt 6 (.alt 7 (.alt 8 .fin .stop) .stop) (.alt 7 (.alt 6 (.alt 8 .fin .stop) .stop) .stop)) (.alt 7 (.alt 5 (.alt 6 (.alt 8 .fin .stop) .stop) .stop) .stop)) (.alt 7 (.alt 4 (.alt 5 (.alt 6 (.alt 8 .fin .stop) .stop) .stop) .stop) .stop)) (.alt 4 (.alt 2 (.alt 5 (.alt 6 (.alt 7 (.alt 8 .fin .stop) .stop) (.alt 7 (.alt 6 (.alt 8 .fin .stop) .stop) .stop)) (.alt 7 (.alt 5 (.alt 6 (.alt 8 .fin .stop) .stop) .stop) .stop)) (.alt 7 (.alt 2 (.alt 5 (.alt 6 (.alt 8 .fin .stop) .stop) .stop) .stop) .stop)) (.alt 7 (.alt 2 (.alt 4 (.alt 5 (.alt 6 (.alt 8 .fin .stop) .stop) .stop) .stop) (.alt 4 (.alt 2 (.alt 5 (.alt 6 (.alt 8 .fin .stop) .stop) .stop) .stop) .stop)) .stop))) (.alt 4 (.alt 1 (.alt 2 (.alt 5 (.alt 6 (.alt 7 (.alt 8 .fin .stop) .stop) (.alt 7 (.alt 6 (.alt 8 .fin .stop) .stop) .stop)) (.alt 7 (.alt 5 (.alt 6 (.alt 8 .fin .stop) .stop) .stop) .stop)) (.alt 7 (.alt 2 (.alt 5 (.alt 6 (.alt 8 .fin .stop) .stop) .stop) .stop) .stop)) (.alt 7 (.alt 1 (.alt 2 (.alt 5 (.alt 6 (.alt 8 .fin .stop) .stop) .stop) .stop) .stop) .stop)) (.alt 7 (.alt 1 (.alt 2 (.alt 4 (.alt 5 (.alt 6 (.alt 8 .fin .stop) .stop) .stop) .stop) (.alt 4 (.alt 2 (.alt 5 (.alt 6 (.alt 8 .fin .stop) .stop) .stop) .stop) .stop)) (.alt 4 (.alt 1 (.alt 2 (.alt 5 (.alt 6 (.alt 8 .fin .stop) .stop) .stop) .stop) .stop) .stop)) .stop))))) [2, 3] [2, 3] [(2, .ptr 2 0), (3, .ptr 3 0)] [(2, [.sl .nl 1 [], .sl .nl 1 []]), (3, [.sl .own 1 (rowsS s.sets), .sl .own 1 (rowsK s.counts)])] mix (by kernel_rfl) ?_ ?_
  · refine atree.tk fun K1 h1 => ?_
    simp
    first | refine h1 _ _ ?_ | refine ⟨by omega, h1 _ _ ?_⟩ | refine ⟨by omega, by omega, h1 _ _ ?_⟩
    clear h1 K1
    refine atree.tk fun K1 h1 => ?_
    simp
    first | refine h1 _ _ ?_ | refine ⟨by omega, h1 _ _ ?_⟩ | refine ⟨by omega, by omega, h1 _ _ ?_⟩
    clear h1 K1
    refine atree.al (fun K1 h1 => ?_) ?_
    · simp
      first | refine h1 _ _ ?_ | refine ⟨by omega, h1 _ _ ?_⟩ | refine ⟨by omega, by omega, h1 _ _ ?_⟩
      clear h1 K1
      refine atree.al (fun K1 h1 => ?_) ?_
      · simp
        refine call_pure (c_Clone_StrRow s.sets (by omega)) (by simp) ?_
        simp
        first | refine h1 _ _ ?_ | refine ⟨by omega, h1 _ _ ?_⟩ | refine ⟨by omega, by omega, h1 _ _ ?_⟩
        clear h1 K1
        refine atree.al (fun K1 h1 => ?_) ?_
        · simp
          first | refine h1 _ _ ?_ | refine ⟨by omega, h1 _ _ ?_⟩ | refine ⟨by omega, by omega, h1 _ _ ?_⟩
          clear h1 K1
          refine atree.al (fun K1 h1 => ?_) ?_
          · simp
            refine call_pure (c_Clone_CelRow s.counts (by omega)) (by simp) ?_
            simp
            first | refine h1 _ _ ?_ | refine ⟨by omega, h1 _ _ ?_⟩ | refine ⟨by omega, by omega, h1 _ _ ?_⟩
            clear h1 K1
            refine atree.al (fun K1 h1 => ?_) ?_
            · simp
              first | refine h1 _ _ ?_ | refine ⟨by omega, h1 _ _ ?_⟩ | refine ⟨by omega, by omega, h1 _ _ ?_⟩
              clear h1 K1
              refine atree.a1 fun K1 h1 => ?_
              simp
              first | refine h1 _ _ ?_ | refine ⟨by omega, h1 _ _ ?_⟩ | refine ⟨by omega, by omega, h1 _ _ ?_⟩
              clear h1 K1
              refine atree.a1 fun K1 h1 => ?_
              simp
              first | refine h1 _ _ ?_ | refine ⟨by omega, h1 _ _ ?_⟩ | refine ⟨by omega, by omega, h1 _ _ ?_⟩
              clear h1 K1
              simp
            · refine atree.a1 fun K1 h1 => ?_
              simp
              first | refine h1 _ _ ?_ | refine ⟨by omega, h1 _ _ ?_⟩ | refine ⟨by omega, by omega, h1 _ _ ?_⟩
              clear h1 K1
              refine atree.a1 fun K1 h1 => ?_
              simp
              first | refine h1 _ _ ?_ | refine ⟨by omega, h1 _ _ ?_⟩ | refine ⟨by omega, by omega, h1 _ _ ?_⟩
              clear h1 K1
              refine atree.a1 fun K1 h1 => ?_
              simp
              first | refine h1 _ _ ?_ | refine ⟨by omega, h1 _ _ ?_⟩ | refine ⟨by omega, by omega, h1 _ _ ?_⟩
              clear h1 K1
              simp
          · refine atree.a1 fun K1 h1 => ?_
            simp
            first | refine h1 _ _ ?_ | refine ⟨by omega, h1 _ _ ?_⟩ | refine ⟨by omega, by omega, h1 _ _ ?_⟩
            clear h1 K1
            refine atree.a1 fun K1 h1 => ?_
            simp
            refine call_pure (c_Clone_CelRow s.counts (by omega)) (by simp) ?_
            simp
            first | refine h1 _ _ ?_ | refine ⟨by omega, h1 _ _ ?_⟩ | refine ⟨by omega, by omega, h1 _ _ ?_⟩
            clear h1 K1
            refine atree.a1 fun K1 h1 => ?_
            simp
            first | refine h1 _ _ ?_ | refine ⟨by omega, h1 _ _ ?_⟩ | refine ⟨by omega, by omega, h1 _ _ ?_⟩
            clear h1 K1
            refine atree.a1 fun K1 h1 => ?_
            simp
            first | refine h1 _ _ ?_ | refine ⟨by omega, h1 _ _ ?_⟩ | refine ⟨by omega, by omega, h1 _ _ ?_⟩
            clear h1 K1
            simp
        · refine atree.a1 fun K1 h1 => ?_
          simp
          first | refine h1 _ _ ?_ | refine ⟨by omega, h1 _ _ ?_⟩ | refine ⟨by omega, by omega, h1 _ _ ?_⟩
          clear h1 K1
          refine atree.a1 fun K1 h1 => ?_
          simp
          first | refine h1 _ _ ?_ | refine ⟨by omega, h1 _ _ ?_⟩ | refine ⟨by omega, by omega, h1 _ _ ?_⟩
          clear h1 K1
          refine atree.a1 fun K1 h1 => ?_
          simp
          refine call_pure (c_Clone_CelRow s.counts (by omega)) (by simp) ?_
          simp
          first | refine h1 _ _ ?_ | refine ⟨by omega, h1 _ _ ?_⟩ | refine ⟨by omega, by omega, h1 _ _ ?_⟩
          clear h1 K1
          refine atree.a1 fun K1 h1 => ?_
          simp
          first | refine h1 _ _ ?_ | refine ⟨by omega, h1 _ _ ?_⟩ | refine ⟨by omega, by omega, h1 _ _ ?_⟩
          clear h1 K1
          refine atree.a1 fun K1 h1 => ?_
          simp
          first | refine h1 _ _ ?_ | refine ⟨by omega, h1 _ _ ?_⟩ | refine ⟨by omega, by omega, h1 _ _ ?_⟩
          clear h1 K1
          simp
      · refine atree.al (fun K1 h1 => ?_) ?_
        · simp
          first | refine h1 _ _ ?_ | refine ⟨by omega, h1 _ _ ?_⟩ | refine ⟨by omega, by omega, h1 _ _ ?_⟩
          clear h1 K1
          refine atree.al (fun K1 h1 => ?_) ?_
          · simp
            refine call_pure (c_Clone_StrRow s.sets (by omega)) (by simp) ?_
            simp
            first | refine h1 _ _ ?_ | refine ⟨by omega, h1 _ _ ?_⟩ | refine ⟨by omega, by omega, h1 _ _ ?_⟩
            clear h1 K1
            refine atree.al (fun K1 h1 => ?_) ?_
            · simp
              refine call_pure (c_Clone_CelRow s.counts (by omega)) (by simp) ?_
              simp
              first | refine h1 _ _ ?_ | refine ⟨by omega, h1 _ _ ?_⟩ | refine ⟨by omega, by omega, h1 _ _ ?_⟩
              clear h1 K1
              refine atree.al (fun K1 h1 => ?_) ?_
              · simp
                first | refine h1 _ _ ?_ | refine ⟨by omega, h1 _ _ ?_⟩ | refine ⟨by omega, by omega, h1 _ _ ?_⟩
                clear h1 K1
                refine atree.a1 fun K1 h1 => ?_
                simp
                first | refine h1 _ _ ?_ | refine ⟨by omega, h1 _ _ ?_⟩ | refine ⟨by omega, by omega, h1 _ _ ?_⟩
                clear h1 K1
                refine atree.a1 fun K1 h1 => ?_
                simp
                first | refine h1 _ _ ?_ | refine ⟨by omega, h1 _ _ ?_⟩ | refine ⟨by omega, by omega, h1 _ _ ?_⟩
                clear h1 K1
                simp
              · refine atree.a1 fun K1 h1 => ?_
                simp
                first | refine h1 _ _ ?_ | refine ⟨by omega, h1 _ _ ?_⟩ | refine ⟨by omega, by omega, h1 _ _ ?_⟩
                clear h1 K1
                refine atree.a1 fun K1 h1 => ?_
                simp
                first | refine h1 _ _ ?_ | refine ⟨by omega, h1 _ _ ?_⟩ | refine ⟨by omega, by omega, h1 _ _ ?_⟩
                clear h1 K1
                refine atree.a1 fun K1 h1 => ?_
                simp
                first | refine h1 _ _ ?_ | refine ⟨by omega, h1 _ _ ?_⟩ | refine ⟨by omega, by omega, h1 _ _ ?_⟩
                clear h1 K1
                simp
            · refine atree.a1 fun K1 h1 => ?_
              simp
              first | refine h1 _ _ ?_ | refine ⟨by omega, h1 _ _ ?_⟩ | refine ⟨by omega, by omega, h1 _ _ ?_⟩
              clear h1 K1
              refine atree.a1 fun K1 h1 => ?_
              simp
              refine call_pure (c_Clone_CelRow s.counts (by omega)) (by simp) ?_
              simp
              first | refine h1 _ _ ?_ | refine ⟨by omega, h1 _ _ ?_⟩ | refine ⟨by omega, by omega, h1 _ _ ?_⟩
              clear h1 K1
              refine atree.a1 fun K1 h1 => ?_
              simp
              first | refine h1 _ _ ?_ | refine ⟨by omega, h1 _ _ ?_⟩ | refine ⟨by omega, by omega, h1 _ _ ?_⟩
              clear h1 K1
              refine atree.a1 fun K1 h1 => ?_
              simp
              first | refine h1 _ _ ?_ | refine ⟨by omega, h1 _ _ ?_⟩ | refine ⟨by omega, by omega, h1 _ _ ?_⟩
              clear h1 K1
              simp
          · refine atree.a1 fun K1 h1 => ?_
            simp
            first | refine h1 _ _ ?_ | refine ⟨by omega, h1 _ _ ?_⟩ | refine ⟨by omega, by omega, h1 _ _ ?_⟩
            clear h1 K1
            refine atree.a1 fun K1 h1 => ?_
            simp
            refine call_pure (c_Clone_StrRow s.sets (by omega)) (by simp) ?_
            simp
            first | refine h1 _ _ ?_ | refine ⟨by omega, h1 _ _ ?_⟩ | refine ⟨by omega, by omega, h1 _ _ ?_⟩
            clear h1 K1
            refine atree.a1 fun K1 h1 => ?_
            simp
            refine call_pure (c_Clone_CelRow s.counts (by omega)) (by simp) ?_
            simp
            first | refine h1 _ _ ?_ | refine ⟨by omega, h1 _ _ ?_⟩ | refine ⟨by omega, by omega, h1 _ _ ?_⟩
            clear h1 K1
            refine atree.a1 fun K1 h1 => ?_
            simp
            first | refine h1 _ _ ?_ | refine ⟨by omega, h1 _ _ ?_⟩ | refine ⟨by omega, by omega, h1 _ _ ?_⟩
            clear h1 K1
            refine atree.a1 fun K1 h1 => ?_
            simp
            first | refine h1 _ _ ?_ | refine ⟨by omega, h1 _ _ ?_⟩ | refine ⟨by omega, by omega, h1 _ _ ?_⟩
            clear h1 K1
            simp
        · refine atree.a1 fun K1 h1 => ?_
          simp
          first | refine h1 _ _ ?_ | refine ⟨by omega, h1 _ _ ?_⟩ | refine ⟨by omega, by omega, h1 _ _ ?_⟩
          clear h1 K1
          refine atree.al (fun K1 h1 => ?_) ?_
          · simp
            refine call_pure (c_Clone_StrRow s.sets (by omega)) (by simp) ?_
            simp
            first | refine h1 _ _ ?_ | refine ⟨by omega, h1 _ _ ?_⟩ | refine ⟨by omega, by omega, h1 _ _ ?_⟩
            clear h1 K1
            refine atree.a1 fun K1 h1 => ?_
            simp
            first | refine h1 _ _ ?_ | refine ⟨by omega, h1 _ _ ?_⟩ | refine ⟨by omega, by omega, h1 _ _ ?_⟩
            clear h1 K1
            refine atree.a1 fun K1 h1 => ?_
            simp
            refine call_pure (c_Clone_CelRow s.counts (by omega)) (by simp) ?_
            simp
            first | refine h1 _ _ ?_ | refine ⟨by omega, h1 _ _ ?_⟩ | refine ⟨by omega, by omega, h1 _ _ ?_⟩
            clear h1 K1
            refine atree.a1 fun K1 h1 => ?_
            simp
            first | refine h1 _ _ ?_ | refine ⟨by omega, h1 _ _ ?_⟩ | refine ⟨by omega, by omega, h1 _ _ ?_⟩
            clear h1 K1
            refine atree.a1 fun K1 h1 => ?_
            simp
            first | refine h1 _ _ ?_ | refine ⟨by omega, h1 _ _ ?_⟩ | refine ⟨by omega, by omega, h1 _ _ ?_⟩
            clear h1 K1
            simp
          · refine atree.a1 fun K1 h1 => ?_
            simp
            first | refine h1 _ _ ?_ | refine ⟨by omega, h1 _ _ ?_⟩ | refine ⟨by omega, by omega, h1 _ _ ?_⟩
            clear h1 K1
            refine atree.a1 fun K1 h1 => ?_
            simp
            refine call_pure (c_Clone_StrRow s.sets (by omega)) (by simp) ?_
            simp
            first | refine h1 _ _ ?_ | refine ⟨by omega, h1 _ _ ?_⟩ | refine ⟨by omega, by omega, h1 _ _ ?_⟩
            clear h1 K1
            refine atree.a1 fun K1 h1 => ?_
            simp
            refine call_pure (c_Clone_CelRow s.counts (by omega)) (by simp) ?_
            simp
            first | refine h1 _ _ ?_ | refine ⟨by omega, h1 _ _ ?_⟩ | refine ⟨by omega, by omega, h1 _ _ ?_⟩
            clear h1 K1
            refine atree.a1 fun K1 h1 => ?_
            simp
            first | refine h1 _ _ ?_ | refine ⟨by omega, h1 _ _ ?_⟩ | refine ⟨by omega, by omega, h1 _ _ ?_⟩
            clear h1 K1
            refine atree.a1 fun K1 h1 => ?_
            simp
            first | refine h1 _ _ ?_ | refine ⟨by omega, h1 _ _ ?_⟩ | refine ⟨by omega, by omega, h1 _ _ ?_⟩
            clear h1 K1
            simp
    · refine atree.al (fun K1 h1 => ?_) ?_
      · simp
        first | refine h1 _ _ ?_ | refine ⟨by omega, h1 _ _ ?_⟩ | refine ⟨by omega, by omega, h1 _ _ ?_⟩
        clear h1 K1
        refine atree.al (fun K1 h1 => ?_) ?_
        · simp
          first | refine h1 _ _ ?_ | refine ⟨by omega, h1 _ _ ?_⟩ | refine ⟨by omega, by omega, h1 _ _ ?_⟩
          clear h1 K1
          refine atree.al (fun K1 h1 => ?_) ?_
          · simp
            refine call_pure (c_Clone_StrRow s.sets (by omega)) (by simp) ?_
            simp
            first | refine h1 _ _ ?_ | refine ⟨by omega, h1 _ _ ?_⟩ | refine ⟨by omega, by omega, h1 _ _ ?_⟩
            clear h1 K1
            refine atree.al (fun K1 h1 => ?_) ?_
            · simp
              refine call_pure (c_Clone_CelRow s.counts (by omega)) (by simp) ?_
              simp
              first | refine h1 _ _ ?_ | refine ⟨by omega, h1 _ _ ?_⟩ | refine ⟨by omega, by omega, h1 _ _ ?_⟩
              clear h1 K1
              refine atree.al (fun K1 h1 => ?_) ?_
              · simp
                first | refine h1 _ _ ?_ | refine ⟨by omega, h1 _ _ ?_⟩ | refine ⟨by omega, by omega, h1 _ _ ?_⟩
                clear h1 K1
                refine atree.a1 fun K1 h1 => ?_
                simp
                first | refine h1 _ _ ?_ | refine ⟨by omega, h1 _ _ ?_⟩ | refine ⟨by omega, by omega, h1 _ _ ?_⟩
                clear h1 K1
                refine atree.a1 fun K1 h1 => ?_
                simp
                first | refine h1 _ _ ?_ | refine ⟨by omega, h1 _ _ ?_⟩ | refine ⟨by omega, by omega, h1 _ _ ?_⟩
                clear h1 K1
                simp
              · refine atree.a1 fun K1 h1 => ?_
                simp
                first | refine h1 _ _ ?_ | refine ⟨by omega, h1 _ _ ?_⟩ | refine ⟨by omega, by omega, h1 _ _ ?_⟩
                clear h1 K1
                refine atree.a1 fun K1 h1 => ?_
                simp
                first | refine h1 _ _ ?_ | refine ⟨by omega, h1 _ _ ?_⟩ | refine ⟨by omega, by omega, h1 _ _ ?_⟩
                clear h1 K1
                refine atree.a1 fun K1 h1 => ?_
                simp
                first | refine h1 _ _ ?_ | refine ⟨by omega, h1 _ _ ?_⟩ | refine ⟨by omega, by omega, h1 _ _ ?_⟩
                clear h1 K1
                simp
            · refine atree.a1 fun K1 h1 => ?_
              simp
              first | refine h1 _ _ ?_ | refine ⟨by omega, h1 _ _ ?_⟩ | refine ⟨by omega, by omega, h1 _ _ ?_⟩
              clear h1 K1
              refine atree.a1 fun K1 h1 => ?_
              simp
              refine call_pure (c_Clone_CelRow s.counts (by omega)) (by simp) ?_
              simp
              first | refine h1 _ _ ?_ | refine ⟨by omega, h1 _ _ ?_⟩ | refine ⟨by omega, by omega, h1 _ _ ?_⟩
              clear h1 K1
              refine atree.a1 fun K1 h1 => ?_
              simp
              first | refine h1 _ _ ?_ | refine ⟨by omega, h1 _ _ ?_⟩ | refine ⟨by omega, by omega, h1 _ _ ?_⟩
              clear h1 K1
              refine atree.a1 fun K1 h1 => ?_
              simp
              first | refine h1 _ _ ?_ | refine ⟨by omega, h1 _ _ ?_⟩ | refine ⟨by omega, by omega, h1 _ _ ?_⟩
              clear h1 K1
              simp
          · refine atree.a1 fun K1 h1 => ?_
            simp
            first | refine h1 _ _ ?_ | refine ⟨by omega, h1 _ _ ?_⟩ | refine ⟨by omega, by omega, h1 _ _ ?_⟩
            clear h1 K1
            refine atree.a1 fun K1 h1 => ?_
            simp
            refine call_pure (c_Clone_StrRow s.sets (by omega)) (by simp) ?_
            simp
            first | refine h1 _ _ ?_ | refine ⟨by omega, h1 _ _ ?_⟩ | refine ⟨by omega, by omega, h1 _ _ ?_⟩
            clear h1 K1
            refine atree.a1 fun K1 h1 => ?_
            simp
            refine call_pure (c_Clone_CelRow s.counts (by omega)) (by simp) ?_
            simp
            first | refine h1 _ _ ?_ | refine ⟨by omega, h1 _ _ ?_⟩ | refine ⟨by omega, by omega, h1 _ _ ?_⟩
            clear h1 K1
            refine atree.a1 fun K1 h1 => ?_
            simp
            first | refine h1 _ _ ?_ | refine ⟨by omega, h1 _ _ ?_⟩ | refine ⟨by omega, by omega, h1 _ _ ?_⟩
            clear h1 K1
            refine atree.a1 fun K1 h1 => ?_
            simp
            first | refine h1 _ _ ?_ | refine ⟨by omega, h1 _ _ ?_⟩ | refine ⟨by omega, by omega, h1 _ _ ?_⟩
            clear h1 K1
            simp
        · refine atree.a1 fun K1 h1 => ?_
          simp
          first | refine h1 _ _ ?_ | refine ⟨by omega, h1 _ _ ?_⟩ | refine ⟨by omega, by omega, h1 _ _ ?_⟩
          clear h1 K1
          refine atree.a1 fun K1 h1 => ?_
          simp
          first | refine h1 _ _ ?_ | refine ⟨by omega, h1 _ _ ?_⟩ | refine ⟨by omega, by omega, h1 _ _ ?_⟩
          clear h1 K1
          refine atree.a1 fun K1 h1 => ?_
          simp
          refine call_pure (c_Clone_StrRow s.sets (by omega)) (by simp) ?_
          simp
          first | refine h1 _ _ ?_ | refine ⟨by omega, h1 _ _ ?_⟩ | refine ⟨by omega, by omega, h1 _ _ ?_⟩
          clear h1 K1
          refine atree.a1 fun K1 h1 => ?_
          simp
          refine call_pure (c_Clone_CelRow s.counts (by omega)) (by simp) ?_
          simp
          first | refine h1 _ _ ?_ | refine ⟨by omega, h1 _ _ ?_⟩ | refine ⟨by omega, by omega, h1 _ _ ?_⟩
          clear h1 K1
          refine atree.a1 fun K1 h1 => ?_
          simp
          first | refine h1 _ _ ?_ | refine ⟨by omega, h1 _ _ ?_⟩ | refine ⟨by omega, by omega, h1 _ _ ?_⟩
          clear h1 K1
          refine atree.a1 fun K1 h1 => ?_
          simp
          first | refine h1 _ _ ?_ | refine ⟨by omega, h1 _ _ ?_⟩ | refine ⟨by omega, by omega, h1 _ _ ?_⟩
          clear h1 K1
          simp
      · refine atree.a1 fun K1 h1 => ?_
        simp
        first | refine h1 _ _ ?_ | refine ⟨by omega, h1 _ _ ?_⟩ | refine ⟨by omega, by omega, h1 _ _ ?_⟩
        clear h1 K1
        refine atree.al (fun K1 h1 => ?_) ?_
        · simp
          first | refine h1 _ _ ?_ | refine ⟨by omega, h1 _ _ ?_⟩ | refine ⟨by omega, by omega, h1 _ _ ?_⟩
          clear h1 K1
          refine atree.al (fun K1 h1 => ?_) ?_
          · simp
            refine call_pure (c_Clone_StrRow s.sets (by omega)) (by simp) ?_
            simp
            first | refine h1 _ _ ?_ | refine ⟨by omega, h1 _ _ ?_⟩ | refine ⟨by omega, by omega, h1 _ _ ?_⟩
            clear h1 K1
            refine atree.a1 fun K1 h1 => ?_
            simp
            first | refine h1 _ _ ?_ | refine ⟨by omega, h1 _ _ ?_⟩ | refine ⟨by omega, by omega, h1 _ _ ?_⟩
            clear h1 K1
            refine atree.a1 fun K1 h1 => ?_
            simp
            refine call_pure (c_Clone_CelRow s.counts (by omega)) (by simp) ?_
            simp
            first | refine h1 _ _ ?_ | refine ⟨by omega, h1 _ _ ?_⟩ | refine ⟨by omega, by omega, h1 _ _ ?_⟩
            clear h1 K1
            refine atree.a1 fun K1 h1 => ?_
            simp
            first | refine h1 _ _ ?_ | refine ⟨by omega, h1 _ _ ?_⟩ | refine ⟨by omega, by omega, h1 _ _ ?_⟩
            clear h1 K1
            refine atree.a1 fun K1 h1 => ?_
            simp
            first | refine h1 _ _ ?_ | refine ⟨by omega, h1 _ _ ?_⟩ | refine ⟨by omega, by omega, h1 _ _ ?_⟩
            clear h1 K1
            simp
          · refine atree.a1 fun K1 h1 => ?_
            simp
            first | refine h1 _ _ ?_ | refine ⟨by omega, h1 _ _ ?_⟩ | refine ⟨by omega, by omega, h1 _ _ ?_⟩
            clear h1 K1
            refine atree.a1 fun K1 h1 => ?_
            simp
            refine call_pure (c_Clone_StrRow s.sets (by omega)) (by simp) ?_
            simp
            first | refine h1 _ _ ?_ | refine ⟨by omega, h1 _ _ ?_⟩ | refine ⟨by omega, by omega, h1 _ _ ?_⟩
            clear h1 K1
            refine atree.a1 fun K1 h1 => ?_
            simp
            refine call_pure (c_Clone_CelRow s.counts (by omega)) (by simp) ?_
            simp
            first | refine h1 _ _ ?_ | refine ⟨by omega, h1 _ _ ?_⟩ | refine ⟨by omega, by omega, h1 _ _ ?_⟩
            clear h1 K1
            refine atree.a1 fun K1 h1 => ?_
            simp
            first | refine h1 _ _ ?_ | refine ⟨by omega, h1 _ _ ?_⟩ | refine ⟨by omega, by omega, h1 _ _ ?_⟩
            clear h1 K1
            refine atree.a1 fun K1 h1 => ?_
            simp
            first | refine h1 _ _ ?_ | refine ⟨by omega, h1 _ _ ?_⟩ | refine ⟨by omega, by omega, h1 _ _ ?_⟩
            clear h1 K1
            simp
        · refine atree.a1 fun K1 h1 => ?_
          simp
          first | refine h1 _ _ ?_ | refine ⟨by omega, h1 _ _ ?_⟩ | refine ⟨by omega, by omega, h1 _ _ ?_⟩
          clear h1 K1
          refine atree.a1 fun K1 h1 => ?_
          simp
          first | refine h1 _ _ ?_ | refine ⟨by omega, h1 _ _ ?_⟩ | refine ⟨by omega, by omega, h1 _ _ ?_⟩
          clear h1 K1
          refine atree.a1 fun K1 h1 => ?_
          simp
          refine call_pure (c_Clone_StrRow s.sets (by omega)) (by simp) ?_
          simp
          first | refine h1 _ _ ?_ | refine ⟨by omega, h1 _ _ ?_⟩ | refine ⟨by omega, by omega, h1 _ _ ?_⟩
          clear h1 K1
          refine atree.a1 fun K1 h1 => ?_
          simp
          refine call_pure (c_Clone_CelRow s.counts (by omega)) (by simp) ?_
          simp
          first | refine h1 _ _ ?_ | refine ⟨by omega, h1 _ _ ?_⟩ | refine ⟨by omega, by omega, h1 _ _ ?_⟩
          clear h1 K1
          refine atree.a1 fun K1 h1 => ?_
          simp
          first | refine h1 _ _ ?_ | refine ⟨by omega, h1 _ _ ?_⟩ | refine ⟨by omega, by omega, h1 _ _ ?_⟩
          clear h1 K1
          refine atree.a1 fun K1 h1 => ?_
          simp
          first | refine h1 _ _ ?_ | refine ⟨by omega, h1 _ _ ?_⟩ | refine ⟨by omega, by omega, h1 _ _ ?_⟩
          clear h1 K1
          simp
  refine AWp.seq ?_
  refine AWp.go [2, 3, 15, 16] [2, 3] fun K hK => ?_
  simp
  first | refine hK _ _ ?_ | refine ⟨by omega, hK _ _ ?_⟩ | refine ⟨by omega, by omega, hK _ _ ?_⟩
  clear hK K
  refine AWp.block (AWp.while (fun i : Nat => [(2, .ptr 2 0), (3, .ptr 3 0), (15, .i .i64 s.sets.length), (16, .i .i64 i)]) (fun i => [(2, [.sl .nl 1 [], .sl .nl 1 []]), (3, [.sl .own 1 (rowsS s.sets), .sl .own 1 (rowsK s.counts)])]) (fun i => i ≤ s.sets.length) (fun i => s.sets.length - i) [2, 3, 15, 16] [2, 3] 0 (by simp) (by simp) ?_)
  intro i hi
  refine AWp.go [2, 3, 15, 16, 17] [2, 3] fun K hK => ?_
  simp
  first | refine hK _ _ ?_ | refine ⟨by omega, hK _ _ ?_⟩ | refine ⟨by omega, by omega, hK _ _ ?_⟩
  clear hK K
  refine AWp.seq ?_
  by_cases h : i < s.sets.length
  · refine AWp.cond (t := true) (by first | (simp [h]; done) | (simp [h]; omega)) (fun _ => ?_) (by simp)
    refine AWp.skip ?_
    show AWp _ _ _ _
    refine AWp.seq ?_
    refine AWp.block ?_
    refine AWp.go [2, 3, 4, 15, 16] [2, 3] fun K hK => ?_
    simp
    first | refine hK _ _ ?_ | refine ⟨by omega, hK _ _ ?_⟩ | refine ⟨by omega, by omega, hK _ _ ?_⟩
    clear hK K
    have hg := (c_Clone_Str s.sets[i] (by have := k3 _ (List.getElem_mem h); omega)).fro
    have hst : (rowsS s.sets).set i [.sl .fro 1 (strsAV s.sets[i])] = rowsS s.sets := by rw [rowsS_set, List.set_getElem_self]
    simp at hg
    refine AWp.goLastD 9 (fun k => if k = 8 then .sl .fro 1 (strsAV s.sets[i]) else .any) [2, 3, 15, 16] [2, 3] mix (by kernel_rfl) fun K hK => ?_
    simp [h, hg, hst]
    first | refine hK _ _ ?_ | refine ⟨by omega, hK _ _ ?_⟩ | refine ⟨by omega, by omega, hK _ _ ?_⟩
    clear hK K
    show AWp _ _ _ _
    refine AWp.goLast [2, 3, 15, 16] [2, 3] fun K hK => ?_
    simp
    first | refine hK _ _ ?_ | refine ⟨by omega, hK _ _ ?_⟩ | refine ⟨by omega, by omega, hK _ _ ?_⟩
    clear hK K
    refine ⟨i + 1, by omega, by omega, ?_⟩
    simp
    exact wrap64 (by omega) (by omega)
  · refine AWp.cond (t := false) (by first | (simp [h]; done) | (simp [h]; omega)) (by simp) (fun _ => ?_)
    refine AWp.exit ?_
    show AWp _ _ _ _
    refine AWp.seq ?_
    obtain rfl : i = s.sets.length := by omega
    refine AWp.go [2, 3, 32, 33] [2, 3] fun K hK => ?_
    simp
    first | refine hK _ _ ?_ | refine ⟨by omega, hK _ _ ?_⟩ | refine ⟨by omega, by omega, hK _ _ ?_⟩
    clear hK K
    refine AWp.block (AWp.while (fun j : Nat => [(2, .ptr 2 0), (3, .ptr 3 0), (32, .i .i64 s.counts.length), (33, .i .i64 j)]) (fun j => [(2, [.sl .nl 1 [], .sl .nl 1 []]), (3, [.sl .own 1 (rowsS s.sets), .sl .own 1 (rowsK s.counts)])]) (fun j => j ≤ s.counts.length) (fun j => s.counts.length - j) [2, 3, 32, 33] [2, 3] 0 (by simp) (by simp) ?_)
    intro j hj
    refine AWp.go [2, 3, 32, 33, 34] [2, 3] fun K hK => ?_
    simp
    first | refine hK _ _ ?_ | refine ⟨by omega, hK _ _ ?_⟩ | refine ⟨by omega, by omega, hK _ _ ?_⟩
    clear hK K
    refine AWp.seq ?_
    by_cases h : j < s.counts.length
    · refine AWp.cond (t := true) (by first | (simp [h]; done) | (simp [h]; omega)) (fun _ => ?_) (by simp)
      refine AWp.skip ?_
      show AWp _ _ _ _
      refine AWp.seq ?_
      refine AWp.block ?_
      refine AWp.go [2, 3, 5, 32, 33] [2, 3] fun K hK => ?_
      simp
      first | refine hK _ _ ?_ | refine ⟨by omega, hK _ _ ?_⟩ | refine ⟨by omega, by omega, hK _ _ ?_⟩
      clear hK K
      have hg := (c_Clone_Cel s.counts[j] (by have := k4 _ (List.getElem_mem h); omega)).fro
      have hst : (rowsK s.counts).set j [.sl .fro 2 (celsAV s.counts[j])] = rowsK s.counts := by rw [rowsK_set, List.set_getElem_self]
      simp at hg
      refine AWp.goLastD 9 (fun k => if k = 8 then .sl .fro 2 (celsAV s.counts[j]) else .any) [2, 3, 32, 33] [2, 3] mix (by kernel_rfl) fun K hK => ?_
      simp [h, hg, hst]
      first | refine hK _ _ ?_ | refine ⟨by omega, hK _ _ ?_⟩ | refine ⟨by omega, by omega, hK _ _ ?_⟩
      clear hK K
      show AWp _ _ _ _
      refine AWp.goLast [2, 3, 32, 33] [2, 3] fun K hK => ?_
      simp
      first | refine hK _ _ ?_ | refine ⟨by omega, hK _ _ ?_⟩ | refine ⟨by omega, by omega, hK _ _ ?_⟩
      clear hK K
      refine ⟨j + 1, by omega, by omega, ?_⟩
      simp
      exact wrap64 (by omega) (by omega)
    · refine AWp.cond (t := false) (by first | (simp [h]; done) | (simp [h]; omega)) (by simp) (fun _ => ?_)
      refine AWp.exit ?_
      show AWp _ _ _ _
      refine AWp.go [2] [2] fun K hK => ?_
      simp
      first | refine hK _ _ ?_ | refine ⟨by omega, hK _ _ ?_⟩ | refine ⟨by omega, by omega, hK _ _ ?_⟩
      clear hK K
      refine AWp.ret ?_
      simp
def doStep (k : ByteArray) (s : Sta) (d : Dg) : Sta :=
  if d.kind = 1 ∨ d.kind = 2 then ⟨s.sets.set d.thing.toNat (putT (setOf s d.thing) k (decide (d.kind = 1))), s.counts⟩
  else if d.kind = 3 then ⟨s.sets, s.counts.set d.thing.toNat (moreT (countOf s d.thing) k d.num)⟩
  else if d.kind = 4 then ⟨s.sets, s.counts.set d.thing.toNat (moreT (countOf s d.thing) k (-d.num))⟩
  else s
def doTo (k : ByteArray) (s : Sta) (l : List Dg) : Sta := l.foldl (doStep k) s
def emptyS : Sta := ⟨[], []⟩
def doRes (r : Rul) (s : Sta) (o : Int) (k : ByteArray) : Sta × Int :=
  if okB r s && keyOk k then match (if 0 ≤ o then r.opers[o.toNat]? else none) with
    | some p => if stateB r (doTo k s p.does) then (doTo k s p.does, 0) else (emptyS, 6)
    | none => (emptyS, 3)
  else (emptyS, 1)
/-- Bounds of a state. -/
def Bd (B : Nat) (s : Sta) : Prop := (∀ l ∈ s.sets, l.length ≤ B) ∧ ∀ l ∈ s.counts, l.length ≤ B ∧ ∀ c ∈ l, -1000 * (B : Int) ≤ c.num ∧ c.num ≤ 1000 * (B : Int)
theorem putT_len (l : List ByteArray) (k : ByteArray) (is : Bool) : (putT l k is).length ≤ l.length + 1 := by
  unfold putT
  split
  · simp; omega
  · split
    · simp; omega
    · omega
theorem moreT_len (l : List Cel) (k : ByteArray) (n : Int) : (moreT l k n).length ≤ l.length + 1 := by
  unfold moreT
  split
  · simp; omega
  · split
    · split
      · simp; omega
      · simp
    · omega
theorem moreT_num {l : List Cel} {k : ByteArray} {n : Int} {B : Nat} (hn : -1000 ≤ n ∧ n ≤ 1000) (hl : ∀ c ∈ l, -1000 * (B : Int) ≤ c.num ∧ c.num ≤ 1000 * (B : Int)) : ∀ c ∈ moreT l k n, -1000 * ((B + 1 : Nat) : Int) ≤ c.num ∧ c.num ≤ 1000 * ((B + 1 : Nat) : Int) := by
  have hw : ∀ c ∈ l, -1000 * ((B + 1 : Nat) : Int) ≤ c.num ∧ c.num ≤ 1000 * ((B + 1 : Nat) : Int) := fun c hc => by have := hl c hc; omega
  unfold moreT
  intro c hc
  split at hc
  · rcases List.mem_append.1 hc with h | h
    · exact hw c (List.mem_of_mem_take h)
    · rcases List.mem_cons.1 h with rfl | h
      · simp only; omega
      · exact hw c (List.mem_of_mem_drop h)
  · split at hc
    · rename_i c0 h0
      split at hc
      · rcases List.mem_append.1 hc with h | h
        · exact hw c (List.mem_of_mem_take h)
        · exact hw c (List.mem_of_mem_drop h)
      · rcases List.mem_or_eq_of_mem_set hc with h | rfl
        · exact hw c h
        · have := hl c0 (List.mem_of_getElem? h0)
          simp only; omega
    · exact hw c hc
theorem Bd.mono {A B : Nat} {s : Sta} (h : Bd A s) (hab : A ≤ B) : Bd B s := by
  refine ⟨fun l hl => by have := h.1 l hl; omega, fun l hl => ⟨by have := (h.2 l hl).1; omega, fun c hc => by have := (h.2 l hl).2 c hc; omega⟩⟩
theorem setOf_or (s : Sta) (n : Int) : setOf s n ∈ s.sets ∨ setOf s n = [] := by
  unfold setOf
  rw [List.getD_eq_getElem?_getD]
  cases h : s.sets[n.toNat]? with
  | some x => exact .inl (by rw [Option.getD_some]; exact List.mem_of_getElem? h)
  | none => exact .inr rfl
theorem countOf_or (s : Sta) (n : Int) : countOf s n ∈ s.counts ∨ countOf s n = [] := by
  unfold countOf
  rw [List.getD_eq_getElem?_getD]
  cases h : s.counts[n.toNat]? with
  | some x => exact .inl (by rw [Option.getD_some]; exact List.mem_of_getElem? h)
  | none => exact .inr rfl
theorem Bd.setOf {B : Nat} {s : Sta} (h : Bd B s) (n : Int) : (Go.AM.setOf s n).length ≤ B := by
  rcases setOf_or s n with h1 | h1
  · exact h.1 _ h1
  · rw [h1]; simp
theorem Bd.countOf {B : Nat} {s : Sta} (h : Bd B s) (n : Int) : (Go.AM.countOf s n).length ≤ B ∧ ∀ c ∈ Go.AM.countOf s n, -1000 * (B : Int) ≤ c.num ∧ c.num ≤ 1000 * (B : Int) := by
  rcases countOf_or s n with h1 | h1
  · exact h.2 _ h1
  · rw [h1]; exact ⟨by simp, fun c hc => by simp at hc⟩
theorem Bd.step {B : Nat} {s : Sta} {k : ByteArray} {d : Dg} (h : Bd B s) (hn : -1000 ≤ d.num ∧ d.num ≤ 1000) : Bd (B + 1) (doStep k s d) := by
  have h' := h.mono (Nat.le_succ B)
  have hc := h.countOf d.thing
  unfold doStep
  split
  · refine ⟨fun l hl => ?_, h'.2⟩
    rcases List.mem_or_eq_of_mem_set hl with h1 | rfl
    · exact h'.1 l h1
    · have := putT_len (Go.AM.setOf s d.thing) k (decide (d.kind = 1))
      have := h.setOf d.thing; omega
  · split
    · refine ⟨h'.1, fun l hl => ?_⟩
      rcases List.mem_or_eq_of_mem_set hl with h1 | rfl
      · exact h'.2 l h1
      · have h3 := moreT_len (Go.AM.countOf s d.thing) k d.num
        exact ⟨by omega, moreT_num hn hc.2⟩
    · split
      · refine ⟨h'.1, fun l hl => ?_⟩
        rcases List.mem_or_eq_of_mem_set hl with h1 | rfl
        · exact h'.2 l h1
        · have h3 := moreT_len (Go.AM.countOf s d.thing) k (-d.num)
          exact ⟨by omega, moreT_num (by omega) hc.2⟩
      · exact h'
theorem doStep_lens (k : ByteArray) (s : Sta) (d : Dg) : (doStep k s d).sets.length = s.sets.length ∧ (doStep k s d).counts.length = s.counts.length := by
  unfold doStep
  split
  · simp
  · split
    · simp
    · split <;> simp
theorem doTo_snoc (k : ByteArray) (s : Sta) (l : List Dg) (d : Dg) : doTo k s (l ++ [d]) = doStep k (doTo k s l) d := by simp [doTo]
theorem doTo_lens (k : ByteArray) (l : List Dg) : ∀ s : Sta, (doTo k s l).sets.length = s.sets.length ∧ (doTo k s l).counts.length = s.counts.length := by
  induction l with
  | nil => exact fun s => ⟨rfl, rfl⟩
  | cons d l ih =>
    intro s
    have h1 := ih (doStep k s d)
    have h2 := doStep_lens k s d
    exact ⟨h1.1.trans h2.1, h1.2.trans h2.2⟩
theorem Bd.doTo {k : ByteArray} (l : List Dg) (hl : ∀ d ∈ l, -1000 ≤ d.num ∧ d.num ≤ 1000) : ∀ {B : Nat} {s : Sta}, Bd B s → Bd (B + l.length) (doTo k s l) := by
  induction l with
  | nil => exact fun h => h
  | cons d l ih =>
    intro B s h
    have h1 := ih (fun x hx => hl x (List.mem_cons_of_mem _ hx)) (h.step (k := k) (hl d (List.mem_cons_self ..)))
    rw [List.length_cons, show B + (l.length + 1) = B + 1 + l.length by omega]
    exact h1
theorem stateB_bd {r : Rul} {s : Sta} (h : stateB r s = true) : Bd 4000 s := by
  obtain ⟨h1, h2⟩ := stateB_sets h
  refine ⟨fun l hl => ?_, fun l hl => ?_⟩
  · have := h1 l hl
    simp only [setB, Bool.and_eq_true, decide_eq_true_eq] at this
    omega
  · have := h2 l hl
    simp only [countB, Bool.and_eq_true, decide_eq_true_eq, List.all_eq_true] at this
    refine ⟨by omega, fun c hc => ?_⟩
    obtain ⟨i, hi, rfl⟩ := List.mem_iff_getElem.1 hc
    have h3 := this.1 i (by simpa using hi)
    simp [celAt, hi] at h3
    omega
theorem Bd.slight {B : Nat} {s : Sta} (h : Bd B s) (hB : B ≤ 100000) (h1 : s.sets.length ≤ 100000) (h2 : s.counts.length ≤ 100000) : SlightS s :=
  ⟨h1, h2, fun l hl => by have := h.1 l hl; omega, fun l hl => by have := (h.2 l hl).1; omega⟩
theorem doB_fit {r : Rul} {d : Dg} (h : doB r d = true) : (d.kind = 1 ∨ d.kind = 2 → inN d.thing r.sets.length = true) ∧ (d.kind = 3 ∨ d.kind = 4 → inN d.thing r.counts.length = true) ∧ -1000 ≤ d.num ∧ d.num ≤ 1000 := by
  unfold doB at h
  split at h
  · rename_i q
    simp only [Bool.and_eq_true, decide_eq_true_eq] at h
    exact ⟨fun _ => h.1, fun h2 => absurd h2 (by omega), by omega⟩
  · split at h
    · simp only [Bool.and_eq_true, inB, decide_eq_true_eq] at h
      exact ⟨fun h2 => absurd h2 (by omega), fun _ => h.1, by omega⟩
    · split at h
      · simp only [Bool.and_eq_true, decide_eq_true_eq] at h
        exact ⟨fun h2 => absurd h2 (by omega), fun h2 => absurd h2 (by omega), by omega⟩
      · cases h
theorem opB_does {r : Rul} {o : Opn} (h : opB r o = true) : o.does.length ≤ 16 ∧ ∀ d ∈ o.does, doB r d = true := by
  simp only [opB, Bool.and_eq_true, inB, decide_eq_true_eq, List.all_eq_true] at h
  refine ⟨by omega, fun d hd => ?_⟩
  obtain ⟨i, hi, rfl⟩ := List.mem_iff_getElem.1 hd
  have := h.2 i (by simpa using hi)
  rw [oprAt_at r hi, Bool.and_eq_true] at this
  exact this.1
end Go.AM
namespace Go.AM
open Go.Proofs
set_option maxRecDepth 8000 in
set_option maxHeartbeats 16000000 in
theorem c_eval_Do (r : Rul) (s : Sta) (hr : Slim r) (hs : SlightS s) (o : Int) (k : ByteArray) : Pure Tryz.prog 9 [.agg (rulC r), .agg (staC s), .i .i64 o, .s k] (.tup [.agg [.sl .own 1 (rowsS (doRes r s o k).1.sets), .sl .own 1 (rowsK (doRes r s o k).1.counts)], .i .i64 (doRes r s o k).2]) := by
  have gC := c_eval_Check r s hr hs
  have gcp := c_eval_copied s hs
  simp [rulC, staC] at gC gcp
  obtain ⟨k1, k2, k3, k4⟩ := id hs
  refine proc_of (cx Tryz.prog 111 [2, 3, 4, 5, 8, 9, 10, 12, 13, 24, 42, 43, 44, 45, 49, 50, 69, 86, 108] [8, 9]) 107 [.cell 8 30, .tmp 9] Tryz.func9 rfl rfl rfl rfl rfl rfl (Nat.le_refl _) rfl ?_
  refine AWp.go [2, 3, 4, 5, 8] [4, 5, 8] fun K hK => ?_
  simp [rulC, staC]
  first | refine hK _ _ ?_ | refine ⟨by omega, hK _ _ ?_⟩ | refine ⟨by omega, by omega, hK _ _ ?_⟩
  clear hK K
  refine AWp.seq ?_
  refine AWp.block ?_
  refine AWp.step [2, 3, 4, 5, 8, 13] [4, 5, 8] [(2, .i .i64 o), (3, .s k), (4, .ptr 4 0), (5, .ptr 5 0), (8, .ptr 8 0), (13, .b (!(okB r s && keyOk k)))] [(4, [.sl .fro 1 (strsAV r.sets), .sl .fro 1 (strsAV r.counts), .sl .fro 1 (strsAV r.notes), .sl .fro 5 (clsAV r.cls), .sl .fro 2 (opnsAV r.opers)]), (5, [.sl .fro 1 (rowsS s.sets), .sl .fro 1 (rowsK s.counts)]), (8, [.sl .nl 1 [], .sl .nl 1 []])] ?_ ?_
  · simp
    refine call_pure gC (by simp) ?_
    cases q1 : rulesB r
    · simp [okB, q1]
    cases q2 : stateB r s
    · simp [okB, q2]
    simp
    refine call_pure (c_eval_right k) (by simp) ?_
    simp [okB, q1, q2]
  cases hh : okB r s && keyOk k
  · refine AWp.cond (t := true) (by simp) (fun _ => ?_) (by simp)
    refine AWp.go [8, 9] [4, 5, 8] fun K hK => ?_
    simp
    first | refine hK _ _ ?_ | refine ⟨by omega, hK _ _ ?_⟩ | refine ⟨by omega, by omega, hK _ _ ?_⟩
    clear hK K
    refine AWp.ret ?_
    simp [doRes, hh, emptyS, rowsS, rowsK]
  · refine AWp.cond (t := false) (by simp) (by simp) (fun _ => ?_)
    refine AWp.step [2, 3, 4, 5, 8, 24] [4, 5, 8] [(2, .i .i64 o), (3, .s k), (4, .ptr 4 0), (5, .ptr 5 0), (8, .ptr 8 0), (24, .b (decide (o < 0) || decide ((r.opers.length : Int) ≤ o)))] [(4, [.sl .fro 1 (strsAV r.sets), .sl .fro 1 (strsAV r.counts), .sl .fro 1 (strsAV r.notes), .sl .fro 5 (clsAV r.cls), .sl .fro 2 (opnsAV r.opers)]), (5, [.sl .fro 1 (rowsS s.sets), .sl .fro 1 (rowsK s.counts)]), (8, [.sl .nl 1 [], .sl .nl 1 []])] ?_ ?_
    · by_cases q : o < 0 <;> simp [q]
    cases ho : decide (o < 0) || decide ((r.opers.length : Int) ≤ o)
    · refine AWp.cond (t := false) (by simp) (by simp) (fun _ => ?_)
      refine AWp.skip ?_
      show AWp _ _ _ _
      refine AWp.go [2, 3, 4, 8, 10] [4, 5, 8, 10] fun K hK => ?_
      simp
      refine call_pure gcp (by simp) ?_
      simp
      first | refine hK _ _ ?_ | refine ⟨by omega, hK _ _ ?_⟩ | refine ⟨by omega, by omega, hK _ _ ?_⟩
      clear hK K
      refine AWp.seq ?_
      simp only [Bool.or_eq_false_iff, decide_eq_false_iff_not] at ho
      obtain ⟨m, rfl⟩ : ∃ m : Nat, o = m := ⟨o.toNat, by omega⟩
      have hml : m < r.opers.length := by omega
      obtain ⟨p, hp⟩ : ∃ p, p = r.opers[m] := ⟨_, rfl⟩
      have hok : rulesB r = true ∧ stateB r s = true ∧ keyOk k = true := by
        simp only [okB, Bool.and_eq_true] at hh
        exact ⟨hh.1.1, hh.1.2, hh.2⟩
      have hopB : opB r p = true := by
        have := hok.1
        simp only [rulesB, Bool.and_eq_true, List.all_eq_true] at this
        rw [hp]; exact this.2 _ (List.getElem_mem hml)
      obtain ⟨hdl, hdo⟩ := opB_does hopB
      have hnum : ∀ d ∈ p.does, -1000 ≤ d.num ∧ d.num ≤ 1000 := fun d hd => (doB_fit (hdo d hd)).2.2
      have hlen : s.sets.length = r.sets.length ∧ s.counts.length = r.counts.length := by
        have := hok.2.1
        simp only [stateB, Bool.and_eq_true, decide_eq_true_eq] at this
        omega
      have hR : doRes r s m k = if stateB r (doTo k s p.does) then (doTo k s p.does, 0) else (emptyS, 6) := by
        simp [doRes, hh, hml, ← hp]
      rw [hR]
      refine AWp.go [3, 4, 8, 10, 42, 43, 44] [4, 5, 8, 10] fun K hK => ?_
      simp [hml, ← hp]
      first | refine hK _ _ ?_ | refine ⟨by omega, hK _ _ ?_⟩ | refine ⟨by omega, by omega, hK _ _ ?_⟩
      clear hK K
      refine AWp.block (AWp.while (fun i : Nat => [(3, .s k), (4, .ptr 4 0), (8, .ptr 8 0), (10, .ptr 10 0), (42, .sl .fro 3 (dgsAV p.does)), (43, .i .i64 p.does.length), (44, .i .i64 i)]) (fun i => [(4, [.sl .fro 1 (strsAV r.sets), .sl .fro 1 (strsAV r.counts), .sl .fro 1 (strsAV r.notes), .sl .fro 5 (clsAV r.cls), .sl .fro 2 (opnsAV r.opers)]), (5, [.sl .fro 1 (rowsS s.sets), .sl .fro 1 (rowsK s.counts)]), (8, [.sl .nl 1 [], .sl .nl 1 []]), (10, [.sl .own 1 (rowsS (doTo k s (p.does.take i)).sets), .sl .own 1 (rowsK (doTo k s (p.does.take i)).counts)])]) (fun i => i ≤ p.does.length) (fun i => p.does.length - i) [3, 4, 8, 10, 42, 43, 44] [4, 5, 8, 10] 0 (by simp) (by simp [doTo]) ?_)
      intro i hi
      refine AWp.go [3, 4, 8, 10, 42, 43, 44, 45] [4, 5, 8, 10] fun K hK => ?_
      simp
      first | refine hK _ _ ?_ | refine ⟨by omega, hK _ _ ?_⟩ | refine ⟨by omega, by omega, hK _ _ ?_⟩
      clear hK K
      refine AWp.seq ?_
      by_cases h : i < p.does.length
      · refine AWp.cond (t := true) (by first | (simp [h]; done) | (simp [h]; omega)) (fun _ => ?_) (by simp)
        refine AWp.skip ?_
        show AWp _ _ _ _
        refine AWp.seq ?_
        refine AWp.block ?_
        have hbd : Bd (4000 + (p.does.take i).length) (doTo k s (p.does.take i)) := Bd.doTo _ (fun d hd => hnum d (List.mem_of_mem_take hd)) (stateB_bd hok.2.1)
        have hln := doTo_lens k (p.does.take i) s
        have hnx : doTo k s (p.does.take (i + 1)) = doStep k (doTo k s (p.does.take i)) p.does[i] := by rw [List.take_succ_eq_append_getElem h, doTo_snoc]
        obtain ⟨S, hS⟩ : ∃ S, S = doTo k s (p.does.take i) := ⟨_, rfl⟩
        rw [← hS] at hbd hln hnx ⊢
        rw [List.length_take, Nat.min_eq_left hi] at hbd
        obtain ⟨d, hd⟩ : ∃ d, d = p.does[i] := ⟨_, rfl⟩
        have hdf := doB_fit (hdo _ (List.getElem_mem h))
        rw [← hd] at hnx hdf
        refine AWp.go [3, 4, 8, 10, 12, 42, 43, 44] [4, 5, 8, 10, 12] fun K hK => ?_
        simp [h, ← hd]
        first | refine hK _ _ ?_ | refine ⟨by omega, hK _ _ ?_⟩ | refine ⟨by omega, by omega, hK _ _ ?_⟩
        clear hK K
        refine AWp.go [3, 4, 8, 10, 12, 42, 43, 44, 49] [4, 5, 8, 10, 12] fun K hK => ?_
        simp
        first | refine hK _ _ ?_ | refine ⟨by omega, hK _ _ ?_⟩ | refine ⟨by omega, by omega, hK _ _ ?_⟩
        clear hK K
        refine AWp.block ?_
        refine AWp.mid [3, 4, 8, 10, 12, 42, 43, 44, 49, 50] [4, 5, 8, 10, 12] [(3, .s k), (4, .ptr 4 0), (8, .ptr 8 0), (10, .ptr 10 0), (12, .ptr 12 0), (42, .sl .fro 3 (dgsAV p.does)), (43, .i .i64 p.does.length), (44, .i .i64 i), (49, .i .i64 d.kind), (50, .b (decide (d.kind = 1) || decide (d.kind = 2)))] [(4, [.sl .fro 1 (strsAV r.sets), .sl .fro 1 (strsAV r.counts), .sl .fro 1 (strsAV r.notes), .sl .fro 5 (clsAV r.cls), .sl .fro 2 (opnsAV r.opers)]), (5, [.sl .fro 1 (rowsS s.sets), .sl .fro 1 (rowsK s.counts)]), (8, [.sl .nl 1 [], .sl .nl 1 []]), (10, [.sl .own 1 (rowsS S.sets), .sl .own 1 (rowsK S.counts)]), (12, [.i .i64 d.kind, .i .i64 d.thing, .i .i64 d.num])] ?_ ?_
        · refine AWp.go [3, 4, 8, 10, 12, 42, 43, 44, 49, 50] [4, 5, 8, 10, 12] fun K hK => ?_
          simp
          first | refine hK _ _ ?_ | refine ⟨by omega, hK _ _ ?_⟩ | refine ⟨by omega, by omega, hK _ _ ?_⟩
          clear hK K
          by_cases q1 : d.kind = 1
          · refine AWp.cond (t := true) (by first | (simp [q1]; done) | (simp [q1]; omega)) (fun _ => ?_) (by simp)
            refine AWp.skip ?_
            simp [q1]
          · refine AWp.cond (t := false) (by first | (simp [q1]; done) | (simp [q1]; omega)) (by simp) (fun _ => ?_)
            refine AWp.goLast [3, 4, 8, 10, 12, 42, 43, 44, 49, 50] [4, 5, 8, 10, 12] fun K hK => ?_
            simp
            first | refine hK _ _ ?_ | refine ⟨by omega, hK _ _ ?_⟩ | refine ⟨by omega, by omega, hK _ _ ?_⟩
            clear hK K
            simp [q1]
        by_cases q12 : d.kind = 1 ∨ d.kind = 2
        · refine AWp.cond (t := true) (by first | (simp [q12]; done) | (simp [q12]; omega)) (fun _ => ?_) (by simp)
          obtain ⟨a, ha, hal⟩ := inN_nat (hdf.1 q12)
          have hal : a < S.sets.length := by omega
          have hg := (c_eval_put S.sets[a] k (decide (d.kind = 1)) (by have := hbd.1 _ (List.getElem_mem hal); omega)).fro
          simp at hg
          have hD : doStep k S d = ⟨S.sets.set a (putT S.sets[a] k (decide (d.kind = 1))), S.counts⟩ := by rw [doStep, if_pos q12, ha, setOf_at _ _ hal]; rfl
          refine AWp.goLastD 15 (fun j => if j = 14 then .sl .fro 1 (strsAV (putT S.sets[a] k (decide (d.kind = 1)))) else .any) [3, 4, 8, 10, 42, 43, 44] [4, 5, 8, 10] mix (by kernel_rfl) fun K hK => ?_
          simp [ha, hal, hg, rowsS_set]
          first | refine hK _ _ ?_ | refine ⟨by omega, hK _ _ ?_⟩ | refine ⟨by omega, by omega, hK _ _ ?_⟩
          clear hK K
          show AWp _ _ _ _
          refine AWp.goLast [3, 4, 8, 10, 42, 43, 44] [4, 5, 8, 10] fun K hK => ?_
          simp
          first | refine hK _ _ ?_ | refine ⟨by omega, hK _ _ ?_⟩ | refine ⟨by omega, by omega, hK _ _ ?_⟩
          clear hK K
          refine ⟨i + 1, by omega, by omega, ?_⟩
          rw [hnx, hD]
          simp
          exact wrap64 (by omega) (by omega)
        · refine AWp.cond (t := false) (by first | (simp [q12]; done) | (simp [q12]; omega)) (by simp) (fun _ => ?_)
          refine AWp.go [3, 4, 8, 10, 12, 42, 43, 44, 49, 69] [4, 5, 8, 10, 12] fun K hK => ?_
          simp
          first | refine hK _ _ ?_ | refine ⟨by omega, hK _ _ ?_⟩ | refine ⟨by omega, by omega, hK _ _ ?_⟩
          clear hK K
          by_cases q3 : d.kind = 3
          · refine AWp.cond (t := true) (by first | (simp [q3]; done) | (simp [q3]; omega)) (fun _ => ?_) (by simp)
            obtain ⟨a, ha, hal⟩ := inN_nat (hdf.2.1 (.inl q3))
            have hal : a < S.counts.length := by omega
            have hbc := hbd.2 _ (List.getElem_mem hal)
            have hg := (c_eval_more S.counts[a] k d.num (by omega) (by omega) (fun c hc => by have := hbc.2 c hc; omega)).fro
            simp at hg
            have hD : doStep k S d = ⟨S.sets, S.counts.set a (moreT S.counts[a] k d.num)⟩ := by rw [doStep, if_neg q12, if_pos q3, ha, countOf_at _ _ hal]; rfl
            refine AWp.goLastD 14 (fun j => if j = 13 then .sl .fro 2 (celsAV (moreT S.counts[a] k d.num)) else .any) [3, 4, 8, 10, 42, 43, 44] [4, 5, 8, 10] mix (by kernel_rfl) fun K hK => ?_
            simp [ha, hal, hg, rowsK_set]
            first | refine hK _ _ ?_ | refine ⟨by omega, hK _ _ ?_⟩ | refine ⟨by omega, by omega, hK _ _ ?_⟩
            clear hK K
            show AWp _ _ _ _
            refine AWp.goLast [3, 4, 8, 10, 42, 43, 44] [4, 5, 8, 10] fun K hK => ?_
            simp
            first | refine hK _ _ ?_ | refine ⟨by omega, hK _ _ ?_⟩ | refine ⟨by omega, by omega, hK _ _ ?_⟩
            clear hK K
            refine ⟨i + 1, by omega, by omega, ?_⟩
            rw [hnx, hD]
            simp
            exact wrap64 (by omega) (by omega)
          · refine AWp.cond (t := false) (by first | (simp [q3]; done) | (simp [q3]; omega)) (by simp) (fun _ => ?_)
            refine AWp.go [3, 4, 8, 10, 12, 42, 43, 44, 86] [4, 5, 8, 10, 12] fun K hK => ?_
            simp
            first | refine hK _ _ ?_ | refine ⟨by omega, hK _ _ ?_⟩ | refine ⟨by omega, by omega, hK _ _ ?_⟩
            clear hK K
            by_cases q4 : d.kind = 4
            · refine AWp.cond (t := true) (by first | (simp [q4]; done) | (simp [q4]; omega)) (fun _ => ?_) (by simp)
              obtain ⟨a, ha, hal⟩ := inN_nat (hdf.2.1 (.inr q4))
              have hal : a < S.counts.length := by omega
              have hbc := hbd.2 _ (List.getElem_mem hal)
              have hg := (c_eval_more S.counts[a] k (-d.num) (by omega) (by omega) (fun c hc => by have := hbc.2 c hc; omega)).fro
              simp at hg
              have wn : IntKind.i64.wrap (-d.num) = -d.num := wrap64 (by omega) (by omega)
              have hD : doStep k S d = ⟨S.sets, S.counts.set a (moreT S.counts[a] k (-d.num))⟩ := by rw [doStep, if_neg q12, if_neg q3, if_pos q4, ha, countOf_at _ _ hal]; rfl
              refine AWp.goLastD 15 (fun j => if j = 14 then .sl .fro 2 (celsAV (moreT S.counts[a] k (-d.num))) else .any) [3, 4, 8, 10, 42, 43, 44] [4, 5, 8, 10] mix (by kernel_rfl) fun K hK => ?_
              simp [ha, hal, hg, rowsK_set, wn]
              first | refine hK _ _ ?_ | refine ⟨by omega, hK _ _ ?_⟩ | refine ⟨by omega, by omega, hK _ _ ?_⟩
              clear hK K
              show AWp _ _ _ _
              refine AWp.goLast [3, 4, 8, 10, 42, 43, 44] [4, 5, 8, 10] fun K hK => ?_
              simp
              first | refine hK _ _ ?_ | refine ⟨by omega, hK _ _ ?_⟩ | refine ⟨by omega, by omega, hK _ _ ?_⟩
              clear hK K
              refine ⟨i + 1, by omega, by omega, ?_⟩
              rw [hnx, hD]
              simp
              exact wrap64 (by omega) (by omega)
            · refine AWp.cond (t := false) (by first | (simp [q4]; done) | (simp [q4]; omega)) (by simp) (fun _ => ?_)
              refine AWp.skip ?_
              show AWp _ _ _ _
              refine AWp.goLast [3, 4, 8, 10, 42, 43, 44] [4, 5, 8, 10] fun K hK => ?_
              simp
              first | refine hK _ _ ?_ | refine ⟨by omega, hK _ _ ?_⟩ | refine ⟨by omega, by omega, hK _ _ ?_⟩
              clear hK K
              have hD : doStep k S d = S := by rw [doStep, if_neg q12, if_neg q3, if_neg q4]
              refine ⟨i + 1, by omega, by omega, ?_⟩
              rw [hnx, hD]
              simp
              exact wrap64 (by omega) (by omega)
      · refine AWp.cond (t := false) (by first | (simp [h]; done) | (simp [h]; omega)) (by simp) (fun _ => ?_)
        refine AWp.exit ?_
        show AWp _ _ _ _
        refine AWp.seq ?_
        obtain rfl : i = p.does.length := by omega
        rw [List.take_length]
        have hbd : Bd (4000 + p.does.length) (doTo k s p.does) := Bd.doTo _ hnum (stateB_bd hok.2.1)
        have hln := doTo_lens k p.does s
        obtain ⟨T, hT⟩ : ∃ T, T = doTo k s p.does := ⟨_, rfl⟩
        rw [← hT] at hbd hln ⊢
        have hgm := c_eval_may r T hr.1 (hbd.slight (by omega) (by omega) (by omega))
        simp [rulC, staC] at hgm
        refine AWp.step [8, 10, 108] [4, 5, 8, 10] [(8, .ptr 8 0), (10, .ptr 10 0), (108, .b (!stateB r T))] [(4, [.sl .fro 1 (strsAV r.sets), .sl .fro 1 (strsAV r.counts), .sl .fro 1 (strsAV r.notes), .sl .fro 5 (clsAV r.cls), .sl .fro 2 (opnsAV r.opers)]), (5, [.sl .fro 1 (rowsS s.sets), .sl .fro 1 (rowsK s.counts)]), (8, [.sl .nl 1 [], .sl .nl 1 []]), (10, [.sl .own 1 (rowsS T.sets), .sl .own 1 (rowsK T.counts)])] ?_ ?_
        · simp
          refine call_flat hgm (by simp) rfl ?_
          simp
        cases hst : stateB r T
        · refine AWp.cond (t := true) (by simp) (fun _ => ?_) (by simp)
          refine AWp.go [8, 9] [4, 5, 8, 10] fun K hK => ?_
          simp
          first | refine hK _ _ ?_ | refine ⟨by omega, hK _ _ ?_⟩ | refine ⟨by omega, by omega, hK _ _ ?_⟩
          clear hK K
          refine AWp.ret ?_
          simp [hst, emptyS, rowsS, rowsK]
        · refine AWp.cond (t := false) (by simp) (by simp) (fun _ => ?_)
          refine AWp.skip ?_
          show AWp _ _ _ _
          refine AWp.go [8, 9] [4, 5, 8, 10] fun K hK => ?_
          simp
          first | refine hK _ _ ?_ | refine ⟨by omega, hK _ _ ?_⟩ | refine ⟨by omega, by omega, hK _ _ ?_⟩
          clear hK K
          refine AWp.ret ?_
          simp [hst]
    · refine AWp.cond (t := true) (by simp) (fun _ => ?_) (by simp)
      have hn : (if 0 ≤ o then r.opers[o.toNat]? else none) = none := by
        simp only [Bool.or_eq_true, decide_eq_true_eq] at ho
        split
        · exact List.getElem?_eq_none (by omega)
        · rfl
      refine AWp.go [8, 9] [4, 5, 8] fun K hK => ?_
      simp
      first | refine hK _ _ ?_ | refine ⟨by omega, hK _ _ ?_⟩ | refine ⟨by omega, by omega, hK _ _ ?_⟩
      clear hK K
      refine AWp.ret ?_
      simp [doRes, hh, hn, emptyS, rowsS, rowsK]
end Go.AM
namespace Go.AM
open Go.Proofs
def lightK (l : List Cel) : Bool := l.all (fun c => !decide ((100 : Int) < c.key.size)) && decide ((l.length : Int) ≤ 60)
theorem lightK_not {l : List Cel} {i : Nat} (h : i < l.length) (hp : (100 : Int) < l[i].key.size) : lightK l = false := by
  have : (l.all fun c => !decide ((100 : Int) < c.key.size)) = false := all_not h (by simpa using hp)
  simp [lightK, this]
set_option maxRecDepth 8000 in
set_option maxHeartbeats 1000000 in
theorem c_law10_Light (l : List Cel) (hlen : l.length ≤ 9223372036854775807) : Pure Tryz.prog 25 [.sl .fro 2 (celsAV l)] (.b (lightK l)) := by
  refine proc_of (cx Tryz.prog 24 [0, 2, 3, 11, 20] [2]) 23 [.tmp 2] Tryz.func25 rfl rfl rfl rfl rfl rfl (Nat.le_refl _) rfl ?_
  refine AWp.go [0] [] fun K hK => ?_
  simp
  first | refine hK _ _ ?_ | refine ⟨by omega, hK _ _ ?_⟩ | refine ⟨by omega, by omega, hK _ _ ?_⟩
  clear hK K
  refine AWp.seq ?_
  refine AWp.go [0, 3] [] fun K hK => ?_
  simp
  first | refine hK _ _ ?_ | refine ⟨by omega, hK _ _ ?_⟩ | refine ⟨by omega, by omega, hK _ _ ?_⟩
  clear hK K
  refine AWp.block (AWp.while (fun i : Nat => [(0, .sl .fro 2 (celsAV l)), (3, .i .i64 i)]) (fun i => []) (fun i => i ≤ l.length ∧ i ≤ 61 ∧ ∀ k (hk : k < i) (hk2 : k < l.length), (!decide ((100 : Int) < l[k].key.size)) = true) (fun i => l.length - i) [0, 3] [] 0 (by simp) (by simp) ?_)
  rintro i ⟨hi, hi2, hall⟩
  refine AWp.seq ?_
  refine AWp.step [0, 3, 11] [] [(0, .sl .fro 2 (celsAV l)), (3, .i .i64 i), (11, .b (decide (i < l.length) && decide (i ≤ 60)))] [] ?_ ?_
  · by_cases q : i < l.length <;> simp [q]
    omega
  cases h0 : decide (i < l.length) && decide (i ≤ 60)
  · refine AWp.cond (t := false) (by simp) (by simp) (fun _ => ?_)
    refine AWp.exit ?_
    show AWp _ _ _ _
    simp only [Bool.and_eq_false_iff, decide_eq_false_iff_not] at h0
    have hE : decide ((l.length : Int) ≤ 60) = lightK l := by
      by_cases q : l.length ≤ 60
      · have : (l.all fun c => !decide ((100 : Int) < c.key.size)) = true := all_of fun k hk => hall k (by omega) hk
        simp [lightK, this]
      · have e : decide ((l.length : Int) ≤ 60) = false := by simp; omega
        simp only [lightK, e, Bool.and_false]
    refine AWp.go [2] [] fun K hK => ?_
    simp
    first | refine hK _ _ ?_ | refine ⟨by omega, hK _ _ ?_⟩ | refine ⟨by omega, by omega, hK _ _ ?_⟩
    clear hK K
    refine AWp.ret ?_
    simp [← hE]
  · refine AWp.cond (t := true) (by simp) (fun _ => ?_) (by simp)
    refine AWp.skip ?_
    show AWp _ _ _ _
    refine AWp.seq ?_
    refine AWp.block ?_
    simp only [Bool.and_eq_true, decide_eq_true_eq] at h0
    obtain ⟨h, h60⟩ := h0
    refine AWp.go [0, 3, 20] [] fun K hK => ?_
    simp [h]
    first | refine hK _ _ ?_ | refine ⟨by omega, hK _ _ ?_⟩ | refine ⟨by omega, by omega, hK _ _ ?_⟩
    clear hK K
    by_cases hp : (100 : Int) < l[i].key.size
    · refine AWp.cond (t := true) (by first | (simp [hp]; done) | (simp [hp]; omega)) (fun _ => ?_) (by simp)
      refine AWp.go [2] [] fun K hK => ?_
      simp
      first | refine hK _ _ ?_ | refine ⟨by omega, hK _ _ ?_⟩ | refine ⟨by omega, by omega, hK _ _ ?_⟩
      clear hK K
      refine AWp.ret ?_
      simp [lightK_not h hp]
    · refine AWp.cond (t := false) (by first | (simp [hp]; done) | (simp [hp]; omega)) (by simp) (fun _ => ?_)
      refine AWp.skip ?_
      show AWp _ _ _ _
      refine AWp.goLast [0, 3] [] fun K hK => ?_
      simp
      first | refine hK _ _ ?_ | refine ⟨by omega, hK _ _ ?_⟩ | refine ⟨by omega, by omega, hK _ _ ?_⟩
      clear hK K
      refine ⟨i + 1, ⟨by omega, by omega, fun k hk hk2 => ?_⟩, by omega, ?_⟩
      · by_cases hki : k = i
        · subst hki; simpa using hp
        · exact hall k (by omega) hk2
      · simp
        exact wrap64 (by omega) (by omega)
def lightL (l : List ByteArray) : Bool := !decide ((30 : Int) < l.length) && l.all (fun k => !decide ((100 : Int) < k.size))
def lightC (l : List Cel) : Bool := lightK l && !decide ((30 : Int) < l.length)
def lightS (s : Sta) : Bool := s.sets.all lightL && s.counts.all lightC && decide ((s.sets.length : Int) ≤ 20) && decide ((s.counts.length : Int) ≤ 20)
theorem lightS_set {s : Sta} {i : Nat} (h : i < s.sets.length) (hp : lightL s.sets[i] = false) : lightS s = false := by
  have : s.sets.all lightL = false := all_not h hp
  simp [lightS, this]
theorem lightS_count {s : Sta} {i : Nat} (h : i < s.counts.length) (hp : lightC s.counts[i] = false) : lightS s = false := by
  have : s.counts.all lightC = false := all_not h hp
  simp [lightS, this]
set_option maxRecDepth 8000 in
set_option maxHeartbeats 8000000 in
theorem c_law19_Light (s : Sta) (n1 : s.sets.length ≤ 9223372036854775807) (n2 : s.counts.length ≤ 9223372036854775807) (n3 : ∀ l ∈ s.sets, l.length ≤ 9223372036854775807) (n4 : ∀ l ∈ s.counts, l.length ≤ 9223372036854775807) : Pure Tryz.prog 7 [.agg (staC s)] (.b (lightS s)) := by
  refine proc_of (cx Tryz.prog 81 [1, 2, 3, 4, 5, 14, 23, 31, 43, 52, 70] [2]) 80 [.tmp 2] Tryz.func7 rfl rfl rfl rfl rfl rfl (Nat.le_refl _) rfl ?_
  refine AWp.go [1] [1] fun K hK => ?_
  simp [staC]
  first | refine hK _ _ ?_ | refine ⟨by omega, hK _ _ ?_⟩ | refine ⟨by omega, by omega, hK _ _ ?_⟩
  clear hK K
  refine AWp.seq ?_
  refine AWp.go [1, 3] [1] fun K hK => ?_
  simp
  first | refine hK _ _ ?_ | refine ⟨by omega, hK _ _ ?_⟩ | refine ⟨by omega, by omega, hK _ _ ?_⟩
  clear hK K
  refine AWp.block (AWp.while (fun i : Nat => [(1, .ptr 1 0), (3, .i .i64 i)]) (fun i => [(1, [.sl .fro 1 (rowsS s.sets), .sl .fro 1 (rowsK s.counts)])]) (fun i => i ≤ s.sets.length ∧ i ≤ 21 ∧ ∀ k (hk : k < i) (hk2 : k < s.sets.length), lightL s.sets[k] = true) (fun i => s.sets.length - i) [1, 3] [1] 0 (by simp) (by simp) ?_)
  rintro i ⟨hi, hi2, hall⟩
  refine AWp.seq ?_
  refine AWp.step [1, 3, 14] [1] [(1, .ptr 1 0), (3, .i .i64 i), (14, .b (decide (i < s.sets.length) && decide (i ≤ 20)))] [(1, [.sl .fro 1 (rowsS s.sets), .sl .fro 1 (rowsK s.counts)])] ?_ ?_
  · by_cases q : i < s.sets.length <;> simp [q]
    omega
  cases h0 : decide (i < s.sets.length) && decide (i ≤ 20)
  · refine AWp.cond (t := false) (by simp) (by simp) (fun _ => ?_)
    refine AWp.exit ?_
    show AWp _ _ _ _
    refine AWp.seq ?_
    simp only [Bool.and_eq_false_iff, decide_eq_false_iff_not] at h0
    have hA : s.sets.all lightL = true ∨ 20 < s.sets.length := by
      by_cases q : s.sets.length ≤ 20
      · exact .inl (all_of fun k hk => hall k (by omega) hk)
      · exact .inr (by omega)
    clear hall h0
    refine AWp.go [1, 5] [1] fun K hK => ?_
    simp
    first | refine hK _ _ ?_ | refine ⟨by omega, hK _ _ ?_⟩ | refine ⟨by omega, by omega, hK _ _ ?_⟩
    clear hK K
    refine AWp.block (AWp.while (fun c : Nat => [(1, .ptr 1 0), (5, .i .i64 c)]) (fun c => [(1, [.sl .fro 1 (rowsS s.sets), .sl .fro 1 (rowsK s.counts)])]) (fun c => c ≤ s.counts.length ∧ c ≤ 21 ∧ ∀ k (hk : k < c) (hk2 : k < s.counts.length), lightC s.counts[k] = true) (fun c => s.counts.length - c) [1, 5] [1] 0 (by simp) (by simp) ?_)
    rintro c ⟨hc, hc2, hall⟩
    refine AWp.seq ?_
    refine AWp.step [1, 5, 52] [1] [(1, .ptr 1 0), (5, .i .i64 c), (52, .b (decide (c < s.counts.length) && decide (c ≤ 20)))] [(1, [.sl .fro 1 (rowsS s.sets), .sl .fro 1 (rowsK s.counts)])] ?_ ?_
    · by_cases q : c < s.counts.length <;> simp [q]
      omega
    cases h0 : decide (c < s.counts.length) && decide (c ≤ 20)
    · refine AWp.cond (t := false) (by simp) (by simp) (fun _ => ?_)
      refine AWp.exit ?_
      show AWp _ _ _ _
      simp only [Bool.and_eq_false_iff, decide_eq_false_iff_not] at h0
      have hC : s.counts.all lightC = true ∨ 20 < s.counts.length := by
        by_cases q : s.counts.length ≤ 20
        · exact .inl (all_of fun k hk => hall k (by omega) hk)
        · exact .inr (by omega)
      have hE : (decide ((s.sets.length : Int) ≤ 20) && decide ((s.counts.length : Int) ≤ 20)) = lightS s := by
        unfold lightS
        by_cases q1 : (s.sets.length : Int) ≤ 20
        · by_cases q2 : (s.counts.length : Int) ≤ 20
          · rw [hA.resolve_right (by omega), hC.resolve_right (by omega)]; simp
          · simp [q2]
        · simp [q1]
      refine AWp.step [2] [1] [(2, .b (lightS s))] [(1, [.sl .fro 1 (rowsS s.sets), .sl .fro 1 (rowsK s.counts)])] ?_ ?_
      · rw [← hE]
        by_cases q1 : (s.sets.length : Int) ≤ 20 <;> simp [q1]
      refine AWp.ret ?_
      simp
    · refine AWp.cond (t := true) (by simp) (fun _ => ?_) (by simp)
      refine AWp.skip ?_
      show AWp _ _ _ _
      refine AWp.seq ?_
      refine AWp.block ?_
      simp only [Bool.and_eq_true, decide_eq_true_eq] at h0
      obtain ⟨h, h20⟩ := h0
      have hn := n4 _ (List.getElem_mem h)
      refine AWp.step [1, 5, 70] [1] [(1, .ptr 1 0), (5, .i .i64 c), (70, .b (!lightC s.counts[c]))] [(1, [.sl .fro 1 (rowsS s.sets), .sl .fro 1 (rowsK s.counts)])] ?_ ?_
      · simp [h]
        refine call_pure (c_law10_Light s.counts[c] (by omega)) (by simp) ?_
        cases q1 : lightK s.counts[c] <;> simp [h, lightC, q1]
      cases hp : lightC s.counts[c]
      · refine AWp.cond (t := true) (by simp) (fun _ => ?_) (by simp)
        refine AWp.go [2] [1] fun K hK => ?_
        simp
        first | refine hK _ _ ?_ | refine ⟨by omega, hK _ _ ?_⟩ | refine ⟨by omega, by omega, hK _ _ ?_⟩
        clear hK K
        refine AWp.ret ?_
        simp [lightS_count h hp]
      · refine AWp.cond (t := false) (by simp) (by simp) (fun _ => ?_)
        refine AWp.skip ?_
        show AWp _ _ _ _
        refine AWp.goLast [1, 5] [1] fun K hK => ?_
        simp
        first | refine hK _ _ ?_ | refine ⟨by omega, hK _ _ ?_⟩ | refine ⟨by omega, by omega, hK _ _ ?_⟩
        clear hK K
        refine ⟨c + 1, ⟨by omega, by omega, fun k hk hk2 => ?_⟩, by omega, ?_⟩
        · by_cases hki : k = c
          · subst hki; exact hp
          · exact hall k (by omega) hk2
        · simp
          exact wrap64 (by omega) (by omega)
  · refine AWp.cond (t := true) (by simp) (fun _ => ?_) (by simp)
    refine AWp.skip ?_
    show AWp _ _ _ _
    refine AWp.seq ?_
    refine AWp.block ?_
    refine AWp.seq ?_
    simp only [Bool.and_eq_true, decide_eq_true_eq] at h0
    obtain ⟨h, h20⟩ := h0
    have hn := n3 _ (List.getElem_mem h)
    refine AWp.go [1, 3, 23] [1] fun K hK => ?_
    simp [h]
    first | refine hK _ _ ?_ | refine ⟨by omega, hK _ _ ?_⟩ | refine ⟨by omega, by omega, hK _ _ ?_⟩
    clear hK K
    by_cases hp : (30 : Int) < s.sets[i].length
    · refine AWp.cond (t := true) (by first | (simp [hp]; done) | (simp [hp]; omega)) (fun _ => ?_) (by simp)
      refine AWp.go [2] [1] fun K hK => ?_
      simp
      first | refine hK _ _ ?_ | refine ⟨by omega, hK _ _ ?_⟩ | refine ⟨by omega, by omega, hK _ _ ?_⟩
      clear hK K
      refine AWp.ret ?_
      simp [lightS_set h (by simp [lightL, hp])]
    · refine AWp.cond (t := false) (by first | (simp [hp]; done) | (simp [hp]; omega)) (by simp) (fun _ => ?_)
      refine AWp.skip ?_
      show AWp _ _ _ _
      refine AWp.go [1, 3, 4] [1] fun K hK => ?_
      simp
      first | refine hK _ _ ?_ | refine ⟨by omega, hK _ _ ?_⟩ | refine ⟨by omega, by omega, hK _ _ ?_⟩
      clear hK K
      refine AWp.block (AWp.while (fun j : Nat => [(1, .ptr 1 0), (3, .i .i64 i), (4, .i .i64 j)]) (fun j => [(1, [.sl .fro 1 (rowsS s.sets), .sl .fro 1 (rowsK s.counts)])]) (fun j => j ≤ s.sets[i].length ∧ ∀ k (hk : k < j) (hk2 : k < s.sets[i].length), (!decide ((100 : Int) < s.sets[i][k].size)) = true) (fun j => s.sets[i].length - j) [1, 3, 4] [1] 0 (by simp) (by simp) ?_)
      rintro j ⟨hj, hallj⟩
      refine AWp.seq ?_
      refine AWp.go [1, 3, 4, 31] [1] fun K hK => ?_
      simp [h]
      first | refine hK _ _ ?_ | refine ⟨by omega, hK _ _ ?_⟩ | refine ⟨by omega, by omega, hK _ _ ?_⟩
      clear hK K
      by_cases g : j < s.sets[i].length
      · refine AWp.cond (t := true) (by first | (simp [g]; done) | (simp [g]; omega)) (fun _ => ?_) (by simp)
        refine AWp.skip ?_
        show AWp _ _ _ _
        refine AWp.seq ?_
        refine AWp.block ?_
        refine AWp.go [1, 3, 4, 43] [1] fun K hK => ?_
        simp [h, g]
        first | refine hK _ _ ?_ | refine ⟨by omega, hK _ _ ?_⟩ | refine ⟨by omega, by omega, hK _ _ ?_⟩
        clear hK K
        by_cases hq : (100 : Int) < s.sets[i][j].size
        · refine AWp.cond (t := true) (by first | (simp [hq]; done) | (simp [hq]; omega)) (fun _ => ?_) (by simp)
          have hz : lightL s.sets[i] = false := by
            have : (s.sets[i].all fun k => !decide ((100 : Int) < k.size)) = false := all_not g (by simpa using hq)
            simp [lightL, this]
          refine AWp.go [2] [1] fun K hK => ?_
          simp
          first | refine hK _ _ ?_ | refine ⟨by omega, hK _ _ ?_⟩ | refine ⟨by omega, by omega, hK _ _ ?_⟩
          clear hK K
          refine AWp.ret ?_
          simp [lightS_set h hz]
        · refine AWp.cond (t := false) (by first | (simp [hq]; done) | (simp [hq]; omega)) (by simp) (fun _ => ?_)
          refine AWp.skip ?_
          show AWp _ _ _ _
          refine AWp.goLast [1, 3, 4] [1] fun K hK => ?_
          simp
          first | refine hK _ _ ?_ | refine ⟨by omega, hK _ _ ?_⟩ | refine ⟨by omega, by omega, hK _ _ ?_⟩
          clear hK K
          refine ⟨j + 1, ⟨by omega, fun k hk hk2 => ?_⟩, by omega, ?_⟩
          · by_cases hki : k = j
            · subst hki; simpa using hq
            · exact hallj k (by omega) hk2
          · simp
            exact wrap64 (by omega) (by omega)
      · refine AWp.cond (t := false) (by first | (simp [g]; done) | (simp [g]; omega)) (by simp) (fun _ => ?_)
        refine AWp.exit ?_
        show AWp _ _ _ _
        refine AWp.goLast [1, 3] [1] fun K hK => ?_
        simp
        first | refine hK _ _ ?_ | refine ⟨by omega, hK _ _ ?_⟩ | refine ⟨by omega, by omega, hK _ _ ?_⟩
        clear hK K
        have hz : lightL s.sets[i] = true := by
          have : (s.sets[i].all fun k => !decide ((100 : Int) < k.size)) = true := all_of fun k hk => hallj k (by omega) hk
          simp [lightL, this]; omega
        refine ⟨i + 1, ⟨by omega, by omega, fun k hk hk2 => ?_⟩, by omega, ?_⟩
        · by_cases hki : k = i
          · subst hki; exact hz
          · exact hall k (by omega) hk2
        · simp
          exact wrap64 (by omega) (by omega)
theorem flat_le_mul {α : Type} (n : Nat) : ∀ (l : List (List α)), (∀ x ∈ l, x.length ≤ n) → l.flatten.length ≤ l.length * n
  | [], _ => by simp
  | a :: l, h => by
    have h1 := flat_le_mul n l fun x hx => h x (List.mem_cons_of_mem _ hx)
    have h2 := h a (List.mem_cons_self ..)
    rw [List.flatten_cons, List.length_append, List.length_cons, Nat.succ_mul]; omega
theorem few_of {s : Sta} (h : lightS s = true) : Few s := by
  simp only [lightS, Bool.and_eq_true, decide_eq_true_eq, List.all_eq_true] at h
  obtain ⟨⟨⟨h1, h2⟩, h3⟩, h4⟩ := h
  have k1 : ∀ l ∈ s.sets, l.length ≤ 30 := fun l hl => by
    have := h1 l hl
    simp only [lightL, Bool.and_eq_true, Bool.not_eq_true', decide_eq_false_iff_not] at this
    omega
  have k2 : ∀ l ∈ s.counts, l.length ≤ 30 := fun l hl => by
    have := h2 l hl
    simp only [lightC, Bool.and_eq_true, Bool.not_eq_true', decide_eq_false_iff_not] at this
    omega
  have m1 := flat_le_mul 30 _ k1
  have m2 := flat_le_mul 30 _ k2
  refine ⟨⟨by omega, by omega, fun l hl => ?_, fun l hl => ?_⟩, by omega, by omega⟩
  · have := k1 l hl; omega
  · have := k2 l hl; omega
def placeI (n m : Int) : Int := if n < 0 ∨ m ≤ n then 0 else n
end Go.AM
namespace Go.AM
open Go.Proofs
def kA : ByteArray := ⟨#[97]⟩
def kB : ByteArray := ⟨#[98]⟩
def kK : ByteArray := ⟨#[107]⟩
def kL : ByteArray := ⟨#[108]⟩
def awR : Rul := ⟨[kA, kB], [], [], [⟨4, false, 0, 1, 0⟩], []⟩
def awS : Sta := ⟨[[kK], []], []⟩
def awT : Sta := ⟨[[kK], [kK, kL]], []⟩
theorem aw_broken : brokenP awR awS = [0] := by kernel_rfl
theorem aw_holds : heldP awR awS 0 = false := by kernel_rfl
theorem aw_holdsT : heldP awR awT 0 = true := by kernel_rfl
theorem aw_in : inOf awT 1 kL = true := by kernel_rfl
theorem awR_slim : Slim awR := by
  refine ⟨⟨by decide, by decide, by decide, by decide, by decide⟩, fun o ho => ?_, fun s hs => ?_⟩
  · cases ho
  · simp [allN, awR] at hs
    rcases hs with rfl | rfl <;> decide
theorem awS_slight : SlightS awS := by
  refine ⟨by decide, by decide, fun l hl => ?_, fun l hl => ?_⟩
  · simp [awS] at hl
    rcases hl with rfl | rfl <;> decide
  · cases hl
theorem awT_slight : SlightS awT := by
  refine ⟨by decide, by decide, fun l hl => ?_, fun l hl => ?_⟩
  · simp [awT] at hl
    rcases hl with rfl | rfl <;> decide
  · cases hl
set_option maxRecDepth 8000 in
set_option maxHeartbeats 8000000 in
theorem c_law19_awake : Pure Tryz.prog 8 [] (.b true) := by
  have g1 := c_eval_Broken awR awS awR_slim awS_slight
  have g2 := c_eval_Holds awR awS awR_slim awS_slight 0
  have g3 := c_eval_Holds awR awT awR_slim awT_slight 0
  have g4 := c_eval_In awT awT_slight 1 kL
  rw [aw_broken] at g1
  rw [aw_holds] at g2
  rw [aw_holdsT] at g3
  rw [aw_in] at g4
  simp [rulC, staC, awR, awS, awT, strsAV, clsAV, clC, rowsS, rowsK, opnsAV, kA, kB, kK, kL] at g1 g2 g3 g4
  refine proc_of (cx Tryz.prog 36 [0, 1, 2, 3] [0]) 36 [.tmp 0] Tryz.func8 rfl rfl rfl rfl rfl rfl (Nat.le_refl _) rfl ?_
  refine AWp.go [] [] fun K hK => ?_
  simp
  first | refine hK _ _ ?_ | refine ⟨by omega, hK _ _ ?_⟩ | refine ⟨by omega, by omega, hK _ _ ?_⟩
  clear hK K
  refine AWp.go [1] [1] fun K hK => ?_
  simp
  first | refine hK _ _ ?_ | refine ⟨by omega, hK _ _ ?_⟩ | refine ⟨by omega, by omega, hK _ _ ?_⟩
  clear hK K
  refine AWp.frzc [(1, 0)] ?_
  simp
  refine AWp.frzc [(1, 3)] ?_
  simp
  refine AWp.go [1, 2] [1, 2] fun K hK => ?_
  simp [-rowsS_nils, -rowsK_nils]
  first | refine hK _ _ ?_ | refine ⟨by omega, hK _ _ ?_⟩ | refine ⟨by omega, by omega, hK _ _ ?_⟩
  clear hK K
  refine AWp.frzc [(2, 0)] ?_
  simp
  refine AWp.go [1, 2, 3] [1, 2, 3] fun K hK => ?_
  simp [-rowsS_nils, -rowsK_nils]
  first | refine hK _ _ ?_ | refine ⟨by omega, hK _ _ ?_⟩ | refine ⟨by omega, by omega, hK _ _ ?_⟩
  clear hK K
  refine AWp.frzc [(3, 0)] ?_
  simp
  refine AWp.go [0] [1] fun K hK => ?_
  simp
  refine call_pure g1 (by simp) ?_
  simp
  refine call_pure g2 (by simp) ?_
  simp
  refine call_pure g3 (by simp) ?_
  simp
  refine call_pure g4 (by simp) ?_
  simp
  first | refine hK _ _ ?_ | refine ⟨by omega, hK _ _ ?_⟩ | refine ⟨by omega, by omega, hK _ _ ?_⟩
  clear hK K
  refine AWp.ret ?_
  simp
end Go.AM
namespace Go.AM
open Go.Proofs
end Go.AM
namespace Go.AM
open Go.Proofs
theorem eqK_ne {a b : ByteArray} (h : a ≠ b) : eqK a b = false := by rw [Bool.eq_false_iff]; exact fun e => h (eqK_eq.1 e)
theorem stateB_few {r : Rul} {s : Sta} (hr : rulesB r = true) (h : stateB r s = true) : Few s := by
  have hb := stateB_bd h
  simp only [rulesB, headB, lensB, Bool.and_eq_true, Bool.not_eq_true', decide_eq_false_iff_not] at hr
  simp only [stateB, Bool.and_eq_true, decide_eq_true_eq] at h
  obtain ⟨⟨⟨⟨⟨⟨⟨⟨h1, h2⟩, h3⟩, h4⟩, h5⟩, -⟩, -⟩, -⟩, -⟩ := hr
  obtain ⟨⟨⟨e1, e2⟩, -⟩, -⟩ := h
  have m1 := flat_le_mul 4000 _ hb.1
  have m2 := flat_le_mul 4000 _ fun l hl => (hb.2 l hl).1
  exact ⟨hb.slight (by omega) (by omega) (by omega), by omega, by omega⟩
end Go.AM
namespace Go.AM
open Go.Proofs
def putR : List ByteArray → ByteArray → Bool → List ByteArray
  | [], k, is => if is then [k] else []
  | x :: l, k, is => (if is && !ltK x k then [k] else []) ++ ((if eqK x k then [] else [x]) ++ putR l k (is && ltK x k))
def setR : List Cel → ByteArray → Int → Bool → List Cel
  | [], k, n, done => if done then [] else [⟨k, n⟩]
  | x :: l, k, n, done => (if !done && !ltK x.key k then [⟨k, n⟩] else []) ++ ((if eqK x.key k then [] else [x]) ++ setR l k n (done || !ltK x.key k))
theorem ltK_true {a b : ByteArray} (h : KL a b) : ltK a b = true := (ltK_iff a b).2 h
theorem ltK_false {a b : ByteArray} (h : ¬ KL a b) : ltK a b = false := by rw [Bool.eq_false_iff]; exact fun e => h ((ltK_iff a b).1 e)
theorem eqK_self (a : ByteArray) : eqK a a = true := eqK_eq.2 rfl
theorem putR_app (a b : List ByteArray) (k : ByteArray) (is : Bool) (h : ∀ x ∈ a, KL x k) : putR (a ++ b) k is = a ++ putR b k is := by
  induction a with
  | nil => rfl
  | cons x a ih =>
    have hx := h x (List.mem_cons_self ..)
    rw [List.cons_append, putR, ltK_true hx, eqK_ne hx.ne]
    simp [ih fun y hy => h y (List.mem_cons_of_mem _ hy)]
theorem putR_no (b : List ByteArray) (k : ByteArray) (h : ∀ x ∈ b, x ≠ k) : putR b k false = b := by
  induction b with
  | nil => rfl
  | cons x b ih =>
    rw [putR, eqK_ne (h x (List.mem_cons_self ..)), Bool.false_and, Bool.false_and, ih fun y hy => h y (List.mem_cons_of_mem _ hy)]
    simp
theorem setR_app (a b : List Cel) (k : ByteArray) (n : Int) (done : Bool) (h : ∀ x ∈ a, KL x.key k) : setR (a ++ b) k n done = a ++ setR b k n done := by
  induction a with
  | nil => rfl
  | cons x a ih =>
    have hx := h x (List.mem_cons_self ..)
    rw [List.cons_append, setR, ltK_true hx, eqK_ne hx.ne]
    simp [ih fun y hy => h y (List.mem_cons_of_mem _ hy)]
theorem setR_no (b : List Cel) (k : ByteArray) (n : Int) (h : ∀ x ∈ b, x.key ≠ k) : setR b k n true = b := by
  induction b with
  | nil => rfl
  | cons x b ih =>
    rw [setR, eqK_ne (h x (List.mem_cons_self ..)), Bool.true_or, ih fun y hy => h y (List.mem_cons_of_mem _ hy)]
    simp
theorem take_place {l : List ByteArray} (hl : SortS l) (k : ByteArray) : ∀ x ∈ l.take (placeS l k), KL x k := fun x hx => by
  obtain ⟨i, hi, rfl⟩ := List.mem_iff_getElem.1 hx
  rw [List.length_take] at hi
  rw [List.getElem_take]
  exact (placeS_spec hl k).1 i (by omega) (by omega)
theorem drop_place {l : List ByteArray} (hl : SortS l) {y : ByteArray} {b : List ByteArray} {p : Nat} (h : l.drop p = y :: b) : ∀ x ∈ b, KL y x := by
  have := (hl.drop (i := p))
  rw [h] at this
  exact fun x hx => List.rel_of_pairwise_cons this hx
theorem head_place {l : List ByteArray} (hl : SortS l) {k y : ByteArray} {b : List ByteArray} (h : l.drop (placeS l k) = y :: b) : ¬ KL y k ∧ thereS l k = eqK y k := by
  have hp : placeS l k < l.length := by
    rcases Nat.lt_or_ge (placeS l k) l.length with h1 | h1
    · exact h1
    · rw [List.drop_eq_nil_of_le h1] at h; cases h
  have h2 := List.drop_eq_getElem_cons hp
  rw [h] at h2
  have h3 := (List.cons.inj h2).1
  rw [h3]
  refine ⟨(placeS_spec hl k).2 _ hp (Nat.le_refl _), ?_⟩
  unfold thereS
  rw [List.getElem?_eq_getElem hp]
theorem end_place {l : List ByteArray} {k : ByteArray} (h : l.drop (placeS l k) = []) : thereS l k = false := by
  unfold thereS
  rw [List.getElem?_eq_none (List.drop_eq_nil_iff.1 h)]
theorem KL.of_not {a b : ByteArray} (h : ¬ KL a b) (hn : a ≠ b) : KL b a := by
  by_cases h2 : KL b a
  · exact h2
  · exact absurd (KL.tri h h2) hn
/-- The document's list of keys is the program's. -/
theorem putR_law {l : List ByteArray} (hl : SortS l) (k : ByteArray) (is : Bool) : putR l k is = putT l k is := by
  conv => lhs; rw [← List.take_append_drop (placeS l k) l]
  rw [putR_app _ _ _ _ (take_place hl k)]
  cases hd : l.drop (placeS l k) with
  | nil =>
    have hth := end_place hd
    have hl2 : l.take (placeS l k) = l := List.take_of_length_le (List.drop_eq_nil_iff.1 hd)
    rw [putT, hth, hd, hl2, putR]
    cases is <;> simp
  | cons y b =>
    obtain ⟨h1, h2⟩ := head_place hl hd
    have hb := drop_place hl hd
    have hd2 : l.drop (placeS l k + 1) = b := by rw [← List.drop_drop, hd]; rfl
    have hl2 : l = l.take (placeS l k) ++ y :: b := by rw [← hd, List.take_append_drop]
    rw [putT, h2, hd, hd2, putR, ltK_false h1]
    by_cases he : y = k
    · subst he
      have hno : putR b y false = b := putR_no b y fun x hx e => (hb x hx).ne e.symm
      rw [eqK_self]
      cases is
      · simp [hno]
      · simp only [Bool.not_false, Bool.and_true, Bool.not_true, Bool.and_false, if_true, Bool.false_eq_true, if_false, List.nil_append]
        rw [hno]; conv => rhs; rw [hl2]
        simp
    · have hky := KL.of_not h1 he
      have hno : putR b k false = b := putR_no b k fun x hx e => (hky.trans (hb x hx)).ne e.symm
      rw [eqK_ne he]
      cases is
      · simp only [Bool.false_and, Bool.false_eq_true, if_false, List.nil_append, Bool.not_false, Bool.and_false]
        rw [hno]; conv => rhs; rw [hl2]
        simp
      · simp [hno]
theorem celKeys_drop (l : List Cel) (n : Nat) : (celKeys l).drop n = celKeys (l.drop n) := by unfold celKeys; rw [List.map_drop]
theorem celKeys_take (l : List Cel) (n : Nat) : (celKeys l).take n = celKeys (l.take n) := by unfold celKeys; rw [List.map_take]
/-- The document's tally, a number turned, is the program's. -/
theorem setR_law {l : List Cel} (hl : SortS (celKeys l)) (k : ByteArray) (n : Int) (hn : n ≠ 0) : setR l k (getN l k + n) (decide (getN l k + n = 0)) = moreT l k n := by
  obtain ⟨p, hp⟩ : ∃ p, p = placeS (celKeys l) k := ⟨_, rfl⟩
  obtain ⟨m, hm⟩ : ∃ m, m = getN l k := ⟨_, rfl⟩
  have ht : ∀ x ∈ l.take p, KL x.key k := fun x hx => take_place hl k _ (by rw [celKeys_take, ← hp]; exact List.mem_map.2 ⟨x, hx, rfl⟩)
  rw [← hm]
  conv => lhs; rw [← List.take_append_drop p l]
  rw [setR_app _ _ _ _ _ ht]
  have hz : thereS (celKeys l) k = false → m = 0 := fun h => by
    rw [hm]
    refine getN_zero fun c hc e => ?_
    have := thereS_eq hl k
    rw [h] at this
    have h2 := (hasS_iff (celKeys l) k).2 (List.mem_map.2 ⟨c, hc, e⟩)
    rw [← this] at h2; cases h2
  cases hd : l.drop p with
  | nil =>
    have hth : thereS (celKeys l) k = false := end_place (by rw [← hp, celKeys_drop, hd]; rfl)
    rw [moreT, hth, ← hp, hd, hz hth, setR]
    simp [hn]
  | cons y b =>
    have hdk : (celKeys l).drop (placeS (celKeys l) k) = y.key :: celKeys b := by rw [← hp, celKeys_drop, hd]; rfl
    obtain ⟨h1, h2⟩ := head_place hl hdk
    have hb := drop_place hl hdk
    have hd2 : l.drop (p + 1) = b := by rw [← List.drop_drop, hd]; rfl
    have hl2 : l = l.take p ++ y :: b := by rw [← hd, List.take_append_drop]
    have hpl : p < l.length := by
      rcases Nat.lt_or_ge p l.length with h | h
      · exact h
      · rw [List.drop_eq_nil_of_le h] at hd; cases hd
    have hy : l[p]? = some y := by
      rw [List.getElem?_eq_getElem hpl]
      have := List.drop_eq_getElem_cons hpl
      rw [hd] at this
      rw [(List.cons.inj this).1]
    have hym : y ∈ l := List.mem_of_getElem? hy
    rw [moreT, ← hp, hd, hd2, hy, h2, setR, ltK_false h1]
    by_cases he : y.key = k
    · subst he
      have hno : setR b y.key (m + n) true = b := setR_no b _ _ fun x hx e => (hb x.key (List.mem_map.2 ⟨x, hx, rfl⟩)).ne e.symm
      have hmy : m = y.num := by rw [hm]; exact getN_mem hl hym
      rw [eqK_self]
      simp only [Bool.not_true, Bool.false_eq_true, if_false, Bool.not_false, Bool.or_true, Bool.and_true, if_true, List.nil_append]
      rw [hno, hmy]
      by_cases h0 : y.num + n = 0
      · rw [if_pos (show y.num = -n by omega)]
        simp [h0]
      · rw [if_neg (show ¬ y.num = -n by omega), List.set_eq_take_append_cons_drop, if_pos hpl, hd2]
        simp [h0]
    · have hky := KL.of_not h1 he
      have hno : setR b k n true = b := setR_no b _ _ fun x hx e => (hky.trans (hb x.key (List.mem_map.2 ⟨x, hx, rfl⟩))).ne e.symm
      have hth : thereS (celKeys l) k = false := by rw [h2]; exact eqK_ne he
      rw [eqK_ne he, hz hth]
      simp [hno, hn]
theorem putT_sort {l : List ByteArray} (hl : SortS l) (k : ByteArray) (is : Bool) : SortS (putT l k is) := by
  have hcut : ∀ x ∈ l.take (placeS l k), KL x k := take_place hl k
  unfold putT
  split
  · rename_i h
    simp only [Bool.and_eq_true, Bool.not_eq_true'] at h
    have hge : ∀ x ∈ l.drop (placeS l k), KL k x := fun x hx => by
      cases hd : l.drop (placeS l k) with
      | nil => rw [hd] at hx; cases hx
      | cons y b =>
        obtain ⟨h1, h2⟩ := head_place hl hd
        have hne : y ≠ k := fun e => by rw [h.2, e, eqK_self] at h2; cases h2
        have hky := KL.of_not h1 hne
        rw [hd] at hx
        rcases List.mem_cons.1 hx with rfl | hx
        · exact hky
        · exact hky.trans (drop_place hl hd x hx)
    refine List.pairwise_append.2 ⟨hl.take, List.Pairwise.cons hge hl.drop, fun a ha b hb => ?_⟩
    rcases List.mem_cons.1 hb with rfl | hb
    · exact hcut a ha
    · exact (hcut a ha).trans (hge b hb)
  · split
    · rw [← List.eraseIdx_eq_take_drop_succ]
      exact hl.sublist (List.eraseIdx_sublist ..)
    · exact hl
theorem moreT_keys (l : List Cel) (k : ByteArray) (n : Int) : celKeys (moreT l k n) = putT (celKeys l) k true ∨ celKeys (moreT l k n) = putT (celKeys l) k false ∨ celKeys (moreT l k n) = celKeys l := by
  unfold moreT
  split
  · rename_i h
    refine .inl ?_
    rw [putT, if_pos (by simpa using h)]
    simp [celKeys]
  · rename_i h
    have hth : thereS (celKeys l) k = true := by simpa using h
    split
    · rename_i c hc
      split
      · refine .inr (.inl ?_)
        rw [putT, if_neg (by simp), if_pos (by simp [hth])]
        simp [celKeys]
      · refine .inr (.inr ?_)
        have hp : placeS (celKeys l) k < l.length := by
          rcases Nat.lt_or_ge (placeS (celKeys l) k) l.length with h | h
          · exact h
          · rw [List.getElem?_eq_none h] at hc; cases hc
        unfold celKeys
        rw [List.map_set]
        refine List.ext_getElem (by simp) fun i h1 h2 => ?_
        rw [List.getElem_set]
        split
        · rename_i e
          rw [List.getElem?_eq_getElem hp] at hc
          simp only [Option.some.injEq] at hc
          rw [← hc]
          simp only [List.getElem_map]
          congr 2
        · rfl
    · exact .inr (.inr rfl)
theorem moreT_sort {l : List Cel} (hl : SortS (celKeys l)) (k : ByteArray) (n : Int) : SortS (celKeys (moreT l k n)) := by
  rcases moreT_keys l k n with h | h | h <;> rw [h]
  · exact putT_sort hl k _
  · exact putT_sort hl k _
  · exact hl
def SortSt (s : Sta) : Prop := (∀ l ∈ s.sets, SortS l) ∧ ∀ l ∈ s.counts, SortS (celKeys l)
theorem SortSt.setOf {s : Sta} (h : SortSt s) (n : Int) : SortS (Go.AM.setOf s n) := by
  rcases setOf_or s n with h1 | h1
  · exact h.1 _ h1
  · rw [h1]; exact List.Pairwise.nil
theorem SortSt.countOf {s : Sta} (h : SortSt s) (n : Int) : SortS (celKeys (Go.AM.countOf s n)) := by
  rcases countOf_or s n with h1 | h1
  · exact h.2 _ h1
  · rw [h1]; exact List.Pairwise.nil
theorem SortSt.step {s : Sta} (h : SortSt s) (k : ByteArray) (d : Dg) : SortSt (doStep k s d) := by
  unfold doStep
  split
  · refine ⟨fun l hl => ?_, h.2⟩
    rcases List.mem_or_eq_of_mem_set hl with h1 | rfl
    · exact h.1 l h1
    · exact putT_sort (h.setOf _) _ _
  · split
    · refine ⟨h.1, fun l hl => ?_⟩
      rcases List.mem_or_eq_of_mem_set hl with h1 | rfl
      · exact h.2 l h1
      · exact moreT_sort (h.countOf _) _ _
    · split
      · refine ⟨h.1, fun l hl => ?_⟩
        rcases List.mem_or_eq_of_mem_set hl with h1 | rfl
        · exact h.2 l h1
        · exact moreT_sort (h.countOf _) _ _
      · exact h
theorem SortSt.doTo {k : ByteArray} (l : List Dg) : ∀ {s : Sta}, SortSt s → SortSt (Go.AM.doTo k s l) := by
  induction l with
  | nil => exact fun h => h
  | cons d l ih => exact fun h => ih (h.step k d)
theorem stateB_sort {r : Rul} {s : Sta} (h : stateB r s = true) : SortSt s := by
  obtain ⟨h1, h2⟩ := stateB_sets h
  exact ⟨fun l hl => setB_sort (h1 l hl), fun l hl => countB_sort (h2 l hl)⟩
end Go.AM
namespace Go.AM
open Go.Proofs
theorem putR_len (l : List ByteArray) (k : ByteArray) : ∀ is, (putR l k is).length ≤ 2 * l.length + 1 := by
  induction l with
  | nil => intro is; rw [putR]; split <;> simp
  | cons x l ih =>
    intro is
    have := ih (is && ltK x k)
    rw [putR, List.length_append, List.length_append, List.length_cons]
    split <;> split <;> simp <;> omega
theorem putR_step {l : List ByteArray} {i : Nat} (h : i < l.length) (k : ByteArray) (st : Bool) : putR (l.drop i) k st = (if st && !ltK l[i] k then [k] else []) ++ ((if eqK l[i] k then [] else [l[i]]) ++ putR (l.drop (i + 1)) k (st && ltK l[i] k)) := by
  rw [List.drop_eq_getElem_cons h, putR]
theorem setR_len (l : List Cel) (k : ByteArray) (n : Int) : ∀ d, (setR l k n d).length ≤ 2 * l.length + 1 := by
  induction l with
  | nil => intro d; rw [setR]; split <;> simp
  | cons x l ih =>
    intro d
    have := ih (d || !ltK x.key k)
    rw [setR, List.length_append, List.length_append, List.length_cons]
    split <;> split <;> simp <;> omega
theorem setR_step {l : List Cel} {i : Nat} (h : i < l.length) (k : ByteArray) (n : Int) (d : Bool) : setR (l.drop i) k n d = (if !d && !ltK l[i].key k then [⟨k, n⟩] else []) ++ ((if eqK l[i].key k then [] else [l[i]]) ++ setR (l.drop (i + 1)) k n (d || !ltK l[i].key k)) := by
  rw [List.drop_eq_getElem_cons h, setR]
theorem strsAV_snoc (l : List ByteArray) (x : ByteArray) : strsAV (l ++ [x]) = strsAV l ++ [[.s x]] := by rw [strsAV_append]; rfl
theorem celsAV_snoc (l : List Cel) (x : Cel) : celsAV (l ++ [x]) = celsAV l ++ [[.s x.key, .i .i64 x.num]] := by unfold celsAV; rw [List.map_append]; rfl
theorem st_same {a b : Bool} (h : (a && !b) = false) : (a && b) = a := by cases a <;> cases b <;> simp_all
theorem st_turn {a b : Bool} (h : (a && !b) = true) : (a && b) = false := by cases a <;> cases b <;> simp_all
theorem dn_same {a b : Bool} (h : (!a && !b) = false) : (a || !b) = a := by cases a <;> cases b <;> simp_all
theorem dn_turn {a b : Bool} (h : (!a && !b) = true) : (a || !b) = true := by cases a <;> cases b <;> simp_all
set_option maxRecDepth 8000 in
set_option maxHeartbeats 4000000 in
theorem c_ref19_Put (l : List ByteArray) (k : ByteArray) (is : Bool) (hl : l.length ≤ 100000) : Pure Tryz.prog 39 [.sl .fro 1 (strsAV l), .s k, .b is] (.sl .own 1 (strsAV (putR l k is))) := by
  refine proc_of (cx Tryz.prog 48 [0, 1, 2, 6, 7, 8, 13, 24, 34, 42] [6]) 45 [.tmp 6] Tryz.func39 rfl rfl rfl rfl rfl rfl (Nat.le_refl _) rfl ?_
  refine AWp.go [0, 1, 2] [] fun K hK => ?_
  simp
  first | refine hK _ _ ?_ | refine ⟨by omega, hK _ _ ?_⟩ | refine ⟨by omega, by omega, hK _ _ ?_⟩
  clear hK K
  refine AWp.go [0, 1, 2, 7] [] fun K hK => ?_
  simp
  first | refine hK _ _ ?_ | refine ⟨by omega, hK _ _ ?_⟩ | refine ⟨by omega, by omega, hK _ _ ?_⟩
  clear hK K
  refine AWp.seq ?_
  refine AWp.go [0, 1, 2, 7, 8] [] fun K hK => ?_
  simp
  first | refine hK _ _ ?_ | refine ⟨by omega, hK _ _ ?_⟩ | refine ⟨by omega, by omega, hK _ _ ?_⟩
  clear hK K
  refine AWp.block (AWp.while (fun p : Nat × List ByteArray × Bool => [(0, .sl .fro 1 (strsAV l)), (1, .s k), (2, .b p.2.2), (7, .sl .own 1 (strsAV p.2.1)), (8, .i .i64 p.1)]) (fun p => []) (fun p => p.1 ≤ l.length ∧ p.2.1 ++ putR (l.drop p.1) k p.2.2 = putR l k is) (fun p => l.length - p.1) [0, 1, 2, 7, 8] [] (0, [], is) (by simp) (by simp) ?_)
  rintro ⟨i, out, st⟩ ⟨hi, hinv⟩
  dsimp only at hi hinv
  have hol := congrArg List.length hinv
  have hpl := putR_len l k is
  rw [List.length_append] at hol
  try dsimp only
  refine AWp.seq ?_
  refine AWp.go [0, 1, 2, 7, 8, 13] [] fun K hK => ?_
  simp
  first | refine hK _ _ ?_ | refine ⟨by omega, hK _ _ ?_⟩ | refine ⟨by omega, by omega, hK _ _ ?_⟩
  clear hK K
  by_cases h : i < l.length
  · refine AWp.cond (t := true) (by first | (simp [h]; done) | (simp [h]; omega)) (fun _ => ?_) (by simp)
    refine AWp.skip ?_
    show AWp _ _ _ _
    refine AWp.seq ?_
    refine AWp.block ?_
    refine AWp.seq ?_
    refine AWp.step [0, 1, 2, 7, 8, 24] [] [(0, .sl .fro 1 (strsAV l)), (1, .s k), (2, .b st), (7, .sl .own 1 (strsAV out)), (8, .i .i64 i), (24, .b (st && !ltK l[i] k))] [] ?_ ?_
    · cases st <;> simp [h, ltK]
    cases hd : st && !ltK l[i] k
    · refine AWp.cond (t := false) (by simp) (by simp) (fun _ => ?_)
      refine AWp.skip ?_
      show AWp _ _ _ _
      refine AWp.step [0, 1, 2, 7, 8, 34] [] [(0, .sl .fro 1 (strsAV l)), (1, .s k), (2, .b st), (7, .sl .own 1 (strsAV out)), (8, .i .i64 i), (34, .b (!eqK l[i] k))] [] ?_ ?_
      · simp [h, eqK]
      cases hp : eqK l[i] k
      · refine AWp.cond (t := true) (by simp) (fun _ => ?_) (by simp)
        refine AWp.goLast [0, 1, 2, 7, 8] [] fun K hK => ?_
        simp [h]
        first | refine hK _ _ ?_ | refine ⟨by omega, hK _ _ ?_⟩ | refine ⟨by omega, by omega, hK _ _ ?_⟩
        clear hK K
        show AWp _ _ _ _
        refine AWp.goLast [0, 1, 2, 7, 8] [] fun K hK => ?_
        simp
        first | refine hK _ _ ?_ | refine ⟨by omega, hK _ _ ?_⟩ | refine ⟨by omega, by omega, hK _ _ ?_⟩
        clear hK K
        refine ⟨(i + 1, out ++ [l[i]], st), ⟨by dsimp only; omega, ?_⟩, by dsimp only; omega, ?_⟩
        · rw [← hinv, putR_step h, hd, hp, st_same hd]; simp
        · simp [strsAV_snoc]; exact wrap64 (by omega) (by omega)
      · refine AWp.cond (t := false) (by simp) (by simp) (fun _ => ?_)
        refine AWp.skip ?_
        show AWp _ _ _ _
        refine AWp.goLast [0, 1, 2, 7, 8] [] fun K hK => ?_
        simp
        first | refine hK _ _ ?_ | refine ⟨by omega, hK _ _ ?_⟩ | refine ⟨by omega, by omega, hK _ _ ?_⟩
        clear hK K
        refine ⟨(i + 1, out, st), ⟨by dsimp only; omega, ?_⟩, by dsimp only; omega, ?_⟩
        · rw [← hinv, putR_step h, hd, hp, st_same hd]; simp
        · simp; exact wrap64 (by omega) (by omega)
    · refine AWp.cond (t := true) (by simp) (fun _ => ?_) (by simp)
      refine AWp.step [0, 1, 7, 8] [] [(0, .sl .fro 1 (strsAV l)), (1, .s k), (7, .sl .own 1 (strsAV (out ++ [k]))), (8, .i .i64 i)] [] ?_ ?_
      · simp [strsAV_snoc]
        omega
      refine AWp.goLast [0, 1, 2, 7, 8] [] fun K hK => ?_
      simp
      first | refine hK _ _ ?_ | refine ⟨by omega, hK _ _ ?_⟩ | refine ⟨by omega, by omega, hK _ _ ?_⟩
      clear hK K
      show AWp _ _ _ _
      refine AWp.step [0, 1, 2, 7, 8, 34] [] [(0, .sl .fro 1 (strsAV l)), (1, .s k), (2, .b false), (7, .sl .own 1 (strsAV (out ++ [k]))), (8, .i .i64 i), (34, .b (!eqK l[i] k))] [] ?_ ?_
      · simp [h, eqK]
      cases hp : eqK l[i] k
      · refine AWp.cond (t := true) (by simp) (fun _ => ?_) (by simp)
        refine AWp.goLast [0, 1, 2, 7, 8] [] fun K hK => ?_
        simp [h]
        first | refine hK _ _ ?_ | refine ⟨by omega, hK _ _ ?_⟩ | refine ⟨by omega, by omega, hK _ _ ?_⟩
        clear hK K
        show AWp _ _ _ _
        refine AWp.goLast [0, 1, 2, 7, 8] [] fun K hK => ?_
        simp
        first | refine hK _ _ ?_ | refine ⟨by omega, hK _ _ ?_⟩ | refine ⟨by omega, by omega, hK _ _ ?_⟩
        clear hK K
        refine ⟨(i + 1, out ++ [k] ++ [l[i]], false), ⟨by dsimp only; omega, ?_⟩, by dsimp only; omega, ?_⟩
        · rw [← hinv, putR_step h, hd, hp, st_turn hd]; simp
        · simp [strsAV_snoc]; exact ⟨rfl, wrap64 (by omega) (by omega)⟩
      · refine AWp.cond (t := false) (by simp) (by simp) (fun _ => ?_)
        refine AWp.skip ?_
        show AWp _ _ _ _
        refine AWp.goLast [0, 1, 2, 7, 8] [] fun K hK => ?_
        simp
        first | refine hK _ _ ?_ | refine ⟨by omega, hK _ _ ?_⟩ | refine ⟨by omega, by omega, hK _ _ ?_⟩
        clear hK K
        refine ⟨(i + 1, out ++ [k], false), ⟨by dsimp only; omega, ?_⟩, by dsimp only; omega, ?_⟩
        · rw [← hinv, putR_step h, hd, hp, st_turn hd]; simp
        · simp [strsAV_snoc]; exact wrap64 (by omega) (by omega)
  · refine AWp.cond (t := false) (by first | (simp [h]; done) | (simp [h]; omega)) (by simp) (fun _ => ?_)
    refine AWp.exit ?_
    show AWp _ _ _ _
    refine AWp.seq ?_
    obtain rfl : i = l.length := by omega
    rw [List.drop_length, putR] at hinv
    refine AWp.go [1, 7, 42] [] fun K hK => ?_
    simp
    first | refine hK _ _ ?_ | refine ⟨by omega, hK _ _ ?_⟩ | refine ⟨by omega, by omega, hK _ _ ?_⟩
    clear hK K
    cases hs : st
    · refine AWp.cond (t := false) (by simp) (by simp) (fun _ => ?_)
      refine AWp.skip ?_
      show AWp _ _ _ _
      refine AWp.go [6] [] fun K hK => ?_
      simp
      first | refine hK _ _ ?_ | refine ⟨by omega, hK _ _ ?_⟩ | refine ⟨by omega, by omega, hK _ _ ?_⟩
      clear hK K
      refine AWp.ret ?_
      rw [← hinv, hs]
      simp [strsAV_snoc]
    · refine AWp.cond (t := true) (by simp) (fun _ => ?_) (by simp)
      refine AWp.goLast [7] [] fun K hK => ?_
      simp
      first | refine hK _ _ ?_ | refine ⟨by omega, hK _ _ ?_⟩ | refine ⟨by omega, by omega, hK _ _ ?_⟩
      clear hK K
      show AWp _ _ _ _
      refine AWp.go [6] [] fun K hK => ?_
      simp
      first | refine hK _ _ ?_ | refine ⟨by omega, hK _ _ ?_⟩ | refine ⟨by omega, by omega, hK _ _ ?_⟩
      clear hK K
      refine AWp.ret ?_
      rw [← hinv, hs]
      simp [strsAV_snoc]
set_option maxRecDepth 8000 in
set_option maxHeartbeats 4000000 in
theorem c_ref10_Set (l : List Cel) (k : ByteArray) (n : Int) (hl : l.length ≤ 100000) : Pure Tryz.prog 40 [.sl .fro 2 (celsAV l), .s k, .i .i64 n] (.sl .own 2 (celsAV (setR l k n (decide (n = 0))))) := by
  refine proc_of (cx Tryz.prog 59 [0, 1, 2, 6, 7, 8, 9, 16, 29, 42, 51] [6]) 56 [.tmp 6] Tryz.func40 rfl rfl rfl rfl rfl rfl (Nat.le_refl _) rfl ?_
  refine AWp.go [0, 1, 2] [] fun K hK => ?_
  simp
  first | refine hK _ _ ?_ | refine ⟨by omega, hK _ _ ?_⟩ | refine ⟨by omega, by omega, hK _ _ ?_⟩
  clear hK K
  refine AWp.go [0, 1, 2, 7] [] fun K hK => ?_
  simp
  first | refine hK _ _ ?_ | refine ⟨by omega, hK _ _ ?_⟩ | refine ⟨by omega, by omega, hK _ _ ?_⟩
  clear hK K
  refine AWp.go [0, 1, 2, 7, 8] [] fun K hK => ?_
  simp
  first | refine hK _ _ ?_ | refine ⟨by omega, hK _ _ ?_⟩ | refine ⟨by omega, by omega, hK _ _ ?_⟩
  clear hK K
  refine AWp.seq ?_
  refine AWp.go [0, 1, 2, 7, 8, 9] [] fun K hK => ?_
  simp
  first | refine hK _ _ ?_ | refine ⟨by omega, hK _ _ ?_⟩ | refine ⟨by omega, by omega, hK _ _ ?_⟩
  clear hK K
  refine AWp.block (AWp.while (fun p : Nat × List Cel × Bool => [(0, .sl .fro 2 (celsAV l)), (1, .s k), (2, .i .i64 n), (7, .sl .own 2 (celsAV p.2.1)), (8, .b p.2.2), (9, .i .i64 p.1)]) (fun p => []) (fun p => p.1 ≤ l.length ∧ p.2.1 ++ setR (l.drop p.1) k n p.2.2 = setR l k n (decide (n = 0))) (fun p => l.length - p.1) [0, 1, 2, 7, 8, 9] [] (0, [], decide (n = 0)) (by simp) (by simp [celsAV]) ?_)
  rintro ⟨i, out, st⟩ ⟨hi, hinv⟩
  dsimp only at hi hinv
  have hol := congrArg List.length hinv
  have hpl := setR_len l k n (decide (n = 0))
  rw [List.length_append] at hol
  try dsimp only
  refine AWp.seq ?_
  refine AWp.go [0, 1, 2, 7, 8, 9, 16] [] fun K hK => ?_
  simp
  first | refine hK _ _ ?_ | refine ⟨by omega, hK _ _ ?_⟩ | refine ⟨by omega, by omega, hK _ _ ?_⟩
  clear hK K
  by_cases h : i < l.length
  · refine AWp.cond (t := true) (by first | (simp [h]; done) | (simp [h]; omega)) (fun _ => ?_) (by simp)
    refine AWp.skip ?_
    show AWp _ _ _ _
    refine AWp.seq ?_
    refine AWp.block ?_
    refine AWp.seq ?_
    refine AWp.step [0, 1, 2, 7, 8, 9, 29] [] [(0, .sl .fro 2 (celsAV l)), (1, .s k), (2, .i .i64 n), (7, .sl .own 2 (celsAV out)), (8, .b st), (9, .i .i64 i), (29, .b (!st && !ltK l[i].key k))] [] ?_ ?_
    · cases st <;> simp [h, ltK]
    cases hd : !st && !ltK l[i].key k
    · refine AWp.cond (t := false) (by simp) (by simp) (fun _ => ?_)
      refine AWp.skip ?_
      show AWp _ _ _ _
      refine AWp.step [0, 1, 2, 7, 8, 9, 42] [] [(0, .sl .fro 2 (celsAV l)), (1, .s k), (2, .i .i64 n), (7, .sl .own 2 (celsAV out)), (8, .b st), (9, .i .i64 i), (42, .b (!eqK l[i].key k))] [] ?_ ?_
      · simp [h, eqK]
      cases hp : eqK l[i].key k
      · refine AWp.cond (t := true) (by simp) (fun _ => ?_) (by simp)
        refine AWp.goLast [0, 1, 2, 7, 8, 9] [] fun K hK => ?_
        simp [h]
        first | refine hK _ _ ?_ | refine ⟨by omega, hK _ _ ?_⟩ | refine ⟨by omega, by omega, hK _ _ ?_⟩
        clear hK K
        show AWp _ _ _ _
        refine AWp.goLast [0, 1, 2, 7, 8, 9] [] fun K hK => ?_
        simp
        first | refine hK _ _ ?_ | refine ⟨by omega, hK _ _ ?_⟩ | refine ⟨by omega, by omega, hK _ _ ?_⟩
        clear hK K
        refine ⟨(i + 1, out ++ [l[i]], st), ⟨by dsimp only; omega, ?_⟩, by dsimp only; omega, ?_⟩
        · rw [← hinv, setR_step h, hd, hp, dn_same hd]; simp
        · simp [celsAV_snoc]; exact wrap64 (by omega) (by omega)
      · refine AWp.cond (t := false) (by simp) (by simp) (fun _ => ?_)
        refine AWp.skip ?_
        show AWp _ _ _ _
        refine AWp.goLast [0, 1, 2, 7, 8, 9] [] fun K hK => ?_
        simp
        first | refine hK _ _ ?_ | refine ⟨by omega, hK _ _ ?_⟩ | refine ⟨by omega, by omega, hK _ _ ?_⟩
        clear hK K
        refine ⟨(i + 1, out, st), ⟨by dsimp only; omega, ?_⟩, by dsimp only; omega, ?_⟩
        · rw [← hinv, setR_step h, hd, hp, dn_same hd]; simp
        · simp; exact wrap64 (by omega) (by omega)
    · refine AWp.cond (t := true) (by simp) (fun _ => ?_) (by simp)
      refine AWp.step [0, 1, 2, 7, 9] [] [(0, .sl .fro 2 (celsAV l)), (1, .s k), (2, .i .i64 n), (7, .sl .own 2 (celsAV (out ++ [⟨k, n⟩]))), (9, .i .i64 i)] [] ?_ ?_
      · simp [celsAV_snoc]
        omega
      refine AWp.goLast [0, 1, 2, 7, 8, 9] [] fun K hK => ?_
      simp
      first | refine hK _ _ ?_ | refine ⟨by omega, hK _ _ ?_⟩ | refine ⟨by omega, by omega, hK _ _ ?_⟩
      clear hK K
      show AWp _ _ _ _
      refine AWp.step [0, 1, 2, 7, 8, 9, 42] [] [(0, .sl .fro 2 (celsAV l)), (1, .s k), (2, .i .i64 n), (7, .sl .own 2 (celsAV (out ++ [⟨k, n⟩]))), (8, .b true), (9, .i .i64 i), (42, .b (!eqK l[i].key k))] [] ?_ ?_
      · simp [h, eqK]
      cases hp : eqK l[i].key k
      · refine AWp.cond (t := true) (by simp) (fun _ => ?_) (by simp)
        refine AWp.goLast [0, 1, 2, 7, 8, 9] [] fun K hK => ?_
        simp [h]
        first | refine hK _ _ ?_ | refine ⟨by omega, hK _ _ ?_⟩ | refine ⟨by omega, by omega, hK _ _ ?_⟩
        clear hK K
        show AWp _ _ _ _
        refine AWp.goLast [0, 1, 2, 7, 8, 9] [] fun K hK => ?_
        simp
        first | refine hK _ _ ?_ | refine ⟨by omega, hK _ _ ?_⟩ | refine ⟨by omega, by omega, hK _ _ ?_⟩
        clear hK K
        refine ⟨(i + 1, out ++ [⟨k, n⟩] ++ [l[i]], true), ⟨by dsimp only; omega, ?_⟩, by dsimp only; omega, ?_⟩
        · rw [← hinv, setR_step h, hd, hp, dn_turn hd]; simp
        · simp [celsAV_snoc]; exact ⟨by simp [celsAV, celC], wrap64 (by omega) (by omega)⟩
      · refine AWp.cond (t := false) (by simp) (by simp) (fun _ => ?_)
        refine AWp.skip ?_
        show AWp _ _ _ _
        refine AWp.goLast [0, 1, 2, 7, 8, 9] [] fun K hK => ?_
        simp
        first | refine hK _ _ ?_ | refine ⟨by omega, hK _ _ ?_⟩ | refine ⟨by omega, by omega, hK _ _ ?_⟩
        clear hK K
        refine ⟨(i + 1, out ++ [⟨k, n⟩], true), ⟨by dsimp only; omega, ?_⟩, by dsimp only; omega, ?_⟩
        · rw [← hinv, setR_step h, hd, hp, dn_turn hd]; simp
        · simp [celsAV_snoc]; exact wrap64 (by omega) (by omega)
  · refine AWp.cond (t := false) (by first | (simp [h]; done) | (simp [h]; omega)) (by simp) (fun _ => ?_)
    refine AWp.exit ?_
    show AWp _ _ _ _
    refine AWp.seq ?_
    obtain rfl : i = l.length := by omega
    rw [List.drop_length, setR] at hinv
    refine AWp.go [1, 2, 7, 51] [] fun K hK => ?_
    simp
    first | refine hK _ _ ?_ | refine ⟨by omega, hK _ _ ?_⟩ | refine ⟨by omega, by omega, hK _ _ ?_⟩
    clear hK K
    cases hs : st
    · refine AWp.cond (t := true) (by simp) (fun _ => ?_) (by simp)
      refine AWp.goLast [7] [] fun K hK => ?_
      simp
      first | refine hK _ _ ?_ | refine ⟨by omega, hK _ _ ?_⟩ | refine ⟨by omega, by omega, hK _ _ ?_⟩
      clear hK K
      show AWp _ _ _ _
      refine AWp.go [6] [] fun K hK => ?_
      simp
      first | refine hK _ _ ?_ | refine ⟨by omega, hK _ _ ?_⟩ | refine ⟨by omega, by omega, hK _ _ ?_⟩
      clear hK K
      refine AWp.ret ?_
      rw [← hinv, hs]
      simp [celsAV_snoc]
    · refine AWp.cond (t := false) (by simp) (by simp) (fun _ => ?_)
      refine AWp.skip ?_
      show AWp _ _ _ _
      refine AWp.go [6] [] fun K hK => ?_
      simp
      first | refine hK _ _ ?_ | refine ⟨by omega, hK _ _ ?_⟩ | refine ⟨by omega, by omega, hK _ _ ?_⟩
      clear hK K
      refine AWp.ret ?_
      rw [← hinv, hs]
      simp [celsAV_snoc]
end Go.AM
namespace Go.AM

/-- An operation comes behind another one, by way of others. -/
inductive Aft (ops : Array Oper) : Nat → Nat → Prop
  | one {k j o} : ops[k]? = some o → bindsOn o j = true → Aft ops k j
  | more {k i j o} : ops[k]? = some o → bindsOn o i = true → Aft ops i j → Aft ops k j

def domOf (ds : List Nat) (o : Oper) : Nat := o.after.toList.foldl (fun acc e => if Region.binds .any e then acc ||| (2 ^ e.on) ||| (ds.getD e.on 0) else acc) 0
def domsTo : List Oper → List Nat → List Nat
  | [], ds => ds
  | o :: l, ds => domsTo l (ds ++ [domOf ds o])

theorem domOf_spec (ds : List Nat) (o : Oper) (j : Nat) (h : (domOf ds o).testBit j = true) : ∃ e ∈ o.after, Region.binds .any e = true ∧ (e.on = j ∨ (ds.getD e.on 0).testBit j = true) := by
  have key : ∀ (l : List Edge) (acc : Nat), (l.foldl (fun acc e => if Region.binds .any e then acc ||| (2 ^ e.on) ||| (ds.getD e.on 0) else acc) acc).testBit j = true → acc.testBit j = true ∨ ∃ e ∈ l, Region.binds .any e = true ∧ (e.on = j ∨ (ds.getD e.on 0).testBit j = true) := by
    intro l
    induction l with
    | nil => intro acc h; exact .inl h
    | cons e l ih =>
      intro acc h
      rw [List.foldl_cons] at h
      rcases ih _ h with h1 | ⟨e', he', h1⟩
      · split at h1
        · rename_i hb
          rw [Nat.testBit_or, Nat.testBit_or, Nat.testBit_two_pow] at h1
          simp only [Bool.or_eq_true, decide_eq_true_eq] at h1
          rcases h1 with (h1 | h1) | h1
          · exact .inl h1
          · exact .inr ⟨e, by simp, hb, .inl h1⟩
          · exact .inr ⟨e, by simp, hb, .inr h1⟩
        · exact .inl h1
      · exact .inr ⟨e', by simp [he'], h1⟩
  rcases key _ _ h with h1 | ⟨e, he, h1⟩
  · simp at h1
  · exact ⟨e, by simpa using he, h1⟩

theorem domsTo_spec (ops : Array Oper) : ∀ (l : List Oper) (ds : List Nat) (pre : List Oper), ops.toList = pre ++ l → ds.length = pre.length → (∀ k j, (ds.getD k 0).testBit j = true → Aft ops k j) → ∀ k j, ((domsTo l ds).getD k 0).testBit j = true → Aft ops k j
  | [], ds, pre, _, _, h => h
  | o :: l, ds, pre, ho, hl, h => by
    refine domsTo_spec ops l (ds ++ [domOf ds o]) (pre ++ [o]) (by rw [ho]; simp) (by simp [hl]) fun k j hk => ?_
    rw [List.getD_eq_getElem?_getD] at hk
    by_cases hkl : k < ds.length
    · rw [List.getElem?_append_left hkl, ← List.getD_eq_getElem?_getD] at hk
      exact h k j hk
    · by_cases hke : k = ds.length
      · subst hke
        rw [List.getElem?_append_right (Nat.le_refl _)] at hk
        simp at hk
        obtain ⟨e, he, hb, h2⟩ := domOf_spec ds o j hk
        have hok : ops[ds.length]? = some o := by
          rw [← Array.getElem?_toList, ho, hl, List.getElem?_append_right (Nat.le_refl _)]; simp
        have hbo : bindsOn o e.on = true := bindsOn_iff.2 ⟨e, he, rfl, hb⟩
        rcases h2 with rfl | h2
        · exact .one hok hbo
        · exact .more hok hbo (h _ _ h2)
      · rw [List.getElem?_eq_none (by simp; omega)] at hk
        simp at hk

/-- The first m operations put, each to a slot of its own, and each reads what others put behind them alone; the others come behind all ahead of them. -/
def drawOkA (ops : Array Oper) (m : Nat) : Bool :=
  let D := domsTo ops.toList []
  decide (m ≤ ops.size) && (List.range ops.size).all fun k => match ops[k]? with
    | some o => (o.after.all fun e => !Region.binds .any e || decide (e.on < k)) &&
      if k < m then
        ((List.range m).all fun j => j == k || match ops[j]? with
          | some oj => oj.dst != o.dst
          | none => true) &&
        (o.looksAt ops).all fun t => (List.range m).all fun j => match ops[j]? with
          | some oj => oj.dst != some t || (decide (j < k) && (D.getD k 0).testBit j)
          | none => true
      else (List.range k).all fun j => (D.getD k 0).testBit j
    | none => true

structure DrawA (ops : Array Oper) (m : Nat) : Prop where
  le : m ≤ ops.size
  back : ∀ (k : Nat) o, ops[k]? = some o → ∀ e ∈ o.after, Region.binds .any e = true → e.on < k
  dst : ∀ (k j : Nat) o oj, k < m → j < m → j ≠ k → ops[k]? = some o → ops[j]? = some oj → oj.dst ≠ o.dst
  look : ∀ (k j : Nat) o oj t, k < m → j < m → ops[k]? = some o → ops[j]? = some oj → t ∈ o.looksAt ops → oj.dst = some t → j < k ∧ Aft ops k j
  tail : ∀ (k : Nat) o, m ≤ k → ops[k]? = some o → ∀ j, j < k → Aft ops k j

theorem drawOkA_spec {ops : Array Oper} {m : Nat} (h : drawOkA ops m = true) : DrawA ops m := by
  have hR := domsTo_spec ops ops.toList [] [] rfl rfl (fun k j h => by simp at h)
  simp only [drawOkA, Bool.and_eq_true, decide_eq_true_eq, List.all_eq_true, List.mem_range] at h
  obtain ⟨h1, h3⟩ := h
  have get : ∀ (k : Nat) o, ops[k]? = some o → k < ops.size := fun k o ho => (Array.getElem?_eq_some_iff.1 ho).1
  have at' : ∀ (k : Nat) o, ops[k]? = some o → _ := fun k o ho => by
    have := h3 k (get k o ho)
    rw [ho] at this
    exact this
  refine ⟨h1, fun k o ho e he hb => ?_, fun k j o oj hk hj hjk ho hoj => ?_, fun k j o oj t hk hj ho hoj ht hd => ?_, fun k o hk ho j hj => ?_⟩
  · have := at' k o ho
    simp only [Bool.and_eq_true] at this
    have h4 := Array.all_eq_true_iff_forall_mem.1 this.1 e he
    simpa [hb] using h4
  · have := at' k o ho
    simp only [Bool.and_eq_true, hk, if_true, List.all_eq_true, List.mem_range] at this
    have h4 := this.2.1 j hj
    rw [hoj] at h4
    simpa [hjk] using h4
  · have := at' k o ho
    simp only [Bool.and_eq_true, hk, if_true, List.all_eq_true, List.mem_range] at this
    have h4 := this.2.2 t ht j hj
    rw [hoj] at h4
    have h5 : j < k ∧ ((domsTo ops.toList []).getD k 0).testBit j = true := by simpa [hd] using h4
    exact ⟨h5.1, hR k j h5.2⟩
  · have := at' k o ho
    have hk' : ¬ k < m := by omega
    simp only [Bool.and_eq_true, hk', if_false, List.all_eq_true, List.mem_range] at this
    exact hR k j (this.2 j hj)

theorem Aft.lt {ops : Array Oper} {m k j : Nat} (D : DrawA ops m) (h : Aft ops k j) : j < k := by
  induction h with
  | one ho hb =>
    obtain ⟨e, he, h1, h2⟩ := bindsOn_iff.1 hb
    have := D.back _ _ ho e he h2
    omega
  | more ho hb _ ih =>
    obtain ⟨e, he, h1, h2⟩ := bindsOn_iff.1 hb
    have := D.back _ _ ho e he h2
    omega

/-- What has been done is closed under 'comes behind'. -/
def ClosedL (ops : Array Oper) (listed : Array Bool) : Prop := ∀ i j, listed.getD i false = true → Aft ops i j → listed.getD j false = true

/-- What may be done now comes behind what has been done alone. -/
theorem ready_reach {ops : Array Oper} {listed : Array Bool} (hc : ClosedL ops listed) {i : Nat} (hi : i ∈ Region.ready .any ops listed) {j : Nat} (h : Aft ops i j) : listed.getD j false = true := by
  obtain ⟨h1, o, ho, h2⟩ := mem_ready.1 hi
  cases h with
  | one ho' hb =>
    rw [ho] at ho'; cases ho'
    obtain ⟨e, he, h3, h4⟩ := bindsOn_iff.1 hb
    have := h2 e he h4
    rwa [h3] at this
  | more ho' hb hr =>
    rw [ho] at ho'; cases ho'
    obtain ⟨e, he, h3, h4⟩ := bindsOn_iff.1 hb
    have := h2 e he h4
    rw [h3] at this
    exact hc _ _ this hr

theorem closed_add {ops : Array Oper} {listed : Array Bool} (hc : ClosedL ops listed) {i : Nat} (hi : i ∈ Region.ready .any ops listed) (hs : i < listed.size) : ClosedL ops (listed.setIfInBounds i true) := by
  intro a b ha hr
  have mono : ∀ x, listed.getD x false = true → (listed.setIfInBounds i true).getD x false = true := fun x hx => by
    by_cases hxi : i = x
    · subst hxi
      rw [Array.getD_eq_getD_getElem?, Array.getElem?_setIfInBounds_self_of_lt hs]; rfl
    · rw [getD_set_ne false hxi]; exact hx
  by_cases hai : i = a
  · subst hai
    exact mono b (ready_reach hc hi hr)
  · rw [getD_set_ne false hai] at ha
    exact mono b (hc a b ha hr)
end Go.AM
