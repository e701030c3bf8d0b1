/- Sets: what a put leaves; drops that hold. No program. -/
import Derived.Test.YtkjbnpecjildiaaAmF
import Derived.Test.YtkjbnpecjildiaaAmD
import Derived.ChangeArms
import Derived.ChangeOld
import Derived.ChangeShapes
import Derived.Below
import Derived.SizedLaws
import Derived.Carry
import Derived.OpenShut
import Derived.WideShapes
set_option linter.unusedSimpArgs false
set_option linter.unusedVariables false
namespace Go.AM
abbrev past (s : List Entry) (k : ByteArray) : Nat := if there s k then place s k + 1 else place s k
theorem putS_form (s : List Entry) (e : Entry) : putS s e = s.take (place s e.key) ++ e :: s.drop (past s e.key) := by
  unfold putS past
  cases ht : there s e.key with
  | true => simp [List.set_eq_take_append_cons_drop, there_lt ht]
  | false => simp
theorem sort_front {s : List Entry} (hs : SortE s) (k : ByteArray) : ∀ x ∈ s.take (place s k), KL x.key k := fun x hx => by
  obtain ⟨i, hi, rfl⟩ := List.mem_take_iff_getElem.1 hx
  exact (place_spec hs k).1 i (by omega) (by omega)
theorem sort_back {s : List Entry} (hs : SortE s) (k : ByteArray) : ∀ x ∈ s.drop (past s k), KL k x.key := fun x hx => by
  obtain ⟨i, hi, rfl⟩ := List.mem_drop_iff_getElem.1 hx
  exact behind hs k _ (by omega) (by unfold past; omega)
theorem putS_sort {s : List Entry} (hs : SortE s) (e : Entry) : SortE (putS s e) := by
  rw [putS_form]
  have h1 := sort_front hs e.key
  have h2 := sort_back hs e.key
  refine List.pairwise_append.2 ⟨List.Pairwise.sublist (List.take_sublist _ _) hs, List.pairwise_cons.2 ⟨h2, List.Pairwise.sublist (List.drop_sublist _ _) hs⟩, fun x hx y hy => ?_⟩
  rcases List.mem_cons.1 hy with rfl | hy
  · exact h1 x hx
  · exact (h1 x hx).trans (h2 y hy)
theorem getE_put {s : List Entry} (hs : SortE s) (e : Entry) : getE (putS s e) e.key = e := by
  rw [putS_form]
  unfold getE
  have h1 : (s.take (place s e.key)).find? (fun x => eqK x.key e.key) = none := by
    rw [List.find?_eq_none]
    intro x hx
    rw [(sort_front hs e.key x hx).ne]; simp
  rw [List.find?_append, h1, List.find?_cons]
  simp [eqK]
theorem getE_other {s : List Entry} (hs : SortE s) (e : Entry) (k : ByteArray) (hk : eqK e.key k = false) : getE (putS s e) k = getE s k := by
  have hk' : eqK k e.key = false := by
    rw [Bool.eq_false_iff] at hk ⊢
    intro h; rw [eqK_iff] at h; exact hk ((eqK_iff _ _).2 h.symm)
  have hss := putS_sort hs e
  rcases getE_cases s k with ⟨x, hx, ex, gx⟩ | ⟨hn, gx⟩
  · have hx2 : x ∈ putS s e := by
      rw [putS_form]
      rw [← List.take_append_drop (place s e.key) s] at hx
      rcases List.mem_append.1 hx with h | h
      · exact List.mem_append_left _ h
      · refine List.mem_append_right _ (List.mem_cons_of_mem _ ?_)
        unfold past
        cases ht : there s e.key with
        | false => exact h
        | true =>
          have hlt := there_lt ht
          rw [List.drop_eq_getElem_cons hlt] at h
          rcases List.mem_cons.1 h with rfl | h
          · have := (there_iff e.key hlt).1 ht
            rw [eqK_iff] at this ex
            rw [Bool.eq_false_iff] at hk'
            exact absurd ((eqK_iff _ _).2 (ex.symm.trans this)) hk'
          · exact h
    rcases getE_cases (putS s e) k with ⟨y, hy, ey, gy⟩ | ⟨hn, gy⟩
    · rw [gx, gy]; exact ent_uniq hss hy hx2 ey ex
    · rw [hn x hx2] at ex; cases ex
  · rcases getE_cases (putS s e) k with ⟨y, hy, ey, gy⟩ | ⟨_, gy⟩
    · rcases putS_mem hy with h | rfl
      · rw [hn y h] at ey; cases ey
      · rw [hk] at ey; cases ey
    · rw [gx, gy]
def oneOk (e : Entry) : Bool := keyOk e.key && !decide ((e.live.length : Int) + e.dead.length = 0) && rowsB e.live && rowsB e.dead
theorem empty_min (k : ByteArray) : leK k ByteArray.empty = true → eqK k ByteArray.empty = true := by
  intro h
  simp only [leK, Bool.or_eq_true] at h
  rcases h with h | h
  · rw [ltK_iff] at h
    unfold KL at h
    have : ByteArray.empty.toList = [] := (toList_data ByteArray.empty).symm.trans rfl
    rw [this] at h
    exact absurd h (List.not_lt_nil _)
  · exact h
theorem setOk_iff (s : List Entry) : setOk s = true ↔ s.length ≤ 4000 ∧ SortE s ∧ ∀ e ∈ s, oneOk e = true := by
  constructor
  · intro h
    refine ⟨?_, setOk_sort h, fun e he => ?_⟩
    · simp only [setOk, Bool.and_eq_true, decide_eq_true_eq] at h
      omega
    · obtain ⟨i, hi, rfl⟩ := List.mem_iff_getElem.1 he
      have := setOk_entry h i hi
      simp only [entOk, Bool.and_eq_true] at this
      simp only [oneOk, Bool.and_eq_true]
      exact ⟨⟨⟨this.1.1.1.1, this.1.1.2⟩, this.1.2⟩, this.2⟩
  · rintro ⟨h1, h2, h3⟩
    simp only [setOk, Bool.and_eq_true, decide_eq_true_eq, List.all_eq_true]
    refine ⟨by omega, fun i hi => ?_⟩
    have hi : i < s.length := by simpa using hi
    have h4 := h3 s[i] (List.getElem_mem hi)
    simp only [oneOk, Bool.and_eq_true] at h4
    simp only [entAt, List.getElem?_eq_getElem hi, entOk, Bool.and_eq_true]
    refine ⟨⟨⟨⟨h4.1.1.1, ?_⟩, h4.1.1.2⟩, h4.1.2⟩, h4.2⟩
    rw [Bool.not_eq_true', Bool.eq_false_iff]
    intro hle
    rcases Nat.eq_zero_or_pos i with h0 | h0
    · subst h0
      have := empty_min _ hle
      have h5 := h4.1.1.1
      simp only [keyOk, Bool.and_eq_true] at h5
      rw [this] at h5
      simp at h5
    · obtain ⟨j, rfl⟩ : ∃ j, i = j + 1 := ⟨i - 1, by omega⟩
      rw [prevK_succ s j (by omega)] at hle
      have := List.pairwise_iff_getElem.1 h2 j (j + 1) (by omega) hi (by omega)
      simp only [leK, Bool.or_eq_true] at hle
      rcases hle with h | h
      · rw [this.asymm] at h; cases h
      · rw [this.ne'] at h; cases h
theorem put_ok {s : List Entry} (h : setOk s = true) (hl : s.length < 4000) {e : Entry} (he : oneOk e = true) : setOk (putS s e) = true := by
  obtain ⟨_, h2, h3⟩ := (setOk_iff s).1 h
  refine (setOk_iff _).2 ⟨by have := putS_len s e; omega, putS_sort h2 e, fun x hx => ?_⟩
  rcases putS_mem hx with hx | rfl
  · exact h3 x hx
  · exact he
theorem rows_ord {l : List Dot} (h : rowsB l = true) (c : List Int) {d : Dot} (hd : mayD d = true) : rowsB (ordP (leftD l c ++ [d])) = true := by
  rw [rowsB_iff] at h ⊢
  refine ⟨fun x hx => ?_, (ordP_spec _).1⟩
  rcases List.mem_append.1 (((ordP_spec _).2 x).1 hx) with hx | hx
  · exact h.1 x (List.mem_filter.1 hx).1
  · rw [List.mem_singleton] at hx; rw [hx]; exact hd
theorem ord_mem (l : List Dot) (c : List Int) (d : Dot) : d ∈ ordP (leftD l c ++ [d]) := ((ordP_spec _).2 d).2 (by simp)
theorem ord_ne (l : List Dot) (c : List Int) (d : Dot) : 0 < (ordP (leftD l c ++ [d])).length := List.length_pos_of_mem (ord_mem l c d)
theorem drop_ok {s : List Entry} (h : setOk s = true) (hl : s.length < 4000) {k : ByteArray} (hk : keyOk k = true) {d : Dot} (hd : mayD d = true) (c : List Int) :
    setOk (dropS s k d c) = true ∧ atE (dropS s k d c) k = ⟨k, [], ordP (leftD (atE s k).dead c ++ [d])⟩ := by
  have hs := setOk_sort h
  have hr := get_rows h k
  rw [← atE_get hs] at hr
  have hn := ord_ne (atE s k).dead c d
  have ho : setOk (dropS s k d c) = true := by
    refine put_ok h hl ?_
    simp only [oneOk, Bool.and_eq_true]
    refine ⟨⟨⟨hk, ?_⟩, rfl⟩, rows_ord hr.2 c hd⟩
    simp only [List.length_nil, Bool.not_eq_true', decide_eq_false_iff_not]
    omega
  refine ⟨ho, ?_⟩
  rw [atE_get (setOk_sort ho)]
  exact getE_put hs ⟨k, [], ordP (leftD (atE s k).dead c ++ [d])⟩
/-- A drop that is not known holds against an add. -/
theorem drop_holds {s : List Entry} (h : setOk s = true) (hl : s.length < 4000) {k : ByteArray} (hk : keyOk k = true) {d : Dot} (hd : mayD d = true) (c : List Int) (y : Dot) (p : List Int) (hp : ¬ d.2 ≤ getC p d.1) :
    addS (dropS s k d c) k y p = dropS s k d c := by
  obtain ⟨h1, h2⟩ := drop_ok h hl hk hd c
  unfold addS
  rw [if_pos]
  rw [h2]
  refine List.length_pos_of_mem (a := d) (List.mem_filter.2 ⟨ord_mem _ _ _, ?_⟩)
  simpa using hp
def allC : List Int := [1048576, 1048576, 1048576, 1048576, 1048576]
theorem allC_get {d : Dot} (hd : mayD d = true) : d.2 ≤ getC allC d.1 := by
  simp only [mayD, Bool.and_eq_true, decide_eq_true_eq] at hd
  have h1 : getC allC d.1 = 1048576 := by
    obtain ⟨a, b⟩ := d
    simp only at hd
    have : a = 1 ∨ a = 2 ∨ a = 3 ∨ a = 4 ∨ a = 5 := by omega
    rcases this with rfl | rfl | rfl | rfl | rfl <;> rfl
  rw [h1]; omega
/-- An add that knows all drops holds. -/
theorem add_holds {s : List Entry} (h : setOk s = true) (hl : s.length < 3999) {k : ByteArray} (hk : keyOk k = true) {d : Dot} (hd : mayD d = true) (c : List Int) :
    setOk (addS (dropS s k d c) k d allC) = true ∧ 0 < (atE (addS (dropS s k d c) k d allC) k).live.length := by
  obtain ⟨h1, h2⟩ := drop_ok h (by omega) hk hd c
  have hr := (get_rows h1 k).2
  rw [← atE_get (setOk_sort h1), h2] at hr
  have hn : leftD (atE (dropS s k d c) k).dead allC = [] := by
    rw [h2]
    refine List.filter_eq_nil_iff.2 fun x hx => ?_
    have := allC_get ((rowsB_iff _).1 hr |>.1 x hx)
    simpa using this
  have e : addS (dropS s k d c) k d allC = putS (dropS s k d c) ⟨k, ordP (leftD [] allC ++ [d]), ordP (leftD (atE s k).dead c ++ [d])⟩ := by
    unfold addS
    rw [hn, if_neg (by simp), h2]
  have hll : (dropS s k d c).length < 4000 := by have := putS_len s ⟨k, [], ordP (leftD (atE s k).dead c ++ [d])⟩; unfold dropS; omega
  have hn2 := ord_ne [] allC d
  have ho : setOk (addS (dropS s k d c) k d allC) = true := by
    rw [e]
    refine put_ok h1 hll ?_
    simp only [oneOk, Bool.and_eq_true]
    refine ⟨⟨⟨hk, ?_⟩, rows_ord rfl allC hd⟩, hr⟩
    simp only [Bool.not_eq_true', decide_eq_false_iff_not]
    omega
  refine ⟨ho, ?_⟩
  rw [atE_get (setOk_sort ho), e, getE_put (setOk_sort h1) ⟨k, ordP (leftD [] allC ++ [d]), ordP (leftD (atE s k).dead c ++ [d])⟩]
  exact hn2
end Go.AM
namespace Go.AM
open Go.Proofs

set_option maxRecDepth 8000 in
set_option maxHeartbeats 4000000 in
theorem c_RwsetDrops (s : List Entry) (x y : Deed) (hlen : s.length ≤ 9223372036854775807) (hcx : x.past.length ≤ 9223372036854775807) (hcy : y.past.length ≤ 9223372036854775807) : Pure Try.prog 4 [.sl .fro 3 (entsAV s), .agg (deedC x), .agg (deedC y)] (.b true) := by
  have g0 := c_law08_Light s hlen
  have gw := c_law09_awake
  refine proc_of (cx Try.prog 119 [0, 4, 5, 6, 7, 8, 9, 10, 11, 12, 13, 14, 41, 55, 89] [6]) 116 [.tmp 6] Try.func4 rfl rfl rfl rfl rfl rfl (Nat.le_refl _) rfl ?_
  refine AWp.go [0, 4, 5] [4, 5] fun K hK => ?_
  simp [deedC]
  first | refine hK _ _ ?_ | refine ⟨by omega, hK _ _ ?_⟩ | refine ⟨by omega, by omega, hK _ _ ?_⟩
  clear hK K
  refine AWp.seq ?_
  refine AWp.step [0, 4, 5, 41] [4, 5] [(0, .sl .fro 3 (entsAV s)), (4, .ptr 4 0), (5, .ptr 5 0), (41, .b (!(lightB s && !decide ((100 : Int) < x.key.size) && !decide ((20 : Int) < x.past.length) && !decide ((20 : Int) < y.past.length) && !decide ((1000 : Int) < x.dot.2))))] [(4, [.s x.key, .i .i64 x.dot.1, .i .i64 x.dot.2, .sl .fro 1 (intsAV x.past)]), (5, [.s y.key, .i .i64 y.dot.1, .i .i64 y.dot.2, .sl .fro 1 (intsAV y.past)])] ?_ ?_
  · simp
    refine call_pure g0 (by simp) ?_
    cases q1 : lightB s
    · simp
    by_cases q2 : (100 : Int) < x.key.size
    · simp [q2]
    by_cases q3 : (20 : Int) < x.past.length
    · simp [q2, q3]
    by_cases q4 : (20 : Int) < y.past.length
    · simp [q2, q3, q4]
    · simp [q2, q3, q4]
  cases hg : lightB s && !decide ((100 : Int) < x.key.size) && !decide ((20 : Int) < x.past.length) && !decide ((20 : Int) < y.past.length) && !decide ((1000 : Int) < x.dot.2)
  · refine AWp.cond (t := true) (by simp) (fun _ => ?_) (by simp)
    refine AWp.go [6] [] fun K hK => ?_
    simp
    refine call_pure gw (by simp) ?_
    simp
    first | refine hK _ _ ?_ | refine ⟨by omega, hK _ _ ?_⟩ | refine ⟨by omega, by omega, hK _ _ ?_⟩
    clear hK K
    refine AWp.ret ?_
    simp
  · refine AWp.cond (t := false) (by simp) (by simp) (fun _ => ?_)
    refine AWp.skip ?_
    show AWp _ _ _ _
    have hL : lightB s = true ∧ x.past.length ≤ 20 ∧ y.past.length ≤ 20 := by
      simp at hg
      exact ⟨hg.1.1.1.1, by omega, by omega⟩
    have hW := Within.of hL.1
    have hs := hW.fine (by omega)
    have hl := light_len hL.1
    have gd := c_rwset_Drop s x.key x.dot x.past hs (by omega) (by omega) (by have := hW.at x.key; omega)
    refine AWp.go [4, 5, 7, 8] [4, 5] fun K hK => ?_
    simp
    refine call_pure gd (by simp [dotC]) ?_
    simp
    first | refine hK _ _ ?_ | refine ⟨by omega, hK _ _ ?_⟩ | refine ⟨by omega, by omega, hK _ _ ?_⟩
    clear hK K
    refine AWp.frz [7] ?_
    simp
    refine AWp.seq ?_
    refine AWp.go [4, 5, 7, 55] [4, 5] fun K hK => ?_
    simp
    first | refine hK _ _ ?_ | refine ⟨by omega, hK _ _ ?_⟩ | refine ⟨by omega, by omega, hK _ _ ?_⟩
    clear hK K
    cases hm : mayE s x.key x.dot x.past
    · refine AWp.cond (t := true) (by simp) (fun _ => ?_) (by simp)
      refine AWp.go [6] [] fun K hK => ?_
      simp
      refine call_pure gw (by simp) ?_
      simp
      first | refine hK _ _ ?_ | refine ⟨by omega, hK _ _ ?_⟩ | refine ⟨by omega, by omega, hK _ _ ?_⟩
      clear hK K
      refine AWp.ret ?_
      simp
    · refine AWp.cond (t := false) (by simp) (by simp) (fun _ => ?_)
      refine AWp.skip ?_
      show AWp _ _ _ _
      have hms : setOk s = true ∧ keyOk x.key = true ∧ mayD x.dot = true := by
        simp [mayE] at hm
        exact ⟨hm.1.1.1, hm.1.1.2, hm.1.2⟩
      obtain ⟨hso, hko, hdo⟩ := hms
      have hWd := hW.drop x.key x.dot x.past
      obtain ⟨ho, hat⟩ := drop_ok hso (by omega) hko hdo x.past
      have hah := add_holds hso (by omega) hko hdo x.past
      have hdh := drop_holds hso (by omega) hko hdo x.past y.dot y.past
      simp only [if_true]
      obtain ⟨a, ha⟩ : ∃ a, a = dropS s x.key x.dot x.past := ⟨_, rfl⟩
      rw [← ha] at hWd ho hat hah hdh ⊢
      have hfa := hWd.fine (by omega)
      have hla := hWd.1
      have gA := c_rwset_Add a x.key y.dot y.past hfa (by omega) (by omega) (by have := hWd.at x.key; omega)
      have gH := c_rwset_Has a x.key hfa
      rw [ho, hat] at gH
      refine AWp.go [4, 5, 7, 9, 10] [4, 5] fun K hK => ?_
      simp
      refine call_pure gA (by simp [dotC]) ?_
      simp
      first | refine hK _ _ ?_ | refine ⟨by omega, hK _ _ ?_⟩ | refine ⟨by omega, by omega, hK _ _ ?_⟩
      clear hK K
      refine AWp.frz [9] ?_
      simp
      have gG := c_ref03_Get y.past x.dot.1 (by omega)
      refine AWp.stepD 10 (fun _ => .i .i64 (getC y.past x.dot.1)) [4, 7, 9, 10, 11] [4] [(4, .ptr 4 0), (7, .sl .fro 3 (entsAV a)), (9, .sl .fro 3 (entsAV (if mayE a x.key y.dot y.past then addS a x.key y.dot y.past else []))), (10, .i .i64 (if mayE a x.key y.dot y.past then 0 else 1)), (11, .b (decide (x.dot.2 ≤ getC y.past x.dot.1)))] [(4, [.s x.key, .i .i64 x.dot.1, .i .i64 x.dot.2, .sl .fro 1 (intsAV x.past)])] mix (by kernel_rfl) ?_ ?_
      · simp
        exact gG
      refine AWp.seq ?_
      have hfb : Fine (if mayE a x.key y.dot y.past then addS a x.key y.dot y.past else []) := by
        split
        · exact (hWd.add x.key y.dot y.past).fine (by omega)
        · exact ⟨by simp, by simp⟩
      have gHb := c_rwset_Has _ x.key hfb
      refine AWp.step [4, 7, 89] [4] [(4, .ptr 4 0), (7, .sl .fro 3 (entsAV a)), (89, .b false)] [(4, [.s x.key, .i .i64 x.dot.1, .i .i64 x.dot.2, .sl .fro 1 (intsAV x.past)])] ?_ ?_
      · simp
        cases hmA : mayE a x.key y.dot y.past
        · simp
        by_cases hkn : x.dot.2 ≤ getC y.past x.dot.1
        · have hk2 : ¬ getC y.past x.dot.1 < x.dot.2 := by omega
          simp [hkn, hk2]
        · rw [hmA] at gHb
          have e := hdh hkn
          simp only [if_true] at gHb ⊢
          rw [e] at gHb ⊢
          rw [ho, hat] at gHb
          have hk2 : getC y.past x.dot.1 < x.dot.2 := by omega
          simp [hkn, hk2]
          refine call_pure gHb (by simp) ?_
          simp
      refine AWp.cond (t := false) (by first | (simp; done) | (simp; omega)) (by simp) (fun _ => ?_)
      refine AWp.skip ?_
      show AWp _ _ _ _
      refine AWp.step [4, 7, 12] [4] [(4, .ptr 4 0), (7, .sl .fro 3 (entsAV a)), (12, .sl .own 1 (intsAV allC))] [(4, [.s x.key, .i .i64 x.dot.1, .i .i64 x.dot.2, .sl .fro 1 (intsAV x.past)])] ?_ ?_
      · simp [intsAV, allC]
      refine AWp.frz [12] ?_
      simp
      have hmC : mayE a x.key x.dot allC = true := by
        simp [mayE, ho, hko, hdo]
        rfl
      have gC := c_rwset_Add a x.key x.dot allC hfa (by omega) (by simp [allC]) (by have := hWd.at x.key; omega)
      rw [hmC] at gC
      simp only [if_true] at gC
      have hfc := (hWd.add x.key x.dot allC).fine (by omega)
      have gHc := c_rwset_Has _ x.key hfc
      rw [hah.1] at gHc
      have hpos : decide ((0 : Int) < (atE (addS a x.key x.dot allC) x.key).live.length) = true := by
        have := hah.2
        simp
        omega
      rw [hpos] at gHc
      refine AWp.go [4, 7, 13, 14] [4] fun K hK => ?_
      simp
      refine call_pure gC (by simp [dotC]) ?_
      simp
      first | refine hK _ _ ?_ | refine ⟨by omega, hK _ _ ?_⟩ | refine ⟨by omega, by omega, hK _ _ ?_⟩
      clear hK K
      refine AWp.frz [13] ?_
      simp
      refine AWp.step [6] [] [(6, .b true)] [] ?_ ?_
      · simp
        refine call_pure gH (by simp) ?_
        simp
        refine call_pure gHc (by simp) ?_
        simp
        refine call_pure gw (by simp) ?_
        simp
      refine AWp.ret ?_
      simp
end Go.AM
namespace Go.AM

inductive TT where
  | int (k : IntKind)
  | bool
  | str
  | sl (sz : Nat) (e : TT)
  | st (fs : List TT)

mutual
def TT.size : TT → Nat
  | .st fs => TT.sizeL fs
  | _ => 1
def TT.sizeL : List TT → Nat
  | [] => 0
  | f :: fs => f.size + TT.sizeL fs
end

mutual
/-- Is it the shape of a type? -/
def TT.isAt (P : Program) : TT → TypeId → Bool
  | .int k, t => match P.underlying t with
    | some (.int k') => k' == k
    | _ => false
  | .bool, t => match P.underlying t with
    | some .bool => true
    | _ => false
  | .str, t => match P.underlying t with
    | some .string => true
    | _ => false
  | .sl sz e, t => match P.underlying t with
    | some (.slice et) => P.cellsOf et == sz && decide (0 < sz) && e.size == sz && e.isAt P et
    | _ => false
  | .st fs, t => match P.underlying t with
    | some (.struct fl) => P.cellsOf t == TT.sizeL fs && TT.isL P fs fl.toList 0
    | _ => false
def TT.isL (P : Program) : List TT → List Field → Nat → Bool
  | [], [], _ => true
  | f :: fs, d :: ds, off => d.offset == off && P.cellsOf d.type == f.size && f.isAt P d.type && TT.isL P fs ds (off + f.size)
  | _, _, _ => false
end

mutual
/-- Cells of such a shape. -/
def TT.fit : TT → List AV → Prop
  | .int k, avs => ∃ n, avs = [.i k n] ∧ k.min ≤ n ∧ n ≤ k.max
  | .bool, avs => ∃ b, avs = [.b b]
  | .str, avs => ∃ s, avs = [.s s] ∧ s.size ≤ maxLen
  | .sl sz e, avs => ∃ xs, avs = [.sl .fro sz xs] ∧ xs.length ≤ maxLen ∧ ∀ x ∈ xs, e.fit x
  | .st fs, avs => TT.fitL fs avs
def TT.fitL : List TT → List AV → Prop
  | [], avs => avs = []
  | f :: fs, avs => ∃ a b, avs = a ++ b ∧ f.fit a ∧ TT.fitL fs b
end

section
variable {H : Type} {enc : TypeId × Value → H} {P : Program} {w : World} {held : Bool}

/-- Cells that are read as data. -/
def AsDat (w : World) (avs : List AV) (cs : List Value) : Prop := avs.length = cs.length ∧ ∀ (k : Nat) c, avs[k]? = some c → ∃ u, cs[k]? = some u ∧ DatC (fun b => b < w.heap.size) w c u

theorem AsDat.one {w : World} {c : AV} {u : Value} (h : Dat (fun b => b < w.heap.size) w c u) (h1 : u.oneCell' = true) : AsDat w [c] [u] := ⟨rfl, fun k c' hk => by
  cases k with
  | zero => simp at hk; subst hk; exact ⟨u, rfl, h, h1⟩
  | succ k => simp at hk⟩

theorem cell_spot {w : World} {a : Addr} {v : Value} (h : w.cell? a = some v) : a.spot = none := by
  unfold World.cell? at h
  split at h
  · cases hs : a.spot with
    | none => rfl
    | some s => simp [hs] at h
  · cases h

theorem cell_lt' {w : World} {a : Addr} {v : Value} (h : w.cell? a = some v) : a.block < w.heap.size := by
  unfold World.cell? at h
  split at h
  · rename_i h1; exact (Array.getElem?_eq_some_iff.1 h1).1
  · cases h

mutual
theorem trod_dat : ∀ (T : TT) (n : Nat) (t : TypeId) (cs : List Value) (x : DataW H × List MemPlace), T.isAt P t = true → DataW.trod enc P w 0 (fun _ => true) held n t cs = some x → ∃ avs, T.fit avs ∧ avs.length = T.size ∧ AsDat w avs cs
  | .int k, n, t, cs, x, hT, h => by
    simp only [TT.isAt] at hT
    split at hT
    · rename_i k' hu
      have : k' = k := by simpa using hT
      subst this
      obtain ⟨m, rfl, _, hw⟩ := DataW.trod_int hu h
      simp only [Lit.wf, Bool.and_eq_true, decide_eq_true_eq] at hw
      exact ⟨[.i k' m], ⟨m, rfl, hw⟩, rfl, .one (.i _ _) rfl⟩
    · cases hT
  | .bool, n, t, cs, x, hT, h => by
    simp only [TT.isAt] at hT
    split at hT
    · rename_i hu
      obtain ⟨b, rfl, _⟩ := DataW.trod_bool hu h
      exact ⟨[.b b], ⟨b, rfl⟩, rfl, .one (.b _) rfl⟩
    · cases hT
  | .str, n, t, cs, x, hT, h => by
    simp only [TT.isAt] at hT
    split at hT
    · rename_i hu
      obtain ⟨s, rfl, _, hs⟩ := DataW.trod_string hu h
      exact ⟨[.s s], ⟨s, rfl, hs⟩, rfl, .one (.s _) rfl⟩
    · cases hT
  | .sl sz e, n, t, cs, x, hT, h => by
    simp only [TT.isAt] at hT
    split at hT
    · rename_i et hu
      simp only [Bool.and_eq_true, beq_iff_eq, decide_eq_true_eq] at hT
      obtain ⟨⟨⟨hc, hz⟩, hes⟩, he⟩ := hT
      rcases DataW.trod_slice hu h with ⟨rfl, _⟩ | ⟨a, len, cap, elems, rest, m, _, rfl, _, _, hlc, hm, hlen, hel, _, _⟩
      · exact ⟨[.sl .fro sz []], ⟨[], rfl, by simp, by simp⟩, rfl, .one (.sl0 sz) rfl⟩
      · have each : ∀ i, i < len → ∃ avs : List AV, e.fit avs ∧ avs.length = sz ∧ ∀ (j : Nat) c, avs[j]? = some c → ∃ u, w.cell? ((a.add (i * sz)).add j) = some u ∧ DatC (fun b => b < w.heap.size) w c u := by
          intro i hi
          have h1 := hel i hi
          rw [hc, List.getElem?_eq_getElem (by omega)] at h1
          obtain ⟨cs', h2, h3⟩ := Option.bind_eq_some_iff.1 h1
          obtain ⟨avs, g1, g2, g3, g4⟩ := trod_dat e m et cs' _ he h3
          refine ⟨avs, g1, by rw [g2, hes], fun j c hj => ?_⟩
          obtain ⟨u, hu1, hd⟩ := g4 j c hj
          have hjl := (List.getElem?_eq_some_iff.1 hj).1
          exact ⟨u, by rw [(World.cells?_some h2).2.2 j (by omega)]; exact hu1, hd⟩
        obtain ⟨xs, hxl, hxs⟩ : ∃ xs : List (List AV), xs.length = len ∧ ∀ (i : Nat) x, xs[i]? = some x → e.fit x ∧ x.length = sz ∧ ∀ (j : Nat) c, x[j]? = some c → ∃ u, w.cell? ((a.add (i * sz)).add j) = some u ∧ DatC (fun b => b < w.heap.size) w c u := by
          refine ⟨(List.range len).map fun i => if hi : i < len then Classical.choose (each i hi) else [], by simp, fun i x hx => ?_⟩
          rw [List.getElem?_map] at hx
          obtain ⟨i', hi', rfl⟩ := Option.map_eq_some_iff.1 hx
          obtain ⟨hl, hi2⟩ := List.getElem?_eq_some_iff.1 hi'
          simp at hl hi2
          subst hi2
          rw [dif_pos hl]
          exact Classical.choose_spec (each i hl)
        have hfit : ∀ x ∈ xs, e.fit x := fun x hx => by
          obtain ⟨i, hi⟩ := List.mem_iff_getElem?.1 hx
          exact (hxs i x hi).1
        refine ⟨[.sl .fro sz xs], ⟨xs, rfl, by omega, hfit⟩, rfl, .one ?_ rfl⟩
        rcases Nat.eq_zero_or_pos len with h0 | h0
        · have : xs = [] := List.eq_nil_of_length_eq_zero (by omega)
          subst this
          rw [h0]
          exact .sl1 sz a cap
        · obtain ⟨g1, g2, g3⟩ := hxs 0 _ (List.getElem?_eq_getElem (by omega))
          obtain ⟨u, hu1, _⟩ := g3 0 _ (List.getElem?_eq_getElem (by omega))
          have haa : (a.add (0 * sz)).add 0 = a := by simp [Addr.add]
          rw [haa] at hu1
          have hsp := cell_spot hu1
          have hlt := cell_lt' hu1
          obtain ⟨bk, off, sp⟩ := a
          simp only at hsp hlt
          subst hsp
          rw [← hxl]
          have hl : ∀ x ∈ xs, x.length = sz := fun x hx => by
            obtain ⟨i, hi⟩ := List.mem_iff_getElem?.1 hx
            exact (hxs i x hi).2.1
          have hcell : ∀ (k : Nat) c, xs.flatten[k]? = some c → ∃ u, w.cell? ⟨bk, off + k, none⟩ = some u ∧ DatC (fun b => b < w.heap.size) w c u := by
            intro k c hk
            have hfl := flatten_length hl
            have hk1 := (List.getElem?_eq_some_iff.1 hk).1
            have hdiv : k / sz < xs.length := by rw [Nat.div_lt_iff_lt_mul hz]; omega
            have hmod : k % sz < sz := Nat.mod_lt _ hz
            have hx := List.getElem?_eq_getElem hdiv
            obtain ⟨_, q2, q3⟩ := hxs _ _ hx
            have hj : (xs[k / sz])[k % sz]? = some ((xs[k / sz])[k % sz]'(by omega)) := List.getElem?_eq_getElem (by omega)
            have e1 := flat_get hl (k / sz) (k % sz) _ _ hx hj
            rw [show k / sz * sz + k % sz = k by rw [Nat.mul_comm]; exact Nat.div_add_mod k sz, hk] at e1
            obtain rfl := Option.some.inj e1
            obtain ⟨u, hu2, hd⟩ := q3 _ _ hj
            refine ⟨u, ?_, hd⟩
            rw [add_none, add_none, Nat.add_assoc, show k / sz * sz + k % sz = k by rw [Nat.mul_comm]; exact Nat.div_add_mod k sz] at hu2
            exact hu2
          refine .sl sz xs bk off cap (fun k => (w.cell? ⟨bk, off + k, none⟩).getD undef) hlt (by omega) hl (fun k c hk => ?_) (fun k c hk => ?_) (fun k c hk => ?_)
          · obtain ⟨u, hu2, hd⟩ := hcell k c hk
            simp [hu2]
          · obtain ⟨u, hu2, hd⟩ := hcell k c hk
            simpa [hu2] using hd.2
          · obtain ⟨u, hu2, hd⟩ := hcell k c hk
            simpa [hu2] using hd.1
    · cases hT
  | .st fs, n, t, cs, x, hT, h => by
    simp only [TT.isAt] at hT
    split at hT
    · rename_i fl hu
      simp only [Bool.and_eq_true, beq_iff_eq] at hT
      obtain ⟨xs, m, _, _, hlen, hxl, hf⟩ := DataW.trod_struct hu h
      obtain ⟨avs, g1, g2, g3⟩ := trod_datL fs m fl.toList 0 cs hT.2 (fun i f hi => by
        rw [Array.getElem?_toList] at hi
        rw [hf i f hi]
        exact ⟨_, List.getElem?_eq_getElem (by rw [hxl]; exact (Array.getElem?_eq_some_iff.1 hi).1)⟩) (by omega)
      refine ⟨avs, g1, g2, ?_, fun k c hk => ?_⟩
      · rw [g2, hlen, hT.1]
      · obtain ⟨u, hu1, hd⟩ := g3 k c hk
        exact ⟨u, by simpa using hu1, hd⟩
    · cases hT
theorem trod_datL : ∀ (fs : List TT) (n : Nat) (fl : List Field) (off : Nat) (cs : List Value), TT.isL P fs fl off = true →
    (∀ (i : Nat) f, fl[i]? = some f → ∃ x, DataW.trod enc P w 0 (fun _ => true) held n f.type ((cs.drop f.offset).take (P.cellsOf f.type)) = some x) → off + TT.sizeL fs ≤ cs.length →
    ∃ avs, TT.fitL fs avs ∧ avs.length = TT.sizeL fs ∧ ∀ (k : Nat) c, avs[k]? = some c → ∃ u, cs[off + k]? = some u ∧ DatC (fun b => b < w.heap.size) w c u
  | [], n, fl, off, cs, _, _, _ => ⟨[], rfl, rfl, by simp⟩
  | f :: fs, n, [], off, cs, hT, _, _ => by simp [TT.isL] at hT
  | f :: fs, n, d :: ds, off, cs, hT, h, hl => by
    simp only [TT.isL, Bool.and_eq_true, beq_iff_eq] at hT
    obtain ⟨⟨⟨h1, h2⟩, h3⟩, h4⟩ := hT
    simp only [TT.sizeL] at hl
    obtain ⟨x, hx⟩ := h 0 d rfl
    obtain ⟨a, a1, a2, a3, a4⟩ := trod_dat f n d.type _ x h3 hx
    obtain ⟨b, b1, b2, b3⟩ := trod_datL fs n ds (off + f.size) cs h4 (fun i g hi => h (i + 1) g (by simpa using hi)) (by omega)
    refine ⟨a ++ b, ⟨a, b, rfl, a1, b1⟩, by simp [TT.sizeL, a2, b2], fun k c hk => ?_⟩
    by_cases hlt : k < a.length
    · rw [List.getElem?_append_left hlt] at hk
      obtain ⟨u, hu, hd⟩ := a4 k c hk
      rw [List.getElem?_take, if_pos (by omega), List.getElem?_drop, h1] at hu
      exact ⟨u, hu, hd⟩
    · rw [List.getElem?_append_right (by omega)] at hk
      obtain ⟨u, hu, hd⟩ := b3 _ c hk
      exact ⟨u, by rw [← hu]; congr 1; omega, hd⟩
end
end
end Go.AM
namespace Go.AM
open Go.RowKit Go.WideShapes

/-- A law that holds over data, called. -/
theorem Pure.calls {P : Program} {f : Nat} {args : List AV} {b : Bool} (h : Pure P f args (.b b)) {w : World} {vs : Array Value} (hl : args.length = vs.size) (hv : ∀ (k : Nat) c, args[k]? = some c → Dat (fun b => b < w.heap.size) w c (vs.getD k undef)) :
    Calls P f vs w fun e w' => e = .returned (.bool b) ∧ Below w.heap.size w w' := by
  refine (h.2 w (fun _ => 0) (fun _ => none) (fun bk => bk < w.heap.size) vs (rel_empty _ _ _ fun _ h => h) (by simp) hl (fun k c hk => (hv k c hk).val (E := ⟨w, fun _ => 0, fun _ => none, fun bk => bk < w.heap.size, St.ofBoxes [], #[]⟩) _)).mono ?_
  rintro e w' ⟨v, E', rfl, rfl, I, _, _, hr⟩
  refine ⟨by cases hr; rfl, I.fr.os, I.fr.tape, I.fr.output, I.fr.size, fun k hk => I.fr.block k hk (by simp)⟩

def TT.wrap : TT → List AV → AV
  | .st _, avs => .agg avs
  | _, avs => avs.getD 0 .any

theorem arg_dat {H : Type} {enc : TypeId × Value → H} {P : Program} {w : World} {held : Bool} {r : Reach} {b0 : Nat} {t : TypeId} {v : Value} {d : DataW H} {p : List MemPlace} (T : TT) (hT : T.isAt P t = true) (hval : Value.okWide P w r b0 t v)
    (h : DataW.Trod enc P w 0 (fun _ => true) held t v d p) : ∃ avs, T.fit avs ∧ Dat (fun b => b < w.heap.size) w (T.wrap avs) v := by
  obtain ⟨n, hn⟩ := h
  obtain ⟨avs, h1, h2, h3⟩ := trod_dat T n t _ _ hT hn
  refine ⟨avs, h1, ?_⟩
  have one : v.cells.toList = [v] → avs.length = 1 → Dat (fun b => b < w.heap.size) w (avs.getD 0 .any) v := by
    intro hc hl
    match avs, hl with
    | [c], _ =>
      obtain ⟨u, hu, hd⟩ := h3.2 0 c rfl
      rw [hc] at hu
      obtain rfl := Option.some.inj hu
      exact hd.1
  cases T with
  | int k =>
    simp only [TT.isAt] at hT
    split at hT
    · rename_i k' hu
      obtain ⟨n, rfl⟩ := okWide_int hu hval
      exact one rfl h2
    · cases hT
  | bool =>
    simp only [TT.isAt] at hT
    split at hT
    · rename_i hu
      obtain ⟨n, rfl⟩ := okWide_bool hu hval
      exact one rfl h2
    · cases hT
  | str =>
    simp only [TT.isAt] at hT
    split at hT
    · rename_i hu
      obtain ⟨n, rfl⟩ := okWide_string hu hval
      exact one rfl h2
    · cases hT
  | sl sz e =>
    simp only [TT.isAt] at hT
    split at hT
    · rename_i et hu
      obtain ⟨a, len, cap, rfl⟩ := okWide_slice hu hval
      exact one rfl h2
    · cases hT
  | st fs =>
    simp only [TT.isAt] at hT
    split at hT
    · rename_i fl hu
      simp only [Value.okWide, hu] at hval
      obtain ⟨cs, rfl, _, _⟩ := hval
      refine .agg _ cs (by rw [h3.1]; simp [Value.cells]) fun k c hk => ?_
      obtain ⟨u, hu, hd⟩ := h3.2 k c hk
      simp only [Value.cells, Array.getElem?_toList] at hu
      rw [Array.getD_eq_getD_getElem?, hu]
      exact hd.1
    · cases hT

theorem list_of {α : Type} {g : α → List AV} : ∀ {xs : List (List AV)}, (∀ x ∈ xs, ∃ a, x = g a) → ∃ l : List α, xs = l.map g
  | [], _ => ⟨[], rfl⟩
  | x :: xs, h => by
    obtain ⟨a, rfl⟩ := h x (by simp)
    obtain ⟨l, rfl⟩ := list_of (xs := xs) fun y hy => h y (by simp [hy])
    exact ⟨a :: l, rfl⟩
end Go.AM
