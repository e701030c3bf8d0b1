/- Sets: put at a key's place is the document's put. No program. -/
import Derived.Test.YtkjbnpecjildiaaAmE
set_option linter.unusedSimpArgs false
set_option linter.unusedVariables false
namespace Go.AM
theorem there_iff {s : List Entry} (k : ByteArray) (hp : place s k < s.length) : there s k = true ↔ eqK s[place s k].key k = true := by
  unfold there
  rw [List.getElem?_eq_getElem hp]
  simp [cmpK_eq]
theorem key_tri (a b : ByteArray) : KL a b ∨ eqK a b = true ∨ KL b a := by
  by_cases h1 : KL a b
  · exact .inl h1
  by_cases h3 : KL b a
  · exact .inr (.inr h3)
  · rw [eqK_iff]
    exact .inr (.inl (List.le_antisymm (List.not_lt.1 h3) (List.not_lt.1 h1)))
theorem KL.ne' {a b : ByteArray} (h : KL b a) : eqK a b = false := by
  rw [Bool.eq_false_iff]
  intro e
  rw [eqK_iff] at e
  unfold KL at h
  rw [e] at h
  exact List.lt_irrefl _ h
theorem KL.asymm {a b : ByteArray} (h : KL a b) : ltK b a = false := by
  rw [Bool.eq_false_iff, ne_eq, ltK_iff]
  exact fun h2 => KL.irrefl _ (h.trans h2)
/-- What stands behind a key's place. -/
theorem behind {s : List Entry} (hs : SortE s) (k : ByteArray) (i : Nat) (hi : i < s.length) (h : (if there s k then place s k + 1 else place s k) ≤ i) : KL k s[i].key := by
  obtain ⟨h1, h2⟩ := place_spec hs k
  have hp : place s k < s.length := by split at h <;> omega
  have hm : place s k < i → KL s[place s k].key s[i].key := fun h => List.pairwise_iff_getElem.1 hs _ _ hp hi h
  rcases key_tri s[place s k].key k with h3 | h3 | h3
  · exact absurd h3 (h2 _ hp (Nat.le_refl _))
  · rw [if_pos ((there_iff k hp).2 h3)] at h
    have := hm (by omega)
    rw [eqK_iff] at h3
    unfold KL at this ⊢
    rw [← h3]; exact this
  · by_cases he : place s k = i
    · subst he; exact h3
    · refine h3.trans (hm ?_)
      split at h <;> omega
theorem putTo_front {s : List Entry} (hs : SortE s) {e : Entry} (he : noneE e = false) : ∀ i, i ≤ place s e.key → putTo s e i = (s.take i, false)
  | 0, _ => by simp [putTo, he]
  | i + 1, hi => by
    have hl := place_le s e.key
    have hk := (place_spec hs e.key).1 i (by omega) (by omega)
    rw [putTo_succ s e i (by omega), putTo_front hs he i (by omega), putStep, (ltK_iff _ _).2 hk, hk.ne, List.take_succ_eq_append_getElem (by omega)]
    simp
theorem putTo_back {s : List Entry} (hs : SortE s) {e : Entry} (he : noneE e = false) : ∀ i, place s e.key < i → i ≤ s.length →
    putTo s e i = (s.take (place s e.key) ++ e :: (s.take i).drop (if there s e.key then place s e.key + 1 else place s e.key), true)
  | 0, h, _ => by omega
  | i + 1, hi, hl => by
    obtain ⟨h1, h2⟩ := place_spec hs e.key
    rw [putTo_succ s e i (by omega)]
    by_cases hp : place s e.key = i
    · have hlt : place s e.key < s.length := by omega
      rw [putTo_front hs he i (by omega)]
      have hnl : ltK s[i].key e.key = false := by
        rw [Bool.eq_false_iff, ne_eq, ltK_iff]
        exact h2 i (by omega) (by omega)
      unfold putStep
      simp only [hnl, Bool.not_false, Bool.and_self, if_true]
      cases ht : there s e.key with
      | true =>
        have := (there_iff e.key hlt).1 ht
        simp only [hp] at this
        rw [if_pos this, hp]
        simp [List.drop_eq_nil_of_le]
      | false =>
        have : eqK s[i].key e.key = false := by
          rw [Bool.eq_false_iff]
          intro h
          have := (there_iff e.key hlt).2 (by simpa [hp] using h)
          rw [ht] at this; cases this
        rw [if_neg (by rw [this]; simp), hp]
        have hd : (s.take (i + 1)).drop i = [s[i]] := by
          rw [List.take_succ_eq_append_getElem (by omega), List.drop_append_of_le_length (by simp; omega), List.drop_eq_nil_of_le (by simp; omega)]; rfl
        simp [hd]
    · have hle : (if there s e.key then place s e.key + 1 else place s e.key) ≤ i := by split <;> omega
      have hb := behind hs e.key i (by omega) hle
      rw [putTo_back hs he i (by omega) (by omega)]
      unfold putStep
      simp only [Bool.not_true, Bool.false_and, Bool.false_eq_true, if_false]
      rw [if_neg (by rw [hb.ne']; simp), List.take_succ_eq_append_getElem (by omega)]
      rw [List.drop_append_of_le_length (by rw [List.length_take]; omega)]
      simp
theorem putS_eq {s : List Entry} (hs : SortE s) {e : Entry} (he : noneE e = false) : putS s e = putE s e := by
  have hl := place_le s e.key
  unfold putS putE
  by_cases hp : place s e.key < s.length
  · rw [putTo_back hs he s.length hp (Nat.le_refl _), List.take_length]
    simp only [if_true]
    cases ht : there s e.key with
    | true => simp [List.set_eq_take_append_cons_drop, hp]
    | false => simp
  · have : place s e.key = s.length := by omega
    have ht : there s e.key = false := by
      rw [Bool.eq_false_iff]
      intro h
      exact hp (there_lt h)
    rw [putTo_front hs he s.length (by omega), ht, this]
    simp
theorem ordP_snoc {l : List Dot} (h : Sorted l) (d : Dot) : ordP (l ++ [d]) = putD l d :=
  Sorted.ext (ordP_spec _).1 (sorted_putD h d) fun x => by rw [(ordP_spec _).2, mem_putD]; simp
theorem sorted_left {l : List Dot} (h : Sorted l) (c : List Int) : Sorted (leftD l c) := List.Pairwise.filter _ h
def addR (s : List Entry) (k : ByteArray) (d : Dot) (c : List Int) : List Entry :=
  if 0 < (leftD (getE s k).dead c).length then s else putE s ⟨k, putD (leftD (getE s k).live c) d, (getE s k).dead⟩
def dropR (s : List Entry) (k : ByteArray) (d : Dot) (c : List Int) : List Entry := putE s ⟨k, [], putD (leftD (getE s k).dead c) d⟩
theorem get_rows {s : List Entry} (h : setOk s = true) (k : ByteArray) : rowsB (getE s k).live = true ∧ rowsB (getE s k).dead = true := by
  rcases getE_cases s k with ⟨x, hx, _, e⟩ | ⟨_, e⟩
  · rw [e]
    obtain ⟨i, hi, rfl⟩ := List.mem_iff_getElem.1 hx
    have := setOk_entry h i hi
    simp only [entOk, Bool.and_eq_true] at this
    exact ⟨this.1.2, this.2⟩
  · rw [e]; exact ⟨rfl, rfl⟩
end Go.AM
namespace Go.AM
open Go.Proofs

theorem light_ent {s : List Entry} (h : lightB s = true) {e : Entry} (he : e ∈ s) : e.live.length ≤ 30 ∧ e.dead.length ≤ 30 := by
  simp only [lightB, Bool.and_eq_true, List.all_eq_true] at h
  have := h.1 e he
  simp [lightE] at this
  omega
theorem light_len {s : List Entry} (h : lightB s = true) : s.length ≤ 30 := by
  simp only [lightB, Bool.and_eq_true, decide_eq_true_eq] at h
  omega
theorem atE_mem (s : List Entry) (k : ByteArray) : atE s k ∈ s ∨ atE s k = emptyE k := by
  unfold atE
  cases ht : there s k with
  | true =>
    have hlt := there_lt ht
    left
    simp [hlt]
  | false => right; rfl
theorem getE_mem (s : List Entry) (k : ByteArray) : getE s k ∈ s ∨ getE s k = emptyE k := by
  rcases getE_cases s k with ⟨x, hx, _, e⟩ | ⟨_, e⟩
  · left; rw [e]; exact hx
  · right; exact e
theorem putS_mem {s : List Entry} {e x : Entry} (h : x ∈ putS s e) : x ∈ s ∨ x = e := by
  unfold putS at h
  split at h
  · exact List.mem_or_eq_of_mem_set h
  · rcases List.mem_append.1 h with h | h
    · exact .inl (List.mem_of_mem_take h)
    · rcases List.mem_cons.1 h with h | h
      · exact .inr h
      · exact .inl (List.mem_of_mem_drop h)
theorem putS_len (s : List Entry) (e : Entry) : (putS s e).length ≤ s.length + 1 := by
  have := place_le s e.key
  unfold putS
  split
  · simp
  · simp; omega
/-- A bound on all that a set has. -/
def Within (n : Nat) (s : List Entry) : Prop := s.length ≤ n ∧ ∀ e ∈ s, e.live.length ≤ n ∧ e.dead.length ≤ n
theorem Within.fine {n : Nat} {s : List Entry} (h : Within n s) (hn : n ≤ 1000000) : Fine s := ⟨by have := h.1; omega, fun e he => by have := h.2 e he; omega⟩
theorem Within.put {n : Nat} {s : List Entry} (h : Within n s) {e : Entry} (he : e.live.length ≤ n + 1 ∧ e.dead.length ≤ n + 1) : Within (n + 1) (putS s e) :=
  ⟨by have := putS_len s e; have := h.1; omega, fun x hx => by
    rcases putS_mem hx with hx | hx
    · have := h.2 x hx; omega
    · rw [hx]; exact he⟩
theorem Within.of {s : List Entry} (h : lightB s = true) : Within 30 s := ⟨light_len h, fun _ he => light_ent h he⟩
theorem Within.at {n : Nat} {s : List Entry} (h : Within n s) (k : ByteArray) : (atE s k).live.length ≤ n ∧ (atE s k).dead.length ≤ n := by
  rcases atE_mem s k with hm | he
  · exact h.2 _ hm
  · rw [he]; simp [emptyE]
theorem Within.add {n : Nat} {s : List Entry} (h : Within n s) (k : ByteArray) (d : Dot) (c : List Int) : Within (n + 1) (addS s k d c) := by
  unfold addS
  split
  · exact ⟨by have := h.1; omega, fun e he => by have := h.2 e he; omega⟩
  · have h2 := h.at k
    have h3 := leftD_len (atE s k).live c
    have h4 := ordP_length (leftD (atE s k).live c ++ [d])
    rw [List.length_append, List.length_singleton] at h4
    exact h.put ⟨by dsimp only; omega, by dsimp only; omega⟩
theorem Within.drop {n : Nat} {s : List Entry} (h : Within n s) (k : ByteArray) (d : Dot) (c : List Int) : Within (n + 1) (dropS s k d c) := by
  unfold dropS
  have h2 := h.at k
  have h3 := leftD_len (atE s k).dead c
  have h4 := ordP_length (leftD (atE s k).dead c ++ [d])
  rw [List.length_append, List.length_singleton] at h4
  exact h.put ⟨by simp, by dsimp only; omega⟩

structure Deed where
  key : ByteArray
  dot : Dot
  past : List Int
def deedC (x : Deed) : List AV := [.s x.key, .i .i64 x.dot.1, .i .i64 x.dot.2, .sl .fro 1 (intsAV x.past)]

end Go.AM
namespace Go.AM
abbrev past (s : List Entry) (k : ByteArray) : Nat := if there s k then place s k + 1 else place s k
theorem putS_form (s : List Entry) (e : Entry) : putS s e = s.take (place s e.key) ++ e :: s.drop (past s e.key) := by
  unfold putS past
  cases ht : there s e.key with
  | true => simp [List.set_eq_take_append_cons_drop, there_lt ht]
  | false => simp
theorem sort_front {s : List Entry} (hs : SortE s) (k : ByteArray) : ∀ x ∈ s.take (place s k), KL x.key k := fun x hx => by
  obtain ⟨i, hi, rfl⟩ := List.mem_take_iff_getElem.1 hx
  exact (place_spec hs k).1 i (by omega) (by omega)
theorem sort_back {s : List Entry} (hs : SortE s) (k : ByteArray) : ∀ x ∈ s.drop (past s k), KL k x.key := fun x hx => by
  obtain ⟨i, hi, rfl⟩ := List.mem_drop_iff_getElem.1 hx
  exact behind hs k _ (by omega) (by unfold past; omega)
theorem putS_sort {s : List Entry} (hs : SortE s) (e : Entry) : SortE (putS s e) := by
  rw [putS_form]
  have h1 := sort_front hs e.key
  have h2 := sort_back hs e.key
  refine List.pairwise_append.2 ⟨List.Pairwise.sublist (List.take_sublist _ _) hs, List.pairwise_cons.2 ⟨h2, List.Pairwise.sublist (List.drop_sublist _ _) hs⟩, fun x hx y hy => ?_⟩
  rcases List.mem_cons.1 hy with rfl | hy
  · exact h1 x hx
  · exact (h1 x hx).trans (h2 y hy)
theorem getE_put {s : List Entry} (hs : SortE s) (e : Entry) : getE (putS s e) e.key = e := by
  rw [putS_form]
  unfold getE
  have h1 : (s.take (place s e.key)).find? (fun x => eqK x.key e.key) = none := by
    rw [List.find?_eq_none]
    intro x hx
    rw [(sort_front hs e.key x hx).ne]; simp
  rw [List.find?_append, h1, List.find?_cons]
  simp [eqK]
theorem getE_other {s : List Entry} (hs : SortE s) (e : Entry) (k : ByteArray) (hk : eqK e.key k = false) : getE (putS s e) k = getE s k := by
  have hk' : eqK k e.key = false := by
    rw [Bool.eq_false_iff] at hk ⊢
    intro h; rw [eqK_iff] at h; exact hk ((eqK_iff _ _).2 h.symm)
  have hss := putS_sort hs e
  rcases getE_cases s k with ⟨x, hx, ex, gx⟩ | ⟨hn, gx⟩
  · have hx2 : x ∈ putS s e := by
      rw [putS_form]
      rw [← List.take_append_drop (place s e.key) s] at hx
      rcases List.mem_append.1 hx with h | h
      · exact List.mem_append_left _ h
      · refine List.mem_append_right _ (List.mem_cons_of_mem _ ?_)
        unfold past
        cases ht : there s e.key with
        | false => exact h
        | true =>
          have hlt := there_lt ht
          rw [List.drop_eq_getElem_cons hlt] at h
          rcases List.mem_cons.1 h with rfl | h
          · have := (there_iff e.key hlt).1 ht
            rw [eqK_iff] at this ex
            rw [Bool.eq_false_iff] at hk'
            exact absurd ((eqK_iff _ _).2 (ex.symm.trans this)) hk'
          · exact h
    rcases getE_cases (putS s e) k with ⟨y, hy, ey, gy⟩ | ⟨hn, gy⟩
    · rw [gx, gy]; exact ent_uniq hss hy hx2 ey ex
    · rw [hn x hx2] at ex; cases ex
  · rcases getE_cases (putS s e) k with ⟨y, hy, ey, gy⟩ | ⟨_, gy⟩
    · rcases putS_mem hy with h | rfl
      · rw [hn y h] at ey; cases ey
      · rw [hk] at ey; cases ey
    · rw [gx, gy]
def oneOk (e : Entry) : Bool := keyOk e.key && !decide ((e.live.length : Int) + e.dead.length = 0) && rowsB e.live && rowsB e.dead
theorem empty_min (k : ByteArray) : leK k ByteArray.empty = true → eqK k ByteArray.empty = true := by
  intro h
  simp only [leK, Bool.or_eq_true] at h
  rcases h with h | h
  · rw [ltK_iff] at h
    unfold KL at h
    have : ByteArray.empty.toList = [] := (toList_data ByteArray.empty).symm.trans rfl
    rw [this] at h
    exact absurd h (List.not_lt_nil _)
  · exact h
theorem setOk_iff (s : List Entry) : setOk s = true ↔ s.length ≤ 4000 ∧ SortE s ∧ ∀ e ∈ s, oneOk e = true := by
  constructor
  · intro h
    refine ⟨?_, setOk_sort h, fun e he => ?_⟩
    · simp only [setOk, Bool.and_eq_true, decide_eq_true_eq] at h
      omega
    · obtain ⟨i, hi, rfl⟩ := List.mem_iff_getElem.1 he
      have := setOk_entry h i hi
      simp only [entOk, Bool.and_eq_true] at this
      simp only [oneOk, Bool.and_eq_true]
      exact ⟨⟨⟨this.1.1.1.1, this.1.1.2⟩, this.1.2⟩, this.2⟩
  · rintro ⟨h1, h2, h3⟩
    simp only [setOk, Bool.and_eq_true, decide_eq_true_eq, List.all_eq_true]
    refine ⟨by omega, fun i hi => ?_⟩
    have hi : i < s.length := by simpa using hi
    have h4 := h3 s[i] (List.getElem_mem hi)
    simp only [oneOk, Bool.and_eq_true] at h4
    simp only [entAt, List.getElem?_eq_getElem hi, entOk, Bool.and_eq_true]
    refine ⟨⟨⟨⟨h4.1.1.1, ?_⟩, h4.1.1.2⟩, h4.1.2⟩, h4.2⟩
    rw [Bool.not_eq_true', Bool.eq_false_iff]
    intro hle
    rcases Nat.eq_zero_or_pos i with h0 | h0
    · subst h0
      have := empty_min _ hle
      have h5 := h4.1.1.1
      simp only [keyOk, Bool.and_eq_true] at h5
      rw [this] at h5
      simp at h5
    · obtain ⟨j, rfl⟩ : ∃ j, i = j + 1 := ⟨i - 1, by omega⟩
      rw [prevK_succ s j (by omega)] at hle
      have := List.pairwise_iff_getElem.1 h2 j (j + 1) (by omega) hi (by omega)
      simp only [leK, Bool.or_eq_true] at hle
      rcases hle with h | h
      · rw [this.asymm] at h; cases h
      · rw [this.ne'] at h; cases h
theorem put_ok {s : List Entry} (h : setOk s = true) (hl : s.length < 4000) {e : Entry} (he : oneOk e = true) : setOk (putS s e) = true := by
  obtain ⟨_, h2, h3⟩ := (setOk_iff s).1 h
  refine (setOk_iff _).2 ⟨by have := putS_len s e; omega, putS_sort h2 e, fun x hx => ?_⟩
  rcases putS_mem hx with hx | rfl
  · exact h3 x hx
  · exact he
def allC : List Int := [1048576, 1048576, 1048576, 1048576, 1048576]
end Go.AM
namespace Go.AM
open Go.Proofs

end Go.AM
namespace Go.AM

/-- A slot's own row is parked: the slot keeps its header alone. -/
def St.park (st : St) (t b sz : Nat) (xs : List (List AV)) (cap : Nat) : St :=
  (((st.take (rowQ t (1000000 + b))).killB (1000000 + b)).put t (.ab b 0 xs.length cap)).setBox (1000000 + b) (some (xs.flatten ++ List.replicate ((cap - xs.length) * sz) .any))

theorem Rel.park {N : Nat} {E : Env} (R : Rel N E) {t bk sz cap : Nat} {xs : List (List AV)} {arr : Array Value} {T : TypeId} (htN : t < N) (ht : E.st.slots t = .sl .own sz xs) (hω : E.ω bk = some (.slot t [])) (hg : E.w.heap[bk]? = some (.cells arr T (0, 0)))
    (ha : arr.size = cap * sz) (hc : xs.length ≤ cap) (hrow : Row E.Pub E.w bk 0 sz xs) (hown0 : ∀ j sz xs, E.st.abs (.cell (1000000 + bk) j) ≠ .sl .own sz xs) (htm : E.tm.getD t undef = .slice (some ⟨bk, 0, none⟩) xs.length cap) :
    Rel N ⟨E.w, (fun i => if i = 1000000 + bk then bk else E.β i), (E.take (rowQ t (1000000 + bk))).ω, E.Pub, E.st.park t bk sz xs cap, E.tm⟩ := by
  have R1 := R.unown (id := 1000000 + bk) htN ht hω hg ha hc hrow hown0 htm (fun _ => by unfold parkM; omega)
  have hno : NoOwn ((E.st.unown t (1000000 + bk) sz xs cap).slots t) := by
    intro π sz' xs' h
    have h2 : (E.st.unown t (1000000 + bk) sz xs cap).slots t = .bs (1000000 + bk) 0 xs.length cap := by simp [St.unown, St.put, St.setBox]
    rw [h2] at h
    cases π <;> simp [AV.at] at h
  have R2 := R1.putq t (.ab bk 0 xs.length cap) (.slice (some ⟨bk, 0, none⟩) xs.length cap) htN hno rfl (.ab _ _ _ _ _)
  have e1 : E.tm.setIfInBounds t (.slice (some ⟨bk, 0, none⟩) xs.length cap) = E.tm := tm_set_same _ _ _ htm
  have e2 : (E.st.unown t (1000000 + bk) sz xs cap).put t (.ab bk 0 xs.length cap) = E.st.park t bk sz xs cap := by
    refine St.ext' (fun t' => ?_) (fun i => rfl)
    show (if t' = t then _ else if t' = t then _ else _) = if t' = t then _ else _
    split <;> rfl
  rw [← e2]
  have R3 : Rel N ⟨E.w, (fun i => if i = 1000000 + bk then bk else E.β i), (E.take (rowQ t (1000000 + bk))).ω, E.Pub, (E.st.unown t (1000000 + bk) sz xs cap).put t (.ab bk 0 xs.length cap), E.tm.setIfInBounds t (.slice (some ⟨bk, 0, none⟩) xs.length cap)⟩ := R2
  rw [e1] at R3
  exact R3

theorem Inv.park {N : Nat} {S : Start} {E : Env} (I : Inv N S E) {t sz : Nat} {xs : List (List AV)} (htN : t < N) (ht : E.st.slots t = .sl .own sz xs) (hne : xs ≠ []) (hid : ∀ A, 1000000 ≤ A → E.st.boxes A = none) (hk : S.k ≤ 1000000) :
    ∃ b cap E', xs.length ≤ cap ∧ E'.w = E.w ∧ E'.tm = E.tm ∧ Inv N S E' ∧ E'.st = E.st.park t b sz xs cap := by
  have hv := I.rel.slots t
  rw [ht] at hv
  generalize hvv : E.tm.getD t undef = v at hv
  cases hv with
  | sl0 => exact absurd rfl hne
  | sl _ _ _ _ bk off cap hc hr hg ha =>
    obtain ⟨h1, arr, T, h2, h3, h4⟩ := hg
    subst h3
    have R' := I.rel.park htN ht h1 h2 h4 hc hr (fun j sz xs h => by simp [St.abs, hid (1000000 + bk) (by omega)] at h) hvv
    refine ⟨bk, cap, ⟨E.w, (fun i => if i = 1000000 + bk then bk else E.β i), (E.take (rowQ t (1000000 + bk))).ω, E.Pub, E.st.park t bk sz xs cap, E.tm⟩, hc, rfl, rfl, ⟨R', ⟨I.fr.os, I.fr.tape, I.fr.output, I.fr.size, I.fr.block, fun k q h => ?_, I.fr.pub0, I.fr.pub1, fun i hi => ?_⟩⟩, rfl⟩
    · have h' : (match E.ω k with | some q => some ((rowQ t (1000000 + bk) q).getD q) | none => none) = some q := h
      split at h'
      · rename_i q' hq'; exact I.fr.own k q' hq'
      · cases h'
    · show (if i = 1000000 + bk then bk else E.β i) = _
      rw [if_neg (by omega)]
      exact I.fr.beta i hi

/-- A parked row is claimed: it gets a box's name, and the slot that bears its header reads the box. -/
def St.claim (st : St) (t b id n cap : Nat) (cs : List AV) : St := ((((st.killB (1000000 + b)).setBox (1000000 + b) none).killB id).put t (.bs id 0 n cap)).setBox id (some cs)

theorem Val.calm {E E' : Env} (hw : E'.w = E.w) (hP : E'.Pub = E.Pub) {p p' : Place} {x : AV} {v : Value} (h : Val E p x v) (hx : x.calm = true) : Val E' p' x v := by
  cases h with
  | any => exact .any _ _
  | b => exact .b _ _
  | i => exact .i _ _ _
  | s => exact .s _ _
  | nil => exact .nil _
  | nofn => exact .nofn _
  | ab => exact .ab _ _ _ _ _
  | ptr => simp [AV.calm] at hx
  | bs => simp [AV.calm] at hx
  | pt => simp [AV.calm] at hx
  | fn => simp [AV.calm] at hx
  | agg => simp [AV.calm] at hx
  | tup => simp [AV.calm] at hx
  | sl1 => exact .sl1 _ _ _ _
  | sl2 => simp [AV.calm] at hx
  | sl0 _ g => cases g <;> first | (simp [AV.calm] at hx; done) | exact .sl0 _ _ _ (by simp) trivial
  | sl _ g sz xs bk off cap hc hr hg hat =>
    cases g <;> first | (simp [AV.calm] at hx; done) | skip
    refine .sl _ .fro sz xs bk off cap hc ?_ ?_ trivial
    · rw [hw, hP]; exact hr
    · show E'.Pub bk
      rw [hP]; exact hg

theorem Rel.claim {N : Nat} {E : Env} (R : Rel N E) {t b id n cap : Nat} {cs : List AV} (htN : t < N) (ht : E.st.slots t = .ab b 0 n cap) (hb : E.st.boxes (1000000 + b) = some cs) (hcc : Calm cs) (hid : E.st.boxes id = none) (hidM : id < 1000000) :
    Rel N ⟨E.w, (fun i => if i = id then b else E.β i), (fun bk => if E.ω bk = some (.box (1000000 + b)) then some (.box id) else E.ω bk), E.Pub, E.st.claim t b id n cap cs, E.tm⟩ := by
  have hf := hcc.freeL
  let A := 1000000 + b
  let E' : Env := ⟨E.w, (fun i => if i = id then b else E.β i), (fun bk => if E.ω bk = some (.box (1000000 + b)) then some (.box id) else E.ω bk), E.Pub, E.st.claim t b id n cap cs, E.tm⟩
  have hne : id ≠ A := by show id ≠ 1000000 + b; omega
  have hβ : E.β A = b := by have := R.abs A (by rw [show E.st.boxes A = some cs from hb]; rfl) (by show 1000000 ≤ 1000000 + b; omega); unfold parkM at this; have h2 : A = 1000000 + b := rfl; omega
  have htv : E.tm.getD t undef = .slice (some ⟨b, 0, none⟩) n cap := by
    have := R.slots t
    rw [ht] at this
    generalize E.tm.getD t undef = v at this
    cases this; rfl
  have R2 : Rel N { E with st := (E.st.killB A).killB id } := (R.killB A).killB id
  have hq : ∀ q sz xs, E.st.abs q = .sl .own sz xs → rootNe t q ∧ (∀ j, q ≠ .cell A j) ∧ (∀ j, q ≠ .cell id j) ∧ q ≠ .box A ∧ q ≠ .box id := by
    intro q sz xs h
    refine ⟨?_, fun j e => ?_, fun j e => ?_, fun e => by subst e; simp [St.abs] at h, fun e => by subst e; simp [St.abs] at h⟩
    · cases q with
      | slot t' π =>
        show t' ≠ t
        rintro rfl
        simp only [St.abs, ht] at h
        cases π <;> simp [AV.at] at h
      | _ => trivial
    · subst e
      simp only [St.abs, show E.st.boxes A = some cs from hb, Option.getD_some, List.getD_eq_getElem?_getD] at h
      cases hj : cs[j]? with
      | none => rw [hj] at h; cases h
      | some c =>
        rw [hj] at h
        have := AV.freeL_get hf hj
        simp only [Option.getD_some] at h
        rw [h] at this
        simp [AV.free] at this
    · subst e
      simp [St.abs, hid] at h
  have hno : rootNe t Place.no ∧ (∀ j, Place.no ≠ .cell A j) ∧ (∀ j, Place.no ≠ .cell id j) ∧ Place.no ≠ .box A ∧ Place.no ≠ .box id := ⟨trivial, by simp, by simp, by simp, by simp⟩
  have habs2 : ∀ q sz xs, E.st.abs q = .sl .own sz xs ↔ ((E.st.killB A).killB id).abs q = .sl .own sz xs := fun q sz xs => (abs_killB E.st A q sz xs).trans (abs_killB _ id q sz xs)
  have hst : Stays (fun q => rootNe t q ∧ (∀ j, q ≠ .cell A j) ∧ (∀ j, q ≠ .cell id j) ∧ q ≠ .box A ∧ q ≠ .box id) (fun i => i ≠ id) { E with st := (E.st.killB A).killB id } E' := by
    refine ⟨fun bk h => ⟨h, rfl⟩, fun bk q hq h => ⟨?_, rfl⟩, fun i hi => by show (if i = id then b else E.β i) = E.β i; rw [if_neg hi], ?_, ?_⟩
    · show (if E.ω bk = some (.box (1000000 + b)) then some (Place.box id) else E.ω bk) = some q
      have h' : E.ω bk = some q := h
      rw [h', if_neg (by intro e; exact hq.2.2.2.1 (Option.some.inj e))]
    · intro q u sz xs hr hab hc
      cases q with
      | slot t π => exact hc
      | cell i off =>
        have hi : i ≠ id := fun e => hr.2.2.1 off (by rw [e])
        show E.w.cell? ⟨if i = id then b else E.β i, off, none⟩ = some u
        rw [if_neg hi]; exact hc
      | box _ => simp [Env.con] at hc
      | no => simp [Env.con] at hc
    · intro q sz xs hr hab
      cases q with
      | slot t' π =>
        have hne' : t' ≠ t := hr.1
        show ((if t' = t then _ else ((E.st.killB A).killB id).slots t') : AV).at π = _
        rw [if_neg hne']; exact hab
      | cell i off =>
        have hi : i ≠ id := fun e => hr.2.2.1 off (by rw [e])
        have hiA : i ≠ A := fun e => hr.2.1 off (by rw [e])
        have hiA' : i ≠ 1000000 + b := hiA
        show ((((E.st.claim t b id n cap cs).boxes i).getD []).getD off .any) = _
        have : (E.st.claim t b id n cap cs).boxes i = ((E.st.killB A).killB id).boxes i := by
          simp only [St.claim, St.setBox, St.put, St.killB, St.tr, hi, hiA', if_false]
          rfl
        rw [this]; exact hab
      | box _ => simp [St.abs] at hab
      | no => simp [St.abs] at hab
  have hleanS : ∀ t', Leans (fun q => rootNe t q ∧ (∀ j, q ≠ .cell A j) ∧ (∀ j, q ≠ .cell id j) ∧ q ≠ .box A ∧ q ≠ .box id) (fun i => i ≠ id) (.slot t' []) (((E.st.killB A).killB id).slots t') := fun t' =>
    ((R.killB A).leansSlot (fun q sz xs h => hq q sz xs ((abs_killB E.st A q sz xs).2 h)) hno t').killB
  refine { size := R.size, slots := fun t' => ?_, boxes := fun i csi h => ?_, pub := fun bk h => ⟨(R.pub bk h).1, ?_⟩, own := fun bk q h => ?_, abs := fun i h hm => ?_ }
  · show Val E' (.slot t' []) (if t' = t then _ else ((E.st.killB A).killB id).slots t') (E.tm.getD t' undef)
    by_cases he : t' = t
    · subst he
      rw [if_pos rfl, htv]
      have := Val.bs (E := E') (.slot t' []) id 0 n cap
      have hb : E'.β id = b := by show (if id = id then b else _) = b; rw [if_pos rfl]
      rw [hb] at this
      exact this
    · rw [if_neg he]
      exact (R2.slots t').mono hst (hleanS t')
  · by_cases hi : i = id
    · subst hi
      have h' : (E.st.claim t b i n cap cs).boxes i = some csi := h
      simp only [St.claim, St.setBox, if_true] at h'
      obtain rfl := Option.some.inj h'
      obtain ⟨g1, arr, T, g2, g3, g4⟩ := R.boxes A cs hb
      rw [hβ] at g1 g2
      have hbi : E'.β i = b := by show (if i = i then b else _) = b; rw [if_pos rfl]
      refine ⟨?_, arr, T, by rw [hbi]; exact g2, g3, fun j c hj => ?_⟩
      · rw [hbi]
        show (if E.ω b = some (.box (1000000 + b)) then some (Place.box i) else E.ω b) = _
        rw [if_pos g1]
      · exact Val.calm (E := E) (E' := E') rfl rfl (g4 j c hj) (hcc c (List.mem_of_getElem? hj))
    · by_cases hiA : i = 1000000 + b
      · subst hiA
        have h' : (E.st.claim t b id n cap cs).boxes (1000000 + b) = some csi := h
        simp [St.claim, St.setBox, St.put, St.killB, St.tr, hi] at h'
      · have h' : ((E.st.killB A).killB id).boxes i = some csi := by
          have h'' : (E.st.claim t b id n cap cs).boxes i = some csi := h
          simp only [St.claim, St.setBox, St.put, St.killB, St.tr, hi, hiA, if_false] at h''
          exact h''
        obtain ⟨h1, arr0, T0, h2, h3, h4⟩ := R2.boxes i csi h'
        have hbi : E'.β i = E.β i := by show (if i = id then b else E.β i) = E.β i; rw [if_neg hi]
        refine ⟨?_, arr0, T0, by rw [hbi]; exact h2, h3, fun j c hj => ?_⟩
        · rw [hbi]
          show (if E.ω (E.β i) = some (.box (1000000 + b)) then some (Place.box id) else E.ω (E.β i)) = _
          have h1' : E.ω (E.β i) = some (.box i) := h1
          rw [h1', if_neg (by simp [hiA])]
        · have h5 := h4 j c hj
          simp only [St.killB, St.tr, Option.map_eq_some_iff] at h'
          obtain ⟨cs1, ⟨cs0, hb0, rfl⟩, rfl⟩ := h'
          rw [AV.trC_get, Option.map_eq_some_iff] at hj
          obtain ⟨c1, hc1, rfl⟩ := hj
          have hb1 : (E.st.killB A).boxes i = some (AV.trC (killBLeaf A) i 0 cs0) := by simp [St.killB, St.tr, hb0]
          have := ((R.killB A).leansCell (fun q sz xs h => hq q sz xs ((abs_killB E.st A q sz xs).2 h)) hno hb1 hc1).killB (id := id)
          simp only [Nat.zero_add] at this h5 ⊢
          exact h5.mono hst this
  · show (if E.ω bk = some (.box (1000000 + b)) then some (Place.box id) else E.ω bk) = none
    rw [(R.pub bk h).2, if_neg (by simp)]
  · have h' : (if E.ω bk = some (.box (1000000 + b)) then some (Place.box id) else E.ω bk) = some q := h
    split at h'
    · rename_i h2; exact R.own bk _ h2
    · exact R.own bk q h'
  · have hi : i ≠ id := by unfold parkM at hm; omega
    have hiA : i ≠ 1000000 + b := by
      rintro rfl
      have h' : ((E.st.claim t b id n cap cs).boxes (1000000 + b)).isSome = true := h
      simp [St.claim, St.setBox, St.put, St.killB, St.tr, hi] at h'
    show (if i = id then b else E.β i) + parkM = i
    rw [if_neg hi]
    refine R2.abs i ?_ hm
    have h' : ((E.st.claim t b id n cap cs).boxes i).isSome = true := h
    simp only [St.claim, St.setBox, St.put, St.killB, St.tr, hi, hiA, if_false] at h'
    exact h'

theorem Inv.claim {N : Nat} {S : Start} {E : Env} (I : Inv N S E) {t b id n cap : Nat} {cs : List AV} (htN : t < N) (ht : E.st.slots t = .ab b 0 n cap) (hb : E.st.boxes (1000000 + b) = some cs) (hcc : Calm cs) (hid : E.st.boxes id = none) (hk : S.k ≤ id) (hidM : id < 1000000) :
    ∃ E', E'.w = E.w ∧ E'.tm = E.tm ∧ Inv N S E' ∧ E'.st = E.st.claim t b id n cap cs := by
  refine ⟨⟨E.w, (fun i => if i = id then b else E.β i), (fun bk => if E.ω bk = some (.box (1000000 + b)) then some (.box id) else E.ω bk), E.Pub, E.st.claim t b id n cap cs, E.tm⟩, rfl, rfl, ⟨I.rel.claim htN ht hb hcc hid hidM, ⟨I.fr.os, I.fr.tape, I.fr.output, I.fr.size, I.fr.block, fun k q h => ?_, I.fr.pub0, I.fr.pub1, fun i hi => ?_⟩⟩, rfl⟩
  · have h' : (if E.ω k = some (.box (1000000 + b)) then some (Place.box id) else E.ω k) = some q := h
    split at h'
    · rename_i h2; exact I.fr.own k _ h2
    · exact I.fr.own k q h'
  · show (if i = id then b else E.β i) = _
    rw [if_neg (by omega)]
    exact I.fr.beta i hi

theorem boxF_clear {k : Nat} {R : List (List AV)} (h : Rows k R) (pad Z : List AV) (m : Nat) (hm : m ≤ R.length) (hz : Z.length = (R.length - m) * k) :
    (boxF R pad).take (m * k) ++ (Z ++ (boxF R pad).drop (m * k + Z.length)) = boxF (R.take m) (Z ++ pad) := by
  have e : m * k + Z.length = R.length * k := by rw [hz, ← Nat.add_mul, show m + (R.length - m) = R.length by omega]
  rw [boxF_take h pad m hm, e, boxF_drop h pad _ (Nat.le_refl _), List.drop_length]
  rfl
section
variable {C : Cx} {Q : Exit → St → Prop} {st : St}
theorem AWp.park (t : Nat) {sz : Nat} {xs : List (List AV)} {c : Code} (ht : st.slots t = .sl .own sz xs) (hN : t < C.N) (hne : xs ≠ []) (hid : ∀ A, 1000000 ≤ A → st.boxes A = none) (hb : C.base ≤ 1000000) (h : ∀ b cap, xs.length ≤ cap → AWp C c (st.park t b sz xs cap) Q) : AWp C c st Q := by
  intro S E a hbs I ha hd he
  subst he
  obtain ⟨b, cap, E', h1, h2, h3, h4, h5⟩ := I.park hN ht hne hid (Nat.le_trans hbs hb)
  have := h b cap h1 S E' a hbs h4 (by rw [ha, h3]) hd h5
  rwa [h2] at this
theorem SOps.park (t : Nat) {sz : Nat} {xs : List (List AV)} {ops : Array Oper} {k : Nat} {l : List Oper} {K : St → Prop} (ht : st.slots t = .sl .own sz xs) (hN : t < C.N) (hne : xs ≠ []) (hid : ∀ A, 1000000 ≤ A → st.boxes A = none) (hb : C.base ≤ 1000000)
    (h : ∀ b cap, xs.length ≤ cap → SOps C ops k l (st.park t b sz xs cap) K) : SOps C ops k l st K := by
  intro S E a hbs I ha hd he R hR
  subst he
  obtain ⟨b, cap, E', h1, h2, h3, h4, h5⟩ := I.park hN ht hne hid (Nat.le_trans hbs hb)
  have := h b cap h1 S E' a hbs h4 (by rw [ha, h3]) hd h5 R hR
  rwa [h2] at this
theorem SOps.claim (t b id : Nat) {n cap : Nat} {cs : List AV} {ops : Array Oper} {k : Nat} {l : List Oper} {K : St → Prop} (ht : st.slots t = .ab b 0 n cap) (hbx : st.boxes (1000000 + b) = some cs) (hcc : Calm cs) (hN : t < C.N) (hid : st.boxes id = none) (hb : C.base ≤ id ∧ id < 1000000)
    (h : SOps C ops k l (st.claim t b id n cap cs) K) : SOps C ops k l st K := by
  intro S E a hbs I ha hd he R hR
  subst he
  obtain ⟨E', h2, h3, h4, h5⟩ := I.claim hN ht hbx hcc hid (Nat.le_trans hbs hb.1) hb.2
  have := h S E' a hbs h4 (by rw [ha, h3]) hd h5 R hR
  rwa [h2] at this
theorem AWp.claim (t b id : Nat) {n cap : Nat} {cs : List AV} {c : Code} (ht : st.slots t = .ab b 0 n cap) (hbx : st.boxes (1000000 + b) = some cs) (hcc : Calm cs) (hN : t < C.N) (hid : st.boxes id = none) (hb : C.base ≤ id ∧ id < 1000000)
    (h : AWp C c (st.claim t b id n cap cs) Q) : AWp C c st Q := by
  intro S E a hbs I ha hd he
  subst he
  obtain ⟨E', h2, h3, h4, h5⟩ := I.claim hN ht hbx hcc hid (Nat.le_trans hbs hb.1) hb.2
  have := h S E' a hbs h4 (by rw [ha, h3]) hd h5
  rwa [h2] at this
/-- A loop whose kept boxes change with its state. -/
theorem AWp.whileK {ι : Type} (l : ι → List (Nat × AV)) (bx : ι → Boxes) (inv : ι → Prop) (μ : ι → Nat) (ks : List Nat) (kb : ι → List Nat) {c : Code} (i0 : ι) (h0 : inv i0) (hst : st.sees ks (kb i0) (l i0) (bx i0))
    (round : ∀ i, inv i → AWp C c (St.of (l i) (bx i)) (thenQ (fun s => ∃ i', inv i' ∧ μ i' < μ i ∧ s.sees ks (kb i') (l i') (bx i')) Q)) : AWp C (.loop c) st Q := by
  refine AWp.clean ks (kb i0) (AWp.fit (St.sees_fits hst) ?_)
  intro S E a hb I ha hd he
  refine wp_loop_by (fun i a w => inv i ∧ ∃ E, E.w = w ∧ Inv C.N S E ∧ a.tmps = E.tm ∧ a.defers = [] ∧ E.st = St.of (l i) (bx i)) μ ?_ (i0 := i0) ⟨h0, E, rfl, I, ha, hd, he⟩
  rintro i a w ⟨hi, E, rfl, I, ha, hd, he⟩
  refine wp_mono (round i hi S E a hb I ha hd he) ?_
  rintro e a w ⟨E1, rfl, h2, h3, h4, h5⟩
  cases e with
  | normal =>
    obtain ⟨i', g1, g2, g3⟩ := h5
    obtain ⟨E2, k1, k2, k3, k4⟩ := h2.clean ks (kb i')
    exact ⟨i', ⟨g1, { E2 with st := St.of (l i') (bx i') }, k1, k3.fits (by rw [k4]; exact St.sees_fits g3), by rw [h3, k2], h4, rfl⟩, g2⟩
  | _ => exact ⟨E1, rfl, h2, h3, h4, h5⟩
/-- A region with ghost steps whose names are chosen at its end. -/
theorem AWp.goX {id : Nat} {ops : Array Oper} {y : Code} (h : ∀ K : St → Prop, (∀ ks kb s, AWp C y (St.of (seeS ks kb s ks) (seeB ks kb s kb)) Q → K s) → SOps C ops 0 ops.toList st K) : AWp C (.seq (.region id ops false) y) st Q := by
  refine AWp.seq ((AWp.sregion (Q := fun e s => thenQ (fun s => AWp C y s Q) (fun _ _ => False) e s) ?_).mono ?_)
  · refine h (fun s => AWp C y s Q) fun ks kb s hs => AWp.clean ks kb ?_
    rw [St.clean_eq]
    exact hs
  · intro e s hs
    cases e with
    | normal => exact hs
    | _ => exact hs.elim
theorem AWp.goXL {id : Nat} {ops : Array Oper} (h : ∀ K : St → Prop, (∀ s, Q .normal s → K s) → SOps C ops 0 ops.toList st K) : AWp C (.region id ops false) st Q := by
  refine (AWp.sregion (Q := fun e s => thenQ (fun s => Q .normal s) (fun _ _ => False) e s) ?_).mono ?_
  · exact h (Q .normal) fun s hs => hs
  · intro e s hs
    cases e with
    | normal => exact hs
    | _ => exact hs.elim
theorem AWp.cleanOf (ks kb : List Nat) {c : Code} (h : AWp C c (St.of (seeS ks kb st ks) (seeB ks kb st kb)) Q) : AWp C c st Q := by
  refine AWp.clean ks kb ?_
  rw [St.clean_eq]
  exact h
end
attribute [simp] St.park St.claim
end Go.AM
namespace Go.AM
open Go.Proofs
theorem leK_not (a b : ByteArray) : leK a b = !ltK b a := by
  rw [Bool.eq_iff_iff]
  simp only [leK, Bool.or_eq_true, Bool.not_eq_true']
  constructor
  · rintro (h | h)
    · exact ((ltK_iff _ _).1 h).asymm
    · rw [Bool.eq_false_iff, ne_eq, ltK_iff]
      intro h2
      rw [eqK_iff] at h
      unfold KL at h2
      rw [h] at h2
      exact List.lt_irrefl _ h2
  · intro h
    rcases key_tri a b with h2 | h2 | h2
    · exact .inl ((ltK_iff _ _).2 h2)
    · exact .inr h2
    · rw [(ltK_iff _ _).2 h2] at h; cases h

theorem c_awset_rightKey (k : ByteArray) : Pure Try.prog 61 [.s k] (.b (keyOk k)) := by
  refine proc_of (cx Try.prog 10 [0, 2] [2]) 9 [.tmp 2] Try.func61 rfl rfl rfl rfl rfl rfl (Nat.le_refl _) rfl ?_
  refine AWp.go [0] [] fun K hK => ?_
  simp
  first | refine hK _ _ ?_ | refine ⟨by omega, hK _ _ ?_⟩ | refine ⟨by omega, by omega, hK _ _ ?_⟩
  clear hK K
  refine AWp.step [2] [] [(2, .b (keyOk k))] [] ?_ ?_
  · by_cases h1 : k.toList = [] <;> by_cases h2 : (k.size : Int) ≤ 32 <;> simp [h1, h2, keyOk, eqK]
  refine AWp.ret ?_
  simp

set_option maxRecDepth 8000 in
set_option maxHeartbeats 1000000 in
theorem c_awset_rows (l : List Dot) (hlen : l.length ≤ 1000000) : Pure Try.prog 65 [.sl .fro 2 (dotsAV l)] (.b (rowsB l)) := by
  refine proc_of (cx Try.prog 30 [0, 2, 3, 4, 5, 6, 7, 8, 28] [2]) 29 [.tmp 2] Try.func65 rfl rfl rfl rfl rfl rfl (Nat.le_refl _) rfl ?_
  refine AWp.go [0] [] fun K hK => ?_
  simp
  first | refine hK _ _ ?_ | refine ⟨by omega, hK _ _ ?_⟩ | refine ⟨by omega, by omega, hK _ _ ?_⟩
  clear hK K
  refine AWp.seq ?_
  refine AWp.go [0, 5, 6, 7] [] fun K hK => ?_
  simp
  first | refine hK _ _ ?_ | refine ⟨by omega, hK _ _ ?_⟩ | refine ⟨by omega, by omega, hK _ _ ?_⟩
  clear hK K
  refine AWp.block (AWp.while (fun i : Nat => [(0, .sl .fro 2 (dotsAV l)), (5, .sl .fro 2 (dotsAV l)), (6, .i .i64 l.length), (7, .i .i64 i)]) (fun i => []) (fun i => i ≤ l.length ∧ ∀ k, k < i → rowOk l k = true) (fun i => l.length - i) [0, 5, 6, 7] [] 0 (by simp) (by simp) ?_)
  rintro i ⟨hi, hall⟩
  refine AWp.go [0, 5, 6, 7, 8] [] fun K hK => ?_
  simp
  first | refine hK _ _ ?_ | refine ⟨by omega, hK _ _ ?_⟩ | refine ⟨by omega, by omega, hK _ _ ?_⟩
  clear hK K
  refine AWp.seq ?_
  by_cases h : i < l.length
  · refine AWp.cond (t := true) (by first | (simp [h]; done) | (simp [h]; omega)) (fun _ => ?_) (by simp)
    refine AWp.skip ?_
    show AWp _ _ _ _
    refine AWp.seq ?_
    refine AWp.block ?_
    refine AWp.go [0, 3, 4, 5, 6, 7] [4] fun K hK => ?_
    simp [h]
    first | refine hK _ _ ?_ | refine ⟨by omega, hK _ _ ?_⟩ | refine ⟨by omega, by omega, hK _ _ ?_⟩
    clear hK K
    refine AWp.stepD 17 (fun k => if k = 1 then .b (mayD l[i]) else if k = 13 then .b (ltD (l.getD (i - 1) (0, 0)) l[i]) else .any) [0, 5, 6, 7, 28] [] [(0, .sl .fro 2 (dotsAV l)), (5, .sl .fro 2 (dotsAV l)), (6, .i .i64 l.length), (7, .i .i64 i), (28, .b (!rowOk l i))] [] mix (by kernel_rfl) ?_ ?_
    · have g1 := c_dots_May l[i]
      simp [dotC] at g1
      cases q1 : mayD l[i]
      · rw [q1] at g1
        simp [rowOk, h, q1, g1]
      rw [q1] at g1
      by_cases q3 : 0 < i
      · obtain ⟨j, rfl⟩ : ∃ j, i = j + 1 := ⟨i - 1, by omega⟩
        have hj : j < l.length := by omega
        have w2 : IntKind.i64.wrap (j : Int) = j := wrap64 (by omega) (by omega)
        have g3 := c_dots_Less l[j] l[j + 1]
        simp [dotC] at g3
        simp [rowOk, h, hj, q1, w2, g1]
        exact g3
      · simp [rowOk, h, q1, q3, g1]
    cases hp : rowOk l i
    · refine AWp.cond (t := true) (by simp) (fun _ => ?_) (by simp)
      refine AWp.go [2] [] fun K hK => ?_
      simp
      first | refine hK _ _ ?_ | refine ⟨by omega, hK _ _ ?_⟩ | refine ⟨by omega, by omega, hK _ _ ?_⟩
      clear hK K
      refine AWp.ret ?_
      simp [rowsB, range_not h hp]
    · refine AWp.cond (t := false) (by simp) (by simp) (fun _ => ?_)
      refine AWp.skip ?_
      show AWp _ _ _ _
      refine AWp.goLast [0, 5, 6, 7] [] fun K hK => ?_
      simp
      first | refine hK _ _ ?_ | refine ⟨by omega, hK _ _ ?_⟩ | refine ⟨by omega, by omega, hK _ _ ?_⟩
      clear hK K
      refine ⟨i + 1, ⟨by omega, fun k hk => ?_⟩, by omega, ?_⟩
      · by_cases hki : k = i
        · subst hki; exact hp
        · exact hall k (by omega)
      · simp
        exact wrap64 (by omega) (by omega)
  · refine AWp.cond (t := false) (by first | (simp [h]; done) | (simp [h]; omega)) (by simp) (fun _ => ?_)
    refine AWp.exit ?_
    show AWp _ _ _ _
    obtain rfl : i = l.length := by omega
    refine AWp.go [2] [] fun K hK => ?_
    simp
    first | refine hK _ _ ?_ | refine ⟨by omega, hK _ _ ?_⟩ | refine ⟨by omega, by omega, hK _ _ ?_⟩
    clear hK K
    refine AWp.ret ?_
    rw [rowsB, range_all hall]
    simp

/-- May an entry stand behind a key, in a set whose adds hold? -/
def entOkA (p : ByteArray) (e : Entry) : Bool := keyOk e.key && !leK e.key p && !decide ((e.live.length : Int) = 0) && !decide ((0 : Int) < e.dead.length) && rowsB e.live
def entAtA (s : List Entry) (i : Nat) : Bool := match s[i]? with
  | some e => entOkA (prevK s i) e
  | none => false
def setOkA (s : List Entry) : Bool := decide ((s.length : Int) ≤ 4000) && (List.range s.length).all (entAtA s)

set_option maxRecDepth 8000 in
set_option maxHeartbeats 4000000 in
theorem c_awset_Check (s : List Entry) (hs : Fine s) : Pure Try.prog 29 [.sl .fro 3 (entsAV s)] (.i .i64 (if setOkA s then 0 else 1)) := by
  have hlen := hs.1
  refine proc_of (cx Try.prog 53 [0, 2, 3, 4, 7, 8, 9, 10, 11, 51] [2]) 52 [.tmp 2] Try.func29 rfl rfl rfl rfl rfl rfl (Nat.le_refl _) rfl ?_
  refine AWp.go [0] [] fun K hK => ?_
  simp
  first | refine hK _ _ ?_ | refine ⟨by omega, hK _ _ ?_⟩ | refine ⟨by omega, by omega, hK _ _ ?_⟩
  clear hK K
  refine AWp.seq ?_
  refine AWp.go [0, 7] [] fun K hK => ?_
  simp
  first | refine hK _ _ ?_ | refine ⟨by omega, hK _ _ ?_⟩ | refine ⟨by omega, by omega, hK _ _ ?_⟩
  clear hK K
  by_cases h : (4000 : Int) < s.length
  · refine AWp.cond (t := true) (by first | (simp [h]; done) | (simp [h]; omega)) (fun _ => ?_) (by simp)
    refine AWp.go [2] [] fun K hK => ?_
    simp
    first | refine hK _ _ ?_ | refine ⟨by omega, hK _ _ ?_⟩ | refine ⟨by omega, by omega, hK _ _ ?_⟩
    clear hK K
    refine AWp.ret ?_
    simp [setOkA]
    omega
  · refine AWp.cond (t := false) (by first | (simp [h]; done) | (simp [h]; omega)) (by simp) (fun _ => ?_)
    refine AWp.skip ?_
    show AWp _ _ _ _
    refine AWp.seq ?_
    refine AWp.go [0, 8, 9, 10] [] fun K hK => ?_
    simp
    first | refine hK _ _ ?_ | refine ⟨by omega, hK _ _ ?_⟩ | refine ⟨by omega, by omega, hK _ _ ?_⟩
    clear hK K
    refine AWp.block (AWp.while (fun i : Nat => [(0, .sl .fro 3 (entsAV s)), (8, .sl .fro 3 (entsAV s)), (9, .i .i64 s.length), (10, .i .i64 i)]) (fun i => []) (fun i => i ≤ s.length ∧ ∀ k, k < i → entAtA s k = true) (fun i => s.length - i) [0, 8, 9, 10] [] 0 (by simp) (by simp) ?_)
    rintro i ⟨hi, hall⟩
    refine AWp.go [0, 8, 9, 10, 11] [] fun K hK => ?_
    simp
    first | refine hK _ _ ?_ | refine ⟨by omega, hK _ _ ?_⟩ | refine ⟨by omega, by omega, hK _ _ ?_⟩
    clear hK K
    refine AWp.seq ?_
    by_cases h2 : i < s.length
    · refine AWp.cond (t := true) (by first | (simp [h2]; done) | (simp [h2]; omega)) (fun _ => ?_) (by simp)
      refine AWp.skip ?_
      show AWp _ _ _ _
      refine AWp.seq ?_
      refine AWp.block ?_
      refine AWp.go [0, 3, 4, 8, 9, 10] [4] fun K hK => ?_
      simp [h2]
      first | refine hK _ _ ?_ | refine ⟨by omega, hK _ _ ?_⟩ | refine ⟨by omega, by omega, hK _ _ ?_⟩
      clear hK K
      refine AWp.stepD 37 (fun k => if k = 2 then .b (keyOk s[i].key) else if k = 34 then .b (rowsB s[i].live) else .any) [0, 8, 9, 10, 51] [] [(0, .sl .fro 3 (entsAV s)), (8, .sl .fro 3 (entsAV s)), (9, .i .i64 s.length), (10, .i .i64 i), (51, .b (!entOkA (prevK s i) s[i]))] [] mix (by kernel_rfl) ?_ ?_
      · have hl := hs.2 _ (List.getElem_mem h2)
        have g1 := c_awset_rightKey s[i].key
        have g2 := c_awset_rows s[i].live hl.1
        cases q1 : keyOk s[i].key
        · rw [q1] at g1
          simp [entOkA, q1, g1]
        rw [q1] at g1
        by_cases h0 : 0 < i
        · obtain ⟨j, rfl⟩ : ∃ j, i = j + 1 := ⟨i - 1, by omega⟩
          have hj : j < s.length := by omega
          have w2 : IntKind.i64.wrap (j : Int) = j := wrap64 (by omega) (by omega)
          have q3 := leK_not s[j + 1].key s[j].key
          cases q2 : ltK s[j].key s[j + 1].key
          · rw [q2] at q3
            simp [ltK] at q2
            simp at q3
            simp [entOkA, q1, q2, q3, w2, g1, prevK, hj]
          · rw [q2] at q3
            simp [ltK] at q2
            simp at q3
            by_cases q4 : s[j + 1].live = []
            · simp [entOkA, q1, q2, q3, q4, w2, g1, prevK, hj]
            by_cases q5 : 0 < s[j + 1].dead.length
            · simp [entOkA, q1, q2, q3, q4, q5, w2, g1, prevK, hj]
            cases q6 : rowsB s[j + 1].live <;> rw [q6] at g2 <;> simp [entOkA, q1, q2, q3, q4, q5, q6, w2, g1, g2, prevK, hj]
        · obtain rfl : i = 0 := by omega
          have q3 := leK_empty q1
          have e3 : prevK s 0 = ByteArray.empty := rfl
          by_cases q4 : s[0].live = []
          · simp [entOkA, q1, q4, g1]
          by_cases q5 : 0 < s[0].dead.length
          · simp [entOkA, q1, q4, q5, g1]
          cases q6 : rowsB s[0].live <;> rw [q6] at g2 <;> simp [entOkA, q1, q3, q4, q5, q6, g1, g2, e3]
      cases hp : entOkA (prevK s i) s[i]
      · refine AWp.cond (t := true) (by simp) (fun _ => ?_) (by simp)
        refine AWp.go [2] [] fun K hK => ?_
        simp
        first | refine hK _ _ ?_ | refine ⟨by omega, hK _ _ ?_⟩ | refine ⟨by omega, by omega, hK _ _ ?_⟩
        clear hK K
        refine AWp.ret ?_
        simp [setOkA, range_not (p := entAtA s) h2 (by simp [entAtA, h2, hp])]
      · refine AWp.cond (t := false) (by simp) (by simp) (fun _ => ?_)
        refine AWp.skip ?_
        show AWp _ _ _ _
        refine AWp.goLast [0, 8, 9, 10] [] fun K hK => ?_
        simp
        first | refine hK _ _ ?_ | refine ⟨by omega, hK _ _ ?_⟩ | refine ⟨by omega, by omega, hK _ _ ?_⟩
        clear hK K
        refine ⟨i + 1, ⟨by omega, fun k hk => ?_⟩, by omega, ?_⟩
        · by_cases hki : k = i
          · subst hki; simp [entAtA, h2, hp]
          · exact hall k (by omega)
        · simp
          exact wrap64 (by omega) (by omega)
    · refine AWp.cond (t := false) (by first | (simp [h2]; done) | (simp [h2]; omega)) (by simp) (fun _ => ?_)
      refine AWp.exit ?_
      show AWp _ _ _ _
      obtain rfl : i = s.length := by omega
      refine AWp.go [2] [] fun K hK => ?_
      simp
      first | refine hK _ _ ?_ | refine ⟨by omega, hK _ _ ?_⟩ | refine ⟨by omega, by omega, hK _ _ ?_⟩
      clear hK K
      refine AWp.ret ?_
      rw [setOkA, range_all hall]
      simp
      omega
end Go.AM
namespace Go.AM
open Go.Proofs

end Go.AM
namespace Go.AM
open Go.Proofs


theorem c_awset_find1 (e : Entry) (k : ByteArray) : Pure Try.prog 104 [.agg (entC e), .s k] (.i .i64 (cmpK e.key k)) := by
  refine proc_of (cx Try.prog 9 [1, 2, 4] [4]) 7 [.tmp 4] Try.func104 rfl rfl rfl rfl rfl rfl (Nat.le_refl _) rfl ?_
  refine AWp.go [1, 2] [2] fun K hK => ?_
  simp [entC]
  first | refine hK _ _ ?_ | refine ⟨by omega, hK _ _ ?_⟩ | refine ⟨by omega, by omega, hK _ _ ?_⟩
  clear hK K
  refine AWp.go [4] [] fun K hK => ?_
  simp
  refine call_pure (c_Compare e.key k) (by simp) ?_
  simp
  first | refine hK _ _ ?_ | refine ⟨by omega, hK _ _ ?_⟩ | refine ⟨by omega, by omega, hK _ _ ?_⟩
  clear hK K
  refine AWp.ret ?_
  simp

set_option maxRecDepth 8000 in
set_option maxHeartbeats 2000000 in
theorem c_BSearchA_Entry (s : List Entry) (k : ByteArray) (hs : Fine s) : Pure Try.prog 79 [.sl .fro 3 (entsAV s), .s k, .fn 104 [] []] (.tup [.i .i64 (place s k), .b (there s k)]) := by
  refine proc_of (cx Try.prog 49 [0, 1, 2, 6, 7, 8, 9, 10, 11, 17, 31] [6, 7]) 46 [.tmp 6, .tmp 7] Try.func79 rfl rfl rfl rfl rfl rfl (Nat.le_refl _) rfl ?_
  refine AWp.go [0, 1, 2] [] fun K hK => ?_
  simp
  first | refine hK _ _ ?_ | refine ⟨by omega, hK _ _ ?_⟩ | refine ⟨by omega, by omega, hK _ _ ?_⟩
  clear hK K
  refine AWp.go [0, 1, 2, 8] [] fun K hK => ?_
  simp
  first | refine hK _ _ ?_ | refine ⟨by omega, hK _ _ ?_⟩ | refine ⟨by omega, by omega, hK _ _ ?_⟩
  clear hK K
  refine AWp.go [0, 1, 2, 8, 9, 10] [] fun K hK => ?_
  simp
  first | refine hK _ _ ?_ | refine ⟨by omega, hK _ _ ?_⟩ | refine ⟨by omega, by omega, hK _ _ ?_⟩
  clear hK K
  refine AWp.seq ?_
  refine AWp.block (AWp.while (fun p : Nat × Nat => [(0, .sl .fro 3 (entsAV s)), (1, .s k), (2, .fn 104 [] []), (8, .i .i64 s.length), (9, .i .i64 p.1), (10, .i .i64 p.2)]) (fun p => []) (fun p => p.1 ≤ p.2 ∧ p.2 ≤ s.length ∧ bsF (less s k) p.1 p.2 = place s k) (fun p => p.2 - p.1) [0, 1, 2, 8, 9, 10] [] (0, s.length) (by exact ⟨Nat.zero_le _, Nat.le_refl _, rfl⟩) (by simp) ?_)
  rintro ⟨lo, hi⟩ ⟨h1, h2, h3⟩
  have hlen := hs.1
  refine AWp.seq ?_
  refine AWp.go [0, 1, 2, 8, 9, 10, 17] [] fun K hK => ?_
  simp
  first | refine hK _ _ ?_ | refine ⟨by omega, hK _ _ ?_⟩ | refine ⟨by omega, by omega, hK _ _ ?_⟩
  clear hK K
  by_cases h : lo < hi
  · refine AWp.cond (t := true) (by first | (simp [h]; done) | (simp [h]; omega)) (fun _ => ?_) (by simp)
    refine AWp.skip ?_
    show AWp _ _ _ _
    refine AWp.block ?_
    obtain ⟨m, hm⟩ : ∃ m : Nat, m = (lo + hi) / 2 := ⟨_, rfl⟩
    have hml : m < s.length := by omega
    refine AWp.step [0, 1, 2, 8, 9, 10, 11] [] [(0, .sl .fro 3 (entsAV s)), (1, .s k), (2, .fn 104 [] []), (8, .i .i64 s.length), (9, .i .i64 lo), (10, .i .i64 hi), (11, .i .i64 m)] [] ?_ ?_
    · have w1 : IntKind.i64.wrap ((lo : Int) + hi) = (lo : Int) + hi := wrap64 (by omega) (by omega)
      simp [w1]
      exact mid_wrap (by omega) hm
    refine AWp.go [0, 1, 2, 8, 9, 10, 11, 31] [] fun K hK => ?_
    simp [hml]
    refine call_pure (c_awset_find1 s[m] k) (by simp [entC]) ?_
    simp
    first | refine hK _ _ ?_ | refine ⟨by omega, hK _ _ ?_⟩ | refine ⟨by omega, by omega, hK _ _ ?_⟩
    clear hK K
    by_cases hp : cmpK s[m].key k < 0
    · refine AWp.cond (t := true) (by first | (simp [hp]; done) | (simp [hp]; omega)) (fun _ => ?_) (by simp)
      refine AWp.goLast [0, 1, 2, 8, 9, 10] [] fun K hK => ?_
      simp (disch := omega) [wrap64]
      first | refine hK _ _ ?_ | refine ⟨by omega, hK _ _ ?_⟩ | refine ⟨by omega, by omega, hK _ _ ?_⟩
      clear hK K
      refine ⟨(m + 1, hi), ⟨by simp; omega, h2, ?_⟩, by simp; omega, ?_⟩
      · rw [bsF, if_pos h, ← hm, if_pos (by simp [less, hml, hp])] at h3
        exact h3
      · simp
    · refine AWp.cond (t := false) (by first | (simp [hp]; done) | (simp [hp]; omega)) (by simp) (fun _ => ?_)
      refine AWp.goLast [0, 1, 2, 8, 9, 10] [] fun K hK => ?_
      simp
      first | refine hK _ _ ?_ | refine ⟨by omega, hK _ _ ?_⟩ | refine ⟨by omega, by omega, hK _ _ ?_⟩
      clear hK K
      refine ⟨(lo, m), ⟨by simp; omega, by simp; omega, ?_⟩, by simp; omega, ?_⟩
      · rw [bsF, if_pos h, ← hm, if_neg (by simp [less, hml, hp])] at h3
        exact h3
      · simp
  · refine AWp.cond (t := false) (by first | (simp [h]; done) | (simp [h]; omega)) (by simp) (fun _ => ?_)
    refine AWp.exit ?_
    show AWp _ _ _ _
    obtain rfl : lo = hi := by omega
    rw [bsF_done] at h3
    refine AWp.step [6, 7] [] [(6, .i .i64 (place s k)), (7, .b (there s k))] [] ?_ ?_
    · by_cases hq : lo < s.length
      · simp [hq, there, ← h3]
        refine call_pure (c_awset_find1 s[lo] k) (by simp [entC]) ?_
        simp
      · simp [hq, there, ← h3]
    refine AWp.ret ?_
    simp

set_option maxRecDepth 8000 in
theorem c_awset_find (s : List Entry) (k : ByteArray) (hs : Fine s) : Pure Try.prog 70 [.sl .fro 3 (entsAV s), .s k] (.tup [.i .i64 (place s k), .b (there s k)]) := by
  refine proc_of (cx Try.prog 11 [0, 1, 4, 5] [4, 5]) 9 [.tmp 4, .tmp 5] Try.func70 rfl rfl rfl rfl rfl rfl (Nat.le_refl _) rfl ?_
  refine AWp.go [0, 1] [] fun K hK => ?_
  simp
  first | refine hK _ _ ?_ | refine ⟨by omega, hK _ _ ?_⟩ | refine ⟨by omega, by omega, hK _ _ ?_⟩
  clear hK K
  refine AWp.go [4, 5] [] fun K hK => ?_
  simp
  refine call_pure (c_BSearchA_Entry s k hs) (by simp) ?_
  simp
  first | refine hK _ _ ?_ | refine ⟨by omega, hK _ _ ?_⟩ | refine ⟨by omega, by omega, hK _ _ ?_⟩
  clear hK K
  refine AWp.ret ?_
  simp

theorem c_awset_past (c : List Int) (d : Dot) (hc : c.length ≤ 1000000) : Pure Try.prog 98 [.sl .fro 1 (intsAV c), .agg (dotC d)] (.b (decide (d.2 ≤ getC c d.1))) := by
  refine proc_of (cx Try.prog 12 [0, 3, 4] [4]) 10 [.tmp 4] Try.func98 rfl rfl rfl rfl rfl rfl (Nat.le_refl _) rfl ?_
  refine AWp.go [0, 3] [3] fun K hK => ?_
  simp [dotC]
  first | refine hK _ _ ?_ | refine ⟨by omega, hK _ _ ?_⟩ | refine ⟨by omega, by omega, hK _ _ ?_⟩
  clear hK K
  have g1 := c102 c d.1 (by omega)
  refine AWp.stepD 7 (fun k => .i .i64 (getC c d.1)) [4] [] [(4, .b (decide (d.2 ≤ getC c d.1)))] [] mix (by kernel_rfl) ?_ ?_
  · simp [g1]
  refine AWp.ret ?_
  simp

set_option maxRecDepth 8000 in
theorem c_awset_turn1 (c : List Int) (hc : c.length ≤ 1000000) (d : Dot) : Proc Try.prog 1 97 [.agg (dotC d), .ptr 0 0] [(0, [.sl .fro 1 (intsAV c)])] (.b (decide (d.2 ≤ getC c d.1))) [(0, [.sl .fro 1 (intsAV c)])] := by
  refine proc_of (cxb Try.prog 7 1 [1, 2, 3] [] [3]) 5 [.tmp 3] Try.func97 rfl rfl rfl rfl rfl rfl (Nat.le_refl _) rfl ?_
  refine AWp.go [1, 2] [0, 3] fun K hK => ?_
  simp [dotC]
  first | refine hK _ _ ?_ | refine ⟨by omega, hK _ _ ?_⟩ | refine ⟨by omega, by omega, hK _ _ ?_⟩
  clear hK K
  refine AWp.go [3] [0] fun K hK => ?_
  simp
  refine call_pure (c_awset_past c d hc) (by simp [dotC]) ?_
  simp
  first | refine hK _ _ ?_ | refine ⟨by omega, hK _ _ ?_⟩ | refine ⟨by omega, by omega, hK _ _ ?_⟩
  clear hK K
  refine AWp.ret ?_
  simp

/-- A row of dots, or where it lies. -/
inductive LV where
  | here (l : List Dot)
  | at (b n cap : Nat)
def LV.c : LV → AV
  | .here l => .sl .fro 2 (dotsAV l)
  | .at b n cap => .ab b 0 n cap
structure EntL where
  key : ByteArray
  live : LV
  dead : List Dot
def entL (e : EntL) : List AV := [.s e.key, e.live.c, .sl .fro 2 (dotsAV e.dead)]
def hereL (e : Entry) : EntL := ⟨e.key, .here e.live, e.dead⟩
theorem LV.calm (x : LV) : x.c.calm = true := by cases x <;> rfl
theorem entL_ok : EncOk entL 3 := ⟨fun _ => rfl, fun x c hc => by simp [entL] at hc; rcases hc with rfl | rfl | rfl; rfl; exact x.live.calm; rfl⟩
theorem entL_here (e : Entry) : entL (hereL e) = entC e := rfl
/-- A set one of whose rows lies elsewhere. -/
def markL (s : List Entry) (j b cap : Nat) : List EntL := (s.map hereL).set j ⟨(s.getD j (emptyE ByteArray.empty)).key, .at b (s.getD j (emptyE ByteArray.empty)).live.length cap, (s.getD j (emptyE ByteArray.empty)).dead⟩
@[simp] theorem markL_len (s : List Entry) (j b cap : Nat) : (markL s j b cap).length = s.length := by simp [markL]
theorem markL_at {s : List Entry} {j : Nat} (b cap : Nat) (h : j < s.length) : (markL s j b cap)[j]'(by simpa using h) = ⟨s[j].key, .at b s[j].live.length cap, s[j].dead⟩ := by simp [markL, h]
theorem markL_ne {s : List Entry} {j i : Nat} (b cap : Nat) (h : i < s.length) (hne : i ≠ j) : (markL s j b cap)[i]'(by simpa using h) = hereL s[i] := by
  unfold markL
  rw [List.getElem_set_ne (by omega)]
  simp
theorem markL_take (s : List Entry) (j b cap : Nat) : (markL s j b cap).take j = (s.map hereL).take j := by
  unfold markL; rw [List.take_set_of_le (Nat.le_refl _)]
def rowsE (l : List EntL) : List (List AV) := l.map entL
@[simp] theorem rowsE_len (l : List EntL) : (rowsE l).length = l.length := by simp [rowsE]
theorem rowsE_here (l : List Entry) : rowsE (l.map hereL) = entsAV l := by simp [rowsE, entsAV, Function.comp_def, entL_here]
def parkC (s : List Entry) (j cap : Nat) : List AV := (dotsAV (s.getD j (emptyE ByteArray.empty)).live).flatten ++ List.replicate ((cap - (s.getD j (emptyE ByteArray.empty)).live.length) * 2) AV.any
theorem dots_flat_calm (l : List Dot) : Calm (dotsAV l).flatten := fun c hc => by
  obtain ⟨y, hy, hc⟩ := List.mem_flatten.1 hc
  obtain ⟨x, _, rfl⟩ := List.mem_map.1 hy
  exact dotC_ok.calm x c hc
theorem parkC_calm (s : List Entry) (j cap : Nat) : Calm (parkC s j cap) := (dots_flat_calm _).append (Calm.replicate _ rfl)
def outL (s : List Entry) (j i : Nat) : Option (Nat × Nat) → List (List AV)
  | none => entsAV (s.take i)
  | some p => rowsE ((markL s j p.1 p.2).take i)
theorem three {i j : Nat} {o : Option (Nat × Nat)} (h : o = none ↔ i ≤ j) : (o = none ∧ i < j) ∨ (o = none ∧ i = j) ∨ ∃ b cap, o = some (b, cap) ∧ j < i := by
  rcases o with _ | ⟨b, cap⟩
  · have := h.1 rfl
    rcases Nat.lt_or_ge i j with h1 | h1
    · exact .inl ⟨rfl, h1⟩
    · exact .inr (.inl ⟨rfl, by omega⟩)
  · refine .inr (.inr ⟨b, cap, rfl, ?_⟩)
    apply Classical.byContradiction
    intro h1
    have := h.2 (by omega)
    cases this

theorem ents_take (s : List Entry) (i : Nat) (h : i < s.length) : entsAV (s.take (i + 1)) = entsAV (s.take i) ++ [[.s s[i].key, .sl .fro 2 (dotsAV s[i].live), .sl .fro 2 (dotsAV s[i].dead)]] := by
  rw [List.take_succ_eq_append_getElem h, entsAV_snoc]
theorem rows_take (l : List EntL) (i : Nat) (h : i < l.length) : rowsE (l.take (i + 1)) = rowsE (l.take i) ++ [[.s l[i].key, l[i].live.c, .sl .fro 2 (dotsAV l[i].dead)]] := by
  rw [List.take_succ_eq_append_getElem h]
  unfold rowsE
  rw [List.map_append]
  rfl

set_option maxRecDepth 8000 in
set_option maxHeartbeats 4000000 in
theorem c_awset_own (s : List Entry) (j : Nat) (hs : Fine s) (hj : j < s.length) (hne : s[j].live ≠ []) : ProcE (ι := {q : Nat × Nat // s[j].live.length ≤ q.2}) Try.prog 0 96 [.sl .fro 3 (entsAV s)] [] (fun q => .sl .own 3 (rowsE (markL s j q.1.1 q.1.2))) (fun q => [(1000000 + q.1.1, parkC s j q.1.2)]) := by
  have hlen := hs.1
  refine procE_of (cx Try.prog 22 [0, 2, 3, 5, 6, 7, 8, 9] [2]) 21 [.tmp 2] Try.func96 rfl rfl rfl rfl rfl rfl (Nat.le_refl _) rfl ?_
  refine AWp.go [0] [] fun K hK => ?_
  simp
  first | refine hK _ _ ?_ | refine ⟨by omega, hK _ _ ?_⟩ | refine ⟨by omega, by omega, hK _ _ ?_⟩
  clear hK K
  refine AWp.go [0, 3] [] fun K hK => ?_
  simp
  first | refine hK _ _ ?_ | refine ⟨by omega, hK _ _ ?_⟩ | refine ⟨by omega, by omega, hK _ _ ?_⟩
  clear hK K
  refine AWp.seq ?_
  refine AWp.go [3, 6, 7, 8] [] fun K hK => ?_
  simp
  first | refine hK _ _ ?_ | refine ⟨by omega, hK _ _ ?_⟩ | refine ⟨by omega, by omega, hK _ _ ?_⟩
  clear hK K
  refine AWp.block (AWp.whileK (fun q : Nat × Option (Nat × Nat) => [(3, .sl .own 3 (outL s j q.1 q.2)), (6, .sl .fro 3 (entsAV s)), (7, .i .i64 s.length), (8, .i .i64 q.1)]) (fun q => (match q.2 with | none => [] | some p => [(1000000 + p.1, parkC s j p.2)])) (fun q => q.1 ≤ s.length ∧ (q.2 = none ↔ q.1 ≤ j) ∧ ∀ p, q.2 = some p → s[j].live.length ≤ p.2) (fun q => s.length - q.1) [3, 6, 7, 8] (fun q => (match q.2 with | none => [] | some p => [1000000 + p.1])) (0, none) (by simp) (by simp [outL, entsAV]) ?_)
  rintro ⟨i, o⟩ ⟨hi, ho, hcp⟩
  dsimp only at hi ho hcp ⊢
  rcases three ho with ⟨rfl, hij⟩ | ⟨rfl, rfl⟩ | ⟨b, cap, rfl, hij⟩
  · have h2 : i < s.length := by omega
    simp only [outL]
    refine AWp.go [3, 6, 7, 8, 9] [] fun K hK => ?_
    simp
    first | refine hK _ _ ?_ | refine ⟨by omega, hK _ _ ?_⟩ | refine ⟨by omega, by omega, hK _ _ ?_⟩
    clear hK K
    refine AWp.seq ?_
    refine AWp.cond (t := true) (by first | (simp; done) | (simp; omega)) (fun _ => ?_) (by simp)
    refine AWp.skip ?_
    show AWp _ _ _ _
    refine AWp.seq ?_
    refine AWp.block ?_
    refine AWp.go [3, 5, 6, 7, 8] [5] fun K hK => ?_
    simp [h2]
    first | refine hK _ _ ?_ | refine ⟨by omega, hK _ _ ?_⟩ | refine ⟨by omega, by omega, hK _ _ ?_⟩
    clear hK K
    have hl := hs.2 _ (List.getElem_mem h2)
    refine AWp.go [3, 5, 6, 7, 8] [5] fun K hK => ?_
    simp
    refine call_pure (c_Clone_Dot (dotsAV s[i].live) (by simp; omega)) (by simp) ?_
    simp
    first | refine hK _ _ ?_ | refine ⟨by omega, hK _ _ ?_⟩ | refine ⟨by omega, by omega, hK _ _ ?_⟩
    clear hK K
    refine AWp.last [3, 6, 7, 8] [] [(3, .sl .own 3 (entsAV (s.take (i + 1)))), (6, .sl .fro 3 (entsAV s)), (7, .i .i64 s.length), (8, .i .i64 i)] [] ?_ ?_
    · rw [ents_take s i h2]
      simp
      omega
    show AWp _ _ _ _
    refine AWp.goLast [3, 6, 7, 8] [] fun K hK => ?_
    simp
    first | refine hK _ _ ?_ | refine ⟨by omega, hK _ _ ?_⟩ | refine ⟨by omega, by omega, hK _ _ ?_⟩
    clear hK K
    refine ⟨(i + 1, none), ⟨by dsimp only; omega, by simp; omega, by simp⟩, by dsimp only; omega, ?_⟩
    simp
    exact wrap64 (by omega) (by omega)
  · simp only [outL]
    refine AWp.go [3, 6, 7, 8, 9] [] fun K hK => ?_
    simp
    first | refine hK _ _ ?_ | refine ⟨by omega, hK _ _ ?_⟩ | refine ⟨by omega, by omega, hK _ _ ?_⟩
    clear hK K
    refine AWp.seq ?_
    refine AWp.cond (t := true) (by first | (simp; done) | (simp; omega)) (fun _ => ?_) (by simp)
    refine AWp.skip ?_
    show AWp _ _ _ _
    refine AWp.seq ?_
    refine AWp.block ?_
    refine AWp.go [3, 5, 6, 7, 8] [5] fun K hK => ?_
    simp [hj]
    first | refine hK _ _ ?_ | refine ⟨by omega, hK _ _ ?_⟩ | refine ⟨by omega, by omega, hK _ _ ?_⟩
    clear hK K
    have hl := hs.2 _ (List.getElem_mem hj)
    refine AWp.goX fun K hK => ?_
    refine SOps.cut 3 rfl fun K' hK' => ?_
    simp
    refine call_pure (c_Clone_Dot (dotsAV s[i].live) (by simp; omega)) (by simp) ?_
    simp
    refine hK' _ _ ?_
    clear hK'
    refine SOps.park 14 rfl (by simp) (by simpa [dotsAV] using hne) (fun A hA => ?_) (by simp) fun b cap hcap => ?_
    · have h5 : A ≠ 5 := by omega
      simp [h5]
    have e0 : (dotsAV s[i].live).flatten ++ List.replicate ((cap - s[i].live.length) * 2) AV.any = parkC s i cap := by simp [parkC, hj]
    have hpc := parkC_calm s i cap
    have hA : ∀ n, n < 1000000 → (n = 1000000 + b) = False := fun n hn => by simp; omega
    have hB : ∀ n, n < 1000000 → (1000000 + b = n) = False := fun n hn => by simp; omega
    simp [e0, hA]
    refine SOps.cut 2 rfl fun K2 hK2 => ?_
    simp [hpc, hA]
    refine hK2 _ _ (SOps.nil ?_)
    refine hK [3, 5, 6, 7, 8] [5, 1000000 + b] _ ?_
    clear hK hK2 K2 K
    simp [hpc, hB, -Prod.exists]
    refine AWp.last [3, 6, 7, 8] [1000000 + b] [(3, .sl .own 3 (rowsE ((markL s i b cap).take (i + 1)))), (6, .sl .fro 3 (entsAV s)), (7, .i .i64 s.length), (8, .i .i64 i)] [(1000000 + b, parkC s i cap)] ?_ ?_
    · rw [rows_take (markL s i b cap) i (by simpa using hj), markL_take, ← List.map_take, rowsE_here, markL_at b cap hj]
      simp [hpc, hB, LV.c]
      omega
    show AWp _ _ _ _
    refine AWp.goLast [3, 6, 7, 8] [1000000 + b] fun K hK => ?_
    simp [hpc]
    first | refine hK _ _ ?_ | refine ⟨by omega, hK _ _ ?_⟩ | refine ⟨by omega, by omega, hK _ _ ?_⟩
    clear hK K
    refine ⟨(i + 1, some (b, cap)), ⟨by dsimp only; omega, by simp, by simp; simpa using hcap⟩, by dsimp only; omega, ?_⟩
    simp [hpc]
    exact wrap64 (by omega) (by omega)
  · have hcp3 := hcp _ rfl
    dsimp only at hcp3
    simp only [outL]
    have hpc := parkC_calm s j cap
    have hA : ∀ n, n < 1000000 → (n = 1000000 + b) = False := fun n hn => by simp; omega
    have hB : ∀ n, n < 1000000 → (1000000 + b = n) = False := fun n hn => by simp; omega
    refine AWp.go [3, 6, 7, 8, 9] [1000000 + b] fun K hK => ?_
    simp [hpc]
    first | refine hK _ _ ?_ | refine ⟨by omega, hK _ _ ?_⟩ | refine ⟨by omega, by omega, hK _ _ ?_⟩
    clear hK K
    refine AWp.seq ?_
    by_cases h2 : i < s.length
    · refine AWp.cond (t := true) (by first | (simp [h2]; done) | (simp [h2]; omega)) (fun _ => ?_) (by simp)
      refine AWp.skip ?_
      show AWp _ _ _ _
      refine AWp.seq ?_
      refine AWp.block ?_
      refine AWp.go [3, 5, 6, 7, 8] [5, 1000000 + b] fun K hK => ?_
      simp [h2, hpc, hB]
      first | refine hK _ _ ?_ | refine ⟨by omega, hK _ _ ?_⟩ | refine ⟨by omega, by omega, hK _ _ ?_⟩
      clear hK K
      have hl := hs.2 _ (List.getElem_mem h2)
      refine AWp.go [3, 5, 6, 7, 8] [5, 1000000 + b] fun K hK => ?_
      simp
      refine call_pure (c_Clone_Dot (dotsAV s[i].live) (by simp; omega)) (by simp) ?_
      simp [hpc, hA, hB]
      first | refine hK _ _ ?_ | refine ⟨by omega, hK _ _ ?_⟩ | refine ⟨by omega, by omega, hK _ _ ?_⟩
      clear hK K
      refine AWp.last [3, 6, 7, 8] [1000000 + b] [(3, .sl .own 3 (rowsE ((markL s j b cap).take (i + 1)))), (6, .sl .fro 3 (entsAV s)), (7, .i .i64 s.length), (8, .i .i64 i)] [(1000000 + b, parkC s j cap)] ?_ ?_
      · rw [rows_take (markL s j b cap) i (by simpa using h2), markL_ne b cap h2 (by omega)]
        simp [hpc, hB, LV.c, hereL]
        omega
      show AWp _ _ _ _
      refine AWp.goLast [3, 6, 7, 8] [1000000 + b] fun K hK => ?_
      simp [hpc]
      first | refine hK _ _ ?_ | refine ⟨by omega, hK _ _ ?_⟩ | refine ⟨by omega, by omega, hK _ _ ?_⟩
      clear hK K
      refine ⟨(i + 1, some (b, cap)), ⟨by dsimp only; omega, by simp; omega, by simp; exact hcp3⟩, by dsimp only; omega, ?_⟩
      simp [hpc]
      exact wrap64 (by omega) (by omega)
    · refine AWp.cond (t := false) (by first | (simp [h2]; done) | (simp [h2]; omega)) (by simp) (fun _ => ?_)
      refine AWp.exit ?_
      show AWp _ _ _ _
      have hpc := parkC_calm s j cap
      have e3 : (markL s j b cap).take i = markL s j b cap := List.take_of_length_le (by simp; omega)
      rw [e3]
      refine AWp.go [2] [1000000 + b] fun K hK => ?_
      simp [hpc]
      first | refine hK _ _ ?_ | refine ⟨by omega, hK _ _ ?_⟩ | refine ⟨by omega, by omega, hK _ _ ?_⟩
      clear hK K
      refine AWp.ret ?_
      refine ⟨⟨(b, cap), hcp3⟩, ?_⟩
      simp [hpc]
      simpa using hpc.still
end Go.AM
namespace Go.AM
open Go.Proofs

set_option maxRecDepth 8000 in
set_option maxHeartbeats 2000000 in
theorem c_DeleteB_Entry (R : List (List AV)) (pad : List AV) (i j cap : Nat) (hR : Rows 3 R) (hij : i < j) (hj : j ≤ R.length) (hpad : Calm pad) (hc : R.length ≤ cap) (hn : R.length ≤ 1000000) (hp : pad.length = (cap - R.length) * 3) : Proc Try.prog 1 99 [.bs 0 0 R.length cap, .i .i64 i, .i .i64 j] [(0, boxF R pad)] (.bs 0 0 (R.length - (j - i)) cap) [(0, boxF (R.take i ++ R.drop j) (zerosL [.s ByteArray.empty, .sl .fro 2 [], .sl .fro 2 []] (j - i) ++ pad))] := by
  have hC : Calm (boxF R pad) := boxF_calm hR hpad
  have hL := boxF_len hR pad
  have hin : i ≤ R.length := by omega
  refine proc_of (cxb Try.prog 33 1 [0, 1, 2, 6, 7, 16] [] [6]) 30 [.tmp 6] Try.func99 rfl rfl rfl rfl rfl rfl (Nat.le_refl _) rfl ?_
  refine AWp.go [0, 1, 2] [0] fun K hK => ?_
  simp [hC]
  first | refine hK _ _ ?_ | refine ⟨by omega, hK _ _ ?_⟩ | refine ⟨by omega, by omega, hK _ _ ?_⟩
  clear hK K
  refine AWp.go [0, 1, 2] [0] fun K hK => ?_
  simp [hC]
  refine ⟨by omega, hK _ _ ?_⟩
  clear hK K
  refine AWp.seq ?_
  refine AWp.go [0, 1, 2, 16] [0] fun K hK => ?_
  simp [hC]
  first | refine hK _ _ ?_ | refine ⟨by omega, hK _ _ ?_⟩ | refine ⟨by omega, by omega, hK _ _ ?_⟩
  clear hK K
  refine AWp.cond (t := false) (by first | (simp; done) | (simp; omega)) (by simp) (fun _ => ?_)
  refine AWp.skip ?_
  show AWp _ _ _ _
  refine AWp.go [0, 1, 2, 7] [0] fun K hK => ?_
  simp [hC]
  first | refine hK _ _ ?_ | refine ⟨by omega, hK _ _ ?_⟩ | refine ⟨by omega, by omega, hK _ _ ?_⟩
  clear hK K
  have hch := boxF_chunk_all hR pad j hj
  have hda := boxF_dat hR pad j (R.length - j) (by omega)
  have hpt := boxF_put (Y := R.drop j) hR pad i (by simp; omega)
  obtain ⟨R3, hR3⟩ : ∃ R3, R3 = R.take i ++ R.drop j ++ R.drop (i + (R.drop j).length) := ⟨_, rfl⟩
  rw [← hR3] at hpt
  have hsum := sum_len (hR.drop j)
  simp [-List.length_flatten] at hpt hsum
  have hr3 : Rows 3 R3 := by rw [hR3]; exact ((hR.take _).append (hR.drop _)).append (hR.drop _)
  have hR3l : R3.length = R.length := by rw [hR3]; simp; omega
  have hC3 : Calm (boxF R3 pad) := boxF_calm hr3 hpad
  have hL3 := boxF_len hr3 pad
  rw [hR3l] at hL3
  have hF : ∀ n, AV.freeL (List.take n (List.drop (i * 3) (boxF R pad))) = true := fun n => ((hC.drop _).take n).freeL
  have hle : i * 3 + (R.length - j) * 3 ≤ R.length * 3 + pad.length := by omega
  have hle2 : j * 3 + (R.length - j) * 3 ≤ R.length * 3 + pad.length := by omega
  have hle3 : i + (R.length - j) ≤ cap := by omega
  obtain ⟨m, hm⟩ : ∃ m, m = i + (R.length - j) := ⟨_, rfl⟩
  have hR3t : R3.take m = R.take i ++ R.drop j := by
    rw [hR3, List.take_append_of_le_length (by simp; omega), List.take_of_length_le (by simp; omega)]
  have hch2 : chunk 3 (R.length - j) (List.drop (if cap = j then 0 else j * 3) (boxF R pad)) = R.drop j := by
    split
    · have : R.length - j = 0 := by omega
      have h2 : R.drop j = [] := List.drop_eq_nil_of_le (by omega)
      rw [this, h2]; rfl
    · exact hch
  have hda2 : allDat (List.take ((R.length - j) * 3) (List.drop (if cap = j then 0 else j * 3) (boxF R pad))) = true := by
    split
    · have : R.length - j = 0 := by omega
      rw [this]; simp [allDat]
    · exact hda
  have hle4 : (if cap = j then 0 else j * 3) + (R.length - j) * 3 ≤ R.length * 3 + pad.length := by split <;> omega
  have hnm : ¬ cap = m := by omega
  obtain ⟨Z, hZ⟩ : ∃ Z : List AV, Z = zerosL [.s ByteArray.empty, .sl .fro 2 [], .sl .fro 2 []] (R.length - m) := ⟨_, rfl⟩
  have hZl : Z.length = (R.length - m) * 3 := by rw [hZ, zerosL_length]; rfl
  have hcz : Calm Z := by rw [hZ]; exact Calm.zeros (fun c hc => by simp at hc; rcases hc with rfl | rfl | rfl <;> rfl) _
  have hcl := boxF_clear hr3 pad Z m (by omega) (by rw [hZl, hR3l])
  rw [hR3t, hZl] at hcl
  have hrT : Rows 3 (R.take i ++ R.drop j) := (hR.take _).append (hR.drop _)
  have hCT : Calm (boxF (R.take i ++ R.drop j) (Z ++ pad)) := boxF_calm hrT (hcz.append hpad)
  have hF2 : ∀ n, AV.freeL (List.take n (List.drop (m * 3) (boxF R3 pad))) = true := fun n => ((hC3.drop _).take n).freeL
  have hle5 : m * 3 + (R.length - m) * 3 ≤ R.length * 3 + pad.length := by omega
  have hmj : R.length - (j - i) = m := by omega
  have hmj2 : j - i = R.length - m := by omega
  rw [hmj, hmj2, ← hZ]
  refine AWp.stepT (.take 0 (.take 1 (.take 2 (.take 3 (.take 4 (.take 5 (.alt 6 (.take 7 .fin) .stop))))))) [0, 7] [0] [(0, .bs 0 0 m cap), (7, .i .i64 R.length)] [(0, boxF R3 pad)] mix (by kernel_rfl) ?_ ?_
  · refine atree.tk fun K1 h1 => ?_
    simp
    first | refine h1 _ _ ?_ | refine ⟨by omega, h1 _ _ ?_⟩ | refine ⟨by omega, by omega, h1 _ _ ?_⟩
    clear h1 K1
    refine atree.tk fun K1 h1 => ?_
    simp
    first | refine h1 _ _ ?_ | refine ⟨by omega, h1 _ _ ?_⟩ | refine ⟨by omega, by omega, h1 _ _ ?_⟩
    clear h1 K1
    refine atree.tk fun K1 h1 => ?_
    simp
    first | refine h1 _ _ ?_ | refine ⟨by omega, h1 _ _ ?_⟩ | refine ⟨by omega, by omega, h1 _ _ ?_⟩
    clear h1 K1
    refine atree.tk fun K1 h1 => ?_
    simp
    first | refine h1 _ _ ?_ | refine ⟨by omega, h1 _ _ ?_⟩ | refine ⟨by omega, by omega, h1 _ _ ?_⟩
    clear h1 K1
    refine atree.tk fun K1 h1 => ?_
    simp
    first | refine h1 _ _ ?_ | refine ⟨by omega, h1 _ _ ?_⟩ | refine ⟨by omega, by omega, h1 _ _ ?_⟩
    clear h1 K1
    refine atree.tk fun K1 h1 => ?_
    simp
    first | refine h1 _ _ ?_ | refine ⟨by omega, h1 _ _ ?_⟩ | refine ⟨by omega, by omega, h1 _ _ ?_⟩
    clear h1 K1
    refine atree.a1 fun K1 h1 => ?_
    simp
    refine append_room ?_
    simp [hL, hch2, hda2, hle4, hpt, hsum, hF, hle, ← hm]
    first | refine h1 _ _ ?_ | refine ⟨by omega, h1 _ _ ?_⟩ | refine ⟨by omega, by omega, h1 _ _ ?_⟩
    clear h1 K1
    refine atree.tk fun K1 h1 => ?_
    simp [hC3, hC]
    first | refine h1 _ _ ?_ | refine ⟨by omega, h1 _ _ ?_⟩ | refine ⟨by omega, by omega, h1 _ _ ?_⟩
    clear h1 K1
    simp [hC3]
  refine AWp.go [0] [0] fun K hK => ?_
  simp [hL3, hnm, ← hZ, hZl, hcl, hCT, hF2, hle5]
  first | refine hK _ _ ?_ | refine ⟨by omega, hK _ _ ?_⟩ | refine ⟨by omega, by omega, hK _ _ ?_⟩
  clear hK K
  refine AWp.go [6] [0] fun K hK => ?_
  simp [hCT]
  first | refine hK _ _ ?_ | refine ⟨by omega, hK _ _ ?_⟩ | refine ⟨by omega, by omega, hK _ _ ?_⟩
  clear hK K
  refine AWp.ret ?_
  simp [hCT]
  simpa using hCT.still
end Go.AM
namespace Go.AM
open Go.Proofs

theorem c_awset_find1b (k0 : ByteArray) (b n cap : Nat) (l : List Dot) (k : ByteArray) : Pure Try.prog 104 [.agg [.s k0, .ab b 0 n cap, .sl .fro 2 (dotsAV l)], .s k] (.i .i64 (cmpK k0 k)) := by
  refine proc_of (cx Try.prog 9 [1, 2, 4] [4]) 7 [.tmp 4] Try.func104 rfl rfl rfl rfl rfl rfl (Nat.le_refl _) rfl ?_
  refine AWp.go [1, 2] [2] fun K hK => ?_
  simp
  first | refine hK _ _ ?_ | refine ⟨by omega, hK _ _ ?_⟩ | refine ⟨by omega, by omega, hK _ _ ?_⟩
  clear hK K
  refine AWp.go [4] [] fun K hK => ?_
  simp
  refine call_pure (c_Compare k0 k) (by simp) ?_
  simp
  first | refine hK _ _ ?_ | refine ⟨by omega, hK _ _ ?_⟩ | refine ⟨by omega, by omega, hK _ _ ?_⟩
  clear hK K
  refine AWp.ret ?_
  simp
theorem c_awset_find1L (e : EntL) (k : ByteArray) : Pure Try.prog 104 [.agg (entL e), .s k] (.i .i64 (cmpK e.key k)) := by
  obtain ⟨k0, x, l⟩ := e
  cases x with
  | here y => exact c_awset_find1 ⟨k0, y, l⟩ k
  | «at» b n cap => exact c_awset_find1b k0 b n cap l k
theorem entLR_get (l : List EntL) (pad : List AV) (i : Nat) (h : i < l.length) : ((boxR entL l pad).drop (i * 3)).take 3 = [.s l[i].key, l[i].live.c, .sl .fro 2 (dotsAV l[i].dead)] := boxR_get entL_ok l pad i h

set_option maxRecDepth 8000 in
set_option maxHeartbeats 2000000 in
theorem c_BSearchA_Box (L : List EntL) (s : List Entry) (k : ByteArray) (pad : List AV) (cap : Nat) (hs : Fine s) (hpad : Calm pad) (hLl : L.length = s.length) (hLk : ∀ i (h : i < s.length), (L[i]'(by omega)).key = s[i].key) : Proc Try.prog 1 79 [.bs 0 0 s.length cap, .s k, .fn 104 [] []] [(0, boxR entL L pad)] (.tup [.i .i64 (place s k), .b (there s k)]) [(0, boxR entL L pad)] := by
  have hC : Calm (boxR entL L pad) := boxR_calm entL_ok hpad
  have hL : (boxR entL L pad).length = s.length * 3 + pad.length := by rw [← hLl]; exact boxR_len entL_ok L pad
  refine proc_of (cxb Try.prog 49 1 [0, 1, 2, 6, 7, 8, 9, 10, 11, 17, 31] [] [6, 7]) 46 [.tmp 6, .tmp 7] Try.func79 rfl rfl rfl rfl rfl rfl (Nat.le_refl _) rfl ?_
  refine AWp.go [0, 1, 2] [0] fun K hK => ?_
  simp [hC]
  first | refine hK _ _ ?_ | refine ⟨by omega, hK _ _ ?_⟩ | refine ⟨by omega, by omega, hK _ _ ?_⟩
  clear hK K
  refine AWp.go [0, 1, 2, 8] [0] fun K hK => ?_
  simp [hC]
  first | refine hK _ _ ?_ | refine ⟨by omega, hK _ _ ?_⟩ | refine ⟨by omega, by omega, hK _ _ ?_⟩
  clear hK K
  refine AWp.go [0, 1, 2, 8, 9, 10] [0] fun K hK => ?_
  simp [hC]
  first | refine hK _ _ ?_ | refine ⟨by omega, hK _ _ ?_⟩ | refine ⟨by omega, by omega, hK _ _ ?_⟩
  clear hK K
  refine AWp.seq ?_
  refine AWp.block (AWp.while (fun p : Nat × Nat => [(0, .bs 0 0 s.length cap), (1, .s k), (2, .fn 104 [] []), (8, .i .i64 s.length), (9, .i .i64 p.1), (10, .i .i64 p.2)]) (fun p => [(0, boxR entL L pad)]) (fun p => p.1 ≤ p.2 ∧ p.2 ≤ s.length ∧ bsF (less s k) p.1 p.2 = place s k) (fun p => p.2 - p.1) [0, 1, 2, 8, 9, 10] [0] (0, s.length) (by exact ⟨Nat.zero_le _, Nat.le_refl _, rfl⟩) (by simp [hC]) ?_)
  rintro ⟨lo, hi⟩ ⟨h1, h2, h3⟩
  have hlen := hs.1
  refine AWp.seq ?_
  refine AWp.go [0, 1, 2, 8, 9, 10, 17] [0] fun K hK => ?_
  simp [hC]
  first | refine hK _ _ ?_ | refine ⟨by omega, hK _ _ ?_⟩ | refine ⟨by omega, by omega, hK _ _ ?_⟩
  clear hK K
  by_cases h : lo < hi
  · refine AWp.cond (t := true) (by first | (simp [h]; done) | (simp [h]; omega)) (fun _ => ?_) (by simp)
    refine AWp.skip ?_
    show AWp _ _ _ _
    refine AWp.block ?_
    obtain ⟨m, hm⟩ : ∃ m : Nat, m = (lo + hi) / 2 := ⟨_, rfl⟩
    have hml : m < s.length := by omega
    refine AWp.step [0, 1, 2, 8, 9, 10, 11] [0] [(0, .bs 0 0 s.length cap), (1, .s k), (2, .fn 104 [] []), (8, .i .i64 s.length), (9, .i .i64 lo), (10, .i .i64 hi), (11, .i .i64 m)] [(0, boxR entL L pad)] ?_ ?_
    · have w1 : IntKind.i64.wrap ((lo : Int) + hi) = (lo : Int) + hi := wrap64 (by omega) (by omega)
      simp [w1, hC]
      exact mid_wrap (by omega) hm
    have g1 := c_awset_find1L (L[m]'(by omega)) k
    rw [hLk m hml] at g1
    refine AWp.go [0, 1, 2, 8, 9, 10, 11, 31] [0] fun K hK => ?_
    simp [hml, entLR_get L pad m (by omega), hL]
    refine ⟨by omega, ?_⟩
    refine call_pure g1 (by simp only [entL]; generalize (L[m]'(by omega)).live = x; cases x <;> simp [LV.c, hLk m hml]) ?_
    simp [hC]
    first | refine hK _ _ ?_ | refine ⟨by omega, hK _ _ ?_⟩ | refine ⟨by omega, by omega, hK _ _ ?_⟩
    clear hK K
    by_cases hp : cmpK s[m].key k < 0
    · refine AWp.cond (t := true) (by first | (simp [hp]; done) | (simp [hp]; omega)) (fun _ => ?_) (by simp)
      refine AWp.goLast [0, 1, 2, 8, 9, 10] [0] fun K hK => ?_
      simp (disch := omega) [wrap64]
      first | refine hK _ _ ?_ | refine ⟨by omega, hK _ _ ?_⟩ | refine ⟨by omega, by omega, hK _ _ ?_⟩
      clear hK K
      refine ⟨(m + 1, hi), ⟨by simp; omega, h2, ?_⟩, by simp; omega, ?_⟩
      · rw [bsF, if_pos h, ← hm, if_pos (by simp [less, hml, hp])] at h3
        exact h3
      · simp [hC]
    · refine AWp.cond (t := false) (by first | (simp [hp]; done) | (simp [hp]; omega)) (by simp) (fun _ => ?_)
      refine AWp.goLast [0, 1, 2, 8, 9, 10] [0] fun K hK => ?_
      simp [hC]
      first | refine hK _ _ ?_ | refine ⟨by omega, hK _ _ ?_⟩ | refine ⟨by omega, by omega, hK _ _ ?_⟩
      clear hK K
      refine ⟨(lo, m), ⟨by simp; omega, by simp; omega, ?_⟩, by simp; omega, ?_⟩
      · rw [bsF, if_pos h, ← hm, if_neg (by simp [less, hml, hp])] at h3
        exact h3
      · simp [hC]
  · refine AWp.cond (t := false) (by first | (simp [h]; done) | (simp [h]; omega)) (by simp) (fun _ => ?_)
    refine AWp.exit ?_
    show AWp _ _ _ _
    obtain rfl : lo = hi := by omega
    rw [bsF_done] at h3
    refine AWp.step [6, 7] [0] [(6, .i .i64 (place s k)), (7, .b (there s k))] [(0, boxR entL L pad)] ?_ ?_
    · by_cases hq : lo < s.length
      · have g1 := c_awset_find1L (L[lo]'(by omega)) k
        rw [hLk lo hq] at g1
        simp [hq, there, ← h3, hL, entLR_get L pad lo (by omega)]
        refine ⟨by omega, ?_⟩
        refine call_pure g1 (by simp only [entL]; generalize (L[lo]'(by omega)).live = x; cases x <;> simp [LV.c, hLk lo hq]) ?_
        simp [hC]
      · simp [hq, there, ← h3, hC]
    refine AWp.ret ?_
    simp [hC]
    simpa using hC.still

set_option maxRecDepth 8000 in
theorem c_awset_findB (L : List EntL) (s : List Entry) (k : ByteArray) (pad : List AV) (cap : Nat) (hs : Fine s) (hpad : Calm pad) (hLl : L.length = s.length) (hLk : ∀ i (h : i < s.length), (L[i]'(by omega)).key = s[i].key) : Proc Try.prog 1 70 [.bs 0 0 s.length cap, .s k] [(0, boxR entL L pad)] (.tup [.i .i64 (place s k), .b (there s k)]) [(0, boxR entL L pad)] := by
  have hC : Calm (boxR entL L pad) := boxR_calm entL_ok hpad
  have hL : (boxR entL L pad).length = s.length * 3 + pad.length := by rw [← hLl]; exact boxR_len entL_ok L pad
  refine proc_of (cxb Try.prog 11 1 [0, 1, 4, 5] [] [4, 5]) 9 [.tmp 4, .tmp 5] Try.func70 rfl rfl rfl rfl rfl rfl (Nat.le_refl _) rfl ?_
  refine AWp.go [0, 1] [0] fun K hK => ?_
  simp [hC]
  first | refine hK _ _ ?_ | refine ⟨by omega, hK _ _ ?_⟩ | refine ⟨by omega, by omega, hK _ _ ?_⟩
  clear hK K
  refine AWp.go [4, 5] [0] fun K hK => ?_
  simp
  refine call_proc [(0, 0)] none (c_BSearchA_Box L s k pad cap hs hpad hLl hLk) (by simp) (by simp) ?_
  simp [hC]
  refine ⟨by simpa using hC.still, hK _ _ ?_⟩
  clear hK K
  refine AWp.ret ?_
  simp [hC]
  simpa using hC.still
end Go.AM
namespace Go.AM
open Go.Proofs
theorem boxL_here (s : List Entry) (pad : List AV) : boxR entL (s.map hereL) pad = boxR entC s pad := by
  unfold boxR
  rw [List.map_map]
  rfl
theorem markL_key (s : List Entry) (j b cap : Nat) (hj : j < s.length) (i : Nat) (h : i < s.length) : ((markL s j b cap)[i]'(by simpa using h)).key = s[i].key := by
  by_cases he : i = j
  · subst he; rw [markL_at b cap h]
  · rw [markL_ne b cap h he]; rfl
theorem markL_set (s : List Entry) (j b cap : Nat) (e : Entry) : (markL s j b cap).set j (hereL e) = (s.set j e).map hereL := by
  unfold markL
  rw [List.set_set, List.map_set]
theorem setL_live (s : List Entry) (j b cap : Nat) (hj : j < s.length) (l : List Dot) (pad : List AV) (L : List AV) (hL : L = boxR entL (markL s j b cap) pad) :
    L.take (j * 3 + 1) ++ (AV.sl .fro 2 (dotsAV l) :: L.drop (j * 3 + 1 + 1)) = boxR entC (s.set j ⟨s[j].key, l, s[j].dead⟩) pad := by
  have h1 := entLR_get (markL s j b cap) pad j (by simpa using hj)
  have h2 := boxR_set entL_ok (markL s j b cap) pad j (by simpa using hj) (hereL ⟨s[j].key, l, s[j].dead⟩)
  rw [markL_set, boxL_here, ← hL] at h2
  rw [← hL, markL_at b cap hj] at h1
  rw [← h2]
  have hlen : j * 3 + 3 ≤ L.length := by
    have := congrArg List.length h1
    simp at this
    omega
  obtain ⟨A, B, hAB, hA⟩ : ∃ A B, L = A ++ ([.s s[j].key, LV.c (.at b s[j].live.length cap), .sl .fro 2 (dotsAV s[j].dead)] ++ B) ∧ A.length = j * 3 := by
    refine ⟨L.take (j * 3), L.drop (j * 3 + 3), ?_, by simp; omega⟩
    rw [← h1]
    have : L.drop (j * 3) = (L.drop (j * 3)).take 3 ++ L.drop (j * 3 + 3) := by
      rw [← List.drop_drop]; exact (List.take_append_drop 3 _).symm
    rw [← this, List.take_append_drop]
  rw [hAB]
  have e1 : (A ++ ([AV.s s[j].key, LV.c (.at b s[j].live.length cap), .sl .fro 2 (dotsAV s[j].dead)] ++ B)).take (j * 3 + 1) = A ++ [.s s[j].key] := by
    rw [← hA, List.take_append, List.take_of_length_le (by omega)]
    simp
  have e2 : (A ++ ([AV.s s[j].key, LV.c (.at b s[j].live.length cap), .sl .fro 2 (dotsAV s[j].dead)] ++ B)).drop (j * 3 + 1 + 1) = .sl .fro 2 (dotsAV s[j].dead) :: B := by
    rw [← hA, List.drop_append, List.drop_eq_nil_of_le (by omega), show A.length + 1 + 1 - A.length = 2 by omega]
    rfl
  have e3 : (A ++ ([AV.s s[j].key, LV.c (.at b s[j].live.length cap), .sl .fro 2 (dotsAV s[j].dead)] ++ B)).take (j * 3) = A := by rw [← hA, List.take_left]
  have e4 : (A ++ ([AV.s s[j].key, LV.c (.at b s[j].live.length cap), .sl .fro 2 (dotsAV s[j].dead)] ++ B)).drop (j * 3 + 3) = B := by
    rw [← hA, List.drop_append, List.drop_eq_nil_of_le (by omega), show A.length + 3 - A.length = 3 by omega]
    rfl
  rw [e1, e2, e3, e4]
  simp [entL, hereL, LV.c]
/-- A set behind a turn of a key that is there. -/
def turnT (s : List Entry) (k : ByteArray) (c : List Int) (more : List Dot) : List Entry :=
  let l := ordP (leftD (atE s k).live c ++ more)
  if l.length = 0 then s.take (place s k) ++ s.drop (place s k + 1) else s.set (place s k) ⟨(atE s k).key, l, (atE s k).dead⟩

set_option maxRecDepth 8000 in
set_option maxHeartbeats 8000000 in
theorem c_awset_turnT (s : List Entry) (k : ByteArray) (c : List Int) (more : List Dot) (hs : Fine s) (hc : c.length ≤ 1000000) (ht : there s k = true) (hne : (atE s k).live ≠ []) (hm : more.length ≤ 1000) (hb : (atE s k).live.length ≤ 900000) : Pure Try.prog 64 [.sl .fro 3 (entsAV s), .s k, .sl .fro 1 (intsAV c), .sl .fro 2 (dotsAV more)] (.tup [.sl .own 3 (entsAV (turnT s k c more)), .i .i64 0]) := by
  have hlt := there_lt ht
  have hlen := hs.1
  have hat : atE s k = s[place s k] := by simp [atE, ht, hlt]
  rw [hat] at hne hb
  obtain ⟨j, hj0⟩ : ∃ j, j = place s k := ⟨_, rfl⟩
  obtain ⟨T, hT⟩ : ∃ T, T = turnT s k c more := ⟨_, rfl⟩
  rw [← hT]
  unfold turnT at hT
  rw [hat] at hT
  have hfd := c_awset_findB (k := k) (hs := hs)
  rw [ht] at hfd
  simp only [← hj0] at hlt hne hb hT hfd
  refine proc_of (cx Try.prog 70 [0, 1, 3, 6, 8, 9, 10, 11, 12, 13, 22, 34, 46, 51, 59] [8, 9]) 66 [.tmp 8, .tmp 9] Try.func64 rfl rfl rfl rfl rfl rfl (Nat.le_refl _) rfl ?_
  refine AWp.go [0, 1, 3, 6] [6] fun K hK => ?_
  simp
  first | refine hK _ _ ?_ | refine ⟨by omega, hK _ _ ?_⟩ | refine ⟨by omega, by omega, hK _ _ ?_⟩
  clear hK K
  refine AWp.goX fun K hK => ?_
  refine SOps.cut 2 rfl fun K' hK' => ?_
  simp
  refine call_procE [] (fun q => some (1000000 + q.1.1, 1000000 + q.1.1)) (c_awset_own s j hs hlt hne) (by simp) (by simp) ?_
  simp
  intro b cap hcap
  have hpc := parkC_calm s j cap
  have hA : ∀ n, n < 1000000 → (n = 1000000 + b) = False := fun n hn => by simp; omega
  have hB : ∀ n, n < 1000000 → (1000000 + b = n) = False := fun n hn => by simp; omega
  refine ⟨by simpa using hpc.still, ?_⟩
  simp [hA, hpc]
  refine hK' _ _ ?_
  clear hK'
  refine SOps.cut 1 rfl fun K2 hK2 => ?_
  simp [hpc]
  refine hK2 _ _ (SOps.nil ?_)
  refine hK [1, 3, 6, 10] [6, 1000000 + b] _ ?_
  clear hK hK2 K2 K
  simp [hA, hpc]
  refine AWp.unown 10 100 rfl (by simp) (by intro h0; have := congrArg List.length h0; rw [rowsE_len, markL_len, List.length_nil] at this; omega) (by simp [hA]) (by simp) fun cap2 hcap2 => ?_
  simp at hcap2
  obtain ⟨M, hM⟩ : ∃ M, M = markL s j b cap := ⟨_, rfl⟩
  have hMl : M.length = s.length := by rw [hM]; simp
  have hcc : ∀ l, Calm (boxR entL l (padE s cap2)) := fun l => boxR_calm entL_ok (Calm.replicate _ rfl)
  have hbl := boxR_len entL_ok M (padE s cap2)
  have e0 : (rowsE M).flatten ++ List.replicate ((cap2 - s.length) * 3) AV.any = boxR entL M (padE s cap2) := rfl
  have hgt := entLR_get M (padE s cap2) j (by omega)
  have hgt1 := (take3_1 hgt).1
  have hMj : M[j]'(by omega) = ⟨s[j].key, .at b s[j].live.length cap, s[j].dead⟩ := by simp only [hM]; exact markL_at b cap hlt
  rw [hMj] at hgt1
  rw [← hM]
  simp [hpc, hMl, e0]
  have g2 := hfd M (padE s cap2) cap2 (Calm.replicate _ rfl) hMl (fun i h => by simp only [hM]; exact markL_key s j b cap hlt i h)
  refine AWp.go [1, 3, 6, 10, 11, 12] [6, 100, 1000000 + b] fun K hK => ?_
  simp
  refine call_proc [(0, 100)] none g2 (by simp) (by simp) ?_
  simp [hB, hpc, hcc]
  refine ⟨by simpa using (hcc M).still, hK _ _ ?_⟩
  clear hK K
  refine AWp.go [1, 3, 6, 10, 11, 12, 13] [6, 100, 1000000 + b] fun K hK => ?_
  simp [hB, hpc, hcc]
  first | refine hK _ _ ?_ | refine ⟨by omega, hK _ _ ?_⟩ | refine ⟨by omega, by omega, hK _ _ ?_⟩
  clear hK K
  refine AWp.seq ?_
  refine AWp.go [1, 3, 6, 10, 11, 12, 13, 22] [6, 100, 1000000 + b] fun K hK => ?_
  simp [hB, hpc, hcc]
  first | refine hK _ _ ?_ | refine ⟨by omega, hK _ _ ?_⟩ | refine ⟨by omega, by omega, hK _ _ ?_⟩
  clear hK K
  refine AWp.cond (t := true) (by first | (simp; done) | (simp; omega)) (fun _ => ?_) (by simp)
  refine AWp.goXL fun K hK => ?_
  refine SOps.cut 5 rfl fun K' hK' => ?_
  simp [hbl, hgt1, hMl, LV.c]
  refine ⟨by omega, by omega, ?_⟩
  refine hK' _ _ ?_
  clear hK'
  refine SOps.claim 27 b 101 (by rfl) (by simp [hB]) hpc (by simp) (by simp [hA]) (by simp) ?_
  have hcapb : s[j].live.length ≤ cap := hcap
  have hcs : Calm [AV.sl .fro 1 (intsAV c)] := fun x hx => by simp at hx; subst hx; rfl
  obtain ⟨l, hl⟩ : ∃ l, l = s[j].live := ⟨_, rfl⟩
  have e1 : parkC s j cap = boxR dotC l (List.replicate ((cap - l.length) * 2) AV.any) := by rw [hl]; simp [parkC, hlt]; rfl
  rw [← hl] at hcapb hb hT
  have hdf := c_DeleteFuncB_Dot l (List.replicate ((cap - l.length) * 2) AV.any) cap 97 (fun d => decide (d.2 ≤ getC c d.1)) _ hcapb (Calm.replicate _ rfl) (by simp) hcs (fun n => c_awset_turn1 c hc n) (by omega)
  rw [show (l.filter fun d => !decide (d.2 ≤ getC c d.1)) = leftD l c from rfl] at hdf
  have hst := (boxR_calm (l := leftD l c) dotC_ok ((Calm.zeros (zero := [AV.i .i64 0, AV.i .i64 0]) (fun c hc => by simp at hc; subst hc; rfl) (l.length - (leftD l c).length)).append (Calm.replicate ((cap - l.length) * 2) (x := AV.any) rfl)))
  have hlf : (leftD l c).length ≤ l.length := List.length_filter_le _ _
  have hrl := rows_len dotC_ok (leftD l c)
  have hcl : Calm (boxR dotC l (List.replicate ((cap - l.length) * 2) AV.any)) := by rw [← e1]; exact hpc
  rw [← hl]
  simp [hA, hcc, e1, hcl]
  refine SOps.cut 2 rfl fun K2 hK2 => ?_
  simp
  refine call_proc [(0, 101), (1, 6)] none hdf (by simp) (by simp) ?_
  simp [hcc, hcl, hst]
  refine ⟨by simpa using hcl.still, by simpa using hst.still, hK2 _ _ ?_⟩
  clear hK2
  refine SOps.reown 29 101 cap (sz := 2) (dotsAV (leftD l c)) (zerosL [.i .i64 0, .i .i64 0] (l.length - (leftD l c).length) ++ List.replicate ((cap - l.length) * 2) AV.any) (by simp) (by simp) (by simp; rfl) ?_ (fun z hz => ?_) (dots_dat2 _) hst.freeL ?_
  · have h5 : ((dotsAV (leftD l c)).flatten).length = (leftD l c).length * 2 := hrl
    simp only [List.length_append, zerosL_length, List.length_replicate, h5]
    simp; omega
  · obtain ⟨x, _, rfl⟩ := List.mem_map.1 hz; rfl
  simp [hcc]
  refine SOps.cut 1 rfl fun K3 hK3 => ?_
  simp [hcc]
  refine hK3 _ _ (SOps.nil ?_)
  refine hK _ ?_
  clear hK3 K3 hK K K2 K'
  show AWp _ _ _ _
  refine AWp.cleanOf [1, 3, 10, 11, 12, 13] [100] ?_
  simp [hcc]
  show AWp _ _ _ _
  refine AWp.go [1, 10, 11, 12, 13] [100] fun K hK => ?_
  simp [hcc]
  refine ⟨by omega, ?_⟩
  refine call_pure (c_dots_Order (leftD l c ++ more) (by simp; omega)) (by simp [dotsAV]) ?_
  simp [hcc]
  refine hK _ _ ?_
  clear hK K
  obtain ⟨D, hD⟩ : ∃ D, D = ordP (leftD l c ++ more) := ⟨_, rfl⟩
  have hDl : D.length ≤ 901000 := by rw [hD]; have := ordP_length (leftD l c ++ more); rw [List.length_append] at this; omega
  rw [← hD] at hT ⊢
  refine AWp.seq ?_
  refine AWp.block ?_
  refine AWp.step [1, 10, 11, 12, 13, 34] [100] [(1, .s k), (10, .bs 100 0 s.length cap2), (11, .i .i64 j), (12, .b true), (13, .sl .fro 2 (dotsAV D)), (34, .b (decide (D.length = 0)))] [(100, boxR entL M (padE s cap2))] ?_ ?_
  · by_cases h0 : D.length = 0
    · simp [hcc, h0]
    · simp [hcc, h0]
  by_cases h0 : D.length = 0
  · refine AWp.cond (t := true) (by first | (simp [h0]; done) | (simp [h0]; omega)) (fun _ => ?_) (by simp)
    have hw1 : IntKind.i64.wrap ((j : Int) + 1) = (j : Int) + 1 := wrap64 (by omega) (by omega)
    have hrM : Rows 3 (rowsE M) := fun r hr => by
      obtain ⟨e, _, rfl⟩ := List.mem_map.1 hr
      exact ⟨rfl, entL_ok.calm e, by obtain ⟨k0, x, y⟩ := e; cases x <;> rfl⟩
    have hDel := c_DeleteB_Entry (rowsE M) (padE s cap2) j (j + 1) cap2 hrM (by omega) (by simp; omega) (Calm.replicate _ rfl) (by simp; omega) (by simp; omega) (by simp [padE, hMl])
    have hT2 : (rowsE M).take j ++ (rowsE M).drop (j + 1) = entsAV T := by
      have e1 : M.take j = (s.take j).map hereL := by rw [hM, markL_take, List.map_take]
      have e2 : M.drop (j + 1) = (s.drop (j + 1)).map hereL := by
        rw [hM]; unfold markL
        rw [List.drop_set_of_lt (by omega), List.map_drop]
      rw [hT]
      simp only [if_pos h0]
      unfold rowsE
      rw [← List.map_take, ← List.map_drop, e1, e2]
      simp [entsAV, entL_here, Function.comp_def]
    rw [hT2, rowsE_len, hMl, show j + 1 - j = 1 by omega, show boxF (rowsE M) (padE s cap2) = boxR entL M (padE s cap2) from rfl] at hDel
    obtain ⟨p2, hp2⟩ : ∃ p2, p2 = zerosL [AV.s ByteArray.empty, .sl .fro 2 [], .sl .fro 2 []] 1 ++ padE s cap2 := ⟨_, rfl⟩
    rw [← hp2] at hDel
    have hcp2 : Calm p2 := by rw [hp2]; exact (Calm.zeros (fun c hc => by simp at hc; rcases hc with rfl | rfl | rfl <;> rfl) 1).append (Calm.replicate _ rfl)
    have hTl : T.length = s.length - 1 := by
      have := congrArg List.length hT2
      simp [hMl] at this
      omega
    have hCT : Calm (boxF (entsAV T) p2) := boxF_calm (ents_rows T) hcp2
    refine AWp.goS [8, 9] [] fun K hK => ?_
    refine SOps.cut 5 rfl fun K' hK' => ?_
    simp [hw1]
    refine call_proc [(0, 100)] none hDel (by simp) (by simp) ?_
    simp [hcc, hCT]
    refine ⟨by simpa using (hcc M).still, by simpa using hCT.still, hK' _ _ ?_⟩
    clear hK'
    rw [← hTl]
    have hrl : (entsAV T).flatten.length = T.length * 3 := rows_len entC_ok T
    refine SOps.reown 45 100 cap2 (sz := 3) (entsAV T) p2 (by simp) (by simp) (by simp; rfl) ?_ (fun z hz => ?_) (ents_dat T) hCT.freeL ?_
    · rw [List.length_append, hrl, hp2]; simp [padE, zerosL]; omega
    · obtain ⟨x, _, rfl⟩ := List.mem_map.1 hz; rfl
    simp
    refine SOps.cut 2 rfl fun K3 hK3 => ?_
    simp
    refine hK3 _ _ (SOps.nil ?_)
    simp
    refine hK _ _ (AWp.ret ?_)
    simp
  · refine AWp.cond (t := false) (by first | (simp [h0]; done) | (simp [h0]; omega)) (by simp) (fun _ => ?_)
    refine AWp.step [1, 10, 11, 12, 13, 46] [100] [(1, .s k), (10, .bs 100 0 s.length cap2), (11, .i .i64 j), (12, .b true), (13, .sl .fro 2 (dotsAV D)), (46, .b false)] [(100, boxR entL M (padE s cap2))] ?_ ?_
    · simp [hcc]
      simpa using h0
    refine AWp.cond (t := false) (by first | (simp; done) | (simp [h0]; omega)) (by simp) (fun _ => ?_)
    refine AWp.go [1, 10, 11, 13, 51] [100] fun K hK => ?_
    simp [hcc]
    first | refine hK _ _ ?_ | refine ⟨by omega, hK _ _ ?_⟩ | refine ⟨by omega, by omega, hK _ _ ?_⟩
    clear hK K
    refine AWp.cond (t := true) (by first | (simp; done) | (simp; omega)) (fun _ => ?_) (by simp)
    have hst2 := fun l => setL_live s j b cap hlt l (padE s cap2) _ rfl
    rw [← hM] at hst2
    have hT3 : T = s.set j ⟨s[j].key, D, s[j].dead⟩ := by rw [hT]; simp only [if_neg h0]
    have hccE : ∀ l, Calm (boxR entC l (padE s cap2)) := fun l => boxR_calm entC_ok (Calm.replicate _ rfl)
    refine AWp.step [10] [100] [(10, .bs 100 0 s.length cap2)] [(100, boxR entC T (padE s cap2))] ?_ ?_
    · rw [hT3]
      simp [hcc, hbl, hMl, hst2, hccE]
      exact ⟨hlt, by omega⟩
    have hTl : T.length = s.length := by rw [hT3]; simp
    have hrl : ((entsAV T).flatten).length = T.length * 3 := rows_len entC_ok _
    rw [← hTl]
    refine AWp.reown 10 100 cap2 (sz := 3) (entsAV T) (padE s cap2) (by simp) (by simp) rfl ?_ (fun z hz => ?_) (ents_dat _) (hccE _).freeL ?_
    · rw [List.length_append, hrl]; simp [padE]; omega
    · obtain ⟨x, _, rfl⟩ := List.mem_map.1 hz; rfl
    simp
    refine AWp.go [8, 9] [100] fun K hK => ?_
    simp
    first | refine hK _ _ ?_ | refine ⟨by omega, hK _ _ ?_⟩ | refine ⟨by omega, by omega, hK _ _ ?_⟩
    clear hK K
    refine AWp.ret ?_
    simp
end Go.AM
namespace Go.AM
open Go.Proofs

set_option maxRecDepth 8000 in
set_option maxHeartbeats 4000000 in
theorem c_awset_own0 (s : List Entry) (hs : Fine s) : Pure Try.prog 96 [.sl .fro 3 (entsAV s)] (.sl .own 3 (entsAV s)) := by
  have hlen := hs.1
  refine proc_of (cx Try.prog 22 [0, 2, 3, 5, 6, 7, 8, 9] [2]) 21 [.tmp 2] Try.func96 rfl rfl rfl rfl rfl rfl (Nat.le_refl _) rfl ?_
  refine AWp.go [0] [] fun K hK => ?_
  simp
  first | refine hK _ _ ?_ | refine ⟨by omega, hK _ _ ?_⟩ | refine ⟨by omega, by omega, hK _ _ ?_⟩
  clear hK K
  refine AWp.go [0, 3] [] fun K hK => ?_
  simp
  first | refine hK _ _ ?_ | refine ⟨by omega, hK _ _ ?_⟩ | refine ⟨by omega, by omega, hK _ _ ?_⟩
  clear hK K
  refine AWp.seq ?_
  refine AWp.go [3, 6, 7, 8] [] fun K hK => ?_
  simp
  first | refine hK _ _ ?_ | refine ⟨by omega, hK _ _ ?_⟩ | refine ⟨by omega, by omega, hK _ _ ?_⟩
  clear hK K
  refine AWp.block (AWp.while (fun i : Nat => [(3, .sl .own 3 (entsAV (s.take i))), (6, .sl .fro 3 (entsAV s)), (7, .i .i64 s.length), (8, .i .i64 i)]) (fun i => []) (fun i => i ≤ s.length) (fun i => s.length - i) [3, 6, 7, 8] [] 0 (by simp) (by simp [entsAV]) ?_)
  intro i hi
  refine AWp.go [3, 6, 7, 8, 9] [] fun K hK => ?_
  simp
  first | refine hK _ _ ?_ | refine ⟨by omega, hK _ _ ?_⟩ | refine ⟨by omega, by omega, hK _ _ ?_⟩
  clear hK K
  refine AWp.seq ?_
  by_cases h2 : i < s.length
  · refine AWp.cond (t := true) (by first | (simp [h2]; done) | (simp [h2]; omega)) (fun _ => ?_) (by simp)
    refine AWp.skip ?_
    show AWp _ _ _ _
    refine AWp.seq ?_
    refine AWp.block ?_
    refine AWp.go [3, 5, 6, 7, 8] [5] fun K hK => ?_
    simp [h2]
    first | refine hK _ _ ?_ | refine ⟨by omega, hK _ _ ?_⟩ | refine ⟨by omega, by omega, hK _ _ ?_⟩
    clear hK K
    have hl := hs.2 _ (List.getElem_mem h2)
    refine AWp.go [3, 5, 6, 7, 8] [5] fun K hK => ?_
    simp
    refine call_pure (c_Clone_Dot (dotsAV s[i].live) (by simp; omega)) (by simp) ?_
    simp
    first | refine hK _ _ ?_ | refine ⟨by omega, hK _ _ ?_⟩ | refine ⟨by omega, by omega, hK _ _ ?_⟩
    clear hK K
    refine AWp.last [3, 6, 7, 8] [] [(3, .sl .own 3 (entsAV (s.take (i + 1)))), (6, .sl .fro 3 (entsAV s)), (7, .i .i64 s.length), (8, .i .i64 i)] [] ?_ ?_
    · rw [ents_take s i h2]
      simp
      omega
    show AWp _ _ _ _
    refine AWp.goLast [3, 6, 7, 8] [] fun K hK => ?_
    simp
    first | refine hK _ _ ?_ | refine ⟨by omega, hK _ _ ?_⟩ | refine ⟨by omega, by omega, hK _ _ ?_⟩
    clear hK K
    refine ⟨i + 1, by omega, by omega, ?_⟩
    simp
    exact wrap64 (by omega) (by omega)
  · refine AWp.cond (t := false) (by first | (simp [h2]; done) | (simp [h2]; omega)) (by simp) (fun _ => ?_)
    refine AWp.exit ?_
    show AWp _ _ _ _
    obtain rfl : i = s.length := by omega
    refine AWp.go [2] [] fun K hK => ?_
    simp
    first | refine hK _ _ ?_ | refine ⟨by omega, hK _ _ ?_⟩ | refine ⟨by omega, by omega, hK _ _ ?_⟩
    clear hK K
    refine AWp.ret ?_
    simp

def turnM (s : List Entry) (k : ByteArray) (more : List Dot) : List Entry :=
  if (ordP more).length = 0 then s else s.take (place s k) ++ ⟨k, ordP more, []⟩ :: s.drop (place s k)

set_option maxRecDepth 8000 in
theorem c_Insert_EntryN2 (k : ByteArray) (l : List Dot) : Pure Try.prog 89 [.sl .nl 3 [], .i .i64 0, .sl .fro 3 [[.s k, .sl .fro 2 (dotsAV l), .sl .fro 2 []]]] (.sl .own 3 [[.s k, .sl .fro 2 (dotsAV l), .sl .fro 2 []]]) := by
  refine proc_of (cx Try.prog 95 [0, 1, 2, 6, 7, 8, 9, 16, 22, 31, 68] [6]) 92 [.tmp 6] Try.func89 rfl rfl rfl rfl rfl rfl (Nat.le_refl _) rfl ?_
  refine AWp.go [0, 1, 2] [] fun K hK => ?_
  simp
  first | refine hK _ _ ?_ | refine ⟨by omega, hK _ _ ?_⟩ | refine ⟨by omega, by omega, hK _ _ ?_⟩
  clear hK K
  refine AWp.go [0, 1, 2] [] fun K hK => ?_
  simp
  first | refine hK _ _ ?_ | refine ⟨by omega, hK _ _ ?_⟩ | refine ⟨by omega, by omega, hK _ _ ?_⟩
  clear hK K
  refine AWp.go [0, 1, 2, 7] [] fun K hK => ?_
  simp
  first | refine hK _ _ ?_ | refine ⟨by omega, hK _ _ ?_⟩ | refine ⟨by omega, by omega, hK _ _ ?_⟩
  clear hK K
  refine AWp.seq ?_
  refine AWp.go [0, 1, 2, 7, 16] [] fun K hK => ?_
  simp
  first | refine hK _ _ ?_ | refine ⟨by omega, hK _ _ ?_⟩ | refine ⟨by omega, by omega, hK _ _ ?_⟩
  clear hK K
  refine AWp.cond (t := false) (by first | (simp; done) | (simp; omega)) (by simp) (fun _ => ?_)
  refine AWp.skip ?_
  show AWp _ _ _ _
  refine AWp.go [0, 1, 2, 7, 8] [] fun K hK => ?_
  simp
  first | refine hK _ _ ?_ | refine ⟨by omega, hK _ _ ?_⟩ | refine ⟨by omega, by omega, hK _ _ ?_⟩
  clear hK K
  refine AWp.seq ?_
  refine AWp.go [0, 1, 2, 7, 8, 22] [] fun K hK => ?_
  simp
  first | refine hK _ _ ?_ | refine ⟨by omega, hK _ _ ?_⟩ | refine ⟨by omega, by omega, hK _ _ ?_⟩
  clear hK K
  refine AWp.cond (t := true) (by first | (simp; done) | (simp; omega)) (fun _ => ?_) (by simp)
  refine AWp.go [6] [] fun K hK => ?_
  simp
  first | refine hK _ _ ?_ | refine ⟨by omega, hK _ _ ?_⟩ | refine ⟨by omega, by omega, hK _ _ ?_⟩
  clear hK K
  refine AWp.ret ?_
  simp

set_option maxRecDepth 8000 in
set_option maxHeartbeats 8000000 in
theorem c_awset_turnM (s : List Entry) (k : ByteArray) (c : List Int) (more : List Dot) (hs : Fine s) (hl : s.length < 4000) (ht : there s k = false) (hm : more.length ≤ 1000) : Pure Try.prog 64 [.sl .fro 3 (entsAV s), .s k, .sl .fro 1 (intsAV c), .sl .fro 2 (dotsAV more)] (.tup [.sl .own 3 (entsAV (turnM s k more)), .i .i64 0]) := by
  have hpl := place_le s k
  obtain ⟨L, hL⟩ : ∃ L, L = turnM s k more := ⟨_, rfl⟩
  rw [← hL]
  unfold turnM at hL
  have hfd := c_awset_findB (k := k) (hs := hs)
  rw [ht] at hfd
  obtain ⟨D, hD⟩ : ∃ D, D = ordP more := ⟨_, rfl⟩
  have hDl : D.length ≤ 1000 := by rw [hD]; have := ordP_length more; omega
  have hord := c_dots_Order more (by omega)
  rw [← hD] at hL hord
  refine proc_of (cx Try.prog 70 [0, 1, 3, 6, 8, 9, 10, 11, 12, 13, 22, 34, 46, 51, 59] [8, 9]) 66 [.tmp 8, .tmp 9] Try.func64 rfl rfl rfl rfl rfl rfl (Nat.le_refl _) rfl ?_
  refine AWp.go [0, 1, 3, 6] [6] fun K hK => ?_
  simp
  first | refine hK _ _ ?_ | refine ⟨by omega, hK _ _ ?_⟩ | refine ⟨by omega, by omega, hK _ _ ?_⟩
  clear hK K
  refine AWp.go [1, 3, 6, 10] [6] fun K hK => ?_
  simp
  refine call_pure (c_awset_own0 s hs) (by simp) ?_
  simp
  first | refine hK _ _ ?_ | refine ⟨by omega, hK _ _ ?_⟩ | refine ⟨by omega, by omega, hK _ _ ?_⟩
  clear hK K
  refine AWp.unown0 10 100 rfl (by simp) rfl (by simp) (fun h0 => ?_) fun cap hcap => ?_
  · have h0 : s = [] := by simpa [entsAV] using h0
    subst h0
    simp
    have g1 := c_awset_find [] k fine_nil
    refine AWp.go [1, 3, 6, 10, 11, 12] [6] fun K hK => ?_
    simp
    refine call_pure g1 (by simp [entsAV]) ?_
    simp [place_nil, there_nil]
    first | refine hK _ _ ?_ | refine ⟨by omega, hK _ _ ?_⟩ | refine ⟨by omega, by omega, hK _ _ ?_⟩
    clear hK K
    refine AWp.go [1, 3, 6, 10, 11, 12, 13] [6] fun K hK => ?_
    simp
    first | refine hK _ _ ?_ | refine ⟨by omega, hK _ _ ?_⟩ | refine ⟨by omega, by omega, hK _ _ ?_⟩
    clear hK K
    refine AWp.seq ?_
    refine AWp.go [1, 3, 6, 10, 11, 12, 13, 22] [6] fun K hK => ?_
    simp
    first | refine hK _ _ ?_ | refine ⟨by omega, hK _ _ ?_⟩ | refine ⟨by omega, by omega, hK _ _ ?_⟩
    clear hK K
    refine AWp.cond (t := false) (by first | (simp; done) | (simp; omega)) (by simp) (fun _ => ?_)
    refine AWp.skip ?_
    show AWp _ _ _ _
    refine AWp.go [1, 10, 11, 12, 13] [] fun K hK => ?_
    simp
    refine ⟨by omega, ?_⟩
    refine call_pure hord (by simp) ?_
    simp
    refine hK _ _ ?_
    clear hK K
    refine AWp.seq ?_
    refine AWp.block ?_
    refine AWp.step [1, 10, 11, 12, 13, 34] [] [(1, .s k), (10, .sl .nl 3 []), (11, .i .i64 0), (12, .b false), (13, .sl .fro 2 (dotsAV D)), (34, .b false)] [] ?_ ?_
    · by_cases h1 : D = [] <;> simp [h1]
    refine AWp.cond (t := false) (by first | (simp; done) | (simp; omega)) (by simp) (fun _ => ?_)
    refine AWp.step [1, 10, 11, 12, 13, 46] [] [(1, .s k), (10, .sl .nl 3 []), (11, .i .i64 0), (12, .b false), (13, .sl .fro 2 (dotsAV D)), (46, .b (decide (D.length = 0)))] [] ?_ ?_
    · simp
    by_cases h0 : D.length = 0
    · refine AWp.cond (t := true) (by first | (simp [h0]; done) | (simp [h0]; omega)) (fun _ => ?_) (by simp)
      refine AWp.go [8, 9] [] fun K hK => ?_
      simp
      first | refine hK _ _ ?_ | refine ⟨by omega, hK _ _ ?_⟩ | refine ⟨by omega, by omega, hK _ _ ?_⟩
      clear hK K
      refine AWp.ret ?_
      first | (rw [hL, if_pos h0]; simp [entsAV]; done) | simp
    · refine AWp.cond (t := false) (by first | (simp [h0]; done) | (simp [h0]; omega)) (by simp) (fun _ => ?_)
      refine AWp.go [1, 10, 11, 13, 51] [] fun K hK => ?_
      simp
      first | refine hK _ _ ?_ | refine ⟨by omega, hK _ _ ?_⟩ | refine ⟨by omega, by omega, hK _ _ ?_⟩
      clear hK K
      refine AWp.cond (t := false) (by first | (simp; done) | (simp; omega)) (by simp) (fun _ => ?_)
      refine AWp.go [1, 10, 11, 13, 59] [] fun K hK => ?_
      simp
      first | refine hK _ _ ?_ | refine ⟨by omega, hK _ _ ?_⟩ | refine ⟨by omega, by omega, hK _ _ ?_⟩
      clear hK K
      refine AWp.cond (t := false) (by first | (simp; done) | (simp; omega)) (by simp) (fun _ => ?_)
      refine AWp.skip ?_
      show AWp _ _ _ _
      refine AWp.go [8, 9] [] fun K hK => ?_
      simp
      refine call_procK [] none (c_Insert_EntryN2 k D) (by simp) (by simp) ?_
      simp
      first | refine hK _ _ ?_ | refine ⟨by omega, hK _ _ ?_⟩ | refine ⟨by omega, by omega, hK _ _ ?_⟩
      clear hK K
      refine AWp.ret ?_
      rw [hL, if_neg h0]
      simp [entsAV, entC, dotsAV]
  · simp at hcap
    have hcc : ∀ l, Calm (boxR entC l (padE s cap)) := fun l => boxR_calm entC_ok (Calm.replicate _ rfl)
    have hbl := boxR_len entC_ok s (padE s cap)
    have e0 : (entsAV s).flatten ++ List.replicate ((cap - s.length) * 3) AV.any = boxR entC s (padE s cap) := rfl
    simp [e0]
    have g2 := hfd (s.map hereL) (padE s cap) cap (Calm.replicate _ rfl) (by simp) (fun i h => by simp [hereL])
    rw [boxL_here] at g2
    refine AWp.go [1, 3, 6, 10, 11, 12] [100] fun K hK => ?_
    simp
    refine call_proc [(0, 100)] none g2 (by simp) (by simp) ?_
    simp [hcc]
    refine ⟨by simpa using (hcc s).still, hK _ _ ?_⟩
    clear hK K
    refine AWp.go [1, 3, 6, 10, 11, 12, 13] [100] fun K hK => ?_
    simp [hcc]
    first | refine hK _ _ ?_ | refine ⟨by omega, hK _ _ ?_⟩ | refine ⟨by omega, by omega, hK _ _ ?_⟩
    clear hK K
    refine AWp.seq ?_
    refine AWp.go [1, 3, 6, 10, 11, 12, 13, 22] [100] fun K hK => ?_
    simp [hcc]
    first | refine hK _ _ ?_ | refine ⟨by omega, hK _ _ ?_⟩ | refine ⟨by omega, by omega, hK _ _ ?_⟩
    clear hK K
    refine AWp.cond (t := false) (by first | (simp; done) | (simp; omega)) (by simp) (fun _ => ?_)
    refine AWp.skip ?_
    show AWp _ _ _ _
    refine AWp.go [1, 10, 11, 12, 13] [100] fun K hK => ?_
    simp
    refine ⟨by omega, ?_⟩
    refine call_pure hord (by simp) ?_
    simp [hcc]
    refine hK _ _ ?_
    clear hK K
    refine AWp.seq ?_
    refine AWp.block ?_
    refine AWp.step [1, 10, 11, 12, 13, 34] [100] [(1, .s k), (10, .bs 100 0 s.length cap), (11, .i .i64 (place s k)), (12, .b false), (13, .sl .fro 2 (dotsAV D)), (34, .b false)] [(100, boxR entC s (padE s cap))] ?_ ?_
    · by_cases h1 : D = [] <;> simp [hcc, h1]
    refine AWp.cond (t := false) (by first | (simp; done) | (simp; omega)) (by simp) (fun _ => ?_)
    refine AWp.step [1, 10, 11, 12, 13, 46] [100] [(1, .s k), (10, .bs 100 0 s.length cap), (11, .i .i64 (place s k)), (12, .b false), (13, .sl .fro 2 (dotsAV D)), (46, .b (decide (D.length = 0)))] [(100, boxR entC s (padE s cap))] ?_ ?_
    · simp [hcc]
    by_cases h0 : D.length = 0
    · refine AWp.cond (t := true) (by first | (simp [h0]; done) | (simp [h0]; omega)) (fun _ => ?_) (by simp)
      have hLs : L = s := by rw [hL, if_pos h0]
      have hrl : ((entsAV s).flatten).length = s.length * 3 := rows_len entC_ok _
      refine AWp.reown 10 100 cap (sz := 3) (entsAV s) (padE s cap) (by simp) (by simp) rfl ?_ (fun z hz => ?_) (ents_dat _) (hcc _).freeL ?_
      · rw [List.length_append, hrl]; simp [padE]; omega
      · obtain ⟨x, _, rfl⟩ := List.mem_map.1 hz; rfl
      simp
      rw [hLs]
      refine AWp.go [8, 9] [100] fun K hK => ?_
      simp
      first | refine hK _ _ ?_ | refine ⟨by omega, hK _ _ ?_⟩ | refine ⟨by omega, by omega, hK _ _ ?_⟩
      clear hK K
      refine AWp.ret ?_
      first | (rw [hL, if_pos h0]; simp [entsAV]; done) | simp
    · refine AWp.cond (t := false) (by first | (simp [h0]; done) | (simp [h0]; omega)) (by simp) (fun _ => ?_)
      refine AWp.go [1, 10, 11, 13, 51] [100] fun K hK => ?_
      simp [hcc]
      first | refine hK _ _ ?_ | refine ⟨by omega, hK _ _ ?_⟩ | refine ⟨by omega, by omega, hK _ _ ?_⟩
      clear hK K
      refine AWp.cond (t := false) (by first | (simp; done) | (simp; omega)) (by simp) (fun _ => ?_)
      refine AWp.go [1, 10, 11, 13, 59] [100] fun K hK => ?_
      simp [hcc]
      first | refine hK _ _ ?_ | refine ⟨by omega, hK _ _ ?_⟩ | refine ⟨by omega, by omega, hK _ _ ?_⟩
      clear hK K
      refine AWp.cond (t := false) (by first | (simp; done) | (simp; omega)) (by simp) (fun _ => ?_)
      refine AWp.skip ?_
      show AWp _ _ _ _
      have hins := ents_ins s (place s k) ⟨k, D, []⟩
      have hRl : (s.map entC).length = s.length := by simp
      have hLe : L = s.take (place s k) ++ ⟨k, D, []⟩ :: s.drop (place s k) := by rw [hL, if_neg h0]
      refine AWp.goS [8, 9] [] fun K hK => ?_
      refine SOps.cut 6 rfl fun K' hK' => ?_
      simp [hcc]
      refine hK' _ _ ?_
      clear hK'
      refine SOps.unown 68 101 rfl (by simp) (by simp) rfl (by simp) fun c1 hc1 => ?_
      simp [hcc]
      obtain ⟨X, hX⟩ : ∃ X, X = AV.s k :: AV.sl .fro 2 (dotsAV D) :: AV.sl .fro 2 [] :: List.replicate ((c1 - 1) * 3) AV.any := ⟨_, rfl⟩
      have hXc : Calm X := by rw [hX]; exact (entC_ok.calm ⟨k, D, []⟩).append (Calm.replicate _ rfl)
      have hXt : List.take 3 X = entC ⟨k, D, []⟩ := by rw [hX]; rfl
      have hXl : 3 ≤ X.length := by rw [hX]; simp
      rw [← hX]
      refine SOps.cut 1 rfl fun K2 hK2 => ?_
      simp
      by_cases hroom : s.length < cap
      · have hIns := c_Insert1_Entry (s.map entC) (entC ⟨k, D, []⟩) X (padE s cap) (place s k) cap c1 (ents_rows s) (ent_rows _) hXc hXt hXl (by simpa using hpl) (Calm.replicate _ rfl) (by simpa using hroom) (by simp; omega) (by simp [padE])
        have hLl : L.length = s.length + 1 := by rw [hLe]; simp; omega
        rw [hins, hRl, boxF_ents, ← hLe] at hIns
        obtain ⟨p2, hp2⟩ : ∃ p2, p2 = (padE s cap).drop 3 := ⟨_, rfl⟩
        rw [← hp2] at hIns
        have hcp : Calm p2 := by rw [hp2]; exact (Calm.replicate _ rfl).drop _
        have hC2 : Calm (boxF (entsAV L) p2) := boxF_calm (ents_rows L) hcp
        refine call_proc [(0, 100), (1, 101)] none hIns (by simp) (by simp) ?_
        simp [hcc, hXc, hC2]
        refine ⟨⟨by simpa using (hcc s).still, by simpa using hXc.still⟩, ⟨by simpa using hC2.still, by simpa using hXc.still⟩, hK2 _ _ ?_⟩
        have hrl : (entsAV L).flatten.length = L.length * 3 := rows_len entC_ok L
        rw [← hLl]
        refine SOps.reown 69 100 cap (sz := 3) (entsAV L) p2 (by simp) (by simp) (by simp; rfl) ?_ (fun z hz => ?_) (ents_dat L) hC2.freeL ?_
        · rw [List.length_append, hrl, hp2]; simp [padE]; omega
        · obtain ⟨x, _, rfl⟩ := List.mem_map.1 hz; rfl
        simp [hXc]
        refine SOps.cut 2 rfl fun K3 hK3 => ?_
        simp [hXc]
        refine hK3 _ _ (SOps.nil ?_)
        simp
        refine hK _ _ (AWp.ret ?_)
        simp
      · have hcl : cap = s.length := by omega
        subst hcl
        have hIns := c_Insert2_Entry (s.map entC) (entC ⟨k, D, []⟩) X (padE s s.length) (place s k) c1 (ents_rows s) (ent_rows _) hXc hXt hXl (by simpa using hpl) (Calm.replicate _ rfl) (by simp; omega) (by simp [padE])
        rw [hins, hRl, boxF_ents, ← hLe] at hIns
        refine call_proc [(0, 100), (1, 101)] none hIns (by simp) (by simp) ?_
        simp [hcc, hXc]
        refine ⟨⟨by simpa using (hcc s).still, by simpa using hXc.still⟩, hK2 _ _ ?_⟩
        refine SOps.cut 2 rfl fun K3 hK3 => ?_
        simp [hXc]
        refine hK3 _ _ (SOps.nil ?_)
        simp
        refine hK _ _ (AWp.ret ?_)
        simp
end Go.AM
namespace Go.AM
theorem key_ext {a b : ByteArray} (h : eqK a b = true) : a = b := by
  rw [eqK_iff, ← toList_data, ← toList_data] at h
  exact ByteArray.ext (Array.toList_inj.1 h)
theorem entOkA_iff (p : ByteArray) (e : Entry) : entOkA p e = true ↔ entOk p e = true ∧ e.live ≠ [] ∧ e.dead = [] := by
  simp only [entOkA, entOk, Bool.and_eq_true, Bool.not_eq_true', decide_eq_false_iff_not]
  constructor
  · rintro ⟨⟨⟨⟨h1, h2⟩, h3⟩, h4⟩, h5⟩
    have h6 : e.dead = [] := List.length_eq_zero_iff.1 (by omega)
    exact ⟨⟨⟨⟨⟨h1, h2⟩, by omega⟩, h5⟩, by rw [h6]; rfl⟩, fun h => h3 (by rw [h]; rfl), h6⟩
  · rintro ⟨⟨⟨⟨⟨h1, h2⟩, h3⟩, h5⟩, _⟩, h6, h7⟩
    refine ⟨⟨⟨⟨h1, h2⟩, fun h => h6 (List.length_eq_zero_iff.1 (by omega))⟩, by rw [h7]; simp⟩, h5⟩
theorem setOkA_iff (s : List Entry) : setOkA s = true ↔ setOk s = true ∧ ∀ e ∈ s, e.live ≠ [] ∧ e.dead = [] := by
  simp only [setOkA, setOk, Bool.and_eq_true, List.all_eq_true]
  constructor
  · rintro ⟨h1, h2⟩
    have h3 : ∀ i (hi : i < s.length), entOkA (prevK s i) s[i] = true := fun i hi => by
      have := h2 i (by simpa using hi)
      simpa [entAtA, hi] using this
    refine ⟨⟨h1, fun i hi => ?_⟩, fun e he => ?_⟩
    · have hi : i < s.length := by simpa using hi
      simpa [entAt, hi] using ((entOkA_iff _ _).1 (h3 i hi)).1
    · obtain ⟨i, hi, rfl⟩ := List.mem_iff_getElem.1 he
      exact ((entOkA_iff _ _).1 (h3 i hi)).2
  · rintro ⟨⟨h1, h2⟩, h3⟩
    refine ⟨h1, fun i hi => ?_⟩
    have h4 := h2 i hi
    have hi : i < s.length := by simpa using hi
    simp only [entAtA, entAt, List.getElem?_eq_getElem hi] at h4 ⊢
    exact (entOkA_iff _ _).2 ⟨h4, h3 _ (List.getElem_mem hi)⟩
theorem putTo_none (s : List Entry) (e : Entry) (h : noneE e = true) : ∀ i, i ≤ s.length → putTo s e i = ((s.take i).filter (fun x => !eqK x.key e.key), true)
  | 0, _ => by simp [putTo, h]
  | i + 1, hi => by
    rw [putTo_succ s e i (by omega), putTo_none s e h i (by omega), putStep, List.take_succ_eq_append_getElem (by omega), List.filter_append]
    cases hk : eqK s[i].key e.key <;> simp [hk]
theorem putE_none (s : List Entry) (e : Entry) (h : noneE e = true) : putE s e = s.filter fun x => !eqK x.key e.key := by
  unfold putE
  rw [putTo_none s e h s.length (Nat.le_refl _), List.take_length]
  simp
theorem filter_form {s : List Entry} (hs : SortE s) (k : ByteArray) : (s.filter fun x => !eqK x.key k) = s.take (place s k) ++ s.drop (past s k) := by
  have h1 : (s.take (place s k)).filter (fun x => !eqK x.key k) = s.take (place s k) := by
    rw [List.filter_eq_self]
    intro x hx
    rw [(sort_front hs k x hx).ne]; rfl
  have h2 : (s.drop (past s k)).filter (fun x => !eqK x.key k) = s.drop (past s k) := by
    rw [List.filter_eq_self]
    intro x hx
    rw [(sort_back hs k x hx).ne']; rfl
  conv => lhs; rw [← List.take_append_drop (place s k) s]
  rw [List.filter_append, h1]
  congr 1
  unfold past at h2 ⊢
  cases ht : there s k with
  | false => rw [ht] at h2; simpa using h2
  | true =>
    have hlt := there_lt ht
    rw [ht] at h2
    rw [List.drop_eq_getElem_cons hlt]
    have := (there_iff k hlt).1 ht
    simp only [if_true] at h2 ⊢
    rw [List.filter_cons, this]
    simpa using h2
/-- What a turn leaves. -/
def turnA (s : List Entry) (k : ByteArray) (c : List Int) (more : List Dot) : List Entry := if there s k then turnT s k c more else turnM s k more
theorem turn_law {s : List Entry} (h : setOkA s = true) (k : ByteArray) (c : List Int) (more : List Dot) : turnA s k c more = putE s ⟨k, ordP (leftD (getE s k).live c ++ more), []⟩ := by
  obtain ⟨h1, h2⟩ := (setOkA_iff s).1 h
  have hs := setOk_sort h1
  unfold turnA
  rw [← atE_get hs]
  cases ht : there s k with
  | true =>
    have hlt := there_lt ht
    have hat : atE s k = s[place s k] := by simp [atE, ht, hlt]
    have hk : s[place s k].key = k := key_ext ((there_iff k hlt).1 ht)
    have hd := (h2 _ (List.getElem_mem hlt)).2
    simp only [if_true, turnT]
    rw [hat]
    split
    · rename_i h0
      rw [putE_none _ _ (by simpa [noneE] using h0)]
      simp only
      rw [filter_form hs, past, ht]
      rfl
    · rename_i h0
      rw [hk, hd, ← putS_eq hs (by simpa [noneE] using h0)]
      simp [putS, ht]
  | false =>
    have hat : atE s k = emptyE k := by simp [atE, ht]
    have hl : leftD (atE s k).live c = [] := by rw [hat]; rfl
    simp only [turnM, hl, List.nil_append]
    simp only [Bool.false_eq_true, if_false]
    split
    · rename_i h0
      rw [putE_none _ _ (by simpa [noneE] using h0)]
      simp only
      rw [filter_form hs, past, ht]
      simp
    · rename_i h0
      rw [← putS_eq hs (by simpa [noneE] using h0)]
      simp [putS, ht]
def addA (s : List Entry) (k : ByteArray) (d : Dot) (c : List Int) : List Entry := putE s ⟨k, putD (leftD (getE s k).live c) d, []⟩
def dropA (s : List Entry) (k : ByteArray) (c : List Int) : List Entry := putE s ⟨k, leftD (getE s k).live c, []⟩
theorem add_lawA {s : List Entry} (h : setOkA s = true) (k : ByteArray) (d : Dot) (c : List Int) : turnA s k c [d] = addA s k d c := by
  have h1 := ((setOkA_iff s).1 h).1
  rw [turn_law h, addA, ordP_snoc (sorted_left ((rowsB_iff _).1 (get_rows h1 k).1).2 c)]
theorem drop_lawA {s : List Entry} (h : setOkA s = true) (k : ByteArray) (c : List Int) : turnA s k c [] = dropA s k c := by
  have h1 := ((setOkA_iff s).1 h).1
  rw [turn_law h, dropA, List.append_nil, ordP_sorted (sorted_left ((rowsB_iff _).1 (get_rows h1 k).1).2 c)]
theorem putA_form {s : List Entry} (hs : SortE s) (e : Entry) : putE s e = s.take (place s e.key) ++ ((if noneE e then [] else [e]) ++ s.drop (past s e.key)) := by
  cases hn : noneE e with
  | true => rw [putE_none _ _ hn, filter_form hs]; simp
  | false => rw [← putS_eq hs hn, putS_form]; simp
theorem getE_none {s : List Entry} {k : ByteArray} (h : ∀ x ∈ s, eqK x.key k = false) : getE s k = emptyE k := by
  rcases getE_cases s k with ⟨x, hx, ex, _⟩ | ⟨_, h⟩
  · rw [h x hx] at ex; cases ex
  · exact h
theorem putA_get {s : List Entry} (hs : SortE s) (k : ByteArray) (l : List Dot) : getE (putE s ⟨k, l, []⟩) k = ⟨k, l, []⟩ := by
  cases hn : noneE ⟨k, l, []⟩ with
  | true =>
    rw [putE_none _ _ hn, getE_none fun x hx => by simpa using (List.mem_filter.1 hx).2]
    have : l = [] := List.length_eq_zero_iff.1 (by simpa [noneE] using hn)
    rw [this]; rfl
  | false => rw [← putS_eq hs hn]; exact getE_put hs ⟨k, l, []⟩
theorem putA_other {s : List Entry} (hs : SortE s) (e : Entry) (k : ByteArray) (hk : eqK e.key k = false) : getE (putE s e) k = getE s k := by
  cases hn : noneE e with
  | false => rw [← putS_eq hs hn]; exact getE_other hs e k hk
  | true =>
    rw [putE_none _ _ hn]
    unfold getE
    congr 1
    induction s with
    | nil => rfl
    | cons a s ih =>
      have ih := ih (List.Pairwise.sublist (List.sublist_cons_self a s) hs)
      rw [List.filter_cons, List.find?_cons]
      cases h1 : eqK a.key e.key with
      | true =>
        have h2 : eqK a.key k = false := by rw [key_ext h1]; exact hk
        simp only [Bool.not_true, Bool.false_eq_true, if_false, h2]
        exact ih
      | false =>
        simp only [Bool.not_false, if_true, List.find?_cons]
        cases eqK a.key k
        · exact ih
        · rfl
theorem putA_mem {s : List Entry} (hs : SortE s) {e x : Entry} (h : x ∈ putE s e) : x ∈ s ∨ x = e := by
  rw [putA_form hs] at h
  rcases List.mem_append.1 h with h | h
  · exact .inl (List.mem_of_mem_take h)
  · rcases List.mem_append.1 h with h | h
    · right
      split at h
      · cases h
      · simpa using h
    · exact .inl (List.mem_of_mem_drop h)
theorem putA_len (s : List Entry) (hs : SortE s) (e : Entry) : (putE s e).length ≤ s.length + 1 := by
  cases hn : noneE e with
  | false => rw [← putS_eq hs hn]; exact putS_len s e
  | true => rw [putE_none _ _ hn]; have := List.length_filter_le (fun x : Entry => !eqK x.key e.key) s; omega
theorem putA_ok {s : List Entry} (h : setOkA s = true) (hl : s.length < 4000) {k : ByteArray} (hk : keyOk k = true) {l : List Dot} (hr : rowsB l = true) : setOkA (putE s ⟨k, l, []⟩) = true := by
  obtain ⟨h1, h2⟩ := (setOkA_iff s).1 h
  obtain ⟨h3, h4, h5⟩ := (setOk_iff s).1 h1
  cases hn : noneE ⟨k, l, []⟩ with
  | true =>
    rw [putE_none _ _ hn]
    refine (setOkA_iff _).2 ⟨(setOk_iff _).2 ⟨?_, List.Pairwise.filter _ h4, fun e he => h5 e (List.mem_filter.1 he).1⟩, fun e he => h2 e (List.mem_filter.1 he).1⟩
    have := List.length_filter_le (fun x : Entry => !eqK x.key k) s
    simp only at this ⊢
    omega
  | false =>
    have hne : l.length ≠ 0 := by simpa [noneE] using hn
    rw [← putS_eq h4 hn]
    refine (setOkA_iff _).2 ⟨put_ok h1 hl ?_, fun e he => ?_⟩
    · simp only [oneOk, Bool.and_eq_true, Bool.not_eq_true', decide_eq_false_iff_not]
      refine ⟨⟨⟨hk, by simp only [List.length_nil]; omega⟩, hr⟩, rfl⟩
    · rcases putS_mem he with h6 | h6
      · exact h2 e h6
      · rw [h6]; exact ⟨fun h0 => hne (by simp at h0; rw [h0]; rfl), rfl⟩
theorem rows_left {l : List Dot} (h : rowsB l = true) (c : List Int) : rowsB (leftD l c) = true := by
  rw [rowsB_iff] at h ⊢
  exact ⟨fun x hx => h.1 x (List.mem_filter.1 hx).1, sorted_left h.2 c⟩
theorem rows_putD {l : List Dot} (h : rowsB l = true) {d : Dot} (hd : mayD d = true) : rowsB (putD l d) = true := by
  rw [rowsB_iff] at h ⊢
  refine ⟨fun x hx => ?_, sorted_putD h.2 d⟩
  rcases (mem_putD l d x).1 hx with hx | hx
  · exact h.1 x hx
  · rw [hx]; exact hd
theorem addA_ok {s : List Entry} (h : setOkA s = true) (hl : s.length < 4000) {k : ByteArray} (hk : keyOk k = true) {d : Dot} (hd : mayD d = true) (c : List Int) : setOkA (addA s k d c) = true :=
  putA_ok h hl hk (rows_putD (rows_left (get_rows ((setOkA_iff s).1 h).1 k).1 c) hd)
theorem dropA_ok {s : List Entry} (h : setOkA s = true) (hl : s.length < 4000) {k : ByteArray} (hk : keyOk k = true) (c : List Int) : setOkA (dropA s k c) = true :=
  putA_ok h hl hk (rows_left (get_rows ((setOkA_iff s).1 h).1 k).1 c)
end Go.AM
namespace Go.AM
theorem within_iff (a b : List Int) : withinB a b = true ↔ ∀ r, getC a r ≤ getC b r := by
  unfold withinB withinTo
  rw [List.all_eq_true]
  constructor
  · intro h r
    by_cases h1 : 1 ≤ r ∧ r ≤ 5
    · have := h (r - 1).toNat (by rw [List.mem_range]; omega)
      rw [show (((r - 1).toNat : Nat) : Int) + 1 = r by omega] at this
      simpa using this
    · have e1 : getC a r = 0 := by unfold getC; rw [if_neg h1]
      have := (getC_range b r).1
      omega
  · intro h k _
    simpa using h _
structure Good (l : List Ev) : Prop where
  may : ∀ e ∈ l, evOk e = true
  nodup : (l.map Ev.dot).Nodup
  down : ∀ e ∈ l, ∀ r n : Int, 1 ≤ r → r ≤ 5 → 1 ≤ n → n ≤ getC e.past r → ∃ f ∈ l, f.dot = (r, n)
  trans : ∀ e ∈ l, ∀ f ∈ l, aheadB f e = true → ∀ r, getC f.past r ≤ getC e.past r
theorem findB_iff (l : List Ev) (d : Dot) : findB l d = true ↔ ∃ f ∈ l, f.dot = d := by
  simp [findB]
theorem good_of {l : List Ev} (h : wholeB l = true) : Good l := by
  simp only [wholeB, closedB, Bool.and_eq_true, List.all_eq_true] at h
  obtain ⟨⟨h1, h2⟩, h3⟩ := h
  have h4 : ∀ i (hi : i < l.length), evOk l[i] = true ∧ findB (l.take i) l[i].dot = false := fun i hi => by
    have := h1 i (by simpa using hi)
    rw [close1_at hi] at this
    simp only [Bool.and_eq_true, Bool.not_eq_true'] at this
    exact this.1
  refine ⟨fun e he => ?_, ?_, fun e he r n hr1 hr5 hn1 hn => ?_, fun e he f hf ha => ?_⟩
  · obtain ⟨i, hi, rfl⟩ := List.mem_iff_getElem.1 he
    exact (h4 i hi).1
  · rw [List.nodup_iff_pairwise_ne, List.pairwise_iff_getElem]
    intro i j hi hj hij he
    simp only [List.length_map, List.getElem_map] at hi hj he
    have := (h4 j hj).2
    rw [Bool.eq_false_iff] at this
    exact this ((findB_iff _ _).2 ⟨l[i], List.mem_take_iff_getElem.2 ⟨i, by omega, rfl⟩, he⟩)
  · have := h2 e he
    simp only [close2, List.all_eq_true] at this
    have := this (r - 1).toNat (by rw [List.mem_range]; omega)
    simp only [close3, List.all_eq_true] at this
    rw [show (((r - 1).toNat : Nat) : Int) + 1 = r by omega] at this
    have := this (n - 1).toNat (by rw [List.mem_range]; omega)
    simp only [close4] at this
    rw [show (((n - 1).toNat : Nat) : Int) + 1 = n by omega] at this
    exact (findB_iff _ _).1 this
  · have := h3 e he f hf
    simp only [passB, ha, Bool.true_and, Bool.not_not] at this
    exact (within_iff _ _).1 this
theorem evOk_facts {e : Ev} (h : evOk e = true) : mayD e.dot = true ∧ clockOk e.past = true ∧ getC e.past e.dot.1 + 1 = e.dot.2 ∧ (∀ x ∈ e.effs, effOk x = true) ∧ e.effs.length ≤ 16 := by
  simp only [evOk, evA, Bool.and_eq_true, List.all_eq_true, decide_eq_true_eq] at h
  exact ⟨h.1.1.1.1.1.1, h.1.1.1.1.1.2, h.1.1.1.2, h.1.1.2, by omega⟩
theorem mayD_facts {d : Dot} (h : mayD d = true) : (1 ≤ d.1 ∧ d.1 ≤ 5) ∧ 1 ≤ d.2 ∧ d.2 ≤ 1048576 := by
  simp only [mayD, Bool.and_eq_true, decide_eq_true_eq] at h
  omega
theorem nodup_inj {l : List Ev} (h : (l.map Ev.dot).Nodup) {a b : Ev} (ha : a ∈ l) (hb : b ∈ l) (he : a.dot = b.dot) : a = b := by
  obtain ⟨i, hi, rfl⟩ := List.mem_iff_getElem.1 ha
  obtain ⟨j, hj, rfl⟩ := List.mem_iff_getElem.1 hb
  rw [List.nodup_iff_pairwise_ne, List.pairwise_iff_getElem] at h
  rcases Nat.lt_trichotomy i j with h1 | h1 | h1
  · have h2 := h i j (by simpa using hi) (by simpa using hj) h1
    simp only [List.getElem_map] at h2
    exact absurd he h2
  · subst h1; rfl
  · have h2 := h j i (by simpa using hj) (by simpa using hi) h1
    simp only [List.getElem_map] at h2
    exact absurd he.symm h2
theorem pigeon : ∀ (a b : List Dot), a.Nodup → (∀ x ∈ a, x ∈ b) → a.length ≤ b.length
  | [], b, _, _ => Nat.zero_le _
  | x :: a, b, h, hs => by
    have hx : x ∈ b := hs x (List.mem_cons_self)
    obtain ⟨h1, h2⟩ := List.nodup_cons.1 h
    have := pigeon a (b.erase x) h2 fun y hy => (List.mem_erase_of_ne (fun e => by subst e; exact h1 hy)).2 (hs y (List.mem_cons_of_mem _ hy))
    rw [List.length_erase_of_mem hx] at this
    have := List.length_pos_of_mem hx
    simp only [List.length_cons]
    omega
theorem sum_eq (c : List Int) : sumTo c 5 = 0 + getC c 1 + getC c 2 + getC c 3 + getC c 4 + getC c 5 := rfl
theorem sum_lt {a b : List Int} (h : ∀ r, getC a r ≤ getC b r) {r : Int} (h1 : 1 ≤ r ∧ r ≤ 5) (h2 : getC a r < getC b r) : sumTo a 5 < sumTo b 5 := by
  have e1 := h 1; have e2 := h 2; have e3 := h 3; have e4 := h 4; have e5 := h 5
  have hr : r = 1 ∨ r = 2 ∨ r = 3 ∨ r = 4 ∨ r = 5 := by omega
  rw [sum_eq, sum_eq]
  rcases hr with rfl | rfl | rfl | rfl | rfl <;> omega
theorem setClk_get (c : List Int) {d : Dot} (hd : mayD d = true) (r : Int) : getC (setClk c d.1 d.2) r = if r = d.1 then d.2 else getC c r := by
  have h := mayD_facts hd
  have e : setClk c d.1 d.2 = setC c d.1 d.2 := refSet_eq c h.1 ⟨by omega, h.2.2⟩
  rw [e, getC_setC c h.1 ⟨by omega, h.2.2⟩]
theorem getC_nil (r : Int) : getC [] r = 0 := by
  unfold getC
  split
  · rename_i h
    have : r = 1 ∨ r = 2 ∨ r = 3 ∨ r = 4 ∨ r = 5 := by omega
    rcases this with rfl | rfl | rfl | rfl | rfl <;> rfl
  · rfl
/-- What holds of an order begun. -/
structure Run (l o : List Ev) (s : List Int) : Prop where
  sub : ∀ e ∈ o, e ∈ l
  nodup : (o.map Ev.dot).Nodup
  done : ∀ e ∈ l, e ∈ o ↔ e.dot.2 ≤ getC s e.dot.1
  past : ∀ e ∈ o, ∀ r, getC e.past r ≤ getC s r
  order : o.Pairwise fun a b => aheadB b a = false
theorem Run.start {l : List Ev} (hg : Good l) : Run l [] [] where
  sub := by simp
  nodup := by simp
  done := fun e he => by
    have := mayD_facts (evOk_facts (hg.may e he)).1
    rw [getC_nil]
    constructor
    · intro h; cases h
    · intro h; omega
  past := by simp
  order := List.Pairwise.nil
theorem canB_iff (s : List Int) (e : Ev) : canB s e = true ↔ getC s e.dot.1 < e.dot.2 ∧ ∀ r, getC e.past r ≤ getC s r := by
  rw [canB, Bool.and_eq_true, decide_eq_true_eq, within_iff]
theorem Run.can {l o : List Ev} {s : List Int} (hg : Good l) (h : Run l o s) : ∀ (n : Nat) (e : Ev), e ∈ l → e ∉ o → sumTo e.past 5 < n → ∃ x ∈ l, canB s x = true
  | 0, e, _, _, hn => by
    have := sumTo_range e.past 5 (Nat.le_refl _)
    omega
  | n + 1, e, he, ho, hn => by
    have hu : getC s e.dot.1 < e.dot.2 := by
      have := (not_congr (h.done e he)).1 ho
      omega
    by_cases hw : ∀ r, getC e.past r ≤ getC s r
    · exact ⟨e, he, (canB_iff s e).2 ⟨hu, hw⟩⟩
    · obtain ⟨r, hr⟩ := Classical.not_forall.1 hw
      have hr0 := (getC_range s r).1
      have hrr : 1 ≤ r ∧ r ≤ 5 := by
        apply Classical.byContradiction
        intro h0
        have : getC e.past r = 0 := by unfold getC; rw [if_neg h0]
        omega
      obtain ⟨f, hf, hd⟩ := hg.down e he r (getC e.past r) hrr.1 hrr.2 (by omega) (Int.le_refl _)
      have hfo : f ∉ o := by
        rw [h.done f hf, hd]
        simp only
        omega
      have hff := evOk_facts (hg.may f hf)
      have ha : aheadB f e = true := by
        rw [aheadB, hff.1, Bool.true_and, decide_eq_true_eq, hd]
        exact Int.le_refl _
      have ht := hg.trans e he f hf ha
      have hs : getC f.past r < getC e.past r := by
        have := hff.2.2.1
        rw [hd] at this
        simp only at this
        omega
      have := sum_lt ht hrr hs
      exact Run.can hg h n f hf hfo (by omega)
theorem Run.more {l o : List Ev} {s : List Int} (hg : Good l) (h : Run l o s) (hl : o.length < l.length) : ∃ e ∈ l, e ∉ o := by
  apply Classical.byContradiction
  intro hn
  have := pigeon (l.map Ev.dot) (o.map Ev.dot) hg.nodup fun x hx => by
    obtain ⟨e, he, rfl⟩ := List.mem_map.1 hx
    exact List.mem_map_of_mem (Classical.byContradiction fun h0 => hn ⟨e, he, h0⟩)
  simp only [List.length_map] at this
  omega
theorem Run.step {l o : List Ev} {s : List Int} (hg : Good l) (h : Run l o s) {x : Ev} (hx : x ∈ l) (hc : canB s x = true) : Run l (o ++ [x]) (setClk s x.dot.1 x.dot.2) := by
  obtain ⟨hc1, hc2⟩ := (canB_iff s x).1 hc
  have hxf := evOk_facts (hg.may x hx)
  have hs := setClk_get s hxf.1
  have hxo : x ∉ o := by
    rw [h.done x hx]; omega
  have hsx : getC s x.dot.1 + 1 = x.dot.2 := by
    have := hc2 x.dot.1
    have := hxf.2.2.1
    omega
  have hmono : ∀ r, getC s r ≤ getC (setClk s x.dot.1 x.dot.2) r := fun r => by
    rw [hs]
    split
    · rename_i h0; subst h0; omega
    · exact Int.le_refl _
  refine ⟨fun e he => ?_, ?_, fun e he => ?_, fun e he r => ?_, ?_⟩
  · rcases List.mem_append.1 he with he | he
    · exact h.sub e he
    · rw [List.mem_singleton] at he; rw [he]; exact hx
  · rw [List.map_append, List.nodup_append]
    refine ⟨h.nodup, by simp, fun a ha b hb hab => ?_⟩
    obtain ⟨e, he, rfl⟩ := List.mem_map.1 ha
    simp only [List.map_cons, List.map_nil, List.mem_singleton] at hb
    rw [hb] at hab
    exact hxo (nodup_inj hg.nodup (h.sub e he) hx hab ▸ he)
  · rw [List.mem_append, h.done e he, List.mem_singleton, hs]
    constructor
    · rintro (h1 | rfl)
      · have := hmono e.dot.1
        rw [hs] at this
        omega
      · simp
    · split
      · rename_i h1
        intro h2
        by_cases h3 : e.dot.2 = x.dot.2
        · exact .inr (nodup_inj hg.nodup he hx (Prod.ext h1 h3))
        · left; rw [h1]; omega
      · exact fun h2 => .inl h2
  · rcases List.mem_append.1 he with he | he
    · exact Int.le_trans (h.past e he r) (hmono r)
    · rw [List.mem_singleton] at he; rw [he]; exact Int.le_trans (hc2 r) (hmono r)
  · refine List.pairwise_append.2 ⟨h.order, by simp, fun a ha b hb => ?_⟩
    rw [List.mem_singleton] at hb
    subst hb
    rw [aheadB, hxf.1, Bool.true_and, decide_eq_false_iff_not]
    have := h.past a ha b.dot.1
    omega
theorem turnTo_run {l : List Ev} (hg : Good l) {turns : List Int} (ht : ∀ x ∈ turns, 0 ≤ x ∧ x < 256) : ∀ i, i ≤ l.length → Run l (turnTo l turns i).1 (turnTo l turns i).2 ∧ (turnTo l turns i).1.length = i
  | 0, _ => ⟨Run.start hg, rfl⟩
  | i + 1, hi => by
    obtain ⟨h1, h2⟩ := turnTo_run hg ht i (by omega)
    obtain ⟨e, he, heo⟩ := h1.more hg (by omega)
    have hr := sumTo_range e.past 5 (Nat.le_refl _)
    obtain ⟨x, hx, hxc⟩ := h1.can hg ((sumTo e.past 5).toNat + 1) e he heo (by omega)
    have hne : 0 < (cans l (turnTo l turns i).2).length := List.length_pos_of_mem (List.mem_filter.2 ⟨hx, hxc⟩)
    have hp := pick_lt ht i hne
    rw [turnTo_go hp]
    have hm := List.mem_filter.1 (List.getElem_mem hp)
    exact ⟨h1.step hg hm.1 hm.2, by simp [h2]⟩
/-- The order holds all events, each once, and nothing stands behind what it is ahead of. -/
theorem turned_spec {l : List Ev} (hg : Good l) {turns : List Int} (ht : ∀ x ∈ turns, 0 ≤ x ∧ x < 256) :
    (turned l turns).length = l.length ∧ (∀ e, e ∈ turned l turns ↔ e ∈ l) ∧ ((turned l turns).map Ev.dot).Nodup ∧ (turned l turns).Pairwise fun a b => aheadB b a = false := by
  obtain ⟨h1, h2⟩ := turnTo_run hg ht l.length (Nat.le_refl _)
  refine ⟨h2, fun e => ⟨h1.sub e, fun he => ?_⟩, h1.nodup, h1.order⟩
  apply Classical.byContradiction
  intro ho
  have := pigeon ((turnTo l turns l.length).1.map Ev.dot ++ [e.dot]) (l.map Ev.dot) (by
    rw [List.nodup_append]
    refine ⟨h1.nodup, by simp, fun a ha b hb hab => ?_⟩
    obtain ⟨x, hx, rfl⟩ := List.mem_map.1 ha
    rw [List.mem_singleton] at hb
    rw [hb] at hab
    exact ho (nodup_inj hg.nodup (h1.sub x hx) he hab ▸ hx)) fun y hy => by
    rcases List.mem_append.1 hy with hy | hy
    · obtain ⟨x, hx, rfl⟩ := List.mem_map.1 hy
      exact List.mem_map_of_mem (h1.sub x hx)
    · rw [List.mem_singleton] at hy; rw [hy]; exact List.mem_map_of_mem he
  simp only [List.length_append, List.length_map, List.length_singleton, h2] at this
  omega
end Go.AM
namespace Go.AM
open Go.Proofs
theorem setOkA_live {s : List Entry} (h : setOkA s = true) {k : ByteArray} (ht : there s k = true) : (atE s k).live ≠ [] := by
  have hlt := there_lt ht
  have hat : atE s k = s[place s k] := by simp [atE, ht, hlt]
  rw [hat]
  exact (((setOkA_iff s).1 h).2 _ (List.getElem_mem hlt)).1
theorem c_awset_turn (s : List Entry) (k : ByteArray) (c : List Int) (more : List Dot) (hs : Fine s) (hl : s.length < 4000) (hc : c.length ≤ 1000000) (ho : setOkA s = true) (hm : more.length ≤ 1000) (hb : (atE s k).live.length ≤ 900000) :
    Pure Try.prog 64 [.sl .fro 3 (entsAV s), .s k, .sl .fro 1 (intsAV c), .sl .fro 2 (dotsAV more)] (.tup [.sl .own 3 (entsAV (turnA s k c more)), .i .i64 0]) := by
  unfold turnA
  split
  · rename_i ht; exact c_awset_turnT s k c more hs hc ht (setOkA_live ho ht) hm hb
  · rename_i ht; exact c_awset_turnM s k c more hs hl (by simpa using ht) hm
def mayA (s : List Entry) (k : ByteArray) (d : Dot) (c : List Int) : Bool := setOkA s && keyOk k && mayD d && clockOk c
def mayB (s : List Entry) (k : ByteArray) (c : List Int) : Bool := setOkA s && keyOk k && clockOk c

set_option maxRecDepth 8000 in
set_option maxHeartbeats 2000000 in
theorem c_awset_Add (s : List Entry) (k : ByteArray) (d : Dot) (c : List Int) (hs : Fine s) (hl : s.length < 4000) (hc : c.length ≤ 1000000) (hb : (atE s k).live.length ≤ 900000) : Pure Try.prog 26 [.sl .fro 3 (entsAV s), .s k, .agg (dotC d), .sl .fro 1 (intsAV c)] (.tup [.sl .own 3 (entsAV (if mayA s k d c then turnA s k c [d] else [])), .i .i64 (if mayA s k d c then 0 else 1)]) := by
  refine proc_of (cx Try.prog 36 [0, 1, 3, 6, 8, 9, 27] [8, 9]) 32 [.tmp 8, .tmp 9] Try.func26 rfl rfl rfl rfl rfl rfl (Nat.le_refl _) rfl ?_
  refine AWp.go [0, 1, 3, 6] [6] fun K hK => ?_
  simp [dotC]
  first | refine hK _ _ ?_ | refine ⟨by omega, hK _ _ ?_⟩ | refine ⟨by omega, by omega, hK _ _ ?_⟩
  clear hK K
  refine AWp.seq ?_
  refine AWp.step [0, 1, 3, 6, 27] [6] [(0, .sl .fro 3 (entsAV s)), (1, .s k), (3, .sl .fro 1 (intsAV c)), (6, .ptr 6 0), (27, .b (!mayA s k d c))] [(6, [.i .i64 d.1, .i .i64 d.2])] ?_ ?_
  · have g1 := c_awset_Check s hs
    have g2 := c_awset_rightKey k
    have g3 := c_dots_May d
    have g4 := c100 c (by omega)
    simp
    refine call_pure g1 (by simp) ?_
    cases q1 : setOkA s
    · simp [mayA, q1]
    simp
    refine call_pure g2 (by simp) ?_
    cases q2 : keyOk k
    · simp [mayA, q2]
    simp
    refine call_pure g3 (by simp [dotC]) ?_
    cases q3 : mayD d
    · simp [mayA, q3]
    simp
    refine call_pure g4 (by simp) ?_
    cases q4 : clockOk c <;> simp [mayA, q1, q2, q3, q4]
  cases hg : mayA s k d c
  · refine AWp.cond (t := true) (by simp) (fun _ => ?_) (by simp)
    refine AWp.go [8, 9] [] fun K hK => ?_
    simp
    first | refine hK _ _ ?_ | refine ⟨by omega, hK _ _ ?_⟩ | refine ⟨by omega, by omega, hK _ _ ?_⟩
    clear hK K
    refine AWp.ret ?_
    simp [entsAV]
  · refine AWp.cond (t := false) (by simp) (by simp) (fun _ => ?_)
    refine AWp.skip ?_
    show AWp _ _ _ _
    have ho : setOkA s = true := by
      simp [mayA] at hg
      exact hg.1.1.1
    refine AWp.go [8, 9] [] fun K hK => ?_
    simp
    refine call_pure (c_awset_turn s k c [d] hs hl hc ho (by simp) hb) (by simp [dotsAV, dotC]) ?_
    simp
    first | refine hK _ _ ?_ | refine ⟨by omega, hK _ _ ?_⟩ | refine ⟨by omega, by omega, hK _ _ ?_⟩
    clear hK K
    refine AWp.ret ?_
    simp

set_option maxRecDepth 8000 in
set_option maxHeartbeats 2000000 in
theorem c_awset_Drop (s : List Entry) (k : ByteArray) (c : List Int) (hs : Fine s) (hl : s.length < 4000) (hc : c.length ≤ 1000000) (hb : (atE s k).live.length ≤ 900000) : Pure Try.prog 27 [.sl .fro 3 (entsAV s), .s k, .sl .fro 1 (intsAV c)] (.tup [.sl .own 3 (entsAV (if mayB s k c then turnA s k c [] else [])), .i .i64 (if mayB s k c then 0 else 1)]) := by
  refine proc_of (cx Try.prog 27 [0, 1, 2, 6, 7, 20] [6, 7]) 24 [.tmp 6, .tmp 7] Try.func27 rfl rfl rfl rfl rfl rfl (Nat.le_refl _) rfl ?_
  refine AWp.go [0, 1, 2] [] fun K hK => ?_
  simp
  first | refine hK _ _ ?_ | refine ⟨by omega, hK _ _ ?_⟩ | refine ⟨by omega, by omega, hK _ _ ?_⟩
  clear hK K
  refine AWp.seq ?_
  refine AWp.step [0, 1, 2, 20] [] [(0, .sl .fro 3 (entsAV s)), (1, .s k), (2, .sl .fro 1 (intsAV c)), (20, .b (!mayB s k c))] [] ?_ ?_
  · have g1 := c_awset_Check s hs
    have g2 := c_awset_rightKey k
    have g4 := c100 c (by omega)
    simp
    refine call_pure g1 (by simp) ?_
    cases q1 : setOkA s
    · simp [mayB, q1]
    simp
    refine call_pure g2 (by simp) ?_
    cases q2 : keyOk k
    · simp [mayB, q2]
    simp
    refine call_pure g4 (by simp) ?_
    cases q4 : clockOk c <;> simp [mayB, q1, q2, q4]
  cases hg : mayB s k c
  · refine AWp.cond (t := true) (by simp) (fun _ => ?_) (by simp)
    refine AWp.go [6, 7] [] fun K hK => ?_
    simp
    first | refine hK _ _ ?_ | refine ⟨by omega, hK _ _ ?_⟩ | refine ⟨by omega, by omega, hK _ _ ?_⟩
    clear hK K
    refine AWp.ret ?_
    simp [entsAV]
  · refine AWp.cond (t := false) (by simp) (by simp) (fun _ => ?_)
    refine AWp.skip ?_
    show AWp _ _ _ _
    have ho : setOkA s = true := by
      simp [mayB] at hg
      exact hg.1.1
    refine AWp.go [6, 7] [] fun K hK => ?_
    simp
    refine call_pure (c_awset_turn s k c [] hs hl hc ho (by simp) hb) (by simp [dotsAV]) ?_
    simp
    first | refine hK _ _ ?_ | refine ⟨by omega, hK _ _ ?_⟩ | refine ⟨by omega, by omega, hK _ _ ?_⟩
    clear hK K
    refine AWp.ret ?_
    simp

set_option maxRecDepth 8000 in
theorem c_awset_Has (s : List Entry) (k : ByteArray) (hs : Fine s) : Pure Try.prog 37 [.sl .fro 3 (entsAV s), .s k] (.b (setOkA s && there s k)) := by
  refine proc_of (cx Try.prog 17 [0, 1, 4, 6, 9] [4]) 15 [.tmp 4] Try.func37 rfl rfl rfl rfl rfl rfl (Nat.le_refl _) rfl ?_
  refine AWp.go [0, 1] [] fun K hK => ?_
  simp
  first | refine hK _ _ ?_ | refine ⟨by omega, hK _ _ ?_⟩ | refine ⟨by omega, by omega, hK _ _ ?_⟩
  clear hK K
  refine AWp.seq ?_
  refine AWp.go [0, 1, 9] [] fun K hK => ?_
  simp
  refine call_pure (c_awset_Check s hs) (by simp) ?_
  simp
  first | refine hK _ _ ?_ | refine ⟨by omega, hK _ _ ?_⟩ | refine ⟨by omega, by omega, hK _ _ ?_⟩
  clear hK K
  cases hg : setOkA s
  · refine AWp.cond (t := true) (by simp) (fun _ => ?_) (by simp)
    refine AWp.go [4] [] fun K hK => ?_
    simp
    first | refine hK _ _ ?_ | refine ⟨by omega, hK _ _ ?_⟩ | refine ⟨by omega, by omega, hK _ _ ?_⟩
    clear hK K
    refine AWp.ret ?_
    simp
  · refine AWp.cond (t := false) (by simp) (by simp) (fun _ => ?_)
    refine AWp.skip ?_
    show AWp _ _ _ _
    refine AWp.go [6] [] fun K hK => ?_
    simp
    refine call_pure (c_awset_find s k hs) (by simp) ?_
    simp
    first | refine hK _ _ ?_ | refine ⟨by omega, hK _ _ ?_⟩ | refine ⟨by omega, by omega, hK _ _ ?_⟩
    clear hK K
    refine AWp.go [4] [] fun K hK => ?_
    simp
    first | refine hK _ _ ?_ | refine ⟨by omega, hK _ _ ?_⟩ | refine ⟨by omega, by omega, hK _ _ ?_⟩
    clear hK K
    refine AWp.ret ?_
    simp

theorem aw_1 : turnA [] kK [] [(1, 1)] = [wkA] := by
  unfold turnA turnM
  simp only [there_nil, place_nil, ordP_one]
  rfl
theorem wkA_okA : setOkA [wkA] = true := by kernel_rfl
theorem aw_2 : turnA [wkA] kK [0, 3] [] = [wkA] := by rw [drop_lawA wkA_okA]; kernel_rfl
theorem aw_3 : turnA [wkA] kK [1] [] = [] := by rw [drop_lawA wkA_okA]; kernel_rfl

set_option maxRecDepth 8000 in
set_option maxHeartbeats 4000000 in
theorem c_law08_awake : Pure Try.prog 25 [] (.b true) := by
  have eA : entsAV [wkA] = [entC wkA] := rfl
  have hat : atE [wkA] kK = wkA := atE_one wkA
  have hth : there [wkA] kK = true := there_one wkA
  have gA := c_awset_Add [] kK (1, 1) [] fine_nil (by simp) (by simp) (by simp [atE, there_nil, emptyE])
  have gD := c_awset_Drop [wkA] kK [0, 3] (fine_one _ (by decide)) (by simp) (by simp) (by rw [hat]; decide)
  have gE := c_awset_Drop [wkA] kK [1] (fine_one _ (by decide)) (by simp) (by simp) (by rw [hat]; decide)
  have hA := c_awset_Has [wkA] kK (fine_one _ (by decide))
  have hB := c_awset_Has [] kK fine_nil
  rw [show mayA [] kK (1, 1) [] = true by kernel_rfl, aw_1] at gA
  rw [show mayB [wkA] kK [0, 3] = true by kernel_rfl, aw_2] at gD
  rw [show mayB [wkA] kK [1] = true by kernel_rfl, aw_3] at gE
  rw [wkA_okA, hth] at hA
  rw [there_nil, Bool.and_false] at hB
  simp only [if_true] at gA gD gE
  refine proc_of (cx Try.prog 43 [0, 1, 2, 3, 4, 5, 6] [0]) 43 [.tmp 0] Try.func25 rfl rfl rfl rfl rfl rfl (Nat.le_refl _) rfl ?_
  refine AWp.go [] [] fun K hK => ?_
  simp
  first | refine hK _ _ ?_ | refine ⟨by omega, hK _ _ ?_⟩ | refine ⟨by omega, by omega, hK _ _ ?_⟩
  clear hK K
  refine AWp.go [1, 2] [] fun K hK => ?_
  simp
  refine call_pure gA (by simp [dotC, entsAV, intsAV]) ?_
  simp
  first | refine hK _ _ ?_ | refine ⟨by omega, hK _ _ ?_⟩ | refine ⟨by omega, by omega, hK _ _ ?_⟩
  clear hK K
  refine AWp.frz [1] ?_
  simp
  refine AWp.go [1, 2, 3, 4] [] fun K hK => ?_
  simp
  refine call_pure gD (by simp [intsAV]) ?_
  simp
  first | refine hK _ _ ?_ | refine ⟨by omega, hK _ _ ?_⟩ | refine ⟨by omega, by omega, hK _ _ ?_⟩
  clear hK K
  refine AWp.frz [3] ?_
  simp
  refine AWp.go [2, 3, 4, 5, 6] [] fun K hK => ?_
  simp
  refine call_pure gE (by simp [intsAV]) ?_
  simp
  first | refine hK _ _ ?_ | refine ⟨by omega, hK _ _ ?_⟩ | refine ⟨by omega, by omega, hK _ _ ?_⟩
  clear hK K
  refine AWp.frz [5] ?_
  simp
  refine AWp.step [0] [] [(0, .b true)] [] ?_ ?_
  · simp
    refine call_pure hA (by simp) ?_
    simp
    refine call_pure hB (by simp) ?_
    simp
  refine AWp.ret ?_
  simp
end Go.AM
namespace Go.AM
open Go.Proofs
theorem Within.get {n : Nat} {s : List Entry} (h : Within n s) (k : ByteArray) : (getE s k).live.length ≤ n ∧ (getE s k).dead.length ≤ n := by
  rcases getE_mem s k with hm | he
  · exact h.2 _ hm
  · rw [he]; simp [emptyE]
theorem Within.putA {n : Nat} {s : List Entry} (h : Within n s) (hs : SortE s) {e : Entry} (he : e.live.length ≤ n + 1 ∧ e.dead.length ≤ n + 1) : Within (n + 1) (putE s e) :=
  ⟨by have := putA_len s hs e; have := h.1; omega, fun x hx => by
    rcases putA_mem hs hx with hx | hx
    · have := h.2 x hx; omega
    · rw [hx]; exact he⟩
theorem Within.addA {n : Nat} {s : List Entry} (h : Within n s) (hs : SortE s) (k : ByteArray) (d : Dot) (c : List Int) : Within (n + 1) (addA s k d c) := by
  have h2 := h.get k
  have h3 := leftD_len (getE s k).live c
  have h4 : (putD (leftD (getE s k).live c) d).length ≤ (leftD (getE s k).live c).length + 1 := putD_length _ _
  exact h.putA hs ⟨by dsimp only; omega, by simp⟩
theorem Within.dropA {n : Nat} {s : List Entry} (h : Within n s) (hs : SortE s) (k : ByteArray) (c : List Int) : Within (n + 1) (dropA s k c) := by
  have h2 := h.get k
  have h3 := leftD_len (getE s k).live c
  exact h.putA hs ⟨by dsimp only; omega, by simp⟩
theorem setA_sort {s : List Entry} (h : setOkA s = true) : SortE s := setOk_sort ((setOkA_iff s).1 h).1
end Go.AM
namespace Go.AM
/-- What lives of a key. -/
def gl (s : List Entry) (k : ByteArray) : List Dot := (getE s k).live
theorem eqK_self (k : ByteArray) : eqK k k = true := by simp [eqK]
theorem gl_put {s : List Entry} (hs : SortE s) (k0 : ByteArray) (l : List Dot) (k : ByteArray) : gl (putE s ⟨k0, l, []⟩) k = if eqK k0 k then l else gl s k := by
  unfold gl
  split
  · rename_i h
    rw [← key_ext h, putA_get hs]
  · rename_i h
    rw [putA_other hs ⟨k0, l, []⟩ k (by simpa using h)]
theorem putA_sort {s : List Entry} (hs : SortE s) (e : Entry) : SortE (putE s e) := by
  cases hn : noneE e with
  | false => rw [← putS_eq hs hn]; exact putS_sort hs e
  | true => rw [putE_none _ _ hn]; exact List.Pairwise.filter _ hs
/-- Sets as they may be here: in order, each entry with dots that live and none that is dead. -/
def Neat (s : List Entry) : Prop := SortE s ∧ ∀ e ∈ s, e.live ≠ [] ∧ e.dead = []
theorem neat_put {s : List Entry} (h : Neat s) (k : ByteArray) (l : List Dot) : Neat (putE s ⟨k, l, []⟩) := by
  refine ⟨putA_sort h.1 _, fun e he => ?_⟩
  rw [putA_form h.1] at he
  rcases List.mem_append.1 he with he | he
  · exact h.2 e (List.mem_of_mem_take he)
  · rcases List.mem_append.1 he with he | he
    · split at he
      · cases he
      · rename_i hn
        rw [List.mem_singleton] at he
        rw [he]
        exact ⟨fun h0 => hn (by simp only at h0; simp [noneE, h0]), rfl⟩
    · exact h.2 e (List.mem_of_mem_drop he)
theorem neat_of {s : List Entry} (h : setOkA s = true) : Neat s := ⟨setA_sort h, ((setOkA_iff s).1 h).2⟩
theorem pairwise_ext {α : Type} {R : α → α → Prop} (irr : ∀ a, ¬ R a a) (asy : ∀ a b, R a b → ¬ R b a) : ∀ {l m : List α}, l.Pairwise R → m.Pairwise R → (∀ x, x ∈ l ↔ x ∈ m) → l = m
  | [], [], _, _, _ => rfl
  | [], b :: m, _, _, h => by have := (h b).2 List.mem_cons_self; cases this
  | a :: l, [], _, _, h => by have := (h a).1 List.mem_cons_self; cases this
  | a :: l, b :: m, h1, h2, h => by
    obtain ⟨p1, q1⟩ := List.pairwise_cons.1 h1
    obtain ⟨p2, q2⟩ := List.pairwise_cons.1 h2
    have hab : a = b := by
      rcases List.mem_cons.1 ((h a).1 List.mem_cons_self) with h3 | h3
      · exact h3
      · rcases List.mem_cons.1 ((h b).2 List.mem_cons_self) with h4 | h4
        · exact h4.symm
        · exact absurd (p1 b h4) (asy _ _ (p2 a h3))
    subst hab
    rw [pairwise_ext irr asy q1 q2 fun x => ?_]
    constructor
    · intro hx
      rcases List.mem_cons.1 ((h x).1 (List.mem_cons_of_mem _ hx)) with h3 | h3
      · subst h3; exact absurd (p1 x hx) (irr x)
      · exact h3
    · intro hx
      rcases List.mem_cons.1 ((h x).2 (List.mem_cons_of_mem _ hx)) with h3 | h3
      · subst h3; exact absurd (p2 x hx) (irr x)
      · exact h3
theorem getE_self {s : List Entry} (hs : SortE s) {e : Entry} (he : e ∈ s) : getE s e.key = e := by
  rcases getE_cases s e.key with ⟨x, hx, ex, g⟩ | ⟨hn, _⟩
  · rw [g]; exact ent_uniq hs hx he ex (eqK_self _)
  · have := hn e he
    rw [eqK_self] at this; cases this
theorem neat_sub {s w : List Entry} (hs : Neat s) (hw : Neat w) (h : ∀ k, gl s k = gl w k) {e : Entry} (he : e ∈ s) : e ∈ w := by
  have h1 := getE_self hs.1 he
  have h2 := h e.key
  unfold gl at h2
  rw [h1] at h2
  rcases getE_cases w e.key with ⟨y, hy, ey, g⟩ | ⟨_, g⟩
  · rw [g] at h2
    have hk := key_ext ey
    have hd1 := (hs.2 e he).2
    have hd2 := (hw.2 y hy).2
    obtain ⟨ke, le, de⟩ := e
    obtain ⟨ky, ly, dy⟩ := y
    simp only at h2 hk hd1 hd2
    subst h2 hk hd1 hd2
    exact hy
  · rw [g] at h2
    exact absurd h2 (hs.2 e he).1
theorem neat_ext {s w : List Entry} (hs : Neat s) (hw : Neat w) (h : ∀ k, gl s k = gl w k) : s = w :=
  pairwise_ext (fun a => KL.irrefl a.key) (fun _ _ h1 h2 => KL.irrefl _ (h1.trans h2)) hs.1 hw.1 fun _ => ⟨neat_sub hs hw h, neat_sub hw hs fun k => (h k).symm⟩

/-- One effect of an event is done. -/
def actA (thing : Int) (e : Ev) (s : List Entry) (x : Eff) : List Entry :=
  if decide (x.thing = thing) && decide (x.kind = 1) then addA s x.key e.dot e.past
  else if decide (x.thing = thing) && decide (x.kind = 2) && !doesB e 1 thing x.key then dropA s x.key e.past
  else s
def actsA (thing : Int) (e : Ev) (s : List Entry) (k : Nat) : List Entry := (e.effs.take k).foldl (actA thing e) s
def foldTo (thing : Int) (o : List Ev) (i : Nat) : List Entry := (o.take i).foldl (fun s e => e.effs.foldl (actA thing e) s) []
theorem actsA_succ (thing : Int) (e : Ev) (s : List Entry) (k : Nat) (h : k < e.effs.length) : actsA thing e s (k + 1) = actA thing e (actsA thing e s k) e.effs[k] := by
  unfold actsA
  rw [List.take_succ_eq_append_getElem h, List.foldl_append]
  rfl
theorem foldTo_succ (thing : Int) (o : List Ev) (i : Nat) (h : i < o.length) : foldTo thing o (i + 1) = actsA thing o[i] (foldTo thing o i) o[i].effs.length := by
  unfold foldTo actsA
  rw [List.take_succ_eq_append_getElem h, List.foldl_append, List.take_length]
  rfl
/-- A set under way: it may be, and is not great. -/
def Way (n : Nat) (s : List Entry) : Prop := setOkA s = true ∧ Within n s
theorem Way.act {n : Nat} {s : List Entry} (h : Way n s) (hn : n < 3999) {e : Ev} (he : evOk e = true) {x : Eff} (hx : x ∈ e.effs) (thing : Int) : Way (n + 1) (actA thing e s x) := by
  obtain ⟨f1, f2, _, f4, _⟩ := evOk_facts he
  have hk := effOk_key (f4 x hx)
  have hs := setA_sort h.1
  have hl := h.2.1
  unfold actA
  split
  · exact ⟨addA_ok h.1 (by omega) hk f1 _, h.2.addA hs _ _ _⟩
  · split
    · exact ⟨dropA_ok h.1 (by omega) hk _, h.2.dropA hs _ _⟩
    · exact ⟨h.1, by have := h.2.1; omega, fun y hy => by have := h.2.2 y hy; omega⟩
theorem Way.acts {n : Nat} {s : List Entry} (h : Way n s) {e : Ev} (he : evOk e = true) (thing : Int) : ∀ k, k ≤ e.effs.length → n + k < 3999 → Way (n + k) (actsA thing e s k)
  | 0, _, _ => h
  | k + 1, hk, hn => by
    rw [actsA_succ thing e s k (by omega)]
    exact (Way.acts h he thing k (by omega) (by omega)).act (by omega) he (List.getElem_mem (by omega)) thing
theorem Way.le {n m : Nat} {s : List Entry} (h : Way n s) (hnm : n ≤ m) : Way m s := ⟨h.1, by have := h.2.1; omega, fun y hy => by have := h.2.2 y hy; omega⟩
theorem Way.fold {o : List Ev} (ho : ∀ e ∈ o, evOk e = true) (thing : Int) : ∀ i, i ≤ o.length → 16 * i < 3900 → Way (16 * i) (foldTo thing o i)
  | 0, _, _ => ⟨rfl, by simp [foldTo], by simp [foldTo]⟩
  | i + 1, hi, hn => by
    have he := ho _ (List.getElem_mem (show i < o.length by omega))
    have h16 := (evOk_facts he).2.2.2.2
    rw [foldTo_succ thing o i (by omega)]
    exact ((Way.fold ho thing i (by omega) (by omega)).acts he thing _ (Nat.le_refl _) (by omega)).le (by omega)

/-- Does an effect touch a key of a thing? -/
def touchX (e : Ev) (thing : Int) (k : ByteArray) (x : Eff) : Bool := hitE 1 thing k x || (hitE 2 thing k x && !doesB e 1 thing k)
def opE (e : Ev) (thing : Int) (k : ByteArray) (l : List Dot) : List Dot := if doesB e 1 thing k then putD (leftD l e.past) e.dot else leftD l e.past
theorem act_get {s : List Entry} (hs : SortE s) (thing : Int) (e : Ev) {x : Eff} (hx : x ∈ e.effs) (k : ByteArray) : gl (actA thing e s x) k = if touchX e thing k x then opE e thing k (gl s k) else gl s k := by
  unfold actA touchX
  by_cases h1 : (decide (x.thing = thing) && decide (x.kind = 1)) = true
  · rw [if_pos h1]
    simp only [Bool.and_eq_true, decide_eq_true_eq] at h1
    rw [addA, gl_put hs]
    have e2 : hitE 2 thing k x = false := by simp [hitE, h1.2]
    have e1 : hitE 1 thing k x = eqK x.key k := by simp [hitE, h1.1, h1.2]
    rw [e1, e2]
    cases hk : eqK x.key k with
    | false => simp
    | true =>
      have hd : doesB e 1 thing k = true := List.any_eq_true.2 ⟨x, hx, by rw [e1, hk]⟩
      simp only [Bool.true_or, if_true, opE, hd]
      rw [key_ext hk]
      rfl
  · rw [if_neg h1]
    have e1 : hitE 1 thing k x = false := by
      simp only [Bool.and_eq_true, decide_eq_true_eq] at h1
      simp only [hitE, Bool.and_eq_false_iff, decide_eq_false_iff_not]
      by_cases h2 : x.kind = 1
      · exact .inl (.inr fun h3 => h1 ⟨h3, h2⟩)
      · exact .inl (.inl h2)
    rw [e1, Bool.false_or]
    by_cases h2 : (decide (x.thing = thing) && decide (x.kind = 2) && !doesB e 1 thing x.key) = true
    · rw [if_pos h2]
      simp only [Bool.and_eq_true, decide_eq_true_eq, Bool.not_eq_true'] at h2
      rw [dropA, gl_put hs]
      have e2 : hitE 2 thing k x = eqK x.key k := by simp [hitE, h2.1.1, h2.1.2]
      rw [e2]
      cases hk : eqK x.key k with
      | false => simp
      | true =>
        have h3 := h2.2
        rw [key_ext hk] at h3 ⊢
        simp only [h3, Bool.not_false, Bool.and_self, if_true, opE, Bool.false_eq_true, if_false]
        rfl
    · rw [if_neg h2]
      have e2 : (hitE 2 thing k x && !doesB e 1 thing k) = false := by
        rw [Bool.eq_false_iff]
        intro h3
        simp only [hitE, Bool.and_eq_true, decide_eq_true_eq, Bool.not_eq_true'] at h3
        refine h2 ?_
        simp only [Bool.and_eq_true, decide_eq_true_eq, Bool.not_eq_true']
        rw [key_ext h3.1.2]
        exact ⟨⟨h3.1.1.2, h3.1.1.1⟩, h3.2⟩
      rw [e2]
      simp
theorem gl_sorted {s : List Entry} (h : setOkA s = true) (k : ByteArray) : Sorted (gl s k) := ((rowsB_iff _).1 (get_rows ((setOkA_iff s).1 h).1 k).1).2
theorem mem_left (l : List Dot) (c : List Int) (d : Dot) : d ∈ leftD l c ↔ d ∈ l ∧ ¬ d.2 ≤ getC c d.1 := by
  simp [leftD, List.mem_filter]
theorem opE_sorted (e : Ev) (thing : Int) (k : ByteArray) {l : List Dot} (h : Sorted l) : Sorted (opE e thing k l) := by
  unfold opE
  split
  · exact sorted_putD (sorted_left h _) _
  · exact sorted_left h _
theorem mem_opE (e : Ev) (thing : Int) (k : ByteArray) (l : List Dot) (d : Dot) : d ∈ opE e thing k l ↔ (d ∈ l ∧ ¬ d.2 ≤ getC e.past d.1) ∨ (doesB e 1 thing k = true ∧ d = e.dot) := by
  unfold opE
  split
  · rename_i h; rw [mem_putD, mem_left]; simp [h]
  · rename_i h; rw [mem_left]; simp [h]
theorem opE_twice {e : Ev} (he : evOk e = true) (thing : Int) (k : ByteArray) {l : List Dot} (h : Sorted l) : opE e thing k (opE e thing k l) = opE e thing k l := by
  have f3 := (evOk_facts he).2.2.1
  refine Sorted.ext (opE_sorted e thing k (opE_sorted e thing k h)) (opE_sorted e thing k h) fun d => ?_
  rw [mem_opE, mem_opE]
  constructor
  · rintro (⟨h1, _⟩ | h1)
    · exact h1
    · exact .inr h1
  · rintro (h1 | h1)
    · exact .inl ⟨.inl h1, h1.2⟩
    · exact .inr h1
theorem acts_get {n : Nat} {s : List Entry} (h : Way n s) {e : Ev} (he : evOk e = true) (thing : Int) (k : ByteArray) : ∀ m, m ≤ e.effs.length → n + m < 3999 → gl (actsA thing e s m) k = if (e.effs.take m).any (touchX e thing k) then opE e thing k (gl s k) else gl s k
  | 0, _, _ => by simp [actsA]
  | m + 1, hm, hn => by
    have ih := acts_get h he thing k m (by omega) (by omega)
    have hw := h.acts he thing m (by omega) (by omega)
    rw [actsA_succ thing e s m (by omega), act_get (setA_sort hw.1) thing e (List.getElem_mem (by omega)), ih, List.take_succ_eq_append_getElem (by omega), List.any_append]
    cases h1 : (e.effs.take m).any (touchX e thing k) <;> cases h2 : touchX e thing k e.effs[m] <;> simp [h2, opE_twice he thing k (gl_sorted h.1 k)]
theorem touch_any (e : Ev) (thing : Int) (k : ByteArray) : e.effs.any (touchX e thing k) = touchB e thing k := by
  rw [Bool.eq_iff_iff, touchB, Bool.or_eq_true]
  unfold doesB touchX
  rw [List.any_eq_true, List.any_eq_true, List.any_eq_true]
  constructor
  · rintro ⟨x, hx, h⟩
    rw [Bool.or_eq_true, Bool.and_eq_true] at h
    rcases h with h | h
    · exact .inl ⟨x, hx, h⟩
    · exact .inr ⟨x, hx, h.1⟩
  · intro h
    by_cases h0 : ∃ x ∈ e.effs, hitE 1 thing k x = true
    · obtain ⟨x, hx, h1⟩ := h0
      exact ⟨x, hx, by rw [h1]; rfl⟩
    · rcases h with h | ⟨x, hx, h⟩
      · exact absurd h h0
      · refine ⟨x, hx, ?_⟩
        have : doesB e 1 thing k = false := by
          rw [Bool.eq_false_iff, doesB, ne_eq, List.any_eq_true]; exact h0
        rw [h, this]; simp
end Go.AM
namespace Go.AM
theorem ahead_self {e : Ev} (he : evOk e = true) : aheadB e e = false := by
  have f := evOk_facts he
  rw [aheadB, f.1, Bool.true_and, decide_eq_false_iff_not]
  omega
theorem ahead_not {a e : Ev} (ha : evOk a = true) : aheadB a e = false ↔ ¬ a.dot.2 ≤ getC e.past a.dot.1 := by
  rw [aheadB, (evOk_facts ha).1, Bool.true_and, decide_eq_false_iff_not]
/-- What lives behind the first events. -/
theorem fold_mem {o : List Ev} (ho : ∀ e ∈ o, evOk e = true) (hord : o.Pairwise fun a b => aheadB b a = false) (thing : Int) (k : ByteArray) (d : Dot) : ∀ i, i ≤ o.length → 16 * i < 3900 →
    (d ∈ gl (foldTo thing o i) k ↔ ∃ a ∈ o.take i, a.dot = d ∧ doesB a 1 thing k = true ∧ ∀ b ∈ o.take i, clashB a thing k b = false)
  | 0, _, _ => by simp [foldTo, gl, getE, emptyE]
  | i + 1, hi, hn => by
    have ih := fold_mem ho hord thing k d i (by omega) (by omega)
    have hlt : i < o.length := by omega
    have hem := List.getElem_mem hlt
    have he := ho _ hem
    have f := evOk_facts he
    have hW := Way.fold ho thing i (by omega) (by omega)
    rw [foldTo_succ thing o i hlt, acts_get hW he thing k _ (Nat.le_refl _) (by omega), List.take_length, touch_any, List.take_succ_eq_append_getElem hlt]
    have hback : ∀ b ∈ o.take i, aheadB o[i] b = false := fun b hb => by
      obtain ⟨j, hj, rfl⟩ := List.mem_take_iff_getElem.1 hb
      exact List.pairwise_iff_getElem.1 hord j i (by omega) hlt (by omega)
    have hoks : ∀ a ∈ o.take i, evOk a = true := fun a ha => ho a (List.mem_of_mem_take ha)
    obtain ⟨e, hee⟩ : ∃ e, e = o[i] := ⟨_, rfl⟩
    rw [← hee] at hback he f ⊢
    have hes := ahead_self he
    cases ht : touchB e thing k with
    | false =>
      simp only [Bool.false_eq_true, if_false]
      rw [ih]
      have hd1 : doesB e 1 thing k = false := by
        simp only [touchB, Bool.or_eq_false_iff] at ht; exact ht.1
      constructor
      · rintro ⟨a, ha, h1, h2, h3⟩
        refine ⟨a, List.mem_append_left _ ha, h1, h2, fun b hb => ?_⟩
        rcases List.mem_append.1 hb with hb | hb
        · exact h3 b hb
        · rw [List.mem_singleton] at hb; subst hb
          simp [clashB, ht]
      · rintro ⟨a, ha, h1, h2, h3⟩
        rcases List.mem_append.1 ha with ha | ha
        · exact ⟨a, ha, h1, h2, fun b hb => h3 b (List.mem_append_left _ hb)⟩
        · rw [List.mem_singleton] at ha; subst ha
          rw [hd1] at h2; cases h2
    | true =>
      simp only [if_true]
      rw [mem_opE, ih]
      constructor
      · rintro (⟨⟨a, ha, h1, h2, h3⟩, h4⟩ | ⟨h1, h2⟩)
        · refine ⟨a, List.mem_append_left _ ha, h1, h2, fun b hb => ?_⟩
          rcases List.mem_append.1 hb with hb | hb
          · exact h3 b hb
          · rw [List.mem_singleton] at hb; subst hb
            rw [← h1] at h4
            rw [clashB, (ahead_not (hoks a ha)).2 h4, Bool.false_and]
        · refine ⟨e, List.mem_append_right _ (List.mem_singleton.2 rfl), h2.symm, h1, fun b hb => ?_⟩
          rcases List.mem_append.1 hb with hb | hb
          · rw [clashB, hback b hb, Bool.false_and]
          · rw [List.mem_singleton] at hb; subst hb
            rw [clashB, hes, Bool.false_and]
      · rintro ⟨a, ha, h1, h2, h3⟩
        rcases List.mem_append.1 ha with ha | ha
        · left
          refine ⟨⟨a, ha, h1, h2, fun b hb => h3 b (List.mem_append_left _ hb)⟩, ?_⟩
          have := h3 e (List.mem_append_right _ (List.mem_singleton.2 rfl))
          rw [clashB, ht, Bool.and_true] at this
          rw [← h1]
          exact (ahead_not (hoks a ha)).1 this
        · rw [List.mem_singleton] at ha; subst ha
          exact .inr ⟨h2, h1.symm⟩
theorem mem_liveTo (l : List Ev) (thing : Int) (k : ByteArray) (d : Dot) : ∀ i, i ≤ l.length → (d ∈ liveTo l thing k i ↔ ∃ a ∈ l.take i, aliveA l thing k a = true ∧ a.dot = d)
  | 0, _ => by simp [liveTo]
  | i + 1, h => by
    have ih := mem_liveTo l thing k d i (by omega)
    have hlt : i < l.length := by omega
    rw [liveTo_succ l thing k i hlt, List.take_succ_eq_append_getElem hlt]
    cases ha : aliveA l thing k l[i] with
    | true =>
      simp only [if_true]
      rw [mem_putD, ih]
      constructor
      · rintro (⟨a, h1, h2, h3⟩ | h1)
        · exact ⟨a, List.mem_append_left _ h1, h2, h3⟩
        · exact ⟨_, List.mem_append_right _ (List.mem_singleton.2 rfl), ha, h1.symm⟩
      · rintro ⟨a, h1, h2, h3⟩
        rcases List.mem_append.1 h1 with h1 | h1
        · exact .inl ⟨a, h1, h2, h3⟩
        · rw [List.mem_singleton] at h1; subst h1; exact .inr h3.symm
    | false =>
      simp only [Bool.false_eq_true, if_false]
      rw [ih]
      constructor
      · rintro ⟨a, h1, h2, h3⟩
        exact ⟨a, List.mem_append_left _ h1, h2, h3⟩
      · rintro ⟨a, h1, h2, h3⟩
        rcases List.mem_append.1 h1 with h1 | h1
        · exact ⟨a, h1, h2, h3⟩
        · rw [List.mem_singleton] at h1; subst h1; rw [ha] at h2; cases h2
theorem liveTo_sorted (l : List Ev) (thing : Int) (k : ByteArray) : ∀ i, i ≤ l.length → Sorted (liveTo l thing k i)
  | 0, _ => List.Pairwise.nil
  | i + 1, h => by
    rw [liveTo_succ l thing k i (by omega)]
    split
    · exact sorted_putD (liveTo_sorted l thing k i (by omega)) _
    · exact liveTo_sorted l thing k i (by omega)
theorem alive_iff (l : List Ev) (thing : Int) (k : ByteArray) (a : Ev) : aliveA l thing k a = true ↔ doesB a 1 thing k = true ∧ ∀ b ∈ l, clashB a thing k b = false := by
  rw [aliveA, aliveTo, List.take_length, Bool.and_eq_true, Bool.not_eq_true', List.any_eq_false]
  simp
theorem fold_live {l o : List Ev} (hl : l.length ≤ 14) (hlo : o.length = l.length) (hm : ∀ e, e ∈ o ↔ e ∈ l) (hg : ∀ e ∈ l, evOk e = true) (hord : o.Pairwise fun a b => aheadB b a = false) (thing : Int) (k : ByteArray) :
    gl (foldTo thing o o.length) k = liveA l thing k := by
  have ho : ∀ e ∈ o, evOk e = true := fun e he => hg e ((hm e).1 he)
  have hW := Way.fold ho thing o.length (Nat.le_refl _) (by omega)
  refine Sorted.ext (gl_sorted hW.1 k) (liveTo_sorted l thing k _ (Nat.le_refl _)) fun d => ?_
  rw [fold_mem ho hord thing k d _ (Nat.le_refl _) (by omega), List.take_length]
  unfold liveA
  rw [mem_liveTo l thing k d _ (Nat.le_refl _), List.take_length]
  constructor
  · rintro ⟨a, ha, h1, h2, h3⟩
    exact ⟨a, (hm a).1 ha, (alive_iff _ _ _ _).2 ⟨h2, fun b hb => h3 b ((hm b).2 hb)⟩, h1⟩
  · rintro ⟨a, ha, h1, h2⟩
    have := (alive_iff _ _ _ _).1 h1
    exact ⟨a, (hm a).2 ha, h2, this.1, fun b hb => this.2 b ((hm b).1 hb)⟩

/-- The set that the document tells, effect by effect. -/
def tellX (F : ByteArray → List Dot) (w : List Entry) (x : Eff) : List Entry := putE w ⟨x.key, F x.key, []⟩
def tells (F : ByteArray → List Dot) (w : List Entry) (e : Ev) (m : Nat) : List Entry := (e.effs.take m).foldl (tellX F) w
def tellTo (F : ByteArray → List Dot) (l : List Ev) (i : Nat) : List Entry := (l.take i).foldl (fun w e => e.effs.foldl (tellX F) w) []
theorem tells_succ (F : ByteArray → List Dot) (w : List Entry) (e : Ev) (m : Nat) (h : m < e.effs.length) : tells F w e (m + 1) = putE (tells F w e m) ⟨e.effs[m].key, F e.effs[m].key, []⟩ := by
  unfold tells
  rw [List.take_succ_eq_append_getElem h, List.foldl_append]
  rfl
theorem tellTo_succ (F : ByteArray → List Dot) (l : List Ev) (i : Nat) (h : i < l.length) : tellTo F l (i + 1) = tells F (tellTo F l i) l[i] l[i].effs.length := by
  unfold tellTo tells
  rw [List.take_succ_eq_append_getElem h, List.foldl_append, List.take_length]
  rfl
/-- A set that tells of some keys. -/
def Told (F : ByteArray → List Dot) (n : Nat) (w : List Entry) (Q : ByteArray → Prop) : Prop := Neat w ∧ Within n w ∧ ∀ k, (Q k → gl w k = F k) ∧ (¬ Q k → gl w k = [])
theorem Told.put {F : ByteArray → List Dot} {n : Nat} {w : List Entry} {Q : ByteArray → Prop} (h : Told F n w Q) (k0 : ByteArray) (hF : (F k0).length ≤ n + 1) : Told F (n + 1) (putE w ⟨k0, F k0, []⟩) (fun k => Q k ∨ k0 = k) := by
  refine ⟨neat_put h.1 _ _, h.2.1.putA h.1.1 ⟨hF, by simp⟩, fun k => ?_⟩
  rw [gl_put h.1.1]
  by_cases he : k0 = k
  · subst he
    rw [eqK_self]
    simp
  · have : eqK k0 k = false := by
      rw [Bool.eq_false_iff]; exact fun h => he (key_ext h)
    rw [this]
    simp only [Bool.false_eq_true, if_false, he, or_false]
    exact h.2.2 k
theorem Told.tells {F : ByteArray → List Dot} (hF : ∀ k, (F k).length ≤ 14) {n : Nat} (hn : 14 ≤ n) {w : List Entry} {Q : ByteArray → Prop} (h : Told F n w Q) (e : Ev) : ∀ m, m ≤ e.effs.length → Told F (n + m) (tells F w e m) (fun k => Q k ∨ ∃ x ∈ e.effs.take m, x.key = k)
  | 0, _ => by simpa [Go.AM.tells] using h
  | m + 1, hm => by
    have ih := Told.tells hF hn h e m (by omega)
    rw [tells_succ F w e m (by omega)]
    have := ih.put e.effs[m].key (by have := hF e.effs[m].key; omega)
    refine ⟨this.1, this.2.1, fun k => ?_⟩
    have e2 : (Q k ∨ ∃ x ∈ e.effs.take (m + 1), x.key = k) ↔ ((Q k ∨ ∃ x ∈ e.effs.take m, x.key = k) ∨ e.effs[m].key = k) := by
      rw [List.take_succ_eq_append_getElem (by omega), or_assoc]
      refine or_congr Iff.rfl ?_
      constructor
      · rintro ⟨x, hx, h1⟩
        rcases List.mem_append.1 hx with hx | hx
        · exact .inl ⟨x, hx, h1⟩
        · rw [List.mem_singleton] at hx; subst hx; exact .inr h1
      · rintro (⟨x, hx, h1⟩ | h1)
        · exact ⟨x, List.mem_append_left _ hx, h1⟩
        · exact ⟨_, List.mem_append_right _ (List.mem_singleton.2 rfl), h1⟩
    have h3 := this.2.2 k
    refine ⟨fun hq => h3.1 (e2.1 hq), fun hq => h3.2 fun h4 => hq (e2.2 h4)⟩
theorem Told.le {F : ByteArray → List Dot} {n m : Nat} {w : List Entry} {Q : ByteArray → Prop} (h : Told F n w Q) (hnm : n ≤ m) : Told F m w Q := ⟨h.1, ⟨by have := h.2.1.1; omega, fun y hy => by have := h.2.1.2 y hy; omega⟩, h.2.2⟩
theorem tellTo_told {F : ByteArray → List Dot} (hF : ∀ k, (F k).length ≤ 14) {l : List Ev} (hl : ∀ e ∈ l, e.effs.length ≤ 16) : ∀ i, i ≤ l.length → Told F (14 + 16 * i) (tellTo F l i) (fun k => ∃ e ∈ l.take i, ∃ x ∈ e.effs, x.key = k)
  | 0, _ => ⟨⟨List.Pairwise.nil, by simp [tellTo]⟩, ⟨by simp [tellTo], by simp [tellTo]⟩, fun k => ⟨by simp, fun _ => rfl⟩⟩
  | i + 1, hi => by
    have hlt : i < l.length := by omega
    have ih := tellTo_told hF hl i (by omega)
    have h16 := hl _ (List.getElem_mem hlt)
    rw [tellTo_succ F l i hlt]
    have := ih.tells hF (by omega) l[i] _ (Nat.le_refl _)
    refine ⟨this.1, (this.le (m := 14 + 16 * (i + 1)) (by omega)).2.1, fun k => ?_⟩
    have e2 : (∃ e ∈ l.take (i + 1), ∃ x ∈ e.effs, x.key = k) ↔ ((∃ e ∈ l.take i, ∃ x ∈ e.effs, x.key = k) ∨ ∃ x ∈ l[i].effs.take l[i].effs.length, x.key = k) := by
      rw [List.take_succ_eq_append_getElem hlt, List.take_length]
      constructor
      · rintro ⟨e, he, h1⟩
        rcases List.mem_append.1 he with he | he
        · exact .inl ⟨e, he, h1⟩
        · rw [List.mem_singleton] at he; subst he; exact .inr h1
      · rintro (⟨e, he, h1⟩ | h1)
        · exact ⟨e, List.mem_append_left _ he, h1⟩
        · exact ⟨_, List.mem_append_right _ (List.mem_singleton.2 rfl), h1⟩
    have h3 := this.2.2 k
    exact ⟨fun hq => h3.1 (e2.1 hq), fun hq => h3.2 fun h4 => hq (e2.2 h4)⟩
/-- The theorem of the set. -/
theorem fold_law {l o : List Ev} (hl : l.length ≤ 14) (hlo : o.length = l.length) (hm : ∀ e, e ∈ o ↔ e ∈ l) (hg : ∀ e ∈ l, evOk e = true) (hord : o.Pairwise fun a b => aheadB b a = false) (thing : Int) :
    foldTo thing o o.length = tellTo (liveA l thing) l l.length := by
  have ho : ∀ e ∈ o, evOk e = true := fun e he => hg e ((hm e).1 he)
  have hW := Way.fold ho thing o.length (Nat.le_refl _) (by omega)
  have hT := tellTo_told (F := liveA l thing) (fun k => by have := liveTo_len l thing k _ (Nat.le_refl _); unfold liveA; omega) (fun e he => (evOk_facts (hg e he)).2.2.2.2) l.length (Nat.le_refl _)
  refine neat_ext (neat_of hW.1) hT.1 fun k => ?_
  rw [fold_live hl hlo hm hg hord]
  have h3 := hT.2.2 k
  rw [List.take_length] at h3
  by_cases hq : ∃ e ∈ l, ∃ x ∈ e.effs, x.key = k
  · rw [h3.1 hq]
  · rw [h3.2 hq]
    refine List.eq_nil_iff_forall_not_mem.2 fun d hd => ?_
    unfold liveA at hd
    rw [mem_liveTo l thing k d _ (Nat.le_refl _), List.take_length] at hd
    obtain ⟨a, ha, h1, _⟩ := hd
    have h2 := ((alive_iff _ _ _ _).1 h1).1
    rw [doesB, List.any_eq_true] at h2
    obtain ⟨x, hx, hh⟩ := h2
    simp only [hitE, Bool.and_eq_true] at hh
    exact hq ⟨a, ha, x, hx, key_ext hh.2⟩
end Go.AM
namespace Go.AM
open Go.Proofs
theorem actA_add {thing : Int} {e : Ev} {x : Eff} (h : (decide (x.thing = thing) && decide (x.kind = 1)) = true) (s : List Entry) : actA thing e s x = addA s x.key e.dot e.past := by
  unfold actA; rw [if_pos h]
theorem actA_drop {thing : Int} {e : Ev} {x : Eff} (h : (decide (x.thing = thing) && decide (x.kind = 1)) = false) (h2 : (decide (x.thing = thing) && decide (x.kind = 2) && !doesB e 1 thing x.key) = true) (s : List Entry) : actA thing e s x = dropA s x.key e.past := by
  unfold actA; rw [if_neg (by rw [h]; simp), if_pos h2]
theorem actA_none {thing : Int} {e : Ev} {x : Eff} (h : (decide (x.thing = thing) && decide (x.kind = 1)) = false) (h2 : (decide (x.thing = thing) && decide (x.kind = 2) && !doesB e 1 thing x.key) = false) (s : List Entry) : actA thing e s x = s := by
  unfold actA; rw [if_neg (by rw [h]; simp), if_neg (by rw [h2]; simp)]

set_option maxRecDepth 8000 in
set_option maxHeartbeats 4000000 in
theorem c_AwsetFolds (l : List Ev) (turns : List Int) (thing : Int) (hlen : l.length ≤ 9223372036854775807) (hw : Wide l) (htl : turns.length ≤ 9223372036854775807) (ht : ∀ x ∈ turns, 0 ≤ x ∧ x < 256) : Pure Try.prog 6 [.sl .fro 4 (evsAV l), .sl .fro 1 (u8sAV turns), .i .i64 thing] (.b true) := by
  have gw := c_law08_awake
  refine proc_of (cx Try.prog 169 [0, 1, 2, 6, 7, 8, 9, 10, 11, 12, 13, 14, 15, 16, 17, 30, 39, 49, 69, 106, 120, 126, 136] [6]) 166 [.tmp 6] Try.func6 rfl rfl rfl rfl rfl rfl (Nat.le_refl _) rfl ?_
  refine AWp.go [0, 1, 2] [] fun K hK => ?_
  simp
  first | refine hK _ _ ?_ | refine ⟨by omega, hK _ _ ?_⟩ | refine ⟨by omega, by omega, hK _ _ ?_⟩
  clear hK K
  refine AWp.seq ?_
  refine AWp.step [0, 1, 2, 30] [] [(0, .sl .fro 4 (evsAV l)), (1, .sl .fro 1 (u8sAV turns)), (2, .i .i64 thing), (30, .b (!(!decide ((14 : Int) < l.length) && !decide ((60 : Int) < turns.length) && wholeB l)))] [] ?_ ?_
  · by_cases q1 : (14 : Int) < l.length
    · simp [q1]
    by_cases q2 : (60 : Int) < turns.length
    · simp [q1, q2]
    have g1 := c_law08_Whole l (by omega) hw
    simp [q1, q2]
    refine call_pure g1 (by simp) ?_
    simp
  cases hg : !decide ((14 : Int) < l.length) && !decide ((60 : Int) < turns.length) && wholeB l
  · refine AWp.cond (t := true) (by simp) (fun _ => ?_) (by simp)
    refine AWp.go [6] [] fun K hK => ?_
    simp
    refine call_pure gw (by simp) ?_
    simp
    first | refine hK _ _ ?_ | refine ⟨by omega, hK _ _ ?_⟩ | refine ⟨by omega, by omega, hK _ _ ?_⟩
    clear hK K
    refine AWp.ret ?_
    simp
  · refine AWp.cond (t := false) (by simp) (by simp) (fun _ => ?_)
    refine AWp.skip ?_
    show AWp _ _ _ _
    have hG : l.length ≤ 14 ∧ turns.length ≤ 60 ∧ wholeB l = true := by
      simp only [Bool.and_eq_true, Bool.not_eq_true', decide_eq_false_iff_not] at hg
      exact ⟨by omega, by omega, hg.2⟩
    obtain ⟨hl14, ht60, hwh⟩ := hG
    have hgood := good_of hwh
    have hmild : Mild l := fun e he => ⟨evOk_past (hgood.may e he), (hw e he).2⟩
    obtain ⟨s1, s2, s3, s4⟩ := turned_spec hgood ht
    have hlaw := fold_law hl14 s1 s2 hgood.may s4 thing
    have gT := c_law08_Turned l turns (by omega) hmild (by omega) ht
    obtain ⟨o, ho⟩ : ∃ o, o = turned l turns := ⟨_, rfl⟩
    rw [← ho] at s1 s2 s3 s4 hlaw gT
    have hok : ∀ e ∈ o, evOk e = true := fun e he => hgood.may e ((s2 e).1 he)
    refine AWp.go [0, 1, 2, 7] [] fun K hK => ?_
    simp
    first | refine hK _ _ ?_ | refine ⟨by omega, hK _ _ ?_⟩ | refine ⟨by omega, by omega, hK _ _ ?_⟩
    clear hK K
    refine AWp.go [0, 2, 7, 8] [] fun K hK => ?_
    simp
    refine call_pure gT (by simp) ?_
    simp
    first | refine hK _ _ ?_ | refine ⟨by omega, hK _ _ ?_⟩ | refine ⟨by omega, by omega, hK _ _ ?_⟩
    clear hK K
    refine AWp.frz [7, 8] ?_
    simp
    refine AWp.seq ?_
    refine AWp.go [0, 2, 7, 8, 9] [] fun K hK => ?_
    simp
    first | refine hK _ _ ?_ | refine ⟨by omega, hK _ _ ?_⟩ | refine ⟨by omega, by omega, hK _ _ ?_⟩
    clear hK K
    refine AWp.block (AWp.while (fun i : Nat => [(0, .sl .fro 4 (evsAV l)), (2, .i .i64 thing), (7, .sl .fro 3 (entsAV (foldTo thing o i))), (8, .sl .fro 4 (evsAV o)), (9, .i .i64 i)]) (fun i => []) (fun i => i ≤ o.length) (fun i => o.length - i) [0, 2, 7, 8, 9] [] 0 (by simp) (by simp [foldTo, entsAV]) ?_)
    intro i hi
    refine AWp.seq ?_
    refine AWp.go [0, 2, 7, 8, 9, 39] [] fun K hK => ?_
    simp
    first | refine hK _ _ ?_ | refine ⟨by omega, hK _ _ ?_⟩ | refine ⟨by omega, by omega, hK _ _ ?_⟩
    clear hK K
    by_cases h : i < o.length
    · refine AWp.cond (t := true) (by first | (simp [h]; done) | (simp [h]; omega)) (fun _ => ?_) (by simp)
      refine AWp.skip ?_
      show AWp _ _ _ _
      refine AWp.seq ?_
      refine AWp.block ?_
      have hWi := Way.fold hok thing i (by omega) (by omega)
      have heo := hok _ (List.getElem_mem h)
      have hf := evOk_facts heo
      obtain ⟨e, hee⟩ : ∃ e, e = o[i] := ⟨_, rfl⟩
      have hpe : e.past.length ≤ 5 := by rw [hee]; exact evOk_past heo
      rw [← hee] at heo hf
      refine AWp.go [0, 2, 7, 8, 9, 10] [] fun K hK => ?_
      simp
      first | refine hK _ _ ?_ | refine ⟨by omega, hK _ _ ?_⟩ | refine ⟨by omega, by omega, hK _ _ ?_⟩
      clear hK K
      refine AWp.block (AWp.while (fun m : Nat => [(0, .sl .fro 4 (evsAV l)), (2, .i .i64 thing), (7, .sl .fro 3 (entsAV (actsA thing e (foldTo thing o i) m))), (8, .sl .fro 4 (evsAV o)), (9, .i .i64 i), (10, .i .i64 m)]) (fun m => []) (fun m => m ≤ e.effs.length) (fun m => e.effs.length - m) [0, 2, 7, 8, 9, 10] [] 0 (by simp) (by simp [actsA]) ?_)
      intro m hm
      refine AWp.seq ?_
      refine AWp.go [0, 2, 7, 8, 9, 10, 49] [] fun K hK => ?_
      simp [h, ← hee]
      first | refine hK _ _ ?_ | refine ⟨by omega, hK _ _ ?_⟩ | refine ⟨by omega, by omega, hK _ _ ?_⟩
      clear hK K
      by_cases h2 : m < e.effs.length
      · refine AWp.cond (t := true) (by first | (simp [h2]; done) | (simp [h2]; omega)) (fun _ => ?_) (by simp)
        refine AWp.skip ?_
        show AWp _ _ _ _
        refine AWp.seq ?_
        refine AWp.block ?_
        have hWm := hWi.acts heo thing m (by omega) (by omega)
        have hsucc := actsA_succ thing e (foldTo thing o i) m h2
        have hxm := List.getElem_mem h2
        obtain ⟨x, hx⟩ : ∃ x, x = e.effs[m] := ⟨_, rfl⟩
        obtain ⟨S, hS⟩ : ∃ S, S = actsA thing e (foldTo thing o i) m := ⟨_, rfl⟩
        rw [← hx] at hxm
        rw [← hS, ← hx] at hsucc
        rw [← hS] at hWm ⊢
        have hkx := effOk_key (hf.2.2.2.1 x hxm)
        have hSf := hWm.2.fine (by omega)
        have hSl := hWm.2.1
        have hSa := hWm.2.at x.key
        have gA := (c_awset_Add S x.key e.dot e.past hSf (by omega) (by omega) (by omega)).fro
        have gD := (c_awset_Drop S x.key e.past hSf (by omega) (by omega) (by omega)).fro
        rw [show mayA S x.key e.dot e.past = true by simp [mayA, hWm.1, hkx, hf.1, hf.2.1]] at gA
        rw [show mayB S x.key e.past = true by simp [mayB, hWm.1, hkx, hf.2.1]] at gD
        simp only [if_true, add_lawA hWm.1] at gA
        simp only [if_true, drop_lawA hWm.1] at gD
        simp [dotC] at gA gD
        have gE := c_ref08_Does e 1 thing x.key (by have := hf.2.2.2.2; omega)
        simp [evC] at gE
        refine AWp.go [0, 2, 7, 8, 9, 10, 11] [11] fun K hK => ?_
        simp [h, ← hee, h2, ← hx]
        first | refine hK _ _ ?_ | refine ⟨by omega, hK _ _ ?_⟩ | refine ⟨by omega, by omega, hK _ _ ?_⟩
        clear hK K
        refine AWp.go [0, 2, 7, 8, 9, 10, 11, 12] [11] fun K hK => ?_
        simp
        first | refine hK _ _ ?_ | refine ⟨by omega, hK _ _ ?_⟩ | refine ⟨by omega, by omega, hK _ _ ?_⟩
        clear hK K
        refine AWp.go [0, 2, 7, 8, 9, 10, 11, 12, 13] [11] fun K hK => ?_
        simp
        first | refine hK _ _ ?_ | refine ⟨by omega, hK _ _ ?_⟩ | refine ⟨by omega, by omega, hK _ _ ?_⟩
        clear hK K
        refine AWp.seq ?_
        refine AWp.step [0, 2, 7, 8, 9, 10, 11, 12, 13, 69] [11] [(0, .sl .fro 4 (evsAV l)), (2, .i .i64 thing), (7, .sl .fro 3 (entsAV S)), (8, .sl .fro 4 (evsAV o)), (9, .i .i64 i), (10, .i .i64 m), (11, .ptr 11 0), (12, .i .i64 0), (13, .sl .fro 3 (entsAV S)), (69, .b (decide (x.thing = thing) && decide (x.kind = 1)))] [(11, [.i .i64 x.kind, .i .i64 x.thing, .s x.key, .i .i64 x.num, .i .i64 x.dest, .s x.word])] ?_ ?_
        · by_cases q1 : x.thing = thing <;> simp [q1]
        cases hA : decide (x.thing = thing) && decide (x.kind = 1)
        · refine AWp.cond (t := false) (by simp) (by simp) (fun _ => ?_)
          refine AWp.skip ?_
          show AWp _ _ _ _
          refine AWp.seq ?_
          refine AWp.stepD 20 (fun k0 => if k0 = 17 then .b (doesB e 1 thing x.key) else .any) [0, 2, 7, 8, 9, 10, 11, 12, 13, 106] [11] [(0, .sl .fro 4 (evsAV l)), (2, .i .i64 thing), (7, .sl .fro 3 (entsAV S)), (8, .sl .fro 4 (evsAV o)), (9, .i .i64 i), (10, .i .i64 m), (11, .ptr 11 0), (12, .i .i64 0), (13, .sl .fro 3 (entsAV S)), (106, .b (decide (x.thing = thing) && decide (x.kind = 2) && !doesB e 1 thing x.key))] [(11, [.i .i64 x.kind, .i .i64 x.thing, .s x.key, .i .i64 x.num, .i .i64 x.dest, .s x.word])] mix (by kernel_rfl) ?_ ?_
          · by_cases q1 : x.thing = thing
            · by_cases q2 : x.kind = 2
              · simp [h, ← hee, q1, q2]
                exact gE
              · simp [q1, q2]
            · simp [q1]
          cases hD : decide (x.thing = thing) && decide (x.kind = 2) && !doesB e 1 thing x.key
          · refine AWp.cond (t := false) (by simp) (by simp) (fun _ => ?_)
            refine AWp.skip ?_
            show AWp _ _ _ _
            refine AWp.seq ?_
            refine AWp.go [0, 2, 8, 9, 10, 13, 120] [] fun K hK => ?_
            simp
            first | refine hK _ _ ?_ | refine ⟨by omega, hK _ _ ?_⟩ | refine ⟨by omega, by omega, hK _ _ ?_⟩
            clear hK K
            refine AWp.cond (t := false) (by first | (simp; done) | (simp; omega)) (by simp) (fun _ => ?_)
            refine AWp.skip ?_
            show AWp _ _ _ _
            refine AWp.goLast [0, 2, 7, 8, 9, 10] [] fun K hK => ?_
            simp
            first | refine hK _ _ ?_ | refine ⟨by omega, hK _ _ ?_⟩ | refine ⟨by omega, by omega, hK _ _ ?_⟩
            clear hK K
            show AWp _ _ _ _
            refine AWp.goLast [0, 2, 7, 8, 9, 10] [] fun K hK => ?_
            simp
            first | refine hK _ _ ?_ | refine ⟨by omega, hK _ _ ?_⟩ | refine ⟨by omega, by omega, hK _ _ ?_⟩
            clear hK K
            refine ⟨m + 1, by omega, by omega, ?_⟩
            rw [hsucc]
            first | rw [actA_none hA hD] | rw [actA_drop hA hD] | rw [actA_add hA]
            simp
            exact wrap64 (by omega) (by omega)
          · refine AWp.cond (t := true) (by simp) (fun _ => ?_) (by simp)
            refine AWp.lastD 14 (fun k0 => if k0 = 8 then .tup [.sl .fro 3 (entsAV (dropA S x.key e.past)), .i .i64 0] else .any) [0, 2, 8, 9, 10, 12, 13] [] [(0, .sl .fro 4 (evsAV l)), (2, .i .i64 thing), (8, .sl .fro 4 (evsAV o)), (9, .i .i64 i), (10, .i .i64 m), (12, .i .i64 0), (13, .sl .fro 3 (entsAV (dropA S x.key e.past)))] [] mix (by kernel_rfl) ?_ ?_
            · simp [h, ← hee]
              exact gD
            show AWp _ _ _ _
            refine AWp.seq ?_
            refine AWp.go [0, 2, 8, 9, 10, 13, 120] [] fun K hK => ?_
            simp
            first | refine hK _ _ ?_ | refine ⟨by omega, hK _ _ ?_⟩ | refine ⟨by omega, by omega, hK _ _ ?_⟩
            clear hK K
            refine AWp.cond (t := false) (by first | (simp; done) | (simp; omega)) (by simp) (fun _ => ?_)
            refine AWp.skip ?_
            show AWp _ _ _ _
            refine AWp.goLast [0, 2, 7, 8, 9, 10] [] fun K hK => ?_
            simp
            first | refine hK _ _ ?_ | refine ⟨by omega, hK _ _ ?_⟩ | refine ⟨by omega, by omega, hK _ _ ?_⟩
            clear hK K
            show AWp _ _ _ _
            refine AWp.goLast [0, 2, 7, 8, 9, 10] [] fun K hK => ?_
            simp
            first | refine hK _ _ ?_ | refine ⟨by omega, hK _ _ ?_⟩ | refine ⟨by omega, by omega, hK _ _ ?_⟩
            clear hK K
            refine ⟨m + 1, by omega, by omega, ?_⟩
            rw [hsucc]
            first | rw [actA_none hA hD] | rw [actA_drop hA hD] | rw [actA_add hA]
            simp
            exact wrap64 (by omega) (by omega)
        · refine AWp.cond (t := true) (by simp) (fun _ => ?_) (by simp)
          refine AWp.lastD 19 (fun k0 => if k0 = 13 then .tup [.sl .fro 3 (entsAV (addA S x.key e.dot e.past)), .i .i64 0] else .any) [0, 2, 7, 8, 9, 10, 11, 12, 13] [11] [(0, .sl .fro 4 (evsAV l)), (2, .i .i64 thing), (7, .sl .fro 3 (entsAV S)), (8, .sl .fro 4 (evsAV o)), (9, .i .i64 i), (10, .i .i64 m), (11, .ptr 11 0), (12, .i .i64 0), (13, .sl .fro 3 (entsAV (addA S x.key e.dot e.past)))] [(11, [.i .i64 x.kind, .i .i64 x.thing, .s x.key, .i .i64 x.num, .i .i64 x.dest, .s x.word])] mix (by kernel_rfl) ?_ ?_
          · simp [h, ← hee]
            exact gA
          show AWp _ _ _ _
          refine AWp.seq ?_
          have hD : (decide (x.thing = thing) && decide (x.kind = 2) && !doesB e 1 thing x.key) = false := by
            simp only [Bool.and_eq_true, decide_eq_true_eq] at hA
            simp [hA.2]
          refine AWp.stepD 20 (fun k0 => if k0 = 17 then .b (doesB e 1 thing x.key) else .any) [0, 2, 7, 8, 9, 10, 11, 12, 13, 106] [11] [(0, .sl .fro 4 (evsAV l)), (2, .i .i64 thing), (7, .sl .fro 3 (entsAV S)), (8, .sl .fro 4 (evsAV o)), (9, .i .i64 i), (10, .i .i64 m), (11, .ptr 11 0), (12, .i .i64 0), (13, .sl .fro 3 (entsAV (addA S x.key e.dot e.past))), (106, .b false)] [(11, [.i .i64 x.kind, .i .i64 x.thing, .s x.key, .i .i64 x.num, .i .i64 x.dest, .s x.word])] mix (by kernel_rfl) ?_ ?_
          · simp only [Bool.and_eq_true, decide_eq_true_eq] at hA
            simp [hA.1, hA.2]
          refine AWp.cond (t := false) (by first | (simp; done) | (simp; omega)) (by simp) (fun _ => ?_)
          refine AWp.skip ?_
          show AWp _ _ _ _
          refine AWp.seq ?_
          refine AWp.go [0, 2, 8, 9, 10, 13, 120] [] fun K hK => ?_
          simp
          first | refine hK _ _ ?_ | refine ⟨by omega, hK _ _ ?_⟩ | refine ⟨by omega, by omega, hK _ _ ?_⟩
          clear hK K
          refine AWp.cond (t := false) (by first | (simp; done) | (simp; omega)) (by simp) (fun _ => ?_)
          refine AWp.skip ?_
          show AWp _ _ _ _
          refine AWp.goLast [0, 2, 7, 8, 9, 10] [] fun K hK => ?_
          simp
          first | refine hK _ _ ?_ | refine ⟨by omega, hK _ _ ?_⟩ | refine ⟨by omega, by omega, hK _ _ ?_⟩
          clear hK K
          show AWp _ _ _ _
          refine AWp.goLast [0, 2, 7, 8, 9, 10] [] fun K hK => ?_
          simp
          first | refine hK _ _ ?_ | refine ⟨by omega, hK _ _ ?_⟩ | refine ⟨by omega, by omega, hK _ _ ?_⟩
          clear hK K
          refine ⟨m + 1, by omega, by omega, ?_⟩
          rw [hsucc]
          first | rw [actA_none hA hD] | rw [actA_drop hA hD] | rw [actA_add hA]
          simp
          exact wrap64 (by omega) (by omega)
      · refine AWp.cond (t := false) (by first | (simp [h2]; done) | (simp [h2]; omega)) (by simp) (fun _ => ?_)
        refine AWp.exit ?_
        show AWp _ _ _ _
        refine AWp.goLast [0, 2, 7, 8, 9] [] fun K hK => ?_
        simp
        first | refine hK _ _ ?_ | refine ⟨by omega, hK _ _ ?_⟩ | refine ⟨by omega, by omega, hK _ _ ?_⟩
        clear hK K
        refine ⟨i + 1, by omega, by omega, ?_⟩
        obtain rfl : m = e.effs.length := by omega
        rw [foldTo_succ thing o i h, ← hee]
        simp
        exact wrap64 (by omega) (by omega)
    · refine AWp.cond (t := false) (by first | (simp [h]; done) | (simp [h]; omega)) (by simp) (fun _ => ?_)
      refine AWp.exit ?_
      show AWp _ _ _ _
      obtain rfl : i = o.length := by omega
      rw [hlaw]
      have hwf := (tellTo_told (F := liveA l thing) (fun k => by have := liveTo_len l thing k _ (Nat.le_refl _); unfold liveA; omega) (fun e he => (evOk_facts (hgood.may e he)).2.2.2.2))
      have hFl : ∀ k, (liveA l thing k).length ≤ 14 := fun k => by have := liveTo_len l thing k _ (Nat.le_refl _); unfold liveA; omega
      obtain ⟨F, hF⟩ : ∃ F, F = liveA l thing := ⟨_, rfl⟩
      have gL : ∀ k, Pure Try.prog 36 [.sl .fro 4 (evsAV l), .i .i64 thing, .s k] (.sl .fro 2 (dotsAV (F k))) := fun k => by rw [hF]; exact c_ref08_Live l thing k (by omega) hmild
      rw [← hF] at hwf hFl ⊢
      refine AWp.go [0, 2, 7, 8, 14] [] fun K hK => ?_
      simp
      first | refine hK _ _ ?_ | refine ⟨by omega, hK _ _ ?_⟩ | refine ⟨by omega, by omega, hK _ _ ?_⟩
      clear hK K
      refine AWp.frz [14] ?_
      simp
      refine AWp.seq ?_
      refine AWp.go [0, 2, 7, 8, 14, 15] [] fun K hK => ?_
      simp
      first | refine hK _ _ ?_ | refine ⟨by omega, hK _ _ ?_⟩ | refine ⟨by omega, by omega, hK _ _ ?_⟩
      clear hK K
      refine AWp.block (AWp.while (fun a : Nat => [(0, .sl .fro 4 (evsAV l)), (2, .i .i64 thing), (7, .sl .fro 3 (entsAV (tellTo F l l.length))), (8, .sl .fro 4 (evsAV o)), (14, .sl .fro 3 (entsAV (tellTo F l a))), (15, .i .i64 a)]) (fun a => []) (fun a => a ≤ l.length) (fun a => l.length - a) [0, 2, 7, 8, 14, 15] [] 0 (by simp) (by simp [tellTo, entsAV]) ?_)
      intro a ha
      refine AWp.seq ?_
      refine AWp.go [0, 2, 7, 8, 14, 15, 126] [] fun K hK => ?_
      simp
      first | refine hK _ _ ?_ | refine ⟨by omega, hK _ _ ?_⟩ | refine ⟨by omega, by omega, hK _ _ ?_⟩
      clear hK K
      by_cases h : a < l.length
      · refine AWp.cond (t := true) (by first | (simp [h]; done) | (simp [h]; omega)) (fun _ => ?_) (by simp)
        refine AWp.skip ?_
        show AWp _ _ _ _
        refine AWp.seq ?_
        refine AWp.block ?_
        have hTa := hwf a (by omega)
        have h16 := (evOk_facts (hgood.may _ (List.getElem_mem h))).2.2.2.2
        refine AWp.go [0, 2, 7, 8, 14, 15, 16] [] fun K hK => ?_
        simp
        first | refine hK _ _ ?_ | refine ⟨by omega, hK _ _ ?_⟩ | refine ⟨by omega, by omega, hK _ _ ?_⟩
        clear hK K
        refine AWp.block (AWp.while (fun b : Nat => [(0, .sl .fro 4 (evsAV l)), (2, .i .i64 thing), (7, .sl .fro 3 (entsAV (tellTo F l l.length))), (8, .sl .fro 4 (evsAV o)), (14, .sl .fro 3 (entsAV (tells F (tellTo F l a) l[a] b))), (15, .i .i64 a), (16, .i .i64 b)]) (fun b => []) (fun b => b ≤ l[a].effs.length) (fun b => l[a].effs.length - b) [0, 2, 7, 8, 14, 15, 16] [] 0 (by simp) (by simp [tells]) ?_)
        intro b hb
        refine AWp.seq ?_
        refine AWp.go [0, 2, 7, 8, 14, 15, 16, 136] [] fun K hK => ?_
        simp [h]
        first | refine hK _ _ ?_ | refine ⟨by omega, hK _ _ ?_⟩ | refine ⟨by omega, by omega, hK _ _ ?_⟩
        clear hK K
        by_cases h2 : b < l[a].effs.length
        · refine AWp.cond (t := true) (by first | (simp [h2]; done) | (simp [h2]; omega)) (fun _ => ?_) (by simp)
          refine AWp.skip ?_
          show AWp _ _ _ _
          refine AWp.seq ?_
          refine AWp.block ?_
          refine AWp.go [0, 2, 7, 8, 14, 15, 16, 17] [] fun K hK => ?_
          simp [h, h2]
          first | refine hK _ _ ?_ | refine ⟨by omega, hK _ _ ?_⟩ | refine ⟨by omega, by omega, hK _ _ ?_⟩
          clear hK K
          have hTb := hTa.tells hFl (by omega) l[a] b (by omega)
          have hbl := hTb.2.1.1
          have gP := (c_ref08_Put (tells F (tellTo F l a) l[a] b) ⟨l[a].effs[b].key, F l[a].effs[b].key, []⟩ (by omega) ⟨by have := hFl l[a].effs[b].key; dsimp only; omega, by simp⟩).fro
          rw [← tells_succ F _ l[a] b h2] at gP
          simp [entC, show dotsAV [] = [] from rfl] at gP
          refine AWp.goLast [0, 2, 7, 8, 14, 15, 16] [] fun K hK => ?_
          simp
          refine call_pure (gL l[a].effs[b].key) (by simp) ?_
          simp
          refine call_pure gP (by simp) ?_
          simp
          first | refine hK _ _ ?_ | refine ⟨by omega, hK _ _ ?_⟩ | refine ⟨by omega, by omega, hK _ _ ?_⟩
          clear hK K
          show AWp _ _ _ _
          refine AWp.goLast [0, 2, 7, 8, 14, 15, 16] [] fun K hK => ?_
          simp
          first | refine hK _ _ ?_ | refine ⟨by omega, hK _ _ ?_⟩ | refine ⟨by omega, by omega, hK _ _ ?_⟩
          clear hK K
          refine ⟨b + 1, by omega, by omega, ?_⟩
          simp
          exact wrap64 (by omega) (by omega)
        · refine AWp.cond (t := false) (by first | (simp [h2]; done) | (simp [h2]; omega)) (by simp) (fun _ => ?_)
          refine AWp.exit ?_
          show AWp _ _ _ _
          refine AWp.goLast [0, 2, 7, 8, 14, 15] [] fun K hK => ?_
          simp
          first | refine hK _ _ ?_ | refine ⟨by omega, hK _ _ ?_⟩ | refine ⟨by omega, by omega, hK _ _ ?_⟩
          clear hK K
          refine ⟨a + 1, by omega, by omega, ?_⟩
          obtain rfl : b = l[a].effs.length := by omega
          rw [tellTo_succ F l a h]
          simp
          exact wrap64 (by omega) (by omega)
      · refine AWp.cond (t := false) (by first | (simp [h]; done) | (simp [h]; omega)) (by simp) (fun _ => ?_)
        refine AWp.exit ?_
        show AWp _ _ _ _
        obtain rfl : a = l.length := by omega
        have hTn := (hwf l.length (Nat.le_refl _)).2.1.fine (by omega)
        have gS := c_ref08_Same _ _ hTn hTn
        rw [sameB_refl] at gS
        refine AWp.step [6] [] [(6, .b true)] [] ?_ ?_
        · simp [s1]
          refine call_pure gS (by simp) ?_
          simp
          refine call_pure gw (by simp) ?_
          simp
        refine AWp.ret ?_
        simp
end Go.AM
