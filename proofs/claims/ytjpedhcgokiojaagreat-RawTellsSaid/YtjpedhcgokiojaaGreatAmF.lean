/- Sets: what a put leaves; drops that hold. No program. -/
import Derived.Test.YtjpedhcgokiojaaGreatAmE
import Derived.Test.YtjpedhcgokiojaaGreatAmD
set_option linter.unusedSimpArgs false
set_option linter.unusedVariables false
namespace Go.AM
abbrev past (s : List Entry) (k : ByteArray) : Nat := if there s k then place s k + 1 else place s k
def oneOk (e : Entry) : Bool := keyOk e.key && !decide ((e.live.length : Int) + e.dead.length = 0) && rowsB e.live && rowsB e.dead
theorem empty_min (k : ByteArray) : leK k ByteArray.empty = true → eqK k ByteArray.empty = true := by
 intro h
 simp only [leK, Bool.or_eq_true] at h
 rcases h with h | h
 ·rw [ltK_iff] at h
  unfold KL at h
  have : ByteArray.empty.toList = [] := (toList_data ByteArray.empty).symm.trans rfl
  rw [this] at h
  exact absurd h (List.not_lt_nil _)
 ·exact h
theorem setOk_iff (s : List Entry) : setOk s = true ↔ s.length ≤ 4000 ∧ SortE s ∧ ∀ e ∈ s, oneOk e = true := by
 constructor
 ·intro h
  refine ⟨?_, setOk_sort h, fun e he => ?_⟩
  ·simp only [setOk, Bool.and_eq_true, decide_eq_true_eq] at h
   omega
  ·obtain ⟨i, hi, rfl⟩ := List.mem_iff_getElem.1 he
   have := setOk_entry h i hi
   simp only [entOk, Bool.and_eq_true] at this
   simp only [oneOk, Bool.and_eq_true]
   exact ⟨⟨⟨this.1.1.1.1, this.1.1.2⟩, this.1.2⟩, this.2⟩
 ·rintro ⟨h1, h2, h3⟩
  simp only [setOk, Bool.and_eq_true, decide_eq_true_eq, List.all_eq_true]
  refine ⟨by omega, fun i hi => ?_⟩
  have hi : i < s.length := by simpa using hi
  have h4 := h3 s[i] (List.getElem_mem hi)
  simp only [oneOk, Bool.and_eq_true] at h4
  simp only [entAt, List.getElem?_eq_getElem hi, entOk, Bool.and_eq_true]
  refine ⟨⟨⟨⟨h4.1.1.1, ?_⟩, h4.1.1.2⟩, h4.1.2⟩, h4.2⟩
  rw [Bool.not_eq_true', Bool.eq_false_iff]
  intro hle
  rcases Nat.eq_zero_or_pos i with h0 | h0
  ·subst h0
   have := empty_min _ hle
   have h5 := h4.1.1.1
   simp only [keyOk, Bool.and_eq_true] at h5
   rw [this] at h5
   simp at h5
  ·obtain ⟨j, rfl⟩ : ∃ j, i = j + 1 := ⟨i - 1, by omega⟩
   rw [prevK_succ s j (by omega)] at hle
   have := List.pairwise_iff_getElem.1 h2 j (j + 1) (by omega) hi (by omega)
   simp only [leK, Bool.or_eq_true] at hle
   rcases hle with h | h
   ·rw [this.asymm] at h; cases h
   ·rw [this.ne'] at h; cases h
def allC : List Int := [1048576, 1048576, 1048576, 1048576, 1048576]
end Go.AM
namespace Go.AM
open Go.Proofs
end Go.AM
namespace Go.AM
def St.park (st : St) (t b sz : Nat) (xs : List (List AV)) (cap : Nat) : St :=
 (((st.take (rowQ t (1000000 + b))).killB (1000000 + b)).put t (.ab b 0 xs.length cap)).setBox (1000000 + b) (some (xs.flatten ++ List.replicate ((cap - xs.length) * sz) .any))
theorem Rel.park {N : Nat} {E : Env} (R : Rel N E) {t bk sz cap : Nat} {xs : List (List AV)} {arr : Array Value} {T : TypeId} (htN : t < N) (ht : E.st.slots t = .sl .own sz xs) (hω : E.ω bk = some (.slot t [])) (hg : E.w.heap[bk]? = some (.cells arr T (0, 0)))
  (ha : arr.size = cap * sz) (hc : xs.length ≤ cap) (hrow : Row E.Pub E.w bk 0 sz xs) (hown0 : ∀ j sz xs, E.st.abs (.cell (1000000 + bk) j) ≠ .sl .own sz xs) (htm : E.tm.getD t undef = .slice (some ⟨bk, 0, none⟩) xs.length cap) :
  Rel N ⟨E.w, (fun i => if i = 1000000 + bk then bk else E.β i), (E.take (rowQ t (1000000 + bk))).ω, E.Pub, E.st.park t bk sz xs cap, E.tm⟩ := by
 have R1 := R.unown (id := 1000000 + bk) htN ht hω hg ha hc hrow hown0 htm (fun _ => by unfold parkM; omega)
 have hno : NoOwn ((E.st.unown t (1000000 + bk) sz xs cap).slots t) := by
  intro π sz' xs' h
  have h2 : (E.st.unown t (1000000 + bk) sz xs cap).slots t = .bs (1000000 + bk) 0 xs.length cap := by simp [St.unown, St.put, St.setBox]
  rw [h2] at h
  cases π <;> simp [AV.at] at h
 have R2 := R1.putq t (.ab bk 0 xs.length cap) (.slice (some ⟨bk, 0, none⟩) xs.length cap) htN hno rfl (.ab _ _ _ _ _)
 have e1 : E.tm.setIfInBounds t (.slice (some ⟨bk, 0, none⟩) xs.length cap) = E.tm := tm_set_same _ _ _ htm
 have e2 : (E.st.unown t (1000000 + bk) sz xs cap).put t (.ab bk 0 xs.length cap) = E.st.park t bk sz xs cap := by
  refine St.ext' (fun t' => ?_) (fun i => rfl)
  show (if t' = t then _ else if t' = t then _ else _) = if t' = t then _ else _
  split <;> rfl
 rw [← e2]
 have R3 : Rel N ⟨E.w, (fun i => if i = 1000000 + bk then bk else E.β i), (E.take (rowQ t (1000000 + bk))).ω, E.Pub, (E.st.unown t (1000000 + bk) sz xs cap).put t (.ab bk 0 xs.length cap), E.tm.setIfInBounds t (.slice (some ⟨bk, 0, none⟩) xs.length cap)⟩ := R2
 rw [e1] at R3
 exact R3
theorem Inv.park {N : Nat} {S : Start} {E : Env} (I : Inv N S E) {t sz : Nat} {xs : List (List AV)} (htN : t < N) (ht : E.st.slots t = .sl .own sz xs) (hne : xs ≠ []) (hid : ∀ A, 1000000 ≤ A → E.st.boxes A = none) (hk : S.k ≤ 1000000) :
  ∃ b cap E', xs.length ≤ cap ∧ E'.w = E.w ∧ E'.tm = E.tm ∧ Inv N S E' ∧ E'.st = E.st.park t b sz xs cap := by
 have hv := I.rel.slots t
 rw [ht] at hv
 generalize hvv : E.tm.getD t undef = v at hv
 cases hv with
 | sl0 => exact absurd rfl hne
 | sl _ _ _ _ bk off cap hc hr hg ha =>
  obtain ⟨h1, arr, T, h2, h3, h4⟩ := hg
  subst h3
  have R' := I.rel.park htN ht h1 h2 h4 hc hr (fun j sz xs h => by simp [St.abs, hid (1000000 + bk) (by omega)] at h) hvv
  refine ⟨bk, cap, ⟨E.w, (fun i => if i = 1000000 + bk then bk else E.β i), (E.take (rowQ t (1000000 + bk))).ω, E.Pub, E.st.park t bk sz xs cap, E.tm⟩, hc, rfl, rfl, ⟨R', ⟨I.fr.os, I.fr.tape, I.fr.output, I.fr.size, I.fr.block, fun k q h => ?_, I.fr.pub0, I.fr.pub1, fun i hi => ?_⟩⟩, rfl⟩
  ·have h' : (match E.ω k with | some q => some ((rowQ t (1000000 + bk) q).getD q) | none => none) = some q := h
   split at h'
   ·rename_i q' hq'; exact I.fr.own k q' hq'
   ·cases h'
  ·show (if i = 1000000 + bk then bk else E.β i) = _
   rw [if_neg (by omega)]
   exact I.fr.beta i hi
def St.claim (st : St) (t b id n cap : Nat) (cs : List AV) : St := ((((st.killB (1000000 + b)).setBox (1000000 + b) none).killB id).put t (.bs id 0 n cap)).setBox id (some cs)
theorem Val.calm {E E' : Env} (hw : E'.w = E.w) (hP : E'.Pub = E.Pub) {p p' : Place} {x : AV} {v : Value} (h : Val E p x v) (hx : x.calm = true) : Val E' p' x v := by
 cases h with
 | any => exact .any _ _
 | b => exact .b _ _
 | i => exact .i _ _ _
 | s => exact .s _ _
 | nil => exact .nil _
 | nofn => exact .nofn _
 | ab => exact .ab _ _ _ _ _
 | mp => exact .mp _ _
 | it => exact .it _ _
 | ptr => simp [AV.calm] at hx
 | bs => simp [AV.calm] at hx
 | pt => simp [AV.calm] at hx
 | fn => simp [AV.calm] at hx
 | agg => simp [AV.calm] at hx
 | tup => simp [AV.calm] at hx
 | sl1 => exact .sl1 _ _ _ _
 | sl2 => simp [AV.calm] at hx
 | sl0 _ g => cases g <;> first | (simp [AV.calm] at hx; done) | exact .sl0 _ _ _ (by simp) trivial
 | sl _ g sz xs bk off cap hc hr hg hat =>
  cases g <;> first | (simp [AV.calm] at hx; done) | skip
  refine .sl _ .fro sz xs bk off cap hc ?_ ?_ trivial
  ·rw [hw, hP]; exact hr
  ·show E'.Pub bk
   rw [hP]; exact hg
theorem Rel.claim {N : Nat} {E : Env} (R : Rel N E) {t b id n cap : Nat} {cs : List AV} (htN : t < N) (ht : E.st.slots t = .ab b 0 n cap) (hb : E.st.boxes (1000000 + b) = some cs) (hcc : Calm cs) (hid : E.st.boxes id = none) (hidM : id < 1000000) :
  Rel N ⟨E.w, (fun i => if i = id then b else E.β i), (fun bk => if E.ω bk = some (.box (1000000 + b)) then some (.box id) else E.ω bk), E.Pub, E.st.claim t b id n cap cs, E.tm⟩ := by
 have hf := hcc.freeL
 let A := 1000000 + b
 let E' : Env := ⟨E.w, (fun i => if i = id then b else E.β i), (fun bk => if E.ω bk = some (.box (1000000 + b)) then some (.box id) else E.ω bk), E.Pub, E.st.claim t b id n cap cs, E.tm⟩
 have hne : id ≠ A := by show id ≠ 1000000 + b; omega
 have hβ : E.β A = b := by have := R.abs A (by rw [show E.st.boxes A = some cs from hb]; rfl) (by show 1000000 ≤ 1000000 + b; omega); unfold parkM at this; have h2 : A = 1000000 + b := rfl; omega
 have htv : E.tm.getD t undef = .slice (some ⟨b, 0, none⟩) n cap := by
  have := R.slots t
  rw [ht] at this
  generalize E.tm.getD t undef = v at this
  cases this; rfl
 have R2 : Rel N { E with st := (E.st.killB A).killB id } := (R.killB A).killB id
 have hq : ∀ q sz xs, E.st.abs q = .sl .own sz xs → rootNe t q ∧ (∀ j, q ≠ .cell A j) ∧ (∀ j, q ≠ .cell id j) ∧ q ≠ .box A ∧ q ≠ .box id := by
  intro q sz xs h
  refine ⟨?_, fun j e => ?_, fun j e => ?_, fun e => by subst e; simp [St.abs] at h, fun e => by subst e; simp [St.abs] at h⟩
  ·cases q with
   | slot t' π =>
    show t' ≠ t
    rintro rfl
    simp only [St.abs, ht] at h
    cases π <;> simp [AV.at] at h
   | _ => trivial
  ·subst e
   simp only [St.abs, show E.st.boxes A = some cs from hb, Option.getD_some, List.getD_eq_getElem?_getD] at h
   cases hj : cs[j]? with
   | none => rw [hj] at h; cases h
   | some c =>
    rw [hj] at h
    have := AV.freeL_get hf hj
    simp only [Option.getD_some] at h
    rw [h] at this
    simp [AV.free] at this
  ·subst e
   simp [St.abs, hid] at h
 have hno : rootNe t Place.no ∧ (∀ j, Place.no ≠ .cell A j) ∧ (∀ j, Place.no ≠ .cell id j) ∧ Place.no ≠ .box A ∧ Place.no ≠ .box id := ⟨trivial, by simp, by simp, by simp, by simp⟩
 have habs2 : ∀ q sz xs, E.st.abs q = .sl .own sz xs ↔ ((E.st.killB A).killB id).abs q = .sl .own sz xs := fun q sz xs => (abs_killB E.st A q sz xs).trans (abs_killB _ id q sz xs)
 have hst : Stays (fun q => rootNe t q ∧ (∀ j, q ≠ .cell A j) ∧ (∀ j, q ≠ .cell id j) ∧ q ≠ .box A ∧ q ≠ .box id) (fun i => i ≠ id) { E with st := (E.st.killB A).killB id } E' := by
  refine ⟨fun bk h => ⟨h, rfl⟩, fun bk q hq h => ⟨?_, rfl⟩, fun i hi => by show (if i = id then b else E.β i) = E.β i; rw [if_neg hi], ?_, ?_⟩
  ·show (if E.ω bk = some (.box (1000000 + b)) then some (Place.box id) else E.ω bk) = some q
   have h' : E.ω bk = some q := h
   rw [h', if_neg (by intro e; exact hq.2.2.2.1 (Option.some.inj e))]
  ·intro q u sz xs hr hab hc
   cases q with
   | slot t π => exact hc
   | cell i off =>
    have hi : i ≠ id := fun e => hr.2.2.1 off (by rw [e])
    show E.w.cell? ⟨if i = id then b else E.β i, off, none⟩ = some u
    rw [if_neg hi]; exact hc
   | box _ => simp [Env.con] at hc
   | no => simp [Env.con] at hc
  ·intro q sz xs hr hab
   cases q with
   | slot t' π =>
    have hne' : t' ≠ t := hr.1
    show ((if t' = t then _ else ((E.st.killB A).killB id).slots t') : AV).at π = _
    rw [if_neg hne']; exact hab
   | cell i off =>
    have hi : i ≠ id := fun e => hr.2.2.1 off (by rw [e])
    have hiA : i ≠ A := fun e => hr.2.1 off (by rw [e])
    have hiA' : i ≠ 1000000 + b := hiA
    show ((((E.st.claim t b id n cap cs).boxes i).getD []).getD off .any) = _
    have : (E.st.claim t b id n cap cs).boxes i = ((E.st.killB A).killB id).boxes i := by
     simp only [St.claim, St.setBox, St.put, St.killB, St.tr, hi, hiA', if_false]
     rfl
    rw [this]; exact hab
   | box _ => simp [St.abs] at hab
   | no => simp [St.abs] at hab
 have hleanS : ∀ t', Leans (fun q => rootNe t q ∧ (∀ j, q ≠ .cell A j) ∧ (∀ j, q ≠ .cell id j) ∧ q ≠ .box A ∧ q ≠ .box id) (fun i => i ≠ id) (.slot t' []) (((E.st.killB A).killB id).slots t') := fun t' =>
  ((R.killB A).leansSlot (fun q sz xs h => hq q sz xs ((abs_killB E.st A q sz xs).2 h)) hno t').killB
 refine { size := R.size, slots := fun t' => ?_, boxes := fun i csi h => ?_, pub := fun bk h => ⟨(R.pub bk h).1, ?_⟩, own := fun bk q h => ?_, abs := fun i h hm => ?_, gl := R.gl }
 ·show Val E' (.slot t' []) (if t' = t then _ else ((E.st.killB A).killB id).slots t') (E.tm.getD t' undef)
  by_cases he : t' = t
  ·subst he
   rw [if_pos rfl, htv]
   have := Val.bs (E := E') (.slot t' []) id 0 n cap
   have hb : E'.β id = b := by show (if id = id then b else _) = b; rw [if_pos rfl]
   rw [hb] at this
   exact this
  ·rw [if_neg he]
   exact (R2.slots t').mono hst (hleanS t')
 ·by_cases hi : i = id
  ·subst hi
   have h' : (E.st.claim t b i n cap cs).boxes i = some csi := h
   simp only [St.claim, St.setBox, if_true] at h'
   obtain rfl := Option.some.inj h'
   obtain ⟨g1, arr, T, g2, g3, g4⟩ := R.boxes A cs hb
   rw [hβ] at g1 g2
   have hbi : E'.β i = b := by show (if i = i then b else _) = b; rw [if_pos rfl]
   refine ⟨?_, arr, T, by rw [hbi]; exact g2, g3, fun j c hj => ?_⟩
   ·rw [hbi]
    show (if E.ω b = some (.box (1000000 + b)) then some (Place.box i) else E.ω b) = _
    rw [if_pos g1]
   ·exact Val.calm (E := E) (E' := E') rfl rfl (g4 j c hj) (hcc c (List.mem_of_getElem? hj))
  ·by_cases hiA : i = 1000000 + b
   ·subst hiA
    have h' : (E.st.claim t b id n cap cs).boxes (1000000 + b) = some csi := h
    simp [St.claim, St.setBox, St.put, St.killB, St.tr, hi] at h'
   ·have h' : ((E.st.killB A).killB id).boxes i = some csi := by
     have h'' : (E.st.claim t b id n cap cs).boxes i = some csi := h
     simp only [St.claim, St.setBox, St.put, St.killB, St.tr, hi, hiA, if_false] at h''
     exact h''
    obtain ⟨h1, arr0, T0, h2, h3, h4⟩ := R2.boxes i csi h'
    have hbi : E'.β i = E.β i := by show (if i = id then b else E.β i) = E.β i; rw [if_neg hi]
    refine ⟨?_, arr0, T0, by rw [hbi]; exact h2, h3, fun j c hj => ?_⟩
    ·rw [hbi]
     show (if E.ω (E.β i) = some (.box (1000000 + b)) then some (Place.box id) else E.ω (E.β i)) = _
     have h1' : E.ω (E.β i) = some (.box i) := h1
     rw [h1', if_neg (by simp [hiA])]
    ·have h5 := h4 j c hj
     simp only [St.killB, St.tr, Option.map_eq_some_iff] at h'
     obtain ⟨cs1, ⟨cs0, hb0, rfl⟩, rfl⟩ := h'
     rw [AV.trC_get, Option.map_eq_some_iff] at hj
     obtain ⟨c1, hc1, rfl⟩ := hj
     have hb1 : (E.st.killB A).boxes i = some (AV.trC (killBLeaf A) i 0 cs0) := by simp [St.killB, St.tr, hb0]
     have := ((R.killB A).leansCell (fun q sz xs h => hq q sz xs ((abs_killB E.st A q sz xs).2 h)) hno hb1 hc1).killB (id := id)
     simp only [Nat.zero_add] at this h5 ⊢
     exact h5.mono hst this
 ·show (if E.ω bk = some (.box (1000000 + b)) then some (Place.box id) else E.ω bk) = none
  rw [(R.pub bk h).2, if_neg (by simp)]
 ·have h' : (if E.ω bk = some (.box (1000000 + b)) then some (Place.box id) else E.ω bk) = some q := h
  split at h'
  ·rename_i h2; exact R.own bk _ h2
  ·exact R.own bk q h'
 ·have hi : i ≠ id := by unfold parkM at hm; omega
  have hiA : i ≠ 1000000 + b := by
   rintro rfl
   have h' : ((E.st.claim t b id n cap cs).boxes (1000000 + b)).isSome = true := h
   simp [St.claim, St.setBox, St.put, St.killB, St.tr, hi] at h'
  show (if i = id then b else E.β i) + parkM = i
  rw [if_neg hi]
  refine R2.abs i ?_ hm
  have h' : ((E.st.claim t b id n cap cs).boxes i).isSome = true := h
  simp only [St.claim, St.setBox, St.put, St.killB, St.tr, hi, hiA, if_false] at h'
  exact h'
theorem Inv.claim {N : Nat} {S : Start} {E : Env} (I : Inv N S E) {t b id n cap : Nat} {cs : List AV} (htN : t < N) (ht : E.st.slots t = .ab b 0 n cap) (hb : E.st.boxes (1000000 + b) = some cs) (hcc : Calm cs) (hid : E.st.boxes id = none) (hk : S.k ≤ id) (hidM : id < 1000000) :
  ∃ E', E'.w = E.w ∧ E'.tm = E.tm ∧ Inv N S E' ∧ E'.st = E.st.claim t b id n cap cs := by
 refine ⟨⟨E.w, (fun i => if i = id then b else E.β i), (fun bk => if E.ω bk = some (.box (1000000 + b)) then some (.box id) else E.ω bk), E.Pub, E.st.claim t b id n cap cs, E.tm⟩, rfl, rfl, ⟨I.rel.claim htN ht hb hcc hid hidM, ⟨I.fr.os, I.fr.tape, I.fr.output, I.fr.size, I.fr.block, fun k q h => ?_, I.fr.pub0, I.fr.pub1, fun i hi => ?_⟩⟩, rfl⟩
 ·have h' : (if E.ω k = some (.box (1000000 + b)) then some (Place.box id) else E.ω k) = some q := h
  split at h'
  ·rename_i h2; exact I.fr.own k _ h2
  ·exact I.fr.own k q h'
 ·show (if i = id then b else E.β i) = _
  rw [if_neg (by omega)]
  exact I.fr.beta i hi
theorem boxF_clear {k : Nat} {R : List (List AV)} (h : Rows k R) (pad Z : List AV) (m : Nat) (hm : m ≤ R.length) (hz : Z.length = (R.length - m) * k) :
  (boxF R pad).take (m * k) ++ (Z ++ (boxF R pad).drop (m * k + Z.length)) = boxF (R.take m) (Z ++ pad) := by
 have e : m * k + Z.length = R.length * k := by rw [hz, ← Nat.add_mul, show m + (R.length - m) = R.length by omega]
 rw [boxF_take h pad m hm, e, boxF_drop h pad _ (Nat.le_refl _), List.drop_length]
 rfl
section
variable {C : Cx} {Q : Exit → St → Prop} {st : St}
theorem AWp.park (t : Nat) {sz : Nat} {xs : List (List AV)} {c : Code} (ht : st.slots t = .sl .own sz xs) (hN : t < C.N) (hne : xs ≠ []) (hid : ∀ A, 1000000 ≤ A → st.boxes A = none) (hb : C.base ≤ 1000000) (h : ∀ b cap, xs.length ≤ cap → AWp C c (st.park t b sz xs cap) Q) : AWp C c st Q := by
 intro S E a hbs I ha hd he
 subst he
 obtain ⟨b, cap, E', h1, h2, h3, h4, h5⟩ := I.park hN ht hne hid (Nat.le_trans hbs hb)
 have := h b cap h1 S E' a hbs h4 (by rw [ha, h3]) hd h5
 rwa [h2] at this
theorem SOps.park (t : Nat) {sz : Nat} {xs : List (List AV)} {ops : Array Oper} {k : Nat} {l : List Oper} {K : St → Prop} (ht : st.slots t = .sl .own sz xs) (hN : t < C.N) (hne : xs ≠ []) (hid : ∀ A, 1000000 ≤ A → st.boxes A = none) (hb : C.base ≤ 1000000)
  (h : ∀ b cap, xs.length ≤ cap → SOps C ops k l (st.park t b sz xs cap) K) : SOps C ops k l st K := by
 intro S E a hbs I ha hd he R hR
 subst he
 obtain ⟨b, cap, E', h1, h2, h3, h4, h5⟩ := I.park hN ht hne hid (Nat.le_trans hbs hb)
 have := h b cap h1 S E' a hbs h4 (by rw [ha, h3]) hd h5 R hR
 rwa [h2] at this
theorem SOps.claim (t b id : Nat) {n cap : Nat} {cs : List AV} {ops : Array Oper} {k : Nat} {l : List Oper} {K : St → Prop} (ht : st.slots t = .ab b 0 n cap) (hbx : st.boxes (1000000 + b) = some cs) (hcc : Calm cs) (hN : t < C.N) (hid : st.boxes id = none) (hb : C.base ≤ id ∧ id < 1000000)
  (h : SOps C ops k l (st.claim t b id n cap cs) K) : SOps C ops k l st K := by
 intro S E a hbs I ha hd he R hR
 subst he
 obtain ⟨E', h2, h3, h4, h5⟩ := I.claim hN ht hbx hcc hid (Nat.le_trans hbs hb.1) hb.2
 have := h S E' a hbs h4 (by rw [ha, h3]) hd h5 R hR
 rwa [h2] at this
theorem AWp.claim (t b id : Nat) {n cap : Nat} {cs : List AV} {c : Code} (ht : st.slots t = .ab b 0 n cap) (hbx : st.boxes (1000000 + b) = some cs) (hcc : Calm cs) (hN : t < C.N) (hid : st.boxes id = none) (hb : C.base ≤ id ∧ id < 1000000)
  (h : AWp C c (st.claim t b id n cap cs) Q) : AWp C c st Q := by
 intro S E a hbs I ha hd he
 subst he
 obtain ⟨E', h2, h3, h4, h5⟩ := I.claim hN ht hbx hcc hid (Nat.le_trans hbs hb.1) hb.2
 have := h S E' a hbs h4 (by rw [ha, h3]) hd h5
 rwa [h2] at this
theorem AWp.whileK {ι : Type} (l : ι → List (Nat × AV)) (bx : ι → Boxes) (inv : ι → Prop) (μ : ι → Nat) (ks : List Nat) (kb : ι → List Nat) {c : Code} (i0 : ι) (h0 : inv i0) (hst : st.sees ks (kb i0) (l i0) (bx i0))
  (round : ∀ i, inv i → AWp C c (St.of (l i) (bx i)) (thenQ (fun s => ∃ i', inv i' ∧ μ i' < μ i ∧ s.sees ks (kb i') (l i') (bx i')) Q)) : AWp C (.loop c) st Q := by
 refine AWp.clean ks (kb i0) (AWp.fit (St.sees_fits hst) ?_)
 intro S E a hb I ha hd he
 refine wp_loop_by (fun i a w => inv i ∧ ∃ E, E.w = w ∧ Inv C.N S E ∧ a.tmps = E.tm ∧ a.defers = [] ∧ E.st = St.of (l i) (bx i)) μ ?_ (i0 := i0) ⟨h0, E, rfl, I, ha, hd, he⟩
 rintro i a w ⟨hi, E, rfl, I, ha, hd, he⟩
 refine wp_mono (round i hi S E a hb I ha hd he) ?_
 rintro e a w ⟨E1, rfl, h2, h3, h4, h5⟩
 cases e with
 | normal =>
  obtain ⟨i', g1, g2, g3⟩ := h5
  obtain ⟨E2, k1, k2, k3, k4⟩ := h2.clean ks (kb i')
  exact ⟨i', ⟨g1, { E2 with st := St.of (l i') (bx i') }, k1, k3.fits (by rw [k4]; exact St.sees_fits g3), by rw [h3, k2], h4, rfl⟩, g2⟩
 | _ => exact ⟨E1, rfl, h2, h3, h4, h5⟩
theorem AWp.goX {id : Nat} {ops : Array Oper} {y : Code} (h : ∀ K : St → Prop, (∀ ks kb s, AWp C y (St.of (seeS ks kb s ks) (seeB ks kb s kb)) Q → K s) → SOps C ops 0 ops.toList st K) : AWp C (.seq (.region id ops false) y) st Q := by
 refine AWp.seq ((AWp.sregion (Q := fun e s => thenQ (fun s => AWp C y s Q) (fun _ _ => False) e s) ?_).mono ?_)
 ·refine h (fun s => AWp C y s Q) fun ks kb s hs => AWp.clean ks kb ?_
  rw [St.clean_eq]
  exact hs
 ·intro e s hs
  cases e with
  | normal => exact hs
  | _ => exact hs.elim
theorem AWp.goXL {id : Nat} {ops : Array Oper} (h : ∀ K : St → Prop, (∀ s, Q .normal s → K s) → SOps C ops 0 ops.toList st K) : AWp C (.region id ops false) st Q := by
 refine (AWp.sregion (Q := fun e s => thenQ (fun s => Q .normal s) (fun _ _ => False) e s) ?_).mono ?_
 ·exact h (Q .normal) fun s hs => hs
 ·intro e s hs
  cases e with
  | normal => exact hs
  | _ => exact hs.elim
theorem AWp.cleanOf (ks kb : List Nat) {c : Code} (h : AWp C c (St.of (seeS ks kb st ks) (seeB ks kb st kb)) Q) : AWp C c st Q := by
 refine AWp.clean ks kb ?_
 rw [St.clean_eq]
 exact h
end
attribute [simp] St.park St.claim
end Go.AM
namespace Go.AM
open Go.Proofs
theorem leK_not (a b : ByteArray) : leK a b = !ltK b a := by
 rw [Bool.eq_iff_iff]
 simp only [leK, Bool.or_eq_true, Bool.not_eq_true']
 constructor
 ·rintro (h | h)
  ·exact ((ltK_iff _ _).1 h).asymm
  ·rw [Bool.eq_false_iff, ne_eq, ltK_iff]
   intro h2
   rw [eqK_iff] at h
   unfold KL at h2
   rw [h] at h2
   exact List.lt_irrefl _ h2
 ·intro h
  rcases key_tri a b with h2 | h2 | h2
  ·exact .inl ((ltK_iff _ _).2 h2)
  ·exact .inr h2
  ·rw [(ltK_iff _ _).2 h2] at h; cases h
theorem c_awset_rightKey (k : ByteArray) : Pure Tryz.prog 133 [.s k] (.b (keyOk k)) := by
 refine proc_of (cx Tryz.prog 10 [0, 2] [2]) 9 [.tmp 2] Tryz.func133 rfl rfl rfl rfl rfl rfl (Nat.le_refl _) rfl ?_
 refine AWp.g [0] [] ?_
 simp
 refine AWp.step [2] [] [(2, .b (keyOk k))] [] ?_ ?_
 ·by_cases h1 : k.toList = [] <;> by_cases h2 : (k.size : Int) ≤ 32 <;> simp [h1, h2, keyOk, eqK]
 refine AWp.ret ?_
 simp
set_option maxRecDepth 8000 in
set_option maxHeartbeats 1000000 in
theorem c_awset_rows (l : List Dot) (hlen : l.length ≤ 1000000) : Pure Tryz.prog 134 [.sl .fro 2 (dotsAV l)] (.b (rowsB l)) := by
 refine proc_of (cx Tryz.prog 30 [0, 2, 3, 4, 5, 6, 7, 8, 28] [2]) 29 [.tmp 2] Tryz.func134 rfl rfl rfl rfl rfl rfl (Nat.le_refl _) rfl ?_
 refine AWp.g [0] [] ?_
 simp
 refine AWp.seq ?_
 refine AWp.g [0, 5, 6, 7] [] ?_
 simp
 refine AWp.block (AWp.while (fun i : Nat => [(0, .sl .fro 2 (dotsAV l)), (5, .sl .fro 2 (dotsAV l)), (6, .i .i64 l.length), (7, .i .i64 i)]) (fun i => []) (fun i => i ≤ l.length ∧ ∀ k, k < i → rowOk l k = true) (fun i => l.length - i) [0, 5, 6, 7] [] 0 (by simp) (by simp) ?_)
 rintro i ⟨hi, hall⟩
 refine AWp.g [0, 5, 6, 7, 8] [] ?_
 simp
 refine AWp.seq ?_
 by_cases h : i < l.length
 ·refine AWp.cT (by simp [h]) ?_
  refine AWp.skip ?_
  show AWp _ _ _ _
  refine AWp.seq ?_
  refine AWp.block ?_
  refine AWp.g [0, 3, 4, 5, 6, 7] [4] ?_
  simp [h]
  show AWp _ _ _ _
  refine AWp.stepD 17 (fun k => if k = 1 then .b (mayD l[i]) else if k = 13 then .b (ltD (l.getD (i - 1) (0, 0)) l[i]) else .any) [0, 5, 6, 7, 28] [] [(0, .sl .fro 2 (dotsAV l)), (5, .sl .fro 2 (dotsAV l)), (6, .i .i64 l.length), (7, .i .i64 i), (28, .b (!rowOk l i))] [] mix (by kernel_rfl) ?_ ?_
  ·have g1 := c_dots_May l[i]
   simp [dotC] at g1
   cases q1 : mayD l[i]
   ·rw [q1] at g1
    simp [rowOk, h, q1, g1]
   rw [q1] at g1
   by_cases q3 : 0 < i
   ·obtain ⟨j, rfl⟩ : ∃ j, i = j + 1 := ⟨i - 1, by omega⟩
    have hj : j < l.length := by omega
    have w2 : IntKind.i64.wrap (j : Int) = j := wrap64 (by omega) (by omega)
    have g3 := c_dots_Less l[j] l[j + 1]
    simp [dotC] at g3
    simp [rowOk, h, hj, q1, w2, g1]
    exact g3
   ·simp [rowOk, h, q1, q3, g1]
  cases hp : rowOk l i
  ·refine AWp.cT (by simp) ?_
   refine AWp.g [2] [] ?_
   simp
   refine AWp.ret ?_
   simp [rowsB, range_not h hp]
  ·refine AWp.cF (by simp) ?_
   refine AWp.skip ?_
   show AWp _ _ _ _
   refine AWp.gL [0, 5, 6, 7] [] ?_
   simp
   refine ⟨i + 1, ⟨by omega, fun k hk => ?_⟩, by omega, ?_⟩
   ·by_cases hki : k = i
    ·subst hki; exact hp
    ·exact hall k (by omega)
   ·simp
    exact wrap64 (by omega) (by omega)
 ·refine AWp.cF (by simp [h]) ?_
  refine AWp.exit ?_
  show AWp _ _ _ _
  obtain rfl : i = l.length := by omega
  refine AWp.g [2] [] ?_
  simp
  refine AWp.ret ?_
  rw [rowsB, range_all hall]
  simp
def entOkA (p : ByteArray) (e : Entry) : Bool := keyOk e.key && !leK e.key p && !decide ((e.live.length : Int) = 0) && !decide ((0 : Int) < e.dead.length) && rowsB e.live
def entAtA (s : List Entry) (i : Nat) : Bool := match s[i]? with
 | some e => entOkA (prevK s i) e
 | none => false
def setOkA (s : List Entry) : Bool := decide ((s.length : Int) ≤ 4000) && (List.range s.length).all (entAtA s)
set_option maxRecDepth 8000 in
set_option maxHeartbeats 4000000 in
theorem c_awset_Check (s : List Entry) (hs : Fine s) : Pure Tryz.prog 54 [.sl .fro 3 (entsAV s)] (.i .i64 (if setOkA s then 0 else 1)) := by
 have hlen := hs.1
 refine proc_of (cx Tryz.prog 53 [0, 2, 3, 4, 7, 8, 9, 10, 11, 51] [2]) 52 [.tmp 2] Tryz.func54 rfl rfl rfl rfl rfl rfl (Nat.le_refl _) rfl ?_
 refine AWp.g [0] [] ?_
 simp
 refine AWp.seq ?_
 refine AWp.g [0, 7] [] ?_
 simp
 by_cases h : (4000 : Int) < s.length
 ·refine AWp.cT (by simp [h]) ?_
  refine AWp.g [2] [] ?_
  simp
  refine AWp.ret ?_
  simp [setOkA]
  omega
 ·refine AWp.cF (by simp [h]) ?_
  refine AWp.skip ?_
  show AWp _ _ _ _
  refine AWp.seq ?_
  refine AWp.g [0, 8, 9, 10] [] ?_
  simp
  refine AWp.block (AWp.while (fun i : Nat => [(0, .sl .fro 3 (entsAV s)), (8, .sl .fro 3 (entsAV s)), (9, .i .i64 s.length), (10, .i .i64 i)]) (fun i => []) (fun i => i ≤ s.length ∧ ∀ k, k < i → entAtA s k = true) (fun i => s.length - i) [0, 8, 9, 10] [] 0 (by simp) (by simp) ?_)
  rintro i ⟨hi, hall⟩
  refine AWp.g [0, 8, 9, 10, 11] [] ?_
  simp
  refine AWp.seq ?_
  by_cases h2 : i < s.length
  ·refine AWp.cT (by simp [h2]) ?_
   refine AWp.skip ?_
   show AWp _ _ _ _
   refine AWp.seq ?_
   refine AWp.block ?_
   refine AWp.g [0, 3, 4, 8, 9, 10] [4] ?_
   simp [h2]
   show AWp _ _ _ _
   refine AWp.stepD 37 (fun k => if k = 2 then .b (keyOk s[i].key) else if k = 34 then .b (rowsB s[i].live) else .any) [0, 8, 9, 10, 51] [] [(0, .sl .fro 3 (entsAV s)), (8, .sl .fro 3 (entsAV s)), (9, .i .i64 s.length), (10, .i .i64 i), (51, .b (!entOkA (prevK s i) s[i]))] [] mix (by kernel_rfl) ?_ ?_
   ·have hl := hs.2 _ (List.getElem_mem h2)
    have g1 := c_awset_rightKey s[i].key
    have g2 := c_awset_rows s[i].live hl.1
    cases q1 : keyOk s[i].key
    ·rw [q1] at g1
     simp [entOkA, q1, g1]
    rw [q1] at g1
    by_cases h0 : 0 < i
    ·obtain ⟨j, rfl⟩ : ∃ j, i = j + 1 := ⟨i - 1, by omega⟩
     have hj : j < s.length := by omega
     have w2 : IntKind.i64.wrap (j : Int) = j := wrap64 (by omega) (by omega)
     have q3 := leK_not s[j + 1].key s[j].key
     cases q2 : ltK s[j].key s[j + 1].key
     ·rw [q2] at q3
      simp [ltK] at q2
      simp at q3
      simp [entOkA, q1, q2, q3, w2, g1, prevK, hj, h2]
     ·rw [q2] at q3
      simp [ltK] at q2
      simp at q3
      by_cases q4 : s[j + 1].live = []
      ·simp [entOkA, q1, q2, q3, q4, w2, g1, prevK, hj, h2]
      by_cases q5 : 0 < s[j + 1].dead.length
      ·simp [entOkA, q1, q2, q3, q4, q5, w2, g1, prevK, hj, h2]
      cases q6 : rowsB s[j + 1].live <;> rw [q6] at g2 <;> simp [entOkA, q1, q2, q3, q4, q5, q6, w2, g1, g2, prevK, hj, h2]
    ·obtain rfl : i = 0 := by omega
     have q3 := leK_empty q1
     have e3 : prevK s 0 = ByteArray.empty := rfl
     by_cases q4 : s[0].live = []
     ·simp [entOkA, q1, q4, g1]
     by_cases q5 : 0 < s[0].dead.length
     ·simp [entOkA, q1, q4, q5, g1]
     cases q6 : rowsB s[0].live <;> rw [q6] at g2 <;> simp [entOkA, q1, q3, q4, q5, q6, g1, g2, e3]
   cases hp : entOkA (prevK s i) s[i]
   ·refine AWp.cT (by simp) ?_
    refine AWp.g [2] [] ?_
    simp
    refine AWp.ret ?_
    simp [setOkA, range_not (p := entAtA s) h2 (by simp [entAtA, h2, hp])]
   ·refine AWp.cF (by simp) ?_
    refine AWp.skip ?_
    show AWp _ _ _ _
    refine AWp.gL [0, 8, 9, 10] [] ?_
    simp
    refine ⟨i + 1, ⟨by omega, fun k hk => ?_⟩, by omega, ?_⟩
    ·by_cases hki : k = i
     ·subst hki; simp [entAtA, h2, hp]
     ·exact hall k (by omega)
    ·simp
     exact wrap64 (by omega) (by omega)
  ·refine AWp.cF (by simp [h2]) ?_
   refine AWp.exit ?_
   show AWp _ _ _ _
   obtain rfl : i = s.length := by omega
   refine AWp.g [2] [] ?_
   simp
   refine AWp.ret ?_
   rw [setOkA, range_all hall]
   simp
   omega
end Go.AM
namespace Go.AM
open Go.Proofs
structure Cel where
 key : ByteArray
 num : Int
def celC (x : Cel) : List AV := [.s x.key, .i .i64 x.num]
def celsAV (l : List Cel) : List (List AV) := l.map celC
@[simp] theorem celsAV_length (l : List Cel) : (celsAV l).length = l.length := by simp [celsAV]
@[simp] theorem celsAV_getElem (l : List Cel) (i : Nat) (h : i < (celsAV l).length) : (celsAV l)[i] = [.s (l[i]'(by simpa using h)).key, .i .i64 (l[i]'(by simpa using h)).num] := by simp [celsAV, celC]
def prevOf {α : Type} (f : α → ByteArray) (l : List α) (i : Nat) : ByteArray := if i = 0 then ByteArray.empty else match l[i - 1]? with
 | some e => f e
 | none => ByteArray.empty
theorem prevOf_succ {α : Type} (f : α → ByteArray) (l : List α) (i : Nat) (h : i < l.length) : prevOf f l (i + 1) = f l[i] := by simp [prevOf, h]
def okAt {α : Type} (f : α → ByteArray) (ok : ByteArray → α → Bool) (l : List α) (i : Nat) : Bool := match l[i]? with
 | some e => ok (prevOf f l i) e
 | none => false
def okL {α : Type} (f : α → ByteArray) (ok : ByteArray → α → Bool) (l : List α) : Bool := (List.range l.length).all (okAt f ok l) && decide ((l.length : Int) ≤ 4000)
def celOk (p : ByteArray) (c : Cel) : Bool := ltK p c.key && !decide ((32 : Int) < c.key.size) && !decide (c.num = 0) && !decide (1099511627776 < c.num) && !decide (c.num < -1099511627776)
abbrev talB (l : List Cel) : Bool := okL Cel.key celOk l
set_option maxRecDepth 8000 in
set_option maxHeartbeats 2000000 in
theorem c_tally_Check (l : List Cel) (hlen : l.length ≤ 100000) : Pure Tryz.prog 137 [.sl .fro 2 (celsAV l)] (.i .i64 (if talB l then 0 else 1)) := by
 refine proc_of (cx Tryz.prog 43 [0, 2, 3, 5, 8, 9, 10, 11, 12, 39] [2]) 42 [.tmp 2] Tryz.func137 rfl rfl rfl rfl rfl rfl (Nat.le_refl _) rfl ?_
 refine AWp.g [0] [] ?_
 simp
 refine AWp.seq ?_
 refine AWp.g [0, 8] [] ?_
 simp
 by_cases h : (4000 : Int) < l.length
 ·refine AWp.cT (by simp [h]) ?_
  refine AWp.g [2] [] ?_
  simp
  refine AWp.ret ?_
  have : ¬ (l.length : Int) ≤ 4000 := by omega
  simp [okL, this]
 ·refine AWp.cF (by simp [h]) ?_
  refine AWp.skip ?_
  show AWp _ _ _ _
  refine AWp.g [0, 3] [] ?_
  simp
  refine AWp.seq ?_
  refine AWp.g [3, 9, 10, 11] [] ?_
  simp
  refine AWp.block (AWp.while (fun i : Nat => [(3, .s (prevOf Cel.key l i)), (9, .sl .fro 2 (celsAV l)), (10, .i .i64 l.length), (11, .i .i64 i)]) (fun i => []) (fun i => i ≤ l.length ∧ ∀ k, k < i → okAt Cel.key celOk l k = true) (fun i => l.length - i) [3, 9, 10, 11] [] 0 (by simp) (by simp [prevOf]; rfl) ?_)
  rintro i ⟨hi, hall⟩
  refine AWp.g [3, 9, 10, 11, 12] [] ?_
  simp
  refine AWp.seq ?_
  by_cases h2 : i < l.length
  ·refine AWp.cT (by simp [h2]) ?_
   refine AWp.skip ?_
   show AWp _ _ _ _
   refine AWp.seq ?_
   refine AWp.block ?_
   refine AWp.g [3, 5, 9, 10, 11] [5] ?_
   simp [h2]
   refine AWp.seq ?_
   refine AWp.step [5, 9, 10, 11, 39] [5] [(5, .ptr 5 0), (9, .sl .fro 2 (celsAV l)), (10, .i .i64 l.length), (11, .i .i64 i), (39, .b (!celOk (prevOf Cel.key l i) l[i]))] [(5, [.s l[i].key, .i .i64 l[i].num])] ?_ ?_
   ·have q0 := leK_not l[i].key (prevOf Cel.key l i)
    cases q1 : ltK (prevOf Cel.key l i) l[i].key
    ·rw [q1] at q0
     simp [leK, ltK, eqK] at q0
     rcases q0 with q2 | q2 <;> simp [celOk, q1, q2]
    rw [q1] at q0
    simp [leK, ltK, eqK] at q0
    by_cases p2 : (32 : Int) < l[i].key.size
    ·simp [celOk, q0, q1, p2]
    by_cases p3 : l[i].num = 0
    ·simp [celOk, q0, q1, p2, p3]
    by_cases p4 : 1099511627776 < l[i].num
    ·simp [celOk, q0, q1, p2, p3, p4]
    simp [celOk, q0, q1, p2, p3, p4]
   cases hp : celOk (prevOf Cel.key l i) l[i]
   ·refine AWp.cT (by simp) ?_
    refine AWp.g [2] [] ?_
    simp
    refine AWp.ret ?_
    simp [okL, range_not (p := okAt Cel.key celOk l) h2 (by simp [okAt, h2, hp])]
   ·refine AWp.cF (by simp) ?_
    refine AWp.skip ?_
    show AWp _ _ _ _
    refine AWp.gL [3, 9, 10, 11] [] ?_
    simp
    show AWp _ _ _ _
    refine AWp.gL [3, 9, 10, 11] [] ?_
    simp
    refine ⟨i + 1, ⟨by omega, fun k hk => ?_⟩, by omega, ?_⟩
    ·by_cases hki : k = i
     ·subst hki; simp [okAt, h2, hp]
     ·exact hall k (by omega)
    ·simp [prevOf_succ Cel.key l i h2]
     exact wrap64 (by omega) (by omega)
  ·refine AWp.cF (by simp [h2]) ?_
   refine AWp.exit ?_
   show AWp _ _ _ _
   obtain rfl : i = l.length := by omega
   refine AWp.g [2] [] ?_
   simp
   refine AWp.ret ?_
   rw [talB, okL, range_all hall]
   simp
   omega
@[simp] theorem try_eqArr : flatEq Tryz.prog 136 = some [.int .i64, .int .i64, .int .i64, .int .i64, .int .i64] := by kernel_rfl
def hv (x : Acc) (k : Nat) : Int := if k = 0 then x.a else if k = 1 then x.b else if k = 2 then x.c else if k = 3 then x.d else x.e
def hvOk (x : Acc) (k : Nat) : Bool := !decide (1099511627776 < hv x k) && !decide (hv x k < -1099511627776)
def noneA (x : Acc) : Bool := decide (x.a = 0) && (decide (x.b = 0) && (decide (x.c = 0) && (decide (x.d = 0) && decide (x.e = 0))))
def accHd (p : ByteArray) (x : Acc) : Bool := ltK p x.key && !decide ((32 : Int) < x.key.size) && !noneA x
def accOk (p : ByteArray) (x : Acc) : Bool := accHd p x && (List.range 5).all (hvOk x)
abbrev accB (l : List Acc) : Bool := okL Acc.key accOk l
set_option maxRecDepth 8000 in
set_option maxHeartbeats 4000000 in
theorem c_escrow_Check (l : List Acc) (hlen : l.length ≤ 100000) : Pure Tryz.prog 138 [.sl .fro 6 (acsAV l)] (.i .i64 (if accB l then 0 else 1)) := by
 refine proc_of (cx Tryz.prog 48 [0, 2, 3, 5, 7, 10, 11, 12, 13, 14, 32, 34, 35, 36, 43] [2]) 47 [.tmp 2] Tryz.func138 rfl rfl rfl rfl rfl rfl (Nat.le_refl _) rfl ?_
 refine AWp.g [0] [] ?_
 simp
 refine AWp.seq ?_
 refine AWp.g [0, 10] [] ?_
 simp
 by_cases h : (4000 : Int) < l.length
 ·refine AWp.cT (by simp [h]) ?_
  refine AWp.g [2] [] ?_
  simp
  refine AWp.ret ?_
  have : ¬ (l.length : Int) ≤ 4000 := by omega
  simp [okL, this]
 ·refine AWp.cF (by simp [h]) ?_
  refine AWp.skip ?_
  show AWp _ _ _ _
  refine AWp.g [0, 3] [] ?_
  simp
  refine AWp.seq ?_
  refine AWp.g [3, 11, 12, 13] [] ?_
  simp
  refine AWp.block (AWp.while (fun i : Nat => [(3, .s (prevOf Acc.key l i)), (11, .sl .fro 6 (acsAV l)), (12, .i .i64 l.length), (13, .i .i64 i)]) (fun i => []) (fun i => i ≤ l.length ∧ ∀ k, k < i → okAt Acc.key accOk l k = true) (fun i => l.length - i) [3, 11, 12, 13] [] 0 (by simp) (by simp [prevOf]; rfl) ?_)
  rintro i ⟨hi, hall⟩
  refine AWp.g [3, 11, 12, 13, 14] [] ?_
  simp
  refine AWp.seq ?_
  by_cases h2 : i < l.length
  ·refine AWp.cT (by simp [h2]) ?_
   refine AWp.skip ?_
   show AWp _ _ _ _
   refine AWp.seq ?_
   refine AWp.block ?_
   refine AWp.g [3, 5, 11, 12, 13] [5] ?_
   simp [h2, acC]
   refine AWp.seq ?_
   refine AWp.step [5, 11, 12, 13, 32] [5] [(5, .ptr 5 0), (11, .sl .fro 6 (acsAV l)), (12, .i .i64 l.length), (13, .i .i64 i), (32, .b (!accHd (prevOf Acc.key l i) l[i]))] [(5, [.s l[i].key, .i .i64 l[i].a, .i .i64 l[i].b, .i .i64 l[i].c, .i .i64 l[i].d, .i .i64 l[i].e])] ?_ ?_
   ·have q0 := leK_not l[i].key (prevOf Acc.key l i)
    cases q1 : ltK (prevOf Acc.key l i) l[i].key
    ·rw [q1] at q0
     simp [leK, ltK, eqK] at q0
     rcases q0 with q2 | q2 <;> simp [accHd, q1, q2]
    rw [q1] at q0
    simp [leK, ltK, eqK] at q0
    by_cases p2 : (32 : Int) < l[i].key.size
    ·simp [accHd, q0, q1, p2]
    simp [accHd, q0, q1, p2, noneA]
   cases hp : accHd (prevOf Acc.key l i) l[i]
   ·refine AWp.cT (by simp) ?_
    refine AWp.g [2] [] ?_
    simp
    refine AWp.ret ?_
    simp [okL, range_not (p := okAt Acc.key accOk l) h2 (by simp [okAt, accOk, h2, hp])]
   ·refine AWp.cF (by simp) ?_
    refine AWp.skip ?_
    show AWp _ _ _ _
    refine AWp.seq ?_
    refine AWp.g [5, 11, 12, 13, 34, 35] [5] ?_
    simp
    refine AWp.block (AWp.while (fun k : Nat => [(5, .ptr 5 0), (11, .sl .fro 6 (acsAV l)), (12, .i .i64 l.length), (13, .i .i64 i), (34, .agg [.i .i64 l[i].a, .i .i64 l[i].b, .i .i64 l[i].c, .i .i64 l[i].d, .i .i64 l[i].e]), (35, .i .i64 k)]) (fun k => [(5, [.s l[i].key, .i .i64 l[i].a, .i .i64 l[i].b, .i .i64 l[i].c, .i .i64 l[i].d, .i .i64 l[i].e])]) (fun k => k ≤ 5 ∧ ∀ j, j < k → hvOk l[i] j = true) (fun k => 5 - k) [5, 11, 12, 13, 34, 35] [5] 0 (by simp) (by simp) ?_)
    rintro k ⟨hk, hb⟩
    refine AWp.g [5, 11, 12, 13, 34, 35, 36] [5] ?_
    simp
    refine AWp.seq ?_
    by_cases h5 : k < 5
    ·refine AWp.cT (by simp [h5]; omega) ?_
     refine AWp.skip ?_
     show AWp _ _ _ _
     refine AWp.seq ?_
     refine AWp.block ?_
     refine AWp.step [5, 7, 11, 12, 13, 34, 35] [5] [(5, .ptr 5 0), (7, .i .i64 (hv l[i] k)), (11, .sl .fro 6 (acsAV l)), (12, .i .i64 l.length), (13, .i .i64 i), (34, .agg [.i .i64 l[i].a, .i .i64 l[i].b, .i .i64 l[i].c, .i .i64 l[i].d, .i .i64 l[i].e]), (35, .i .i64 k)] [(5, [.s l[i].key, .i .i64 l[i].a, .i .i64 l[i].b, .i .i64 l[i].c, .i .i64 l[i].d, .i .i64 l[i].e])] ?_ ?_
     ·obtain rfl | rfl | rfl | rfl | rfl : k = 0 ∨ k = 1 ∨ k = 2 ∨ k = 3 ∨ k = 4 := by omega
      all_goals simp [hv]
     refine AWp.step [5, 11, 12, 13, 34, 35, 43] [5] [(5, .ptr 5 0), (11, .sl .fro 6 (acsAV l)), (12, .i .i64 l.length), (13, .i .i64 i), (34, .agg [.i .i64 l[i].a, .i .i64 l[i].b, .i .i64 l[i].c, .i .i64 l[i].d, .i .i64 l[i].e]), (35, .i .i64 k), (43, .b (!hvOk l[i] k))] [(5, [.s l[i].key, .i .i64 l[i].a, .i .i64 l[i].b, .i .i64 l[i].c, .i .i64 l[i].d, .i .i64 l[i].e])] ?_ ?_
     ·by_cases p4 : 1099511627776 < hv l[i] k
      ·simp [hvOk, p4]
      simp [hvOk, p4]
     cases hp5 : hvOk l[i] k
     ·refine AWp.cT (by simp) ?_
      refine AWp.g [2] [] ?_
      simp
      refine AWp.ret ?_
      simp [okL, range_not (p := okAt Acc.key accOk l) h2 (by simp [okAt, accOk, h2, range_not (p := hvOk l[i]) h5 hp5])]
     ·refine AWp.cF (by simp) ?_
      refine AWp.skip ?_
      show AWp _ _ _ _
      refine AWp.gL [5, 11, 12, 13, 34, 35] [5] ?_
      simp
      refine ⟨k + 1, ⟨by omega, fun j hj => ?_⟩, by omega, ?_⟩
      ·by_cases hjk : j = k
       ·subst hjk; exact hp5
       ·exact hb j (by omega)
      ·simp
       exact wrap64 (by omega) (by omega)
    ·refine AWp.cF (by simp [h5]; omega) ?_
     refine AWp.exit ?_
     show AWp _ _ _ _
     have hok : accOk (prevOf Acc.key l i) l[i] = true := by
      rw [accOk, hp, range_all fun j hj => hb j (by omega)]
      rfl
     refine AWp.gL [3, 11, 12, 13] [] ?_
     simp
     show AWp _ _ _ _
     refine AWp.gL [3, 11, 12, 13] [] ?_
     simp
     refine ⟨i + 1, ⟨by omega, fun k hk => ?_⟩, by omega, ?_⟩
     ·by_cases hki : k = i
      ·subst hki; simp [okAt, h2, hok]
      ·exact hall k (by omega)
     ·simp [prevOf_succ Acc.key l i h2]
      exact wrap64 (by omega) (by omega)
  ·refine AWp.cF (by simp [h2]) ?_
   refine AWp.exit ?_
   show AWp _ _ _ _
   obtain rfl : i = l.length := by omega
   refine AWp.g [2] [] ?_
   simp
   refine AWp.ret ?_
   rw [accB, okL, range_all hall]
   simp
   omega
set_option maxRecDepth 8000 in
theorem c_register_may (n : Nt) : Pure Tryz.prog 140 [.agg [.s n.key, .i .i64 n.t, .i .i64 n.rep, .s n.word]] (.b (oneN n)) := by
 refine proc_of (cx Tryz.prog 38 [1, 2] [2]) 37 [.tmp 2] Tryz.func140 rfl rfl rfl rfl rfl rfl (Nat.le_refl _) rfl ?_
 refine AWp.g [1] [1] ?_
 simp
 refine AWp.step [2] [] [(2, .b (oneN n))] [] ?_ ?_
 ·by_cases p1 : n.key.toList = []
  ·simp [oneN, keyOk, eqK, p1]
  by_cases p2 : (n.key.size : Int) ≤ 32
  case neg => simp [oneN, keyOk, eqK, p1, p2]
  by_cases p3 : 1 ≤ n.t
  case neg => simp [oneN, keyOk, eqK, p1, p2, p3]
  by_cases p4 : n.t ≤ 1099511627776
  case neg => simp [oneN, keyOk, eqK, p1, p2, p3, p4]
  by_cases p5 : 1 ≤ n.rep
  case neg => simp [oneN, keyOk, eqK, p1, p2, p3, p4, p5]
  by_cases p6 : n.rep ≤ 5
  case neg => simp [oneN, keyOk, eqK, p1, p2, p3, p4, p5, p6]
  simp [oneN, keyOk, eqK, p1, p2, p3, p4, p5, p6]
 refine AWp.ret ?_
 simp
set_option maxRecDepth 8000 in
set_option maxHeartbeats 4000000 in
theorem c_register_Check (l : List Nt) (hlen : l.length ≤ 100000) : Pure Tryz.prog 59 [.sl .fro 4 (ntsAV l)] (.i .i64 (if ntsB l then 0 else 1)) := by
 refine proc_of (cx Tryz.prog 34 [0, 2, 3, 4, 7, 8, 9, 10, 11, 32] [2]) 33 [.tmp 2] Tryz.func59 rfl rfl rfl rfl rfl rfl (Nat.le_refl _) rfl ?_
 refine AWp.g [0] [] ?_
 simp
 refine AWp.seq ?_
 refine AWp.g [0, 7] [] ?_
 simp
 by_cases h : (4000 : Int) < l.length
 ·refine AWp.cT (by simp [h]) ?_
  refine AWp.g [2] [] ?_
  simp
  refine AWp.ret ?_
  have : ¬ (l.length : Int) ≤ 4000 := by omega
  simp [ntsB, this]
 ·refine AWp.cF (by simp [h]) ?_
  refine AWp.skip ?_
  show AWp _ _ _ _
  refine AWp.seq ?_
  refine AWp.g [0, 8, 9, 10] [] ?_
  simp
  refine AWp.block (AWp.while (fun i : Nat => [(0, .sl .fro 4 (ntsAV l)), (8, .sl .fro 4 (ntsAV l)), (9, .i .i64 l.length), (10, .i .i64 i)]) (fun i => []) (fun i => i ≤ l.length ∧ ∀ k, k < i → ntAt l k = true) (fun i => l.length - i) [0, 8, 9, 10] [] 0 (by simp) (by simp) ?_)
  rintro i ⟨hi, hall⟩
  refine AWp.g [0, 8, 9, 10, 11] [] ?_
  simp
  refine AWp.seq ?_
  by_cases h2 : i < l.length
  ·refine AWp.cT (by simp [h2]) ?_
   refine AWp.skip ?_
   show AWp _ _ _ _
   refine AWp.seq ?_
   refine AWp.block ?_
   refine AWp.g [0, 3, 4, 8, 9, 10] [4] ?_
   simp [h2]
   show AWp _ _ _ _
   refine AWp.stepD 18 (fun _ => .b (oneN l[i])) [0, 8, 9, 10, 32] [] [(0, .sl .fro 4 (ntsAV l)), (8, .sl .fro 4 (ntsAV l)), (9, .i .i64 l.length), (10, .i .i64 i), (32, .b (!ntAt l i))] [] mix (by kernel_rfl) ?_ ?_
   ·have c1 := c_register_may l[i]
    by_cases q : oneN l[i] = true
    ·rw [q] at c1
     by_cases q3 : 0 < i
     ·obtain ⟨j, rfl⟩ : ∃ j, i = j + 1 := ⟨i - 1, by omega⟩
      have hj : j < l.length := by omega
      have w2 : IntKind.i64.wrap (j : Int) = j := wrap64 (by omega) (by omega)
      simp [h2, ntAt, q, hj, w2, ltK, c1]
     ·obtain rfl : i = 0 := by omega
      simp [h2, ntAt, q, c1]
    ·have q : oneN l[i] = false := by simpa using q
     rw [q] at c1
     simp [h2, ntAt, q, c1]
   cases hp : ntAt l i
   ·refine AWp.cT (by simp) ?_
    refine AWp.g [2] [] ?_
    simp
    refine AWp.ret ?_
    simp [ntsB, range_not h2 hp]
   ·refine AWp.cF (by simp) ?_
    refine AWp.skip ?_
    show AWp _ _ _ _
    refine AWp.gL [0, 8, 9, 10] [] ?_
    simp
    refine ⟨i + 1, ⟨by omega, fun k hk => ?_⟩, by omega, ?_⟩
    ·by_cases hki : k = i
     ·subst hki; exact hp
     ·exact hall k (by omega)
    ·simp
     exact wrap64 (by omega) (by omega)
  ·refine AWp.cF (by simp [h2]) ?_
   refine AWp.exit ?_
   show AWp _ _ _ _
   obtain rfl : i = l.length := by omega
   refine AWp.g [2] [] ?_
   simp
   refine AWp.ret ?_
   rw [ntsB, range_all hall]
   simp
   omega
def lightC (x : Cel) : Bool := !decide ((100 : Int) < x.key.size)
def lightA (x : Acc) : Bool := !decide ((100 : Int) < x.key.size)
def lightN (x : Nt) : Bool := !decide ((100 : Int) < x.key.size) && !decide ((200 : Int) < x.word.size)
set_option maxRecDepth 8000 in
set_option maxHeartbeats 1000000 in
theorem c_law10_Light (l : List Cel) (hlen : l.length ≤ 9223372036854775807) : Pure Tryz.prog 36 [.sl .fro 2 (celsAV l)] (.b (l.all lightC && decide (l.length ≤ 60))) := by
 refine proc_of (cx Tryz.prog 24 [0, 2, 3, 11, 20] [2]) 23 [.tmp 2] Tryz.func36 rfl rfl rfl rfl rfl rfl (Nat.le_refl _) rfl ?_
 refine AWp.g [0] [] ?_
 simp
 refine AWp.seq ?_
 refine AWp.g [0, 3] [] ?_
 simp
 refine AWp.block (AWp.while (fun i : Nat => [(0, .sl .fro 2 (celsAV l)), (3, .i .i64 i)]) (fun i => []) (fun i => i ≤ l.length ∧ ∀ k (hk : k < i) (hk2 : k < l.length), lightC l[k] = true) (fun i => l.length - i) [0, 3] [] 0 (by simp) (by simp) ?_)
 rintro i ⟨hi, hall⟩
 refine AWp.seq ?_
 refine AWp.step [0, 3, 11] [] [(0, .sl .fro 2 (celsAV l)), (3, .i .i64 i), (11, .b (decide (i < l.length) && decide (i ≤ 60)))] [] ?_ ?_
 ·by_cases h : i < l.length <;> simp [h]
  constructor <;> omega
 by_cases h : i < l.length ∧ i ≤ 60
 ·refine AWp.cT (by simp at h ⊢; omega) ?_
  refine AWp.skip ?_
  show AWp _ _ _ _
  refine AWp.seq ?_
  refine AWp.block ?_
  refine AWp.step [0, 3, 20] [] [(0, .sl .fro 2 (celsAV l)), (3, .i .i64 i), (20, .b (!lightC l[i]))] [] ?_ ?_
  ·have h1 := h.1
   simp [h1, lightC]
  cases hp : lightC l[i]
  ·refine AWp.cT (by simp) ?_
   refine AWp.g [2] [] ?_
   simp
   refine AWp.ret ?_
   simp [all_not h.1 hp]
  ·refine AWp.cF (by simp) ?_
   refine AWp.skip ?_
   show AWp _ _ _ _
   refine AWp.gL [0, 3] [] ?_
   simp
   refine ⟨i + 1, ⟨by omega, fun k hk hk2 => ?_⟩, by omega, ?_⟩
   ·by_cases hki : k = i
    ·subst hki; simpa using hp
    ·exact hall k (by omega) hk2
   ·simp
    exact wrap64 (by omega) (by omega)
 ·refine AWp.cF (by simp at h ⊢; omega) ?_
  refine AWp.exit ?_
  show AWp _ _ _ _
  refine AWp.g [2] [] ?_
  simp
  refine AWp.ret ?_
  by_cases hs : l.length ≤ 60
  ·have : i = l.length := by omega
   rw [all_of fun k hk => hall k (by omega) hk]
   simp
   omega
  ·simp [hs]
   omega
set_option maxRecDepth 8000 in
set_option maxHeartbeats 1000000 in
theorem c_law11_Light (l : List Acc) (hlen : l.length ≤ 9223372036854775807) : Pure Tryz.prog 37 [.sl .fro 6 (acsAV l)] (.b (l.all lightA && decide (l.length ≤ 60))) := by
 refine proc_of (cx Tryz.prog 24 [0, 2, 3, 11, 20] [2]) 23 [.tmp 2] Tryz.func37 rfl rfl rfl rfl rfl rfl (Nat.le_refl _) rfl ?_
 refine AWp.g [0] [] ?_
 simp
 refine AWp.seq ?_
 refine AWp.g [0, 3] [] ?_
 simp
 refine AWp.block (AWp.while (fun i : Nat => [(0, .sl .fro 6 (acsAV l)), (3, .i .i64 i)]) (fun i => []) (fun i => i ≤ l.length ∧ ∀ k (hk : k < i) (hk2 : k < l.length), lightA l[k] = true) (fun i => l.length - i) [0, 3] [] 0 (by simp) (by simp) ?_)
 rintro i ⟨hi, hall⟩
 refine AWp.seq ?_
 refine AWp.step [0, 3, 11] [] [(0, .sl .fro 6 (acsAV l)), (3, .i .i64 i), (11, .b (decide (i < l.length) && decide (i ≤ 60)))] [] ?_ ?_
 ·by_cases h : i < l.length <;> simp [h]
  constructor <;> omega
 by_cases h : i < l.length ∧ i ≤ 60
 ·refine AWp.cT (by simp at h ⊢; omega) ?_
  refine AWp.skip ?_
  show AWp _ _ _ _
  refine AWp.seq ?_
  refine AWp.block ?_
  refine AWp.step [0, 3, 20] [] [(0, .sl .fro 6 (acsAV l)), (3, .i .i64 i), (20, .b (!lightA l[i]))] [] ?_ ?_
  ·have h1 := h.1
   simp [h1, lightA, acC]
  cases hp : lightA l[i]
  ·refine AWp.cT (by simp) ?_
   refine AWp.g [2] [] ?_
   simp
   refine AWp.ret ?_
   simp [all_not h.1 hp]
  ·refine AWp.cF (by simp) ?_
   refine AWp.skip ?_
   show AWp _ _ _ _
   refine AWp.gL [0, 3] [] ?_
   simp
   refine ⟨i + 1, ⟨by omega, fun k hk hk2 => ?_⟩, by omega, ?_⟩
   ·by_cases hki : k = i
    ·subst hki; simpa using hp
    ·exact hall k (by omega) hk2
   ·simp
    exact wrap64 (by omega) (by omega)
 ·refine AWp.cF (by simp at h ⊢; omega) ?_
  refine AWp.exit ?_
  show AWp _ _ _ _
  refine AWp.g [2] [] ?_
  simp
  refine AWp.ret ?_
  by_cases hs : l.length ≤ 60
  ·have : i = l.length := by omega
   rw [all_of fun k hk => hall k (by omega) hk]
   simp
   omega
  ·simp [hs]
   omega
set_option maxRecDepth 8000 in
set_option maxHeartbeats 1000000 in
theorem c_law12_Light (l : List Nt) (hlen : l.length ≤ 9223372036854775807) : Pure Tryz.prog 38 [.sl .fro 4 (ntsAV l)] (.b (l.all lightN && decide (l.length ≤ 60))) := by
 refine proc_of (cx Tryz.prog 33 [0, 2, 3, 11, 29] [2]) 32 [.tmp 2] Tryz.func38 rfl rfl rfl rfl rfl rfl (Nat.le_refl _) rfl ?_
 refine AWp.g [0] [] ?_
 simp
 refine AWp.seq ?_
 refine AWp.g [0, 3] [] ?_
 simp
 refine AWp.block (AWp.while (fun i : Nat => [(0, .sl .fro 4 (ntsAV l)), (3, .i .i64 i)]) (fun i => []) (fun i => i ≤ l.length ∧ ∀ k (hk : k < i) (hk2 : k < l.length), lightN l[k] = true) (fun i => l.length - i) [0, 3] [] 0 (by simp) (by simp) ?_)
 rintro i ⟨hi, hall⟩
 refine AWp.seq ?_
 refine AWp.step [0, 3, 11] [] [(0, .sl .fro 4 (ntsAV l)), (3, .i .i64 i), (11, .b (decide (i < l.length) && decide (i ≤ 60)))] [] ?_ ?_
 ·by_cases h : i < l.length <;> simp [h]
  constructor <;> omega
 by_cases h : i < l.length ∧ i ≤ 60
 ·refine AWp.cT (by simp at h ⊢; omega) ?_
  refine AWp.skip ?_
  show AWp _ _ _ _
  refine AWp.seq ?_
  refine AWp.block ?_
  refine AWp.step [0, 3, 29] [] [(0, .sl .fro 4 (ntsAV l)), (3, .i .i64 i), (29, .b (!lightN l[i]))] [] ?_ ?_
  ·have h1 := h.1
   by_cases q1 : (100 : Int) < l[i].key.size
   ·simp [h1, q1, lightN]
   simp [h1, q1, lightN]
  cases hp : lightN l[i]
  ·refine AWp.cT (by simp) ?_
   refine AWp.g [2] [] ?_
   simp
   refine AWp.ret ?_
   simp [all_not h.1 hp]
  ·refine AWp.cF (by simp) ?_
   refine AWp.skip ?_
   show AWp _ _ _ _
   refine AWp.gL [0, 3] [] ?_
   simp
   refine ⟨i + 1, ⟨by omega, fun k hk hk2 => ?_⟩, by omega, ?_⟩
   ·by_cases hki : k = i
    ·subst hki; simpa using hp
    ·exact hall k (by omega) hk2
   ·simp
    exact wrap64 (by omega) (by omega)
 ·refine AWp.cF (by simp at h ⊢; omega) ?_
  refine AWp.exit ?_
  show AWp _ _ _ _
  refine AWp.g [2] [] ?_
  simp
  refine AWp.ret ?_
  by_cases hs : l.length ≤ 60
  ·have : i = l.length := by omega
   rw [all_of fun k hk => hall k (by omega) hk]
   simp
   omega
  ·simp [hs]
   omega
end Go.AM
namespace Go.AM
open Go.Proofs
structure Flr where
 is : Bool
 lo : Int
def boolsAV (l : List Bool) : List (List AV) := l.map fun b => [.b b]
@[simp] theorem boolsAV_length (l : List Bool) : (boolsAV l).length = l.length := by simp [boolsAV]
@[simp] theorem boolsAV_getElem (l : List Bool) (i : Nat) (h : i < (boolsAV l).length) : (boolsAV l)[i] = [.b (l[i]'(by simpa using h))] := by simp [boolsAV]
def flrC (x : Flr) : List AV := [.b x.is, .i .i64 x.lo]
def flrsAV (l : List Flr) : List (List AV) := l.map flrC
@[simp] theorem flrsAV_length (l : List Flr) : (flrsAV l).length = l.length := by simp [flrsAV]
@[simp] theorem flrsAV_getElem (l : List Flr) (i : Nat) (h : i < (flrsAV l).length) : (flrsAV l)[i] = [.b (l[i]'(by simpa using h)).is, .i .i64 (l[i]'(by simpa using h)).lo] := by simp [flrsAV, flrC]
structure Kin where
 sets : List Bool
 counts : List Flr
 regs : Int
def kinC (k : Kin) : List AV := [.sl .fro 1 (boolsAV k.sets), .sl .fro 2 (flrsAV k.counts), .i .i64 k.regs]
def rrE (l : List (List Entry)) : List (List AV) := l.map fun x => [.sl .fro 3 (entsAV x)]
@[simp] theorem rrE_length (l : List (List Entry)) : (rrE l).length = l.length := by simp [rrE]
@[simp] theorem rrE_getElem (l : List (List Entry)) (i : Nat) (h : i < (rrE l).length) : (rrE l)[i] = [.sl .fro 3 (entsAV (l[i]'(by simpa using h)))] := by simp [rrE]
def rrC (l : List (List Cel)) : List (List AV) := l.map fun x => [.sl .fro 2 (celsAV x)]
@[simp] theorem rrC_length (l : List (List Cel)) : (rrC l).length = l.length := by simp [rrC]
@[simp] theorem rrC_getElem (l : List (List Cel)) (i : Nat) (h : i < (rrC l).length) : (rrC l)[i] = [.sl .fro 2 (celsAV (l[i]'(by simpa using h)))] := by simp [rrC]
def rrA (l : List (List Acc)) : List (List AV) := l.map fun x => [.sl .fro 6 (acsAV x)]
@[simp] theorem rrA_length (l : List (List Acc)) : (rrA l).length = l.length := by simp [rrA]
@[simp] theorem rrA_getElem (l : List (List Acc)) (i : Nat) (h : i < (rrA l).length) : (rrA l)[i] = [.sl .fro 6 (acsAV (l[i]'(by simpa using h)))] := by simp [rrA]
def rrN (l : List (List Nt)) : List (List AV) := l.map fun x => [.sl .fro 4 (ntsAV x)]
@[simp] theorem rrN_length (l : List (List Nt)) : (rrN l).length = l.length := by simp [rrN]
@[simp] theorem rrN_getElem (l : List (List Nt)) (i : Nat) (h : i < (rrN l).length) : (rrN l)[i] = [.sl .fro 4 (ntsAV (l[i]'(by simpa using h)))] := by simp [rrN]
structure Rw where
 sets : List (List Entry)
 tals : List (List Cel)
 accs : List (List Acc)
 regs : List (List Nt)
def rwC (w : Rw) : List AV := [.sl .fro 1 (rrE w.sets), .sl .fro 1 (rrC w.tals), .sl .fro 1 (rrA w.accs), .sl .fro 1 (rrN w.regs)]
def FineK (k : Kin) : Prop := k.sets.length ≤ 1000 ∧ k.counts.length ≤ 1000
structure FineR (w : Rw) : Prop where
 s0 : w.sets.length ≤ 1000
 t0 : w.tals.length ≤ 1000
 a0 : w.accs.length ≤ 1000
 n0 : w.regs.length ≤ 1000
 s1 : ∀ l ∈ w.sets, Fine l
 t1 : ∀ l ∈ w.tals, l.length ≤ 100000
 a1 : ∀ l ∈ w.accs, l.length ≤ 100000
 n1 : ∀ l ∈ w.regs, l.length ≤ 100000
def flrOk (f : Flr) : Bool := !decide (0 < f.lo) && !decide (f.lo < -1000) && (f.is || decide (f.lo = 0))
def kindsB (k : Kin) : Bool := !decide ((6 : Int) < k.sets.length) && !decide ((4 : Int) < k.counts.length) && !decide (k.regs < 0) && !decide (3 < k.regs) && k.counts.all flrOk
set_option maxRecDepth 8000 in
set_option maxHeartbeats 2000000 in
theorem c_raw_CheckKinds (k : Kin) (hk : FineK k) : Pure Tryz.prog 15 [.agg (kinC k)] (.i .i64 (if kindsB k then 0 else 1)) := by
 obtain ⟨hk1, hk2⟩ := hk
 refine proc_of (cx Tryz.prog 51 [1, 2, 4, 24, 26, 27, 28, 29, 49] [2]) 50 [.tmp 2] Tryz.func15 rfl rfl rfl rfl rfl rfl (Nat.le_refl _) rfl ?_
 refine AWp.g [1] [1] ?_
 simp [kinC]
 refine AWp.seq ?_
 refine AWp.step [1, 24] [1] [(1, .ptr 1 0), (24, .b (decide ((6 : Int) < k.sets.length) || decide ((4 : Int) < k.counts.length) || decide (k.regs < 0) || decide (3 < k.regs)))] [(1, [.sl .fro 1 (boolsAV k.sets), .sl .fro 2 (flrsAV k.counts), .i .i64 k.regs])] ?_ ?_
 ·by_cases q1 : (6 : Int) < k.sets.length
  ·simp [q1]
  by_cases q2 : (4 : Int) < k.counts.length
  ·simp [q1, q2]
  by_cases q3 : k.regs < 0
  ·simp [q1, q2, q3]
  simp [q1, q2, q3]
 cases hq : (decide ((6 : Int) < k.sets.length) || decide ((4 : Int) < k.counts.length) || decide (k.regs < 0) || decide (3 < k.regs))
 ·refine AWp.cF (by simp) ?_
  refine AWp.skip ?_
  show AWp _ _ _ _
  refine AWp.seq ?_
  refine AWp.g [26, 27, 28] [] ?_
  simp
  refine AWp.block (AWp.while (fun i : Nat => [(26, .sl .fro 2 (flrsAV k.counts)), (27, .i .i64 k.counts.length), (28, .i .i64 i)]) (fun i => []) (fun i => i ≤ k.counts.length ∧ ∀ j (hj : j < i) (hj2 : j < k.counts.length), flrOk k.counts[j] = true) (fun i => k.counts.length - i) [26, 27, 28] [] 0 (by simp) (by simp) ?_)
  rintro i ⟨hi, hall⟩
  refine AWp.g [26, 27, 28, 29] [] ?_
  simp
  refine AWp.seq ?_
  by_cases h2 : i < k.counts.length
  ·refine AWp.cT (by simp [h2]) ?_
   refine AWp.skip ?_
   show AWp _ _ _ _
   refine AWp.seq ?_
   refine AWp.block ?_
   refine AWp.g [4, 26, 27, 28] [4] ?_
   simp [h2]
   refine AWp.step [26, 27, 28, 49] [] [(26, .sl .fro 2 (flrsAV k.counts)), (27, .i .i64 k.counts.length), (28, .i .i64 i), (49, .b (!flrOk k.counts[i]))] [] ?_ ?_
   ·by_cases q1 : 0 < k.counts[i].lo
    ·simp [flrOk, q1]
    by_cases q2 : k.counts[i].lo < -1000
    ·simp [flrOk, q1, q2]
    cases q3 : k.counts[i].is <;> simp [flrOk, q1, q2, q3]
   cases hp : flrOk k.counts[i]
   ·refine AWp.cT (by simp) ?_
    refine AWp.g [2] [] ?_
    simp
    refine AWp.ret ?_
    simp [kindsB, all_not h2 hp]
   ·refine AWp.cF (by simp) ?_
    refine AWp.skip ?_
    show AWp _ _ _ _
    refine AWp.gL [26, 27, 28] [] ?_
    simp
    refine ⟨i + 1, ⟨by omega, fun j hj hj2 => ?_⟩, by omega, ?_⟩
    ·by_cases hji : j = i
     ·subst hji; exact hp
     ·exact hall j (by omega) hj2
    ·simp
     exact wrap64 (by omega) (by omega)
  ·refine AWp.cF (by simp [h2]) ?_
   refine AWp.exit ?_
   show AWp _ _ _ _
   obtain rfl : i = k.counts.length := by omega
   have hk0 : kindsB k = true := by
    unfold kindsB
    simp only [Bool.or_eq_false_iff] at hq
    rw [hq.1.1.1, hq.1.1.2, hq.1.2, hq.2, all_of fun j hj => hall j hj hj]
    rfl
   refine AWp.g [2] [] ?_
   simp
   refine AWp.ret ?_
   simp [hk0]
 ·refine AWp.cT (by simp) ?_
  have hk0 : kindsB k = false := by
   unfold kindsB
   simp only [Bool.or_eq_true] at hq
   rcases hq with ((h | h) | h) | h <;> simp [h]
  refine AWp.g [2] [] ?_
  simp
  refine AWp.ret ?_
  simp [hk0]
def cntOk (f : Flr) (t : List Cel) (a : List Acc) : Bool := !(f.is && decide ((0 : Int) < t.length)) && !(!f.is && decide ((0 : Int) < a.length)) && talB t && accB a
set_option maxRecDepth 8000 in
theorem c_raw_count (f : Flr) (t : List Cel) (a : List Acc) (ht : t.length ≤ 100000) (ha : a.length ≤ 100000) : Pure Tryz.prog 56 [.agg (flrC f), .sl .fro 2 (celsAV t), .sl .fro 6 (acsAV a)] (.i .i64 (if cntOk f t a then 0 else 1)) := by
 refine proc_of (cx Tryz.prog 32 [1, 2, 3, 6, 7, 24, 28] [6]) 29 [.tmp 6] Tryz.func56 rfl rfl rfl rfl rfl rfl (Nat.le_refl _) rfl ?_
 refine AWp.g [1, 2, 3] [3] ?_
 simp [flrC]
 refine AWp.seq ?_
 refine AWp.step [1, 2, 24] [] [(1, .sl .fro 2 (celsAV t)), (2, .sl .fro 6 (acsAV a)), (24, .b (f.is && decide ((0 : Int) < t.length) || !f.is && decide ((0 : Int) < a.length)))] [] ?_ ?_
 ·cases q1 : f.is
  ·simp [q1]
  ·by_cases q2 : 0 < t.length <;> simp [q1, q2]
 cases hq : f.is && decide ((0 : Int) < t.length) || !f.is && decide ((0 : Int) < a.length)
 ·refine AWp.cF (by simp) ?_
  refine AWp.skip ?_
  show AWp _ _ _ _
  refine AWp.seq ?_
  have h0 : cntOk f t a = (talB t && accB a) := by
   unfold cntOk
   simp only [Bool.or_eq_false_iff] at hq
   rw [hq.1, hq.2]
   rfl
  refine AWp.g [2, 7] [] ?_
  simp
  refine call_p (c_tally_Check t ht) ?_
  simp
  refine AWp.step [2, 7, 28] [] [(2, .sl .fro 6 (acsAV a)), (7, .i .i64 (if talB t then 0 else 1)), (28, .b (!talB t))] [] ?_ ?_
  ·cases talB t <;> simp
  cases h1 : talB t
  ·refine AWp.cT (by simp) ?_
   refine AWp.g [6] [] ?_
   simp
   refine AWp.ret ?_
   simp [h0, h1]
  ·refine AWp.cF (by simp) ?_
   refine AWp.skip ?_
   show AWp _ _ _ _
   refine AWp.g [6] [] ?_
   simp
   refine call_p (c_escrow_Check a ha) ?_
   simp
   refine AWp.ret ?_
   simp [h0, h1]
 ·refine AWp.cT (by simp) ?_
  have h0 : cntOk f t a = false := by
   unfold cntOk
   simp only [Bool.or_eq_true] at hq
   rcases hq with h | h <;> simp only [h] <;> simp
  refine AWp.g [6] [] ?_
  simp
  refine AWp.ret ?_
  simp [h0]
set_option maxRecDepth 8000 in
theorem c_IndexFunc0_NtRow (l : List (List Nt)) (g : Nat) (p : (List Nt) → Bool) (hg : ∀ n ∈ l, Pure Tryz.prog g [.sl .fro 4 (ntsAV n)] (.b (p n))) (hl : l.length ≤ 1000000) : Pure Tryz.prog 139 [.sl .fro 1 (rrN l), .fn g [] []] (.i .i64 (idxI p l)) := by
 refine proc_of (cx Tryz.prog 19 [0, 1, 4, 5, 7, 8, 9, 16] [4]) 17 [.tmp 4] Tryz.func139 rfl rfl rfl rfl rfl rfl (Nat.le_refl _) rfl ?_
 refine AWp.g [0, 1] [] ?_
 simp
 refine AWp.seq ?_
 refine AWp.g [0, 1, 7, 8] [] ?_
 simp
 refine AWp.block (AWp.while (fun i : Nat => [(0, .sl .fro 1 (rrN l)), (1, .fn g [] []), (7, .i .i64 l.length), (8, .i .i64 i)]) (fun i => []) (fun i => i ≤ l.length ∧ ∀ k (hk : k < i) (hk2 : k < l.length), p l[k] = false) (fun i => l.length - i) [0, 1, 7, 8] [] 0 (by simp) (by simp) ?_)
 rintro i ⟨hi, hall⟩
 refine AWp.g [0, 1, 7, 8, 9] [] ?_
 simp
 refine AWp.seq ?_
 by_cases h : i < l.length
 ·refine AWp.cT (by simp [h]) ?_
  refine AWp.skip ?_
  show AWp _ _ _ _
  refine AWp.seq ?_
  refine AWp.block ?_
  refine AWp.g [0, 1, 5, 7, 8] [] ?_
  simp
  refine AWp.g [0, 1, 5, 7, 8, 16] [] ?_
  simp [h]
  refine call_pure (hg l[i] (List.getElem_mem h)) (by simp [ntsAV]) ?_
  simp [h]
  cases hp : p l[i]
  ·refine AWp.cF (by simp) ?_
   refine AWp.skip ?_
   show AWp _ _ _ _
   refine AWp.gL [0, 1, 7, 8] [] ?_
   simp
   refine ⟨i + 1, ⟨by omega, fun k hk hk2 => ?_⟩, by omega, ?_⟩
   ·by_cases hki : k = i
    ·subst hki; exact hp
    ·exact hall k (by omega) hk2
   ·simp
    exact wrap64 (by omega) (by omega)
  ·refine AWp.cT (by simp) ?_
   refine AWp.g [4] [] ?_
   simp
   refine AWp.ret ?_
   rw [idxI_at p l i h (fun k hk => hall k hk (by omega)) hp]
   simp
 ·refine AWp.cF (by simp [h]) ?_
  refine AWp.exit ?_
  show AWp _ _ _ _
  refine AWp.g [4] [] ?_
  simp
  refine AWp.ret ?_
  rw [idxI_none p l fun k hk => hall k (by omega) hk]
  simp
theorem c_ContainsFunc0_NtRow (l : List (List Nt)) (g : Nat) (p : (List Nt) → Bool) (hg : ∀ n ∈ l, Pure Tryz.prog g [.sl .fro 4 (ntsAV n)] (.b (p n))) (hl : l.length ≤ 1000000) : Pure Tryz.prog 57 [.sl .fro 1 (rrN l), .fn g [] []] (.b (l.any p)) := by
 refine proc_of (cx Tryz.prog 9 [0, 1, 4] [4]) 7 [.tmp 4] Tryz.func57 rfl rfl rfl rfl rfl rfl (Nat.le_refl _) rfl ?_
 refine AWp.g [0, 1] [] ?_
 simp
 refine AWp.g [4] [] ?_
 simp
 refine call_p (c_IndexFunc0_NtRow l g p hg hl) ?_
 simp
 refine AWp.ret ?_
 rw [← idxI_ge]
 simp
theorem c_raw_Check1 (l : List Nt) (hl : l.length ≤ 100000) : Pure Tryz.prog 58 [.sl .fro 4 (ntsAV l)] (.b (!ntsB l)) := by
 refine proc_of (cx Tryz.prog 6 [0, 2] [2]) 5 [.tmp 2] Tryz.func58 rfl rfl rfl rfl rfl rfl (Nat.le_refl _) rfl ?_
 refine AWp.g [0] [] ?_
 simp
 refine AWp.step [2] [] [(2, .b (!ntsB l))] [] ?_ ?_
 ·simp
  refine call_p (c_register_Check l hl) ?_
  cases ntsB l <;> simp
 refine AWp.ret ?_
 simp
def setK (d : Bool) (s : List Entry) : Bool := if d then setOk s else setOkA s
def setAtK (k : Kin) (w : Rw) (i : Nat) : Bool := match k.sets[i]?, w.sets[i]? with
 | some d, some s => setK d s
 | _, _ => false
def cntAtK (k : Kin) (w : Rw) (i : Nat) : Bool := match k.counts[i]?, w.tals[i]?, w.accs[i]? with
 | some f, some t, some a => cntOk f t a
 | _, _, _ => false
def lenOk (k : Kin) (w : Rw) : Bool := decide ((w.sets.length : Int) = k.sets.length) && decide ((w.tals.length : Int) = k.counts.length) && decide ((w.accs.length : Int) = k.counts.length) && decide ((w.regs.length : Int) = k.regs)
def rawB (k : Kin) (w : Rw) : Bool := kindsB k && lenOk k w && (List.range k.sets.length).all (setAtK k w) && (List.range k.counts.length).all (cntAtK k w) && w.regs.all ntsB
theorem lenOk_iff {k : Kin} {w : Rw} (h : lenOk k w = true) : w.sets.length = k.sets.length ∧ w.tals.length = k.counts.length ∧ w.accs.length = k.counts.length ∧ (w.regs.length : Int) = k.regs := by
 simp only [lenOk, Bool.and_eq_true, decide_eq_true_eq] at h
 omega
theorem any_not_all {α : Type} (p : α → Bool) (l : List α) : (l.any fun x => !p x) = !l.all p := by
 induction l with
 | nil => rfl
 | cons x l ih => rw [List.any_cons, List.all_cons, ih]; cases p x <;> rfl
theorem rawB_parts {k : Kin} {w : Rw} (h : (kindsB k && lenOk k w) = true) : rawB k w = ((List.range k.sets.length).all (setAtK k w) && (List.range k.counts.length).all (cntAtK k w) && w.regs.all ntsB) := by
 unfold rawB; rw [h]; rfl
set_option maxRecDepth 8000 in
set_option maxHeartbeats 4000000 in
theorem c_raw_Check (k : Kin) (w : Rw) (hk : FineK k) (hw : FineR w) : Pure Tryz.prog 16 [.agg (kinC k), .agg (rwC w)] (.i .i64 (if rawB k w then 0 else 1)) := by
 obtain ⟨hk1, hk2⟩ := id hk
 refine proc_of (cx Tryz.prog 91 [2, 3, 4, 5, 6, 7, 8, 9, 47, 49, 50, 51, 52, 56, 64, 67, 68, 69, 70, 86, 90] [4]) 89 [.tmp 4] Tryz.func16 rfl rfl rfl rfl rfl rfl (Nat.le_refl _) rfl ?_
 refine AWp.g [2, 3] [2, 3] ?_
 simp [kinC, rwC]
 refine AWp.seq ?_
 refine AWp.step [2, 3, 47] [2, 3] [(2, .ptr 2 0), (3, .ptr 3 0), (47, .b (!(kindsB k && lenOk k w)))] [(2, [.sl .fro 1 (boolsAV k.sets), .sl .fro 2 (flrsAV k.counts), .i .i64 k.regs]), (3, [.sl .fro 1 (rrE w.sets), .sl .fro 1 (rrC w.tals), .sl .fro 1 (rrA w.accs), .sl .fro 1 (rrN w.regs)])] ?_ ?_
 ·simp
  refine call_pure (c_raw_CheckKinds k hk) (by simp [kinC]) ?_
  cases q0 : kindsB k
  ·simp
  by_cases q1 : (w.sets.length : Int) = k.sets.length
  case neg => simp [q1, lenOk]
  by_cases q2 : (w.tals.length : Int) = k.counts.length
  case neg => simp [q1, q2, lenOk]
  by_cases q3 : (w.accs.length : Int) = k.counts.length
  case neg => simp [q1, q2, q3, lenOk]
  simp [q1, q2, q3, lenOk]
 cases hq : kindsB k && lenOk k w
 ·refine AWp.cT (by simp) ?_
  refine AWp.g [4] [2, 3] ?_
  simp
  refine AWp.ret ?_
  simp [rawB, hq]
 ·refine AWp.cF (by simp) ?_
  refine AWp.skip ?_
  show AWp _ _ _ _
  refine AWp.seq ?_
  obtain ⟨e1, e2, e3, e4⟩ := lenOk_iff (k := k) (w := w) (by rw [Bool.and_eq_true] at hq; exact hq.2)
  refine AWp.g [2, 3, 49, 50, 51] [2, 3] ?_
  simp
  refine AWp.block (AWp.while (fun i : Nat => [(2, .ptr 2 0), (3, .ptr 3 0), (49, .sl .fro 1 (boolsAV k.sets)), (50, .i .i64 k.sets.length), (51, .i .i64 i)]) (fun i => [(2, [.sl .fro 1 (boolsAV k.sets), .sl .fro 2 (flrsAV k.counts), .i .i64 k.regs]), (3, [.sl .fro 1 (rrE w.sets), .sl .fro 1 (rrC w.tals), .sl .fro 1 (rrA w.accs), .sl .fro 1 (rrN w.regs)])]) (fun i => i ≤ k.sets.length ∧ ∀ j, j < i → setAtK k w j = true) (fun i => k.sets.length - i) [2, 3, 49, 50, 51] [2, 3] 0 (by simp) (by simp) ?_)
  rintro i ⟨hi, hall⟩
  refine AWp.g [2, 3, 49, 50, 51, 52] [2, 3] ?_
  simp
  refine AWp.seq ?_
  by_cases h2 : i < k.sets.length
  ·refine AWp.cT (by simp [h2]) ?_
   refine AWp.skip ?_
   show AWp _ _ _ _
   refine AWp.seq ?_
   refine AWp.block ?_
   have h3 : i < w.sets.length := by omega
   have hf := hw.s1 _ (List.getElem_mem h3)
   refine AWp.g [2, 3, 5, 6, 49, 50, 51] [2, 3] ?_
   simp [h2]
   refine AWp.g [2, 3, 5, 6, 7, 49, 50, 51] [2, 3] ?_
   simp
   refine AWp.seq ?_
   refine AWp.g [2, 3, 5, 7, 49, 50, 51, 56] [2, 3] ?_
   simp
   cases hd : k.sets[i]
   ·refine AWp.cF (by simp) ?_
    refine AWp.skip ?_
    show AWp _ _ _ _
    refine AWp.step [2, 3, 49, 50, 51, 64] [2, 3] [(2, .ptr 2 0), (3, .ptr 3 0), (49, .sl .fro 1 (boolsAV k.sets)), (50, .i .i64 k.sets.length), (51, .i .i64 i), (64, .b (!setOkA w.sets[i]))] [(2, [.sl .fro 1 (boolsAV k.sets), .sl .fro 2 (flrsAV k.counts), .i .i64 k.regs]), (3, [.sl .fro 1 (rrE w.sets), .sl .fro 1 (rrC w.tals), .sl .fro 1 (rrA w.accs), .sl .fro 1 (rrN w.regs)])] ?_ ?_
    ·simp [h3]
     refine call_p (c_awset_Check w.sets[i] hf) ?_
     cases setOkA w.sets[i] <;> simp
    cases hp : setOkA w.sets[i]
    ·refine AWp.cT (by simp) ?_
     have hn : setAtK k w i = false := by simp [setAtK, h2, h3, hd, setK, hp]
     refine AWp.g [4] [2, 3] ?_
     simp
     refine AWp.ret ?_
     simp [rawB_parts hq, range_not h2 hn]
    ·refine AWp.cF (by simp) ?_
     have hn : setAtK k w i = true := by simp [setAtK, h2, h3, hd, setK, hp]
     refine AWp.skip ?_
     show AWp _ _ _ _
     refine AWp.gL [2, 3, 49, 50, 51] [2, 3] ?_
     simp
     refine ⟨i + 1, ⟨by omega, fun j hj => ?_⟩, by omega, ?_⟩
     ·by_cases hji : j = i
      ·subst hji; exact hn
      ·exact hall j (by omega)
     ·simp
      exact wrap64 (by omega) (by omega)
   ·refine AWp.cT (by simp) ?_
    refine AWp.gL [2, 3, 5, 7, 49, 50, 51] [2, 3] ?_
    simp
    show AWp _ _ _ _
    refine AWp.step [2, 3, 49, 50, 51, 64] [2, 3] [(2, .ptr 2 0), (3, .ptr 3 0), (49, .sl .fro 1 (boolsAV k.sets)), (50, .i .i64 k.sets.length), (51, .i .i64 i), (64, .b (!setOk w.sets[i]))] [(2, [.sl .fro 1 (boolsAV k.sets), .sl .fro 2 (flrsAV k.counts), .i .i64 k.regs]), (3, [.sl .fro 1 (rrE w.sets), .sl .fro 1 (rrC w.tals), .sl .fro 1 (rrA w.accs), .sl .fro 1 (rrN w.regs)])] ?_ ?_
    ·simp [h3]
     refine call_p (c_rwset_Check w.sets[i] hf) ?_
     cases setOk w.sets[i] <;> simp
    cases hp : setOk w.sets[i]
    ·refine AWp.cT (by simp) ?_
     have hn : setAtK k w i = false := by simp [setAtK, h2, h3, hd, setK, hp]
     refine AWp.g [4] [2, 3] ?_
     simp
     refine AWp.ret ?_
     simp [rawB_parts hq, range_not h2 hn]
    ·refine AWp.cF (by simp) ?_
     have hn : setAtK k w i = true := by simp [setAtK, h2, h3, hd, setK, hp]
     refine AWp.skip ?_
     show AWp _ _ _ _
     refine AWp.gL [2, 3, 49, 50, 51] [2, 3] ?_
     simp
     refine ⟨i + 1, ⟨by omega, fun j hj => ?_⟩, by omega, ?_⟩
     ·by_cases hji : j = i
      ·subst hji; exact hn
      ·exact hall j (by omega)
     ·simp
      exact wrap64 (by omega) (by omega)
  ·refine AWp.cF (by simp [h2]) ?_
   refine AWp.exit ?_
   show AWp _ _ _ _
   refine AWp.seq ?_
   obtain rfl : i = k.sets.length := by omega
   refine AWp.g [3, 67, 68, 69] [2, 3] ?_
   simp
   refine AWp.block (AWp.while (fun m : Nat => [(3, .ptr 3 0), (67, .sl .fro 2 (flrsAV k.counts)), (68, .i .i64 k.counts.length), (69, .i .i64 m)]) (fun m => [(2, [.sl .fro 1 (boolsAV k.sets), .sl .fro 2 (flrsAV k.counts), .i .i64 k.regs]), (3, [.sl .fro 1 (rrE w.sets), .sl .fro 1 (rrC w.tals), .sl .fro 1 (rrA w.accs), .sl .fro 1 (rrN w.regs)])]) (fun m => m ≤ k.counts.length ∧ ∀ j, j < m → cntAtK k w j = true) (fun m => k.counts.length - m) [3, 67, 68, 69] [2, 3] 0 (by simp) (by simp) ?_)
   rintro m ⟨hm, hcn⟩
   refine AWp.g [3, 67, 68, 69, 70] [2, 3] ?_
   simp
   refine AWp.seq ?_
   by_cases h4 : m < k.counts.length
   ·refine AWp.cT (by simp [h4]) ?_
    refine AWp.skip ?_
    show AWp _ _ _ _
    refine AWp.seq ?_
    refine AWp.block ?_
    have h5 : m < w.tals.length := by omega
    have h6 : m < w.accs.length := by omega
    refine AWp.g [3, 8, 9, 67, 68, 69] [2, 3, 9] ?_
    simp [h4]
    show AWp _ _ _ _
    refine AWp.stepD 13 (fun n => if n = 11 then .i .i64 (if cntOk k.counts[m] w.tals[m] w.accs[m] then 0 else 1) else .any) [3, 67, 68, 69, 86] [2, 3] [(3, .ptr 3 0), (67, .sl .fro 2 (flrsAV k.counts)), (68, .i .i64 k.counts.length), (69, .i .i64 m), (86, .b (!cntOk k.counts[m] w.tals[m] w.accs[m]))] [(2, [.sl .fro 1 (boolsAV k.sets), .sl .fro 2 (flrsAV k.counts), .i .i64 k.regs]), (3, [.sl .fro 1 (rrE w.sets), .sl .fro 1 (rrC w.tals), .sl .fro 1 (rrA w.accs), .sl .fro 1 (rrN w.regs)])] mix (by kernel_rfl) ?_ ?_
    ·have g := c_raw_count k.counts[m] w.tals[m] w.accs[m] (hw.t1 _ (List.getElem_mem h5)) (hw.a1 _ (List.getElem_mem h6))
     simp [flrC] at g
     simp [h4, h5, h6, g]
    cases hp : cntOk k.counts[m] w.tals[m] w.accs[m]
    ·refine AWp.cT (by simp) ?_
     have hn : cntAtK k w m = false := by simp [cntAtK, h4, h5, h6, hp]
     refine AWp.g [4] [2, 3] ?_
     simp
     refine AWp.ret ?_
     simp [rawB_parts hq, range_not h4 hn]
    ·refine AWp.cF (by simp) ?_
     have hn : cntAtK k w m = true := by simp [cntAtK, h4, h5, h6, hp]
     refine AWp.skip ?_
     show AWp _ _ _ _
     refine AWp.gL [3, 67, 68, 69] [2, 3] ?_
     simp
     refine ⟨m + 1, ⟨by omega, fun j hj => ?_⟩, by omega, ?_⟩
     ·by_cases hji : j = m
      ·subst hji; exact hn
      ·exact hcn j (by omega)
     ·simp
      exact wrap64 (by omega) (by omega)
   ·refine AWp.cF (by simp [h4]) ?_
    refine AWp.exit ?_
    show AWp _ _ _ _
    refine AWp.seq ?_
    obtain rfl : m = k.counts.length := by omega
    refine AWp.g [90] [2, 3] ?_
    simp
    refine call_p (c_ContainsFunc0_NtRow w.regs 58 (fun l => !ntsB l) (fun l hl => c_raw_Check1 l (hw.n1 l hl)) (by have := hw.n0; omega)) ?_
    simp
    cases hp : w.regs.any fun l => !ntsB l
    ·refine AWp.cF (by simp) ?_
     refine AWp.skip ?_
     show AWp _ _ _ _
     rw [any_not_all] at hp
     have e : rawB k w = true := by
      rw [rawB_parts hq, range_all hall, range_all hcn]
      simpa using hp
     refine AWp.g [4] [2, 3] ?_
     simp
     refine AWp.ret ?_
     simp [e]
    ·refine AWp.cT (by simp) ?_
     rw [any_not_all] at hp
     have hp2 : w.regs.all ntsB = false := by simpa only [Bool.not_eq_true'] using hp
     refine AWp.g [4] [2, 3] ?_
     simp
     refine AWp.ret ?_
     simp only [rawB_parts hq, hp2, Bool.and_false]
     simp
end Go.AM
namespace Go.AM
open Go.Proofs
structure Eff where
 kind : Int
 thing : Int
 key : ByteArray
 num : Int
 dest : Int
 word : ByteArray
def effC (x : Eff) : List AV := [.i .i64 x.kind, .i .i64 x.thing, .s x.key, .i .i64 x.num, .i .i64 x.dest, .s x.word]
def effsAV (l : List Eff) : List (List AV) := l.map effC
@[simp] theorem effsAV_length (l : List Eff) : (effsAV l).length = l.length := by simp [effsAV]
@[simp] theorem effsAV_getElem (l : List Eff) (i : Nat) (h : i < (effsAV l).length) : (effsAV l)[i] = [.i .i64 (l[i]'(by simpa using h)).kind, .i .i64 (l[i]'(by simpa using h)).thing, .s (l[i]'(by simpa using h)).key, .i .i64 (l[i]'(by simpa using h)).num, .i .i64 (l[i]'(by simpa using h)).dest, .s (l[i]'(by simpa using h)).word] := by simp [effsAV, effC]
structure Ev where
 dot : Dot
 past : List Int
 effs : List Eff
def evC (e : Ev) : List AV := [.i .i64 e.dot.1, .i .i64 e.dot.2, .sl .fro 1 (intsAV e.past), .sl .fro 6 (effsAV e.effs)]
def evsAV (l : List Ev) : List (List AV) := l.map evC
@[simp] theorem evsAV_length (l : List Ev) : (evsAV l).length = l.length := by simp [evsAV]
@[simp] theorem evsAV_getElem (l : List Ev) (i : Nat) (h : i < (evsAV l).length) : (evsAV l)[i] = [.i .i64 (l[i]'(by simpa using h)).dot.1, .i .i64 (l[i]'(by simpa using h)).dot.2, .sl .fro 1 (intsAV (l[i]'(by simpa using h)).past), .sl .fro 6 (effsAV (l[i]'(by simpa using h)).effs)] := by simp [evsAV, evC]
def effA (x : Eff) : Bool := !eqK x.key ByteArray.empty && !decide ((32 : Int) < x.key.size) && !decide (x.thing < 0) && !decide (15 < x.thing) && !decide (x.kind < 1) && !decide (6 < x.kind)
def effM (x : Eff) : Bool := decide (x.kind = 3) || decide (x.kind = 4) || decide (x.kind = 5)
def effN (x : Eff) : Bool := effM x && (decide (x.num < 1) || decide (1000 < x.num)) || !effM x && !decide (x.num = 0)
def effT (x : Eff) : Bool := decide (x.kind = 5) && (decide (x.dest < 1) || decide (5 < x.dest)) || !decide (x.kind = 5) && !decide (x.dest = 0)
def effW (x : Eff) : Bool := eqK x.word ByteArray.empty || decide (x.kind = 6) && decide ((x.word.size : Int) ≤ 64)
def effOk (x : Eff) : Bool := effA x && !effN x && !effT x && effW x
def withinTo (a b : List Int) (i : Nat) : Bool := (List.range i).all fun k => decide (getC a ((k : Int) + 1) ≤ getC b ((k : Int) + 1))
def withinB (a b : List Int) : Bool := withinTo a b 5
def minC (a b : List Int) (k : Int) : Int := if getC a k < getC b k then getC a k else getC b k
def meetC (a b : List Int) : List Int := plainL (ofL ((List.range 5).map fun k : Nat => minC a b ((k : Int) + 1)))
def findB (l : List Ev) (d : Dot) : Bool := l.any fun e => decide (e.dot = d)
def aheadB (a b : Ev) : Bool := mayD a.dot && decide (a.dot.2 ≤ getC b.past a.dot.1)
set_option maxRecDepth 8000 in
theorem c_ref03_MayW (l : List Int) (hlen : l.length ≤ 9223372036854775807) : Pure Tryz.prog 33 [.sl .fro 1 (intsAV l)] (.b (clockOk l)) := by
 refine proc_of (cx Tryz.prog 25 [0, 2, 3, 7, 21] [2]) 24 [.tmp 2] Tryz.func33 rfl rfl rfl rfl rfl rfl (Nat.le_refl _) rfl ?_
 refine AWp.g [0] [] ?_
 simp
 refine AWp.seq ?_
 refine AWp.g [0, 3] [] ?_
 simp
 refine AWp.block (AWp.while (fun i : Nat => [(0, .sl .fro 1 (intsAV l)), (3, .i .i64 i)]) (fun i => []) (fun i => i ≤ l.length ∧ ∀ k (hk : k < i) (hk2 : k < l.length), badN l[k] = false) (fun i => l.length - i) [0, 3] [] 0 (by simp) (by simp) ?_)
 rintro i ⟨hi, hall⟩
 refine AWp.seq ?_
 refine AWp.g [0, 3, 7] [] ?_
 simp
 by_cases h : i < l.length
 ·refine AWp.cT (by simp [h]) ?_
  refine AWp.skip ?_
  show AWp _ _ _ _
  refine AWp.seq ?_
  refine AWp.block ?_
  refine AWp.step [0, 3, 21] [] [(0, .sl .fro 1 (intsAV l)), (3, .i .i64 i), (21, .b (badN l[i]))] [] ?_ ?_
  ·by_cases h1 : l[i] < 0 <;> simp [h, h1, badN]
  cases hp : badN l[i]
  ·refine AWp.cF (by simp) ?_
   refine AWp.skip ?_
   show AWp _ _ _ _
   refine AWp.gL [0, 3] [] ?_
   simp
   refine ⟨i + 1, ⟨by omega, fun k hk hk2 => ?_⟩, by omega, ?_⟩
   ·by_cases hki : k = i
    ·subst hki; exact hp
    ·exact hall k (by omega) hk2
   ·simp
    exact wrap64 (by omega) (by omega)
  ·refine AWp.cT (by simp) ?_
   refine AWp.g [2] [] ?_
   simp
   refine AWp.ret ?_
   simp [clockOk, any_of h hp]
 ·refine AWp.cF (by simp [h]) ?_
  refine AWp.exit ?_
  show AWp _ _ _ _
  refine AWp.g [2] [] ?_
  simp
  refine AWp.ret ?_
  rw [clockOk, any_not fun k hk => hall k (by omega) hk]
  simp
  omega
def evA (e : Ev) : Bool := mayD e.dot && clockOk e.past && decide (plainL (ofL e.past) = e.past) && decide (getC e.past e.dot.1 + 1 = e.dot.2)
def evOk (e : Ev) : Bool := evA e && e.effs.all effOk && decide ((1 : Int) ≤ e.effs.length) && decide ((e.effs.length : Int) ≤ 16)
end Go.AM
namespace Go.AM
open Go.Proofs
def hdE (x : Eff) : Bool := !eqK x.key ByteArray.empty && !decide ((32 : Int) < x.key.size) && !decide (x.thing < 0) && !decide (15 < x.thing)
def muchE (x : Eff) : Bool := decide (1 ≤ x.num) && decide (x.num ≤ 1000)
def effB (x : Eff) : Bool :=
 if x.kind = 1 ∨ x.kind = 2 then decide (x.num = 0) && decide (x.dest = 0) && eqK x.word ByteArray.empty
 else if x.kind = 3 ∨ x.kind = 4 then muchE x && decide (x.dest = 0) && eqK x.word ByteArray.empty
 else if x.kind = 5 then muchE x && decide (1 ≤ x.dest) && decide (x.dest ≤ 5) && eqK x.word ByteArray.empty
 else if x.kind = 6 then decide (x.num = 0) && decide (x.dest = 0) && decide ((x.word.size : Int) ≤ 64)
 else false
theorem eqK_size {k : ByteArray} (h : eqK k ByteArray.empty = true) : (k.size : Int) ≤ 64 := by
 have : k.toList = [] := by simpa [eqK] using h
 have e : k.data.toList = [] := by rw [← ByteArray.toList_eq]; exact this
 have : k.size = 0 := by show k.data.size = 0; rw [← Array.length_toList, e]; rfl
 omega
theorem effB_eq (x : Eff) : (hdE x && effB x) = effOk x := by
 unfold effOk effA effN effT effW effM hdE effB muchE
 by_cases h1 : x.kind = 1
 ·simp [h1]; cases eqK x.word ByteArray.empty <;> simp <;> grind
 by_cases h2 : x.kind = 2
 ·simp [h2]; cases eqK x.word ByteArray.empty <;> simp <;> grind
 by_cases h3 : x.kind = 3
 ·simp [h3]; cases eqK x.word ByteArray.empty <;> simp <;> grind
 by_cases h4 : x.kind = 4
 ·simp [h4]; cases eqK x.word ByteArray.empty <;> simp <;> grind
 by_cases h5 : x.kind = 5
 ·simp [h5]; cases eqK x.word ByteArray.empty <;> simp <;> grind
 by_cases h6 : x.kind = 6
 ·simp [h6]
  cases hw : eqK x.word ByteArray.empty
  ·simp; grind
  ·have := eqK_size hw
   simp [this]; grind
 ·simp [h1, h2, h3, h4, h5, h6]; grind
set_option maxRecDepth 8000 in
set_option maxHeartbeats 4000000 in
theorem c_event_CheckEffect (x : Eff) : Pure Tryz.prog 114 [.agg (effC x)] (.i .i64 (if effOk x then 0 else 1)) := by
 rw [← effB_eq]
 refine proc_of (cx Tryz.prog 100 [1, 2, 3, 4, 23, 33, 34, 50, 64, 82, 99] [2]) 99 [.tmp 2] Tryz.func114 rfl rfl rfl rfl rfl rfl (Nat.le_refl _) rfl ?_
 refine AWp.g [1] [1] ?_
 simp [effC]
 refine AWp.seq ?_
 refine AWp.step [1, 23] [1] [(1, .ptr 1 0), (23, .b (!hdE x))] [(1, [.i .i64 x.kind, .i .i64 x.thing, .s x.key, .i .i64 x.num, .i .i64 x.dest, .s x.word])] ?_ ?_
 ·by_cases q1 : x.key.toList = []
  ·simp [q1, hdE, eqK]
  by_cases q2 : (32 : Int) < x.key.size
  ·simp [q1, q2, hdE, eqK]
  by_cases q3 : x.thing < 0
  ·simp [q1, q2, q3, hdE, eqK]
  ·simp [q1, q2, q3, hdE, eqK]
 cases hA : hdE x
 ·refine AWp.cT (by simp) ?_
  refine AWp.g [2] [1] ?_
  simp
  refine AWp.ret ?_
  simp [hA]
 ·refine AWp.cF (by simp) ?_
  refine AWp.skip ?_
  show AWp _ _ _ _
  refine AWp.step [1, 3] [1] [(1, .ptr 1 0), (3, .b (muchE x))] [(1, [.i .i64 x.kind, .i .i64 x.thing, .s x.key, .i .i64 x.num, .i .i64 x.dest, .s x.word])] ?_ ?_
  ·by_cases q1 : 1 ≤ x.num <;> simp [q1, muchE]
  refine AWp.g [1, 3, 4] [1] ?_
  simp
  refine AWp.mid [4] [1] [(4, .b (effB x))] [(1, [.i .i64 x.kind, .i .i64 x.thing, .s x.key, .i .i64 x.num, .i .i64 x.dest, .s x.word])] ?_ ?_
  ·refine AWp.g [1, 3, 4, 33] [1] ?_
   simp
   refine AWp.block ?_
   refine AWp.mid [1, 3, 4, 33, 34] [1] [(1, .ptr 1 0), (3, .b (muchE x)), (4, .b false), (33, .i .i64 x.kind), (34, .b (decide (x.kind = 1) || decide (x.kind = 2)))] [(1, [.i .i64 x.kind, .i .i64 x.thing, .s x.key, .i .i64 x.num, .i .i64 x.dest, .s x.word])] ?_ ?_
   ·refine AWp.g [1, 3, 4, 33, 34] [1] ?_
    simp
    by_cases q1 : x.kind = 1
    ·refine AWp.cT (by simp [q1]) ?_
     refine AWp.skip ?_
     simp [q1]
    ·refine AWp.cF (by simp [q1]) ?_
     refine AWp.gL [1, 3, 4, 33, 34] [1] ?_
     simp
     refine kl ?_
     simp [q1]
   by_cases q12 : x.kind = 1 ∨ x.kind = 2
   ·refine AWp.cT (by simp [q12]) ?_
    refine AWp.last [4] [1] [(4, .b (decide (x.num = 0) && decide (x.dest = 0) && eqK x.word ByteArray.empty))] [(1, [.i .i64 x.kind, .i .i64 x.thing, .s x.key, .i .i64 x.num, .i .i64 x.dest, .s x.word])] ?_ ?_
    ·by_cases q4 : x.num = 0
     case neg => simp [q4]
     by_cases q5 : x.dest = 0 <;> simp [q4, q5, eqK]
    first | (simp [effB, q12]; done) | (simp [effB, q12, q34]; done) | (simp [effB, q12, q34, q5]; done) | (simp [effB, q12, q34, q5, q6]; done)
   ·refine AWp.cF (by simp [q12]; omega) ?_
    refine AWp.mid [1, 3, 4, 33, 50] [1] [(1, .ptr 1 0), (3, .b (muchE x)), (4, .b false), (33, .i .i64 x.kind), (50, .b (decide (x.kind = 3) || decide (x.kind = 4)))] [(1, [.i .i64 x.kind, .i .i64 x.thing, .s x.key, .i .i64 x.num, .i .i64 x.dest, .s x.word])] ?_ ?_
    ·refine AWp.g [1, 3, 4, 33, 50] [1] ?_
     simp
     by_cases q3 : x.kind = 3
     ·refine AWp.cT (by simp [q3]) ?_
      refine AWp.skip ?_
      simp [q3]
     ·refine AWp.cF (by simp [q3]) ?_
      refine AWp.gL [1, 3, 4, 33, 50] [1] ?_
      simp
      refine kl ?_
      simp [q3]
    by_cases q34 : x.kind = 3 ∨ x.kind = 4
    ·refine AWp.cT (by simp [q34]) ?_
     refine AWp.last [4] [1] [(4, .b (muchE x && decide (x.dest = 0) && eqK x.word ByteArray.empty))] [(1, [.i .i64 x.kind, .i .i64 x.thing, .s x.key, .i .i64 x.num, .i .i64 x.dest, .s x.word])] ?_ ?_
     ·cases q4 : muchE x
      ·simp [q4]
      by_cases q5 : x.dest = 0 <;> simp [q4, q5, eqK]
     first | (simp [effB, q12]; done) | (simp [effB, q12, q34]; done) | (simp [effB, q12, q34, q5]; done) | (simp [effB, q12, q34, q5, q6]; done)
    ·refine AWp.cF (by simp [q34]; omega) ?_
     refine AWp.g [1, 3, 4, 33, 64] [1] ?_
     simp
     by_cases q5 : x.kind = 5
     ·refine AWp.cT (by simp [q5]) ?_
      refine AWp.last [4] [1] [(4, .b (muchE x && decide (1 ≤ x.dest) && decide (x.dest ≤ 5) && eqK x.word ByteArray.empty))] [(1, [.i .i64 x.kind, .i .i64 x.thing, .s x.key, .i .i64 x.num, .i .i64 x.dest, .s x.word])] ?_ ?_
      ·cases q4 : muchE x
       ·simp [q4]
       by_cases q6 : 1 ≤ x.dest
       case neg => simp [q4, q6]
       by_cases q7 : x.dest ≤ 5 <;> simp [q4, q6, q7, eqK]
      first | (simp [effB, q12]; done) | (simp [effB, q12, q34]; done) | (simp [effB, q12, q34, q5]; done) | (simp [effB, q12, q34, q5, q6]; done)
     ·refine AWp.cF (by simp [q5]) ?_
      refine AWp.g [1, 4, 82] [1] ?_
      simp
      by_cases q6 : x.kind = 6
      ·refine AWp.cT (by simp [q6]) ?_
       refine AWp.last [4] [1] [(4, .b (decide (x.num = 0) && decide (x.dest = 0) && decide ((x.word.size : Int) ≤ 64)))] [(1, [.i .i64 x.kind, .i .i64 x.thing, .s x.key, .i .i64 x.num, .i .i64 x.dest, .s x.word])] ?_ ?_
       ·by_cases q4 : x.num = 0
        case neg => simp [q4]
        by_cases q5 : x.dest = 0 <;> simp [q4, q5]
       first | (simp [effB, q12]; done) | (simp [effB, q12, q34]; done) | (simp [effB, q12, q34, q5]; done) | (simp [effB, q12, q34, q5, q6]; done)
      ·refine AWp.cF (by simp [q6]) ?_
       refine AWp.skip ?_
       first | (simp [effB, q12]; done) | (simp [effB, q12, q34]; done) | (simp [effB, q12, q34, q5]; done) | (simp [effB, q12, q34, q5, q6]; done)
  refine AWp.seq ?_
  refine AWp.g [99] [1] ?_
  simp
  cases hB : effB x
  ·refine AWp.cT (by simp) ?_
   refine AWp.g [2] [1] ?_
   simp
   refine AWp.ret ?_
   simp [hA, hB]
  ·refine AWp.cF (by simp) ?_
   refine AWp.skip ?_
   show AWp _ _ _ _
   refine AWp.g [2] [1] ?_
   simp
   refine AWp.ret ?_
   simp [hA, hB]
set_option maxRecDepth 8000 in
theorem c_IndexFunc0_Eff (l : List Eff) (g : Nat) (p : Eff → Bool) (hg : ∀ n ∈ l, Pure Tryz.prog g [.agg (effC n)] (.b (p n))) (hl : l.length ≤ 1000000) : Pure Tryz.prog 141 [.sl .fro 6 (effsAV l), .fn g [] []] (.i .i64 (idxI p l)) := by
 refine proc_of (cx Tryz.prog 19 [0, 1, 4, 5, 7, 8, 9, 16] [4]) 17 [.tmp 4] Tryz.func141 rfl rfl rfl rfl rfl rfl (Nat.le_refl _) rfl ?_
 refine AWp.g [0, 1] [] ?_
 simp
 refine AWp.seq ?_
 refine AWp.g [0, 1, 7, 8] [] ?_
 simp
 refine AWp.block (AWp.while (fun i : Nat => [(0, .sl .fro 6 (effsAV l)), (1, .fn g [] []), (7, .i .i64 l.length), (8, .i .i64 i)]) (fun i => []) (fun i => i ≤ l.length ∧ ∀ k (hk : k < i) (hk2 : k < l.length), p l[k] = false) (fun i => l.length - i) [0, 1, 7, 8] [] 0 (by simp) (by simp) ?_)
 rintro i ⟨hi, hall⟩
 refine AWp.g [0, 1, 7, 8, 9] [] ?_
 simp
 refine AWp.seq ?_
 by_cases h : i < l.length
 ·refine AWp.cT (by simp [h]) ?_
  refine AWp.skip ?_
  show AWp _ _ _ _
  refine AWp.seq ?_
  refine AWp.block ?_
  refine AWp.g [0, 1, 5, 7, 8] [] ?_
  simp
  refine AWp.g [0, 1, 5, 7, 8, 16] [] ?_
  simp [h]
  refine call_pure (hg l[i] (List.getElem_mem h)) (by simp [effC]) ?_
  simp [h]
  cases hp : p l[i]
  ·refine AWp.cF (by simp) ?_
   refine AWp.skip ?_
   show AWp _ _ _ _
   refine AWp.gL [0, 1, 7, 8] [] ?_
   simp
   refine ⟨i + 1, ⟨by omega, fun k hk hk2 => ?_⟩, by omega, ?_⟩
   ·by_cases hki : k = i
    ·subst hki; exact hp
    ·exact hall k (by omega) hk2
   ·simp
    exact wrap64 (by omega) (by omega)
  ·refine AWp.cT (by simp) ?_
   refine AWp.g [4] [] ?_
   simp
   refine AWp.ret ?_
   rw [idxI_at p l i h (fun k hk => hall k hk (by omega)) hp]
   simp
 ·refine AWp.cF (by simp [h]) ?_
  refine AWp.exit ?_
  show AWp _ _ _ _
  refine AWp.g [4] [] ?_
  simp
  refine AWp.ret ?_
  rw [idxI_none p l fun k hk => hall k (by omega) hk]
  simp
theorem c_ContainsFunc0_Eff (l : List Eff) (g : Nat) (p : Eff → Bool) (hg : ∀ n ∈ l, Pure Tryz.prog g [.agg (effC n)] (.b (p n))) (hl : l.length ≤ 1000000) : Pure Tryz.prog 60 [.sl .fro 6 (effsAV l), .fn g [] []] (.b (l.any p)) := by
 refine proc_of (cx Tryz.prog 9 [0, 1, 4] [4]) 7 [.tmp 4] Tryz.func60 rfl rfl rfl rfl rfl rfl (Nat.le_refl _) rfl ?_
 refine AWp.g [0, 1] [] ?_
 simp
 refine AWp.g [4] [] ?_
 simp
 refine call_p (c_IndexFunc0_Eff l g p hg hl) ?_
 simp
 refine AWp.ret ?_
 rw [← idxI_ge]
 simp
set_option maxRecDepth 8000 in
theorem c_event_Check1 (x : Eff) : Pure Tryz.prog 113 [.agg (effC x)] (.b (!effOk x)) := by
 refine proc_of (cx Tryz.prog 6 [1, 2] [2]) 5 [.tmp 2] Tryz.func113 rfl rfl rfl rfl rfl rfl (Nat.le_refl _) rfl ?_
 refine AWp.g [1] [1] ?_
 simp [effC]
 refine AWp.step [2] [] [(2, .b (!effOk x))] [] ?_ ?_
 ·simp
  refine call_pure (c_event_CheckEffect x) (by simp [effC]) ?_
  cases effOk x <;> simp
 refine AWp.ret ?_
 simp
def FineE (e : Ev) : Prop := e.past.length ≤ 1000000 ∧ e.effs.length ≤ 1000000
set_option maxRecDepth 8000 in
set_option maxHeartbeats 4000000 in
theorem c_event_Check (e : Ev) (he : FineE e) : Pure Tryz.prog 49 [.agg (evC e)] (.i .i64 (if evOk e then 0 else 1)) := by
 obtain ⟨he1, he2⟩ := he
 have g1 := c_dots_May e.dot
 have g2 := c100 e.past (by omega)
 have g3 := (c101 e.past (by omega)).fro
 have g4 := c102 e.past e.dot.1 (by omega)
 simp [dotC] at g1 g3
 refine proc_of (cx Tryz.prog 44 [1, 2, 3, 20, 40] [2]) 43 [.tmp 2] Tryz.func49 rfl rfl rfl rfl rfl rfl (Nat.le_refl _) rfl ?_
 refine AWp.g [1] [1] ?_
 simp [evC]
 refine AWp.seq ?_
 refine AWp.block ?_
 refine AWp.mid [1, 3] [1] [(1, .ptr 1 0), (3, .b (!(mayD e.dot && clockOk e.past && decide (plainL (ofL e.past) = e.past))))] [(1, [.i .i64 e.dot.1, .i .i64 e.dot.2, .sl .fro 1 (intsAV e.past), .sl .fro 6 (effsAV e.effs)])] ?_ ?_
 ·refine AWp.step [1, 3] [1] [(1, .ptr 1 0), (3, .b (!mayD e.dot))] [(1, [.i .i64 e.dot.1, .i .i64 e.dot.2, .sl .fro 1 (intsAV e.past), .sl .fro 6 (effsAV e.effs)])] ?_ ?_
  ·simp
   refine call_p g1 ?_
   simp
  cases q1 : mayD e.dot
  ·refine AWp.cT (by simp) ?_
   refine AWp.skip ?_
   first | (simp [q1]; done) | (simp [q1, q2]; done)
  ·refine AWp.cF (by simp) ?_
   refine AWp.step [1, 3] [1] [(1, .ptr 1 0), (3, .b (!clockOk e.past))] [(1, [.i .i64 e.dot.1, .i .i64 e.dot.2, .sl .fro 1 (intsAV e.past), .sl .fro 6 (effsAV e.effs)])] ?_ ?_
   ·simp
    refine call_p g2 ?_
    cases clockOk e.past <;> simp
   cases q2 : clockOk e.past
   ·refine AWp.cT (by simp) ?_
    refine AWp.skip ?_
    first | (simp [q1]; done) | (simp [q1, q2]; done)
   ·refine AWp.cF (by simp) ?_
    refine AWp.lastD 9 (fun k => if k = 2 then .sl .fro 1 (intsAV (plainL (ofL e.past))) else .any) [1, 3] [1] [(1, .ptr 1 0), (3, .b (!decide (plainL (ofL e.past) = e.past)))] [(1, [.i .i64 e.dot.1, .i .i64 e.dot.2, .sl .fro 1 (intsAV e.past), .sl .fro 6 (effsAV e.effs)])] mix (by kernel_rfl) ?_ ?_
    ·simp [g3]
     rw [← plainL_len e.past q2]
     omega
    first | (simp [q1]; done) | (simp [q1, q2]; done)
 cases hA : mayD e.dot && clockOk e.past && decide (plainL (ofL e.past) = e.past)
 ·refine AWp.cT (by simp) ?_
  refine AWp.g [2] [1] ?_
  simp
  refine AWp.ret ?_
  simp [evOk, evA, hA]
 ·refine AWp.cF (by simp) ?_
  refine AWp.mid [1, 20] [1] [(1, .ptr 1 0), (20, .b (!(decide (getC e.past e.dot.1 + 1 = e.dot.2) && decide ((1 : Int) ≤ e.effs.length) && decide ((e.effs.length : Int) ≤ 16))))] [(1, [.i .i64 e.dot.1, .i .i64 e.dot.2, .sl .fro 1 (intsAV e.past), .sl .fro 6 (effsAV e.effs)])] ?_ ?_
  ·have hm : 1 ≤ e.dot.2 ∧ e.dot.2 ≤ 1048576 := by
    simp only [mayD, Bool.and_eq_true, decide_eq_true_eq] at hA
    omega
   have w1 : IntKind.i64.wrap (e.dot.2 - 1) = e.dot.2 - 1 := wrap64 (by omega) (by omega)
   refine AWp.stepD 12 (fun k => if k = 5 then .i .i64 (getC e.past e.dot.1) else .any) [1, 20] [1] [(1, .ptr 1 0), (20, .b (!decide (getC e.past e.dot.1 + 1 = e.dot.2)))] [(1, [.i .i64 e.dot.1, .i .i64 e.dot.2, .sl .fro 1 (intsAV e.past), .sl .fro 6 (effsAV e.effs)])] mix (by kernel_rfl) ?_ ?_
   ·simp [g4, w1]
    omega
   cases q4 : decide (getC e.past e.dot.1 + 1 = e.dot.2)
   ·refine AWp.cT (by simp) ?_
    refine AWp.skip ?_
    first | (simp [q4]; done) | (simp [q4, q5]; done)
   ·refine AWp.cF (by simp) ?_
    refine AWp.step [1, 20] [1] [(1, .ptr 1 0), (20, .b (!decide ((1 : Int) ≤ e.effs.length)))] [(1, [.i .i64 e.dot.1, .i .i64 e.dot.2, .sl .fro 1 (intsAV e.past), .sl .fro 6 (effsAV e.effs)])] ?_ ?_
    ·by_cases q : (1 : Int) ≤ e.effs.length <;> simp [q] <;> omega
    cases q5 : decide ((1 : Int) ≤ e.effs.length)
    ·refine AWp.cT (by simp) ?_
     refine AWp.skip ?_
     first | (simp [q4]; done) | (simp [q4, q5]; done)
    ·refine AWp.cF (by simp) ?_
     refine AWp.last [1, 20] [1] [(1, .ptr 1 0), (20, .b (!decide ((e.effs.length : Int) ≤ 16)))] [(1, [.i .i64 e.dot.1, .i .i64 e.dot.2, .sl .fro 1 (intsAV e.past), .sl .fro 6 (effsAV e.effs)])] ?_ ?_
     ·by_cases q : (e.effs.length : Int) ≤ 16 <;> simp [q] <;> omega
     first | (simp [q4]; done) | (simp [q4, q5]; done)
  cases hB : decide (getC e.past e.dot.1 + 1 = e.dot.2) && decide ((1 : Int) ≤ e.effs.length) && decide ((e.effs.length : Int) ≤ 16)
  ·refine AWp.cT (by simp) ?_
   have h0 : evOk e = false := by
    simp only [evOk, evA]
    cases h1 : decide (getC e.past e.dot.1 + 1 = e.dot.2) <;> cases h2 : decide ((1 : Int) ≤ e.effs.length) <;> cases h3 : decide ((e.effs.length : Int) ≤ 16) <;> simp_all
   refine AWp.g [2] [1] ?_
   simp
   refine AWp.ret ?_
   simp [h0]
  ·refine AWp.cF (by simp) ?_
   have h0 : evOk e = e.effs.all effOk := by
    simp only [Bool.and_eq_true] at hB
    simp only [evOk, evA, hA, hB.1.1, hB.1.2, hB.2, Bool.true_and, Bool.and_true]
   refine AWp.step [40] [1] [(40, .b (!e.effs.all effOk))] [(1, [.i .i64 e.dot.1, .i .i64 e.dot.2, .sl .fro 1 (intsAV e.past), .sl .fro 6 (effsAV e.effs)])] ?_ ?_
   ·simp
    refine call_p (c_ContainsFunc0_Eff e.effs 113 (fun x => !effOk x) (fun x _ => c_event_Check1 x) (by omega)) ?_
    rw [any_not_all]
    simp
   cases hC : e.effs.all effOk
   ·refine AWp.cT (by simp) ?_
    refine AWp.g [2] [1] ?_
    simp
    refine AWp.ret ?_
    simp [h0, hC]
   ·refine AWp.cF (by simp) ?_
    refine AWp.skip ?_
    show AWp _ _ _ _
    refine AWp.g [2] [1] ?_
    simp
    refine AWp.ret ?_
    simp [h0, hC]
end Go.AM
namespace Go.AM
inductive Aft (ops : Array Oper) : Nat → Nat → Prop
 | one {k j o} : ops[k]? = some o → bindsOn o j = true → Aft ops k j
 | more {k i j o} : ops[k]? = some o → bindsOn o i = true → Aft ops i j → Aft ops k j
def domOf (ds : List Nat) (o : Oper) : Nat := o.after.toList.foldl (fun acc e => if Region.binds .any e then acc ||| (2 ^ e.on) ||| (ds.getD e.on 0) else acc) 0
def domsTo : List Oper → List Nat → List Nat
 | [], ds => ds
 | o :: l, ds => domsTo l (ds ++ [domOf ds o])
theorem domOf_spec (ds : List Nat) (o : Oper) (j : Nat) (h : (domOf ds o).testBit j = true) : ∃ e ∈ o.after, Region.binds .any e = true ∧ (e.on = j ∨ (ds.getD e.on 0).testBit j = true) := by
 have key : ∀ (l : List Edge) (acc : Nat), (l.foldl (fun acc e => if Region.binds .any e then acc ||| (2 ^ e.on) ||| (ds.getD e.on 0) else acc) acc).testBit j = true → acc.testBit j = true ∨ ∃ e ∈ l, Region.binds .any e = true ∧ (e.on = j ∨ (ds.getD e.on 0).testBit j = true) := by
  intro l
  induction l with
  | nil => intro acc h; exact .inl h
  | cons e l ih =>
   intro acc h
   rw [List.foldl_cons] at h
   rcases ih _ h with h1 | ⟨e', he', h1⟩
   ·split at h1
    ·rename_i hb
     rw [Nat.testBit_or, Nat.testBit_or, Nat.testBit_two_pow] at h1
     simp only [Bool.or_eq_true, decide_eq_true_eq] at h1
     rcases h1 with (h1 | h1) | h1
     ·exact .inl h1
     ·exact .inr ⟨e, by simp, hb, .inl h1⟩
     ·exact .inr ⟨e, by simp, hb, .inr h1⟩
    ·exact .inl h1
   ·exact .inr ⟨e', by simp [he'], h1⟩
 rcases key _ _ h with h1 | ⟨e, he, h1⟩
 ·simp at h1
 ·exact ⟨e, by simpa using he, h1⟩
theorem domsTo_spec (ops : Array Oper) : ∀ (l : List Oper) (ds : List Nat) (pre : List Oper), ops.toList = pre ++ l → ds.length = pre.length → (∀ k j, (ds.getD k 0).testBit j = true → Aft ops k j) → ∀ k j, ((domsTo l ds).getD k 0).testBit j = true → Aft ops k j
 | [], ds, pre, _, _, h => h
 | o :: l, ds, pre, ho, hl, h => by
  refine domsTo_spec ops l (ds ++ [domOf ds o]) (pre ++ [o]) (by rw [ho]; simp) (by simp [hl]) fun k j hk => ?_
  rw [List.getD_eq_getElem?_getD] at hk
  by_cases hkl : k < ds.length
  ·rw [List.getElem?_append_left hkl, ← List.getD_eq_getElem?_getD] at hk
   exact h k j hk
  ·by_cases hke : k = ds.length
   ·subst hke
    rw [List.getElem?_append_right (Nat.le_refl _)] at hk
    simp at hk
    obtain ⟨e, he, hb, h2⟩ := domOf_spec ds o j hk
    have hok : ops[ds.length]? = some o := by
     rw [← Array.getElem?_toList, ho, hl, List.getElem?_append_right (Nat.le_refl _)]; simp
    have hbo : bindsOn o e.on = true := bindsOn_iff.2 ⟨e, he, rfl, hb⟩
    rcases h2 with rfl | h2
    ·exact .one hok hbo
    ·exact .more hok hbo (h _ _ h2)
   ·rw [List.getElem?_eq_none (by simp; omega)] at hk
    simp at hk
def drawOkA (ops : Array Oper) (m : Nat) : Bool :=
 let D := domsTo ops.toList []
 decide (m ≤ ops.size) && (List.range ops.size).all fun k => match ops[k]? with
  | some o => (o.after.all fun e => !Region.binds .any e || decide (e.on < k)) &&
   if k < m then
    ((List.range m).all fun j => j == k || match ops[j]? with
     | some oj => oj.dst != o.dst
     | none => true) &&
    (o.looksAt ops).all fun t => (List.range m).all fun j => match ops[j]? with
     | some oj => oj.dst != some t || (decide (j < k) && (D.getD k 0).testBit j)
     | none => true
   else (List.range k).all fun j => (D.getD k 0).testBit j
  | none => true
structure DrawA (ops : Array Oper) (m : Nat) : Prop where
 le : m ≤ ops.size
 back : ∀ (k : Nat) o, ops[k]? = some o → ∀ e ∈ o.after, Region.binds .any e = true → e.on < k
 dst : ∀ (k j : Nat) o oj, k < m → j < m → j ≠ k → ops[k]? = some o → ops[j]? = some oj → oj.dst ≠ o.dst
 look : ∀ (k j : Nat) o oj t, k < m → j < m → ops[k]? = some o → ops[j]? = some oj → t ∈ o.looksAt ops → oj.dst = some t → j < k ∧ Aft ops k j
 tail : ∀ (k : Nat) o, m ≤ k → ops[k]? = some o → ∀ j, j < k → Aft ops k j
theorem drawOkA_spec {ops : Array Oper} {m : Nat} (h : drawOkA ops m = true) : DrawA ops m := by
 have hR := domsTo_spec ops ops.toList [] [] rfl rfl (fun k j h => by simp at h)
 simp only [drawOkA, Bool.and_eq_true, decide_eq_true_eq, List.all_eq_true, List.mem_range] at h
 obtain ⟨h1, h3⟩ := h
 have get : ∀ (k : Nat) o, ops[k]? = some o → k < ops.size := fun k o ho => (Array.getElem?_eq_some_iff.1 ho).1
 have at' : ∀ (k : Nat) o, ops[k]? = some o → _ := fun k o ho => by
  have := h3 k (get k o ho)
  rw [ho] at this
  exact this
 refine ⟨h1, fun k o ho e he hb => ?_, fun k j o oj hk hj hjk ho hoj => ?_, fun k j o oj t hk hj ho hoj ht hd => ?_, fun k o hk ho j hj => ?_⟩
 ·have := at' k o ho
  simp only [Bool.and_eq_true] at this
  have h4 := Array.all_eq_true_iff_forall_mem.1 this.1 e he
  simpa [hb] using h4
 ·have := at' k o ho
  simp only [Bool.and_eq_true, hk, if_true, List.all_eq_true, List.mem_range] at this
  have h4 := this.2.1 j hj
  rw [hoj] at h4
  simpa [hjk] using h4
 ·have := at' k o ho
  simp only [Bool.and_eq_true, hk, if_true, List.all_eq_true, List.mem_range] at this
  have h4 := this.2.2 t ht j hj
  rw [hoj] at h4
  have h5 : j < k ∧ ((domsTo ops.toList []).getD k 0).testBit j = true := by simpa [hd] using h4
  exact ⟨h5.1, hR k j h5.2⟩
 ·have := at' k o ho
  have hk' : ¬ k < m := by omega
  simp only [Bool.and_eq_true, hk', if_false, List.all_eq_true, List.mem_range] at this
  exact hR k j (this.2 j hj)
theorem Aft.lt {ops : Array Oper} {m k j : Nat} (D : DrawA ops m) (h : Aft ops k j) : j < k := by
 induction h with
 | one ho hb =>
  obtain ⟨e, he, h1, h2⟩ := bindsOn_iff.1 hb
  have := D.back _ _ ho e he h2
  omega
 | more ho hb _ ih =>
  obtain ⟨e, he, h1, h2⟩ := bindsOn_iff.1 hb
  have := D.back _ _ ho e he h2
  omega
def ClosedL (ops : Array Oper) (listed : Array Bool) : Prop := ∀ i j, listed.getD i false = true → Aft ops i j → listed.getD j false = true
theorem ready_reach {ops : Array Oper} {listed : Array Bool} (hc : ClosedL ops listed) {i : Nat} (hi : i ∈ Region.ready .any ops listed) {j : Nat} (h : Aft ops i j) : listed.getD j false = true := by
 obtain ⟨h1, o, ho, h2⟩ := mem_ready.1 hi
 cases h with
 | one ho' hb =>
  rw [ho] at ho'; cases ho'
  obtain ⟨e, he, h3, h4⟩ := bindsOn_iff.1 hb
  have := h2 e he h4
  rwa [h3] at this
 | more ho' hb hr =>
  rw [ho] at ho'; cases ho'
  obtain ⟨e, he, h3, h4⟩ := bindsOn_iff.1 hb
  have := h2 e he h4
  rw [h3] at this
  exact hc _ _ this hr
theorem closed_add {ops : Array Oper} {listed : Array Bool} (hc : ClosedL ops listed) {i : Nat} (hi : i ∈ Region.ready .any ops listed) (hs : i < listed.size) : ClosedL ops (listed.setIfInBounds i true) := by
 intro a b ha hr
 have mono : ∀ x, listed.getD x false = true → (listed.setIfInBounds i true).getD x false = true := fun x hx => by
  by_cases hxi : i = x
  ·subst hxi
   rw [Array.getD_eq_getD_getElem?, Array.getElem?_setIfInBounds_self_of_lt hs]; rfl
  ·rw [getD_set_ne false hxi]; exact hx
 by_cases hai : i = a
 ·subst hai
  exact mono b (ready_reach hc hi hr)
 ·rw [getD_set_ne false hai] at ha
  exact mono b (hc a b ha hr)
end Go.AM
namespace Go.AM
theorem qop_mono {T : Nat → Option TI} {st st' : St} {ty : Nat} {op : Op} (h : ∀ x ∈ op.operands, ∀ t, x = .tmp t → st.slots t = st'.slots t) (hb : ∀ id cs, st.boxes id = some cs → st'.boxes id = some cs) (hok : (qop T st ty op).ok) : qop T st' ty op = qop T st ty op := by
 have h1 : qop T st ty op = qop T { st' with boxes := st.boxes } ty op := qop_congr h rfl
 rw [h1] at hok ⊢
 cases op with
 | load t x =>
  simp only [qop] at hok ⊢
  have e : ({ st' with boxes := st.boxes } : St).rd 0 x = st'.rd 0 x := rd_congr (fun _ _ => rfl) 0
  rw [e] at hok ⊢
  unfold qload at hok ⊢
  split
  ·rename_i y id off hy hx
   rw [hy, hx] at hok
   simp only at hok ⊢
   cases hc : st.boxes id with
   | none => rw [hc] at hok; exact hok.elim
   | some cs => rw [hb id cs hc]
  ·rename_i y g ix cells off hy hx
   rfl
  ·rfl
 | makeFunc fn first captured => cases fn <;> rfl
 | slice t x lo hi mx => cases mx <;> cases lo <;> cases hi <;> rfl
 | call c =>
  obtain ⟨callee, args, ts⟩ := c
  cases callee with
  | value f => rfl
  | invoke r m => rfl
  | builtin b => cases b <;> rfl
 | _ => rfl
theorem qop2_mono {C : Cx} {st st' : St} {ty : Nat} {op : Op} (h : ∀ x ∈ op.operands, ∀ t, x = .tmp t → st.slots t = st'.slots t) (hb : ∀ id cs, st.boxes id = some cs → st'.boxes id = some cs) (hok : (qop2 C st ty op).ok) : qop2 C st' ty op = qop2 C st ty op := by
 unfold qop2 at hok ⊢
 split
 ·rename_i eq t x y hop
  rw [hop] at hok
  obtain ⟨yt, rfl⟩ := isEql_some hop
  rw [rd_congr (h x (by simp [Op.operands])), rd_congr (h y (by simp [Op.operands]))]
  split
  ·rfl
  ·rename_i hs
   simp only [hs] at hok
   exact qop_mono h hb hok
 ·rename_i hop
  rw [hop] at hok
  exact qop_mono h hb hok
theorem qcnv_mono {C : Cx} {st st' : St} {ty : Nat} {op : Op} (h : ∀ x ∈ op.operands, ∀ t, x = .tmp t → st.slots t = st'.slots t) (hb : ∀ id cs, st.boxes id = some cs → st'.boxes id = some cs) (hok : (qcnv C st op (qop2 C st ty op)).ok) : qcnv C st' op (qop2 C st' ty op) = qcnv C st op (qop2 C st ty op) := by
 rw [← qcnv_congr (q := qop2 C st' ty op) h]
 unfold qcnv at hok ⊢
 split
 ·rename_i s t x
  simp only at hok
  split
  ·rfl
  ·rename_i hne
   split at hok
   ·rename_i e b hk hx; exact absurd hx (hne e b hk)
   ·exact qop2_mono h hb hok
 ·rename_i hne
  split at hok
  ·rename_i s t x; exact absurd rfl (hne s t x)
  ·exact qop2_mono h hb hok
theorem pop_mono {C : Cx} {r : AV} {o : Oper} {st st' : St} (h : ∀ x ∈ o.op.operands, ∀ t, x = .tmp t → st.slots t = st'.slots t) (hb : ∀ id cs, st.boxes id = some cs → st'.boxes id = some cs) (hok : (pop C r o st).ok) : pop C r o st' = pop C r o st := by
 unfold pop at hok ⊢
 split
 ·rename_i x ho
  rw [rd_congr (h x (by simp [ho, Op.operands]))]
 ·rename_i f args ts ho
  rw [rd_congr (h f (by simp [ho, Op.operands, Call.operands])), rdArgs_congr args.toList ts.toList fun x hx => h x (by simp [ho, Op.operands, Call.operands]; exact .inr (by simpa using hx))]
 ·rename_i t len parts ho
  congr 1
  exact List.map_congr_left fun p hp => by
   rw [rd_congr (h p.2 (by rw [ho]; simp only [Op.operands, List.mem_toArray, List.mem_map]; exact ⟨p, by simpa using hp, rfl⟩))]
 ·rename_i t l c ho
  rw [rd_congr (h l (by simp [ho, Op.operands])), rd_congr (h c (by simp [ho, Op.operands]))]
 ·rename_i h1 h2 h3 h4
  simp only at hok ⊢
  cases hn : isNilCmp o.op with
  | some e => rfl
  | none =>
   rw [hn] at hok
   simp only at hok ⊢
   exact qcnv_mono h hb hok
theorem popg_mono {C : Cx} {ops : Array Oper} {r : AV} {o : Oper} {st st' : St} (h : ∀ t ∈ o.looksAt ops, st.slots t = st'.slots t) (hb : ∀ id cs, st.boxes id = some cs → st'.boxes id = some cs) (hok : (popg C ops r o st).ok) : popg C ops r o st' = popg C ops r o st := by
 have hp : (pop C r o st).ok → pop C r o st' = pop C r o st := pop_mono (fun x hx t ht => h t (List.mem_append_left _ (List.mem_filterMap.2 ⟨x, by simpa using hx, by rw [ht]⟩))) hb
 unfold popg at hok ⊢
 cases hg : o.guard with
 | none => rw [hg] at hok; exact hp hok
 | some jb =>
  obtain ⟨j, b⟩ := jb
  rw [hg] at hok
  simp only at hok ⊢
  cases hj : (ops[j]?).bind (·.dst) with
  | none => rfl
  | some t =>
   rw [hj] at hok
   simp only at hok ⊢
   have : st.slots t = st'.slots t := h t (List.mem_append_right _ (by simp [hg, hj]))
   rw [← this]
   split
   ·rename_i c hc
    rw [hc] at hok
    simp only at hok
    split
    ·rename_i hcb
     rw [if_pos hcb] at hok
     exact hp hok
    ·rfl
   ·rfl
   ·rfl
def isAl (C : Cx) (o : Oper) : Option (List AV) :=
 match o.op, o.guard with
 | .alloc t, none => (C.T t).map TI.zero
 | _, _ => none
def alQ (C : Cx) (d : Nat) (z : List AV) : Place → Option Place := mkQ (isBoxOf (C.base + d) d) (AV.vwsC (C.base + d) 0 (flatA (.agg z))) (C.tk false (some d))
def alF (C : Cx) (d : Nat) (z : List AV) : Place → Bool := mkF (AV.vwsC (C.base + d) 0 (flatA (.agg z))) (C.tk false (some d))
def alZ (C : Cx) (d : Nat) (z : List AV) : List AV := AV.trC (resLeaf (alF C d z)) (C.base + d) 0 (flatA (.agg z))
def alTr (C : Cx) (d : Nat) (z : List AV) (s : St) : St := (s.settle (alQ C d z) (alF C d z)).killB (C.base + d)
def alOk (C : Cx) (d : Nat) (z : List AV) : Prop := d < C.N ∧ C.base + d < 1000000 ∧ (AV.agg z).hole = false ∧ AV.resOkC (alQ C d z) (alF C d z) (C.base + d) 0 (flatA (.agg z)) = true ∧ AV.noPtrL (C.base + d) (alZ C d z) = true
def keep (C : Cx) (d : Nat) (z : List AV) (s : St) : Prop := alTr C d z s = s
def St.noSlot (d : Nat) (s : St) : St := { s with slots := fun t => if t = d then .any else s.slots t }
def keepF (C : Cx) (d : Nat) (z : List AV) (s : St) : Prop := alTr C d z (s.noSlot d) = s.noSlot d
theorem alTr_boxes (C : Cx) (d : Nat) (z : List AV) : ∃ g : Nat → Option (List AV) → Option (List AV), ∀ s id, (alTr C d z s).boxes id = g id (s.boxes id) :=
 ⟨fun id x => ((x.map (AV.trC (fzLeaf (alF C d z)) id 0)).map (AV.trC (takeLeaf (alQ C d z)) id 0)).map (AV.trC (killBLeaf (C.base + d)) id 0), fun _ _ => rfl⟩
def isLit (o : Oper) : Option Nat :=
 match o.op, o.guard with
 | .buildSlice t len parts, none => if len = 0 ∧ parts.size = 0 then some t else none
 | _, _ => none
def litsOf : List Oper → List Nat
 | [] => []
 | o :: l => match o.dst, isLit o with
  | some d, some _ => d :: litsOf l
  | _, _ => litsOf l
theorem mem_litsOf {l : List Oper} {t : Nat} (h : t ∈ litsOf l) : ∃ o ∈ l, o.dst = some t ∧ (isLit o).isSome = true := by
 induction l with
 | nil => simp [litsOf] at h
 | cons o l ih =>
  unfold litsOf at h
  split at h
  ·rename_i d x hd hl
   rcases List.mem_cons.1 h with rfl | h
   ·exact ⟨o, by simp, hd, by rw [hl]; rfl⟩
   ·obtain ⟨o', h1, h2⟩ := ih h
    exact ⟨o', by simp [h1], h2⟩
  ·obtain ⟨o', h1, h2⟩ := ih h
   exact ⟨o', by simp [h1], h2⟩
def srcOf (L : List Nat) (o : Oper) : Option Nat :=
 match o.op, o.guard with
 | .call ⟨.builtin .append, args, _⟩, none => match args.toList with
  | [.tmp t, _] => if L.contains t then some t else none
  | _ => none
 | _, _ => none
def qapp (C : Cx) (l : List AV) (ts : List Nat) : QR := match l, ts with
 | [.sl (.vw (.slot _ []) true) sz [], x], [t, t2] => match (C.T t).map TI.kind, (C.T t2).map TI.kind, appendix x with
  | some (.slice e), some (.slice _), some (sz2, ys) => match C.T e with
   | some y => ⟨0 < y.bytes ∧ sz2 = y.size ∧ sz = y.size ∧ ys.length * y.bytes ≤ 140737488355328, .sl .own y.size ys⟩
   | none => .no
  | _, _, _ => .no
 | _, _ => .no
def qappO (C : Cx) (o : Oper) (s : St) : QR := match o.op with
 | .call ⟨.builtin .append, args, ts⟩ => qapp C (rdArgs C s args.toList ts.toList) ts.toList
 | _ => .no
def vA (C : Cx) (ops : Array Oper) (L : List Nat) (r : AV) (o : Oper) (d : Nat) (s : St) : AV := match isAl C o with
 | some _ => .ptr (C.base + d) 0
 | none => match isLit o with
  | some t => .sl .own (szOf C.T t) []
  | none => match srcOf L o with
   | some _ => (qappO C o s).v
   | none => (popg C ops r o s).v
def okA (C : Cx) (ops : Array Oper) (L : List Nat) (r : AV) (o : Oper) (d : Nat) (s : St) : Prop := match isAl C o with
 | some z => alOk C d z ∧ s.boxes (C.base + d) = none
 | none => match isLit o with
  | some t => (qbs C t 0 []).ok ∧ d < C.N ∧ (s.slots d).free = true
  | none => match srcOf L o with
   | some _ => (qappO C o s).ok ∧ d < C.N ∧ (s.slots d).free = true
   | none => (popg C ops r o s).ok ∧ d < C.N ∧ (s.slots d).free = true
def aputsA (C : Cx) (ops : Array Oper) (L : List Nat) (rs : Nat → AV) : Nat → List Oper → St → (St → Prop) → Prop
 | _, [], st, K => K st
 | k, o :: rest, st, K => match o.dst with
  | some d => okA C ops L (rs k) o d st ∧ aputsA C ops L rs (k + 1) rest (st.put d (vA C ops L (rs k) o d st)) K
  | none => False
def canonA (C : Cx) (ops : Array Oper) (L : List Nat) (rs : Nat → AV) (st : St) : Nat → St
 | 0 => st
 | k + 1 => match ops[k]? with
  | some o => match o.dst with
   | some d => (canonA C ops L rs st k).put d (vA C ops L (rs k) o d (canonA C ops L rs st k))
   | none => canonA C ops L rs st k
  | none => canonA C ops L rs st k
def putA (C : Cx) (ops : Array Oper) (L : List Nat) (rs : Nat → AV) (st : St) (k : Nat) : AV :=
 match ops[k]? with
 | some o => match o.dst with
  | some d => vA C ops L (rs k) o d (canonA C ops L rs st k)
  | none => .any
 | none => .any
def srcOk (L : List Nat) (ops : Array Oper) (m : Nat) : Bool := (List.range m).all fun k => match ops[k]? with
 | some o => match srcOf L o with
  | some t => (List.range m).all fun j => j == k || match ops[j]? with
   | some oj => !(oj.looksAt ops).contains t
   | none => true
  | none => true
 | none => true
theorem srcOk_spec {L : List Nat} {ops : Array Oper} {m : Nat} (h : srcOk L ops m = true) {k j t : Nat} {o oj : Oper} (hk : k < m) (hj : j < m) (hjk : j ≠ k) (ho : ops[k]? = some o) (hoj : ops[j]? = some oj) (hs : srcOf L o = some t) : t ∉ oj.looksAt ops := by
 simp only [srcOk, List.all_eq_true, List.mem_range] at h
 have h1 := h k hk
 rw [ho] at h1
 simp only [hs, List.all_eq_true, List.mem_range] at h1
 have h2 := h1 j hj
 rw [hoj] at h2
 simp only [Bool.or_eq_true, beq_iff_eq, hjk, false_or, Bool.not_eq_true', List.contains_eq_mem, decide_eq_false_iff_not] at h2
 exact h2
def srcQ (t : Nat) (p : Place) : Option Place := if p = .slot t [] then some .no else none
def tkTr (t : Nat) (s : St) : St := s.take (srcQ t)
theorem tkTr_boxes (t : Nat) : ∃ g : Nat → Option (List AV) → Option (List AV), ∀ s id, (tkTr t s).boxes id = g id (s.boxes id) :=
 ⟨fun id x => x.map (AV.trC (takeLeaf (srcQ t)) id 0), fun _ _ => rfl⟩
def keepT (t : Nat) (s : St) : Prop := tkTr t (s.noSlot t) = s.noSlot t
def tks (L : List Nat) : List Oper → St → Prop
 | [], _ => True
 | o :: l, s => (match srcOf L o with
  | some t => keepT t s
  | none => True) ∧ tks L l s
theorem tks_get {L : List Nat} {s : St} {l : List Oper} (h : tks L l s) {o : Oper} {t : Nat} (hm : o ∈ l) (hz : srcOf L o = some t) : keepT t s := by
 induction l with
 | nil => cases hm
 | cons x l ih =>
  rcases List.mem_cons.1 hm with rfl | hm
  ·have := h.1
   rw [hz] at this
   exact this
  ·exact ih h.2 hm
def srcs (L : List Nat) : List Oper → List Nat
 | [] => []
 | o :: l => match srcOf L o with
  | some t => t :: srcs L l
  | none => srcs L l
theorem mem_srcs {L : List Nat} {l : List Oper} {t : Nat} : t ∈ srcs L l ↔ ∃ o ∈ l, srcOf L o = some t := by
 induction l with
 | nil => simp [srcs]
 | cons o l ih =>
  unfold srcs
  cases hs : srcOf L o with
  | none => simp [ih, hs]
  | some x => simp [ih, hs, eq_comm]
def St.noSlots (ts : List Nat) (s : St) : St := { s with slots := fun t => if ts.contains t then .any else s.slots t }
def newsA (C : Cx) : List Oper → Boxes
 | [] => []
 | o :: l => match o.dst, isAl C o with
  | some d, some z => (C.base + d, alZ C d z) :: newsA C l
  | _, _ => newsA C l
def keeps (C : Cx) : List Oper → St → Prop
 | [], _ => True
 | o :: l, s => (match o.dst, isAl C o with
  | some d, some z => keep C d z s
  | _, _ => True) ∧ keeps C l s
def keepsF (C : Cx) : List Oper → St → Prop
 | [], _ => True
 | o :: l, s => (match o.dst, isAl C o with
  | some d, some z => keepF C d z s
  | _, _ => True) ∧ keepsF C l s
theorem keepsF_get {C : Cx} {s : St} {l : List Oper} (h : keepsF C l s) {o : Oper} {d : Nat} {z : List AV} (hm : o ∈ l) (hd : o.dst = some d) (hz : isAl C o = some z) : keepF C d z s := by
 induction l with
 | nil => cases hm
 | cons x l ih =>
  rcases List.mem_cons.1 hm with rfl | hm
  ·have := h.1
   rw [hd, hz] at this
   exact this
  ·exact ih h.2 hm
theorem keeps_get {C : Cx} {s : St} {l : List Oper} (h : keeps C l s) {o : Oper} {d : Nat} {z : List AV} (hm : o ∈ l) (hd : o.dst = some d) (hz : isAl C o = some z) : keep C d z s := by
 induction l with
 | nil => cases hm
 | cons x l ih =>
  rcases List.mem_cons.1 hm with rfl | hm
  ·have := h.1
   rw [hd, hz] at this
   exact this
  ·exact ih h.2 hm
theorem newsA_get {C : Cx} {l : List Oper} {id : Nat} {cs : List AV} (h : (newsA C l).lookup id = some cs) : ∃ o ∈ l, ∃ d z, o.dst = some d ∧ isAl C o = some z ∧ id = C.base + d ∧ cs = alZ C d z := by
 induction l with
 | nil => simp [newsA] at h
 | cons o l ih =>
  have tail : (newsA C l).lookup id = some cs → ∃ o' ∈ o :: l, ∃ d z, o'.dst = some d ∧ isAl C o' = some z ∧ id = C.base + d ∧ cs = alZ C d z := fun h => by
   obtain ⟨o', hm, r⟩ := ih h
   exact ⟨o', by simp [hm], r⟩
  unfold newsA at h
  split at h
  ·rename_i d z hd hz
   rw [List.lookup_cons] at h
   by_cases hid : id = C.base + d
   ·subst hid
    simp at h
    exact ⟨o, by simp, d, z, hd, hz, rfl, h.symm⟩
   ·have : (id == C.base + d) = false := by simpa using hid
    rw [this] at h
    exact tail h
  ·exact tail h
theorem newsA_mem {C : Cx} {l : List Oper} {o : Oper} {d : Nat} {z : List AV} (hm : o ∈ l) (hd : o.dst = some d) (hz : isAl C o = some z) : ((newsA C l).lookup (C.base + d)).isSome = true := by
 induction l with
 | nil => cases hm
 | cons x l ih =>
  unfold newsA
  rcases List.mem_cons.1 hm with rfl | hm
  ·rw [hd, hz]
   simp [List.lookup_cons]
  ·have ih := ih hm
   split
   ·rw [List.lookup_cons]
    split
    ·rfl
    ·exact ih
   ·exact ih
section
variable {C : Cx} {L : List Nat} {ops : Array Oper} {rs : Nat → AV} {st : St} {m : Nat}
def Gone (L : List Nat) (ops : Array Oper) (m : Nat) (D : Nat → Prop) (t : Nat) : Prop := ∃ c o, c < m ∧ D c ∧ ops[c]? = some o ∧ srcOf L o = some t
structure IsA (C : Cx) (L : List Nat) (ops : Array Oper) (rs : Nat → AV) (st : St) (m : Nat) (D : Nat → Prop) (s : St) : Prop where
 put : ∀ j t, j < m → D j → dstOf ops j = some t → ¬ Gone L ops m D t → s.slots t = putA C ops L rs st j
 gone : ∀ t, Gone L ops m D t → s.slots t = .any
 old : ∀ t, (∀ j, j < m → D j → dstOf ops j ≠ some t) → ¬ Gone L ops m D t → s.slots t = st.slots t
 newb : ∀ j o d z, j < m → D j → ops[j]? = some o → o.dst = some d → isAl C o = some z → s.boxes (C.base + d) = some (alZ C d z)
 oldb : ∀ id, (∀ j o d z, j < m → D j → ops[j]? = some o → o.dst = some d → isAl C o = some z → id ≠ C.base + d) → s.boxes id = st.boxes id
theorem isA_unique {D : Nat → Prop} {s s' : St} (h : IsA C L ops rs st m D s) (h' : IsA C L ops rs st m D s') : s = s' := by
 refine St.ext' (fun t => ?_) (fun id => ?_)
 ·by_cases hg : Gone L ops m D t
  ·rw [h.gone t hg, h'.gone t hg]
  by_cases ht : ∃ j, j < m ∧ D j ∧ dstOf ops j = some t
  ·obtain ⟨j, hj, hD, hjt⟩ := ht
   rw [h.put j t hj hD hjt hg, h'.put j t hj hD hjt hg]
  ·have : ∀ j, j < m → D j → dstOf ops j ≠ some t := fun j hj hD he => ht ⟨j, hj, hD, he⟩
   rw [h.old t this hg, h'.old t this hg]
 ·by_cases hb : ∃ j o d z, j < m ∧ D j ∧ ops[j]? = some o ∧ o.dst = some d ∧ isAl C o = some z ∧ id = C.base + d
  ·obtain ⟨j, o, d, z, h1, h2, h3, h4, h5, rfl⟩ := hb
   rw [h.newb j o d z h1 h2 h3 h4 h5, h'.newb j o d z h1 h2 h3 h4 h5]
  ·have : ∀ j o d z, j < m → D j → ops[j]? = some o → o.dst = some d → isAl C o = some z → id ≠ C.base + d := fun j o d z h1 h2 h3 h4 h5 e => hb ⟨j, o, d, z, h1, h2, h3, h4, h5, e⟩
   rw [h.oldb id this, h'.oldb id this]
theorem gone_congr {D D' : Nat → Prop} (hD : ∀ j, j < m → (D j ↔ D' j)) (t : Nat) : Gone L ops m D t ↔ Gone L ops m D' t :=
 ⟨fun ⟨c, o, h1, h2, h3⟩ => ⟨c, o, h1, (hD c h1).1 h2, h3⟩, fun ⟨c, o, h1, h2, h3⟩ => ⟨c, o, h1, (hD c h1).2 h2, h3⟩⟩
theorem isA_congr {D D' : Nat → Prop} {s : St} (h : IsA C L ops rs st m D s) (hD : ∀ j, j < m → (D j ↔ D' j)) : IsA C L ops rs st m D' s :=
 ⟨fun j t hj hd he hg => h.put j t hj ((hD j hj).2 hd) he fun g => hg ((gone_congr hD t).1 g), fun t hg => h.gone t ((gone_congr hD t).2 hg), fun t ht hg => h.old t (fun j hj hd => ht j hj ((hD j hj).1 hd)) fun g => hg ((gone_congr hD t).1 g),
  fun j o d z hj hd => h.newb j o d z hj ((hD j hj).2 hd), fun id hi => h.oldb id fun j o d z hj hd => hi j o d z hj ((hD j hj).1 hd)⟩
theorem isA_put {D : Nat → Prop} {s : St} (h : IsA C L ops rs st m D s) {k d : Nat} {o : Oper} (hk : k < m) (ho : ops[k]? = some o) (hd : o.dst = some d) (hal : isAl C o = none) (hne : ∀ j, j < m → j ≠ k → dstOf ops j ≠ some d) (hgd : ∀ c o', c < m → ops[c]? = some o' → srcOf L o' = some d → ¬ (D c ∨ c = k)) {s0 : St}
  (hs0 : (s0 = s ∧ srcOf L o = none) ∨ ∃ t, srcOf L o = some t ∧ s0 = s.put t .any) :
  IsA C L ops rs st m (fun j => D j ∨ j = k) (s0.put d (putA C ops L rs st k)) := by
 have hdk : dstOf ops k = some d := by simp [dstOf, ho, hd]
 have hb : s0.boxes = s.boxes := by rcases hs0 with ⟨rfl, _⟩ | ⟨t, _, rfl⟩ <;> rfl
 have gsub : ∀ t, Gone L ops m D t → Gone L ops m (fun j => D j ∨ j = k) t := fun t ⟨c, o', h1, h2, h3⟩ => ⟨c, o', h1, .inl h2, h3⟩
 have hgone : ∀ t, Gone L ops m (fun j => D j ∨ j = k) t → t ≠ d := fun t ⟨c, o', h1, h2, h3, h4⟩ e => by subst e; exact hgd c o' h1 h3 h4 h2
 have gcase : ∀ t, Gone L ops m (fun j => D j ∨ j = k) t → Gone L ops m D t ∨ srcOf L o = some t := fun t ⟨c, o', h1, h2, h3, h4⟩ => by
  rcases h2 with h2 | rfl
  ·exact .inl ⟨c, o', h1, h2, h3, h4⟩
  ·rw [ho] at h3; cases h3; exact .inr h4
 have s0at : ∀ t, ¬ Gone L ops m (fun j => D j ∨ j = k) t → s0.slots t = s.slots t := fun t hg => by
  rcases hs0 with ⟨rfl, _⟩ | ⟨x, hx, rfl⟩
  ·rfl
  ·show (if t = x then _ else s.slots t) = _
   rw [if_neg fun e => hg ⟨k, o, hk, .inr rfl, ho, by rw [e]; exact hx⟩]
 refine ⟨fun j t hj hD hjt hg => ?_, fun t hg => ?_, fun t ht hg => ?_, fun j o' d' z hj hD ho' hd' hz => ?_, fun id hi => ?_⟩
 ·show (if t = d then _ else s0.slots t) = _
  by_cases htd : t = d
  ·subst htd
   have : j = k := Classical.byContradiction fun hjk => hne j hj hjk hjt
   subst this
   rw [if_pos rfl]
  ·rw [if_neg htd, s0at t hg]
   rcases hD with hD | rfl
   ·exact h.put j t hj hD hjt fun g => hg (gsub t g)
   ·rw [hjt] at hdk; exact absurd (Option.some.inj hdk) htd
 ·show (if t = d then _ else s0.slots t) = _
  rw [if_neg (hgone t hg)]
  rcases hs0 with ⟨rfl, hn⟩ | ⟨x, hx, rfl⟩
  ·rcases gcase t hg with g | g
   ·exact h.gone t g
   ·rw [hn] at g; cases g
  ·show (if t = x then _ else s.slots t) = _
   by_cases htx : t = x
   ·rw [if_pos htx]
   ·rw [if_neg htx]
    rcases gcase t hg with g | g
    ·exact h.gone t g
    ·rw [hx] at g; exact absurd (Option.some.inj g).symm htx
 ·show (if t = d then _ else s0.slots t) = _
  have htd : t ≠ d := fun e => ht k hk (.inr rfl) (by rw [e]; exact hdk)
  rw [if_neg htd, s0at t hg]
  exact h.old t (fun j hj hD => ht j hj (.inl hD)) fun g => hg (gsub t g)
 ·show s0.boxes _ = _
  rw [hb]
  rcases hD with hD | rfl
  ·exact h.newb j o' d' z hj hD ho' hd' hz
  ·rw [ho] at ho'; cases ho'
   rw [hal] at hz; cases hz
 ·show s0.boxes _ = _
  rw [hb]
  exact h.oldb id fun j o' d' z hj hD => hi j o' d' z hj (.inl hD)
theorem isA_box {D : Nat → Prop} {s : St} (h : IsA C L ops rs st m D s) {k d : Nat} {o : Oper} {z : List AV} (hk : k < m) (ho : ops[k]? = some o) (hd : o.dst = some d) (hal : isAl C o = some z) (hsrc : srcOf L o = none) (hne : ∀ j, j < m → j ≠ k → dstOf ops j ≠ some d) (hgd : ∀ c o', c < m → ops[c]? = some o' → srcOf L o' = some d → ¬ (D c ∨ c = k)) :
  IsA C L ops rs st m (fun j => D j ∨ j = k) ((s.setBox (C.base + d) (some (alZ C d z))).put d (.ptr (C.base + d) 0)) := by
 have hdk : dstOf ops k = some d := by simp [dstOf, ho, hd]
 have hpk : putA C ops L rs st k = .ptr (C.base + d) 0 := by simp [putA, ho, hd, vA, hal]
 have geq : ∀ t, Gone L ops m (fun j => D j ∨ j = k) t → Gone L ops m D t := fun t ⟨c, o', h1, h2, h3, h4⟩ => by
  rcases h2 with h2 | rfl
  ·exact ⟨c, o', h1, h2, h3, h4⟩
  ·rw [ho] at h3; cases h3; rw [hsrc] at h4; cases h4
 have gsub : ∀ t, Gone L ops m D t → Gone L ops m (fun j => D j ∨ j = k) t := fun t ⟨c, o', h1, h2, h3⟩ => ⟨c, o', h1, .inl h2, h3⟩
 refine ⟨fun j t hj hD hjt hg => ?_, fun t hg => ?_, fun t ht hg => ?_, fun j o' d' z' hj hD ho' hd' hz => ?_, fun id hi => ?_⟩
 ·show (if t = d then _ else s.slots t) = _
  by_cases htd : t = d
  ·subst htd
   have : j = k := Classical.byContradiction fun hjk => hne j hj hjk hjt
   subst this
   rw [if_pos rfl, hpk]
  ·rw [if_neg htd]
   rcases hD with hD | rfl
   ·exact h.put j t hj hD hjt fun g => hg (gsub t g)
   ·rw [hjt] at hdk; exact absurd (Option.some.inj hdk) htd
 ·show (if t = d then _ else s.slots t) = _
  have htd : t ≠ d := fun e => by
   obtain ⟨c, o', h1, h2, h3, h4⟩ := hg
   subst e
   exact hgd c o' h1 h3 h4 h2
  rw [if_neg htd]
  exact h.gone t (geq t hg)
 ·show (if t = d then _ else s.slots t) = _
  have htd : t ≠ d := fun e => ht k hk (.inr rfl) (by rw [e]; exact hdk)
  rw [if_neg htd]
  exact h.old t (fun j hj hD => ht j hj (.inl hD)) fun g => hg (gsub t g)
 ·show (if C.base + d' = C.base + d then _ else s.boxes (C.base + d')) = _
  by_cases hjk : j = k
  ·subst hjk
   rw [ho] at ho'; cases ho'
   rw [hd] at hd'; cases hd'
   rw [hal] at hz; cases hz
   rw [if_pos rfl]
  ·have hdd : d' ≠ d := fun e => hne j hj hjk (by subst e; simp [dstOf, ho', hd'])
   have hbd : C.base + d' ≠ C.base + d := fun e => hdd (Nat.add_left_cancel e)
   rw [if_neg hbd]
   exact h.newb j o' d' z' hj (hD.resolve_right hjk) ho' hd' hz
 ·have hidk := hi k o d z hk (.inr rfl) ho hd hal
  show (if id = C.base + d then _ else s.boxes id) = _
  rw [if_neg hidk]
  exact h.oldb id fun j o' d' z' hj hD => hi j o' d' z' hj (.inl hD)
theorem canonA_slots (hdst : ∀ k, k < m → ∃ o d, ops[k]? = some o ∧ o.dst = some d) (hne : ∀ j k d, j < m → k < m → j ≠ k → dstOf ops k = some d → dstOf ops j ≠ some d) :
  ∀ k, k ≤ m → (canonA C ops L rs st k).boxes = st.boxes ∧ (∀ j t, j < k → dstOf ops j = some t → (canonA C ops L rs st k).slots t = putA C ops L rs st j) ∧ ∀ t, (∀ j, j < k → dstOf ops j ≠ some t) → (canonA C ops L rs st k).slots t = st.slots t
 | 0, _ => ⟨rfl, fun j t h => absurd h (by omega), fun t _ => rfl⟩
 | k + 1, hk => by
  obtain ⟨o, d, ho, hd⟩ := hdst k (by omega)
  have hdk : dstOf ops k = some d := by simp [dstOf, ho, hd]
  obtain ⟨h1, h2, h3⟩ := canonA_slots hdst hne k (by omega)
  have e : canonA C ops L rs st (k + 1) = (canonA C ops L rs st k).put d (putA C ops L rs st k) := by simp [canonA, putA, ho, hd]
  rw [e]
  refine ⟨h1, fun j t hj hjt => ?_, fun t ht => ?_⟩
  ·show (if t = d then _ else (canonA C ops L rs st k).slots t) = _
   by_cases htd : t = d
   ·subst htd
    have : j = k := Classical.byContradiction fun hjk => hne j k t (by omega) (by omega) hjk hdk hjt
    subst this
    rw [if_pos rfl]
   ·rw [if_neg htd]
    have : j ≠ k := fun e => by subst e; rw [hjt] at hdk; exact htd (Option.some.inj hdk)
    exact h2 j t (by omega) hjt
  ·show (if t = d then _ else (canonA C ops L rs st k).slots t) = _
   have htd : t ≠ d := fun e => ht k (by omega) (by rw [e]; exact hdk)
   rw [if_neg htd]
   exact h3 t fun j hj => ht j (by omega)
structure AllA (C : Cx) (L : List Nat) (ops : Array Oper) (rs : Nat → AV) (st : St) (m : Nat) (s : St) : Prop where
 put : ∀ j t, j < m → dstOf ops j = some t → s.slots t = putA C ops L rs st j
 newb : ∀ j o d z, j < m → ops[j]? = some o → o.dst = some d → isAl C o = some z → s.boxes (C.base + d) = some (alZ C d z)
theorem any_tr {h : Place → AV → AV} (hl : ∀ p, h p .any = .any) (p : Place) : AV.tr h p .any = .any := by
 rw [AV.tr_leaf rfl, hl]
theorem keep_mix {D : Nat → Prop} {s fin : St} (h : IsA C L ops rs st m D s) (hf : AllA C L ops rs st m fin) {d : Nat} {z : List AV} (hnd : ∀ j, j < m → D j → dstOf ops j ≠ some d) (h1 : keep C d z st) (h2 : keepF C d z fin) : keep C d z s := by
 obtain ⟨gb, hgb⟩ := alTr_boxes C d z
 let g : Nat → AV → AV := fun t x => ((x.tr (fzLeaf (alF C d z)) (.slot t [])).tr (takeLeaf (alQ C d z)) (.slot t [])).tr (killBLeaf (C.base + d)) (.slot t [])
 have hg : ∀ s t, (alTr C d z s).slots t = g t (s.slots t) := fun _ _ => rfl
 have ga : ∀ t, g t .any = .any := fun t => by
  show ((AV.any.tr _ _).tr _ _).tr _ _ = _
  rw [any_tr (fun _ => rfl), any_tr (fun _ => rfl), any_tr (fun _ => rfl)]
 have s1 : ∀ t, g t (st.slots t) = st.slots t := fun t => by rw [← hg]; exact congrFun (congrArg St.slots h1) t
 have s2 : ∀ t, t ≠ d → g t (fin.slots t) = fin.slots t := fun t htd => by
  have h3 := congrFun (congrArg St.slots h2) t
  have e : (fin.noSlot d).slots t = fin.slots t := if_neg htd
  rw [hg, e] at h3
  exact h3
 have b1 : ∀ t, gb t (st.boxes t) = st.boxes t := fun t => by rw [← hgb]; exact congrFun (congrArg St.boxes h1) t
 have b2 : ∀ t, gb t (fin.boxes t) = fin.boxes t := fun t => by
  have h3 := congrFun (congrArg St.boxes h2) t
  rw [hgb] at h3
  exact h3
 refine St.ext' (fun t => ?_) (fun id => ?_)
 ·rw [hg]
  by_cases hgn : Gone L ops m D t
  ·rw [h.gone t hgn]; exact ga t
  by_cases ht : ∃ j, j < m ∧ D j ∧ dstOf ops j = some t
  ·obtain ⟨j, hj, hD, hjt⟩ := ht
   rw [h.put j t hj hD hjt hgn, ← hf.put j t hj hjt]
   exact s2 t fun e => hnd j hj hD (by rw [← e]; exact hjt)
  ·rw [h.old t (fun j hj hD he => ht ⟨j, hj, hD, he⟩) hgn]
   exact s1 t
 ·rw [hgb]
  by_cases hb : ∃ j o d z, j < m ∧ D j ∧ ops[j]? = some o ∧ o.dst = some d ∧ isAl C o = some z ∧ id = C.base + d
  ·obtain ⟨j, o, d', z', g1, g2, g3, g4, g5, rfl⟩ := hb
   rw [h.newb j o d' z' g1 g2 g3 g4 g5, ← hf.newb j o d' z' g1 g3 g4 g5]
   exact b2 _
  ·rw [h.oldb id fun j o d' z' g1 g2 g3 g4 g5 e => hb ⟨j, o, d', z', g1, g2, g3, g4, g5, e⟩]
   exact b1 _
theorem take_mix {D : Nat → Prop} {s fin : St} (h : IsA C L ops rs st m D s) (hf : AllA C L ops rs st m fin) {x sz : Nat} (hx : s.slots x = .sl .own sz []) (h1 : keepT x st) (h2 : keepT x fin) : s.take (srcQ x) = s.put x .any := by
 obtain ⟨gb, hgb⟩ := tkTr_boxes x
 let g : Nat → AV → AV := fun t y => y.tr (takeLeaf (srcQ x)) (.slot t [])
 have hg : ∀ s t, (tkTr x s).slots t = g t (s.slots t) := fun _ _ => rfl
 have ga : ∀ t, g t .any = .any := fun t => any_tr (fun _ => rfl) _
 have s1 : ∀ t, t ≠ x → g t (st.slots t) = st.slots t := fun t htx => by
  have h3 := congrFun (congrArg St.slots h1) t
  have e : (st.noSlot x).slots t = st.slots t := if_neg htx
  rw [hg, e] at h3
  exact h3
 have s2 : ∀ t, t ≠ x → g t (fin.slots t) = fin.slots t := fun t htx => by
  have h3 := congrFun (congrArg St.slots h2) t
  have e : (fin.noSlot x).slots t = fin.slots t := if_neg htx
  rw [hg, e] at h3
  exact h3
 have b1 : ∀ t, gb t (st.boxes t) = st.boxes t := fun t => by
  have h3 := congrFun (congrArg St.boxes h1) t
  rw [hgb] at h3
  exact h3
 have b2 : ∀ t, gb t (fin.boxes t) = fin.boxes t := fun t => by
  have h3 := congrFun (congrArg St.boxes h2) t
  rw [hgb] at h3
  exact h3
 show tkTr x s = _
 refine St.ext' (fun t => ?_) (fun id => ?_)
 ·rw [hg]
  show _ = if t = x then _ else s.slots t
  by_cases htx : t = x
  ·subst htx
   rw [if_pos rfl, hx]
   show AV.tr _ _ _ = _
   rw [AV.tr_leaf rfl]
   simp [takeLeaf, srcQ]
  rw [if_neg htx]
  by_cases hgn : Gone L ops m D t
  ·rw [h.gone t hgn]; exact ga t
  by_cases ht : ∃ j, j < m ∧ D j ∧ dstOf ops j = some t
  ·obtain ⟨j, hj, hD, hjt⟩ := ht
   rw [h.put j t hj hD hjt hgn, ← hf.put j t hj hjt]
   exact s2 t htx
  ·rw [h.old t (fun j hj hD he => ht ⟨j, hj, hD, he⟩) hgn]
   exact s1 t htx
 ·rw [hgb]
  show _ = s.boxes id
  by_cases hb : ∃ j o d z, j < m ∧ D j ∧ ops[j]? = some o ∧ o.dst = some d ∧ isAl C o = some z ∧ id = C.base + d
  ·obtain ⟨j, o, d', z', g1, g2, g3, g4, g5, rfl⟩ := hb
   rw [h.newb j o d' z' g1 g2 g3 g4 g5, ← hf.newb j o d' z' g1 g3 g4 g5]
   exact b2 _
  ·rw [h.oldb id fun j o d' z' g1 g2 g3 g4 g5 e => hb ⟨j, o, d', z', g1, g2, g3, g4, g5, e⟩]
   exact b1 _
end
section
variable {C : Cx} {L : List Nat} {S : Start} {ops : Array Oper} {R : Exit → Act → World → Prop} {m : Nat}
theorem draw_tailA (D : DrawA ops m) (hbase : S.k ≤ C.base) {K : St → Prop} (hR : ∀ E a, Inv C.N S E → a.tmps = E.tm → a.defers = [] → K E.st → R .normal a E.w) :
  ∀ (fuel k : Nat) (listed : Array Bool) (E : Env) (a : Act), k ≤ ops.size → ops.size ≤ k + fuel → m ≤ k → listed.size = ops.size → (∀ j, j < ops.size → listed.getD j true = decide (j < k)) → Inv C.N S E → a.tmps = E.tm → a.defers = [] →
   aops C ops (ops.toList.drop k) E.st K → wpAny C.P .any ops R fuel listed a E.w := by
 intro fuel
 have fin : ∀ (fuel k : Nat) (listed : Array Bool) (E : Env) (a : Act), k = ops.size → (∀ j, j < ops.size → listed.getD j true = decide (j < k)) → Inv C.N S E → a.tmps = E.tm → a.defers = [] → aops C ops (ops.toList.drop k) E.st K → wpAny C.P .any ops R fuel listed a E.w := by
  intro fuel k listed E a hk hl I ha hd h
  subst hk
  refine wpAny_done ?_ ?_ fuel
  ·apply List.eq_nil_iff_forall_not_mem.2
   intro j hj
   obtain ⟨h1, o, ho, _⟩ := mem_ready.1 hj
   have hlt := (Array.getElem?_eq_some_iff.1 ho).1
   rw [hl j hlt] at h1
   simp [hlt] at h1
  ·rw [List.drop_eq_nil_of_le (by simp)] at h
   exact hR E a I ha hd h
 induction fuel with
 | zero =>
  intro k listed E a hk hk2 hm hs hl I ha hd h
  exact fin 0 k listed E a (by omega) hl I ha hd h
 | succ fuel ih =>
  intro k listed E a hk hk2 hm hs hl I ha hd h
  by_cases hke : k = ops.size
  ·exact fin _ k listed E a hke hl I ha hd h
  have hlt : k < ops.size := by omega
  have ho : ops[k]? = some ops[k] := Array.getElem?_eq_getElem hlt
  have hgf : ∀ j, j < ops.size → listed.getD j false = decide (j < k) := fun j hj => by
   have h1 := hl j hj
   have hjs : j < listed.size := by omega
   rw [Array.getD_eq_getD_getElem?, Array.getElem?_eq_getElem hjs] at h1 ⊢
   exact h1
  have hcl : ClosedL ops listed := fun i j hi hr => by
   have hio : i < ops.size := by
    cases hr with
    | one ho' _ => exact (Array.getElem?_eq_some_iff.1 ho').1
    | more ho' _ _ => exact (Array.getElem?_eq_some_iff.1 ho').1
   rw [hgf i hio] at hi
   have hij := hr.lt D
   have hi : i < k := by simpa using hi
   rw [hgf j (by omega)]
   simp; omega
  have hkr : k ∈ Region.ready .any ops listed := by
   refine mem_ready.2 ⟨by rw [hl k hlt]; simp, _, ho, fun e he hb => ?_⟩
   have := D.back k _ ho e he hb
   rw [hgf e.on (by omega)]; simpa using this
  refine ⟨fun h0 => by rw [h0] at hkr; simp at hkr, fun i hi => ?_⟩
  have hik : i = k := by
   obtain ⟨h1, o, hoi, h2⟩ := mem_ready.1 hi
   have hil := (Array.getElem?_eq_some_iff.1 hoi).1
   rw [hl i hil] at h1
   have h1 : ¬ i < k := by simpa using h1
   refine Classical.byContradiction fun hne => ?_
   have := ready_reach hcl hi (D.tail i o (by omega) hoi k (by omega))
   rw [hgf k hlt] at this
   simp at this
  subst hik
  have hdrop : ops.toList.drop i = ops[i] :: ops.toList.drop (i + 1) := by
   rw [List.drop_eq_getElem_cons (by simpa using hlt)]; simp
  rw [hdrop] at h
  refine aops_head I hbase ha hd ho h fun E' a' I' ha' hd' h' => ?_
  refine ih (i + 1) _ E' a' (by omega) (by omega) (by omega) (by simpa using hs) (fun j hj => ?_) I' ha' hd' h'
  by_cases hji : i = j
  ·subst hji
   rw [Array.getD_eq_getD_getElem?, Array.getElem?_setIfInBounds_self_of_lt (by omega)]
   simp
  ·rw [getD_set_ne true hji, hl j hj]
   have : (j < i) ↔ (j < i + 1) := by omega
   simp [this]
theorem al_head {E : Env} (I : Inv C.N S E) (hbase : S.k ≤ C.base) {a : Act} (ha : a.tmps = E.tm) (hd : a.defers = []) {i d : Nat} {o : Oper} {z : List AV} (ho : ops[i]? = some o) (hdst : o.dst = some d) (hal : isAl C o = some z) (hok : alOk C d z) (hk : keep C d z E.st)
  {next : Act → World → Prop} (hnext : ∀ E' a', Inv C.N S E' → a'.tmps = E'.tm → a'.defers = [] → E'.st = (E.st.setBox (C.base + d) (some (alZ C d z))).put d (.ptr (C.base + d) 0) → next a' E'.w) : wpOp C.P ops R i next a E.w := by
 unfold isAl at hal
 split at hal
 ·rename_i t hop hg
  obtain ⟨y, hy, rfl⟩ := Option.map_eq_some_iff.1 hal
  unfold wpOp
  simp only [ho]
  have hw : Region.wanted o (yielded ops a.tmps) = true := by simp [Region.wanted, hg]
  rw [if_pos hw]
  refine .inl (wp_alloc (K := fun s => s = (E.st.setBox (C.base + d) (some (alZ C d y.zero))).put d (.ptr (C.base + d) 0)) I hbase ha (fun E' a' I' ha' hd' hK => hnext E' a' I' ha' (hd'.trans hd) hK) hy hdst hop ?_)
  obtain ⟨h1, h2, h3, h4, h5⟩ := hok
  refine ⟨h1, h2, h3, h4, h5, ?_⟩
  show (((alTr C d y.zero E.st).setBox (C.base + d) (some (alZ C d y.zero))).put d (.ptr (C.base + d) 0)) = _
  rw [show alTr C d y.zero E.st = E.st from hk]
 ·cases hal
theorem lit_head {E : Env} (I : Inv C.N S E) {a : Act} (ha : a.tmps = E.tm) (hd : a.defers = []) {i d t : Nat} {o : Oper} (ho : ops[i]? = some o) (hdst : o.dst = some d) (hl : isLit o = some t) (hok : (qbs C t 0 []).ok) (hN : d < C.N) (hf : (E.st.slots d).free = true)
  {next : Act → World → Prop} (hnext : ∀ E' a', Inv C.N S E' → a'.tmps = E'.tm → a'.defers = [] → E'.st = E.st.put d (.sl .own (szOf C.T t) []) → next a' E'.w) : wpOp C.P ops R i next a E.w := by
 unfold isLit at hl
 split at hl
 ·rename_i t' len parts hop hg
  split at hl
  ·rename_i h0
   cases hl
   obtain ⟨rfl, hp⟩ := h0
   have hpe : parts = #[] := Array.eq_empty_of_size_eq_zero hp
   subst hpe
   unfold wpOp
   simp only [ho]
   have hw : Region.wanted o (yielded ops a.tmps) = true := by simp [Region.wanted, hg]
   rw [if_pos hw]
   unfold qbs at hok
   split at hok
   ·rename_i e hk
    split at hok
    ·rename_i y hy
     split at hok
     ·rename_i cs hcs
      obtain ⟨h1, h2, h3, h4, h5, h6, h7⟩ := hok
      have hsz : szOf C.T t = y.size := by
       obtain ⟨yt, hyt, hkt⟩ := Option.map_eq_some_iff.1 hk
       unfold szOf
       rw [hyt]
       simp only
       rw [hkt]
       simp only [hy]
       rfl
      refine .inl (wp_buildSlice (K := fun s => s = E.st.put d (.sl .own (szOf C.T t) [])) (sz := elemSz C.T t) I ha (fun E' a' I' ha' hd' hK => hnext E' a' I' ha' (hd'.trans hd) hK) hdst hop ?_)
      show abuildSlice C E.st d t 0 [] _
      unfold abuildSlice
      rw [hk]
      simp only
      rw [hy]
      simp only
      have hv0 : AV.vwsN (([] : List (Nat × AV)).map (·.2)) = [] := rfl
      rw [hv0]
      simp only [List.isEmpty_nil, settleF]
      have hn : (fun _ => false : Place → Bool) = noF := rfl
      rw [hcs]
      exact ⟨hN, hf, h2, h3, h4, h5, h6, h7, by rw [St.fz_no, hsz]; rfl⟩
     ·exact hok.elim
    ·exact hok.elim
   ·exact hok.elim
  ·cases hl
 ·cases hl
theorem Leans.take_congr {SP : Place → Prop} {SB : Nat → Prop} {Q Q' : Place → Option Place} (hQ : ∀ q, SP q → (Q q).isSome = (Q' q).isSome) {p : Place} {x : AV} (h : Leans SP SB p x) : x.tr (takeLeaf Q) p = x.tr (takeLeaf Q') p := by
 have lst : ∀ (l : List AV) (k : Nat) (p : Place), (∀ (j : Nat) (c : AV), l[j]? = some c → c.tr (takeLeaf Q) (p.sub (k + j)) = c.tr (takeLeaf Q') (p.sub (k + j))) → AV.trL (takeLeaf Q) p k l = AV.trL (takeLeaf Q') p k l := by
  intro l
  induction l with
  | nil => intros; rfl
  | cons x l ih =>
   intro k p h
   rw [AV.trL, AV.trL, show AV.tr (takeLeaf Q) (p.sub k) x = AV.tr (takeLeaf Q') (p.sub k) x from h 0 x rfl, ih (k + 1) p fun j c hc => by rw [show k + 1 + j = k + (j + 1) by omega]; exact h (j + 1) c (by simpa using hc)]
 have lsn : ∀ (l : List AV), (∀ c ∈ l, c.tr (takeLeaf Q) .no = c.tr (takeLeaf Q') .no) → AV.trN (takeLeaf Q) l = AV.trN (takeLeaf Q') l := by
  intro l
  induction l with
  | nil => intros; rfl
  | cons x l ih =>
   intro h
   rw [AV.trN, AV.trN, h x (by simp), ih fun c hc => h c (by simp [hc])]
 induction h with
 | pt p g ix cells off hq =>
  rw [AV.tr_leaf rfl, AV.tr_leaf rfl]
  cases g <;> first | rfl | skip
  rename_i q ex
  simp only [takeLeaf, hQ q (hq q ex rfl)]
 | sl p g sz xs hq hp =>
  rw [AV.tr_leaf rfl, AV.tr_leaf rfl]
  cases g <;> first | rfl | skip
  ·simp only [takeLeaf, hQ p (hp rfl)]
  ·rename_i q ex
   simp only [takeLeaf, hQ q (hq q ex rfl)]
 | fn p f fi ca _ _ h1 h2 =>
  rw [AV.tr, AV.tr, lsn fi h1, lsn ca h2]
 | agg p cs _ ih =>
  rw [AV.tr, AV.tr, lst cs 0 p fun j c hc => by rw [Nat.zero_add]; exact ih j c hc]
 | tup p cs _ ih =>
  rw [AV.tr, AV.tr, lst cs 0 p fun j c hc => by rw [Nat.zero_add]; exact ih j c hc]
 | _ => rfl
theorem take_src {N : Nat} {E : Env} (R : Rel N E) {d t : Nat} (hf : (E.st.slots d).free = true) : E.st.take (appendQ d (.slot t [])) = E.st.take (srcQ t) := by
 have hq : ∀ q sz xs, E.st.abs q = .sl .own sz xs → (fun q => isSlotOf d q = false ∧ ∀ i, q ≠ .box i) q := by
  intro q sz xs h
  cases q with
  | slot t' π =>
   refine ⟨?_, fun i => by simp⟩
   simp only [isSlotOf, beq_eq_false_iff_ne, ne_eq]
   rintro rfl
   exact absurd h (free_noOwn π hf)
  | cell => exact ⟨rfl, fun i => by simp⟩
  | box i => cases h
  | no => cases h
 have hQ : ∀ q, (isSlotOf d q = false ∧ ∀ i, q ≠ .box i) → (appendQ d (.slot t []) q).isSome = (srcQ t q).isSome := by
  rintro q ⟨h1, h2⟩
  cases q with
  | box i => exact absurd rfl (h2 i)
  | slot t' π =>
   simp only [appendQ, srcQ, h1]
   split <;> rfl
  | cell => rfl
  | no => rfl
 refine St.ext' (fun x => ?_) (fun id => ?_)
 ·exact (R.leansSlot (SP := fun q => isSlotOf d q = false ∧ ∀ i, q ≠ .box i) hq ⟨rfl, fun i => by simp⟩ x).take_congr hQ
 ·show (E.st.boxes id).map (AV.trC (takeLeaf (appendQ d (.slot t []))) id 0) = (E.st.boxes id).map (AV.trC (takeLeaf (srcQ t)) id 0)
  cases hb : E.st.boxes id with
  | none => rfl
  | some cs =>
   show some _ = some _
   congr 1
   have key : ∀ (l : List AV) (k : Nat), (∀ (j : Nat) (c : AV), l[j]? = some c → c.tr (takeLeaf (appendQ d (.slot t []))) (.cell id (k + j)) = c.tr (takeLeaf (srcQ t)) (.cell id (k + j))) → AV.trC (takeLeaf (appendQ d (.slot t []))) id k l = AV.trC (takeLeaf (srcQ t)) id k l := by
    intro l
    induction l with
    | nil => intros; rfl
    | cons x l ih =>
     intro k h
     rw [AV.trC, AV.trC, show AV.tr (takeLeaf (appendQ d (.slot t []))) (.cell id k) x = AV.tr (takeLeaf (srcQ t)) (.cell id k) x from h 0 x rfl, ih (k + 1) fun j c hc => by rw [show k + 1 + j = k + (j + 1) by omega]; exact h (j + 1) c (by simpa using hc)]
   exact key cs 0 fun j c hc => by
    rw [Nat.zero_add]
    exact (R.leansCell (SP := fun q => isSlotOf d q = false ∧ ∀ i, q ≠ .box i) hq ⟨rfl, fun i => by simp⟩ hb hc).take_congr hQ
theorem app_head {E : Env} (I : Inv C.N S E) {a : Act} (ha : a.tmps = E.tm) (hd : a.defers = []) {i d t sz0 : Nat} {o : Oper} (ho : ops[i]? = some o) (hdst : o.dst = some d) (hs : srcOf L o = some t) (hok : (qappO C o E.st).ok) (hN : d < C.N) (hx : E.st.slots t = .sl .own sz0 []) (hfr : (E.st.slots d).free = true) (htk : E.st.take (srcQ t) = E.st.put t .any)
  {next : Act → World → Prop} (hnext : ∀ E' a', Inv C.N S E' → a'.tmps = E'.tm → a'.defers = [] → E'.st = (E.st.put t .any).put d (qappO C o E.st).v → next a' E'.w) : wpOp C.P ops R i next a E.w := by
 unfold srcOf at hs
 split at hs
 ·rename_i args ts hop hg
  split at hs
  ·rename_i t' x hargs
   split at hs
   ·cases hs
    unfold wpOp
    simp only [ho]
    have hw : Region.wanted o (yielded ops a.tmps) = true := by simp [Region.wanted, hg]
    rw [if_pos hw]
    have hq : qappO C o E.st = qapp C (rdArgs C E.st args.toList ts.toList) ts.toList := by unfold qappO; rw [hop]
    rw [hq] at hok hnext
    have hhead : ∀ u l, rdArgs C E.st args.toList ts.toList = u :: l → u = .sl (.vw (.slot t []) true) sz0 [] := fun u l he => by
     rw [hargs] at he
     have hr : ∀ n, E.st.rd n (.tmp t) = .sl (.vw (.slot t []) true) sz0 [] := fun n => by
      show (E.st.slots t).view (.slot t []) = _
      rw [hx]
      unfold AV.view
      rw [AV.tr_leaf rfl]
      rfl
     cases hts : ts.toList with
     | nil => rw [hts, rdArgs, hr] at he; exact (List.cons.inj he).1.symm
     | cons b l' => rw [hts, rdArgs, hr] at he; exact (List.cons.inj he).1.symm
    generalize hrd : rdArgs C E.st args.toList ts.toList = l1 at hok hnext hhead
    generalize hts : ts.toList = l2 at hok hnext hrd
    unfold qapp at hok hnext
    split at hok
    ·rename_i t'' sz x' t1 t2
     have hh := hhead _ _ rfl
     have e2 : sz = sz0 := by injection hh
     subst e2
     simp only at hnext
     split at hok
     ·rename_i e e2' sz2 ys hk hk2 hap
      rw [hk, hk2, hap] at hnext
      simp only at hnext
      split at hok
      ·rename_i y hy
       rw [hy] at hnext
       simp only at hnext
       obtain ⟨hby, h2, h3, h4⟩ := hok
       subst h2
       refine .inl (wp_append (K := fun s => s = (E.st.put t .any).put d (.sl .own y.size ys)) I ha (fun E' a' I' ha' hd' hK => hnext E' a' I' ha' (hd'.trans hd) hK) hdst hop ?_)
       rw [hts, hrd, hh]
       show aappend C E.st d t1 t2 (.sl (.vw (.slot t []) true) sz []) x' _
       unfold aappend
       rw [hk, hk2, hap]
       simp only
       rw [hy]
       exact ⟨hN, hby, rfl, h3, by simpa using h4, by rw [take_src I.rel hfr, htk, List.nil_append]⟩
      ·exact hok.elim
     ·exact hok.elim
    ·exact hok.elim
   ·cases hs
  ·cases hs
 ·cases hs
theorem srcOf_looks {L : List Nat} {ops : Array Oper} {o : Oper} {t : Nat} (h : srcOf L o = some t) : t ∈ o.looksAt ops := by
 unfold srcOf at h
 split at h
 ·rename_i args ts hop hg
  split at h
  ·rename_i t' x hargs
   split at h
   ·cases h
    refine List.mem_append_left _ (List.mem_filterMap.2 ⟨.tmp t, ?_, rfl⟩)
    rw [hop]
    have : Operand.tmp t ∈ args.toList := by rw [hargs]; simp
    simp [Op.operands, Call.operands]
    simpa using this
   ·cases h
  ·cases h
 ·cases h
theorem srcOf_mem {L : List Nat} {o : Oper} {t : Nat} (h : srcOf L o = some t) : t ∈ L := by
 unfold srcOf at h
 split at h
 ·split at h
  ·rename_i t' x hargs
   split at h
   ·rename_i hany
    cases h
    simpa using hany
   ·cases h
  ·cases h
 ·cases h
theorem isLit_src {L : List Nat} {o : Oper} {t : Nat} (h : isLit o = some t) : srcOf L o = none := by
 unfold isLit at h
 split at h
 ·rename_i hop hg
  unfold srcOf
  rw [hop]
 ·cases h
theorem isLit_al {C : Cx} {o : Oper} {t : Nat} (h : isLit o = some t) : isAl C o = none := by
 unfold isLit at h
 split at h
 ·rename_i hop hg
  unfold isAl
  rw [hop]
 ·cases h
theorem isAl_src {C : Cx} {L : List Nat} {o : Oper} {z : List AV} (h : isAl C o = some z) : srcOf L o = none := by
 unfold isAl at h
 split at h
 ·rename_i hop hg
  unfold srcOf
  rw [hop]
 ·cases h
theorem qappO_congr {C : Cx} {ops : Array Oper} {o : Oper} {s s' : St} (h : ∀ t ∈ o.looksAt ops, s.slots t = s'.slots t) : qappO C o s = qappO C o s' := by
 unfold qappO
 split
 ·rename_i args ts hop
  rw [rdArgs_congr args.toList ts.toList fun x hx t ht => h t (List.mem_append_left _ (List.mem_filterMap.2 ⟨x, by rw [hop]; simp [Op.operands, Call.operands]; simpa using hx, by rw [ht]⟩))]
 ·rfl
theorem draw_putsA (D : DrawA ops m) (hbase : S.k ≤ C.base) {rs : Nat → AV} {st : St} {K : St → Prop} (hR : ∀ E a, Inv C.N S E → a.tmps = E.tm → a.defers = [] → K E.st → R .normal a E.w)
  (hcan : ∀ j, j < m → ∃ o d, ops[j]? = some o ∧ o.dst = some d ∧ okA C ops L (rs j) o d (canonA C ops L rs st j)) {fin finU : St} (hfinA : IsA C L ops rs st m (fun _ => True) fin) (hU : AllA C L ops rs st m finU) (hso : srcOk L ops m = true) (hL : ∀ t ∈ L, ∃ j oj tj, j < m ∧ ops[j]? = some oj ∧ oj.dst = some t ∧ isLit oj = some tj)
  (hk1 : ∀ j o d z, j < m → ops[j]? = some o → o.dst = some d → isAl C o = some z → keep C d z st) (hk2 : ∀ j o d z, j < m → ops[j]? = some o → o.dst = some d → isAl C o = some z → keepF C d z finU)
  (ht1 : ∀ j o t, j < m → ops[j]? = some o → srcOf L o = some t → keepT t st) (ht2 : ∀ j o t, j < m → ops[j]? = some o → srcOf L o = some t → keepT t finU) (hfin : aops C ops (ops.toList.drop m) fin K) :
  ∀ (fuel : Nat) (listed : Array Bool) (E : Env) (a : Act), (List.range m).countP (fun j => !listed.getD j true) + (ops.size - m) ≤ fuel → listed.size = ops.size → (∀ j, m ≤ j → j < ops.size → listed.getD j true = false) → ClosedL ops listed →
   IsA C L ops rs st m (fun j => listed.getD j true = true) E.st → Inv C.N S E → a.tmps = E.tm → a.defers = [] → wpAny C.P .any ops R fuel listed a E.w := by
 have hdst : ∀ k, k < m → ∃ o d, ops[k]? = some o ∧ o.dst = some d := fun k hk => by
  obtain ⟨o, d, h1, h2, _⟩ := hcan k hk; exact ⟨o, d, h1, h2⟩
 have hne : ∀ j k d, j < m → k < m → j ≠ k → dstOf ops k = some d → dstOf ops j ≠ some d := by
  intro j k d hj hk hjk hd he
  obtain ⟨oj, dj, h1, h2⟩ := hdst j hj
  obtain ⟨ok, dk, h3, h4⟩ := hdst k hk
  refine D.dst k j ok oj hk hj hjk h3 h1 ?_
  simp only [dstOf, h1, h3, Option.bind_some] at hd he
  rw [hd, he]
 have hcs := fun k hk => canonA_slots (C := C) (L := L) (ops := ops) (rs := rs) (st := st) hdst hne k hk
 have hle := D.le
 have hold : ∀ {Dn : Nat → Prop} {s : St}, IsA C L ops rs st m Dn s → ∀ id cs, st.boxes id = some cs → s.boxes id = some cs := fun {Dn s} h id cs hc => by
  rw [h.oldb id fun j o d z hj _ ho hd hz e => ?_, hc]
  obtain ⟨o', d', ho', hd', hok⟩ := hcan j hj
  rw [ho] at ho'; cases ho'
  rw [hd] at hd'; cases hd'
  unfold okA at hok
  rw [hz] at hok
  rw [(hcs j (by omega)).1, ← e, hc] at hok
  cases hok.2
 intro fuel
 induction fuel with
 | zero =>
  intro listed E a hf hs htail hcl hT I ha hd
  have hall : ∀ j, j < m → listed.getD j true = true := fun j hj => by
   have h0 : (List.range m).countP (fun j => !listed.getD j true) = 0 := by omega
   rw [List.countP_eq_zero] at h0
   simpa using h0 j (List.mem_range.2 hj)
  have hst : E.st = fin := isA_unique (isA_congr hT (D' := fun _ => True) fun j hj => ⟨fun _ => trivial, fun _ => hall j hj⟩) hfinA
  refine draw_tailA D hbase hR 0 m listed E a hle (by omega) (Nat.le_refl m) hs (fun j hj => ?_) I ha hd (by rw [hst]; exact hfin)
  by_cases hjm : j < m
  ·rw [hall j hjm]; simp [hjm]
  ·rw [htail j (by omega) hj]; simp [hjm]
 | succ fuel ih =>
  intro listed E a hf hs htail hcl hT I ha hd
  by_cases hall : ∀ j, j < m → listed.getD j true = true
  ·have hst : E.st = fin := isA_unique (isA_congr hT (D' := fun _ => True) fun j hj => ⟨fun _ => trivial, fun _ => hall j hj⟩) hfinA
   refine draw_tailA D hbase hR (fuel + 1) m listed E a hle (by omega) (Nat.le_refl m) hs (fun j hj => ?_) I ha hd (by rw [hst]; exact hfin)
   by_cases hjm : j < m
   ·rw [hall j hjm]; simp [hjm]
   ·rw [htail j (by omega) hj]; simp [hjm]
  ·have hgf : ∀ j, j < ops.size → listed.getD j false = listed.getD j true := fun j hj => by
    have hjs : j < listed.size := by omega
    rw [Array.getD_eq_getD_getElem?, Array.getD_eq_getD_getElem?, Array.getElem?_eq_getElem hjs]; rfl
   have hex : ∃ j, j < m ∧ listed.getD j true = false := by
    refine Classical.byContradiction fun hn => hall fun j hj => ?_
    cases hb : listed.getD j true with
    | true => rfl
    | false => exact absurd ⟨j, hj, hb⟩ hn
   refine ⟨fun h0 => ?_, fun i hi => ?_⟩
   ·exfalso
    have least : ∃ j, (j < m ∧ listed.getD j true = false) ∧ ∀ i, i < j → listed.getD i true = true := by
     obtain ⟨j, hj⟩ := hex
     induction j using Nat.strongRecOn with
     | _ j ihj =>
      by_cases hall2 : ∀ i, i < j → listed.getD i true = true
      ·exact ⟨j, hj, hall2⟩
      ·have : ∃ i, i < j ∧ listed.getD i true = false := by
        refine Classical.byContradiction fun hn => hall2 fun i hi => ?_
        cases hb : listed.getD i true with
        | true => rfl
        | false => exact absurd ⟨i, hi, hb⟩ hn
       obtain ⟨i, hi, hb⟩ := this
       exact ihj i hi ⟨by omega, hb⟩
    obtain ⟨j, ⟨hj1, hj2⟩, hj3⟩ := least
    obtain ⟨o, d, ho, _⟩ := hdst j hj1
    have hr : j ∈ Region.ready .any ops listed := by
     refine mem_ready.2 ⟨hj2, o, ho, fun e he hb => ?_⟩
     have h1 := D.back j o ho e he hb
     rw [hgf e.on (by omega)]; exact hj3 _ h1
    rw [h0] at hr; simp at hr
   ·obtain ⟨h1, o, ho, h2⟩ := mem_ready.1 hi
    have hil := (Array.getElem?_eq_some_iff.1 ho).1
    have him : i < m := by
     refine Classical.byContradiction fun hn => ?_
     obtain ⟨j, hj1, hj2⟩ := hex
     have := ready_reach hcl hi (D.tail i o (by omega) ho j (by omega))
     rw [hgf j (by omega), hj2] at this; cases this
    obtain ⟨o', d, ho', hod, hok⟩ := hcan i him
    rw [ho] at ho'; cases ho'
    have hdi : dstOf ops i = some d := by simp [dstOf, ho, hod]
    obtain ⟨hc1, hc2, hc3⟩ := hcs i (by omega)
    have hgl : ∀ t ∈ o.looksAt ops, ¬ Gone L ops m (fun j => listed.getD j true = true) t := fun t ht ⟨c, oc, hcm, hcD, hoc, hcs⟩ => by
     have hci : c ≠ i := fun e => by
      subst e
      have h6 : listed.getD c true = true := hcD
      rw [h1] at h6; cases h6
     exact srcOk_spec hso hcm him (Ne.symm hci) hoc ho hcs ht
    have hslot : ∀ t ∈ o.looksAt ops, (canonA C ops L rs st i).slots t = E.st.slots t := by
     intro t ht
     by_cases hj : ∃ j, j < m ∧ dstOf ops j = some t
     ·obtain ⟨j, hj, hjt⟩ := hj
      obtain ⟨oj, hoj, hdj⟩ := Option.bind_eq_some_iff.1 hjt
      obtain ⟨hji, hr⟩ := D.look i j o oj t him hj ho hoj ht hdj
      have hlj := ready_reach hcl hi hr
      rw [hgf j (by omega)] at hlj
      rw [hT.put j t hj hlj hjt (hgl t ht), hc2 j t hji hjt]
     ·have hn : ∀ j, j < m → dstOf ops j ≠ some t := fun j hj' he => hj ⟨j, hj', he⟩
      rw [hT.old t (fun j hj _ => hn j hj) (hgl t ht), hc3 t fun j hj => hn j (by omega)]
    have hgd : ∀ c o', c < m → ops[c]? = some o' → srcOf L o' = some d → ¬ (listed.getD c true = true ∨ c = i) := fun c o' hcm hoc hcs hh => by
     obtain ⟨hic, hr⟩ := D.look c i o' o d hcm him hoc ho (srcOf_looks hcs) hod
     rcases hh with hh | rfl
     ·have h5 := hcl c i (by rw [hgf c (by omega)]; exact hh) hr
      rw [hgf i (by omega), h1] at h5; cases h5
     ·omega
    have hd1 : ∀ j, j < m → j ≠ i → dstOf ops j ≠ some d := fun j hj hji => hne j i d hj him hji hdi
    have hset : ∀ j, j ≠ i → (listed.setIfInBounds i true).getD j true = listed.getD j true := fun j hj => getD_set_ne true (Ne.symm hj)
    have hseti : (listed.setIfInBounds i true).getD i true = true := by
     rw [Array.getD_eq_getD_getElem?, Array.getElem?_setIfInBounds_self_of_lt (by omega)]; rfl
    have hfuel : (List.range m).countP (fun j => !(listed.setIfInBounds i true).getD j true) + (ops.size - m) ≤ fuel := by
     have := countP_lt (p := fun j => !listed.getD j true) (p' := fun j => !(listed.setIfInBounds i true).getD j true) (List.range m) (fun j _ h => by
      by_cases hji : j = i
      ·subst hji; rw [hseti] at h; cases h
      ·rw [hset j hji] at h; exact h) ⟨i, List.mem_range.2 him, by rw [h1]; rfl, by rw [hseti]; rfl⟩
     omega
    have hcl' : ClosedL ops (listed.setIfInBounds i true) := closed_add hcl hi (by omega)
    have hD' : ∀ {s : St}, IsA C L ops rs st m (fun j => listed.getD j true = true ∨ j = i) s → IsA C L ops rs st m (fun j => (listed.setIfInBounds i true).getD j true = true) s := fun h => isA_congr h fun j hj => by
     by_cases hji : j = i
     ·subst hji; simp [hseti]
     ·rw [hset j hji]; simp [hji]
    have hngd : ¬ Gone L ops m (fun j => listed.getD j true = true) d := fun ⟨c, oc, g1, g2, g3, g4⟩ => hgd c oc g1 g3 g4 (.inl g2)
    have hdE : E.st.slots d = (canonA C ops L rs st i).slots d := by
     rw [hT.old d (fun j hj hl => hd1 j hj fun e => by subst e; rw [h1] at hl; cases hl) hngd, hc3 d (fun j hj => hd1 j (by omega) (by omega))]
    have hnd : ∀ j, j < m → listed.getD j true = true → dstOf ops j ≠ some d := fun j hj hl => hd1 j hj fun e => by subst e; rw [h1] at hl; cases hl
    unfold okA at hok
    cases hal : isAl C o with
    | some z =>
     rw [hal] at hok
     refine al_head I hbase ha hd ho hod hal hok.1 (keep_mix hT hU hnd (hk1 i o d z him ho hod hal) (hk2 i o d z him ho hod hal)) fun E' a' I' ha' hd' hst' => ?_
     refine ih _ E' a' hfuel (by simpa using hs) (fun j hj hjl => by rw [hset j (by omega)]; exact htail j hj hjl) hcl' (hD' ?_) I' ha' hd'
     rw [hst']
     exact isA_box hT him ho hod hal (isAl_src hal) (fun j hj hji => hd1 j hj hji) hgd
    | none =>
     rw [hal] at hok
     simp only at hok
     cases hlit : isLit o with
     | some tl =>
      rw [hlit] at hok
      have hput : putA C ops L rs st i = .sl .own (szOf C.T tl) [] := by simp [putA, ho, hod, vA, hal, hlit]
      refine lit_head I ha hd ho hod hlit hok.1 hok.2.1 (by rw [hdE]; exact hok.2.2) fun E' a' I' ha' hd' hst' => ?_
      refine ih _ E' a' hfuel (by simpa using hs) (fun j hj hjl => by rw [hset j (by omega)]; exact htail j hj hjl) hcl' (hD' ?_) I' ha' hd'
      rw [hst', ← hput]
      exact isA_put hT him ho hod hal (fun j hj hji => hd1 j hj hji) hgd (.inl ⟨rfl, isLit_src hlit⟩)
     | none =>
      rw [hlit] at hok
      simp only at hok
      cases hsr : srcOf L o with
      | some t =>
       rw [hsr] at hok
       have hlook := srcOf_looks (ops := ops) hsr
       obtain ⟨j, oj, tj, hj, hoj, hdj, hlj⟩ := hL t (srcOf_mem hsr)
       have hjt : dstOf ops j = some t := by simp [dstOf, hoj, hdj]
       have hji := (D.look i j o oj t him hj ho hoj hlook hdj).1
       have hpj : putA C ops L rs st j = .sl .own (szOf C.T tj) [] := by simp [putA, hoj, hdj, vA, isLit_al hlj, hlj]
       have hx : E.st.slots t = .sl .own (szOf C.T tj) [] := by rw [← hslot t hlook, hc2 j t hji hjt, hpj]
       have hqe : qappO C o E.st = qappO C o (canonA C ops L rs st i) := (qappO_congr fun t' ht' => hslot t' ht').symm
       have hput : putA C ops L rs st i = (qappO C o (canonA C ops L rs st i)).v := by simp [putA, ho, hod, vA, hal, hlit, hsr]
       refine app_head I ha hd ho hod hsr (by rw [hqe]; exact hok.1) hok.2.1 hx (by rw [hdE]; exact hok.2.2) (take_mix hT hU hx (ht1 i o t him ho hsr) (ht2 i o t him ho hsr)) fun E' a' I' ha' hd' hst' => ?_
       refine ih _ E' a' hfuel (by simpa using hs) (fun j hj hjl => by rw [hset j (by omega)]; exact htail j hj hjl) hcl' (hD' ?_) I' ha' hd'
       rw [hst', hqe, ← hput]
       exact isA_put hT him ho hod hal (fun j hj hji => hd1 j hj hji) hgd (.inr ⟨t, hsr, rfl⟩)
      | none =>
       rw [hsr] at hok
       obtain ⟨hok, hdN, hfree⟩ := hok
       have hpeq : popg C ops (rs i) o E.st = popg C ops (rs i) o (canonA C ops L rs st i) := popg_mono hslot (fun id cs hc => by rw [hc1] at hc; exact hold hT id cs hc) hok
       have hput : putA C ops L rs st i = (popg C ops (rs i) o (canonA C ops L rs st i)).v := by simp [putA, ho, hod, vA, hal, hlit, hsr]
       refine pop_head I hbase ha hd ho hod (by rw [hpeq]; exact hok) hdN (by rw [hdE]; exact hfree) fun E' a' I' ha' hd' hst' => ?_
       refine ih _ E' a' hfuel (by simpa using hs) (fun j hj hjl => by rw [hset j (by omega)]; exact htail j hj hjl) hcl' (hD' ?_) I' ha' hd'
       rw [hst', hpeq, ← hput]
       exact isA_put hT him ho hod hal (fun j hj hji => hd1 j hj hji) hgd (.inl ⟨rfl, hsr⟩)
end
end Go.AM
namespace Go.AM
theorem aputsA_get {C : Cx} {ops : Array Oper} {L : List Nat} {rs : Nat → AV} {st : St} {m : Nat} {K : St → Prop} (hm : m ≤ ops.size) : ∀ (l : List Oper) (k : Nat), k ≤ m → l = (ops.toList.take m).drop k → aputsA C ops L rs k l (canonA C ops L rs st k) K →
  (∀ j, k ≤ j → j < m → ∃ o d, ops[j]? = some o ∧ o.dst = some d ∧ okA C ops L (rs j) o d (canonA C ops L rs st j)) ∧ K (canonA C ops L rs st m)
 | [], k, hk, hl, h => by
  have : m ≤ k := by
   have := congrArg List.length hl
   simp at this; omega
  have hkm : k = m := by omega
  subst hkm
  exact ⟨fun j h1 h2 => absurd h1 (by omega), h⟩
 | o :: rest, k, hk, hl, h => by
  have hlt : k < m := by
   have := congrArg List.length hl
   simp at this; omega
  have ho : ops[k]? = some o := by
   have := congrArg (·[0]?) hl
   simp only [List.getElem?_cons_zero, List.getElem?_drop, Nat.add_zero, List.getElem?_take, hlt, if_true] at this
   rw [← Array.getElem?_toList]; exact this.symm
  have hrest : rest = (ops.toList.take m).drop (k + 1) := by
   have := congrArg List.tail hl
   simpa [List.tail_drop] using this
  rw [aputsA] at h
  split at h
  ·rename_i d hd
   obtain ⟨h1, h4⟩ := h
   have e : canonA C ops L rs st (k + 1) = (canonA C ops L rs st k).put d (vA C ops L (rs k) o d (canonA C ops L rs st k)) := by simp [canonA, ho, hd]
   rw [← e] at h4
   obtain ⟨g1, g2⟩ := aputsA_get hm rest (k + 1) (by omega) hrest h4
   refine ⟨fun j hj1 hj2 => ?_, g2⟩
   by_cases hjk : j = k
   ·subst hjk; exact ⟨o, d, ho, hd, h1⟩
   ·exact g1 j (by omega) hj2
  ·exact h.elim
def sideA (C : Cx) (L : List Nat) (l : List Oper) (st fin : St) : Prop := keeps C l st ∧ keepsF C l fin ∧ tks L l st ∧ tks L l fin
theorem getD_listed (n j : Nat) (d : Bool) (h : j < n) : (Array.replicate n false).getD j d = false := by simp [h]
section
variable {C : Cx} {Q : Exit → St → Prop} {st : St}
theorem AWp.drawA (m : Nat) (rs : Nat → AV) {id : Nat} {ops : Array Oper} (hmix : C.P.follows .mixedOrders = true) (hok : (drawOkA ops m && srcOk (litsOf (ops.toList.take m)) ops m) = true)
  (h : aputsA C ops (litsOf (ops.toList.take m)) rs 0 (ops.toList.take m) st fun s => sideA C (litsOf (ops.toList.take m)) (ops.toList.take m) st (s.addB (newsA C (ops.toList.take m))) ∧ aops C ops (ops.toList.drop m) ((s.addB (newsA C (ops.toList.take m))).noSlots (srcs (litsOf (ops.toList.take m)) (ops.toList.take m))) (Q .normal)) : AWp C (.region id ops true) st Q := by
 generalize hLe : litsOf (ops.toList.take m) = L at h hok
 intro S E a hb I ha hd he
 rw [Bool.and_eq_true] at hok
 have D := drawOkA_spec hok.1
 obtain ⟨hcan, ⟨hk1, hk2, ht1, ht2⟩, hfin⟩ := aputsA_get D.le _ 0 (by omega) (by simp) h
 have hle := D.le
 have hdst : ∀ k, k < m → ∃ o d, ops[k]? = some o ∧ o.dst = some d := fun k hk => by
  obtain ⟨o, d, h1, h2, _⟩ := hcan k (by omega) hk; exact ⟨o, d, h1, h2⟩
 have hne : ∀ j k d, j < m → k < m → j ≠ k → dstOf ops k = some d → dstOf ops j ≠ some d := by
  intro j k d hj hk hjk hd he
  obtain ⟨oj, dj, h1, h2⟩ := hdst j hj
  obtain ⟨ok, dk, h3, h4⟩ := hdst k hk
  refine D.dst k j ok oj hk hj hjk h3 h1 ?_
  simp only [dstOf, h1, h3, Option.bind_some] at hd he
  rw [hd, he]
 obtain ⟨c1, c2, c3⟩ := canonA_slots (C := C) (L := L) (rs := rs) (st := st) hdst hne m (Nat.le_refl m)
 have hmem : ∀ j o, j < m → ops[j]? = some o → o ∈ ops.toList.take m := fun j o hj ho => by
  rw [List.mem_take_iff_getElem]
  have hjl : j < ops.size := by omega
  rw [Array.getElem?_eq_getElem hjl] at ho
  exact ⟨j, by simp; omega, by simpa using ho⟩
 have hat : ∀ o, o ∈ ops.toList.take m → ∃ j, j < m ∧ ops[j]? = some o := fun o ho => by
  rw [List.mem_take_iff_getElem] at ho
  obtain ⟨j, hj, rfl⟩ := ho
  exact ⟨j, by omega, by rw [← Array.getElem?_toList, List.getElem?_eq_getElem]⟩
 have hL : ∀ t ∈ L, ∃ j oj tj, j < m ∧ ops[j]? = some oj ∧ oj.dst = some t ∧ isLit oj = some tj := fun t ht => by
  rw [← hLe] at ht
  obtain ⟨o, h1, h2, h3⟩ := mem_litsOf ht
  obtain ⟨j, hj, hoj⟩ := hat o h1
  obtain ⟨tj, htj⟩ := Option.isSome_iff_exists.1 h3
  exact ⟨j, o, tj, hj, hoj, h2, htj⟩
 have hU : AllA C L ops rs st m ((canonA C ops L rs st m).addB (newsA C (ops.toList.take m))) := by
  refine ⟨fun j t hj hjt => c2 j t hj hjt, fun j o d z hj ho hd hz => ?_⟩
  have h1 := newsA_mem (C := C) (hmem j o hj ho) hd hz
  obtain ⟨cs, hcs⟩ := Option.isSome_iff_exists.1 h1
  obtain ⟨o', ho', d', z', hd', hz', he', rfl⟩ := newsA_get hcs
  have hdd : d' = d := (Nat.add_left_cancel he').symm
  subst hdd
  obtain ⟨j', hj', ho''⟩ := hat o' ho'
  have hjj : j' = j := Classical.byContradiction fun hn => hne j' j d' hj' hj hn (by simp [dstOf, ho, hd]) (by simp [dstOf, ho'', hd'])
  subst hjj
  rw [ho] at ho''; cases ho''
  rw [hz] at hz'; cases hz'
  show (match (newsA C (ops.toList.take m)).lookup (C.base + d') with | some cs => some cs | none => _) = _
  rw [hcs]
 have hg : ∀ t, Gone L ops m (fun _ => True) t ↔ (srcs L (ops.toList.take m)).contains t = true := fun t => by
  rw [List.contains_iff_mem, mem_srcs]
  constructor
  ·rintro ⟨c, o, h1, _, h2, h3⟩; exact ⟨o, hmem c o h1 h2, h3⟩
  ·rintro ⟨o, h1, h2⟩
   obtain ⟨j, hj, hoj⟩ := hat o h1
   exact ⟨j, o, hj, trivial, hoj, h2⟩
 have hfinA : IsA C L ops rs st m (fun _ => True) (((canonA C ops L rs st m).addB (newsA C (ops.toList.take m))).noSlots (srcs L (ops.toList.take m))) := by
  refine ⟨fun j t hj _ hjt hgn => ?_, fun t hgn => ?_, fun t ht hgn => ?_, fun j o d z hj _ ho hd hz => hU.newb j o d z hj ho hd hz, fun id hi => ?_⟩
  ·show (if _ then _ else _) = _
   rw [if_neg fun h => hgn ((hg t).2 h)]
   exact c2 j t hj hjt
  ·show (if _ then _ else _) = _
   rw [if_pos ((hg t).1 hgn)]
  ·show (if _ then _ else _) = _
   rw [if_neg fun h => hgn ((hg t).2 h)]
   exact c3 t fun j hj => ht j hj trivial
  ·have hn : (newsA C (ops.toList.take m)).lookup id = none := by
    cases hc : (newsA C (ops.toList.take m)).lookup id with
    | none => rfl
    | some cs =>
     obtain ⟨o, ho, d, z, hd, hz, he, _⟩ := newsA_get hc
     obtain ⟨j, hj, hoj⟩ := hat o ho
     exact absurd he (hi j o d z hj trivial hoj hd hz)
   show (match (newsA C (ops.toList.take m)).lookup id with | some cs => some cs | none => _) = _
   rw [hn]
   simp only [c1]
 refine wp_region_any hmix ?_
 refine draw_putsA (E := { E with w := { E.w with drawn := E.w.drawn + 1 } }) (st := st) D hb (K := Q .normal) (R := APost C S Q) (fun E a I ha hd h => ⟨E, rfl, I, ha, hd, h⟩) (fun j hj => hcan j (by omega) hj) hfinA hU hok.2 hL
  (fun j o d z hj ho hd hz => keeps_get hk1 (hmem j o hj ho) hd hz) (fun j o d z hj ho hd hz => keepsF_get hk2 (hmem j o hj ho) hd hz)
  (fun j o t hj ho hz => tks_get ht1 (hmem j o hj ho) hz) (fun j o t hj ho hz => tks_get ht2 (hmem j o hj ho) hz) hfin ops.size (Array.replicate ops.size false) a ?_ (by simp) (fun j _ hj => getD_listed _ _ _ hj) ?_ ?_ (I.drawn _ (Nat.le_succ _)) ha hd
 ·have h1 : (List.range m).countP (fun j => !(Array.replicate ops.size false).getD j true) ≤ (List.range m).length := List.countP_le_length
  rw [List.length_range] at h1
  omega
 ·intro i j hi _
  rw [Array.getD_eq_getD_getElem?] at hi
  rcases Nat.lt_or_ge i ops.size with h1 | h1
  ·rw [Array.getElem?_replicate, if_pos h1] at hi; cases hi
  ·rw [Array.getElem?_replicate, if_neg (by omega)] at hi; cases hi
 ·refine ⟨fun j t hj hD _ _ => ?_, fun t hgn => ?_, fun t _ _ => by rw [← he], fun j o d z hj hD => ?_, fun id _ => by rw [← he]⟩
  ·rw [getD_listed _ _ _ (by omega)] at hD; cases hD
  ·obtain ⟨c, o, h1, h2, _⟩ := hgn
   have h2' : (Array.replicate ops.size false).getD c true = true := h2
   rw [getD_listed _ _ _ (by omega)] at h2'; cases h2'
  ·rw [getD_listed _ _ _ (by omega)] at hD; cases hD
theorem AWp.gLA (m : Nat) (rs : Nat → AV) (ks kb : List Nat) {id : Nat} {ops : Array Oper} (hmix : C.P.follows .mixedOrders = true) (hok : (drawOkA ops m && srcOk (litsOf (ops.toList.take m)) ops m) = true)
  (h : aputsA C ops (litsOf (ops.toList.take m)) rs 0 (ops.toList.take m) st fun s => sideA C (litsOf (ops.toList.take m)) (ops.toList.take m) st (s.addB (newsA C (ops.toList.take m))) ∧
   aops C ops (ops.toList.drop m) ((s.addB (newsA C (ops.toList.take m))).noSlots (srcs (litsOf (ops.toList.take m)) (ops.toList.take m))) fun s => @Kl ⟨Q⟩ (St.of (seeS ks kb s ks) (seeB ks kb s kb))) : AWp C (.region id ops true) st Q := by
 refine AWp.post (fun _ => (ks, kb)) ((AWp.drawA (Q := fun e s => thenQ (fun s => Q .normal (s.clean ks kb)) (fun _ _ => False) e s) m rs hmix hok ?_).mono ?_)
 ·simp only [← St.clean_eq] at h
  exact h
 ·intro e s hs
  cases e with
  | normal => exact hs
  | _ => exact hs.elim
theorem AWp.gA (m : Nat) (rs : Nat → AV) (ks kb : List Nat) {id : Nat} {ops : Array Oper} {y : Code} (hmix : C.P.follows .mixedOrders = true) (hok : (drawOkA ops m && srcOk (litsOf (ops.toList.take m)) ops m) = true)
  (h : aputsA C ops (litsOf (ops.toList.take m)) rs 0 (ops.toList.take m) st fun s => sideA C (litsOf (ops.toList.take m)) (ops.toList.take m) st (s.addB (newsA C (ops.toList.take m))) ∧
   aops C ops (ops.toList.drop m) ((s.addB (newsA C (ops.toList.take m))).noSlots (srcs (litsOf (ops.toList.take m)) (ops.toList.take m))) fun s => @Kn ⟨fun s => AWp C y s Q⟩ (St.of (seeS ks kb s ks) (seeB ks kb s kb))) : AWp C (.seq (.region id ops true) y) st Q := AWp.seq (AWp.gLA m rs ks kb hmix hok h)
theorem AWp.lastA (m : Nat) (rs : Nat → AV) (ks kb : List Nat) (l : List (Nat × AV)) (bx : Boxes) {id : Nat} {ops : Array Oper} (hmix : C.P.follows .mixedOrders = true) (hok : (drawOkA ops m && srcOk (litsOf (ops.toList.take m)) ops m) = true)
  (h : aputsA C ops (litsOf (ops.toList.take m)) rs 0 (ops.toList.take m) st fun s => sideA C (litsOf (ops.toList.take m)) (ops.toList.take m) st (s.addB (newsA C (ops.toList.take m))) ∧ aops C ops (ops.toList.drop m) ((s.addB (newsA C (ops.toList.take m))).noSlots (srcs (litsOf (ops.toList.take m)) (ops.toList.take m))) fun s => s.sees ks kb l bx) (h2 : Q .normal (St.of l bx)) : AWp C (.region id ops true) st Q := by
 refine AWp.postFit (AWp.post (fun _ => (ks, kb)) ((AWp.drawA (Q := fun e s => thenQ (fun s => s.sees ks kb l bx) (fun _ _ => False) e s) m rs hmix hok h).mono ?_))
 intro e s hs
 cases e with
 | normal => exact ⟨_, St.sees_fits hs, h2⟩
 | _ => exact hs.elim
theorem AWp.stepA (m : Nat) (rs : Nat → AV) (ks kb : List Nat) (l : List (Nat × AV)) (bx : Boxes) {id : Nat} {ops : Array Oper} {y : Code} (hmix : C.P.follows .mixedOrders = true) (hok : (drawOkA ops m && srcOk (litsOf (ops.toList.take m)) ops m) = true)
  (h : aputsA C ops (litsOf (ops.toList.take m)) rs 0 (ops.toList.take m) st fun s => sideA C (litsOf (ops.toList.take m)) (ops.toList.take m) st (s.addB (newsA C (ops.toList.take m))) ∧ aops C ops (ops.toList.drop m) ((s.addB (newsA C (ops.toList.take m))).noSlots (srcs (litsOf (ops.toList.take m)) (ops.toList.take m))) fun s => s.sees ks kb l bx) (h2 : AWp C y (St.of l bx) Q) : AWp C (.seq (.region id ops true) y) st Q := AWp.seq (AWp.lastA m rs ks kb l bx hmix hok h h2)
end
attribute [simp] qapp qappO isLit srcOf isAl okA vA alOk keep keepF alQ alF alZ sideA keepT srcQ
@[simp] theorem aputsA_nil {C : Cx} {ops : Array Oper} {L : List Nat} {rs : Nat → AV} {k : Nat} {st : St} {K : St → Prop} : aputsA C ops L rs k [] st K = K st := rfl
@[simp] theorem aputsA_cons {C : Cx} {ops : Array Oper} {L : List Nat} {rs : Nat → AV} {k d : Nat} {op type pos after guard} {rest : List Oper} {st : St} {K : St → Prop} : aputsA C ops L rs k (⟨some d, op, type, pos, after, guard⟩ :: rest) st K =
  (okA C ops L (rs k) ⟨some d, op, type, pos, after, guard⟩ d st ∧ aputsA C ops L rs (k + 1) rest (st.put d (vA C ops L (rs k) ⟨some d, op, type, pos, after, guard⟩ d st)) K) := rfl
@[congr] theorem aputsA_congr {C : Cx} {ops : Array Oper} {L L' : List Nat} {rs : Nat → AV} {k k' : Nat} {l l' : List Oper} {st st' : St} {K : St → Prop} (hl : L = L') (h0 : k = k') (h1 : l = l') (h2 : st = st') : aputsA C ops L rs k l st K = aputsA C ops L' rs k' l' st' K := by
 subst_vars; rfl
@[simp] theorem alTr_of {C : Cx} {d : Nat} {z : List AV} {l : List (Nat × AV)} {bx : Boxes} : alTr C d z (St.of l bx) = ((St.of l bx).settle (alQ C d z) (alF C d z)).killB (C.base + d) := rfl
@[simp] theorem tkTr_of {t : Nat} {l : List (Nat × AV)} {bx : Boxes} : tkTr t (St.of l bx) = (St.of l bx).take (srcQ t) := rfl
@[simp] theorem litsOf_nil : litsOf [] = [] := rfl
@[simp] theorem litsOf_cons {d : Nat} {op type pos after guard} {rest : List Oper} : litsOf (⟨some d, op, type, pos, after, guard⟩ :: rest) = match isLit ⟨some d, op, type, pos, after, guard⟩ with
  | some _ => d :: litsOf rest
  | none => litsOf rest := by
 rw [litsOf]
 cases isLit ⟨some d, op, type, pos, after, guard⟩ <;> rfl
@[simp] theorem newsA_nil {C : Cx} : newsA C [] = [] := rfl
@[simp] theorem newsA_cons {C : Cx} {d : Nat} {op type pos after guard} {rest : List Oper} : newsA C (⟨some d, op, type, pos, after, guard⟩ :: rest) = match isAl C ⟨some d, op, type, pos, after, guard⟩ with
  | some z => (C.base + d, alZ C d z) :: newsA C rest
  | none => newsA C rest := by
 rw [newsA]
 cases isAl C ⟨some d, op, type, pos, after, guard⟩ <;> rfl
@[simp] theorem keeps_nil {C : Cx} {s : St} : keeps C [] s = True := rfl
@[simp] theorem keeps_cons {C : Cx} {d : Nat} {op type pos after guard} {rest : List Oper} {s : St} : keeps C (⟨some d, op, type, pos, after, guard⟩ :: rest) s = match isAl C ⟨some d, op, type, pos, after, guard⟩ with
  | some z => keep C d z s ∧ keeps C rest s
  | none => keeps C rest s := by
 rw [keeps]
 cases isAl C ⟨some d, op, type, pos, after, guard⟩ <;> simp
@[simp] theorem keepsF_nil {C : Cx} {s : St} : keepsF C [] s = True := rfl
@[simp] theorem keepsF_cons {C : Cx} {d : Nat} {op type pos after guard} {rest : List Oper} {s : St} : keepsF C (⟨some d, op, type, pos, after, guard⟩ :: rest) s = match isAl C ⟨some d, op, type, pos, after, guard⟩ with
  | some z => keepF C d z s ∧ keepsF C rest s
  | none => keepsF C rest s := by
 rw [keepsF]
 cases isAl C ⟨some d, op, type, pos, after, guard⟩ <;> simp
@[simp] theorem tks_nil {L : List Nat} {s : St} : tks L [] s = True := rfl
@[simp] theorem tks_cons {L : List Nat} {o : Oper} {rest : List Oper} {s : St} : tks L (o :: rest) s = match srcOf L o with
  | some t => keepT t s ∧ tks L rest s
  | none => tks L rest s := by
 rw [tks]
 cases srcOf L o <;> simp
@[simp] theorem srcs_nil {L : List Nat} : srcs L [] = [] := rfl
@[simp] theorem srcs_cons {L : List Nat} {o : Oper} {rest : List Oper} : srcs L (o :: rest) = match srcOf L o with
  | some t => t :: srcs L rest
  | none => srcs L rest := rfl
@[simp] theorem St.of_noSlot {l : List (Nat × AV)} {bx : Boxes} {d : Nat} : (St.of l bx).noSlot d = St.of (l.filter fun e => !(e.1 == d)) bx := by
 refine St.ext' (fun t => ?_) (fun id => rfl)
 show (if t = d then AV.any else (l.lookup t).getD .any) = ((l.filter fun e => !(e.1 == d)).lookup t).getD .any
 rw [lookup_filter fun k => !(k == d)]
 by_cases htd : t = d
 ·subst htd; simp
 ·simp [htd]
@[simp] theorem St.of_noSlots {l : List (Nat × AV)} {bx : Boxes} {ts : List Nat} : (St.of l bx).noSlots ts = St.of (l.filter fun e => !ts.contains e.1) bx := by
 refine St.ext' (fun t => ?_) (fun id => rfl)
 show (if ts.contains t then AV.any else (l.lookup t).getD .any) = ((l.filter fun e => !ts.contains e.1).lookup t).getD .any
 rw [lookup_filter fun k => !ts.contains k]
 cases ts.contains t <;> simp
attribute [simp] St.of_addB
end Go.AM
