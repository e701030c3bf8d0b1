/- A row of one's own, held as a box for a time. No project text. -/
import Derived.Test.YtjpedhcgokiojaaGreatAmD
import Derived.Shelf.Small.Strs
set_option linter.unusedSimpArgs false
set_option linter.unusedVariables false
namespace Go.AM
def rowQ (t id : Nat) (p : Place) : Option Place := if p = .slot t [] then some (.box id) else none
def St.unown (st : St) (t id sz : Nat) (xs : List (List AV)) (cap : Nat) : St :=
 (((st.take (rowQ t id)).killB id).put t (.bs id 0 xs.length cap)).setBox id (some (xs.flatten ++ List.replicate ((cap - xs.length) * sz) .any))
theorem abs_killB (st : St) (id : Nat) (q : Place) (sz : Nat) (xs : List (List AV)) : st.abs q = .sl .own sz xs ↔ (st.killB id).abs q = .sl .own sz xs := by
 have aux : ∀ (p : Place) (x : AV) sz xs, x = .sl .own sz xs ↔ x.tr (killBLeaf id) p = .sl .own sz xs := by
  intro p x sz xs
  cases x with
  | agg cs => simp [AV.tr]
  | tup cs => simp [AV.tr]
  | fn f fi ca => simp [AV.tr]
  | ptr i off => simp only [AV.tr, killBLeaf]; split <;> simp
  | bs i off n cap => simp only [AV.tr, killBLeaf]; split <;> simp
  | _ => simp [AV.tr, killBLeaf]
 unfold St.killB
 rw [St.abs_tr (fun _ => rfl) (killBLeaf_leaf id)]
 cases q with
 | slot t π => exact aux _ _ _ _
 | cell i off => exact aux _ _ _ _
 | _ => simp [St.abs]
theorem abs_take (st : St) (Q : Place → Option Place) (q : Place) (sz : Nat) (xs : List (List AV)) (h : (st.take Q).abs q = .sl .own sz xs) : st.abs q = .sl .own sz xs ∧ Q q = none := by
 have aux : ∀ (p : Place) (x : AV), x.tr (takeLeaf Q) p = .sl .own sz xs → x = .sl .own sz xs ∧ Q p = none := by
  intro p x h
  cases x with
  | agg cs => simp [AV.tr] at h
  | tup cs => simp [AV.tr] at h
  | fn f fi ca => simp [AV.tr] at h
  | sl g s ys =>
   rw [AV.tr_leaf rfl] at h
   cases g with
   | own =>
    simp only [takeLeaf] at h
    split at h
    ·cases h
    ·rename_i hq
     exact ⟨h, by simpa using hq⟩
   | vw q ex =>
    simp only [takeLeaf] at h
    split at h <;> cases h
   | _ => simp [takeLeaf] at h
  | pt g ix cells off =>
   rw [AV.tr_leaf rfl] at h
   cases g with
   | vw q ex =>
    simp only [takeLeaf] at h
    split at h <;> cases h
   | _ => simp [takeLeaf] at h
  | _ => simp [AV.tr, takeLeaf] at h
 unfold St.take at h
 rw [St.abs_tr (fun _ => rfl) (takeLeaf_leaf Q)] at h
 cases q with
 | slot t π => exact aux _ _ h
 | cell i off => exact aux _ _ h
 | _ => simp [St.abs] at h
theorem Rel.unown {N : Nat} {E : Env} (R : Rel N E) {t id bk sz cap : Nat} {xs : List (List AV)} {arr : Array Value} {T : TypeId} (htN : t < N) (ht : E.st.slots t = .sl .own sz xs) (hω : E.ω bk = some (.slot t [])) (hg : E.w.heap[bk]? = some (.cells arr T (0, 0)))
  (ha : arr.size = cap * sz) (hc : xs.length ≤ cap) (hrow : Row E.Pub E.w bk 0 sz xs) (hown0 : ∀ j sz xs, E.st.abs (.cell id j) ≠ .sl .own sz xs) (htm : E.tm.getD t undef = .slice (some ⟨bk, 0, none⟩) xs.length cap) (hid2 : parkM ≤ id → bk + parkM = id) :
  Rel N ⟨E.w, (fun i => if i = id then bk else E.β i), (E.take (rowQ t id)).ω, E.Pub, E.st.unown t id sz xs cap, E.tm⟩ := by
 let E1 := E.take (rowQ t id)
 let E' : Env := ⟨E.w, (fun i => if i = id then bk else E.β i), (E.take (rowQ t id)).ω, E.Pub, E.st.unown t id sz xs cap, E.tm⟩
 have R1 : Rel N E1 := R.take (rowQ t id) fun _ => by simp [rowQ]
 have R2 := R1.killB id
 have hown1 : ∀ j sz xs, E1.st.abs (.cell id j) ≠ .sl .own sz xs := fun j sz xs h => hown0 j sz xs (abs_take E.st _ _ _ _ h).1
 have hq : ∀ q sz xs, E1.st.abs q = .sl .own sz xs → rootNe t q ∧ (∀ j, q ≠ .cell id j) ∧ q ≠ .box id := by
  intro q sz' xs' h
  refine ⟨?_, fun j e => hown1 j sz' xs' (e ▸ h), fun e => by subst e; simp [St.abs] at h⟩
  obtain ⟨h1, h2⟩ := abs_take E.st _ _ _ _ h
  cases q with
  | slot t' π =>
   show t' ≠ t
   rintro rfl
   cases π with
   | nil => simp [rowQ] at h2
   | cons k π =>
    simp only [St.abs, ht, AV.at] at h1
    cases h1
  | _ => trivial
 have hno : rootNe t Place.no ∧ (∀ j, Place.no ≠ .cell id j) ∧ Place.no ≠ .box id := ⟨trivial, by simp, by simp⟩
 have hst : Stays (fun q => rootNe t q ∧ (∀ j, q ≠ .cell id j) ∧ q ≠ .box id) (fun i => i ≠ id) { E1 with st := E1.st.killB id } E' := by
  refine ⟨fun bk h => ⟨h, rfl⟩, fun bk q _ h => ⟨h, rfl⟩, fun i hi => by show (if i = id then bk else E.β i) = E.β i; rw [if_neg hi], ?_, ?_⟩
  ·intro q u sz xs hr hab hc
   cases q with
   | slot t π => exact hc
   | cell i off =>
    have hi : i ≠ id := fun e => hr.2.1 off (by rw [e])
    show E.w.cell? ⟨if i = id then bk else E.β i, off, none⟩ = some u
    rw [if_neg hi]; exact hc
   | box _ => simp [Env.con] at hc
   | no => simp [Env.con] at hc
  ·intro q sz xs hr hab
   cases q with
   | slot t' π =>
    have hne : t' ≠ t := hr.1
    show ((if t' = t then _ else ((E.st.take (rowQ t id)).killB id).slots t') : AV).at π = _
    rw [if_neg hne]; exact hab
   | cell i off =>
    have hi : i ≠ id := fun e => hr.2.1 off (by rw [e])
    show ((((E.st.unown t id _ _ cap).boxes i).getD []).getD off .any) = _
    simp only [St.unown, St.setBox, hi, if_false]; exact hab
   | box _ => simp [St.abs] at hab
   | no => simp [St.abs] at hab
 refine { size := R.size, slots := fun t' => ?_, boxes := fun i csi h => ?_, pub := R1.pub, own := R1.own, abs := fun i h hm => ?_, gl := R.gl }
 ·show Val E' (.slot t' []) (if t' = t then _ else ((E.st.take (rowQ t id)).killB id).slots t') (E.tm.getD t' undef)
  by_cases he : t' = t
  ·subst he
   rw [if_pos rfl, htm]
   have := Val.bs (E := E') (.slot t' []) id 0 xs.length cap
   have hb : E'.β id = bk := by show (if id = id then bk else _) = bk; rw [if_pos rfl]
   rw [hb] at this
   exact this
  ·rw [if_neg he]
   exact (R2.slots t').mono hst (R1.leansSlot hq hno t').killB
 ·by_cases hi : i = id
  ·subst hi
   have hcs : csi = xs.flatten ++ List.replicate ((cap - xs.length) * sz) .any := by
    have h' : (E.st.unown t i sz xs cap).boxes i = some csi := h
    simp only [St.unown, St.setBox, if_true] at h'
    exact (Option.some.inj h').symm
   have hb : E'.β i = bk := by show (if i = i then bk else _) = bk; rw [if_pos rfl]
   subst hcs
   have hfl := flatten_length hrow.1
   refine ⟨?_, arr, T, by rw [hb]; exact hg, ?_, fun j c hj => ?_⟩
   ·rw [hb]
    show (match E.ω bk with | some q => some ((rowQ t i q).getD q) | none => none) = _
    rw [hω]
    simp [rowQ]
   ·rw [ha, List.length_append, hfl, List.length_replicate, ← Nat.add_mul]
    congr 1; omega
   ·by_cases hlt : j < xs.flatten.length
    ·rw [List.getElem?_append_left hlt] at hj
     obtain ⟨u, hu, hd⟩ := hrow.2 j c hj
     have hja : j < arr.size := by
      rw [ha]
      rw [hfl] at hlt
      exact Nat.lt_of_lt_of_le hlt (Nat.mul_le_mul_right _ hc)
     have hue : arr.getD j undef = u := by
      simp [World.cell?, hg] at hu
      rw [Array.getD_eq_getD_getElem?]
      rw [hu]; rfl
     rw [hue]
     exact Dat.val (E := E') hd.1 _
    ·rw [List.getElem?_append_right (by omega), List.getElem?_replicate] at hj
     split at hj
     ·cases hj; exact .any _ _
     ·cases hj
  ·have h' : ((E.st.take (rowQ t id)).killB id).boxes i = some csi := by
    have h'' : (E.st.unown t id sz xs cap).boxes i = some csi := h
    simp only [St.unown, St.setBox, hi, if_false] at h''
    exact h''
   obtain ⟨h1, arr0, T0, h2, h3, h4⟩ := R2.boxes i csi h'
   have hbi : E'.β i = E.β i := by show (if i = id then bk else E.β i) = E.β i; rw [if_neg hi]
   refine ⟨by rw [hbi]; exact h1, arr0, T0, by rw [hbi]; exact h2, h3, fun j c hj => ?_⟩
   have h5 := h4 j c hj
   simp only [St.killB, St.tr, Option.map_eq_some_iff] at h'
   obtain ⟨cs0, hb0, rfl⟩ := h'
   rw [AV.trC_get] at hj
   obtain ⟨c0, hc0, rfl⟩ := Option.map_eq_some_iff.1 hj
   have := (R1.leansCell hq hno (show E1.st.boxes i = some cs0 from hb0) hc0).killB (id := id)
   simp only [Nat.zero_add] at this h5 ⊢
   exact h5.mono hst this
 ·by_cases hi : i = id
  ·subst hi
   show (if i = i then bk else _) + parkM = i
   rw [if_pos rfl]; exact hid2 hm
  ·show (if i = id then bk else E.β i) + parkM = i
   rw [if_neg hi]
   refine R2.abs i ?_ hm
   have h' : ((E.st.unown t id sz xs cap).boxes i).isSome = true := h
   simp only [St.unown, St.setBox, hi, if_false] at h'
   exact h'
end Go.AM
namespace Go.AM
def St.reown (st : St) (d id sz : Nat) (ys : List (List AV)) : St := ((st.killB id).setBox id none).put d (.sl .own sz ys)
theorem Rel.reown {N : Nat} {E : Env} (R : Rel N E) {d id sz cap : Nat} {ys : List (List AV)} {pad : List AV} (hsz : 0 < sz) (hs : E.st.slots d = .bs id 0 ys.length cap) (hb : E.st.boxes id = some (ys.flatten ++ pad)) (hlen : (ys.flatten ++ pad).length = cap * sz)
  (hy : ∀ y ∈ ys, y.length = sz) (hdat : (ys.flatten.all fun c => c.data && c.cellOk) = true) (hfr : AV.freeL (ys.flatten ++ pad) = true) :
  Rel N ⟨E.w, E.β, (fun bk => if E.ω bk = some (.box id) then some (.slot d []) else E.ω bk), E.Pub, E.st.reown d id sz ys, E.tm⟩ := by
 let E' : Env := ⟨E.w, E.β, (fun bk => if E.ω bk = some (.box id) then some (.slot d []) else E.ω bk), E.Pub, E.st.reown d id sz ys, E.tm⟩
 have R2 := R.killB id
 have hq : ∀ q sz xs, E.st.abs q = .sl .own sz xs → rootNe d q ∧ (∀ j, q ≠ .cell id j) ∧ q ≠ .box id := by
  intro q sz' xs' h
  refine ⟨?_, fun j e => ?_, fun e => by subst e; simp [St.abs] at h⟩
  ·cases q with
   | slot t' π =>
    show t' ≠ d
    rintro rfl
    cases π with
    | nil =>
     simp only [St.abs, hs] at h
     cases h
    | cons k π =>
     simp only [St.abs, hs, AV.at] at h
     cases h
   | _ => trivial
  ·subst e
   simp only [St.abs, hb, Option.getD_some, List.getD_eq_getElem?_getD] at h
   cases hj : (ys.flatten ++ pad)[j]? with
   | none => rw [hj] at h; cases h
   | some c =>
    rw [hj] at h
    have := AV.freeL_get hfr hj
    simp only [Option.getD_some] at h
    rw [h] at this
    simp [AV.free] at this
 have hno : rootNe d Place.no ∧ (∀ j, Place.no ≠ .cell id j) ∧ Place.no ≠ .box id := ⟨trivial, by simp, by simp⟩
 have hst : Stays (fun q => rootNe d q ∧ (∀ j, q ≠ .cell id j) ∧ q ≠ .box id) (fun i => i ≠ id) { E with st := E.st.killB id } E' := by
  refine ⟨fun bk h => ⟨h, rfl⟩, fun bk q hq h => ⟨?_, rfl⟩, fun i hi => rfl, ?_, ?_⟩
  ·show (if E.ω bk = some (.box id) then some (Place.slot d []) else E.ω bk) = some q
   have h' : E.ω bk = some q := h
   rw [h', if_neg (by simp [hq.2.2])]
  ·intro q u sz xs hr hab hc
   cases q <;> exact hc
  ·intro q sz xs hr hab
   cases q with
   | slot t' π =>
    have hne : t' ≠ d := hr.1
    show ((if t' = d then _ else (E.st.killB id).slots t') : AV).at π = _
    rw [if_neg hne]; exact hab
   | cell i off =>
    have hi : i ≠ id := fun e => hr.2.1 off (by rw [e])
    show ((((E.st.reown d id _ ys).boxes i).getD []).getD off .any) = _
    simp only [St.reown, St.put, St.setBox, hi, if_false]; exact hab
   | box _ => simp [St.abs] at hab
   | no => simp [St.abs] at hab
 obtain ⟨g1, arr, T, g2, g3, g4⟩ := R.boxes id _ hb
 refine { size := R.size, slots := fun t' => ?_, boxes := fun i csi h => ?_, pub := fun bk h => ⟨(R.pub bk h).1, ?_⟩, own := fun bk q h => ?_, abs := fun i h hm => ?_, gl := R.gl }
 ·show Val E' (.slot t' []) (if t' = d then _ else (E.st.killB id).slots t') (E.tm.getD t' undef)
  by_cases he : t' = d
  ·subst he
   rw [if_pos rfl]
   have hv := R.slots t'
   rw [hs] at hv
   generalize E.tm.getD t' undef = v at hv
   cases hv
   have hfl := flatten_length hy
   have hcap : ys.length ≤ cap := by
    rw [List.length_append, hfl] at hlen
    exact Nat.le_of_mul_le_mul_right (by omega : ys.length * sz ≤ cap * sz) hsz
   refine .sl _ .own sz ys (E.β id) 0 cap hcap ⟨hy, fun j c hj => ?_⟩ ⟨?_, arr, T, g2, rfl, by rw [g3]; exact hlen⟩ trivial
   ·have hlt := (List.getElem?_eq_some_iff.1 hj).1
    have hvc := g4 j c (by rw [List.getElem?_append_left hlt]; exact hj)
    have hja : j < arr.size := by rw [g3, List.length_append]; omega
    rw [List.all_eq_true] at hdat
    have hcc := hdat c (List.mem_of_getElem? hj)
    simp only [Bool.and_eq_true] at hcc
    rw [Array.getD_eq_getD_getElem?, Array.getElem?_eq_getElem hja] at hvc
    refine ⟨arr[j], ?_, hvc.dat hcc.1, oneCell_dat (hvc.dat hcc.1) hcc.2⟩
    show E.w.cell? _ = _
    simp [World.cell?, g2, hja]
   ·show (if E.ω (E.β id) = some (.box id) then some (Place.slot t' []) else E.ω (E.β id)) = _
    rw [if_pos g1]
  ·rw [if_neg he]
   exact (R2.slots t').mono hst (R.leansSlot hq hno t').killB
 ·by_cases hi : i = id
  ·subst hi
   have h' : (E.st.reown d i sz ys).boxes i = some csi := h
   simp only [St.reown, St.put, St.setBox, if_true] at h'
   cases h'
  ·have h' : (E.st.killB id).boxes i = some csi := by
    have h'' : (E.st.reown d id sz ys).boxes i = some csi := h
    simp only [St.reown, St.put, St.setBox, hi, if_false] at h''
    exact h''
   obtain ⟨h1, arr0, T0, h2, h3, h4⟩ := R2.boxes i csi h'
   refine ⟨?_, arr0, T0, h2, h3, fun j c hj => ?_⟩
   ·show (if E.ω (E.β i) = some (.box id) then some (Place.slot d []) else E.ω (E.β i)) = _
    have h1' : E.ω (E.β i) = some (.box i) := h1
    rw [h1', if_neg (by simp [hi])]
   ·have h5 := h4 j c hj
    simp only [St.killB, St.tr, Option.map_eq_some_iff] at h'
    obtain ⟨cs0, hb0, rfl⟩ := h'
    rw [AV.trC_get] at hj
    obtain ⟨c0, hc0, rfl⟩ := Option.map_eq_some_iff.1 hj
    have := (R.leansCell hq hno hb0 hc0).killB (id := id)
    simp only [Nat.zero_add] at this h5 ⊢
    exact h5.mono hst this
 ·show (if E.ω bk = some (.box id) then some (Place.slot d []) else E.ω bk) = none
  rw [(R.pub bk h).2, if_neg (by simp)]
 ·have h' : (if E.ω bk = some (.box id) then some (Place.slot d []) else E.ω bk) = some q := h
  split at h'
  ·rename_i h2; exact R.own bk _ h2
  ·exact R.own bk q h'
 ·by_cases hi : i = id
  ·subst hi
   have h' : ((E.st.reown d i sz ys).boxes i).isSome = true := h
   simp [St.reown, St.put, St.setBox] at h'
  ·have h' : ((E.st.reown d id sz ys).boxes i).isSome = true := h
   simp only [St.reown, St.put, St.setBox, hi, if_false] at h'
   exact R2.abs i h' hm
theorem Inv.unown {N : Nat} {S : Start} {E : Env} (I : Inv N S E) {t id sz : Nat} {xs : List (List AV)} (htN : t < N) (ht : E.st.slots t = .sl .own sz xs) (hne : xs ≠ []) (hid : E.st.boxes id = none) (hk : S.k ≤ id) (hp : id < parkM) :
  ∃ cap E', xs.length ≤ cap ∧ E'.w = E.w ∧ E'.tm = E.tm ∧ Inv N S E' ∧ E'.st = E.st.unown t id sz xs cap := by
 have hv := I.rel.slots t
 rw [ht] at hv
 generalize hvv : E.tm.getD t undef = v at hv
 cases hv with
 | sl0 => exact absurd rfl hne
 | sl _ _ _ _ bk off cap hc hr hg ha =>
  obtain ⟨h1, arr, T, h2, h3, h4⟩ := hg
  subst h3
  have R' := I.rel.unown (id := id) htN ht h1 h2 h4 hc hr (fun j sz xs h => by simp [St.abs, hid] at h) hvv (fun h => by omega)
  refine ⟨cap, ⟨E.w, (fun i => if i = id then bk else E.β i), (E.take (rowQ t id)).ω, E.Pub, E.st.unown t id sz xs cap, E.tm⟩, hc, rfl, rfl, ⟨R', ⟨I.fr.os, I.fr.tape, I.fr.output, I.fr.size, I.fr.block, fun k q h => ?_, I.fr.pub0, I.fr.pub1, fun i hi => ?_⟩⟩, rfl⟩
  ·have h' : (match E.ω k with | some q => some ((rowQ t id q).getD q) | none => none) = some q := h
   split at h'
   ·rename_i q' hq'; exact I.fr.own k q' hq'
   ·cases h'
  ·show (if i = id then bk else E.β i) = _
   rw [if_neg (by omega)]
   exact I.fr.beta i hi
theorem Inv.unown0 {N : Nat} {S : Start} {E : Env} (I : Inv N S E) {t id sz : Nat} {xs : List (List AV)} (htN : t < N) (ht : E.st.slots t = .sl .own sz xs) (hid : E.st.boxes id = none) (hk : S.k ≤ id) (hp : id < parkM) :
  (xs = [] ∧ ∃ E', E'.w = E.w ∧ E'.tm = E.tm ∧ Inv N S E' ∧ E'.st = (E.st.take (rowQ t id)).put t (.sl .nl sz [])) ∨ ∃ cap E', xs.length ≤ cap ∧ E'.w = E.w ∧ E'.tm = E.tm ∧ Inv N S E' ∧ E'.st = E.st.unown t id sz xs cap := by
 have hv := I.rel.slots t
 rw [ht] at hv
 generalize hvv : E.tm.getD t undef = v at hv
 cases hv with
 | sl0 =>
  left
  refine ⟨rfl, ?_⟩
  have I1 := I.take (rowQ t id) fun _ => by simp [rowQ]
  have hno : NoOwn ((E.take (rowQ t id)).st.slots t) := by
   intro π sz' xs' h
   obtain ⟨h1, h2⟩ := abs_take E.st (rowQ t id) (.slot t π) sz' xs' h
   cases π with
   | nil => simp [rowQ] at h2
   | cons k π =>
    simp only [St.abs, ht, AV.at] at h1
    cases h1
  have I2 := I1.putq t (.sl .nl sz []) (.slice none 0 0) htN hno rfl (.sl0 _ _ _ (by simp) trivial)
  refine ⟨{ E.take (rowQ t id) with st := (E.take (rowQ t id)).st.put t (.sl .nl sz []), tm := (E.take (rowQ t id)).tm.setIfInBounds t (.slice none 0 0) }, rfl, ?_, I2, rfl⟩
  show E.tm.setIfInBounds t (.slice none 0 0) = E.tm
  exact tm_set_same _ _ _ hvv
 | sl _ _ _ _ bk off cap hc hr hg ha =>
  right
  obtain ⟨h1, arr, T, h2, h3, h4⟩ := hg
  subst h3
  have R' := I.rel.unown (id := id) htN ht h1 h2 h4 hc hr (fun j sz xs h => by simp [St.abs, hid] at h) hvv (fun h => by omega)
  refine ⟨cap, ⟨E.w, (fun i => if i = id then bk else E.β i), (E.take (rowQ t id)).ω, E.Pub, E.st.unown t id sz xs cap, E.tm⟩, hc, rfl, rfl, ⟨R', ⟨I.fr.os, I.fr.tape, I.fr.output, I.fr.size, I.fr.block, fun k q h => ?_, I.fr.pub0, I.fr.pub1, fun i hi => ?_⟩⟩, rfl⟩
  ·have h' : (match E.ω k with | some q => some ((rowQ t id q).getD q) | none => none) = some q := h
   split at h'
   ·rename_i q' hq'; exact I.fr.own k q' hq'
   ·cases h'
  ·show (if i = id then bk else E.β i) = _
   rw [if_neg (by omega)]
   exact I.fr.beta i hi
theorem Inv.reown {N : Nat} {S : Start} {E : Env} (I : Inv N S E) {d id sz cap : Nat} {ys : List (List AV)} {pad : List AV} (hsz : 0 < sz) (hs : E.st.slots d = .bs id 0 ys.length cap) (hb : E.st.boxes id = some (ys.flatten ++ pad)) (hlen : (ys.flatten ++ pad).length = cap * sz)
  (hy : ∀ y ∈ ys, y.length = sz) (hdat : (ys.flatten.all fun c => c.data && c.cellOk) = true) (hfr : AV.freeL (ys.flatten ++ pad) = true) :
  ∃ E', E'.w = E.w ∧ E'.tm = E.tm ∧ Inv N S E' ∧ E'.st = E.st.reown d id sz ys := by
 refine ⟨⟨E.w, E.β, (fun bk => if E.ω bk = some (.box id) then some (.slot d []) else E.ω bk), E.Pub, E.st.reown d id sz ys, E.tm⟩, rfl, rfl, ⟨I.rel.reown hsz hs hb hlen hy hdat hfr, ⟨I.fr.os, I.fr.tape, I.fr.output, I.fr.size, I.fr.block, fun k q h => ?_, I.fr.pub0, I.fr.pub1, I.fr.beta⟩⟩, rfl⟩
 have h' : (if E.ω k = some (.box id) then some (Place.slot d []) else E.ω k) = some q := h
 split at h'
 ·rename_i h2; exact I.fr.own k _ h2
 ·exact I.fr.own k q h'
def SOps (C : Cx) (ops : Array Oper) (k : Nat) (l : List Oper) (st : St) (K : St → Prop) : Prop :=
 ∀ (S : Start) (E : Env) (a : Act), S.k ≤ C.base → Inv C.N S E → a.tmps = E.tm → a.defers = [] → E.st = st → ∀ R : Exit → Act → World → Prop,
  (∀ E a, Inv C.N S E → a.tmps = E.tm → a.defers = [] → K E.st → R .normal a E.w) → wpOps C.P ops R (List.range' k l.length) a E.w
section
variable {C : Cx} {Q : Exit → St → Prop} {st : St}
theorem SOps.nil {ops : Array Oper} {k : Nat} {K : St → Prop} (h : K st) : SOps C ops k [] st K := by
 intro S E a hb I ha hd he R hR
 exact hR E a I ha hd (by rw [he]; exact h)
theorem aops_soundQ {S : Start} (hbase : S.k ≤ C.base) {ops : Array Oper} {K : St → Prop} {R : Exit → Act → World → Prop} : ∀ (l r : List Oper) (k : Nat), ops.toList.drop k = l ++ r →
  (∀ E a, Inv C.N S E → a.tmps = E.tm → a.defers = [] → K E.st → wpOps C.P ops R (List.range' (k + l.length) r.length) a E.w) →
  ∀ (E : Env) (a : Act), Inv C.N S E → a.tmps = E.tm → a.defers = [] → aops C ops l E.st K → wpOps C.P ops R (List.range' k (l ++ r).length) a E.w := by
 intro l
 induction l with
 | nil => intro r k _ hR E a I ha hd h; exact hR E a I ha hd h
 | cons o l ih =>
  intro r k hl hR E a I ha hd h
  have ho : ops[k]? = some o := by
   rw [← Array.getElem?_toList]
   have := congrArg (·[0]?) hl
   simpa [List.getElem?_drop] using this
  have hrest : ops.toList.drop (k + 1) = l ++ r := by
   have := congrArg List.tail hl
   simpa [List.tail_drop] using this
  rw [List.cons_append, List.length_cons, List.range'_succ]
  simp only [wpOps]
  have := aops_head (C := C) (ops := ops) (R := R) (next := wpOps C.P ops R (List.range' (k + 1) (l ++ r).length)) I hbase ha hd ho h fun E' a' I' ha' hd' h' =>
   ih r (k + 1) hrest (fun E a I ha hd hK => by rw [show k + 1 + l.length = k + (o :: l).length by simp; omega]; exact hR E a I ha hd hK) E' a' I' ha' hd' h'
  exact this
theorem SOps.cut (n : Nat) {ops : Array Oper} {k : Nat} {l : List Oper} {K : St → Prop} (hl : ops.toList.drop k = l) (h : ∀ K' : St → Prop, (∀ m bx, SOps C ops (k + (l.take n).length) (l.drop n) (St.of m bx) K → K' (St.of m bx)) → aops C ops (l.take n) st K') : SOps C ops k l st K := by
 intro S E a hb I ha hd he R hR
 have h1 := h (fun s => SOps C ops (k + (l.take n).length) (l.drop n) s K) fun _ _ h => h
 have := aops_soundQ (C := C) hb (ops := ops) (K := fun s => SOps C ops (k + (l.take n).length) (l.drop n) s K) (R := R) (l.take n) (l.drop n) k (by rw [List.take_append_drop]; exact hl)
  (fun E a I ha hd hK => hK S E a hb I ha hd rfl R hR) E a I ha hd (by rw [he]; exact h1)
 rwa [List.take_append_drop] at this
theorem SOps.unown (t id : Nat) {sz : Nat} {xs : List (List AV)} {ops : Array Oper} {k : Nat} {l : List Oper} {K : St → Prop} (ht : st.slots t = .sl .own sz xs) (hN : t < C.N) (hne : xs ≠ []) (hid : st.boxes id = none) (hb : C.base ≤ id ∧ id < 1000000)
  (h : ∀ cap, xs.length ≤ cap → SOps C ops k l (st.unown t id sz xs cap) K) : SOps C ops k l st K := by
 intro S E a hbs I ha hd he R hR
 subst he
 obtain ⟨cap, E', h1, h2, h3, h4, h5⟩ := I.unown hN ht hne hid (Nat.le_trans hbs hb.1) hb.2
 have := h cap h1 S E' a hbs h4 (by rw [ha, h3]) hd h5 R hR
 rwa [h2] at this
theorem SOps.unown0 (t id : Nat) {sz : Nat} {xs : List (List AV)} {ops : Array Oper} {k : Nat} {l : List Oper} {K : St → Prop} (ht : st.slots t = .sl .own sz xs) (hN : t < C.N) (hid : st.boxes id = none) (hb : C.base ≤ id ∧ id < 1000000)
  (h0 : xs = [] → SOps C ops k l ((st.take (rowQ t id)).put t (.sl .nl sz [])) K) (h : ∀ cap, xs.length ≤ cap → SOps C ops k l (st.unown t id sz xs cap) K) : SOps C ops k l st K := by
 intro S E a hbs I ha hd he R hR
 subst he
 rcases I.unown0 hN ht hid (Nat.le_trans hbs hb.1) hb.2 with ⟨h1, E', h2, h3, h4, h5⟩ | ⟨cap, E', h1, h2, h3, h4, h5⟩
 ·have := h0 h1 S E' a hbs h4 (by rw [ha, h3]) hd h5 R hR
  rwa [h2] at this
 ·have := h cap h1 S E' a hbs h4 (by rw [ha, h3]) hd h5 R hR
  rwa [h2] at this
theorem AWp.unown0 (t id : Nat) {sz : Nat} {xs : List (List AV)} {c : Code} (ht : st.slots t = .sl .own sz xs) (hN : t < C.N) (hid : st.boxes id = none) (hb : C.base ≤ id ∧ id < 1000000)
  (h0 : xs = [] → AWp C c ((st.take (rowQ t id)).put t (.sl .nl sz [])) Q) (h : ∀ cap, xs.length ≤ cap → AWp C c (st.unown t id sz xs cap) Q) : AWp C c st Q := by
 intro S E a hbs I ha hd he
 subst he
 rcases I.unown0 hN ht hid (Nat.le_trans hbs hb.1) hb.2 with ⟨h1, E', h2, h3, h4, h5⟩ | ⟨cap, E', h1, h2, h3, h4, h5⟩
 ·have := h0 h1 S E' a hbs h4 (by rw [ha, h3]) hd h5
  rwa [h2] at this
 ·have := h cap h1 S E' a hbs h4 (by rw [ha, h3]) hd h5
  rwa [h2] at this
theorem SOps.reown (d id cap : Nat) {sz : Nat} (ys : List (List AV)) (pad : List AV) {ops : Array Oper} {k : Nat} {l : List Oper} {K : St → Prop} (hsz : 0 < sz) (hs : st.slots d = .bs id 0 ys.length cap) (hbx : st.boxes id = some (ys.flatten ++ pad)) (hlen : (ys.flatten ++ pad).length = cap * sz)
  (hy : ∀ y ∈ ys, y.length = sz) (hdat : (ys.flatten.all fun c => c.data && c.cellOk) = true) (hfr : AV.freeL (ys.flatten ++ pad) = true) (h : SOps C ops k l (st.reown d id sz ys) K) : SOps C ops k l st K := by
 intro S E a hbs I ha hd he R hR
 subst he
 obtain ⟨E', h2, h3, h4, h5⟩ := I.reown hsz hs hbx hlen hy hdat hfr
 have := h S E' a hbs h4 (by rw [ha, h3]) hd h5 R hR
 rwa [h2] at this
theorem AWp.sregion {id : Nat} {ops : Array Oper} (h : SOps C ops 0 ops.toList st (Q .normal)) : AWp C (.region id ops false) st Q := by
 intro S E a hb I ha hd he
 refine wp_region ?_
 have := h S E a hb I ha hd he (APost C S Q) (fun E a I ha hd h => ⟨E, rfl, I, ha, hd, h⟩)
 rw [List.range_eq_range']
 simpa using this
theorem AWp.goS (ks kb : List Nat) {id : Nat} {ops : Array Oper} {y : Code} (h : ∀ K : St → Prop, (∀ l bx, AWp C y (St.of l bx) Q → K (St.of l bx)) → SOps C ops 0 ops.toList st fun s => K (St.of (seeS ks kb s ks) (seeB ks kb s kb))) : AWp C (.seq (.region id ops false) y) st Q := by
 refine AWp.seq (AWp.post (fun _ => (ks, kb)) ((AWp.sregion (Q := fun e s => thenQ (fun s => AWp C y (s.clean ks kb) Q) (fun _ _ => False) e s) ?_).mono ?_))
 ·have := h (fun s => AWp C y s Q) fun _ _ h => h
  simp only [← St.clean_eq] at this
  exact this
 ·intro e s hs
  cases e with
  | normal => exact hs
  | _ => exact hs.elim
theorem AWp.unown (t id : Nat) {sz : Nat} {xs : List (List AV)} {c : Code} (ht : st.slots t = .sl .own sz xs) (hN : t < C.N) (hne : xs ≠ []) (hid : st.boxes id = none) (hb : C.base ≤ id ∧ id < 1000000) (h : ∀ cap, xs.length ≤ cap → AWp C c (st.unown t id sz xs cap) Q) : AWp C c st Q := by
 intro S E a hbs I ha hd he
 subst he
 obtain ⟨cap, E', h1, h2, h3, h4, h5⟩ := I.unown hN ht hne hid (Nat.le_trans hbs hb.1) hb.2
 have := h cap h1 S E' a hbs h4 (by rw [ha, h3]) hd h5
 rwa [h2] at this
theorem AWp.reown (d id cap : Nat) {sz : Nat} (ys : List (List AV)) (pad : List AV) {c : Code} (hsz : 0 < sz) (hs : st.slots d = .bs id 0 ys.length cap) (hbx : st.boxes id = some (ys.flatten ++ pad)) (hlen : (ys.flatten ++ pad).length = cap * sz)
  (hy : ∀ y ∈ ys, y.length = sz) (hdat : (ys.flatten.all fun c => c.data && c.cellOk) = true) (hfr : AV.freeL (ys.flatten ++ pad) = true) (h : AWp C c (st.reown d id sz ys) Q) : AWp C c st Q := by
 intro S E a hbs I ha hd he
 subst he
 obtain ⟨E', h2, h3, h4, h5⟩ := I.reown hsz hs hbx hlen hy hdat hfr
 have := h S E' a hbs h4 (by rw [ha, h3]) hd h5
 rwa [h2] at this
end
attribute [simp] St.unown St.reown rowQ
end Go.AM
namespace Go.AM
@[simp] theorem St.of_setNone {m : List (Nat × AV)} {bx : Boxes} {id : Nat} : (St.of m bx).setBox id none = (St.of m bx).dropB [id] := by
 refine St.ext' (fun t => rfl) (fun i => ?_)
 show (if i = id then none else (St.of m bx).boxes i) = if [id].contains i then none else (St.of m bx).boxes i
 by_cases h : i = id
 ·subst h; simp
 ·simp [h]
end Go.AM
namespace Go.AM
open Go.Proofs
theorem idxI_cases {α : Type} (p : α → Bool) (l : List α) : (idxI p l = -1 ∧ l.filter (fun x => !p x) = l) ∨ ∃ i, ∃ h : i < l.length, idxI p l = (i : Int) ∧ (l.take i).filter (fun x => !p x) = l.take i ∧ p l[i] = true := by
 unfold idxI
 cases h : l.findIdx? p with
 | none =>
  left
  rw [List.findIdx?_eq_none_iff] at h
  exact ⟨rfl, List.filter_eq_self.2 fun x hx => by simp [h x hx]⟩
 | some i =>
  right
  rw [List.findIdx?_eq_some_iff_getElem] at h
  obtain ⟨hi, hp, hn⟩ := h
  refine ⟨i, hi, rfl, List.filter_eq_self.2 fun x hx => ?_, hp⟩
  obtain ⟨k, hk, rfl⟩ := List.mem_take_iff_getElem.1 hx
  have := hn k (by omega)
  simpa using this
set_option maxRecDepth 8000 in
theorem c_IndexFuncB_Dot (l : List Dot) (pad : List AV) (cap : Nat) (g : Nat) (p : Dot → Bool) (cs : List AV) (hpad : Calm pad) (hcs : Calm cs) (hg : ∀ n, Proc Tryz.prog 1 g [.agg (dotC n), .ptr 0 0] [(0, cs)] (.b (p n)) [(0, cs)]) (hl : l.length ≤ 1000000) : Proc Tryz.prog 2 224 [.bs 0 0 l.length cap, .fn g [] [.ptr 1 0]] [(0, boxR dotC l pad), (1, cs)] (.i .i64 (idxI p l)) [(0, boxR dotC l pad), (1, cs)] := by
 have hC : Calm (boxR dotC l pad) := boxR_calm dotC_ok hpad
 have hL : (boxR dotC l pad).length = l.length * 2 + pad.length := boxR_len dotC_ok l pad
 refine proc_of (cxb Tryz.prog 19 2 [0, 1, 4, 5, 7, 8, 9, 16] [] [4]) 17 [.tmp 4] Tryz.func224 rfl rfl rfl rfl rfl rfl (Nat.le_refl _) rfl ?_
 refine AWp.g [0, 1] [0, 1] ?_
 simp [hC, hL, hcs]
 refine AWp.seq ?_
 refine AWp.g [0, 1, 7, 8] [0, 1] ?_
 simp [hC, hL, hcs]
 refine AWp.block (AWp.while (fun i : Nat => [(0, .bs 0 0 l.length cap), (1, .fn g [] [.ptr 1 0]), (7, .i .i64 l.length), (8, .i .i64 i)]) (fun i => [(0, boxR dotC l pad), (1, cs)]) (fun i => i ≤ l.length ∧ ∀ k (hk : k < i) (hk2 : k < l.length), p l[k] = false) (fun i => l.length - i) [0, 1, 7, 8] [0, 1] 0 (by simp) (by simp [hC, hL, hcs]) ?_)
 rintro i ⟨hi, hall⟩
 refine AWp.g [0, 1, 7, 8, 9] [0, 1] ?_
 simp [hC, hL, hcs]
 refine AWp.seq ?_
 by_cases h : i < l.length
 ·refine AWp.cT (by simp [h]) ?_
  refine AWp.skip ?_
  show AWp _ _ _ _
  refine AWp.seq ?_
  refine AWp.block ?_
  refine AWp.g [0, 1, 5, 7, 8] [0, 1] ?_
  simp [hC, hL, hcs]
  refine AWp.g [0, 1, 5, 7, 8, 16] [0, 1] ?_
  simp [h, dotR_get l pad i h, hC, hL, hcs]
  refine ⟨by omega, ?_⟩
  refine call_proc [(0, 1)] none (hg l[i]) (by simp [dotC]) (by simp) ?_
  simp [h, dotR_get l pad i h, hC, hL, hcs]
  refine ⟨by simpa using hcs.still, ?_⟩
  cases hp : p l[i]
  ·refine AWp.cF (by simp) ?_
   refine AWp.skip ?_
   show AWp _ _ _ _
   refine AWp.gL [0, 1, 7, 8] [0, 1] ?_
   simp [hC, hL, hcs]
   refine ⟨i + 1, ⟨by omega, fun k hk hk2 => ?_⟩, by omega, ?_⟩
   ·by_cases hki : k = i
    ·subst hki; exact hp
    ·exact hall k (by omega) hk2
   ·simp [hC, hcs]
    exact wrap64 (by omega) (by omega)
  ·refine AWp.cT (by simp) ?_
   refine AWp.g [4] [0, 1] ?_
   simp [hC, hL, hcs]
   refine AWp.ret ?_
   rw [idxI_at p l i h (fun k hk => hall k hk (by omega)) hp]
   simp [hC, hcs]
   intro id cs1 hid
   rw [hid]
   have hc1 : Calm cs1 := by
    split at hid
    ·cases hid; exact hC
    ·split at hid
     ·cases hid; exact hcs
     ·cases hid
   exact ⟨AV.fitsL_refl _, by simpa using hc1.still⟩
 ·refine AWp.cF (by simp [h]) ?_
  refine AWp.exit ?_
  show AWp _ _ _ _
  refine AWp.g [4] [0, 1] ?_
  simp [hC, hL, hcs]
  refine AWp.ret ?_
  rw [idxI_none p l fun k hk => hall k (by omega) hk]
  simp [hC, hcs]
  intro id cs1 hid
  rw [hid]
  have hc1 : Calm cs1 := by
   split at hid
   ·cases hid; exact hC
   ·split at hid
    ·cases hid; exact hcs
    ·cases hid
  exact ⟨AV.fitsL_refl _, by simpa using hc1.still⟩
set_option maxRecDepth 8000 in
set_option maxHeartbeats 2000000 in
theorem c_DeleteFuncB_Dot (l : List Dot) (pad : List AV) (cap : Nat) (g : Nat) (p : Dot → Bool) (cs : List AV) (hc : l.length ≤ cap) (hpad : Calm pad) (hp : pad.length = (cap - l.length) * 2) (hcs : Calm cs) (hg : ∀ n, Proc Tryz.prog 1 g [.agg (dotC n), .ptr 0 0] [(0, cs)] (.b (p n)) [(0, cs)]) (hl : l.length ≤ 1000000) : Proc Tryz.prog 2 198 [.bs 0 0 l.length cap, .fn g [] [.ptr 1 0]] [(0, boxR dotC l pad), (1, cs)] (.bs 0 0 (l.filter fun x => !p x).length cap) [(0, boxR dotC (l.filter fun x => !p x) (zerosL [.i .i64 0, .i .i64 0] (l.length - (l.filter fun x => !p x).length) ++ pad)), (1, cs)] := by
 have hC : ∀ l', Calm (boxR dotC l' pad) := fun l' => boxR_calm dotC_ok hpad
 have hL : ∀ l', (boxR dotC l' pad).length = l'.length * 2 + pad.length := fun l' => boxR_len dotC_ok l' pad
 have hC2 : ∀ l' n, Calm (boxR dotC l' (zerosL [.i .i64 0, .i .i64 0] n ++ pad)) := fun l' n => boxR_calm dotC_ok ((Calm.zeros (fun c hc => by simp at hc; rcases hc with rfl | rfl <;> rfl) n).append hpad)
 have hfl : (l.filter fun x => !p x).length ≤ l.length := List.length_filter_le _ _
 refine proc_of (cxb Tryz.prog 42 2 [0, 1, 4, 5, 6, 7, 12, 19, 29] [] [4]) 40 [.tmp 4] Tryz.func198 rfl rfl rfl rfl rfl rfl (Nat.le_refl _) rfl ?_
 refine AWp.g [0, 1] [0, 1] ?_
 simp [hC, hL, hcs]
 refine AWp.g [0, 1, 5] [0, 1] ?_
 simp [hC, hL, hcs]
 refine call_proc [(0, 0), (1, 1)] none (c_IndexFuncB_Dot l pad cap g p cs hpad hcs hg hl) (by simp) (by simp) ?_
 simp [hC, hL, hcs]
 refine ⟨⟨by simpa using (hC l).still, by simpa using hcs.still⟩, ?_⟩
 refine AWp.seq ?_
 refine AWp.g [0, 1, 5, 12] [0, 1] ?_
 simp [hC, hL, hcs]
 by_cases h0 : idxI p l = -1
 ·refine AWp.cT (by simp [h0]) ?_
  refine AWp.g [4] [0, 1] ?_
  simp [hC, hL, hcs]
  refine AWp.ret ?_
  have hf := (idxI_cases p l).resolve_right (fun ⟨i, _, h, _⟩ => by omega)
  rw [hf.2]
  simp [zerosL, hC, hcs]
  intro id cs1 hid
  rw [hid]
  have hc1 : Calm cs1 := by
   split at hid
   ·cases hid; exact hC l
   ·split at hid
    ·cases hid; exact hcs
    ·cases hid
  exact ⟨AV.fitsL_refl _, by simpa using hc1.still⟩
 ·refine AWp.cF (by simp [h0]) ?_
  obtain ⟨i0, hi0, hidx, htk, hpt⟩ := (idxI_cases p l).resolve_left (fun h => h0 h.1)
  rw [hidx]
  have hft : (l.take (i0 + 1)).filter (fun x => !p x) = l.take i0 := by
   rw [List.take_succ_eq_append_getElem hi0, List.filter_append, htk]
   simp [hpt]
  refine AWp.skip ?_
  show AWp _ _ _ _
  refine AWp.seq ?_
  refine AWp.g [0, 1, 5, 6] [0, 1] ?_
  simp [hC, hL, hcs]
  refine AWp.block (AWp.while (fun q : Nat × List Dot => [(0, .bs 0 0 l.length cap), (1, .fn g [] [.ptr 1 0]), (5, .i .i64 ((l.take (i0 + 1 + q.1)).filter fun x => !p x).length), (6, .i .i64 (i0 + 1 + q.1))]) (fun q => [(0, boxR dotC q.2 pad), (1, cs)]) (fun q => q.2.length = l.length ∧ i0 + 1 + q.1 ≤ l.length ∧ ((l.take (i0 + 1 + q.1)).filter fun x => !p x).length ≤ i0 + q.1 ∧ q.2.take ((l.take (i0 + 1 + q.1)).filter fun x => !p x).length = (l.take (i0 + 1 + q.1)).filter (fun x => !p x) ∧ ∀ k, i0 + 1 + q.1 ≤ k → q.2[k]? = l[k]?) (fun q => l.length - q.1) [0, 1, 5, 6] [0, 1] (0, l) (by exact ⟨rfl, by dsimp only; omega, by dsimp only; rw [Nat.add_zero, hft]; simp; omega, by dsimp only; rw [Nat.add_zero, hft]; simp, fun _ _ => rfl⟩) (by have w0 : IntKind.i64.wrap ((i0 : Int) + 1) = i0 + 1 := wrap64 (by omega) (by omega); simp [hft, w0, hC, hcs]; omega) ?_)
  rintro ⟨j, c⟩ ⟨hcl, hj2, hk3, hj3, hj4⟩
  dsimp only at hcl hj2 hk3 hj3 hj4
  try dsimp only
  refine AWp.seq ?_
  refine AWp.g [0, 1, 5, 6, 19] [0, 1] ?_
  simp [hC, hL, hcs]
  by_cases h : i0 + 1 + j < l.length
  ·refine AWp.cT (by simp [h]; omega) ?_
   have v1 : IntKind.i64.wrap ((i0 : Int) + 1 + j + 1) = i0 + 1 + j + 1 := wrap64 (by omega) (by omega)
   have v3 : IntKind.i64.wrap ((((l.take (i0 + 1 + j)).filter fun x => !p x).length : Int) + 1) = ((l.take (i0 + 1 + j)).filter fun x => !p x).length + 1 := wrap64 (by omega) (by omega)
   have q1 : c[i0 + 1 + j]'(by omega) = l[i0 + 1 + j] := by have := hj4 (i0 + 1 + j) (by omega); rw [List.getElem?_eq_getElem (by omega), List.getElem?_eq_getElem (by omega)] at this; exact Option.some.inj this
   have g1 := dotR_get c pad (i0 + 1 + j) (by omega)
   rw [q1] at g1
   have e0 : ((i0 : Int) + 1 + j).toNat = i0 + 1 + j := by omega
   refine AWp.skip ?_
   show AWp _ _ _ _
   refine AWp.seq ?_
   refine AWp.block ?_
   refine AWp.g [0, 1, 5, 6, 7] [0, 1, 9] ?_
   simp [e0, g1, hC, hL, hcs]
   refine ⟨by omega, by omega, ?_⟩
   refine AWp.g [0, 1, 5, 6, 7, 29] [0, 1, 9] ?_
   simp [hC, hL, hcs]
   refine call_proc [(0, 1)] none (hg l[i0 + 1 + j]) (by simp [dotC]) (by simp) ?_
   simp [hC, hL, hcs]
   refine ⟨by simpa using hcs.still, ?_⟩
   cases hp2 : p l[i0 + 1 + j]
   ·refine AWp.cT (by simp) ?_
    refine AWp.step [0, 1, 5, 6] [0, 1] [(0, .bs 0 0 l.length cap), (1, .fn g [] [.ptr 1 0]), (5, .i .i64 ((l.take (i0 + 1 + j)).filter fun x => !p x).length), (6, .i .i64 (i0 + 1 + j))] [(0, boxR dotC (c.set ((l.take (i0 + 1 + j)).filter fun x => !p x).length l[i0 + 1 + j]) pad), (1, cs)] ?_ ?_
    ·have hs := dotR_set c pad ((l.take (i0 + 1 + j)).filter fun x => !p x).length (by omega) l[i0 + 1 + j]
     simp [hC, hL, hcs, hs]
     omega
    refine AWp.gL [0, 1, 5, 6] [0, 1] ?_
    simp [hC, hL, hcs]
    show AWp _ _ _ _
    refine AWp.gL [0, 1, 5, 6] [0, 1] ?_
    simp [hC, hL, hcs]
    have hcn : (l.take (i0 + 1 + (j + 1))).filter (fun x => !p x) = (l.take (i0 + 1 + j)).filter (fun x => !p x) ++ [l[i0 + 1 + j]] := by
     rw [show i0 + 1 + (j + 1) = i0 + 1 + j + 1 by omega, List.take_succ_eq_append_getElem h, List.filter_append]
     simp [hp2]
    refine ⟨(j + 1, c.set ((l.take (i0 + 1 + j)).filter fun x => !p x).length l[i0 + 1 + j]), ⟨by simpa using hcl, by dsimp only; omega, ?_, ?_, ?_⟩, by dsimp only; omega, ?_⟩
    ·dsimp only; rw [hcn]; simp; omega
    ·dsimp only; rw [hcn, List.length_append, List.length_singleton, List.take_succ_eq_append_getElem (by simp; omega), List.getElem_set_self, List.take_set_of_le (Nat.le_refl _), hj3]
    ·intro k hk
     dsimp only at hk
     rw [List.getElem?_set_ne (by omega)]
     exact hj4 k (by omega)
    ·simp [hC, hcs, v1, v3, hcn]
     omega
   ·refine AWp.cF (by simp) ?_
    refine AWp.skip ?_
    show AWp _ _ _ _
    refine AWp.gL [0, 1, 5, 6] [0, 1] ?_
    simp [hC, hL, hcs]
    have hcn : (l.take (i0 + 1 + (j + 1))).filter (fun x => !p x) = (l.take (i0 + 1 + j)).filter (fun x => !p x) := by
     rw [show i0 + 1 + (j + 1) = i0 + 1 + j + 1 by omega, List.take_succ_eq_append_getElem h, List.filter_append]
     simp [hp2]
    refine ⟨(j + 1, c), ⟨hcl, by dsimp only; omega, ?_, ?_, ?_⟩, by dsimp only; omega, ?_⟩
    ·dsimp only; rw [hcn]; omega
    ·dsimp only; rw [hcn]; exact hj3
    ·intro k hk
     exact hj4 k (by dsimp only at hk; omega)
    ·simp [hC, hcs, v1, hcn]
     omega
  ·refine AWp.cF (by simp [h]; omega) ?_
   refine AWp.exit ?_
   show AWp _ _ _ _
   have hjn : i0 + 1 + j = l.length := by omega
   rw [hjn, List.take_length] at hk3 hj3 ⊢
   have hcl2 := boxR_clear dotC_ok c pad (zerosL [.i .i64 0, .i .i64 0] (l.length - (l.filter fun x => !p x).length)) (l.filter fun x => !p x).length (by omega) (by rw [zerosL_length, hcl]; rfl)
   rw [hj3] at hcl2
   refine AWp.step [0, 5] [0, 1] [(0, .bs 0 0 l.length cap), (5, .i .i64 (l.filter fun x => !p x).length)] [(0, boxR dotC (l.filter fun x => !p x) (zerosL [.i .i64 0, .i .i64 0] (l.length - (l.filter fun x => !p x).length) ++ pad)), (1, cs)] ?_ ?_
   ·simp [hC, hL, hcs, show ¬ cap = (l.filter fun x => !p x).length by omega, zerosL_length] at hcl2 ⊢
    simp [hcl2, hC2, hcs]
    refine ⟨by omega, by omega, (((hC c).drop _).take _).freeL⟩
   refine AWp.g [4] [0, 1] ?_
   simp [hC, hL, hcs]
   refine ⟨by omega, ?_⟩
   refine AWp.ret ?_
   simp [hC2, hcs]
   intro id cs1 hid
   rw [hid]
   have hc1 : Calm cs1 := by
    split at hid
    ·cases hid; exact hC2 _ _
    ·split at hid
     ·cases hid; exact hcs
     ·cases hid
   exact ⟨AV.fitsL_refl _, by simpa using hc1.still⟩
theorem c_IndexFunc_Dot_0 (g : Nat) (cs : List AV) (hcs : Calm cs) : Proc Tryz.prog 1 224 [.sl .fro 2 [], .fn g [] [.ptr 0 0]] [(0, cs)] (.i .i64 (-1)) [(0, cs)] := by
 refine proc_of (cxb Tryz.prog 19 1 [0, 1, 4, 5, 7, 8, 9, 16] [] [4]) 17 [.tmp 4] Tryz.func224 rfl rfl rfl rfl rfl rfl (Nat.le_refl _) rfl ?_
 refine AWp.g [0, 1] [0] ?_
 simp [hcs]
 refine AWp.seq ?_
 refine AWp.g [0, 1, 7, 8] [0] ?_
 simp [hcs]
 refine AWp.block (AWp.while (fun i : Nat => [(0, .sl .fro 2 []), (1, .fn g [] [.ptr 0 0]), (7, .i .i64 0), (8, .i .i64 0)]) (fun i => [(0, cs)]) (fun i => True) (fun i => 0) [0, 1, 7, 8] [0] 0 (by simp) (by simp [hcs]) ?_)
 intro i hi
 refine AWp.g [0, 1, 7, 8, 9] [0] ?_
 simp [hcs]
 refine AWp.seq ?_
 refine AWp.cF (by simp) ?_
 refine AWp.exit ?_
 show AWp _ _ _ _
 refine AWp.g [4] [0] ?_
 simp [hcs]
 refine AWp.ret ?_
 simp [hcs]
 simpa using hcs.still
theorem c_DeleteFunc_Dot_0 (g : Nat) (cs : List AV) (hcs : Calm cs) : Proc Tryz.prog 1 198 [.sl .nl 2 [], .fn g [] [.ptr 0 0]] [(0, cs)] (.sl .nl 2 []) [(0, cs)] := by
 refine proc_of (cxb Tryz.prog 42 1 [0, 1, 4, 5, 6, 7, 12, 19, 29] [] [4]) 40 [.tmp 4] Tryz.func198 rfl rfl rfl rfl rfl rfl (Nat.le_refl _) rfl ?_
 refine AWp.g [0, 1] [0] ?_
 simp [hcs]
 refine AWp.g [0, 1, 5] [0] ?_
 simp [hcs]
 refine call_proc [(0, 0)] none (c_IndexFunc_Dot_0 g cs hcs) (by simp) (by simp) ?_
 simp [hcs]
 refine ⟨by simpa using hcs.still, ?_⟩
 refine AWp.seq ?_
 refine AWp.g [0, 1, 5, 12] [0] ?_
 simp [hcs]
 refine AWp.cT (by simp) ?_
 refine AWp.g [4] [0] ?_
 simp [hcs]
 refine AWp.ret ?_
 simp [hcs]
 simpa using hcs.still
set_option maxRecDepth 8000 in
theorem c_rwset_unknown1 (c : List Int) (hc : c.length ≤ 1000000) (d : Dot) : Proc Tryz.prog 1 199 [.agg (dotC d), .ptr 0 0] [(0, [.sl .fro 1 (intsAV c)])] (.b (decide (d.2 ≤ getC c d.1))) [(0, [.sl .fro 1 (intsAV c)])] := by
 refine proc_of (cxb Tryz.prog 11 1 [1, 2, 3] [] [3]) 9 [.tmp 3] Tryz.func199 rfl rfl rfl rfl rfl rfl (Nat.le_refl _) rfl ?_
 refine AWp.g [1, 2] [0, 3] ?_
 simp [dotC]
 have g1 := c102 c d.1 (by omega)
 refine AWp.goD 8 (fun _ => .i .i64 (getC c d.1)) [3] [0] mix (by kernel_rfl) fun K hK => ?_
 simp [g1]
 refine hK _ _ ?_
 clear hK K
 refine AWp.ret ?_
 simp
theorem dots_dat2 (l : List Dot) : ((dotsAV l).flatten.all fun c => c.data && c.cellOk) = true := by
 rw [List.all_eq_true]
 intro c hc
 obtain ⟨y, hy, hc⟩ := List.mem_flatten.1 hc
 obtain ⟨x, _, rfl⟩ := List.mem_map.1 hy
 simp [dotC] at hc
 rcases hc with rfl | rfl <;> rfl
def leftD (l : List Dot) (c : List Int) : List Dot := l.filter fun d => !decide (d.2 ≤ getC c d.1)
set_option maxRecDepth 8000 in
set_option maxHeartbeats 1000000 in
theorem c_rwset_unknown (l : List Dot) (c : List Int) (hl : l.length ≤ 1000000) (hc : c.length ≤ 1000000) : Pure Tryz.prog 163 [.sl .fro 2 (dotsAV l), .sl .fro 1 (intsAV c)] (.sl .own 2 (dotsAV (leftD l c))) := by
 refine proc_of (cx Tryz.prog 9 [0, 3, 4] [4]) 7 [.tmp 4] Tryz.func163 rfl rfl rfl rfl rfl rfl (Nat.le_refl _) rfl ?_
 refine AWp.g [0, 3] [3] ?_
 simp
 have hcs : Calm [AV.sl .fro 1 (intsAV c)] := fun x hx => by simp at hx; subst hx; rfl
 refine AWp.goS [4] [] fun K hK => ?_
 refine SOps.cut 2 rfl fun K' hK' => ?_
 simp
 refine call_pure (c_Clone_Dot (dotsAV l) (by simp; omega)) (by simp) ?_
 simp
 refine hK' _ _ ?_
 clear hK'
 refine SOps.unown0 6 100 rfl (by simp) rfl (by simp) (fun h0 => ?_) fun cap hcap => ?_
 ·have h0 : l = [] := by simpa [dotsAV] using h0
  subst h0
  simp
  refine SOps.cut 3 rfl fun K' hK' => ?_
  simp
  refine call_procK [(0, 3)] none (c_DeleteFunc_Dot_0 199 _ hcs) (by simp) (by simp) ?_
  simp
  refine hK' _ _ (SOps.nil ?_)
  simp
  refine hK _ _ (AWp.ret ?_)
  simp [leftD]
 simp at hcap
 have hcc : Calm (boxR dotC l (List.replicate ((cap - l.length) * 2) AV.any)) := boxR_calm dotC_ok (Calm.replicate _ rfl)
 have hdf := c_DeleteFuncB_Dot l (List.replicate ((cap - l.length) * 2) AV.any) cap 199 (fun d => decide (d.2 ≤ getC c d.1)) _ hcap (Calm.replicate _ rfl) (by simp) hcs (fun n => c_rwset_unknown1 c hc n) hl
 have e0 : (dotsAV l).flatten ++ List.replicate ((cap - l.length) * 2) AV.any = boxR dotC l (List.replicate ((cap - l.length) * 2) AV.any) := rfl
 have hst := (boxR_calm (l := leftD l c) dotC_ok ((Calm.zeros (zero := [AV.i .i64 0, AV.i .i64 0]) (fun c hc => by simp at hc; subst hc; rfl) (l.length - (leftD l c).length)).append (Calm.replicate ((cap - l.length) * 2) (x := AV.any) rfl)))
 have hlf : (leftD l c).length ≤ l.length := List.length_filter_le _ _
 have hrl := rows_len dotC_ok (leftD l c)
 rw [show (l.filter fun d => !decide (d.2 ≤ getC c d.1)) = leftD l c from rfl] at hdf
 simp [e0, hcc]
 refine SOps.cut 2 rfl fun K2 hK2 => ?_
 simp [hcc]
 refine call_proc [(0, 100), (1, 3)] none hdf (by simp) (by simp) ?_
 simp [hcc, hst]
 refine ⟨by simpa using hcc.still, by simpa using hst.still, hK2 _ _ ?_⟩
 refine SOps.reown 8 100 cap (sz := 2) (dotsAV (leftD l c)) (zerosL [.i .i64 0, .i .i64 0] (l.length - (leftD l c).length) ++ List.replicate ((cap - l.length) * 2) AV.any) (by simp) (by simp) rfl ?_ (fun z hz => ?_) (dots_dat2 _) hst.freeL ?_
 ·have h5 : ((dotsAV (leftD l c)).flatten).length = (leftD l c).length * 2 := hrl
  simp only [List.length_append, zerosL_length, List.length_replicate, h5]
  simp; omega
 ·obtain ⟨x, _, rfl⟩ := List.mem_map.1 hz; rfl
 simp
 refine SOps.cut 1 rfl fun K3 hK3 => ?_
 simp
 refine hK3 _ _ (SOps.nil ?_)
 simp
 refine hK _ _ ?_
 clear hK3 hK2 hK K
 refine AWp.ret ?_
 simp
end Go.AM
namespace Go.AM
def okN (n : Int) : Prop := 0 ≤ n ∧ n ≤ 1048576
theorem clockOk_iff (c : List Int) : clockOk c = true ↔ c.length ≤ 5 ∧ ∀ n ∈ c, okN n := by
 simp only [clockOk, Bool.and_eq_true, decide_eq_true_eq, Bool.not_eq_true', List.any_eq_false]
 refine and_congr Iff.rfl ⟨fun h n hn => ?_, fun h n hn => ?_⟩
 ·have := h n hn
  simp [badN] at this
  exact this
 ·have := h n hn
  simp [badN, okN] at this ⊢
  exact this
theorem plainN_zero (f : List Int) : ∀ n k, plainN f n ≤ k → k < n → f.getD k 0 = 0
 | 0, k, _, h => by omega
 | n + 1, k, h1, h2 => by
  unfold plainN at h1
  split at h1
  ·rename_i h0
   by_cases hk : k = n
   ·rw [hk]; exact h0
   ·exact plainN_zero f n k h1 (by omega)
  ·omega
theorem ofL_plainL {f : List Int} (hf : f.length = 5) (hok : ∀ n ∈ f, okN n) : clockOk (plainL f) = true ∧ ofL (plainL f) = f := by
 have h5 := plainN_le f 5
 have hc : clockOk (plainL f) = true := by
  rw [clockOk_iff]
  refine ⟨plainL_len5 f, fun n hn => hok n (List.mem_of_mem_take hn)⟩
 refine ⟨hc, ?_⟩
 unfold ofL
 rw [if_pos hc]
 have hl : (plainL f).length = plainN f 5 := by unfold plainL; rw [List.length_take]; omega
 apply List.ext_getElem
 ·rw [List.length_append, hl, List.length_replicate, hf]; omega
 ·intro i h1 h2
  by_cases hi : i < plainN f 5
  ·rw [List.getElem_append_left (by omega)]
   simp [plainL]
  ·rw [List.getElem_append_right (by omega), List.getElem_replicate]
   have := plainN_zero f 5 i (by omega) (by omega)
   rw [List.getD_eq_getElem?_getD, List.getElem?_eq_getElem h2] at this
   exact this.symm
theorem ofL_ok (c : List Int) : (ofL c).length = 5 ∧ ∀ n ∈ ofL c, okN n := by
 refine ⟨ofL_length c, fun n hn => ?_⟩
 unfold ofL at hn
 split at hn
 ·rename_i h
  rw [clockOk_iff] at h
  rcases List.mem_append.1 hn with h1 | h1
  ·exact h.2 n h1
  ·rw [List.eq_of_mem_replicate h1]; exact ⟨by omega, by omega⟩
 ·simp at hn; subst hn; exact ⟨by omega, by omega⟩
theorem five_ext {f g : List Int} (hf : f.length = 5) (hg : g.length = 5) (h : ∀ k, k < 5 → f.getD k 0 = g.getD k 0) : f = g := by
 apply List.ext_getElem (by omega)
 intro i h1 h2
 have := h i (by omega)
 rw [List.getD_eq_getElem?_getD, List.getD_eq_getElem?_getD, List.getElem?_eq_getElem h1, List.getElem?_eq_getElem h2] at this
 exact this
def Pl (u : List Int) : Prop := clockOk u = true ∧ plainL (ofL u) = u
theorem Pl.plain {f : List Int} (hf : f.length = 5) (hok : ∀ n ∈ f, okN n) : Pl (plainL f) := by
 obtain ⟨h1, h2⟩ := ofL_plainL hf hok
 exact ⟨h1, by rw [h2]⟩
theorem Pl.of (c : List Int) : Pl (plainL (ofL c)) := Pl.plain (ofL_ok c).1 (ofL_ok c).2
theorem Pl.ext {u v : List Int} (hu : Pl u) (hv : Pl v) (h : ∀ rep, 1 ≤ rep → rep ≤ 5 → getC u rep = getC v rep) : u = v := by
 rw [← hu.2, ← hv.2]
 congr 1
 refine five_ext (ofL_length u) (ofL_length v) fun k hk => ?_
 have := h (k + 1) (by omega) (by omega)
 rwa [getC_at u k hk, getC_at v k hk] at this
def LT (a b : Dot) : Prop := a.1 < b.1 ∨ a.1 = b.1 ∧ a.2 < b.2
theorem ltD_iff (a b : Dot) : ltD a b = true ↔ LT a b := by simp [ltD, LT]
theorem LT.trans {a b c : Dot} (h1 : LT a b) (h2 : LT b c) : LT a c := by unfold LT at *; omega
theorem LT.irrefl (a : Dot) : ¬ LT a a := by unfold LT; omega
theorem LT.tri (a b : Dot) : LT a b ∨ a = b ∨ LT b a := by
 unfold LT
 rcases a with ⟨a1, a2⟩
 rcases b with ⟨b1, b2⟩
 simp only [Prod.mk.injEq]
 omega
abbrev Sorted (l : List Dot) : Prop := l.Pairwise LT
theorem Sorted.ext : ∀ {l m : List Dot}, Sorted l → Sorted m → (∀ d, d ∈ l ↔ d ∈ m) → l = m
 | [], [], _, _, _ => rfl
 | [], y :: m, _, _, h => by have := (h y).2 (by simp); simp at this
 | x :: l, [], _, _, h => by have := (h x).1 (by simp); simp at this
 | x :: l, y :: m, h1, h2, h => by
  rw [Sorted, List.pairwise_cons] at h1 h2
  have hxy : x = y := by
   rcases LT.tri x y with h3 | h3 | h3
   ·exfalso
    rcases List.mem_cons.1 ((h x).1 (by simp)) with h4 | h4
    ·subst h4; exact LT.irrefl _ h3
    ·exact LT.irrefl _ ((h2.1 x h4).trans h3)
   ·exact h3
   ·exfalso
    rcases List.mem_cons.1 ((h y).2 (by simp)) with h4 | h4
    ·subst h4; exact LT.irrefl _ h3
    ·exact LT.irrefl _ ((h1.1 y h4).trans h3)
  subst hxy
  congr 1
  refine Sorted.ext h1.2 h2.2 fun d => ⟨fun hd => ?_, fun hd => ?_⟩
  ·rcases List.mem_cons.1 ((h d).1 (by simp [hd])) with h4 | h4
   ·subst h4; exact absurd (h1.1 d hd) (LT.irrefl _)
   ·exact h4
  ·rcases List.mem_cons.1 ((h d).2 (by simp [hd])) with h4 | h4
   ·subst h4; exact absurd (h2.1 d hd) (LT.irrefl _)
   ·exact h4
theorem mem_putD (l : List Dot) (d x : Dot) : x ∈ putD l d ↔ x ∈ l ∨ x = d := by
 induction l with
 | nil => simp [putD]
 | cons y l ih =>
  unfold putD
  split
  ·simp [ih, or_assoc]
  ·split
   ·rename_i h; subst h
    simp
    intro h; exact .inl h
   ·simp; constructor
    ·rintro (h | h | h) <;> simp [h]
    ·rintro ((h | h) | h) <;> simp [h]
theorem sorted_putD {l : List Dot} (h : Sorted l) (d : Dot) : Sorted (putD l d) := by
 induction l with
 | nil => simp [putD, Sorted]
 | cons y l ih =>
  rw [Sorted, List.pairwise_cons] at h
  unfold putD
  split
  ·rename_i hl
   rw [ltD_iff] at hl
   rw [Sorted, List.pairwise_cons]
   refine ⟨fun a ha => ?_, ih h.2⟩
   rcases (mem_putD l d a).1 ha with h1 | h1
   ·exact h.1 a h1
   ·subst h1; exact hl
  ·rename_i hl
   rw [ltD_iff] at hl
   split
   ·rw [Sorted, List.pairwise_cons]; exact h
   ·rename_i hne
    rw [Sorted, List.pairwise_cons]
    refine ⟨fun a ha => ?_, by rw [List.pairwise_cons]; exact h⟩
    have hdy : LT d y := by
     rcases LT.tri y d with h1 | h1 | h1
     ·exact absurd h1 hl
     ·exact absurd h1 hne
     ·exact h1
    rcases List.mem_cons.1 ha with h1 | h1
    ·subst h1; exact hdy
    ·exact hdy.trans (h.1 a h1)
theorem ordD_spec (l : List Dot) : Sorted (ordD l) ∧ ∀ d, d ∈ ordD l ↔ d ∈ l := by
 have key : ∀ (l m : List Dot), Sorted m → Sorted (l.foldl putD m) ∧ ∀ d, d ∈ l.foldl putD m ↔ d ∈ m ∨ d ∈ l := by
  intro l
  induction l with
  | nil => intro m h; exact ⟨h, fun d => by simp⟩
  | cons x l ih =>
   intro m h
   obtain ⟨h1, h2⟩ := ih (putD m x) (sorted_putD h x)
   refine ⟨h1, fun d => ?_⟩
   rw [List.foldl_cons, h2, mem_putD, List.mem_cons, or_assoc]
 obtain ⟨h1, h2⟩ := key l [] (by simp [Sorted])
 exact ⟨h1, fun d => by have := h2 d; simpa [ordD] using this⟩
def LE (a b : Dot) : Prop := ¬ LT b a
theorem sortD_sorted (l : List Dot) : (sortD l).Pairwise LE ∧ ∀ d, d ∈ sortD l ↔ d ∈ l := by
 refine ⟨?_, fun d => by simp [sortD]⟩
 have := List.pairwise_mergeSort (le := fun x y => !ltD y x) (fun a b c h1 h2 => by
   simp only [Bool.not_eq_true', ← Bool.not_eq_true, ltD_iff] at *
   intro h
   rcases LT.tri b c with h3 | h3 | h3
   ·exact h1 (h3.trans h)
   ·subst h3; exact h1 h
   ·exact h2 h3) (fun a b => by
   simp only [Bool.or_eq_true, Bool.not_eq_true', ← Bool.not_eq_true, ltD_iff]
   rcases LT.tri a b with h | h | h
   ·exact .inl fun h2 => LT.irrefl _ (h.trans h2)
   ·subst h; exact .inl (LT.irrefl _)
   ·exact .inr fun h2 => LT.irrefl _ (h.trans h2)) l
 refine this.imp fun {a b} h => ?_
 simp only [Bool.not_eq_true', ← Bool.not_eq_true, ltD_iff] at h
 exact h
theorem compN_spec {l : List Dot} (h : l.Pairwise LE) : ∀ i, i ≤ l.length → Sorted (compN l i) ∧ (∀ d, d ∈ compN l i ↔ d ∈ l.take i)
 | 0, _ => ⟨by simp [compN, Sorted], fun d => by simp [compN]⟩
 | i + 1, hi => by
  obtain ⟨h1, h2⟩ := compN_spec h i (by omega)
  have hl : i < l.length := by omega
  have hx : l[i]? = some l[i] := List.getElem?_eq_getElem hl
  have htk : l.take (i + 1) = l.take i ++ [l[i]] := List.take_succ_eq_append_getElem hl
  unfold compN
  rw [hx]
  simp only
  split
  ·rename_i hc
   refine ⟨h1, fun d => ?_⟩
   rw [h2, htk, List.mem_append, List.mem_singleton]
   refine ⟨.inl, fun hd => hd.elim id fun hd => ?_⟩
   subst hd
   have hp : i - 1 < l.length := by omega
   have := hc.2
   rw [List.getElem?_eq_getElem hp] at this
   rw [← Option.some.inj this]
   rw [List.mem_take_iff_getElem]
   exact ⟨i - 1, by omega, rfl⟩
  ·rename_i hc
   refine ⟨?_, fun d => by rw [List.mem_append, h2, htk, List.mem_append]⟩
   rw [Sorted, List.pairwise_append]
   refine ⟨h1, by simp, fun a ha b hb => ?_⟩
   simp at hb
   subst hb
   rw [h2, List.mem_take_iff_getElem] at ha
   obtain ⟨k, hk, rfl⟩ := ha
   have hki : k < i := by omega
   rw [List.pairwise_iff_getElem] at h
   rcases LT.tri l[k] l[i] with h3 | h3 | h3
   ·exact h3
   ·exfalso
    refine hc ⟨by omega, ?_⟩
    have hp : i - 1 < l.length := by omega
    rw [List.getElem?_eq_getElem hp]
    have h4 : LE l[i - 1] l[i] := h (i - 1) i hp hl (by omega)
    have h5 : LE l[k] l[i - 1] := by
     by_cases he : k = i - 1
     ·subst he; exact LT.irrefl _
     ·exact h k (i - 1) (by omega) hp (by omega)
    rcases LT.tri l[i - 1] l[i] with h6 | h6 | h6
    ·rw [← h3] at h6; exact absurd h6 h5
    ·rw [h6]
    ·exact absurd h6 h4
   ·exact absurd h3 (h k i (by omega) hl hki)
theorem ordP_spec (l : List Dot) : Sorted (ordP l) ∧ ∀ d, d ∈ ordP l ↔ d ∈ l := by
 obtain ⟨h1, h2⟩ := sortD_sorted l
 obtain ⟨h3, h4⟩ := compN_spec h1 (sortD l).length (Nat.le_refl _)
 refine ⟨h3, fun d => ?_⟩
 have := h4 d
 rw [List.take_length, h2] at this
 exact this
theorem ordP_eq (l : List Dot) : ordP l = ordD l := Sorted.ext (ordP_spec l).1 (ordD_spec l).1 fun d => by rw [(ordP_spec l).2, (ordD_spec l).2]
theorem ordP_sorted {l : List Dot} (h : Sorted l) : ordP l = l := Sorted.ext (ordP_spec l).1 h (ordP_spec l).2
end Go.AM
namespace Go.AM
open Go.Proofs
structure Entry where
 key : ByteArray
 live : List Dot
 dead : List Dot
def entC (e : Entry) : List AV := [.s e.key, .sl .fro 2 (dotsAV e.live), .sl .fro 2 (dotsAV e.dead)]
def entsAV (l : List Entry) : List (List AV) := l.map entC
@[simp] theorem entsAV_length (l : List Entry) : (entsAV l).length = l.length := by simp [entsAV]
@[simp] theorem entsAV_getElem (l : List Entry) (i : Nat) (h : i < (entsAV l).length) : (entsAV l)[i] = [.s (l[i]'(by simpa using h)).key, .sl .fro 2 (dotsAV (l[i]'(by simpa using h)).live), .sl .fro 2 (dotsAV (l[i]'(by simpa using h)).dead)] := by simp [entsAV, entC]
def eqK (a b : ByteArray) : Bool := a.toList == b.toList
def ltK (a b : ByteArray) : Bool := Op.bytesLess a.toList b.toList
def leK (a b : ByteArray) : Bool := ltK a b || eqK a b
def keyOk (k : ByteArray) : Bool := !eqK k ByteArray.empty && decide ((k.size : Int) ≤ 32)
theorem c_rwset_right (k : ByteArray) : Pure Tryz.prog 135 [.s k] (.b (keyOk k)) := by
 refine proc_of (cx Tryz.prog 10 [0, 2] [2]) 9 [.tmp 2] Tryz.func135 rfl rfl rfl rfl rfl rfl (Nat.le_refl _) rfl ?_
 refine AWp.g [0] [] ?_
 simp
 refine AWp.step [2] [] [(2, .b (keyOk k))] [] ?_ ?_
 ·by_cases h1 : k.toList = [] <;> by_cases h2 : (k.size : Int) ≤ 32 <;> simp [h1, h2, keyOk, eqK]
 refine AWp.ret ?_
 simp
theorem c_ref08_Key (k : ByteArray) : Pure Tryz.prog 107 [.s k] (.b (keyOk k)) := by
 refine proc_of (cx Tryz.prog 10 [0, 2] [2]) 9 [.tmp 2] Tryz.func107 rfl rfl rfl rfl rfl rfl (Nat.le_refl _) rfl ?_
 refine AWp.g [0] [] ?_
 simp
 refine AWp.step [2] [] [(2, .b (keyOk k))] [] ?_ ?_
 ·by_cases h1 : k.toList = [] <;> by_cases h2 : (k.size : Int) ≤ 32 <;> simp [h1, h2, keyOk, eqK]
 refine AWp.ret ?_
 simp
def rowOk (l : List Dot) (i : Nat) : Bool := match l[i]? with
 | some d => mayD d && (!decide (0 < i) || ltD (l.getD (i - 1) (0, 0)) d)
 | none => false
def rowsB (l : List Dot) : Bool := (List.range l.length).all (rowOk l)
set_option maxRecDepth 8000 in
set_option maxHeartbeats 1000000 in
theorem c_rwset_rows (l : List Dot) (hlen : l.length ≤ 1000000) : Pure Tryz.prog 136 [.sl .fro 2 (dotsAV l)] (.b (rowsB l)) := by
 refine proc_of (cx Tryz.prog 30 [0, 2, 3, 4, 5, 6, 7, 8, 28] [2]) 29 [.tmp 2] Tryz.func136 rfl rfl rfl rfl rfl rfl (Nat.le_refl _) rfl ?_
 refine AWp.g [0] [] ?_
 simp
 refine AWp.seq ?_
 refine AWp.g [0, 5, 6, 7] [] ?_
 simp
 refine AWp.block (AWp.while (fun i : Nat => [(0, .sl .fro 2 (dotsAV l)), (5, .sl .fro 2 (dotsAV l)), (6, .i .i64 l.length), (7, .i .i64 i)]) (fun i => []) (fun i => i ≤ l.length ∧ ∀ k, k < i → rowOk l k = true) (fun i => l.length - i) [0, 5, 6, 7] [] 0 (by simp) (by simp) ?_)
 rintro i ⟨hi, hall⟩
 refine AWp.g [0, 5, 6, 7, 8] [] ?_
 simp
 refine AWp.seq ?_
 by_cases h : i < l.length
 ·refine AWp.cT (by simp [h]) ?_
  refine AWp.skip ?_
  show AWp _ _ _ _
  refine AWp.seq ?_
  refine AWp.block ?_
  refine AWp.g [0, 3, 4, 5, 6, 7] [4] ?_
  simp [h]
  show AWp _ _ _ _
  refine AWp.stepD 17 (fun k => if k = 1 then .b (mayD l[i]) else if k = 13 then .b (ltD (l.getD (i - 1) (0, 0)) l[i]) else .any) [0, 5, 6, 7, 28] [] [(0, .sl .fro 2 (dotsAV l)), (5, .sl .fro 2 (dotsAV l)), (6, .i .i64 l.length), (7, .i .i64 i), (28, .b (!rowOk l i))] [] mix (by kernel_rfl) ?_ ?_
  ·have g1 := c_dots_May l[i]
   simp [dotC] at g1
   cases q1 : mayD l[i]
   ·rw [q1] at g1
    simp [rowOk, h, q1, g1]
   rw [q1] at g1
   by_cases q3 : 0 < i
   ·obtain ⟨j, rfl⟩ : ∃ j, i = j + 1 := ⟨i - 1, by omega⟩
    have hj : j < l.length := by omega
    have w2 : IntKind.i64.wrap (j : Int) = j := wrap64 (by omega) (by omega)
    have g3 := c_dots_Less l[j] l[j + 1]
    simp [dotC] at g3
    simp [rowOk, h, hj, q1, w2, g1]
    exact g3
   ·simp [rowOk, h, q1, q3, g1]
  cases hp : rowOk l i
  ·refine AWp.cT (by simp) ?_
   refine AWp.g [2] [] ?_
   simp
   refine AWp.ret ?_
   simp [rowsB, range_not h hp]
  ·refine AWp.cF (by simp) ?_
   refine AWp.skip ?_
   show AWp _ _ _ _
   refine AWp.gL [0, 5, 6, 7] [] ?_
   simp
   refine ⟨i + 1, ⟨by omega, fun k hk => ?_⟩, by omega, ?_⟩
   ·by_cases hki : k = i
    ·subst hki; exact hp
    ·exact hall k (by omega)
   ·simp
    exact wrap64 (by omega) (by omega)
 ·refine AWp.cF (by simp [h]) ?_
  refine AWp.exit ?_
  show AWp _ _ _ _
  obtain rfl : i = l.length := by omega
  refine AWp.g [2] [] ?_
  simp
  refine AWp.ret ?_
  rw [rowsB, range_all hall]
  simp
def rowsR (l : List Dot) : Bool := l.all mayD && decide (ordD l = l)
theorem Sorted.of_adj {l : List Dot} (h : ∀ i (hi : i + 1 < l.length), LT (l[i]'(by omega)) l[i + 1]) : Sorted l := by
 induction l with
 | nil => exact List.Pairwise.nil
 | cons a l ih =>
  have hl : Sorted l := ih fun i hi => h (i + 1) (by simpa using hi)
  refine List.Pairwise.cons (fun b hb => ?_) hl
  match l, hl, hb, h with
  | c :: m, hl, hb, h =>
   have h0 : LT a c := by simpa using h 0 (by simp)
   rcases List.mem_cons.1 hb with rfl | hb
   ·exact h0
   ·exact h0.trans (List.rel_of_pairwise_cons hl hb)
theorem rowsB_iff (l : List Dot) : rowsB l = true ↔ (∀ d ∈ l, mayD d = true) ∧ Sorted l := by
 unfold rowsB
 rw [List.all_eq_true]
 constructor
 ·intro h
  refine ⟨fun d hd => ?_, Sorted.of_adj fun i hi => ?_⟩
  ·obtain ⟨k, hk, rfl⟩ := List.mem_iff_getElem.1 hd
   have := h k (by simpa using hk)
   simp [rowOk, hk] at this
   exact this.1
  ·have := h (i + 1) (by simpa using hi)
   have hi' : i < l.length := by omega
   simp [rowOk, hi, hi'] at this
   exact (ltD_iff _ _).1 this.2
 ·rintro ⟨h1, h2⟩ i hi
  have hi : i < l.length := by simpa using hi
  simp [rowOk, hi, h1 _ (List.getElem_mem hi)]
  by_cases h0 : i = 0
  ·exact .inl h0
  ·have hi' : i - 1 < l.length := by omega
   right
   simp [hi']
   exact (ltD_iff _ _).2 (List.pairwise_iff_getElem.1 h2 (i - 1) i hi' hi (by omega))
theorem rowsR_iff (l : List Dot) : rowsR l = true ↔ (∀ d ∈ l, mayD d = true) ∧ Sorted l := by
 simp [rowsR]
 intro _
 constructor
 ·intro h; rw [← h]; exact (ordD_spec l).1
 ·intro h; rw [← ordP_eq]; exact ordP_sorted h
theorem rowsB_eq (l : List Dot) : rowsB l = rowsR l := by rw [Bool.eq_iff_iff, rowsB_iff, rowsR_iff]
set_option maxRecDepth 8000 in
theorem c_ref08_Rows (l : List Dot) (hlen : l.length ≤ 1000000) : Pure Tryz.prog 108 [.sl .fro 2 (dotsAV l)] (.b (rowsB l)) := by
 rw [rowsB_eq]
 refine proc_of (cx Tryz.prog 11 [0, 2] [2]) 10 [.tmp 2] Tryz.func108 rfl rfl rfl rfl rfl rfl (Nat.le_refl _) rfl ?_
 refine AWp.g [0] [] ?_
 simp
 refine AWp.step [2] [] [(2, .b (rowsR l))] [] ?_ ?_
 ·have g1 := c_ref04_All l (by omega)
  have g2 := c_ref04_Order l (by omega)
  have g3 := c_ref04_Dots (ordD l) l (by have := ordD_length l l.length (by omega); simp at this; omega)
  simp
  refine call_pure g1 (by simp) ?_
  cases q1 : l.all mayD
  ·simp [rowsR, q1]
  ·simp [rowsR, q1]
   refine call_pure g2 (by simp) ?_
   simp
   refine call_pure g3 (by simp) ?_
   simp
 refine AWp.ret ?_
 simp
def lightE (e : Entry) : Bool := !decide ((100 : Int) < e.key.size) && !decide ((30 : Int) < e.live.length) && !decide ((30 : Int) < e.dead.length)
def lightB (s : List Entry) : Bool := s.all lightE && decide (s.length ≤ 30)
set_option maxRecDepth 8000 in
set_option maxHeartbeats 1000000 in
theorem c_law08_Light (s : List Entry) (hlen : s.length ≤ 9223372036854775807) : Pure Tryz.prog 35 [.sl .fro 3 (entsAV s)] (.b (lightB s)) := by
 refine proc_of (cx Tryz.prog 42 [0, 2, 3, 11, 38] [2]) 41 [.tmp 2] Tryz.func35 rfl rfl rfl rfl rfl rfl (Nat.le_refl _) rfl ?_
 refine AWp.g [0] [] ?_
 simp
 refine AWp.seq ?_
 refine AWp.g [0, 3] [] ?_
 simp
 refine AWp.block (AWp.while (fun i : Nat => [(0, .sl .fro 3 (entsAV s)), (3, .i .i64 i)]) (fun i => []) (fun i => i ≤ s.length ∧ ∀ k (hk : k < i) (hk2 : k < s.length), lightE s[k] = true) (fun i => s.length - i) [0, 3] [] 0 (by simp) (by simp) ?_)
 rintro i ⟨hi, hall⟩
 refine AWp.seq ?_
 refine AWp.step [0, 3, 11] [] [(0, .sl .fro 3 (entsAV s)), (3, .i .i64 i), (11, .b (decide (i < s.length) && decide (i ≤ 30)))] [] ?_ ?_
 ·by_cases h : i < s.length <;> simp [h]
  constructor <;> omega
 by_cases h : i < s.length ∧ i ≤ 30
 ·refine AWp.cT (by simp at h ⊢; omega) ?_
  refine AWp.skip ?_
  show AWp _ _ _ _
  refine AWp.seq ?_
  refine AWp.block ?_
  refine AWp.step [0, 3, 38] [] [(0, .sl .fro 3 (entsAV s)), (3, .i .i64 i), (38, .b (!lightE s[i]))] [] ?_ ?_
  ·have h1 := h.1
   by_cases q1 : (100 : Int) < s[i].key.size
   ·simp [h1, q1, lightE]
   by_cases q2 : (30 : Int) < s[i].live.length
   ·simp [h1, q1, q2, lightE]
   by_cases q3 : (30 : Int) < s[i].dead.length <;> simp [h1, q1, q2, q3, lightE]
  cases hp : lightE s[i]
  ·refine AWp.cT (by simp) ?_
   refine AWp.g [2] [] ?_
   simp
   refine AWp.ret ?_
   simp [lightB, all_not h.1 hp]
  ·refine AWp.cF (by simp) ?_
   refine AWp.skip ?_
   show AWp _ _ _ _
   refine AWp.gL [0, 3] [] ?_
   simp
   refine ⟨i + 1, ⟨by omega, fun k hk hk2 => ?_⟩, by omega, ?_⟩
   ·by_cases hki : k = i
    ·subst hki; exact hp
    ·exact hall k (by omega) hk2
   ·simp
    exact wrap64 (by omega) (by omega)
 ·refine AWp.cF (by simp at h ⊢; omega) ?_
  refine AWp.exit ?_
  show AWp _ _ _ _
  refine AWp.g [2] [] ?_
  simp
  refine AWp.ret ?_
  by_cases hs : s.length ≤ 30
  ·have : i = s.length := by omega
   rw [lightB, all_of fun k hk => hall k (by omega) hk]
   simp
   omega
  ·simp [lightB, hs]
   omega
def Fine (s : List Entry) : Prop := s.length ≤ 1000000 ∧ ∀ e ∈ s, e.live.length ≤ 1000000 ∧ e.dead.length ≤ 1000000
def entOk (p : ByteArray) (e : Entry) : Bool := keyOk e.key && !leK e.key p && !decide ((e.live.length : Int) + e.dead.length = 0) && rowsB e.live && rowsB e.dead
def prevK (s : List Entry) (i : Nat) : ByteArray := if i = 0 then ByteArray.empty else match s[i - 1]? with
 | some e => e.key
 | none => ByteArray.empty
def entAt (s : List Entry) (i : Nat) : Bool := match s[i]? with
 | some e => entOk (prevK s i) e
 | none => false
def setOk (s : List Entry) : Bool := decide ((s.length : Int) ≤ 4000) && (List.range s.length).all (entAt s)
theorem prevK_succ (s : List Entry) (i : Nat) (h : i < s.length) : prevK s (i + 1) = s[i].key := by simp [prevK, h]
set_option maxRecDepth 8000 in
set_option maxHeartbeats 2000000 in
theorem c_rwset_Check (s : List Entry) (hs : Fine s) : Pure Tryz.prog 55 [.sl .fro 3 (entsAV s)] (.i .i64 (if setOk s then 0 else 1)) := by
 refine proc_of (cx Tryz.prog 50 [0, 2, 3, 5, 8, 9, 10, 11, 12, 46] [2]) 49 [.tmp 2] Tryz.func55 rfl rfl rfl rfl rfl rfl (Nat.le_refl _) rfl ?_
 refine AWp.g [0] [] ?_
 simp
 refine AWp.seq ?_
 refine AWp.g [0, 8] [] ?_
 simp
 by_cases h : (4000 : Int) < s.length
 ·refine AWp.cT (by simp [h]) ?_
  refine AWp.g [2] [] ?_
  simp
  refine AWp.ret ?_
  simp [setOk]
  omega
 ·refine AWp.cF (by simp [h]) ?_
  refine AWp.skip ?_
  show AWp _ _ _ _
  refine AWp.g [0, 3] [] ?_
  simp
  refine AWp.seq ?_
  refine AWp.g [3, 9, 10, 11] [] ?_
  simp
  refine AWp.block (AWp.while (fun i : Nat => [(3, .s (prevK s i)), (9, .sl .fro 3 (entsAV s)), (10, .i .i64 s.length), (11, .i .i64 i)]) (fun i => []) (fun i => i ≤ s.length ∧ ∀ k, k < i → entAt s k = true) (fun i => s.length - i) [3, 9, 10, 11] [] 0 (by simp) (by simp [prevK]; rfl) ?_)
  rintro i ⟨hi, hall⟩
  refine AWp.g [3, 9, 10, 11, 12] [] ?_
  simp
  refine AWp.seq ?_
  by_cases h2 : i < s.length
  ·refine AWp.cT (by simp [h2]) ?_
   refine AWp.skip ?_
   show AWp _ _ _ _
   refine AWp.seq ?_
   refine AWp.block ?_
   refine AWp.g [3, 5, 9, 10, 11] [5] ?_
   simp [h2]
   refine AWp.seq ?_
   refine AWp.step [5, 9, 10, 11, 46] [5] [(5, .ptr 5 0), (9, .sl .fro 3 (entsAV s)), (10, .i .i64 s.length), (11, .i .i64 i), (46, .b (!entOk (prevK s i) s[i]))] [(5, [.s s[i].key, .sl .fro 2 (dotsAV s[i].live), .sl .fro 2 (dotsAV s[i].dead)])] ?_ ?_
   ·have hl := hs.2 _ (List.getElem_mem h2)
    have g1 := c_rwset_right s[i].key
    have g2 := c_rwset_rows s[i].live hl.1
    have g3 := c_rwset_rows s[i].dead hl.2
    have w1 : IntKind.i64.wrap ((s[i].live.length : Int) + s[i].dead.length) = (s[i].live.length : Int) + s[i].dead.length := wrap64 (by omega) (by omega)
    simp
    refine call_pure g1 (by simp) ?_
    cases q1 : keyOk s[i].key
    ·simp [entOk, q1]
    by_cases q2 : leK s[i].key (prevK s i) = true
    ·have q3 := q2
     simp [leK, ltK, eqK] at q2
     rcases q2 with q2 | q2 <;> simp [entOk, q1, q2, q3]
    simp at q2
    have q3 := q2
    simp [leK, ltK, eqK] at q2
    by_cases q4 : (s[i].live.length : Int) + s[i].dead.length = 0
    ·simp [entOk, q1, q2, q3, q4, w1]
    simp [q1, q2, q4, w1]
    refine call_pure g2 (by simp) ?_
    cases q5 : rowsB s[i].live
    ·simp [entOk, q5]
    simp
    refine call_pure g3 (by simp) ?_
    simp [entOk, q1, q3, q4, q5]
   cases hp : entOk (prevK s i) s[i]
   ·refine AWp.cT (by simp) ?_
    refine AWp.g [2] [] ?_
    simp
    refine AWp.ret ?_
    simp [setOk, range_not (p := entAt s) h2 (by simp [entAt, h2, hp])]
   ·refine AWp.cF (by simp) ?_
    refine AWp.skip ?_
    show AWp _ _ _ _
    refine AWp.gL [3, 9, 10, 11] [] ?_
    simp
    show AWp _ _ _ _
    refine AWp.gL [3, 9, 10, 11] [] ?_
    simp
    refine ⟨i + 1, ⟨by omega, fun k hk => ?_⟩, by omega, ?_⟩
    ·by_cases hki : k = i
     ·subst hki; simp [entAt, h2, hp]
     ·exact hall k (by omega)
    ·simp [prevK_succ s i h2]
     exact wrap64 (by omega) (by omega)
  ·refine AWp.cF (by simp [h2]) ?_
   refine AWp.exit ?_
   show AWp _ _ _ _
   obtain rfl : i = s.length := by omega
   refine AWp.g [2] [] ?_
   simp
   refine AWp.ret ?_
   rw [setOk, range_all hall]
   simp
   omega
end Go.AM
namespace Go.AM
open Go.Proofs
theorem leK_empty {k : ByteArray} (h : keyOk k = true) : leK k ByteArray.empty = false := by
 simp [keyOk, eqK] at h
 simp [leK, ltK, eqK, h.1]
 cases k.toList <;> simp_all [Op.bytesLess]
set_option maxRecDepth 8000 in
set_option maxHeartbeats 2000000 in
theorem c_ref09_May (s : List Entry) (hs : Fine s) : Pure Tryz.prog 39 [.sl .fro 3 (entsAV s)] (.b (setOk s)) := by
 refine proc_of (cx Tryz.prog 59 [0, 2, 3, 4, 8, 55] [2]) 58 [.tmp 2] Tryz.func39 rfl rfl rfl rfl rfl rfl (Nat.le_refl _) rfl ?_
 refine AWp.g [0] [] ?_
 simp
 refine AWp.seq ?_
 refine AWp.g [0, 3] [] ?_
 simp
 refine AWp.block (AWp.while (fun i : Nat => [(0, .sl .fro 3 (entsAV s)), (3, .i .i64 i)]) (fun i => []) (fun i => i ≤ s.length ∧ ∀ k, k < i → entAt s k = true) (fun i => s.length - i) [0, 3] [] 0 (by simp) (by simp) ?_)
 rintro i ⟨hi, hall⟩
 have hlen := hs.1
 refine AWp.seq ?_
 refine AWp.g [0, 3, 8] [] ?_
 simp
 by_cases h2 : i < s.length
 ·refine AWp.cT (by simp [h2]) ?_
  refine AWp.skip ?_
  show AWp _ _ _ _
  refine AWp.seq ?_
  refine AWp.block ?_
  refine AWp.g [0, 3, 4] [4] ?_
  simp [h2]
  show AWp _ _ _ _
  refine AWp.stepD 41 (fun k => if k = 2 then .b (keyOk s[i].key) else if k = 32 then .b (rowsB s[i].live) else if k = 38 then .b (rowsB s[i].dead) else .any) [0, 3, 55] [] [(0, .sl .fro 3 (entsAV s)), (3, .i .i64 i), (55, .b (!entOk (prevK s i) s[i]))] [] mix (by kernel_rfl) ?_ ?_
  ·have hl := hs.2 _ (List.getElem_mem h2)
   have g1 := c_ref08_Key s[i].key
   have g2 := c_ref08_Rows s[i].live hl.1
   have g3 := c_ref08_Rows s[i].dead hl.2
   have w1 : IntKind.i64.wrap ((s[i].live.length : Int) + s[i].dead.length) = (s[i].live.length : Int) + s[i].dead.length := wrap64 (by omega) (by omega)
   cases q1 : keyOk s[i].key
   ·rw [q1] at g1
    simp [entOk, q1, g1]
   rw [q1] at g1
   by_cases q4 : (s[i].live.length : Int) + s[i].dead.length = 0
   ·by_cases h0 : 0 < i
    ·obtain ⟨j, rfl⟩ : ∃ j, i = j + 1 := ⟨i - 1, by omega⟩
     have hj : j < s.length := by omega
     have w2 : IntKind.i64.wrap (j : Int) = j := wrap64 (by omega) (by omega)
     by_cases q2 : leK s[j + 1].key s[j].key = true
     ·have q3 := q2
      simp [leK, ltK, eqK] at q2
      rcases q2 with q2 | q2 <;> simp [entOk, q1, q2, q3, q4, w1, w2, g1, prevK, hj]
     simp at q2
     have q3 := q2
     simp [leK, ltK, eqK] at q2
     simp [entOk, q1, q2, q3, q4, w1, w2, g1, prevK, hj]
    ·simp [entOk, q1, q4, w1, g1, h0]
   by_cases h0 : 0 < i
   ·obtain ⟨j, rfl⟩ : ∃ j, i = j + 1 := ⟨i - 1, by omega⟩
    have hj : j < s.length := by omega
    have w2 : IntKind.i64.wrap (j : Int) = j := wrap64 (by omega) (by omega)
    by_cases q2 : leK s[j + 1].key s[j].key = true
    ·have q3 := q2
     simp [leK, ltK, eqK] at q2
     rcases q2 with q2 | q2 <;> simp [entOk, q1, q2, q3, q4, w1, w2, g1, prevK, hj]
    simp at q2
    have q3 := q2
    simp [leK, ltK, eqK] at q2
    cases q5 : rowsB s[j + 1].live
    ·rw [q5] at g2
     simp [entOk, q1, q2, q3, q4, q5, w1, w2, g1, g2, prevK, hj]
    rw [q5] at g2
    cases q6 : rowsB s[j + 1].dead <;> rw [q6] at g3 <;> simp [entOk, q1, q2, q3, q4, q5, q6, w1, w2, g1, g2, g3, prevK, hj]
   ·obtain rfl : i = 0 := by omega
    have q3 := leK_empty q1
    have e3 : prevK s 0 = ByteArray.empty := rfl
    cases q5 : rowsB s[0].live
    ·rw [q5] at g2
     simp [entOk, q1, q4, q5, w1, g1, g2]
    rw [q5] at g2
    cases q6 : rowsB s[0].dead <;> rw [q6] at g3 <;> simp [entOk, q1, q3, q4, q5, q6, w1, g1, g2, g3, e3]
  cases hp : entOk (prevK s i) s[i]
  ·refine AWp.cT (by simp) ?_
   refine AWp.g [2] [] ?_
   simp
   refine AWp.ret ?_
   simp [setOk, range_not (p := entAt s) h2 (by simp [entAt, h2, hp])]
  ·refine AWp.cF (by simp) ?_
   refine AWp.skip ?_
   show AWp _ _ _ _
   refine AWp.gL [0, 3] [] ?_
   simp
   refine ⟨i + 1, ⟨by omega, fun k hk => ?_⟩, by omega, ?_⟩
   ·by_cases hki : k = i
    ·subst hki; simp [entAt, h2, hp]
    ·exact hall k (by omega)
   ·simp
    exact wrap64 (by omega) (by omega)
 ·refine AWp.cF (by simp [h2]) ?_
  refine AWp.exit ?_
  show AWp _ _ _ _
  obtain rfl : i = s.length := by omega
  refine AWp.g [2] [] ?_
  simp
  refine AWp.ret ?_
  rw [setOk, range_all hall]
  simp
def sameE (a b : Entry) : Bool := eqK a.key b.key && decide (a.live = b.live) && decide (a.dead = b.dead)
def sameB (a b : List Entry) : Bool := decide (a.length = b.length) && (List.range a.length).all fun i => match a[i]?, b[i]? with
 | some x, some y => sameE x y
 | _, _ => false
set_option maxRecDepth 8000 in
set_option maxHeartbeats 2000000 in
theorem c_ref08_Same (a b : List Entry) (ha : Fine a) (hb : Fine b) : Pure Tryz.prog 74 [.sl .fro 3 (entsAV a), .sl .fro 3 (entsAV b)] (.b (sameB a b)) := by
 refine proc_of (cx Tryz.prog 56 [0, 1, 4, 5, 10, 14, 55] [4]) 54 [.tmp 4] Tryz.func74 rfl rfl rfl rfl rfl rfl (Nat.le_refl _) rfl ?_
 refine AWp.g [0, 1] [] ?_
 simp
 refine AWp.seq ?_
 refine AWp.g [0, 1, 10] [] ?_
 simp
 by_cases hab : ¬ (a.length : Int) = b.length
 ·refine AWp.cT (by simp [hab]) ?_
  refine AWp.g [4] [] ?_
  simp
  refine AWp.ret ?_
  have : ¬ a.length = b.length := by omega
  simp [sameB, this]
 ·refine AWp.cF (by simp [hab]; omega) ?_
  refine AWp.skip ?_
  show AWp _ _ _ _
  refine AWp.seq ?_
  refine AWp.g [0, 1, 5] [] ?_
  simp
  refine AWp.block (AWp.while (fun i : Nat => [(0, .sl .fro 3 (entsAV a)), (1, .sl .fro 3 (entsAV b)), (5, .i .i64 i)]) (fun i => []) (fun i => i ≤ a.length ∧ ∀ k, k < i → (match a[k]?, b[k]? with | some x, some y => sameE x y | _, _ => false) = true) (fun i => a.length - i) [0, 1, 5] [] 0 (by simp) (by simp) ?_)
  rintro i ⟨hi, hall⟩
  have hlen := ha.1
  have hab2 : a.length = b.length := by omega
  refine AWp.seq ?_
  refine AWp.g [0, 1, 5, 14] [] ?_
  simp
  by_cases h2 : i < a.length
  ·refine AWp.cT (by simp [h2]) ?_
   refine AWp.skip ?_
   show AWp _ _ _ _
   refine AWp.seq ?_
   refine AWp.block ?_
   refine AWp.stepD 39 (fun k => if k = 22 then .b (decide (a[i].live = (b[i]'(by omega)).live)) else if k = 36 then .b (decide (a[i].dead = (b[i]'(by omega)).dead)) else .any) [0, 1, 5, 55] [] [(0, .sl .fro 3 (entsAV a)), (1, .sl .fro 3 (entsAV b)), (5, .i .i64 i), (55, .b (!sameE a[i] (b[i]'(by omega))))] [] mix (by kernel_rfl) ?_ ?_
   ·have hla := ha.2 _ (List.getElem_mem h2)
    have h3 : i < b.length := by omega
    have g2 := c_ref04_Dots a[i].live b[i].live (by omega)
    have g3 := c_ref04_Dots a[i].dead b[i].dead (by omega)
    by_cases q1 : a[i].key.toList = b[i].key.toList
    ·by_cases q2 : a[i].live = b[i].live
     ·rw [q2] at g2
      by_cases q3 : a[i].dead = b[i].dead
      ·rw [q3] at g3
       simp at g2 g3
       simp [h2, h3, sameE, eqK, q1, q2, q3, g2, g3]
      ·simp [q3] at g2 g3
       simp [h2, h3, sameE, eqK, q1, q2, q3, g2, g3]
     ·simp [q2] at g2
      simp [h2, h3, sameE, eqK, q1, q2, g2]
    ·have q1' : (a[i].key.toList == b[i].key.toList) = false := by simpa using q1
     simp [h2, h3, sameE, eqK, q1']
   cases hp : sameE a[i] (b[i]'(by omega))
   ·refine AWp.cT (by simp) ?_
    refine AWp.g [4] [] ?_
    simp
    refine AWp.ret ?_
    rw [sameB, range_not (i := i) h2 (by simp [h2, show i < b.length by omega, hp])]
    simp
   ·refine AWp.cF (by simp) ?_
    refine AWp.skip ?_
    show AWp _ _ _ _
    refine AWp.gL [0, 1, 5] [] ?_
    simp
    refine ⟨i + 1, ⟨by omega, fun k hk => ?_⟩, by omega, ?_⟩
    ·by_cases hki : k = i
     ·subst hki; simp [h2, show k < b.length by omega, hp]
     ·exact hall k (by omega)
    ·simp
     exact wrap64 (by omega) (by omega)
  ·refine AWp.cF (by simp [h2]) ?_
   refine AWp.exit ?_
   show AWp _ _ _ _
   obtain rfl : i = a.length := by omega
   refine AWp.g [4] [] ?_
   simp
   refine AWp.ret ?_
   rw [sameB, range_all hall]
   simp [hab2]
def emptyE (k : ByteArray) : Entry := ⟨k, [], []⟩
def getE (s : List Entry) (k : ByteArray) : Entry := (s.find? fun e => eqK e.key k).getD (emptyE k)
theorem leftD_succ (l : List Dot) (c : List Int) (i : Nat) (h : i < l.length) : leftD (l.take (i + 1)) c = if l[i].2 ≤ getC c l[i].1 then leftD (l.take i) c else leftD (l.take i) c ++ [l[i]] := by
 unfold leftD
 rw [List.take_succ_eq_append_getElem h, List.filter_append]
 by_cases q : l[i].2 ≤ getC c l[i].1 <;> simp [q]
theorem leftD_len (l : List Dot) (c : List Int) : (leftD l c).length ≤ l.length := List.length_filter_le _ _
set_option maxRecDepth 8000 in
set_option maxHeartbeats 2000000 in
theorem c_ref08_Left (l : List Dot) (c : List Int) (hl : l.length ≤ 1000000) (hc : c.length ≤ 1000000) : Pure Tryz.prog 143 [.sl .fro 2 (dotsAV l), .sl .fro 1 (intsAV c)] (.sl .own 2 (dotsAV (leftD l c))) := by
 refine proc_of (cx Tryz.prog 35 [0, 1, 4, 5, 6, 11, 26] [4]) 33 [.tmp 4] Tryz.func143 rfl rfl rfl rfl rfl rfl (Nat.le_refl _) rfl ?_
 refine AWp.g [0, 1] [] ?_
 simp
 refine AWp.g [0, 1, 5] [] ?_
 simp
 refine AWp.seq ?_
 refine AWp.g [0, 1, 5, 6] [] ?_
 simp
 refine AWp.block (AWp.while (fun i : Nat => [(0, .sl .fro 2 (dotsAV l)), (1, .sl .fro 1 (intsAV c)), (5, .sl .own 2 (dotsAV (leftD (l.take i) c))), (6, .i .i64 i)]) (fun i => []) (fun i => i ≤ l.length) (fun i => l.length - i) [0, 1, 5, 6] [] 0 (by simp) (by simp [leftD, dotsAV]) ?_)
 intro i hi
 have hll := leftD_len (l.take i) c
 simp at hll
 refine AWp.seq ?_
 refine AWp.g [0, 1, 5, 6, 11] [] ?_
 simp
 by_cases h2 : i < l.length
 ·refine AWp.cT (by simp [h2]) ?_
  refine AWp.skip ?_
  show AWp _ _ _ _
  refine AWp.seq ?_
  refine AWp.block ?_
  refine AWp.stepD 13 (fun k => if k = 11 then .i .i64 (getC c l[i].1) else .any) [0, 1, 5, 6, 26] [] [(0, .sl .fro 2 (dotsAV l)), (1, .sl .fro 1 (intsAV c)), (5, .sl .own 2 (dotsAV (leftD (l.take i) c))), (6, .i .i64 i), (26, .b (!decide (l[i].2 ≤ getC c l[i].1)))] [] mix (by kernel_rfl) ?_ ?_
  ·have g1 := c_ref03_Get c l[i].1 (by omega)
   by_cases q1 : l[i].2 ≤ getC c l[i].1 <;> simp [h2, q1, g1]
   omega
  by_cases hp : l[i].2 ≤ getC c l[i].1
  ·refine AWp.cF (by simp; omega) ?_
   refine AWp.skip ?_
   show AWp _ _ _ _
   refine AWp.gL [0, 1, 5, 6] [] ?_
   simp
   refine ⟨i + 1, by omega, by omega, ?_⟩
   simp [leftD_succ _ _ _ h2, hp, dotsAV, dotC]
   exact wrap64 (by omega) (by omega)
  ·refine AWp.cT (by simp; omega) ?_
   refine AWp.gL [0, 1, 5, 6] [] ?_
   simp [h2]
   refine ⟨by omega, ?_⟩
   show AWp _ _ _ _
   refine AWp.gL [0, 1, 5, 6] [] ?_
   simp
   refine ⟨i + 1, by omega, by omega, ?_⟩
   simp [leftD_succ _ _ _ h2, hp, dotsAV, dotC]
   exact wrap64 (by omega) (by omega)
 ·refine AWp.cF (by simp [h2]) ?_
  refine AWp.exit ?_
  show AWp _ _ _ _
  obtain rfl : i = l.length := by omega
  refine AWp.g [4] [] ?_
  simp
  refine AWp.ret ?_
  simp
end Go.AM
namespace Go.AM
theorem pure_int {P : Program} {f : Nat} {args : List AV} {k : IntKind} {n : Int} (hf : ∃ fn c, P.funcs[f]? = some fn ∧ fn.body = some c ∧ (fn.name == "runtime.NumGoroutine") = false)
  (h : ∀ (w : World) (E : Env) (vs : Array Value), args.length = vs.size → (∀ (k : Nat) c, args[k]? = some c → Val E .no c (vs.getD k undef)) →
   Calls P f vs w fun e w' => e = .returned (.int k n) ∧ w' = w) : Pure P f args (.i k n) := by
 refine ⟨hf, fun w β ω Pub vs R hω hl hv => ?_⟩
 refine (h w _ vs hl hv).mono ?_
 rintro e w' ⟨rfl, rfl⟩
 have hω0 : ∀ bk, ω bk = none := fun bk => by
  cases hq : ω bk with
  | none => rfl
  | some q => have := hω bk q hq; cases q <;> simp [inBx] at this
 have hpl : ∀ bk, Pub bk → bk < w'.heap.size := fun bk h => (R.pub bk h).1
 refine ⟨_, ⟨w', β, fun _ => none, Pub, St.ofBoxes [], #[]⟩, rfl, rfl, ⟨⟨rfl, fun t => .any _ _, fun id cs h => (by cases h), fun bk h => ⟨hpl bk h, rfl⟩, fun bk q h => (by cases h), fun id h => (by cases h), R.gl⟩, ⟨SameOs.refl _, rfl, rfl, Nat.le_refl _, fun k hk _ => rfl, fun k q h => (by cases h), fun _ h => h, fun _ h => .inl h, fun _ _ => rfl⟩⟩, rfl, fun bk q h => (by cases h), .i _ _ _⟩
end Go.AM
namespace Go.AM
open Go.Proofs Go.Shelf Go.RowKit Go.Lib
theorem pure_cmpS {P : Program} {ρ : Ren} (L : Lays.n106 P ρ) (a b : ByteArray) : Pure P (ρ.f 106) [.s a, .s b] (.i .i64 (Lib.compareBytes a.data.toList b.data.toList)) := by
 refine pure_int ⟨_, _, L.f106, rfl, rfl⟩ fun w E vs hl hv => ?_
 have hvs : vs = #[.string a, .string b] := by
  have e0 := hv 0 _ rfl
  have e1 := hv 1 _ rfl
  have e2 : vs.getD 0 undef = .string a := by
   generalize vs.getD 0 undef = v at e0
   cases e0; rfl
  have e3 : vs.getD 1 undef = .string b := by
   generalize vs.getD 1 undef = v at e1
   cases e1; rfl
  have hsz : vs.size = 2 := hl.symm
  apply Array.ext
  ·rw [hsz]; rfl
  ·intro j hj hj2
   rw [hsz] at hj
   match j, hj with
   | 0, _ => rw [Array.getD_eq_getD_getElem?, Array.getElem?_eq_getElem (by omega)] at e2; exact e2
   | 1, _ => rw [Array.getD_eq_getD_getElem?, Array.getElem?_eq_getElem (by omega)] at e3; exact e3
 subst hvs
 exact Any.strings_Compare L a b w
end Go.AM
namespace Go.Proofs
def Tryz.cmpS_ren : Go.Shelf.Ren := ⟨fun | 106 => 203 | 213 => 225 | 265 => 238 | n => n, fun | 3 => 3 | 9 => 9 | n => n, fun | n => n⟩
theorem Tryz.cmpS : Lays.n106 Tryz.prog Tryz.cmpS_ren := {
 mixed := by kernel_rfl,
 f106 := Tryz.func203.trans (congrArg some (by kernel_rfl)),
 f213 := Tryz.func225.trans (congrArg some (by kernel_rfl)),
 f265 := Tryz.func238.trans (congrArg some (by kernel_rfl)),
 t3 := Tryz.underlying3,
 a3 := Tryz.isAgg3,
 z3 := Tryz.sizeOf3,
 v3 := Tryz.zeroValue3,
 t9 := Tryz.underlying9,
 a9 := Tryz.isAgg9,
 z9 := Tryz.sizeOf9,
 v9 := Tryz.zeroValue9 }
end Go.Proofs
namespace Go.AM
open Go.Proofs
def cmpK (a b : ByteArray) : Int := Lib.compareBytes a.data.toList b.data.toList
theorem c_Compare (a b : ByteArray) : Pure Tryz.prog 203 [.s a, .s b] (.i .i64 (cmpK a b)) := pure_cmpS Tryz.cmpS a b
def bsF (p : Nat → Bool) (lo hi : Nat) : Nat := if lo < hi then (if p ((lo + hi) / 2) then bsF p ((lo + hi) / 2 + 1) hi else bsF p lo ((lo + hi) / 2)) else lo
termination_by hi - lo
decreasing_by all_goals omega
theorem bsF_le (p : Nat → Bool) (lo hi : Nat) (h : lo ≤ hi) : bsF p lo hi ≤ hi := by
 induction lo, hi using bsF.induct p with
 | case1 lo hi h1 h2 ih => rw [bsF, if_pos h1, if_pos h2]; exact ih (by omega)
 | case2 lo hi h1 h2 ih => rw [bsF, if_pos h1, if_neg h2]; have := ih (by omega); omega
 | case3 lo hi h1 => rw [bsF, if_neg h1]; exact h
theorem bsF_done (p : Nat → Bool) (n : Nat) : bsF p n n = n := by rw [bsF, if_neg (Nat.lt_irrefl n)]
theorem mid_wrap {lo hi m : Nat} (h : lo + hi ≤ 4611686018427387904) (hm : m = (lo + hi) / 2) : IntKind.i64.wrap ((IntKind.u64.wrap ((lo : Int) + hi)).fdiv (2 ^ min 1 IntKind.u64.bits)) = m := by
 have w1 : IntKind.u64.wrap ((lo : Int) + hi) = lo + hi := by
  unfold IntKind.wrap
  simp [IntKind.bits, IntKind.signed]
  omega
 have e1 : (2 : Int) ^ min 1 IntKind.u64.bits = 2 := rfl
 rw [w1, e1, Int.fdiv_eq_ediv_of_nonneg _ (by omega), show ((lo : Int) + hi) / 2 = (m : Int) by omega]
 exact wrap64 (by omega) (by omega)
def less (s : List Entry) (k : ByteArray) (i : Nat) : Bool := match s[i]? with
 | some e => decide (cmpK e.key k < 0)
 | none => false
def place (s : List Entry) (k : ByteArray) : Nat := bsF (less s k) 0 s.length
def there (s : List Entry) (k : ByteArray) : Bool := match s[place s k]? with
 | some e => decide (cmpK e.key k = 0)
 | none => false
def atE (s : List Entry) (k : ByteArray) : Entry := if there s k then s.getD (place s k) (emptyE k) else emptyE k
theorem place_le (s : List Entry) (k : ByteArray) : place s k ≤ s.length := bsF_le _ _ _ (Nat.zero_le _)
theorem there_lt {s : List Entry} {k : ByteArray} (h : there s k = true) : place s k < s.length := by
 unfold there at h
 by_cases hq : place s k < s.length
 ·exact hq
 ·rw [List.getElem?_eq_none (by omega)] at h
  cases h
theorem c_Clone_Entry (s : List Entry) (hs : Fine s) : Pure Tryz.prog 176 [.sl .fro 3 (entsAV s)] (.sl .own 3 (entsAV s)) := by
 have hlen := hs.1
 refine proc_of (cx Tryz.prog 8 [0, 2, 4] [2]) 7 [.tmp 2] Tryz.func176 rfl rfl rfl rfl rfl rfl (Nat.le_refl _) rfl ?_
 refine AWp.g [0] [] ?_
 simp
 refine AWp.seq ?_
 refine AWp.g [0, 4] [] ?_
 simp
 refine ⟨fun h0 => ?_, ?_⟩
 ·refine AWp.cT (by simp) ?_
  refine AWp.g [2] [] ?_
  simp
  refine AWp.ret ?_
  simp [h0]
 ·refine AWp.cF (by simp) ?_
  refine AWp.skip ?_
  show AWp _ _ _ _
  refine AWp.g [2] [] ?_
  simp
  refine ⟨by omega, ?_⟩
  refine AWp.ret ?_
  simp
theorem entC_ok : EncOk entC 3 := ⟨fun _ => rfl, fun x c hc => by simp [entC] at hc; rcases hc with rfl | rfl | rfl <;> rfl⟩
theorem entR_get (l : List Entry) (pad : List AV) (i : Nat) (h : i < l.length) : ((boxR entC l pad).drop (i * 3)).take 3 = [.s l[i].key, .sl .fro 2 (dotsAV l[i].live), .sl .fro 2 (dotsAV l[i].dead)] := boxR_get entC_ok l pad i h
theorem take3_1 {x y z : AV} {L : List AV} {j : Nat} (h : (L.drop j).take 3 = [x, y, z]) : L[j + 1]? = some y ∧ L[j + 2]? = some z := by
 have e : ∀ n, L[j + n]? = (L.drop j)[n]? := fun n => by rw [List.getElem?_drop]
 rw [e, e]
 match L.drop j, h with
 | [], h => simp at h
 | [_], h => simp at h
 | [_, _], h => simp at h
 | a :: b :: c :: m, h => simp at h; simp [h.2.1, h.2.2]
theorem put_same {L : List AV} {j : Nat} {y : AV} (h : L[j]? = some y) : L.take j ++ y :: L.drop (j + 1) = L := by
 obtain ⟨hj, h⟩ := List.getElem?_eq_some_iff.1 h
 subst h
 rw [← List.drop_eq_getElem_cons hj, List.take_append_drop]
theorem set_same {L : List AV} {j : Nat} {y : AV} (h : L[j]? = some y) : L.set j y = L := by
 obtain ⟨hj, h⟩ := List.getElem?_eq_some_iff.1 h
 subst h
 exact List.set_getElem_self hj
theorem ents_dat (l : List Entry) : ((entsAV l).flatten.all fun c => c.data && c.cellOk) = true := by
 rw [List.all_eq_true]
 intro c hc
 obtain ⟨y, hy, hc⟩ := List.mem_flatten.1 hc
 obtain ⟨x, _, rfl⟩ := List.mem_map.1 hy
 simp [entC] at hc
 rcases hc with rfl | rfl | rfl <;> rfl
set_option maxRecDepth 8000 in
set_option maxHeartbeats 4000000 in
theorem c_rwset_copied1 (s : List Entry) (hs : Fine s) (hne : s ≠ []) : Pure Tryz.prog 150 [.sl .fro 3 (entsAV s)] (.sl .own 3 (entsAV s)) := by
 refine proc_of (cx Tryz.prog 34 [0, 2, 3, 4, 8, 9, 10] [2]) 33 [.tmp 2] Tryz.func150 rfl rfl rfl rfl rfl rfl (Nat.le_refl _) rfl ?_
 refine AWp.g [0] [] ?_
 simp
 refine AWp.g [3] [] ?_
 simp
 refine call_p (c_Clone_Entry s hs) ?_
 simp
 refine AWp.unown 3 100 rfl (by simp) (by simpa [entsAV] using hne) rfl (by simp) fun cap hcap => ?_
 simp at hcap
 have hlen := hs.1
 have hcc : Calm (boxR entC s (List.replicate ((cap - s.length) * 3) AV.any)) := boxR_calm entC_ok (Calm.replicate _ rfl)
 have hbl := boxR_len entC_ok s (List.replicate ((cap - s.length) * 3) AV.any)
 simp at hbl
 have e0 : (entsAV s).flatten ++ List.replicate ((cap - s.length) * 3) AV.any = boxR entC s (List.replicate ((cap - s.length) * 3) AV.any) := rfl
 simp [e0, hcc]
 refine AWp.seq ?_
 refine AWp.g [3, 8, 9] [100] ?_
 simp [hcc]
 refine AWp.block (AWp.while (fun i : Nat => [(3, .bs 100 0 s.length cap), (8, .i .i64 s.length), (9, .i .i64 i)]) (fun i => [(100, boxR entC s (List.replicate ((cap - s.length) * 3) AV.any))]) (fun i => i ≤ s.length) (fun i => s.length - i) [3, 8, 9] [100] 0 (by simp) (by simp [hcc]) ?_)
 intro i hi
 refine AWp.g [3, 8, 9, 10] [100] ?_
 simp [hcc]
 refine AWp.seq ?_
 by_cases h2 : i < s.length
 ·refine AWp.cT (by simp [h2]) ?_
  refine AWp.skip ?_
  show AWp _ _ _ _
  refine AWp.seq ?_
  refine AWp.block ?_
  refine AWp.g [3, 4, 8, 9] [100] ?_
  simp [hcc]
  have hl := hs.2 _ (List.getElem_mem h2)
  have g1 := (c_Clone_Dot (dotsAV s[i].live) (by simp; omega)).fro
  have g2 := (c_Clone_Dot (dotsAV s[i].dead) (by simp; omega)).fro
  have q0 := entR_get s (List.replicate ((cap - s.length) * 3) AV.any) i h2
  have q1 := (take3_1 q0).1
  have q2 := (take3_1 q0).2
  have q3 := put_same q1
  have q4 := put_same q2
  have q5 := set_same q1
  have q6 := set_same q2
  refine AWp.lastT (.take 0 (.take 1 (.take 2 (.take 3 (.take 4 (.take 5 (.take 10 (.take 11 (.alt 6 (.take 7 (.alt 8 (.alt 9 (.alt 12 (.take 13 (.alt 14 (.alt 15 (.alt 16 (.take 17 (.alt 18 (.alt 19 (.take 20 (.alt 21 .fin .stop)) .stop) .stop)) .stop) .stop) .stop)) .stop) (.alt 12 (.take 13 (.alt 9 (.alt 14 (.alt 15 (.alt 16 (.take 17 (.alt 18 (.alt 19 (.take 20 (.alt 21 .fin .stop)) .stop) .stop)) .stop) .stop) .stop) (.alt 14 (.alt 9 (.alt 15 (.alt 16 (.take 17 (.alt 18 (.alt 19 (.take 20 (.alt 21 .fin .stop)) .stop) .stop)) .stop) .stop) .stop) .stop))) .stop)) (.alt 12 (.take 13 (.alt 8 (.alt 9 (.alt 14 (.alt 15 (.alt 16 (.take 17 (.alt 18 (.alt 19 (.take 20 (.alt 21 .fin .stop)) .stop) .stop)) .stop) .stop) .stop) (.alt 14 (.alt 9 (.alt 15 (.alt 16 (.take 17 (.alt 18 (.alt 19 (.take 20 (.alt 21 .fin .stop)) .stop) .stop)) .stop) .stop) .stop) .stop)) (.alt 14 (.alt 8 (.alt 9 (.alt 15 (.alt 16 (.take 17 (.alt 18 (.alt 19 (.take 20 (.alt 21 .fin .stop)) .stop) .stop)) .stop) .stop) .stop) .stop) .stop))) .stop))) (.alt 12 (.take 13 (.alt 6 (.take 7 (.alt 8 (.alt 9 (.alt 14 (.alt 15 (.alt 16 (.take 17 (.alt 18 (.alt 19 (.take 20 (.alt 21 .fin .stop)) .stop) .stop)) .stop) .stop) .stop) (.alt 14 (.alt 9 (.alt 15 (.alt 16 (.take 17 (.alt 18 (.alt 19 (.take 20 (.alt 21 .fin .stop)) .stop) .stop)) .stop) .stop) .stop) .stop)) (.alt 14 (.alt 8 (.alt 9 (.alt 15 (.alt 16 (.take 17 (.alt 18 (.alt 19 (.take 20 (.alt 21 .fin .stop)) .stop) .stop)) .stop) .stop) .stop) .stop) .stop))) (.alt 14 (.alt 6 (.take 7 (.alt 8 (.alt 9 (.alt 15 (.alt 16 (.take 17 (.alt 18 (.alt 19 (.take 20 (.alt 21 .fin .stop)) .stop) .stop)) .stop) .stop) .stop) .stop)) .stop) .stop))) .stop)))))))))) [3, 8, 9] [100] [(3, .bs 100 0 s.length cap), (8, .i .i64 s.length), (9, .i .i64 i)] [(100, boxR entC s (List.replicate ((cap - s.length) * 3) AV.any))] mix (by kernel_rfl) ?_ ?_
  ·refine atree.t ?_
   simp [h2, hcc, hbl, q1, q2, q3, q4, q5, q6]
   refine atree.t ?_
   simp [h2, hcc, hbl, q1, q2, q3, q4, q5, q6]
   refine atree.t ?_
   simp [h2, hcc, hbl, q1, q2, q3, q4, q5, q6]
   refine atree.t ?_
   simp [h2, hcc, hbl, q1, q2, q3, q4, q5, q6]
   refine atree.t ?_
   simp [h2, hcc, hbl, q1, q2, q3, q4, q5, q6]
   refine atree.t ?_
   simp [h2, hcc, hbl, q1, q2, q3, q4, q5, q6]
   refine atree.t ?_
   simp [h2, hcc, hbl, q1, q2, q3, q4, q5, q6]
   refine atree.t ?_
   simp [h2, hcc, hbl, q1, q2, q3, q4, q5, q6]
   refine atree.b ?_ ?_
   ·simp [h2, hcc, hbl, q1, q2, q3, q4, q5, q6]
    refine atree.t ?_
    simp [h2, hcc, hbl, q1, q2, q3, q4, q5, q6]
    refine atree.b ?_ ?_
    ·simp [h2, hcc, hbl, q1, q2, q3, q4, q5, q6]
     refine ⟨by omega, ?_⟩
     refine atree.b ?_ ?_
     ·simp [h2, hcc, hbl, q1, q2, q3, q4, q5, q6]
      refine call_pure g1 (by simp) ?_
      simp
      refine atree.a ?_
      simp [h2, hcc, hbl, q1, q2, q3, q4, q5, q6]
      refine atree.t ?_
      simp [h2, hcc, hbl, q1, q2, q3, q4, q5, q6]
      refine atree.a ?_
      simp [h2, hcc, hbl, q1, q2, q3, q4, q5, q6]
      refine ⟨by omega, ?_⟩
      refine atree.a ?_
      simp [h2, hcc, hbl, q1, q2, q3, q4, q5, q6]
      refine call_pure g2 (by simp) ?_
      simp
      refine atree.a ?_
      simp [h2, hcc, hbl, q1, q2, q3, q4, q5, q6]
      refine atree.t ?_
      simp [h2, hcc, hbl, q1, q2, q3, q4, q5, q6]
      refine atree.a ?_
      simp [h2, hcc, hbl, q1, q2, q3, q4, q5, q6]
      refine ⟨by omega, ?_⟩
      refine atree.a ?_
      simp [h2, hcc, hbl, q1, q2, q3, q4, q5, q6]
      refine atree.t ?_
      simp [h2, hcc, hbl, q1, q2, q3, q4, q5, q6]
      refine atree.a ?_
      simp [h2, hcc, hbl, q1, q2, q3, q4, q5, q6]
      refine ⟨by omega, ?_⟩
      refine atree.f ?_
      simp [hcc]
     ·refine atree.a ?_
      simp [h2, hcc, hbl, q1, q2, q3, q4, q5, q6]
      refine atree.t ?_
      simp [h2, hcc, hbl, q1, q2, q3, q4, q5, q6]
      refine atree.b ?_ ?_
      ·simp [h2, hcc, hbl, q1, q2, q3, q4, q5, q6]
       refine call_pure g1 (by simp) ?_
       simp
       refine atree.a ?_
       simp [h2, hcc, hbl, q1, q2, q3, q4, q5, q6]
       refine ⟨by omega, ?_⟩
       refine atree.a ?_
       simp [h2, hcc, hbl, q1, q2, q3, q4, q5, q6]
       refine call_pure g2 (by simp) ?_
       simp
       refine atree.a ?_
       simp [h2, hcc, hbl, q1, q2, q3, q4, q5, q6]
       refine atree.t ?_
       simp [h2, hcc, hbl, q1, q2, q3, q4, q5, q6]
       refine atree.a ?_
       simp [h2, hcc, hbl, q1, q2, q3, q4, q5, q6]
       refine ⟨by omega, ?_⟩
       refine atree.a ?_
       simp [h2, hcc, hbl, q1, q2, q3, q4, q5, q6]
       refine atree.t ?_
       simp [h2, hcc, hbl, q1, q2, q3, q4, q5, q6]
       refine atree.a ?_
       simp [h2, hcc, hbl, q1, q2, q3, q4, q5, q6]
       refine ⟨by omega, ?_⟩
       refine atree.f ?_
       simp [hcc]
      ·refine atree.a ?_
       simp [h2, hcc, hbl, q1, q2, q3, q4, q5, q6]
       refine ⟨by omega, ?_⟩
       refine atree.a ?_
       simp [h2, hcc, hbl, q1, q2, q3, q4, q5, q6]
       refine call_pure g1 (by simp) ?_
       simp
       refine atree.a ?_
       simp [h2, hcc, hbl, q1, q2, q3, q4, q5, q6]
       refine call_pure g2 (by simp) ?_
       simp
       refine atree.a ?_
       simp [h2, hcc, hbl, q1, q2, q3, q4, q5, q6]
       refine atree.t ?_
       simp [h2, hcc, hbl, q1, q2, q3, q4, q5, q6]
       refine atree.a ?_
       simp [h2, hcc, hbl, q1, q2, q3, q4, q5, q6]
       refine ⟨by omega, ?_⟩
       refine atree.a ?_
       simp [h2, hcc, hbl, q1, q2, q3, q4, q5, q6]
       refine atree.t ?_
       simp [h2, hcc, hbl, q1, q2, q3, q4, q5, q6]
       refine atree.a ?_
       simp [h2, hcc, hbl, q1, q2, q3, q4, q5, q6]
       refine ⟨by omega, ?_⟩
       refine atree.f ?_
       simp [hcc]
    ·refine atree.a ?_
     simp [h2, hcc, hbl, q1, q2, q3, q4, q5, q6]
     refine atree.t ?_
     simp [h2, hcc, hbl, q1, q2, q3, q4, q5, q6]
     refine atree.b ?_ ?_
     ·simp [h2, hcc, hbl, q1, q2, q3, q4, q5, q6]
      refine ⟨by omega, ?_⟩
      refine atree.b ?_ ?_
      ·simp [h2, hcc, hbl, q1, q2, q3, q4, q5, q6]
       refine call_pure g1 (by simp) ?_
       simp
       refine atree.a ?_
       simp [h2, hcc, hbl, q1, q2, q3, q4, q5, q6]
       refine ⟨by omega, ?_⟩
       refine atree.a ?_
       simp [h2, hcc, hbl, q1, q2, q3, q4, q5, q6]
       refine call_pure g2 (by simp) ?_
       simp
       refine atree.a ?_
       simp [h2, hcc, hbl, q1, q2, q3, q4, q5, q6]
       refine atree.t ?_
       simp [h2, hcc, hbl, q1, q2, q3, q4, q5, q6]
       refine atree.a ?_
       simp [h2, hcc, hbl, q1, q2, q3, q4, q5, q6]
       refine ⟨by omega, ?_⟩
       refine atree.a ?_
       simp [h2, hcc, hbl, q1, q2, q3, q4, q5, q6]
       refine atree.t ?_
       simp [h2, hcc, hbl, q1, q2, q3, q4, q5, q6]
       refine atree.a ?_
       simp [h2, hcc, hbl, q1, q2, q3, q4, q5, q6]
       refine ⟨by omega, ?_⟩
       refine atree.f ?_
       simp [hcc]
      ·refine atree.a ?_
       simp [h2, hcc, hbl, q1, q2, q3, q4, q5, q6]
       refine ⟨by omega, ?_⟩
       refine atree.a ?_
       simp [h2, hcc, hbl, q1, q2, q3, q4, q5, q6]
       refine call_pure g1 (by simp) ?_
       simp
       refine atree.a ?_
       simp [h2, hcc, hbl, q1, q2, q3, q4, q5, q6]
       refine call_pure g2 (by simp) ?_
       simp
       refine atree.a ?_
       simp [h2, hcc, hbl, q1, q2, q3, q4, q5, q6]
       refine atree.t ?_
       simp [h2, hcc, hbl, q1, q2, q3, q4, q5, q6]
       refine atree.a ?_
       simp [h2, hcc, hbl, q1, q2, q3, q4, q5, q6]
       refine ⟨by omega, ?_⟩
       refine atree.a ?_
       simp [h2, hcc, hbl, q1, q2, q3, q4, q5, q6]
       refine atree.t ?_
       simp [h2, hcc, hbl, q1, q2, q3, q4, q5, q6]
       refine atree.a ?_
       simp [h2, hcc, hbl, q1, q2, q3, q4, q5, q6]
       refine ⟨by omega, ?_⟩
       refine atree.f ?_
       simp [hcc]
     ·refine atree.a ?_
      simp [h2, hcc, hbl, q1, q2, q3, q4, q5, q6]
      refine ⟨by omega, ?_⟩
      refine atree.a ?_
      simp [h2, hcc, hbl, q1, q2, q3, q4, q5, q6]
      refine ⟨by omega, ?_⟩
      refine atree.a ?_
      simp [h2, hcc, hbl, q1, q2, q3, q4, q5, q6]
      refine call_pure g1 (by simp) ?_
      simp
      refine atree.a ?_
      simp [h2, hcc, hbl, q1, q2, q3, q4, q5, q6]
      refine call_pure g2 (by simp) ?_
      simp
      refine atree.a ?_
      simp [h2, hcc, hbl, q1, q2, q3, q4, q5, q6]
      refine atree.t ?_
      simp [h2, hcc, hbl, q1, q2, q3, q4, q5, q6]
      refine atree.a ?_
      simp [h2, hcc, hbl, q1, q2, q3, q4, q5, q6]
      refine ⟨by omega, ?_⟩
      refine atree.a ?_
      simp [h2, hcc, hbl, q1, q2, q3, q4, q5, q6]
      refine atree.t ?_
      simp [h2, hcc, hbl, q1, q2, q3, q4, q5, q6]
      refine atree.a ?_
      simp [h2, hcc, hbl, q1, q2, q3, q4, q5, q6]
      refine ⟨by omega, ?_⟩
      refine atree.f ?_
      simp [hcc]
   ·refine atree.a ?_
    simp [h2, hcc, hbl, q1, q2, q3, q4, q5, q6]
    refine atree.t ?_
    simp [h2, hcc, hbl, q1, q2, q3, q4, q5, q6]
    refine atree.b ?_ ?_
    ·simp [h2, hcc, hbl, q1, q2, q3, q4, q5, q6]
     refine atree.t ?_
     simp [h2, hcc, hbl, q1, q2, q3, q4, q5, q6]
     refine atree.b ?_ ?_
     ·simp [h2, hcc, hbl, q1, q2, q3, q4, q5, q6]
      refine ⟨by omega, ?_⟩
      refine atree.b ?_ ?_
      ·simp [h2, hcc, hbl, q1, q2, q3, q4, q5, q6]
       refine call_pure g1 (by simp) ?_
       simp
       refine atree.a ?_
       simp [h2, hcc, hbl, q1, q2, q3, q4, q5, q6]
       refine ⟨by omega, ?_⟩
       refine atree.a ?_
       simp [h2, hcc, hbl, q1, q2, q3, q4, q5, q6]
       refine call_pure g2 (by simp) ?_
       simp
       refine atree.a ?_
       simp [h2, hcc, hbl, q1, q2, q3, q4, q5, q6]
       refine atree.t ?_
       simp [h2, hcc, hbl, q1, q2, q3, q4, q5, q6]
       refine atree.a ?_
       simp [h2, hcc, hbl, q1, q2, q3, q4, q5, q6]
       refine ⟨by omega, ?_⟩
       refine atree.a ?_
       simp [h2, hcc, hbl, q1, q2, q3, q4, q5, q6]
       refine atree.t ?_
       simp [h2, hcc, hbl, q1, q2, q3, q4, q5, q6]
       refine atree.a ?_
       simp [h2, hcc, hbl, q1, q2, q3, q4, q5, q6]
       refine ⟨by omega, ?_⟩
       refine atree.f ?_
       simp [hcc]
      ·refine atree.a ?_
       simp [h2, hcc, hbl, q1, q2, q3, q4, q5, q6]
       refine ⟨by omega, ?_⟩
       refine atree.a ?_
       simp [h2, hcc, hbl, q1, q2, q3, q4, q5, q6]
       refine call_pure g1 (by simp) ?_
       simp
       refine atree.a ?_
       simp [h2, hcc, hbl, q1, q2, q3, q4, q5, q6]
       refine call_pure g2 (by simp) ?_
       simp
       refine atree.a ?_
       simp [h2, hcc, hbl, q1, q2, q3, q4, q5, q6]
       refine atree.t ?_
       simp [h2, hcc, hbl, q1, q2, q3, q4, q5, q6]
       refine atree.a ?_
       simp [h2, hcc, hbl, q1, q2, q3, q4, q5, q6]
       refine ⟨by omega, ?_⟩
       refine atree.a ?_
       simp [h2, hcc, hbl, q1, q2, q3, q4, q5, q6]
       refine atree.t ?_
       simp [h2, hcc, hbl, q1, q2, q3, q4, q5, q6]
       refine atree.a ?_
       simp [h2, hcc, hbl, q1, q2, q3, q4, q5, q6]
       refine ⟨by omega, ?_⟩
       refine atree.f ?_
       simp [hcc]
     ·refine atree.a ?_
      simp [h2, hcc, hbl, q1, q2, q3, q4, q5, q6]
      refine ⟨by omega, ?_⟩
      refine atree.a ?_
      simp [h2, hcc, hbl, q1, q2, q3, q4, q5, q6]
      refine ⟨by omega, ?_⟩
      refine atree.a ?_
      simp [h2, hcc, hbl, q1, q2, q3, q4, q5, q6]
      refine call_pure g1 (by simp) ?_
      simp
      refine atree.a ?_
      simp [h2, hcc, hbl, q1, q2, q3, q4, q5, q6]
      refine call_pure g2 (by simp) ?_
      simp
      refine atree.a ?_
      simp [h2, hcc, hbl, q1, q2, q3, q4, q5, q6]
      refine atree.t ?_
      simp [h2, hcc, hbl, q1, q2, q3, q4, q5, q6]
      refine atree.a ?_
      simp [h2, hcc, hbl, q1, q2, q3, q4, q5, q6]
      refine ⟨by omega, ?_⟩
      refine atree.a ?_
      simp [h2, hcc, hbl, q1, q2, q3, q4, q5, q6]
      refine atree.t ?_
      simp [h2, hcc, hbl, q1, q2, q3, q4, q5, q6]
      refine atree.a ?_
      simp [h2, hcc, hbl, q1, q2, q3, q4, q5, q6]
      refine ⟨by omega, ?_⟩
      refine atree.f ?_
      simp [hcc]
    ·refine atree.a ?_
     simp [h2, hcc, hbl, q1, q2, q3, q4, q5, q6]
     refine ⟨by omega, ?_⟩
     refine atree.a ?_
     simp [h2, hcc, hbl, q1, q2, q3, q4, q5, q6]
     refine atree.t ?_
     simp [h2, hcc, hbl, q1, q2, q3, q4, q5, q6]
     refine atree.a ?_
     simp [h2, hcc, hbl, q1, q2, q3, q4, q5, q6]
     refine ⟨by omega, ?_⟩
     refine atree.a ?_
     simp [h2, hcc, hbl, q1, q2, q3, q4, q5, q6]
     refine call_pure g1 (by simp) ?_
     simp
     refine atree.a ?_
     simp [h2, hcc, hbl, q1, q2, q3, q4, q5, q6]
     refine call_pure g2 (by simp) ?_
     simp
     refine atree.a ?_
     simp [h2, hcc, hbl, q1, q2, q3, q4, q5, q6]
     refine atree.t ?_
     simp [h2, hcc, hbl, q1, q2, q3, q4, q5, q6]
     refine atree.a ?_
     simp [h2, hcc, hbl, q1, q2, q3, q4, q5, q6]
     refine ⟨by omega, ?_⟩
     refine atree.a ?_
     simp [h2, hcc, hbl, q1, q2, q3, q4, q5, q6]
     refine atree.t ?_
     simp [h2, hcc, hbl, q1, q2, q3, q4, q5, q6]
     refine atree.a ?_
     simp [h2, hcc, hbl, q1, q2, q3, q4, q5, q6]
     refine ⟨by omega, ?_⟩
     refine atree.f ?_
     simp [hcc]
  show AWp _ _ _ _
  refine AWp.gL [3, 8, 9] [100] ?_
  simp [hcc]
  refine ⟨i + 1, by omega, by omega, ?_⟩
  simp [hcc]
  exact wrap64 (by omega) (by omega)
 ·refine AWp.cF (by simp [h2]) ?_
  refine AWp.exit ?_
  show AWp _ _ _ _
  obtain rfl : i = s.length := by omega
  have hrl : ((entsAV s).flatten).length = s.length * 3 := rows_len entC_ok s
  refine AWp.reown 3 100 cap (sz := 3) (entsAV s) (List.replicate ((cap - s.length) * 3) AV.any) (by simp) (by simp) rfl ?_ (fun z hz => ?_) (ents_dat s) hcc.freeL ?_
  ·rw [List.length_append, hrl, List.length_replicate]; omega
  ·obtain ⟨x, _, rfl⟩ := List.mem_map.1 hz; rfl
  simp
  refine AWp.g [2] [100] ?_
  simp [hcc]
  refine AWp.ret ?_
  simp
set_option maxRecDepth 8000 in
theorem c_rwset_copied0 : Pure Tryz.prog 150 [.sl .fro 3 []] (.sl .own 3 []) := by
 refine proc_of (cx Tryz.prog 34 [0, 2, 3, 4, 8, 9, 10] [2]) 33 [.tmp 2] Tryz.func150 rfl rfl rfl rfl rfl rfl (Nat.le_refl _) rfl ?_
 refine AWp.g [0] [] ?_
 simp
 refine AWp.g [3] [] ?_
 simp
 refine call_pure (c_Clone_Entry [] ⟨by simp, by simp⟩) (by simp [entsAV]) ?_
 simp
 refine AWp.seq ?_
 refine AWp.g [3, 8, 9] [] ?_
 simp
 refine AWp.block (AWp.while (fun i : Nat => [(3, .sl .own 3 []), (8, .i .i64 0), (9, .i .i64 0)]) (fun i => []) (fun i => True) (fun i => 0) [3, 8, 9] [] 0 (by simp) (by simp [entsAV]) ?_)
 intro i hi
 refine AWp.g [3, 8, 9, 10] [] ?_
 simp
 refine AWp.seq ?_
 refine AWp.cF (by simp) ?_
 refine AWp.exit ?_
 show AWp _ _ _ _
 refine AWp.g [2] [] ?_
 simp
 refine AWp.ret ?_
 simp
theorem c_rwset_copied (s : List Entry) (hs : Fine s) : Pure Tryz.prog 150 [.sl .fro 3 (entsAV s)] (.sl .own 3 (entsAV s)) := by
 by_cases h : s = []
 ·subst h; exact c_rwset_copied0
 ·exact c_rwset_copied1 s hs h
end Go.AM
namespace Go.AM
open Go.Proofs
structure Nt where
 key : ByteArray
 t : Int
 rep : Int
 word : ByteArray
def ntC (x : Nt) : List AV := [.s x.key, .i .i64 x.t, .i .i64 x.rep, .s x.word]
def ntsAV (l : List Nt) : List (List AV) := l.map ntC
@[simp] theorem ntsAV_length (l : List Nt) : (ntsAV l).length = l.length := by simp [ntsAV]
@[simp] theorem ntsAV_getElem (l : List Nt) (i : Nat) (h : i < (ntsAV l).length) : (ntsAV l)[i] = [.s (l[i]'(by simpa using h)).key, .i .i64 (l[i]'(by simpa using h)).t, .i .i64 (l[i]'(by simpa using h)).rep, .s (l[i]'(by simpa using h)).word] := by simp [ntsAV, ntC]
def oneN (n : Nt) : Bool := keyOk n.key && decide (1 ≤ n.t) && decide (n.t ≤ 1099511627776) && decide (1 ≤ n.rep) && decide (n.rep ≤ 5) && decide ((n.word.size : Int) ≤ 64)
set_option maxRecDepth 8000 in
theorem c_ref12_One (n : Nt) : Pure Tryz.prog 109 [.agg [.s n.key, .i .i64 n.t, .i .i64 n.rep, .s n.word]] (.b (oneN n)) := by
 refine proc_of (cx Tryz.prog 38 [1, 2] [2]) 37 [.tmp 2] Tryz.func109 rfl rfl rfl rfl rfl rfl (Nat.le_refl _) rfl ?_
 refine AWp.g [1] [1] ?_
 simp
 refine AWp.step [2] [] [(2, .b (oneN n))] [] ?_ ?_
 ·by_cases p1 : n.key.toList = []
  ·simp [oneN, keyOk, eqK, p1]
  by_cases p2 : (n.key.size : Int) ≤ 32
  case neg => simp [oneN, keyOk, eqK, p1, p2]
  by_cases p3 : 1 ≤ n.t
  case neg => simp [oneN, keyOk, eqK, p1, p2, p3]
  by_cases p4 : n.t ≤ 1099511627776
  case neg => simp [oneN, keyOk, eqK, p1, p2, p3, p4]
  by_cases p5 : 1 ≤ n.rep
  case neg => simp [oneN, keyOk, eqK, p1, p2, p3, p4, p5]
  by_cases p6 : n.rep ≤ 5
  case neg => simp [oneN, keyOk, eqK, p1, p2, p3, p4, p5, p6]
  simp [oneN, keyOk, eqK, p1, p2, p3, p4, p5, p6]
 refine AWp.ret ?_
 simp
def ntAt (l : List Nt) (i : Nat) : Bool := match l[i]? with
 | some n => oneN n && (match i with
  | 0 => true
  | j + 1 => match l[j]? with
   | some m => ltK m.key n.key
   | none => false)
 | none => false
def ntsB (l : List Nt) : Bool := (List.range l.length).all (ntAt l) && decide ((l.length : Int) ≤ 4000)
set_option maxRecDepth 8000 in
set_option maxHeartbeats 4000000 in
theorem c_ref12_May (l : List Nt) (hlen : l.length ≤ 100000) : Pure Tryz.prog 43 [.sl .fro 4 (ntsAV l)] (.b (ntsB l)) := by
 refine proc_of (cx Tryz.prog 37 [0, 2, 3, 7, 33] [2]) 36 [.tmp 2] Tryz.func43 rfl rfl rfl rfl rfl rfl (Nat.le_refl _) rfl ?_
 refine AWp.g [0] [] ?_
 simp
 refine AWp.seq ?_
 refine AWp.g [0, 3] [] ?_
 simp
 refine AWp.block (AWp.while (fun i : Nat => [(0, .sl .fro 4 (ntsAV l)), (3, .i .i64 i)]) (fun i => []) (fun i => i ≤ l.length ∧ ∀ k, k < i → ntAt l k = true) (fun i => l.length - i) [0, 3] [] 0 (by simp) (by simp) ?_)
 rintro i ⟨hi, hall⟩
 refine AWp.seq ?_
 refine AWp.g [0, 3, 7] [] ?_
 simp
 by_cases h : i < l.length
 ·refine AWp.cT (by simp [h]) ?_
  refine AWp.skip ?_
  show AWp _ _ _ _
  refine AWp.seq ?_
  refine AWp.block ?_
  refine AWp.stepD 24 (fun _ => .b (oneN l[i])) [0, 3, 33] [] [(0, .sl .fro 4 (ntsAV l)), (3, .i .i64 i), (33, .b (!ntAt l i))] [] mix (by kernel_rfl) ?_ ?_
  ·have c1 := c_ref12_One l[i]
   by_cases q : oneN l[i] = true
   ·rw [q] at c1
    by_cases q3 : 0 < i
    ·obtain ⟨j, rfl⟩ : ∃ j, i = j + 1 := ⟨i - 1, by omega⟩
     have hj : j < l.length := by omega
     have w2 : IntKind.i64.wrap (j : Int) = j := wrap64 (by omega) (by omega)
     simp [h, ntAt, q, hj, w2, ltK, c1]
     omega
    ·obtain rfl : i = 0 := by omega
     simp [h, ntAt, q, c1]
   ·have q : oneN l[i] = false := by simpa using q
    rw [q] at c1
    simp [h, ntAt, q, c1]
  cases hp : ntAt l i
  ·refine AWp.cT (by simp) ?_
   refine AWp.g [2] [] ?_
   simp
   refine AWp.ret ?_
   simp [ntsB, range_not h hp]
  ·refine AWp.cF (by simp) ?_
   refine AWp.skip ?_
   show AWp _ _ _ _
   refine AWp.gL [0, 3] [] ?_
   simp
   refine ⟨i + 1, ⟨by omega, fun k hk => ?_⟩, by omega, ?_⟩
   ·by_cases hki : k = i
    ·subst hki; exact hp
    ·exact hall k (by omega)
   ·simp
    exact wrap64 (by omega) (by omega)
 ·refine AWp.cF (by simp [h]) ?_
  refine AWp.exit ?_
  show AWp _ _ _ _
  obtain rfl : i = l.length := by omega
  refine AWp.g [2] [] ?_
  simp
  refine AWp.ret ?_
  rw [ntsB, range_all hall]
  simp
@[simp] theorem try_eqNt : flatEq Tryz.prog 112 = some [.str, .int .i64, .int .i64, .str] := by kernel_rfl
def ntEq (a b : Nt) : Bool := eqK a.key b.key && decide (a.t = b.t) && decide (a.rep = b.rep) && eqK a.word b.word
def sameNAt (a b : List Nt) (i : Nat) : Bool := match a[i]?, b[i]? with
 | some x, some y => ntEq x y
 | _, _ => false
def sameN (a b : List Nt) : Bool := decide ((a.length : Int) = b.length) && (List.range a.length).all (sameNAt a b)
set_option maxRecDepth 8000 in
set_option maxHeartbeats 2000000 in
theorem c_ref12_Same (a b : List Nt) (ha : a.length ≤ 100000) (hb : b.length ≤ 100000) : Pure Tryz.prog 77 [.sl .fro 4 (ntsAV a), .sl .fro 4 (ntsAV b)] (.b (sameN a b)) := by
 refine proc_of (cx Tryz.prog 26 [0, 1, 4, 5, 10, 14, 25] [4]) 24 [.tmp 4] Tryz.func77 rfl rfl rfl rfl rfl rfl (Nat.le_refl _) rfl ?_
 refine AWp.g [0, 1] [] ?_
 simp
 refine AWp.seq ?_
 refine AWp.g [0, 1, 10] [] ?_
 simp
 by_cases q0 : (a.length : Int) = b.length
 ·refine AWp.cF (by simp [q0]) ?_
  refine AWp.skip ?_
  show AWp _ _ _ _
  refine AWp.seq ?_
  refine AWp.g [0, 1, 5] [] ?_
  simp
  refine AWp.block (AWp.while (fun i : Nat => [(0, .sl .fro 4 (ntsAV a)), (1, .sl .fro 4 (ntsAV b)), (5, .i .i64 i)]) (fun i => []) (fun i => i ≤ a.length ∧ ∀ k, k < i → sameNAt a b k = true) (fun i => a.length - i) [0, 1, 5] [] 0 (by simp) (by simp) ?_)
  rintro i ⟨hi, hall⟩
  refine AWp.seq ?_
  refine AWp.g [0, 1, 5, 14] [] ?_
  simp
  by_cases h : i < a.length
  ·refine AWp.cT (by simp [h]) ?_
   refine AWp.skip ?_
   show AWp _ _ _ _
   refine AWp.seq ?_
   refine AWp.block ?_
   have h' : i < b.length := by omega
   refine AWp.stepD 9 (fun _ => .any) [0, 1, 5, 25] [] [(0, .sl .fro 4 (ntsAV a)), (1, .sl .fro 4 (ntsAV b)), (5, .i .i64 i), (25, .b (!sameNAt a b i))] [] mix (by kernel_rfl) ?_ ?_
   ·simp [h, h', sameNAt, ntEq, eqK, Bool.and_assoc]
   cases hp : sameNAt a b i
   ·refine AWp.cT (by simp) ?_
    refine AWp.g [4] [] ?_
    simp
    refine AWp.ret ?_
    simp [sameN, range_not h hp]
   ·refine AWp.cF (by simp) ?_
    refine AWp.skip ?_
    show AWp _ _ _ _
    refine AWp.gL [0, 1, 5] [] ?_
    simp
    refine ⟨i + 1, ⟨by omega, fun k hk => ?_⟩, by omega, ?_⟩
    ·by_cases hki : k = i
     ·subst hki; exact hp
     ·exact hall k (by omega)
    ·simp
     exact wrap64 (by omega) (by omega)
  ·refine AWp.cF (by simp [h]) ?_
   refine AWp.exit ?_
   show AWp _ _ _ _
   refine AWp.g [4] [] ?_
   simp
   refine AWp.ret ?_
   simp [sameN, q0, range_all (fun k (hk : k < a.length) => hall k (by omega))]
 ·refine AWp.cT (by simp [q0]) ?_
  refine AWp.g [4] [] ?_
  simp
  refine AWp.ret ?_
  simp [sameN, q0]
def laterN (a b : Nt) : Bool := if a.t = b.t then if a.rep = b.rep then !ltK a.word b.word && !eqK a.word b.word else decide (b.rep < a.rep) else decide (b.t < a.t)
end Go.AM
namespace Go.AM
open Go.Proofs
def nt0 : Nt := ⟨ByteArray.empty, 0, 0, ByteArray.empty⟩
def getT (l : List Nt) (k : ByteArray) : Nt := (l.find? fun x => eqK x.key k).getD nt0
def setT (n : Nt) : List Nt → Bool → List Nt
 | [], d => if d then [] else [n]
 | x :: l, d => (if !d && !ltK x.key n.key then [n] else []) ++ ((if eqK x.key n.key then [] else [x]) ++ setT n l (d || !ltK x.key n.key))
def keepNt (l : List Nt) (n : Nt) : Bool := !eqK (getT l n.key).key ByteArray.empty && !laterN n (getT l n.key)
def setNt (l : List Nt) (n : Nt) : List Nt := if keepNt l n then l else setT n l false
end Go.AM
namespace Go.AM
open Go.Proofs
structure Acc where
 key : ByteArray
 a : Int
 b : Int
 c : Int
 d : Int
 e : Int
def acC (x : Acc) : List AV := [.s x.key, .i .i64 x.a, .i .i64 x.b, .i .i64 x.c, .i .i64 x.d, .i .i64 x.e]
def acsAV (l : List Acc) : List (List AV) := l.map acC
@[simp] theorem acsAV_length (l : List Acc) : (acsAV l).length = l.length := by simp [acsAV]
@[simp] theorem acsAV_getElem (l : List Acc) (i : Nat) (h : i < (acsAV l).length) : (acsAV l)[i] = acC (l[i]'(by simpa using h)) := by simp [acsAV]
def haveA (x : Acc) (r : Int) : Int := if r = 1 then x.a else if r = 2 then x.b else if r = 3 then x.c else if r = 4 then x.d else x.e
def inR (r : Int) : Bool := decide (1 ≤ r) && decide (r ≤ 5)
def getA (l : List Acc) (k : ByteArray) (r : Int) : Int := if inR r then match l.find? fun x => eqK x.key k with
 | some x => haveA x r
 | none => 0
 else 0
end Go.AM
namespace Go.AM
open Go.Proofs
@[simp] theorem try_eqAcc : flatEq Tryz.prog 138 = some [.str, .int .i64, .int .i64, .int .i64, .int .i64, .int .i64] := by kernel_rfl
def acEq (x y : Acc) : Bool := eqK x.key y.key && decide (x.a = y.a) && decide (x.b = y.b) && decide (x.c = y.c) && decide (x.d = y.d) && decide (x.e = y.e)
def sameAAt (a b : List Acc) (i : Nat) : Bool := match a[i]?, b[i]? with
 | some x, some y => acEq x y
 | _, _ => false
def sameA (a b : List Acc) : Bool := decide ((a.length : Int) = b.length) && (List.range a.length).all (sameAAt a b)
set_option maxRecDepth 8000 in
set_option maxHeartbeats 2000000 in
theorem c_ref11_Same (a b : List Acc) (ha : a.length ≤ 100000) (hb : b.length ≤ 100000) : Pure Tryz.prog 76 [.sl .fro 6 (acsAV a), .sl .fro 6 (acsAV b)] (.b (sameA a b)) := by
 refine proc_of (cx Tryz.prog 26 [0, 1, 4, 5, 10, 14, 25] [4]) 24 [.tmp 4] Tryz.func76 rfl rfl rfl rfl rfl rfl (Nat.le_refl _) rfl ?_
 refine AWp.g [0, 1] [] ?_
 simp
 refine AWp.seq ?_
 refine AWp.g [0, 1, 10] [] ?_
 simp
 by_cases q0 : (a.length : Int) = b.length
 ·refine AWp.cF (by simp [q0]) ?_
  refine AWp.skip ?_
  show AWp _ _ _ _
  refine AWp.seq ?_
  refine AWp.g [0, 1, 5] [] ?_
  simp
  refine AWp.block (AWp.while (fun i : Nat => [(0, .sl .fro 6 (acsAV a)), (1, .sl .fro 6 (acsAV b)), (5, .i .i64 i)]) (fun i => []) (fun i => i ≤ a.length ∧ ∀ k, k < i → sameAAt a b k = true) (fun i => a.length - i) [0, 1, 5] [] 0 (by simp) (by simp) ?_)
  rintro i ⟨hi, hall⟩
  refine AWp.seq ?_
  refine AWp.g [0, 1, 5, 14] [] ?_
  simp
  by_cases h : i < a.length
  ·refine AWp.cT (by simp [h]) ?_
   refine AWp.skip ?_
   show AWp _ _ _ _
   refine AWp.seq ?_
   refine AWp.block ?_
   have h' : i < b.length := by omega
   refine AWp.stepD 9 (fun _ => .any) [0, 1, 5, 25] [] [(0, .sl .fro 6 (acsAV a)), (1, .sl .fro 6 (acsAV b)), (5, .i .i64 i), (25, .b (!sameAAt a b i))] [] mix (by kernel_rfl) ?_ ?_
   ·simp [h, h', sameAAt, acEq, eqK, acC, Bool.and_assoc]
   cases hp : sameAAt a b i
   ·refine AWp.cT (by simp) ?_
    refine AWp.g [4] [] ?_
    simp
    refine AWp.ret ?_
    simp [sameA, range_not h hp]
   ·refine AWp.cF (by simp) ?_
    refine AWp.skip ?_
    show AWp _ _ _ _
    refine AWp.gL [0, 1, 5] [] ?_
    simp
    refine ⟨i + 1, ⟨by omega, fun k hk => ?_⟩, by omega, ?_⟩
    ·by_cases hki : k = i
     ·subst hki; exact hp
     ·exact hall k (by omega)
    ·simp
     exact wrap64 (by omega) (by omega)
  ·refine AWp.cF (by simp [h]) ?_
   refine AWp.exit ?_
   show AWp _ _ _ _
   refine AWp.g [4] [] ?_
   simp
   refine AWp.ret ?_
   simp [sameA, q0, range_all (fun k (hk : k < a.length) => hall k (by omega))]
 ·refine AWp.cT (by simp [q0]) ?_
  refine AWp.g [4] [] ?_
  simp
  refine AWp.ret ?_
  simp [sameA, q0]
end Go.AM
namespace Go.AM
open Go.Proofs
theorem entR_set (l : List Entry) (pad : List AV) (i : Nat) (h : i < l.length) (x : Entry) : (boxR entC l pad).take (i * 3) ++ .s x.key :: .sl .fro 2 (dotsAV x.live) :: .sl .fro 2 (dotsAV x.dead) :: (boxR entC l pad).drop (i * 3 + 3) = boxR entC (l.set i x) pad := boxR_set entC_ok l pad i h x
set_option maxRecDepth 8000 in
theorem c_IndexFuncC_Entry (l : List Entry) (pad : List AV) (cap : Nat) (g : Nat) (p : Entry → Bool) (hpad : Calm pad) (hg : ∀ n ∈ l, Pure Tryz.prog g [.agg (entC n)] (.b (p n))) (hl : l.length ≤ 1000000) : Proc Tryz.prog 1 195 [.bs 0 0 l.length cap, .fn g [] []] [(0, boxR entC l pad)] (.i .i64 (idxI p l)) [(0, boxR entC l pad)] := by
 have hC : Calm (boxR entC l pad) := boxR_calm entC_ok hpad
 have hL : (boxR entC l pad).length = l.length * 3 + pad.length := boxR_len entC_ok l pad
 refine proc_of (cxb Tryz.prog 19 1 [0, 1, 4, 5, 7, 8, 9, 16] [] [4]) 17 [.tmp 4] Tryz.func195 rfl rfl rfl rfl rfl rfl (Nat.le_refl _) rfl ?_
 refine AWp.g [0, 1] [0] ?_
 simp [hC, hL]
 refine AWp.seq ?_
 refine AWp.g [0, 1, 7, 8] [0] ?_
 simp [hC, hL]
 refine AWp.block (AWp.while (fun i : Nat => [(0, .bs 0 0 l.length cap), (1, .fn g [] []), (7, .i .i64 l.length), (8, .i .i64 i)]) (fun i => [(0, boxR entC l pad)]) (fun i => i ≤ l.length ∧ ∀ k (hk : k < i) (hk2 : k < l.length), p l[k] = false) (fun i => l.length - i) [0, 1, 7, 8] [0] 0 (by simp) (by simp [hC, hL]) ?_)
 rintro i ⟨hi, hall⟩
 refine AWp.g [0, 1, 7, 8, 9] [0] ?_
 simp [hC, hL]
 refine AWp.seq ?_
 by_cases h : i < l.length
 ·refine AWp.cT (by simp [h]) ?_
  refine AWp.skip ?_
  show AWp _ _ _ _
  refine AWp.seq ?_
  refine AWp.block ?_
  refine AWp.g [0, 1, 5, 7, 8] [0] ?_
  simp [hC, hL]
  refine AWp.g [0, 1, 5, 7, 8, 16] [0] ?_
  simp [h, entR_get l pad i h, hC, hL]
  refine ⟨by omega, ?_⟩
  refine call_pure (hg l[i] (List.getElem_mem h)) (by simp [entC]) ?_
  simp [h, entR_get l pad i h, hC, hL]
  refine ?_
  cases hp : p l[i]
  ·refine AWp.cF (by simp) ?_
   refine AWp.skip ?_
   show AWp _ _ _ _
   refine AWp.gL [0, 1, 7, 8] [0] ?_
   simp [hC, hL]
   refine ⟨i + 1, ⟨by omega, fun k hk hk2 => ?_⟩, by omega, ?_⟩
   ·by_cases hki : k = i
    ·subst hki; exact hp
    ·exact hall k (by omega) hk2
   ·simp [hC]
    exact wrap64 (by omega) (by omega)
  ·refine AWp.cT (by simp) ?_
   refine AWp.g [4] [0] ?_
   simp [hC, hL]
   refine AWp.ret ?_
   rw [idxI_at p l i h (fun k hk => hall k hk (by omega)) hp]
   simp [hC]
   simpa using (hC).still
 ·refine AWp.cF (by simp [h]) ?_
  refine AWp.exit ?_
  show AWp _ _ _ _
  refine AWp.g [4] [0] ?_
  simp [hC, hL]
  refine AWp.ret ?_
  rw [idxI_none p l fun k hk => hall k (by omega) hk]
  simp [hC]
  simpa using (hC).still
set_option maxRecDepth 8000 in
set_option maxHeartbeats 2000000 in
theorem c_DeleteFuncC_Entry (l : List Entry) (pad : List AV) (cap : Nat) (g : Nat) (p : Entry → Bool) (hc : l.length ≤ cap) (hpad : Calm pad) (hp : pad.length = (cap - l.length) * 3) (hg : ∀ n ∈ l, Pure Tryz.prog g [.agg (entC n)] (.b (p n))) (hl : l.length ≤ 1000000) : Proc Tryz.prog 1 151 [.bs 0 0 l.length cap, .fn g [] []] [(0, boxR entC l pad)] (.bs 0 0 (l.filter fun x => !p x).length cap) [(0, boxR entC (l.filter fun x => !p x) (zerosL [.s ByteArray.empty, .sl .fro 2 [], .sl .fro 2 []] (l.length - (l.filter fun x => !p x).length) ++ pad))] := by
 have hC : ∀ l', Calm (boxR entC l' pad) := fun l' => boxR_calm entC_ok hpad
 have hL : ∀ l', (boxR entC l' pad).length = l'.length * 3 + pad.length := fun l' => boxR_len entC_ok l' pad
 have hC2 : ∀ l' n, Calm (boxR entC l' (zerosL [.s ByteArray.empty, .sl .fro 2 [], .sl .fro 2 []] n ++ pad)) := fun l' n => boxR_calm entC_ok ((Calm.zeros (fun c hc => by simp at hc; rcases hc with rfl | rfl <;> rfl) n).append hpad)
 have hfl : (l.filter fun x => !p x).length ≤ l.length := List.length_filter_le _ _
 refine proc_of (cxb Tryz.prog 42 1 [0, 1, 4, 5, 6, 7, 12, 19, 29] [] [4]) 40 [.tmp 4] Tryz.func151 rfl rfl rfl rfl rfl rfl (Nat.le_refl _) rfl ?_
 refine AWp.g [0, 1] [0] ?_
 simp [hC, hL]
 refine AWp.g [0, 1, 5] [0] ?_
 simp [hC, hL]
 refine call_proc [(0, 0)] none (c_IndexFuncC_Entry l pad cap g p hpad hg hl) (by simp) (by simp) ?_
 simp [hC, hL]
 refine ⟨by simpa using (hC l).still, ?_⟩
 refine AWp.seq ?_
 refine AWp.g [0, 1, 5, 12] [0] ?_
 simp [hC, hL]
 by_cases h0 : idxI p l = -1
 ·refine AWp.cT (by simp [h0]) ?_
  refine AWp.g [4] [0] ?_
  simp [hC, hL]
  refine AWp.ret ?_
  have hf := (idxI_cases p l).resolve_right (fun ⟨i, _, h, _⟩ => by omega)
  rw [hf.2]
  simp [zerosL, hC]
  simpa using (hC l).still
 ·refine AWp.cF (by simp [h0]) ?_
  obtain ⟨i0, hi0, hidx, htk, hpt⟩ := (idxI_cases p l).resolve_left (fun h => h0 h.1)
  rw [hidx]
  have hft : (l.take (i0 + 1)).filter (fun x => !p x) = l.take i0 := by
   rw [List.take_succ_eq_append_getElem hi0, List.filter_append, htk]
   simp [hpt]
  refine AWp.skip ?_
  show AWp _ _ _ _
  refine AWp.seq ?_
  refine AWp.g [0, 1, 5, 6] [0] ?_
  simp [hC, hL]
  refine AWp.block (AWp.while (fun q : Nat × List Entry => [(0, .bs 0 0 l.length cap), (1, .fn g [] []), (5, .i .i64 ((l.take (i0 + 1 + q.1)).filter fun x => !p x).length), (6, .i .i64 (i0 + 1 + q.1))]) (fun q => [(0, boxR entC q.2 pad)]) (fun q => q.2.length = l.length ∧ i0 + 1 + q.1 ≤ l.length ∧ ((l.take (i0 + 1 + q.1)).filter fun x => !p x).length ≤ i0 + q.1 ∧ q.2.take ((l.take (i0 + 1 + q.1)).filter fun x => !p x).length = (l.take (i0 + 1 + q.1)).filter (fun x => !p x) ∧ ∀ k, i0 + 1 + q.1 ≤ k → q.2[k]? = l[k]?) (fun q => l.length - q.1) [0, 1, 5, 6] [0] (0, l) (by exact ⟨rfl, by dsimp only; omega, by dsimp only; rw [Nat.add_zero, hft]; simp; omega, by dsimp only; rw [Nat.add_zero, hft]; simp, fun _ _ => rfl⟩) (by have w0 : IntKind.i64.wrap ((i0 : Int) + 1) = i0 + 1 := wrap64 (by omega) (by omega); simp [hft, w0, hC]; omega) ?_)
  rintro ⟨j, c⟩ ⟨hcl, hj2, hk3, hj3, hj4⟩
  dsimp only at hcl hj2 hk3 hj3 hj4
  try dsimp only
  refine AWp.seq ?_
  refine AWp.g [0, 1, 5, 6, 19] [0] ?_
  simp [hC, hL]
  by_cases h : i0 + 1 + j < l.length
  ·refine AWp.cT (by simp [h]; omega) ?_
   have v1 : IntKind.i64.wrap ((i0 : Int) + 1 + j + 1) = i0 + 1 + j + 1 := wrap64 (by omega) (by omega)
   have v3 : IntKind.i64.wrap ((((l.take (i0 + 1 + j)).filter fun x => !p x).length : Int) + 1) = ((l.take (i0 + 1 + j)).filter fun x => !p x).length + 1 := wrap64 (by omega) (by omega)
   have q1 : c[i0 + 1 + j]'(by omega) = l[i0 + 1 + j] := by have := hj4 (i0 + 1 + j) (by omega); rw [List.getElem?_eq_getElem (by omega), List.getElem?_eq_getElem (by omega)] at this; exact Option.some.inj this
   have g1 := entR_get c pad (i0 + 1 + j) (by omega)
   rw [q1] at g1
   have e0 : ((i0 : Int) + 1 + j).toNat = i0 + 1 + j := by omega
   refine AWp.skip ?_
   show AWp _ _ _ _
   refine AWp.seq ?_
   refine AWp.block ?_
   refine AWp.g [0, 1, 5, 6, 7] [0, 8] ?_
   simp [e0, g1, hC, hL]
   refine ⟨by omega, by omega, ?_⟩
   refine AWp.g [0, 1, 5, 6, 7, 29] [0, 8] ?_
   simp [hC, hL]
   refine call_pure (hg l[i0 + 1 + j] (List.getElem_mem h)) (by simp [entC]) ?_
   simp [hC, hL]
   refine ?_
   cases hp2 : p l[i0 + 1 + j]
   ·refine AWp.cT (by simp) ?_
    refine AWp.step [0, 1, 5, 6] [0] [(0, .bs 0 0 l.length cap), (1, .fn g [] []), (5, .i .i64 ((l.take (i0 + 1 + j)).filter fun x => !p x).length), (6, .i .i64 (i0 + 1 + j))] [(0, boxR entC (c.set ((l.take (i0 + 1 + j)).filter fun x => !p x).length l[i0 + 1 + j]) pad)] ?_ ?_
    ·have hs := entR_set c pad ((l.take (i0 + 1 + j)).filter fun x => !p x).length (by omega) l[i0 + 1 + j]
     simp [hC, hL, hs]
     omega
    refine AWp.gL [0, 1, 5, 6] [0] ?_
    simp [hC, hL]
    show AWp _ _ _ _
    refine AWp.gL [0, 1, 5, 6] [0] ?_
    simp [hC, hL]
    have hcn : (l.take (i0 + 1 + (j + 1))).filter (fun x => !p x) = (l.take (i0 + 1 + j)).filter (fun x => !p x) ++ [l[i0 + 1 + j]] := by
     rw [show i0 + 1 + (j + 1) = i0 + 1 + j + 1 by omega, List.take_succ_eq_append_getElem h, List.filter_append]
     simp [hp2]
    refine ⟨(j + 1, c.set ((l.take (i0 + 1 + j)).filter fun x => !p x).length l[i0 + 1 + j]), ⟨by simpa using hcl, by dsimp only; omega, ?_, ?_, ?_⟩, by dsimp only; omega, ?_⟩
    ·dsimp only; rw [hcn]; simp; omega
    ·dsimp only; rw [hcn, List.length_append, List.length_singleton, List.take_succ_eq_append_getElem (by simp; omega), List.getElem_set_self, List.take_set_of_le (Nat.le_refl _), hj3]
    ·intro k hk
     dsimp only at hk
     rw [List.getElem?_set_ne (by omega)]
     exact hj4 k (by omega)
    ·simp [hC, v1, v3, hcn]
     omega
   ·refine AWp.cF (by simp) ?_
    refine AWp.skip ?_
    show AWp _ _ _ _
    refine AWp.gL [0, 1, 5, 6] [0] ?_
    simp [hC, hL]
    have hcn : (l.take (i0 + 1 + (j + 1))).filter (fun x => !p x) = (l.take (i0 + 1 + j)).filter (fun x => !p x) := by
     rw [show i0 + 1 + (j + 1) = i0 + 1 + j + 1 by omega, List.take_succ_eq_append_getElem h, List.filter_append]
     simp [hp2]
    refine ⟨(j + 1, c), ⟨hcl, by dsimp only; omega, ?_, ?_, ?_⟩, by dsimp only; omega, ?_⟩
    ·dsimp only; rw [hcn]; omega
    ·dsimp only; rw [hcn]; exact hj3
    ·intro k hk
     exact hj4 k (by dsimp only at hk; omega)
    ·simp [hC, v1, hcn]
     omega
  ·refine AWp.cF (by simp [h]; omega) ?_
   refine AWp.exit ?_
   show AWp _ _ _ _
   have hjn : i0 + 1 + j = l.length := by omega
   rw [hjn, List.take_length] at hk3 hj3 ⊢
   have hcl2 := boxR_clear entC_ok c pad (zerosL [.s ByteArray.empty, .sl .fro 2 [], .sl .fro 2 []] (l.length - (l.filter fun x => !p x).length)) (l.filter fun x => !p x).length (by omega) (by rw [zerosL_length, hcl]; rfl)
   rw [hj3] at hcl2
   refine AWp.step [0, 5] [0] [(0, .bs 0 0 l.length cap), (5, .i .i64 (l.filter fun x => !p x).length)] [(0, boxR entC (l.filter fun x => !p x) (zerosL [.s ByteArray.empty, .sl .fro 2 [], .sl .fro 2 []] (l.length - (l.filter fun x => !p x).length) ++ pad))] ?_ ?_
   ·simp [hC, hL, show ¬ cap = (l.filter fun x => !p x).length by omega, zerosL_length] at hcl2 ⊢
    simp [hcl2, hC2]
    refine ⟨by omega, by omega, (((hC c).drop _).take _).freeL⟩
   refine AWp.g [4] [0] ?_
   simp [hC, hL]
   refine ⟨by omega, ?_⟩
   refine AWp.ret ?_
   simp [hC2]
   simpa using (hC2 _ _).still
theorem entR_dead (l : List Entry) (pad : List AV) (i : Nat) (h : i < l.length) (d : List Dot) : (boxR entC l pad).set (i * 3 + 2) (.sl .fro 2 (dotsAV d)) = boxR entC (l.set i ⟨l[i].key, l[i].live, d⟩) pad := by
 have e := entR_set l pad i h ⟨l[i].key, l[i].live, d⟩
 have g := entR_get l pad i h
 have hL := boxR_len entC_ok l pad
 generalize boxR entC l pad = L at *
 rw [← e]
 have hl : i * 3 + 2 < L.length := by omega
 have h0 : L.drop (i * 3) = .s l[i].key :: .sl .fro 2 (dotsAV l[i].live) :: .sl .fro 2 (dotsAV l[i].dead) :: L.drop (i * 3 + 3) := by
  rw [← List.take_append_drop 3 (L.drop (i * 3)), g, List.drop_drop]
  rfl
 have h1 : L = L.take (i * 3) ++ (.s l[i].key :: .sl .fro 2 (dotsAV l[i].live) :: .sl .fro 2 (dotsAV l[i].dead) :: L.drop (i * 3 + 3)) := by rw [← h0, List.take_append_drop]
 have h2 : (L.take (i * 3)).length = i * 3 := by rw [List.length_take]; omega
 conv => lhs; rw [h1]
 rw [List.set_append_right _ _ (by omega), h2, Nat.add_sub_cancel_left]
 rfl
theorem fitsL_putNil {Q : Place → Option Place} {id sz : Nat} {M : List AV} (hM : Calm M) : ∀ (k : Nat) (L : List AV), Calm L → AV.fitsL (AV.trC (takeLeaf Q) id k (L ++ .sl .nl sz [] :: M)) (L ++ .sl .fro sz [] :: M)
 | k, [], _ => by
  show AV.fitsL (_ :: AV.trC _ _ _ M) (_ :: M)
  rw [trC_take hM]
  exact ⟨.inr ⟨rfl, .inr (.inl rfl)⟩, AV.fitsL_refl _⟩
 | k, x :: L, h => by
  show AV.fitsL (AV.tr _ _ x :: AV.trC _ _ _ (L ++ _)) (x :: (L ++ _))
  rw [tr_calm (take_calm Q) (h x (by simp))]
  exact ⟨AV.fits_refl _, fitsL_putNil hM (k + 1) L fun c hc => h c (by simp [hc])⟩
theorem set_cut {L : List AV} {j : Nat} (h : j < L.length) (y : AV) : L.take j ++ y :: L.drop (j + 1) = L.set j y := by
 rw [List.set_eq_take_append_cons_drop, if_pos h]
theorem c_rwset_Plain1 (e : Entry) : Pure Tryz.prog 152 [.agg (entC e)] (.b (decide (e.live.length = 0))) := by
 refine proc_of (cx Tryz.prog 7 [1, 2] [2]) 6 [.tmp 2] Tryz.func152 rfl rfl rfl rfl rfl rfl (Nat.le_refl _) rfl ?_
 refine AWp.g [1] [1] ?_
 simp [entC]
 refine AWp.g [2] [] ?_
 simp
 refine AWp.ret ?_
 simp
theorem c_rwset_Clean1 (e : Entry) (hl : e.live.length ≤ 1000000) (hd : e.dead.length ≤ 1000000) : Pure Tryz.prog 164 [.agg (entC e)] (.b (decide (e.live = []) && decide (e.dead = []))) := by
 refine proc_of (cx Tryz.prog 11 [1, 2] [2]) 10 [.tmp 2] Tryz.func164 rfl rfl rfl rfl rfl rfl (Nat.le_refl _) rfl ?_
 refine AWp.g [1] [1] ?_
 simp [entC]
 have w1 : IntKind.i64.wrap ((e.live.length : Int) + e.dead.length) = (e.live.length : Int) + e.dead.length := wrap64 (by omega) (by omega)
 refine AWp.g [2] [] ?_
 simp [w1]
 refine AWp.ret ?_
 simp
 rw [Bool.eq_iff_iff]
 simp
 rw [← List.length_eq_zero_iff, ← List.length_eq_zero_iff]
 omega
def bare (e : Entry) : Entry := ⟨e.key, e.live, []⟩
def mapTo (f : Entry → Entry) (s : List Entry) (i : Nat) : List Entry := (s.take i).map f ++ s.drop i
theorem mapTo_len (f : Entry → Entry) (s : List Entry) (i : Nat) : (mapTo f s i).length = s.length := by
 simp [mapTo]; omega
theorem mapTo_get (f : Entry → Entry) (s : List Entry) (i : Nat) (h : i < s.length) : (mapTo f s i)[i]'(by rw [mapTo_len]; exact h) = s[i] := by
 have hl : ((s.take i).map f).length = i := by simp; omega
 have : (mapTo f s i)[i]? = some s[i] := by
  unfold mapTo
  rw [List.getElem?_append_right (by omega), hl, Nat.sub_self, List.getElem?_drop, Nat.add_zero, List.getElem?_eq_getElem h]
 exact Option.some.inj ((List.getElem?_eq_getElem _).symm.trans this)
theorem mapTo_succ (f : Entry → Entry) (s : List Entry) (i : Nat) (h : i < s.length) : (mapTo f s i).set i (f s[i]) = mapTo f s (i + 1) := by
 have hl : ((s.take i).map f).length = i := by simp; omega
 unfold mapTo
 rw [List.set_append_right _ _ (by omega), hl, Nat.sub_self, List.drop_eq_getElem_cons h, List.take_succ_eq_append_getElem h]
 rw [List.set_cons_zero, List.map_append, List.append_assoc]
 rfl
theorem mapTo_all (f : Entry → Entry) (s : List Entry) : mapTo f s s.length = s.map f := by simp [mapTo]
abbrev padE (s : List Entry) (cap : Nat) : List AV := List.replicate ((cap - s.length) * 3) AV.any
abbrev zeroE : List AV := [.s ByteArray.empty, .sl .fro 2 [], .sl .fro 2 []]
theorem zeroE_calm : Calm zeroE := fun c hc => by simp at hc; rcases hc with rfl | rfl <;> rfl
def plainE (s : List Entry) : List Entry := if setOk s then (s.map bare).filter fun e => !decide (e.live.length = 0) else []
set_option maxRecDepth 8000 in
set_option maxHeartbeats 4000000 in
theorem c_rwset_PlainA (s : List Entry) (hs : Fine s) (hne : s ≠ []) : Pure Tryz.prog 82 [.sl .fro 3 (entsAV s)] (.sl .own 3 (entsAV (plainE s))) := by
 refine proc_of (cx Tryz.prog 22 [0, 2, 3, 4, 7, 11, 12, 13] [2]) 21 [.tmp 2] Tryz.func82 rfl rfl rfl rfl rfl rfl (Nat.le_refl _) rfl ?_
 refine AWp.g [0] [] ?_
 simp
 refine AWp.seq ?_
 refine AWp.g [0, 7] [] ?_
 simp
 refine call_p (c_rwset_Check s hs) ?_
 simp
 cases hq : setOk s
 ·refine AWp.cT (by simp) ?_
  refine AWp.g [2] [] ?_
  simp
  refine AWp.ret ?_
  simp [plainE, hq, entsAV]
 ·refine AWp.cF (by simp) ?_
  refine AWp.skip ?_
  show AWp _ _ _ _
  refine AWp.g [3] [] ?_
  simp
  refine call_p (c_rwset_copied s hs) ?_
  simp
  refine AWp.unown 3 100 rfl (by simp) (by simpa [entsAV] using hne) rfl (by simp) fun cap hcap => ?_
  simp at hcap
  have hlen := hs.1
  have hcc : ∀ i, Calm (boxR entC (mapTo bare s i) (padE s cap)) := fun i => boxR_calm entC_ok (Calm.replicate _ rfl)
  have hbl : ∀ i, (boxR entC (mapTo bare s i) (padE s cap)).length = s.length * 3 + (cap - s.length) * 3 := fun i => by rw [boxR_len entC_ok, mapTo_len, List.length_replicate]
  have e0 : (entsAV s).flatten ++ List.replicate ((cap - s.length) * 3) AV.any = boxR entC (mapTo bare s 0) (padE s cap) := by simp [mapTo]; rfl
  simp [e0]
  refine AWp.seq ?_
  refine AWp.g [3, 11, 12] [100] ?_
  simp [hcc]
  refine AWp.block (AWp.while (fun i : Nat => [(3, .bs 100 0 s.length cap), (11, .i .i64 s.length), (12, .i .i64 i)]) (fun i => [(100, boxR entC (mapTo bare s i) (padE s cap))]) (fun i => i ≤ s.length) (fun i => s.length - i) [3, 11, 12] [100] 0 (by simp) (by simp [hcc]) ?_)
  intro i hi
  refine AWp.g [3, 11, 12, 13] [100] ?_
  simp [hcc]
  refine AWp.seq ?_
  by_cases h2 : i < s.length
  ·refine AWp.cT (by simp [h2]) ?_
   refine AWp.skip ?_
   show AWp _ _ _ _
   refine AWp.seq ?_
   refine AWp.block ?_
   refine AWp.g [3, 4, 11, 12] [100] ?_
   simp [hcc]
   have hst := entR_dead (mapTo bare s i) (padE s cap) i (by rw [mapTo_len]; exact h2) []
   rw [mapTo_get bare s i h2] at hst
   rw [show (⟨s[i].key, s[i].live, []⟩ : Entry) = bare s[i] from rfl, mapTo_succ bare s i h2] at hst
   have hct := set_cut (L := boxR entC (mapTo bare s i) (padE s cap)) (j := i * 3 + 2) (by rw [hbl]; omega) (.sl .fro 2 (dotsAV []))
   rw [hst] at hct
   refine AWp.last [3, 11, 12] [100] [(3, .bs 100 0 s.length cap), (11, .i .i64 s.length), (12, .i .i64 i)] [(100, boxR entC (mapTo bare s (i + 1)) (padE s cap))] ?_ ?_
   ·have hdd : dotsAV [] = [] := rfl
    rw [hdd] at hst hct
    simp [hcc, hbl, h2]
    refine ⟨by omega, ?_⟩
    rw [← hct]
    exact fitsL_putNil ((hcc i).drop _) 0 _ ((hcc i).take _)
   show AWp _ _ _ _
   refine AWp.gL [3, 11, 12] [100] ?_
   simp
   refine ⟨i + 1, by omega, by omega, ?_⟩
   simp [hcc]
   exact wrap64 (by omega) (by omega)
  ·refine AWp.cF (by simp [h2]) ?_
   refine AWp.exit ?_
   show AWp _ _ _ _
   obtain rfl : i = s.length := by omega
   have hcb := hcc s.length
   rw [mapTo_all] at *
   have hdf := c_DeleteFuncC_Entry (s.map bare) (padE s cap) cap 152 (fun e => decide (e.live.length = 0)) (by simpa using hcap) (Calm.replicate _ rfl) (by simp) (fun n _ => c_rwset_Plain1 n) (by simpa using hlen)
   have hst := boxR_calm (l := (s.map bare).filter fun e => !decide (e.live.length = 0)) entC_ok ((Calm.zeros (zero := zeroE) zeroE_calm ((s.map bare).length - ((s.map bare).filter fun e => !decide (e.live.length = 0)).length)).append (Calm.replicate ((cap - s.length) * 3) (x := AV.any) rfl))
   have hpl : plainE s = (s.map bare).filter fun e => !decide (e.live.length = 0) := by rw [plainE, if_pos hq]
   have hfl : ((s.map bare).filter fun e => !decide (e.live.length = 0)).length ≤ s.length := by have := List.length_filter_le (fun e : Entry => !decide (e.live.length = 0)) (s.map bare); simpa using this
   rw [← hpl] at hdf hst hfl
   have hrl := rows_len entC_ok (plainE s)
   rw [List.length_map] at hdf hst
   refine AWp.goS [2] [] fun K hK => ?_
   refine SOps.cut 2 rfl fun K2 hK2 => ?_
   simp [hcb]
   refine call_proc [(0, 100)] none hdf (by simp) (by simp) ?_
   simp [hcb, hst]
   refine ⟨by simpa using hcb.still, by simpa using hst.still, hK2 _ _ ?_⟩
   refine SOps.reown 21 100 cap (sz := 3) (entsAV (plainE s)) (zerosL zeroE (s.length - (plainE s).length) ++ padE s cap) (by simp) (by simp) rfl ?_ (fun z hz => ?_) (ents_dat _) hst.freeL ?_
   ·have h5 : ((entsAV (plainE s)).flatten).length = (plainE s).length * 3 := hrl
    simp only [List.length_append, zerosL_length, List.length_replicate, h5]
    simp; omega
   ·obtain ⟨x, _, rfl⟩ := List.mem_map.1 hz; rfl
   simp
   refine SOps.cut 1 rfl fun K3 hK3 => ?_
   simp
   refine hK3 _ _ (SOps.nil ?_)
   simp
   refine hK _ _ ?_
   clear hK3 hK2 hK K
   refine AWp.ret ?_
   simp
end Go.AM
namespace Go.AM
open Go.Proofs
theorem c_IndexFunc_Entry_0 (g : Nat) : Pure Tryz.prog 195 [.sl .fro 3 [], .fn g [] []] (.i .i64 (-1)) := by
 refine proc_of (cx Tryz.prog 19 [0, 1, 4, 5, 7, 8, 9, 16] [4]) 17 [.tmp 4] Tryz.func195 rfl rfl rfl rfl rfl rfl (Nat.le_refl _) rfl ?_
 refine AWp.g [0, 1] [] ?_
 simp
 refine AWp.seq ?_
 refine AWp.g [0, 1, 7, 8] [] ?_
 simp
 refine AWp.block (AWp.while (fun i : Nat => [(0, .sl .fro 3 []), (1, .fn g [] []), (7, .i .i64 0), (8, .i .i64 0)]) (fun i => []) (fun i => True) (fun i => 0) [0, 1, 7, 8] [] 0 (by simp) (by simp) ?_)
 intro i hi
 refine AWp.g [0, 1, 7, 8, 9] [] ?_
 simp
 refine AWp.seq ?_
 refine AWp.cF (by simp) ?_
 refine AWp.exit ?_
 show AWp _ _ _ _
 refine AWp.g [4] [] ?_
 simp
 refine AWp.ret ?_
 simp
theorem c_DeleteFunc_Entry_0 (g : Nat) : Pure Tryz.prog 151 [.sl .nl 3 [], .fn g [] []] (.sl .nl 3 []) := by
 refine proc_of (cx Tryz.prog 42 [0, 1, 4, 5, 6, 7, 12, 19, 29] [4]) 40 [.tmp 4] Tryz.func151 rfl rfl rfl rfl rfl rfl (Nat.le_refl _) rfl ?_
 refine AWp.g [0, 1] [] ?_
 simp
 refine AWp.g [0, 1, 5] [] ?_
 simp
 refine call_p (c_IndexFunc_Entry_0 g) ?_
 simp
 refine AWp.seq ?_
 refine AWp.g [0, 1, 5, 12] [] ?_
 simp
 refine AWp.cT (by simp) ?_
 refine AWp.g [4] [] ?_
 simp
 refine AWp.ret ?_
 simp
theorem setOk_nil : setOk [] = true := rfl
theorem fine_nil : Fine [] := ⟨by simp, by simp⟩
set_option maxRecDepth 8000 in
set_option maxHeartbeats 4000000 in
theorem c_rwset_Plain0 : Pure Tryz.prog 82 [.sl .fro 3 []] (.sl .own 3 []) := by
 refine proc_of (cx Tryz.prog 22 [0, 2, 3, 4, 7, 11, 12, 13] [2]) 21 [.tmp 2] Tryz.func82 rfl rfl rfl rfl rfl rfl (Nat.le_refl _) rfl ?_
 refine AWp.g [0] [] ?_
 simp
 refine AWp.seq ?_
 refine AWp.g [0, 7] [] ?_
 simp [setOk_nil]
 refine call_pure (c_rwset_Check [] fine_nil) (by simp [entsAV]) ?_
 simp [setOk_nil]
 refine AWp.cF (by simp) ?_
 refine AWp.skip ?_
 show AWp _ _ _ _
 refine AWp.g [3] [] ?_
 simp
 refine call_p (c_rwset_copied0) ?_
 simp
 refine AWp.seq ?_
 refine AWp.g [3, 11, 12] [] ?_
 simp
 refine AWp.block (AWp.while (fun i : Nat => [(3, .sl .own 3 []), (11, .i .i64 0), (12, .i .i64 0)]) (fun i => []) (fun i => True) (fun i => 0) [3, 11, 12] [] 0 (by simp) (by simp) ?_)
 intro i hi
 refine AWp.g [3, 11, 12, 13] [] ?_
 simp
 refine AWp.seq ?_
 refine AWp.cF (by simp) ?_
 refine AWp.exit ?_
 show AWp _ _ _ _
 refine AWp.goS [2] [] fun K hK => ?_
 refine SOps.unown0 3 100 rfl (by simp) rfl (by simp) (fun h0 => ?_) fun cap hcap => ?_
 ·simp
  refine SOps.cut 2 rfl fun K' hK' => ?_
  simp
  refine call_procK [] none (c_DeleteFunc_Entry_0 152) (by simp) (by simp) ?_
  simp
  refine hK' _ _ ?_
  clear hK'
  refine SOps.cut 1 rfl fun K3 hK3 => ?_
  simp
  refine hK3 _ _ (SOps.nil ?_)
  simp
  refine hK _ _ (AWp.ret ?_)
  simp
 have hcc : Calm (boxR entC [] (padE [] cap)) := boxR_calm entC_ok (Calm.replicate _ rfl)
 have hdf := c_DeleteFuncC_Entry [] (padE [] cap) cap 152 (fun e => decide (e.live.length = 0)) (by simp) (Calm.replicate _ rfl) (by simp) (fun n _ => c_rwset_Plain1 n) (by simp)
 have e0 : List.replicate (cap * 3) AV.any = boxR entC [] (padE [] cap) := by simp [boxR]
 simp [zerosL] at hdf
 simp [e0, hcc]
 refine SOps.cut 2 rfl fun K2 hK2 => ?_
 simp [hcc]
 refine call_proc [(0, 100)] none hdf (by simp) (by simp) ?_
 simp [hcc]
 refine ⟨by simpa using hcc.still, hK2 _ _ ?_⟩
 refine SOps.reown 21 100 cap (sz := 3) [] (padE [] cap) (by simp) (by simp) rfl (by simp) (by simp) (by simp) hcc.freeL ?_
 simp
 refine SOps.cut 1 rfl fun K3 hK3 => ?_
 simp
 refine hK3 _ _ (SOps.nil ?_)
 simp
 refine hK _ _ ?_
 clear hK3 hK2 hK K
 refine AWp.ret ?_
 simp
theorem c_rwset_Plain (s : List Entry) (hs : Fine s) : Pure Tryz.prog 82 [.sl .fro 3 (entsAV s)] (.sl .own 3 (entsAV (plainE s))) := by
 by_cases h : s = []
 ·subst h; exact c_rwset_Plain0
 ·exact c_rwset_PlainA s hs h
theorem plainE_len (s : List Entry) : (plainE s).length ≤ s.length := by
 unfold plainE
 split
 ·have := List.length_filter_le (fun e : Entry => !decide (e.live.length = 0)) (s.map bare)
  simpa using this
 ·simp
def keysAV (l : List Entry) : List (List AV) := l.map fun e => [.s e.key]
@[simp] theorem keysAV_length (l : List Entry) : (keysAV l).length = l.length := by simp [keysAV]
def lessen (c : List Int) (e : Entry) : Entry := ⟨e.key, e.live, leftD e.dead c⟩
def cleanE (s : List Entry) (c : List Int) : List Entry := if setOk s && clockOk c then (s.map (lessen c)).filter fun e => !(decide (e.live = []) && decide (e.dead = [])) else []
def cleanN (s : List Entry) (c : List Int) : Int := if setOk s && clockOk c then 0 else 1
set_option maxRecDepth 8000 in
set_option maxHeartbeats 4000000 in
theorem c_rwset_CleanA (s : List Entry) (c : List Int) (hs : Fine s) (hc : c.length ≤ 1000000) (hne : s ≠ []) : Pure Tryz.prog 96 [.sl .fro 3 (entsAV s), .sl .fro 1 (intsAV c)] (.tup [.sl .own 3 (entsAV (cleanE s c)), .i .i64 (cleanN s c)]) := by
 refine proc_of (cx Tryz.prog 37 [0, 1, 4, 5, 6, 7, 15, 19, 20, 21] [4, 5]) 35 [.tmp 4, .tmp 5] Tryz.func96 rfl rfl rfl rfl rfl rfl (Nat.le_refl _) rfl ?_
 refine AWp.g [0, 1] [] ?_
 simp
 refine AWp.seq ?_
 refine AWp.step [0, 1, 15] [] [(0, .sl .fro 3 (entsAV s)), (1, .sl .fro 1 (intsAV c)), (15, .b (!(setOk s && clockOk c)))] [] ?_ ?_
 ·have g1 := c_rwset_Check s hs
  have g2 := c100 c (by omega)
  simp
  refine call_pure g1 (by simp) ?_
  cases q1 : setOk s
  ·simp
  simp
  refine call_pure g2 (by simp) ?_
  cases q2 : clockOk c <;> simp
 cases hq : setOk s && clockOk c
 ·refine AWp.cT (by simp) ?_
  refine AWp.g [4, 5] [] ?_
  simp
  refine AWp.ret ?_
  simp [cleanE, cleanN, hq, entsAV]
 ·refine AWp.cF (by simp) ?_
  refine AWp.skip ?_
  show AWp _ _ _ _
  refine AWp.g [1, 6] [] ?_
  simp
  refine call_p (c_rwset_copied s hs) ?_
  simp
  refine AWp.unown 6 100 rfl (by simp) (by simpa [entsAV] using hne) rfl (by simp) fun cap hcap => ?_
  simp at hcap
  have hlen := hs.1
  have hcc : ∀ i, Calm (boxR entC (mapTo (lessen c) s i) (padE s cap)) := fun i => boxR_calm entC_ok (Calm.replicate _ rfl)
  have hbl : ∀ i, (boxR entC (mapTo (lessen c) s i) (padE s cap)).length = s.length * 3 + (cap - s.length) * 3 := fun i => by rw [boxR_len entC_ok, mapTo_len, List.length_replicate]
  have e0 : (entsAV s).flatten ++ List.replicate ((cap - s.length) * 3) AV.any = boxR entC (mapTo (lessen c) s 0) (padE s cap) := by simp [mapTo]; rfl
  simp [e0]
  refine AWp.seq ?_
  refine AWp.g [1, 6, 19, 20] [100] ?_
  simp [hcc]
  refine AWp.block (AWp.while (fun i : Nat => [(1, .sl .fro 1 (intsAV c)), (6, .bs 100 0 s.length cap), (19, .i .i64 s.length), (20, .i .i64 i)]) (fun i => [(100, boxR entC (mapTo (lessen c) s i) (padE s cap))]) (fun i => i ≤ s.length) (fun i => s.length - i) [1, 6, 19, 20] [100] 0 (by simp) (by simp [hcc]) ?_)
  intro i hi
  refine AWp.g [1, 6, 19, 20, 21] [100] ?_
  simp [hcc]
  refine AWp.seq ?_
  by_cases h2 : i < s.length
  ·refine AWp.cT (by simp [h2]) ?_
   refine AWp.skip ?_
   show AWp _ _ _ _
   refine AWp.seq ?_
   refine AWp.block ?_
   refine AWp.g [1, 6, 7, 19, 20] [100] ?_
   simp [hcc]
   have hst := entR_dead (mapTo (lessen c) s i) (padE s cap) i (by rw [mapTo_len]; exact h2) (leftD s[i].dead c)
   have hgt := entR_get (mapTo (lessen c) s i) (padE s cap) i (by rw [mapTo_len]; exact h2)
   rw [mapTo_get (lessen c) s i h2] at hst hgt
   rw [show (⟨s[i].key, s[i].live, leftD s[i].dead c⟩ : Entry) = lessen c s[i] from rfl, mapTo_succ (lessen c) s i h2] at hst
   have hg2 := (take3_1 hgt).2
   have hct := set_cut (L := boxR entC (mapTo (lessen c) s i) (padE s cap)) (j := i * 3 + 2) (by rw [hbl]; omega) (.sl .fro 2 (dotsAV (leftD s[i].dead c)))
   rw [hst] at hct
   have hl := hs.2 _ (List.getElem_mem h2)
   have g1 := (c_rwset_unknown s[i].dead c hl.2 hc).fro
   refine AWp.last [1, 6, 19, 20] [100] [(1, .sl .fro 1 (intsAV c)), (6, .bs 100 0 s.length cap), (19, .i .i64 s.length), (20, .i .i64 i)] [(100, boxR entC (mapTo (lessen c) s (i + 1)) (padE s cap))] ?_ ?_
   ·simp [hcc, hbl, h2, hg2]
    refine ⟨by omega, ?_⟩
    refine call_pure g1 (by simp) ?_
    simp [hcc, hbl, h2, hst, hct]
    omega
   show AWp _ _ _ _
   refine AWp.gL [1, 6, 19, 20] [100] ?_
   simp
   refine ⟨i + 1, by omega, by omega, ?_⟩
   simp [hcc]
   exact wrap64 (by omega) (by omega)
  ·refine AWp.cF (by simp [h2]) ?_
   refine AWp.exit ?_
   show AWp _ _ _ _
   obtain rfl : i = s.length := by omega
   have hcb := hcc s.length
   rw [mapTo_all] at *
   have hdf := c_DeleteFuncC_Entry (s.map (lessen c)) (padE s cap) cap 164 (fun e => decide (e.live = []) && decide (e.dead = [])) (by simpa using hcap) (Calm.replicate _ rfl) (by simp) (fun n hn => by
    obtain ⟨e, he, rfl⟩ := List.mem_map.1 hn
    have := hs.2 e he
    have h3 := leftD_len e.dead c
    exact c_rwset_Clean1 _ this.1 (by show (leftD e.dead c).length ≤ _; omega)) (by simpa using hlen)
   have hst := boxR_calm (l := (s.map (lessen c)).filter fun e => !(decide (e.live = []) && decide (e.dead = []))) entC_ok ((Calm.zeros (zero := zeroE) zeroE_calm ((s.map (lessen c)).length - ((s.map (lessen c)).filter fun e => !(decide (e.live = []) && decide (e.dead = []))).length)).append (Calm.replicate ((cap - s.length) * 3) (x := AV.any) rfl))
   have hpl : cleanE s c = (s.map (lessen c)).filter fun e => !(decide (e.live = []) && decide (e.dead = [])) := by rw [cleanE, if_pos hq]
   have hfl : ((s.map (lessen c)).filter fun e => !(decide (e.live = []) && decide (e.dead = []))).length ≤ s.length := by have := List.length_filter_le (fun e : Entry => !(decide (e.live = []) && decide (e.dead = []))) (s.map (lessen c)); simpa using this
   rw [← hpl] at hdf hst hfl
   have hrl := rows_len entC_ok (cleanE s c)
   rw [List.length_map] at hdf hst
   have hcn : cleanN s c = 0 := by rw [cleanN, if_pos hq]
   refine AWp.goS [4, 5] [] fun K hK => ?_
   refine SOps.cut 2 rfl fun K2 hK2 => ?_
   simp [hcb]
   refine call_proc [(0, 100)] none hdf (by simp) (by simp) ?_
   simp [hcb, hst]
   refine ⟨by simpa using hcb.still, by simpa using hst.still, hK2 _ _ ?_⟩
   refine SOps.reown 36 100 cap (sz := 3) (entsAV (cleanE s c)) (zerosL zeroE (s.length - (cleanE s c).length) ++ padE s cap) (by simp) (by simp) rfl ?_ (fun z hz => ?_) (ents_dat _) hst.freeL ?_
   ·have h5 : ((entsAV (cleanE s c)).flatten).length = (cleanE s c).length * 3 := hrl
    simp only [List.length_append, zerosL_length, List.length_replicate, h5]
    simp; omega
   ·obtain ⟨x, _, rfl⟩ := List.mem_map.1 hz; rfl
   simp
   refine SOps.cut 2 rfl fun K3 hK3 => ?_
   simp
   refine hK3 _ _ (SOps.nil ?_)
   simp
   refine hK _ _ ?_
   clear hK3 hK2 hK K
   refine AWp.ret ?_
   simp [hcn]
set_option maxRecDepth 8000 in
set_option maxHeartbeats 4000000 in
theorem c_rwset_Clean0 (c : List Int) (hc : c.length ≤ 1000000) : Pure Tryz.prog 96 [.sl .fro 3 [], .sl .fro 1 (intsAV c)] (.tup [.sl .own 3 [], .i .i64 (if clockOk c then 0 else 1)]) := by
 refine proc_of (cx Tryz.prog 37 [0, 1, 4, 5, 6, 7, 15, 19, 20, 21] [4, 5]) 35 [.tmp 4, .tmp 5] Tryz.func96 rfl rfl rfl rfl rfl rfl (Nat.le_refl _) rfl ?_
 refine AWp.g [0, 1] [] ?_
 simp
 refine AWp.seq ?_
 refine AWp.step [0, 1, 15] [] [(0, .sl .fro 3 []), (1, .sl .fro 1 (intsAV c)), (15, .b (!clockOk c))] [] ?_ ?_
 ·have g1 := c_rwset_Check [] fine_nil
  have g2 := c100 c (by omega)
  simp
  refine call_pure g1 (by simp [entsAV]) ?_
  simp [setOk_nil]
  refine call_pure g2 (by simp) ?_
  cases q2 : clockOk c <;> simp
 cases hq : clockOk c
 ·refine AWp.cT (by simp) ?_
  refine AWp.g [4, 5] [] ?_
  simp
  refine AWp.ret ?_
  simp
 ·refine AWp.cF (by simp) ?_
  refine AWp.skip ?_
  show AWp _ _ _ _
  refine AWp.g [1, 6] [] ?_
  simp
  refine call_p (c_rwset_copied0) ?_
  simp
  refine AWp.seq ?_
  refine AWp.g [1, 6, 19, 20] [] ?_
  simp
  refine AWp.block (AWp.while (fun i : Nat => [(1, .sl .fro 1 (intsAV c)), (6, .sl .own 3 []), (19, .i .i64 0), (20, .i .i64 0)]) (fun i => []) (fun i => True) (fun i => 0) [1, 6, 19, 20] [] 0 (by simp) (by simp) ?_)
  intro i hi
  refine AWp.g [1, 6, 19, 20, 21] [] ?_
  simp
  refine AWp.seq ?_
  refine AWp.cF (by simp) ?_
  refine AWp.exit ?_
  show AWp _ _ _ _
  refine AWp.goS [4, 5] [] fun K hK => ?_
  refine SOps.unown0 6 100 rfl (by simp) rfl (by simp) (fun h0 => ?_) fun cap hcap => ?_
  ·simp
   refine SOps.cut 2 rfl fun K' hK' => ?_
   simp
   refine call_procK [] none (c_DeleteFunc_Entry_0 164) (by simp) (by simp) ?_
   simp
   refine hK' _ _ ?_
   clear hK'
   refine SOps.cut 2 rfl fun K3 hK3 => ?_
   simp
   refine hK3 _ _ (SOps.nil ?_)
   simp
   refine hK _ _ (AWp.ret ?_)
   simp
  have hcc : Calm (boxR entC [] (padE [] cap)) := boxR_calm entC_ok (Calm.replicate _ rfl)
  have hdf := c_DeleteFuncC_Entry [] (padE [] cap) cap 164 (fun e => decide (e.live = []) && decide (e.dead = [])) (by simp) (Calm.replicate _ rfl) (by simp) (fun n hn => by simp at hn) (by simp)
  have e0 : List.replicate (cap * 3) AV.any = boxR entC [] (padE [] cap) := by simp [boxR]
  simp [zerosL] at hdf
  simp [e0, hcc]
  refine SOps.cut 2 rfl fun K2 hK2 => ?_
  simp [hcc]
  refine call_proc [(0, 100)] none hdf (by simp) (by simp) ?_
  simp [hcc]
  refine ⟨by simpa using hcc.still, hK2 _ _ ?_⟩
  refine SOps.reown 36 100 cap (sz := 3) [] (padE [] cap) (by simp) (by simp) rfl (by simp) (by simp) (by simp) hcc.freeL ?_
  simp
  refine SOps.cut 2 rfl fun K3 hK3 => ?_
  simp
  refine hK3 _ _ (SOps.nil ?_)
  simp
  refine hK _ _ ?_
  clear hK3 hK2 hK K
  refine AWp.ret ?_
  simp
theorem c_rwset_Clean (s : List Entry) (c : List Int) (hs : Fine s) (hc : c.length ≤ 1000000) : Pure Tryz.prog 96 [.sl .fro 3 (entsAV s), .sl .fro 1 (intsAV c)] (.tup [.sl .own 3 (entsAV (cleanE s c)), .i .i64 (cleanN s c)]) := by
 by_cases h : s = []
 ·subst h
  have := c_rwset_Clean0 c hc
  have e1 : cleanE [] c = [] := by unfold cleanE; split <;> rfl
  have e2 : cleanN [] c = if clockOk c then 0 else 1 := by simp [cleanN, setOk_nil]
  rw [e1, e2]
  exact this
 ·exact c_rwset_CleanA s c hs hc h
end Go.AM
namespace Go.AM
open Go.Proofs
def noneE (e : Entry) : Bool := decide ((e.live.length : Int) + e.dead.length = 0)
def putStep (e : Entry) (a : List Entry × Bool) (x : Entry) : List Entry × Bool :=
 let a' := if !a.2 && !ltK x.key e.key then (a.1 ++ [e], true) else a
 if eqK x.key e.key then a' else (a'.1 ++ [x], a'.2)
def putTo (s : List Entry) (e : Entry) (i : Nat) : List Entry × Bool := (s.take i).foldl (putStep e) ([], noneE e)
def putE (s : List Entry) (e : Entry) : List Entry := if (putTo s e s.length).2 then (putTo s e s.length).1 else (putTo s e s.length).1 ++ [e]
theorem putTo_succ (s : List Entry) (e : Entry) (i : Nat) (h : i < s.length) : putTo s e (i + 1) = putStep e (putTo s e i) s[i] := by
 unfold putTo
 rw [List.take_succ_eq_append_getElem h, List.foldl_append]
 rfl
theorem putStep_len (e : Entry) (a : List Entry × Bool) (x : Entry) : (putStep e a x).1.length ≤ a.1.length + 2 := by
 unfold putStep
 dsimp only
 split <;> split <;> simp
theorem putTo_len (s : List Entry) (e : Entry) : ∀ i, i ≤ s.length → (putTo s e i).1.length ≤ 2 * i
 | 0, _ => by simp [putTo]
 | i + 1, h => by
  have := putTo_len s e i (by omega)
  rw [putTo_succ s e i (by omega)]
  have := putStep_len e (putTo s e i) s[i]
  omega
theorem entsAV_snoc (l : List Entry) (e : Entry) : entsAV (l ++ [e]) = entsAV l ++ [[.s e.key, .sl .fro 2 (dotsAV e.live), .sl .fro 2 (dotsAV e.dead)]] := by
 unfold entsAV; rw [List.map_append]; rfl
theorem entsAV_snoc2 (l : List Entry) (e x : Entry) : entsAV (l ++ [e, x]) = entsAV l ++ [[.s e.key, .sl .fro 2 (dotsAV e.live), .sl .fro 2 (dotsAV e.dead)], [.s x.key, .sl .fro 2 (dotsAV x.live), .sl .fro 2 (dotsAV x.dead)]] := by
 unfold entsAV; rw [List.map_append]; rfl
set_option maxRecDepth 8000 in
set_option maxHeartbeats 4000000 in
theorem c_ref08_Put (s : List Entry) (e : Entry) (hs : s.length ≤ 1000000) (he : e.live.length ≤ 1000000 ∧ e.dead.length ≤ 1000000) : Pure Tryz.prog 90 [.sl .fro 3 (entsAV s), .agg (entC e)] (.sl .own 3 (entsAV (putE s e))) := by
 refine proc_of (cx Tryz.prog 61 [0, 3, 4, 5, 6, 7, 20, 34, 46, 55] [4]) 59 [.tmp 4] Tryz.func90 rfl rfl rfl rfl rfl rfl (Nat.le_refl _) rfl ?_
 refine AWp.g [0, 3] [3] ?_
 simp [entC]
 refine AWp.g [0, 3, 5] [3] ?_
 simp
 have w0 : IntKind.i64.wrap ((e.live.length : Int) + e.dead.length) = (e.live.length : Int) + e.dead.length := wrap64 (by omega) (by omega)
 refine AWp.step [0, 3, 5, 6] [3] [(0, .sl .fro 3 (entsAV s)), (3, .ptr 3 0), (5, .sl .own 3 []), (6, .b (noneE e))] [(3, [.s e.key, .sl .fro 2 (dotsAV e.live), .sl .fro 2 (dotsAV e.dead)])] ?_ ?_
 ·simp [w0, noneE]
 refine AWp.seq ?_
 refine AWp.g [0, 3, 5, 6, 7] [3] ?_
 simp
 refine AWp.block (AWp.while (fun i : Nat => [(0, .sl .fro 3 (entsAV s)), (3, .ptr 3 0), (5, .sl .own 3 (entsAV (putTo s e i).1)), (6, .b (putTo s e i).2), (7, .i .i64 i)]) (fun i => [(3, [.s e.key, .sl .fro 2 (dotsAV e.live), .sl .fro 2 (dotsAV e.dead)])]) (fun i => i ≤ s.length) (fun i => s.length - i) [0, 3, 5, 6, 7] [3] 0 (by simp) (by simp [putTo, entsAV]) ?_)
 intro i hi
 have hll := putTo_len s e i hi
 refine AWp.seq ?_
 refine AWp.g [0, 3, 5, 6, 7, 20] [3] ?_
 simp
 by_cases h2 : i < s.length
 ·refine AWp.cT (by simp [h2]) ?_
  refine AWp.skip ?_
  show AWp _ _ _ _
  refine AWp.seq ?_
  refine AWp.block ?_
  refine AWp.seq ?_
  refine AWp.stepD 12 (fun _ => .any) [0, 3, 5, 6, 7, 34] [3] [(0, .sl .fro 3 (entsAV s)), (3, .ptr 3 0), (5, .sl .own 3 (entsAV (putTo s e i).1)), (6, .b (putTo s e i).2), (7, .i .i64 i), (34, .b (!(putTo s e i).2 && !ltK s[i].key e.key))] [(3, [.s e.key, .sl .fro 2 (dotsAV e.live), .sl .fro 2 (dotsAV e.dead)])] mix (by kernel_rfl) ?_ ?_
  ·cases q1 : (putTo s e i).2 <;> simp [h2, q1, ltK]
  cases hd : !(putTo s e i).2 && !ltK s[i].key e.key
  ·refine AWp.cF (by simp) ?_
   refine AWp.skip ?_
   show AWp _ _ _ _
   refine AWp.stepD 8 (fun _ => .any) [0, 3, 5, 6, 7, 46] [3] [(0, .sl .fro 3 (entsAV s)), (3, .ptr 3 0), (5, .sl .own 3 (entsAV (putTo s e i).1)), (6, .b (putTo s e i).2), (7, .i .i64 i), (46, .b (!eqK s[i].key e.key))] [(3, [.s e.key, .sl .fro 2 (dotsAV e.live), .sl .fro 2 (dotsAV e.dead)])] mix (by kernel_rfl) ?_ ?_
   ·simp [h2, eqK]
   cases hp : eqK s[i].key e.key
   ·refine AWp.cT (by simp) ?_
    refine AWp.gL [0, 3, 5, 6, 7] [3] ?_
    simp [h2]
    refine ⟨by omega, ?_⟩
    show AWp _ _ _ _
    refine AWp.gL [0, 3, 5, 6, 7] [3] ?_
    simp
    refine ⟨i + 1, by omega, by omega, ?_⟩
    have w1 : IntKind.i64.wrap ((i : Int) + 1) = i + 1 := wrap64 (by omega) (by omega)
    simp only [putTo_succ _ _ _ h2, putStep, hd, hp]
    simp [entsAV_snoc, entsAV_snoc2, w1]
   ·refine AWp.cF (by simp) ?_
    refine AWp.skip ?_
    show AWp _ _ _ _
    refine AWp.gL [0, 3, 5, 6, 7] [3] ?_
    simp
    refine ⟨i + 1, by omega, by omega, ?_⟩
    have w1 : IntKind.i64.wrap ((i : Int) + 1) = i + 1 := wrap64 (by omega) (by omega)
    simp only [putTo_succ _ _ _ h2, putStep, hd, hp]
    simp [entsAV_snoc, entsAV_snoc2, w1]
  ·refine AWp.cT (by simp) ?_
   refine AWp.step [0, 3, 5, 7] [3] [(0, .sl .fro 3 (entsAV s)), (3, .ptr 3 0), (5, .sl .own 3 (entsAV ((putTo s e i).1 ++ [e]))), (7, .i .i64 i)] [(3, [.s e.key, .sl .fro 2 (dotsAV e.live), .sl .fro 2 (dotsAV e.dead)])] ?_ ?_
   ·simp [entsAV_snoc]
    omega
   refine AWp.gL [0, 3, 5, 6, 7] [3] ?_
   simp
   show AWp _ _ _ _
   refine AWp.stepD 8 (fun _ => .any) [0, 3, 5, 6, 7, 46] [3] [(0, .sl .fro 3 (entsAV s)), (3, .ptr 3 0), (5, .sl .own 3 (entsAV ((putTo s e i).1 ++ [e]))), (6, .b true), (7, .i .i64 i), (46, .b (!eqK s[i].key e.key))] [(3, [.s e.key, .sl .fro 2 (dotsAV e.live), .sl .fro 2 (dotsAV e.dead)])] mix (by kernel_rfl) ?_ ?_
   ·simp [h2, eqK]
   cases hp : eqK s[i].key e.key
   ·refine AWp.cT (by simp) ?_
    refine AWp.gL [0, 3, 5, 6, 7] [3] ?_
    simp [h2]
    refine ⟨by omega, ?_⟩
    show AWp _ _ _ _
    refine AWp.gL [0, 3, 5, 6, 7] [3] ?_
    simp
    refine ⟨i + 1, by omega, by omega, ?_⟩
    have w1 : IntKind.i64.wrap ((i : Int) + 1) = i + 1 := wrap64 (by omega) (by omega)
    simp only [putTo_succ _ _ _ h2, putStep, hd, hp]
    simp [entsAV_snoc, entsAV_snoc2, w1]
   ·refine AWp.cF (by simp) ?_
    refine AWp.skip ?_
    show AWp _ _ _ _
    refine AWp.gL [0, 3, 5, 6, 7] [3] ?_
    simp
    refine ⟨i + 1, by omega, by omega, ?_⟩
    have w1 : IntKind.i64.wrap ((i : Int) + 1) = i + 1 := wrap64 (by omega) (by omega)
    simp only [putTo_succ _ _ _ h2, putStep, hd, hp]
    simp [entsAV_snoc, entsAV_snoc2, w1]
 ·refine AWp.cF (by simp [h2]) ?_
  refine AWp.exit ?_
  show AWp _ _ _ _
  refine AWp.seq ?_
  obtain rfl : i = s.length := by omega
  refine AWp.g [3, 5, 55] [3] ?_
  simp
  refine AWp.cond rfl (fun hc => ?_) (fun hc => ?_)
  ·simp at hc
   refine AWp.gL [5] [] ?_
   simp
   refine ⟨by omega, ?_⟩
   show AWp _ _ _ _
   refine AWp.g [4] [] ?_
   simp
   refine AWp.ret ?_
   simp [putE, hc, entsAV_snoc]
  ·simp at hc
   refine AWp.skip ?_
   show AWp _ _ _ _
   refine AWp.g [4] [] ?_
   simp
   refine AWp.ret ?_
   simp [putE, hc, entsAV_snoc]
def putsTo (f : Entry → Entry) (s : List Entry) (i : Nat) : List Entry := (s.take i).foldl (fun o x => putE o (f x)) []
theorem putsTo_succ (f : Entry → Entry) (s : List Entry) (i : Nat) (h : i < s.length) : putsTo f s (i + 1) = putE (putsTo f s i) (f s[i]) := by
 unfold putsTo
 rw [List.take_succ_eq_append_getElem h, List.foldl_append]
 rfl
def putsE (f : Entry → Entry) (s : List Entry) : List Entry := putsTo f s s.length
set_option maxRecDepth 8000 in
set_option maxHeartbeats 4000000 in
theorem c_ref09_Plain (s : List Entry) (hs : Fine s) (hb : ∀ i, i ≤ s.length → (putsTo bare s i).length ≤ 1000000) : Pure Tryz.prog 105 [.sl .fro 3 (entsAV s)] (.sl .fro 3 (entsAV (putsE bare s))) := by
 have hlen := hs.1
 refine proc_of (cx Tryz.prog 26 [0, 2, 3, 4, 9] [2]) 25 [.tmp 2] Tryz.func105 rfl rfl rfl rfl rfl rfl (Nat.le_refl _) rfl ?_
 refine AWp.g [0] [] ?_
 simp
 refine AWp.g [0, 3] [] ?_
 simp
 refine AWp.seq ?_
 refine AWp.g [0, 3, 4] [] ?_
 simp
 refine AWp.frz [3] ?_
 simp
 refine AWp.block (AWp.while (fun i : Nat => [(0, .sl .fro 3 (entsAV s)), (3, .sl .fro 3 (entsAV (putsTo bare s i))), (4, .i .i64 i)]) (fun i => []) (fun i => i ≤ s.length) (fun i => s.length - i) [0, 3, 4] [] 0 (by simp) (by simp [putsTo, entsAV]) ?_)
 intro i hi
 refine AWp.seq ?_
 refine AWp.g [0, 3, 4, 9] [] ?_
 simp
 by_cases h2 : i < s.length
 ·refine AWp.cT (by simp [h2]) ?_
  refine AWp.skip ?_
  show AWp _ _ _ _
  refine AWp.seq ?_
  refine AWp.block ?_
  have hl := hs.2 _ (List.getElem_mem h2)
  have g1 := c_ref08_Put (putsTo bare s i) (bare s[i]) (hb i hi) ⟨hl.1, by simp [bare]⟩
  rw [← putsTo_succ bare s i h2] at g1
  have g2 := g1.fro
  simp [bare, entC, show dotsAV [] = [] from rfl] at g2
  refine AWp.lastD 13 (fun k => if k = 12 then .sl .fro 3 (entsAV (putsTo bare s (i + 1))) else .any) [0, 3, 4] [] [(0, .sl .fro 3 (entsAV s)), (3, .sl .fro 3 (entsAV (putsTo bare s (i + 1)))), (4, .i .i64 i)] [] mix (by kernel_rfl) ?_ ?_
  ·simp [h2]
   exact g2
  show AWp _ _ _ _
  refine AWp.gL [0, 3, 4] [] ?_
  simp
  refine ⟨i + 1, by omega, by omega, ?_⟩
  simp
  exact wrap64 (by omega) (by omega)
 ·refine AWp.cF (by simp [h2]) ?_
  refine AWp.exit ?_
  show AWp _ _ _ _
  obtain rfl : i = s.length := by omega
  refine AWp.g [2] [] ?_
  simp
  refine AWp.ret ?_
  simp [putsE]
set_option maxRecDepth 8000 in
set_option maxHeartbeats 4000000 in
theorem c_ref09_Clean (s : List Entry) (c : List Int) (hs : Fine s) (hc : c.length ≤ 1000000) (hb : ∀ i, i ≤ s.length → (putsTo (lessen c) s i).length ≤ 1000000) : Pure Tryz.prog 106 [.sl .fro 3 (entsAV s), .sl .fro 1 (intsAV c)] (.sl .fro 3 (entsAV (putsE (lessen c) s))) := by
 have hlen := hs.1
 refine proc_of (cx Tryz.prog 35 [0, 1, 4, 5, 6, 11] [4]) 33 [.tmp 4] Tryz.func106 rfl rfl rfl rfl rfl rfl (Nat.le_refl _) rfl ?_
 refine AWp.g [0, 1] [] ?_
 simp
 refine AWp.g [0, 1, 5] [] ?_
 simp
 refine AWp.seq ?_
 refine AWp.g [0, 1, 5, 6] [] ?_
 simp
 refine AWp.frz [5] ?_
 simp
 refine AWp.block (AWp.while (fun i : Nat => [(0, .sl .fro 3 (entsAV s)), (1, .sl .fro 1 (intsAV c)), (5, .sl .fro 3 (entsAV (putsTo (lessen c) s i))), (6, .i .i64 i)]) (fun i => []) (fun i => i ≤ s.length) (fun i => s.length - i) [0, 1, 5, 6] [] 0 (by simp) (by simp [putsTo, entsAV]) ?_)
 intro i hi
 refine AWp.seq ?_
 refine AWp.g [0, 1, 5, 6, 11] [] ?_
 simp
 by_cases h2 : i < s.length
 ·refine AWp.cT (by simp [h2]) ?_
  refine AWp.skip ?_
  show AWp _ _ _ _
  refine AWp.seq ?_
  refine AWp.block ?_
  have hl := hs.2 _ (List.getElem_mem h2)
  have hld := leftD_len s[i].dead c
  have g1 := c_ref08_Put (putsTo (lessen c) s i) (lessen c s[i]) (hb i hi) ⟨hl.1, by simp [lessen]; omega⟩
  rw [← putsTo_succ (lessen c) s i h2] at g1
  have g2 := g1.fro
  simp [lessen, entC] at g2
  have g3 := (c_ref08_Left s[i].dead c hl.2 hc).fro
  refine AWp.lastD 20 (fun k => if k = 17 then .sl .fro 2 (dotsAV (leftD s[i].dead c)) else if k = 19 then .sl .fro 3 (entsAV (putsTo (lessen c) s (i + 1))) else .any) [0, 1, 5, 6] [] [(0, .sl .fro 3 (entsAV s)), (1, .sl .fro 1 (intsAV c)), (5, .sl .fro 3 (entsAV (putsTo (lessen c) s (i + 1)))), (6, .i .i64 i)] [] mix (by kernel_rfl) ?_ ?_
  ·simp [h2]
   exact ⟨g3, g2⟩
  show AWp _ _ _ _
  refine AWp.gL [0, 1, 5, 6] [] ?_
  simp
  refine ⟨i + 1, by omega, by omega, ?_⟩
  simp
  exact wrap64 (by omega) (by omega)
 ·refine AWp.cF (by simp [h2]) ?_
  refine AWp.exit ?_
  show AWp _ _ _ _
  obtain rfl : i = s.length := by omega
  refine AWp.g [4] [] ?_
  simp
  refine AWp.ret ?_
  simp [putsE]
end Go.AM
namespace Go.AM
open Go.Proofs
theorem place_nil (k : ByteArray) : place [] k = 0 := bsF_done _ 0
theorem there_nil (k : ByteArray) : there [] k = false := rfl
end Go.AM
namespace Go.AM
open Go.Proofs
def addE (s : List Entry) (k : ByteArray) (d : Dot) (c : List Int) : List Entry :=
 if 0 < (leftD (atE s k).dead c).length then s else s.set (place s k) ⟨k, ordP (leftD (atE s k).live c ++ [d]), (atE s k).dead⟩
def dropE (s : List Entry) (k : ByteArray) (d : Dot) (c : List Int) : List Entry :=
 s.set (place s k) ⟨k, [], ordP (leftD (atE s k).dead c ++ [d])⟩
end Go.AM
namespace Go.AM
open Go.Proofs
theorem ordP_one (d : Dot) : ordP [d] = [d] := by
 have h := sortD_length [d]
 have e : sortD [d] = [d] := by simp [sortD]
 rw [ordP, e, compD_one _ rfl]
abbrev kK : ByteArray := ⟨#[107]⟩
def wkA : Entry := ⟨kK, [(1, 1)], []⟩
def wkB : Entry := ⟨kK, [], [(2, 1)]⟩
def wkC : Entry := ⟨kK, [(1, 2)], [(2, 1)]⟩
end Go.AM
namespace Go.AM
def KL (a b : ByteArray) : Prop := a.toList < b.toList
theorem ltK_iff (a b : ByteArray) : ltK a b = true ↔ KL a b := by
 unfold ltK KL
 rw [Go.Proofs.bytesLess_eq]
 simp
theorem eqK_iff (a b : ByteArray) : eqK a b = true ↔ a.toList = b.toList := by simp [eqK]
theorem KL.irrefl (a : ByteArray) : ¬ KL a a := List.lt_irrefl _
theorem KL.trans {a b c : ByteArray} (h1 : KL a b) (h2 : KL b c) : KL a c := List.lt_trans h1 h2
theorem KL.ne {a b : ByteArray} (h : KL a b) : eqK a b = false := by
 rw [Bool.eq_false_iff]
 intro e
 rw [eqK_iff] at e
 unfold KL at h
 rw [e] at h
 exact List.lt_irrefl _ h
theorem KL.of_leK {a b : ByteArray} (h : leK a b = false) : KL b a := by
 simp only [leK, Bool.or_eq_false_iff] at h
 have h1 : ¬ KL a b := fun h' => by rw [(ltK_iff a b).2 h'] at h; cases h.1
 have h2 : ¬ a.toList = b.toList := fun h' => by rw [(eqK_iff a b).2 h'] at h; cases h.2
 refine Classical.byContradiction fun h3 => h2 ?_
 exact List.le_antisymm (List.not_lt.1 h3) (List.not_lt.1 h1)
abbrev SortE (s : List Entry) : Prop := s.Pairwise fun a b => KL a.key b.key
theorem SortE.of_adj {l : List Entry} (h : ∀ i (hi : i + 1 < l.length), KL (l[i]'(by omega)).key l[i + 1].key) : SortE l := by
 induction l with
 | nil => exact List.Pairwise.nil
 | cons a l ih =>
  have hl : SortE l := ih fun i hi => h (i + 1) (by simpa using hi)
  refine List.Pairwise.cons (fun b hb => ?_) hl
  match l, hl, hb, h with
  | c :: m, hl, hb, h =>
   have h0 : KL a.key c.key := h 0 (by simp)
   rcases List.mem_cons.1 hb with rfl | hb
   ·exact h0
   ·exact h0.trans (List.rel_of_pairwise_cons hl hb)
theorem setOk_entry {s : List Entry} (h : setOk s = true) (i : Nat) (hi : i < s.length) : entOk (prevK s i) s[i] = true := by
 simp only [setOk, Bool.and_eq_true] at h
 have := List.all_eq_true.1 h.2 i (by simpa using hi)
 simpa [entAt, hi] using this
theorem setOk_sort {s : List Entry} (h : setOk s = true) : SortE s := by
 refine SortE.of_adj fun i hi => ?_
 have := setOk_entry h (i + 1) hi
 rw [prevK_succ s i (by omega)] at this
 simp only [entOk, Bool.and_eq_true, Bool.not_eq_true'] at this
 exact KL.of_leK this.1.1.1.2
theorem putTo_last (s : List Entry) (e : Entry) (h : ∀ y ∈ s, KL y.key e.key) : ∀ i, i ≤ s.length → putTo s e i = (s.take i, noneE e)
 | 0, _ => rfl
 | i + 1, hi => by
  have ih := putTo_last s e h i (by omega)
  have hk := h s[i] (List.getElem_mem (by omega))
  rw [putTo_succ s e i (by omega), ih, putStep, (ltK_iff _ _).2 hk, hk.ne, List.take_succ_eq_append_getElem (by omega)]
  simp
theorem putE_last (s : List Entry) (e : Entry) (h : ∀ y ∈ s, KL y.key e.key) : putE s e = if noneE e then s else s ++ [e] := by
 unfold putE
 rw [putTo_last s e h s.length (Nat.le_refl _), List.take_length]
theorem putsTo_sorted (f : Entry → Entry) (hf : ∀ e, (f e).key = e.key) {s : List Entry} (h : SortE s) : ∀ i, i ≤ s.length → putsTo f s i = ((s.take i).map f).filter fun e => !noneE e
 | 0, _ => rfl
 | i + 1, hi => by
  have ih := putsTo_sorted f hf h i (by omega)
  rw [putsTo_succ f s i (by omega), ih, putE_last, List.take_succ_eq_append_getElem (by omega), List.map_append, List.filter_append]
  ·cases hn : noneE (f s[i]) <;> simp [hn]
  ·intro y hy
   obtain ⟨x, hx, rfl⟩ := List.mem_map.1 (List.mem_filter.1 hy).1
   obtain ⟨k, hk, rfl⟩ := List.mem_take_iff_getElem.1 hx
   rw [hf, hf]
   exact List.pairwise_iff_getElem.1 h k i (by omega) (by omega) (by omega)
theorem putsTo_small (f : Entry → Entry) (hf : ∀ e, (f e).key = e.key) {s : List Entry} (h : SortE s) (i : Nat) (hi : i ≤ s.length) : (putsTo f s i).length ≤ s.length := by
 rw [putsTo_sorted f hf h i hi]
 refine Nat.le_trans (List.length_filter_le _ _) ?_
 rw [List.length_map, List.length_take]; omega
theorem plain_law {s : List Entry} (h : setOk s = true) : plainE s = putsE bare s := by
 rw [plainE, if_pos h, putsE, putsTo_sorted bare (fun _ => rfl) (setOk_sort h) _ (Nat.le_refl _), List.take_length]
 refine List.filter_congr fun e he => ?_
 obtain ⟨x, _, rfl⟩ := List.mem_map.1 he
 congr 1
 simp [noneE, bare]
theorem clean_law {s : List Entry} {c : List Int} (h : setOk s = true) (hc : clockOk c = true) : cleanE s c = putsE (lessen c) s := by
 rw [cleanE, h, hc, putsE, putsTo_sorted (lessen c) (fun _ => rfl) (setOk_sort h) _ (Nat.le_refl _), List.take_length]
 refine List.filter_congr fun e _ => ?_
 congr 1
 rw [Bool.eq_iff_iff]
 simp [noneE]
 rw [← List.length_eq_zero_iff, ← List.length_eq_zero_iff]
 omega
theorem sameE_refl (e : Entry) : sameE e e = true := by simp [sameE, eqK]
theorem sameB_refl (s : List Entry) : sameB s s = true := by
 simp only [sameB, decide_true, Bool.true_and, List.all_eq_true]
 intro i hi
 have hi : i < s.length := by simpa using hi
 simp [hi, sameE_refl]
end Go.AM
namespace Go.AM
theorem cmpB_lt : ∀ a b : List UInt8, Lib.compareBytes a b < 0 ↔ a < b
 | [], [] => by simp [Lib.compareBytes]
 | [], b :: bs => by simp [Lib.compareBytes]
 | a :: l, [] => by simp [Lib.compareBytes]
 | a :: l, b :: m => by
  rw [Lib.compareBytes, List.cons_lt_cons_iff]
  by_cases h1 : a < b
  ·simp [h1]
  ·by_cases h2 : b < a
   ·have h3 : ¬ a = b := by rintro rfl; exact h1 h2
    simp [h1, h2, h3]
   ·have h3 : a = b := UInt8.le_antisymm (UInt8.not_lt.1 h2) (UInt8.not_lt.1 h1)
    subst h3
    simp [h1, cmpB_lt l m]
theorem cmpB_eq : ∀ a b : List UInt8, Lib.compareBytes a b = 0 ↔ a = b
 | [], [] => by simp [Lib.compareBytes]
 | [], b :: bs => by simp [Lib.compareBytes]
 | a :: l, [] => by simp [Lib.compareBytes]
 | a :: l, b :: m => by
  rw [Lib.compareBytes]
  by_cases h1 : a < b
  ·have h3 : ¬ a = b := by rintro rfl; exact UInt8.lt_irrefl _ h1
   simp [h1, h3]
  ·by_cases h2 : b < a
   ·have h3 : ¬ a = b := by rintro rfl; exact h1 h2
    simp [h1, h2, h3]
   ·have h3 : a = b := UInt8.le_antisymm (UInt8.not_lt.1 h2) (UInt8.not_lt.1 h1)
    subst h3
    simp [h1, cmpB_eq l m]
theorem bsF_spec (p : Nat → Bool) (n : Nat) (mono : ∀ i j, i ≤ j → j < n → p j = true → p i = true) (lo hi : Nat) : lo ≤ hi → hi ≤ n → (∀ i, i < lo → p i = true) → (∀ i, hi ≤ i → i < n → p i = false) →
  (∀ i, i < bsF p lo hi → p i = true) ∧ ∀ i, bsF p lo hi ≤ i → i < n → p i = false := by
 induction lo, hi using bsF.induct p with
 | case1 lo hi h1 h2 ih =>
  intro a1 a2 a3 a4
  rw [bsF, if_pos h1, if_pos h2]
  exact ih (by omega) a2 (fun i hi => mono i _ (by omega) (by omega) h2) a4
 | case2 lo hi h1 h2 ih =>
  intro a1 a2 a3 a4
  rw [bsF, if_pos h1, if_neg h2]
  refine ih (by omega) (by omega) a3 fun i hi hn => ?_
  rw [Bool.eq_false_iff]
  exact fun hp => h2 (mono _ i hi hn hp)
 | case3 lo hi h1 =>
  intro a1 a2 a3 a4
  rw [bsF, if_neg h1]
  have : lo = hi := by omega
  subst this
  exact ⟨a3, a4⟩
theorem toList_data (k : ByteArray) : k.data.toList = k.toList := (ByteArray.toList_eq k).symm
theorem cmpK_lt (a b : ByteArray) : cmpK a b < 0 ↔ KL a b := by rw [cmpK, toList_data, toList_data]; exact cmpB_lt _ _
theorem cmpK_eq (a b : ByteArray) : cmpK a b = 0 ↔ eqK a b = true := by rw [cmpK, toList_data, toList_data, eqK_iff]; exact cmpB_eq _ _
theorem less_at (s : List Entry) (k : ByteArray) (i : Nat) (h : i < s.length) : less s k i = true ↔ KL s[i].key k := by
 simp [less, h, cmpK_lt]
theorem place_spec {s : List Entry} (hs : SortE s) (k : ByteArray) : (∀ i (h : i < s.length), i < place s k → KL s[i].key k) ∧ ∀ i (h : i < s.length), place s k ≤ i → ¬ KL s[i].key k := by
 have := bsF_spec (less s k) s.length (fun i j hij hj hp => ?_) 0 s.length (Nat.zero_le _) (Nat.le_refl _) (fun i h => by omega) (fun i h1 h2 => by omega)
 ·refine ⟨fun i h hp => (less_at s k i h).1 (this.1 i hp), fun i h hp hk => ?_⟩
  have := this.2 i hp h
  rw [(less_at s k i h).2 hk] at this
  cases this
 ·rw [less_at s k i (by omega)]
  have h2 := (less_at s k j hj).1 hp
  rcases Nat.lt_or_ge i j with h | h
  ·exact (List.pairwise_iff_getElem.1 hs i j (by omega) hj h).trans h2
  ·obtain rfl : i = j := by omega
   exact h2
end Go.AM
namespace Go.AM
end Go.AM
namespace Go.AM
open Go.Proofs
@[simp] theorem keysAV_getElem (l : List Entry) (i : Nat) (h : i < (keysAV l).length) : (keysAV l)[i] = [.s (l[i]'(by simpa using h)).key] := by simp [keysAV]
end Go.AM
namespace Go.AM
def Rows (k : Nat) (R : List (List AV)) : Prop := ∀ r ∈ R, r.length = k ∧ Calm r ∧ allDat r = true
def boxF (R : List (List AV)) (pad : List AV) : List AV := R.flatten ++ pad
theorem Rows.nil {k} : Rows k [] := fun _ h => by simp at h
theorem Rows.append {k R1 R2} (h1 : Rows k R1) (h2 : Rows k R2) : Rows k (R1 ++ R2) := fun r h => by
 rcases List.mem_append.1 h with h | h
 ·exact h1 r h
 ·exact h2 r h
theorem Rows.cons {k r R} (h1 : Rows k [r]) (h2 : Rows k R) : Rows k (r :: R) := Rows.append (R1 := [r]) h1 h2
theorem Rows.take {k R} (h : Rows k R) (n : Nat) : Rows k (R.take n) := fun r hr => h r (List.mem_of_mem_take hr)
theorem Rows.drop {k R} (h : Rows k R) (n : Nat) : Rows k (R.drop n) := fun r hr => h r (List.mem_of_mem_drop hr)
theorem Rows.rep {k r} (h : Rows k [r]) (n : Nat) : Rows k (List.replicate n r) := fun x hx => by rw [List.eq_of_mem_replicate hx]; exact h r (by simp)
section
variable {k : Nat} {R Y : List (List AV)} {pad : List AV}
theorem Rows.flat (h : Rows k R) : R.flatten.length = R.length * k := flatten_length fun x hx => (h x hx).1
theorem boxF_len (h : Rows k R) (pad : List AV) : (boxF R pad).length = R.length * k + pad.length := by
 unfold boxF; rw [List.length_append, h.flat]
theorem boxF_calm (h : Rows k R) (hp : Calm pad) : Calm (boxF R pad) := by
 refine Calm.append (fun c hc => ?_) hp
 obtain ⟨y, hy, hc⟩ := List.mem_flatten.1 hc
 exact (h y hy).2.1 c hc
theorem take_flat (h : Rows k R) (j : Nat) (hj : j ≤ R.length) : R.flatten.take (j * k) = (R.take j).flatten := by
 have e : R.flatten = (R.take j).flatten ++ (R.drop j).flatten := by rw [← List.flatten_append, List.take_append_drop]
 rw [e, List.take_left' (by rw [(h.take j).flat, List.length_take, Nat.min_eq_left hj])]
theorem drop_flat (h : Rows k R) (j : Nat) (hj : j ≤ R.length) : R.flatten.drop (j * k) = (R.drop j).flatten := by
 have e : R.flatten = (R.take j).flatten ++ (R.drop j).flatten := by rw [← List.flatten_append, List.take_append_drop]
 rw [e, List.drop_left' (by rw [(h.take j).flat, List.length_take, Nat.min_eq_left hj])]
theorem mul_le (h : Rows k R) {j : Nat} (hj : j ≤ R.length) : j * k ≤ R.flatten.length := by rw [h.flat]; exact Nat.mul_le_mul_right _ hj
theorem boxF_take (h : Rows k R) (pad : List AV) (j : Nat) (hj : j ≤ R.length) : (boxF R pad).take (j * k) = (R.take j).flatten := by
 unfold boxF
 rw [List.take_append_of_le_length (mul_le h hj), take_flat h j hj]
theorem boxF_drop (h : Rows k R) (pad : List AV) (j : Nat) (hj : j ≤ R.length) : (boxF R pad).drop (j * k) = boxF (R.drop j) pad := by
 unfold boxF
 rw [List.drop_append_of_le_length (mul_le h hj), drop_flat h j hj]
theorem chunk_flat (h : Rows k R) (X : List AV) : chunk k R.length (R.flatten ++ X) = R := by
 induction R with
 | nil => rfl
 | cons r R ih =>
  have hr := (h r (by simp)).1
  have hR : Rows k R := fun x hx => h x (by simp [hx])
  show (r ++ R.flatten ++ X).take k :: chunk k R.length ((r ++ R.flatten ++ X).drop k) = _
  rw [List.append_assoc, List.take_left' hr, List.drop_left' hr, ih hR]
theorem boxF_chunk (h : Rows k R) (pad : List AV) (j m : Nat) (hj : j + m ≤ R.length) : chunk k m ((boxF R pad).drop (j * k)) = (R.drop j).take m := by
 rw [boxF_drop h pad j (by omega)]
 have e : R.drop j = (R.drop j).take m ++ (R.drop j).drop m := (List.take_append_drop _ _).symm
 have hl : ((R.drop j).take m).length = m := by rw [List.length_take, List.length_drop]; omega
 unfold boxF
 conv => lhs; rw [e, List.flatten_append, List.append_assoc]
 have := chunk_flat ((h.drop j).take m) (((R.drop j).drop m).flatten ++ pad)
 rw [hl] at this
 exact this
theorem boxF_dat (h : Rows k R) (pad : List AV) (j m : Nat) (hj : j + m ≤ R.length) : allDat (((boxF R pad).drop (j * k)).take (m * k)) = true := by
 unfold allDat
 rw [boxF_drop h pad j (by omega), boxF_take (h.drop j) pad m (by rw [List.length_drop]; omega), List.all_eq_true]
 intro c hc
 obtain ⟨y, hy, hc⟩ := List.mem_flatten.1 hc
 have := (h y (List.mem_of_mem_drop (List.mem_of_mem_take hy))).2.2
 unfold allDat at this
 rw [List.all_eq_true] at this
 exact this c hc
theorem boxF_put (h : Rows k R) (pad : List AV) (j : Nat) (hj : j + Y.length ≤ R.length) :
  (boxF R pad).take (j * k) ++ (Y.flatten ++ (boxF R pad).drop (j * k + Y.length * k)) = boxF (R.take j ++ Y ++ R.drop (j + Y.length)) pad := by
 rw [boxF_take h pad j (by omega), ← Nat.add_mul, boxF_drop h pad _ hj]
 unfold boxF
 simp [List.flatten_append]
theorem boxF_grow (h : Rows k R) (pad : List AV) :
  (boxF R pad).take (R.length * k) ++ (Y.flatten ++ (boxF R pad).drop (R.length * k + Y.length * k)) = boxF (R ++ Y) (pad.drop (Y.length * k)) := by
 unfold boxF
 rw [← h.flat, List.take_left, List.drop_append, Nat.add_sub_cancel_left, List.drop_eq_nil_of_le (by omega), List.flatten_append]
 simp
theorem boxF_shift (h : Rows k R) (pad : List AV) (i : Nat) (hi : i < R.length) :
  (boxF R pad).take ((i + 1) * k) ++ ((R.drop i).flatten ++ (boxF R pad).drop ((i + 1) * k + (R.drop i).length * k)) = boxF (R.take (i + 1) ++ R.drop i) (pad.drop k) := by
 rw [boxF_take h pad (i + 1) (by omega), List.length_drop, ← Nat.add_mul, show i + 1 + (R.length - i) = R.length + 1 by omega, Nat.add_mul, Nat.one_mul]
 unfold boxF
 have e : R.flatten.drop (R.flatten.length + k) = [] := List.drop_eq_nil_of_le (by omega)
 rw [← h.flat, List.drop_append, Nat.add_sub_cancel_left, e, List.flatten_append]
 simp
theorem sum_len (h : Rows k R) : (R.map List.length).sum = R.length * k := by
 rw [← List.length_flatten, h.flat]
theorem boxF_chunk_all (h : Rows k R) (pad : List AV) (j : Nat) (hj : j ≤ R.length) : chunk k (R.length - j) ((boxF R pad).drop (j * k)) = R.drop j := by
 rw [boxF_chunk h pad j _ (by omega), List.take_of_length_le (by simp)]
end
end Go.AM
namespace Go.AM
open Go.Proofs
theorem Entry_apart : Apart Tryz.prog 226 := ⟨_, 74, 4, 130, 3, Tryz.func226, by kernel_rfl, by kernel_rfl, by kernel_rfl, by kernel_rfl, Tryz.underlying74, Tryz.sizeOf130⟩
set_option maxRecDepth 8000 in
set_option maxHeartbeats 2000000 in
theorem c_Insert1_Entry (R : List (List AV)) (x X pad : List AV) (i cap c1 : Nat) (hR : Rows 3 R) (hx : Rows 3 [x]) (hcx : Calm X) (hxt : List.take 3 X = x) (hXl : 3 ≤ X.length) (hi : i ≤ R.length) (hpad : Calm pad) (hroom : R.length < cap) (hn : R.length ≤ 1000000) (hp : pad.length = (cap - R.length) * 3) : Proc Tryz.prog 2 204 [.bs 0 0 R.length cap, .i .i64 i, .bs 1 0 1 c1] [(0, boxF R pad), (1, X)] (.bs 0 0 (R.length + 1) cap) [(0, boxF (R.take i ++ x :: R.drop i) (pad.drop 3)), (1, X)] := by
 have hC : Calm (boxF R pad) := boxF_calm hR hpad
 have hL := boxF_len hR pad
 have hxl : x.length = 3 := (hx x (by simp)).1
 have hxd : allDat x = true := (hx x (by simp)).2.2
 have hw1 : IntKind.i64.wrap ((R.length : Int) + 1) = (R.length : Int) + 1 := wrap64 (by omega) (by omega)
 have hw2 : IntKind.i64.wrap ((i : Int) + 1) = (i : Int) + 1 := wrap64 (by omega) (by omega)
 obtain ⟨T, hT⟩ : ∃ T, T = R.take i ++ x :: R.drop i := ⟨_, rfl⟩
 rw [← hT]
 have hRT : Rows 3 T := by rw [hT]; exact (hR.take i).append (hx.cons (hR.drop i))
 have hCT : Calm (boxF T (pad.drop 3)) := boxF_calm hRT (hpad.drop _)
 refine proc_of (cxb Tryz.prog 95 2 [0, 1, 2, 6, 7, 8, 9, 16, 22, 31, 68] [] [6]) 92 [.tmp 6] Tryz.func204 rfl rfl rfl rfl rfl rfl (Nat.le_refl _) rfl ?_
 refine AWp.g [0, 1, 2] [0, 1] ?_
 simp [hC, hL, hcx, hw1, hw2, hxl, hxd, hxt, hXl, hCT]
 refine AWp.g [0, 1, 2] [0, 1] ?_
 simp [hC, hL, hcx, hw1, hw2, hxl, hxd, hxt, hXl, hCT]
 refine ⟨by omega, ?_⟩
 refine AWp.g [0, 1, 2, 7] [0, 1] ?_
 simp [hC, hL, hcx, hw1, hw2, hxl, hxd, hxt, hXl, hCT]
 refine AWp.seq ?_
 refine AWp.g [0, 1, 2, 7, 16] [0, 1] ?_
 simp [hC, hL, hcx, hw1, hw2, hxl, hxd, hxt, hXl, hCT]
 refine AWp.cF (by simp) ?_
 refine AWp.skip ?_
 show AWp _ _ _ _
 refine AWp.g [0, 1, 2, 7, 8] [0, 1] ?_
 simp [hC, hL, hcx, hw1, hw2, hxl, hxd, hxt, hXl, hCT]
 refine AWp.seq ?_
 refine AWp.g [0, 1, 2, 7, 8, 22] [0, 1] ?_
 simp [hC, hL, hcx, hw1, hw2, hxl, hxd, hxt, hXl, hCT]
 by_cases h : i = R.length
 ·refine AWp.cT (by simp [h]) ?_
  have hgr := boxF_grow (Y := [x]) hR pad
  have hF : AV.freeL (List.take 3 (List.drop (R.length * 3) (boxF R pad))) = true := ((hC.drop _).take _).freeL
  have e : R ++ [x] = T := by rw [hT, h]; simp
  simp [hxl, e] at hgr
  refine AWp.g [6] [0, 1] ?_
  simp [hF, hgr, hC, hL, hcx, hw1, hw2, hxl, hxd, hxt, hXl, hCT]
  refine append_room ?_
  simp [hF, hgr, hC, hL, hcx, hw1, hw2, hxl, hxd, hxt, hXl, hCT]
  refine ⟨by omega, by omega, ?_⟩
  refine AWp.ret ?_
  simp [hCT, hcx]
  intro id cs1 hid
  rw [hid]
  have hc1 : Calm cs1 := by
   split at hid
   ·cases hid; exact hCT
   ·split at hid
    ·cases hid; exact hcx
    ·cases hid
  exact ⟨AV.fitsL_refl _, by simpa using hc1.still⟩
 ·refine AWp.cF (by simp [h]; omega) ?_
  refine AWp.skip ?_
  show AWp _ _ _ _
  refine AWp.seq ?_
  refine AWp.g [0, 1, 2, 7, 8, 31] [0, 1] ?_
  simp [hC, hL, hcx, hw1, hw2, hxl, hxd, hxt, hXl, hCT]
  refine AWp.cF (by simp; omega) ?_
  refine AWp.skip ?_
  show AWp _ _ _ _
  refine AWp.g [0, 1, 2, 7, 8] [0, 1] ?_
  simp [hC, hL, hcx, hw1, hw2, hxl, hxd, hxt, hXl, hCT]
  refine ⟨by omega, ?_⟩
  refine AWp.seq ?_
  have hne : ¬ cap = i + 1 := by omega
  refine AWp.g [0, 1, 2, 7, 8, 68] [0, 1] ?_
  simp [hne, hC, hL, hcx, hw1, hw2, hxl, hxd, hxt, hXl, hCT]
  refine ⟨by omega, ?_⟩
  refine call_apart Entry_apart (by rfl) ⟨by decide, by simp, by simp [hL]; omega⟩ ?_
  simp [hne, hC, hL, hcx, hw1, hw2, hxl, hxd, hxt, hXl, hCT]
  refine ?_
  refine AWp.cT (by simp) ?_
  have hch := boxF_chunk_all hR pad i hi
  have hda := boxF_dat hR pad i (R.length - i) (by omega)
  have hsh := boxF_shift hR pad i (by omega)
  have hmin : min (R.length + 1 - i) (R.length - i) = R.length - i := by omega
  have hsum := sum_len (hR.drop i)
  simp [-List.length_flatten] at hsum hsh
  have hne2 : ¬ cap = i := by omega
  have hle : i * 3 + (R.length - i) * 3 ≤ R.length * 3 + pad.length := by omega
  have hF : ∀ n, AV.freeL (List.take n (List.drop ((i + 1) * 3) (boxF R pad))) = true := fun n => ((hC.drop _).take n).freeL
  have hle3 : (i + 1) * 3 + (R.length - i) * 3 ≤ R.length * 3 + pad.length := by omega
  obtain ⟨R2, hR2⟩ : ∃ R2, R2 = List.take (i + 1) R ++ List.drop i R := ⟨_, rfl⟩
  rw [← hR2] at hsh
  have hRR : Rows 3 R2 := by rw [hR2]; exact (hR.take _).append (hR.drop _)
  have hCs : Calm (boxF R2 (pad.drop 3)) := boxF_calm hRR (hpad.drop _)
  have hR2l : R2.length = R.length + 1 := by rw [hR2]; simp; omega
  have hL2 := boxF_len hRR (pad.drop 3)
  rw [hR2l, List.length_drop] at hL2
  have hpt := boxF_put (Y := [x]) hRR (pad.drop 3) i (by simp; omega)
  have hRT2 : R2.take i ++ [x] ++ R2.drop (i + [x].length) = T := by
   rw [hT, hR2, List.take_append_of_le_length (by simp; omega), List.take_take, Nat.min_eq_left (by omega), List.drop_append_of_le_length (by simp; omega)]
   simp [List.drop_take]
  rw [hRT2] at hpt
  simp [hxl] at hpt
  have hF2 : ∀ n, AV.freeL (List.take n (List.drop (i * 3) (boxF R2 (pad.drop 3)))) = true := fun n => ((hCs.drop _).take n).freeL
  have hle4 : i * 3 + 3 ≤ (R.length + 1) * 3 + (pad.length - 3) := by omega
  have hmin1 : min 1 (R.length + 1 - i) = 1 := by omega
  have hle5 : 1 ≤ R.length + 1 - i := by omega
  refine AWp.stepT (.take 0 (.take 1 (.take 2 (.take 3 (.take 4 (.take 5 (.take 6 (.take 7 (.alt 8 .fin .stop))))))))) [0, 1, 2] [0, 1] [(0, .bs 0 0 (R.length + 1) cap), (1, .i .i64 i), (2, .bs 1 0 1 c1)] [(0, boxF R2 (pad.drop 3)), (1, X)] mix (by kernel_rfl) ?_ ?_
  ·refine atree.t ?_
   simp [hne, hne2, hle, hle3, hF, hmin, hch, hda, hsh, hsum, hCs, hC, hL, hcx, hw1, hw2, hxl, hxd, hxt, hXl, hCT]
   refine atree.t ?_
   simp [hne, hne2, hle, hle3, hF, hmin, hch, hda, hsh, hsum, hCs, hC, hL, hcx, hw1, hw2, hxl, hxd, hxt, hXl, hCT]
   refine atree.t ?_
   simp [hne, hne2, hle, hle3, hF, hmin, hch, hda, hsh, hsum, hCs, hC, hL, hcx, hw1, hw2, hxl, hxd, hxt, hXl, hCT]
   refine atree.t ?_
   simp [hne, hne2, hle, hle3, hF, hmin, hch, hda, hsh, hsum, hCs, hC, hL, hcx, hw1, hw2, hxl, hxd, hxt, hXl, hCT]
   refine atree.t ?_
   simp [hne, hne2, hle, hle3, hF, hmin, hch, hda, hsh, hsum, hCs, hC, hL, hcx, hw1, hw2, hxl, hxd, hxt, hXl, hCT]
   refine ⟨by omega, ?_⟩
   refine atree.t ?_
   simp [hne, hne2, hle, hle3, hF, hmin, hch, hda, hsh, hsum, hCs, hC, hL, hcx, hw1, hw2, hxl, hxd, hxt, hXl, hCT]
   refine atree.t ?_
   simp [hne, hne2, hle, hle3, hF, hmin, hch, hda, hsh, hsum, hCs, hC, hL, hcx, hw1, hw2, hxl, hxd, hxt, hXl, hCT]
   refine atree.t ?_
   simp [hne, hne2, hle, hle3, hF, hmin, hch, hda, hsh, hsum, hCs, hC, hL, hcx, hw1, hw2, hxl, hxd, hxt, hXl, hCT]
   refine ⟨by omega, ?_⟩
   refine atree.a ?_
   simp [hne, hne2, hle, hle3, hF, hmin, hch, hda, hsh, hsum, hCs, hC, hL, hcx, hw1, hw2, hxl, hxd, hxt, hXl, hCT]
   refine atree.f ?_
   simp [hCs, hcx]
  refine AWp.g [0] [0, 1] ?_
  simp [hne2, hL2, hCs, hpt, hF2, hle4, hmin1, hle5, hC, hL, hcx, hw1, hw2, hxl, hxd, hxt, hXl, hCT]
  refine ⟨by omega, ?_⟩
  refine AWp.g [6] [0, 1] ?_
  simp [hC, hL, hcx, hw1, hw2, hxl, hxd, hxt, hXl, hCT]
  refine AWp.ret ?_
  simp [hCT, hcx]
  intro id cs1 hid
  rw [hid]
  have hc1 : Calm cs1 := by
   split at hid
   ·cases hid; exact hCT
   ·split at hid
    ·cases hid; exact hcx
    ·cases hid
  exact ⟨AV.fitsL_refl _, by simpa using hc1.still⟩
set_option maxRecDepth 8000 in
set_option maxHeartbeats 2000000 in
theorem c_Insert2_Entry (R : List (List AV)) (x X pad : List AV) (i c1 : Nat) (hR : Rows 3 R) (hx : Rows 3 [x]) (hcx : Calm X) (hxt : List.take 3 X = x) (hXl : 3 ≤ X.length) (hi : i ≤ R.length) (hpad : Calm pad) (hcap : R.length ≤ 1000000) (hp : pad.length = 0) : Proc Tryz.prog 2 204 [.bs 0 0 R.length R.length, .i .i64 i, .bs 1 0 1 c1] [(0, boxF R pad), (1, X)] (.sl .own 3 (R.take i ++ x :: R.drop i)) [(0, boxF R pad), (1, X)] := by
 have hC : Calm (boxF R pad) := boxF_calm hR hpad
 have hL := boxF_len hR pad
 have hxl : x.length = 3 := (hx x (by simp)).1
 have hxd : allDat x = true := (hx x (by simp)).2.2
 have hw1 : IntKind.i64.wrap ((R.length : Int) + 1) = (R.length : Int) + 1 := wrap64 (by omega) (by omega)
 have hw2 : IntKind.i64.wrap ((i : Int) + 1) = (i : Int) + 1 := wrap64 (by omega) (by omega)
 have hw3 : IntKind.i64.wrap ((R.length : Int) + 1 - i) = (R.length : Int) + 1 - i := wrap64 (by omega) (by omega)
 obtain ⟨T, hT⟩ : ∃ T, T = R.take i ++ x :: R.drop i := ⟨_, rfl⟩
 rw [← hT]
 have hRT : Rows 3 T := by rw [hT]; exact (hR.take i).append (hx.cons (hR.drop i))
 refine proc_of (cxb Tryz.prog 95 2 [0, 1, 2, 6, 7, 8, 9, 16, 22, 31, 68] [] [6]) 92 [.tmp 6] Tryz.func204 rfl rfl rfl rfl rfl rfl (Nat.le_refl _) rfl ?_
 refine AWp.g [0, 1, 2] [0, 1] ?_
 simp [hC, hL, hcx, hw1, hw2, hw3, hxl, hxd, hxt, hXl]
 refine AWp.g [0, 1, 2] [0, 1] ?_
 simp [hC, hL, hcx, hw1, hw2, hw3, hxl, hxd, hxt, hXl]
 refine ⟨by omega, ?_⟩
 refine AWp.g [0, 1, 2, 7] [0, 1] ?_
 simp [hC, hL, hcx, hw1, hw2, hw3, hxl, hxd, hxt, hXl]
 refine AWp.seq ?_
 refine AWp.g [0, 1, 2, 7, 16] [0, 1] ?_
 simp [hC, hL, hcx, hw1, hw2, hw3, hxl, hxd, hxt, hXl]
 refine AWp.cF (by simp) ?_
 refine AWp.skip ?_
 show AWp _ _ _ _
 refine AWp.g [0, 1, 2, 7, 8] [0, 1] ?_
 simp [hC, hL, hcx, hw1, hw2, hw3, hxl, hxd, hxt, hXl]
 refine AWp.seq ?_
 refine AWp.g [0, 1, 2, 7, 8, 22] [0, 1] ?_
 simp [hC, hL, hcx, hw1, hw2, hw3, hxl, hxd, hxt, hXl]
 by_cases h : i = R.length
 ·refine AWp.cT (by simp [h]) ?_
  have hall := boxF_chunk_all hR pad 0 (by omega)
  have hda := boxF_dat hR pad 0 R.length (by omega)
  have e : R ++ [x] = T := by rw [hT, h]; simp
  simp at hall hda
  refine AWp.g [6] [0, 1] ?_
  simp [hall, hda, e, hC, hL, hcx, hw1, hw2, hw3, hxl, hxd, hxt, hXl]
  refine append_grow ?_
  simp [hall, hda, e, hC, hL, hcx, hw1, hw2, hw3, hxl, hxd, hxt, hXl]
  refine ⟨by omega, ?_⟩
  refine AWp.ret ?_
  simp [hC, hcx]
  intro id cs1 hid
  rw [hid]
  have hc1 : Calm cs1 := by
   split at hid
   ·cases hid; exact hC
   ·split at hid
    ·cases hid; exact hcx
    ·cases hid
  exact ⟨AV.fitsL_refl _, by simpa using hc1.still⟩
 ·refine AWp.cF (by simp [h]; omega) ?_
  refine AWp.skip ?_
  show AWp _ _ _ _
  refine AWp.seq ?_
  refine AWp.g [0, 1, 2, 7, 8, 31] [0, 1] ?_
  simp [hC, hL, hcx, hw1, hw2, hw3, hxl, hxd, hxt, hXl]
  refine AWp.cT (by simp; omega) ?_
  have hall := boxF_chunk hR pad 0 i (by omega)
  have hda := boxF_dat hR pad 0 i (by omega)
  simp at hall hda
  have hle : i * 3 ≤ R.length * 3 + pad.length := by omega
  have htn : ((R.length : Int) + 1 - i).toNat = R.length + 1 - i := by omega
  refine AWp.g [0, 1, 2, 7, 9] [0, 1, 101] ?_
  simp [hall, hda, hle, htn, hC, hL, hcx, hw1, hw2, hw3, hxl, hxd, hxt, hXl]
  refine ⟨by omega, ?_⟩
  refine append_zeros ?_
  simp [hall, hda, hle, htn, hC, hL, hcx, hw1, hw2, hw3, hxl, hxd, hxt, hXl]
  refine ⟨by omega, by omega, by omega, ?_⟩
  obtain ⟨Z, hZ⟩ : ∃ Z : List AV, Z = [.s ByteArray.empty, .sl .fro 2 [], .sl .fro 2 []] := ⟨_, rfl⟩
  have hzr : Rows 3 [Z] := fun r hr => by rw [List.mem_singleton] at hr; subst hr; rw [hZ]; exact ⟨rfl, fun c hc => by simp at hc; first | (rcases hc with rfl | rfl | rfl <;> rfl) | (rcases hc with rfl | rfl <;> rfl) | (subst hc; rfl), rfl⟩
  rw [← hZ]
  obtain ⟨R1, hR1⟩ : ∃ R1, R1 = List.take i R ++ List.replicate (R.length + 1 - i) Z := ⟨_, rfl⟩
  have hR1l : R1.length = R.length + 1 := by rw [hR1]; simp; omega
  have hr1 : Rows 3 R1 := by rw [hR1]; exact (hR.take _).append (hzr.rep _)
  rw [← hR1]
  refine AWp.unown 9 101 rfl (by simp) (fun h0 => by rw [h0] at hR1l; simp at hR1l) rfl (by simp) fun cap2 hcap2 => ?_
  rw [hR1l] at hcap2
  have e0 : R1.flatten ++ List.replicate ((cap2 - (R.length + 1)) * 3) AV.any = boxF R1 (List.replicate ((cap2 - (R.length + 1)) * 3) AV.any) := rfl
  obtain ⟨pd, hpd⟩ : ∃ pd, pd = List.replicate ((cap2 - (R.length + 1)) * 3) AV.any := ⟨_, rfl⟩
  have hcpd : Calm pd := by rw [hpd]; exact Calm.replicate _ rfl
  rw [← hpd] at e0
  have hC1 : Calm (boxF R1 pd) := boxF_calm hr1 hcpd
  have hL1 := boxF_len hr1 pd
  simp [hR1l, ← hpd, e0, hC1]
  have hmin1 : min 1 (R.length + 1 - i) = 1 := by omega
  have hle5 : 1 ≤ R.length + 1 - i := by omega
  have hne2 : ¬ cap2 = i := by omega
  rw [hR1l] at hL1
  have hpt := boxF_put (Y := [x]) hr1 pd i (by simp; omega)
  obtain ⟨R3, hR3⟩ : ∃ R3, R3 = R1.take i ++ [x] ++ R1.drop (i + [x].length) := ⟨_, rfl⟩
  rw [← hR3] at hpt
  simp [hxl] at hpt
  have hle6 : i * 3 + 3 ≤ (R.length + 1) * 3 + pd.length := by omega
  have hF3 : ∀ n, AV.freeL (List.take n (List.drop (i * 3) (boxF R1 pd))) = true := fun n => ((hC1.drop _).take n).freeL
  have hr3 : Rows 3 R3 := by rw [hR3]; exact ((hr1.take _).append hx).append (hr1.drop _)
  have hR3l : R3.length = R.length + 1 := by rw [hR3]; simp [hR1l]; omega
  have hC3 : Calm (boxF R3 pd) := boxF_calm hr3 hcpd
  have hL3 := boxF_len hr3 pd
  rw [hR3l] at hL3
  refine AWp.g [0, 1, 7, 9] [0, 1, 101] ?_
  simp [hne2, hmin1, hle5, hL1, hF3, hle6, hpt, hC3, hC1, hC, hL, hcx, hw1, hw2, hw3, hxl, hxd, hxt, hXl]
  refine ⟨by omega, ?_⟩
  have hch := boxF_chunk_all hR pad i hi
  have hda := boxF_dat hR pad i (R.length - i) (by omega)
  have hmin : min (R.length - i) (R.length - i) = R.length - i := by omega
  have hsum := sum_len (hR.drop i)
  have hne3 : ¬ cap2 = i + 1 := by omega
  have hne4 : ¬ R.length = i := by omega
  have hle7 : i * 3 + (R.length - i) * 3 ≤ R.length * 3 + pad.length := by omega
  have hpt2 := boxF_put (Y := R.drop i) hr3 pd (i + 1) (by simp; omega)
  have hRT2 : R3.take (i + 1) ++ R.drop i ++ R3.drop (i + 1 + (R.drop i).length) = T := by
   have h1 : R3.take (i + 1) = R.take i ++ [x] := by
    rw [hR3, List.take_append_of_le_length (by simp; omega), List.take_of_length_le (by simp; omega), hR1, List.take_append_of_le_length (by simp; omega), List.take_take, Nat.min_self]
   have h2 : R3.drop (i + 1 + (R.drop i).length) = [] := List.drop_eq_nil_of_le (by rw [hR3l, List.length_drop]; omega)
   rw [h1, h2, hT]; simp
  rw [hRT2] at hpt2
  simp at hpt2 hsum
  have hF4 : ∀ n, AV.freeL (List.take n (List.drop ((i + 1) * 3) (boxF R3 pd))) = true := fun n => ((hC3.drop _).take n).freeL
  have hle8 : (i + 1) * 3 + (R.length - i) * 3 ≤ (R.length + 1) * 3 + pd.length := by omega
  have hCT : Calm (boxF T pd) := boxF_calm hRT hcpd
  refine AWp.stepT (.take 0 (.take 1 (.take 2 (.take 3 (.take 4 (.take 5 (.take 6 (.take 7 (.alt 8 .fin .stop))))))))) [9] [0, 1, 101] [(9, .bs 101 0 (R.length + 1) cap2)] [(0, boxF R pad), (1, X), (101, boxF T pd)] mix (by kernel_rfl) ?_ ?_
  ·refine atree.t ?_
   simp [hch, hda, hmin, hsum, hne3, hne4, hle7, hpt2, hF4, hle8, hL3, hCT, hC3, hC, hL, hcx, hw1, hw2, hw3, hxl, hxd, hxt, hXl]
   refine atree.t ?_
   simp [hch, hda, hmin, hsum, hne3, hne4, hle7, hpt2, hF4, hle8, hL3, hCT, hC3, hC, hL, hcx, hw1, hw2, hw3, hxl, hxd, hxt, hXl]
   refine atree.t ?_
   simp [hch, hda, hmin, hsum, hne3, hne4, hle7, hpt2, hF4, hle8, hL3, hCT, hC3, hC, hL, hcx, hw1, hw2, hw3, hxl, hxd, hxt, hXl]
   refine atree.t ?_
   simp [hch, hda, hmin, hsum, hne3, hne4, hle7, hpt2, hF4, hle8, hL3, hCT, hC3, hC, hL, hcx, hw1, hw2, hw3, hxl, hxd, hxt, hXl]
   refine atree.t ?_
   simp [hch, hda, hmin, hsum, hne3, hne4, hle7, hpt2, hF4, hle8, hL3, hCT, hC3, hC, hL, hcx, hw1, hw2, hw3, hxl, hxd, hxt, hXl]
   refine ⟨by omega, ?_⟩
   refine atree.t ?_
   simp [hch, hda, hmin, hsum, hne3, hne4, hle7, hpt2, hF4, hle8, hL3, hCT, hC3, hC, hL, hcx, hw1, hw2, hw3, hxl, hxd, hxt, hXl]
   refine atree.t ?_
   simp [hch, hda, hmin, hsum, hne3, hne4, hle7, hpt2, hF4, hle8, hL3, hCT, hC3, hC, hL, hcx, hw1, hw2, hw3, hxl, hxd, hxt, hXl]
   refine atree.t ?_
   simp [hch, hda, hmin, hsum, hne3, hne4, hle7, hpt2, hF4, hle8, hL3, hCT, hC3, hC, hL, hcx, hw1, hw2, hw3, hxl, hxd, hxt, hXl]
   refine ⟨by omega, ?_⟩
   refine atree.a ?_
   simp [hch, hda, hmin, hsum, hne3, hne4, hle7, hpt2, hF4, hle8, hL3, hCT, hC3, hC, hL, hcx, hw1, hw2, hw3, hxl, hxd, hxt, hXl]
   refine atree.f ?_
   simp [hC, hcx, hCT]
  have hrl : T.flatten.length = T.length * 3 := hRT.flat
  have hTl : T.length = R.length + 1 := by rw [hT]; simp; omega
  have hpl : pd.length = (cap2 - (R.length + 1)) * 3 := by rw [hpd]; simp
  rw [← hTl]
  refine AWp.reown 9 101 cap2 (sz := 3) T pd (by simp) (by simp) rfl ?_ (fun z hz => (hRT z hz).1) ?_ hCT.freeL ?_
  ·rw [List.length_append, hrl, hpl]; omega
  ·have := boxF_dat hRT [] 0 T.length (by omega)
   unfold allDat boxF at this
   rw [List.append_nil, Nat.zero_mul, List.drop_zero, ← hrl, List.take_length] at this
   exact this
  simp [hC, hcx]
  refine AWp.g [6] [0, 1, 101] ?_
  simp [hC, hL, hcx, hw1, hw2, hw3, hxl, hxd, hxt, hXl]
  refine AWp.ret ?_
  simp [hC, hcx]
  intro id cs1 hid
  rw [hid]
  have hc1 : Calm cs1 := by
   split at hid
   ·cases hid; exact hC
   ·split at hid
    ·cases hid; exact hcx
    ·cases hid
  exact ⟨AV.fitsL_refl _, by simpa using hc1.still⟩
end Go.AM
namespace Go.AM
open Go.Proofs
theorem entsAV_map (s : List Entry) : entsAV s = s.map entC := rfl
theorem ents_rows (s : List Entry) : Rows 3 (s.map entC) := fun r hr => by
 obtain ⟨e, _, rfl⟩ := List.mem_map.1 hr
 exact ⟨rfl, entC_ok.calm e, rfl⟩
theorem ent_rows (e : Entry) : Rows 3 [entC e] := ents_rows [e]
def putS (s : List Entry) (e : Entry) : List Entry := if there s e.key then s.set (place s e.key) e else s.take (place s e.key) ++ e :: s.drop (place s e.key)
theorem ents_ins (s : List Entry) (i : Nat) (e : Entry) : (s.map entC).take i ++ entC e :: (s.map entC).drop i = entsAV (s.take i ++ e :: s.drop i) := by
 rw [entsAV_map, List.map_append, List.map_cons, List.map_take, List.map_drop]
theorem boxF_ents (s : List Entry) (pad : List AV) : boxF (s.map entC) pad = boxR entC s pad := rfl
end Go.AM
namespace Go.AM
open Go.Proofs
def mayE (s : List Entry) (k : ByteArray) (d : Dot) (c : List Int) : Bool := setOk s && keyOk k && mayD d && clockOk c
def addS (s : List Entry) (k : ByteArray) (d : Dot) (c : List Int) : List Entry :=
 if 0 < (leftD (atE s k).dead c).length then s else putS s ⟨k, ordP (leftD (atE s k).live c ++ [d]), (atE s k).dead⟩
def dropS (s : List Entry) (k : ByteArray) (d : Dot) (c : List Int) : List Entry := putS s ⟨k, [], ordP (leftD (atE s k).dead c ++ [d])⟩
end Go.AM
namespace Go.AM
theorem there_iff {s : List Entry} (k : ByteArray) (hp : place s k < s.length) : there s k = true ↔ eqK s[place s k].key k = true := by
 unfold there
 rw [List.getElem?_eq_getElem hp]
 simp [cmpK_eq]
theorem key_tri (a b : ByteArray) : KL a b ∨ eqK a b = true ∨ KL b a := by
 by_cases h1 : KL a b
 ·exact .inl h1
 by_cases h3 : KL b a
 ·exact .inr (.inr h3)
 ·rw [eqK_iff]
  exact .inr (.inl (List.le_antisymm (List.not_lt.1 h3) (List.not_lt.1 h1)))
theorem KL.ne' {a b : ByteArray} (h : KL b a) : eqK a b = false := by
 rw [Bool.eq_false_iff]
 intro e
 rw [eqK_iff] at e
 unfold KL at h
 rw [e] at h
 exact List.lt_irrefl _ h
theorem KL.asymm {a b : ByteArray} (h : KL a b) : ltK b a = false := by
 rw [Bool.eq_false_iff, ne_eq, ltK_iff]
 exact fun h2 => KL.irrefl _ (h.trans h2)
theorem behind {s : List Entry} (hs : SortE s) (k : ByteArray) (i : Nat) (hi : i < s.length) (h : (if there s k then place s k + 1 else place s k) ≤ i) : KL k s[i].key := by
 obtain ⟨h1, h2⟩ := place_spec hs k
 have hp : place s k < s.length := by split at h <;> omega
 have hm : place s k < i → KL s[place s k].key s[i].key := fun h => List.pairwise_iff_getElem.1 hs _ _ hp hi h
 rcases key_tri s[place s k].key k with h3 | h3 | h3
 ·exact absurd h3 (h2 _ hp (Nat.le_refl _))
 ·rw [if_pos ((there_iff k hp).2 h3)] at h
  have := hm (by omega)
  rw [eqK_iff] at h3
  unfold KL at this ⊢
  rw [← h3]; exact this
 ·by_cases he : place s k = i
  ·subst he; exact h3
  ·refine h3.trans (hm ?_)
   split at h <;> omega
def addR (s : List Entry) (k : ByteArray) (d : Dot) (c : List Int) : List Entry :=
 if 0 < (leftD (getE s k).dead c).length then s else putE s ⟨k, putD (leftD (getE s k).live c) d, (getE s k).dead⟩
def dropR (s : List Entry) (k : ByteArray) (d : Dot) (c : List Int) : List Entry := putE s ⟨k, [], putD (leftD (getE s k).dead c) d⟩
end Go.AM
namespace Go.AM
open Go.Proofs
theorem light_ent {s : List Entry} (h : lightB s = true) {e : Entry} (he : e ∈ s) : e.live.length ≤ 30 ∧ e.dead.length ≤ 30 := by
 simp only [lightB, Bool.and_eq_true, List.all_eq_true] at h
 have := h.1 e he
 simp [lightE] at this
 omega
theorem light_len {s : List Entry} (h : lightB s = true) : s.length ≤ 30 := by
 simp only [lightB, Bool.and_eq_true, decide_eq_true_eq] at h
 omega
theorem atE_mem (s : List Entry) (k : ByteArray) : atE s k ∈ s ∨ atE s k = emptyE k := by
 unfold atE
 cases ht : there s k with
 | true =>
  have hlt := there_lt ht
  left
  simp [hlt]
 | false => right; rfl
theorem putS_mem {s : List Entry} {e x : Entry} (h : x ∈ putS s e) : x ∈ s ∨ x = e := by
 unfold putS at h
 split at h
 ·exact List.mem_or_eq_of_mem_set h
 ·rcases List.mem_append.1 h with h | h
  ·exact .inl (List.mem_of_mem_take h)
  ·rcases List.mem_cons.1 h with h | h
   ·exact .inr h
   ·exact .inl (List.mem_of_mem_drop h)
theorem putS_len (s : List Entry) (e : Entry) : (putS s e).length ≤ s.length + 1 := by
 have := place_le s e.key
 unfold putS
 split
 ·simp
 ·simp; omega
def Within (n : Nat) (s : List Entry) : Prop := s.length ≤ n ∧ ∀ e ∈ s, e.live.length ≤ n ∧ e.dead.length ≤ n
theorem Within.put {n : Nat} {s : List Entry} (h : Within n s) {e : Entry} (he : e.live.length ≤ n + 1 ∧ e.dead.length ≤ n + 1) : Within (n + 1) (putS s e) :=
 ⟨by have := putS_len s e; have := h.1; omega, fun x hx => by
  rcases putS_mem hx with hx | hx
  ·have := h.2 x hx; omega
  ·rw [hx]; exact he⟩
theorem Within.of {s : List Entry} (h : lightB s = true) : Within 30 s := ⟨light_len h, fun _ he => light_ent h he⟩
theorem Within.at {n : Nat} {s : List Entry} (h : Within n s) (k : ByteArray) : (atE s k).live.length ≤ n ∧ (atE s k).dead.length ≤ n := by
 rcases atE_mem s k with hm | he
 ·exact h.2 _ hm
 ·rw [he]; simp [emptyE]
theorem Within.add {n : Nat} {s : List Entry} (h : Within n s) (k : ByteArray) (d : Dot) (c : List Int) : Within (n + 1) (addS s k d c) := by
 unfold addS
 split
 ·exact ⟨by have := h.1; omega, fun e he => by have := h.2 e he; omega⟩
 ·have h2 := h.at k
  have h3 := leftD_len (atE s k).live c
  have h4 := ordP_length (leftD (atE s k).live c ++ [d])
  rw [List.length_append, List.length_singleton] at h4
  exact h.put ⟨by dsimp only; omega, by dsimp only; omega⟩
theorem Within.drop {n : Nat} {s : List Entry} (h : Within n s) (k : ByteArray) (d : Dot) (c : List Int) : Within (n + 1) (dropS s k d c) := by
 unfold dropS
 have h2 := h.at k
 have h3 := leftD_len (atE s k).dead c
 have h4 := ordP_length (leftD (atE s k).dead c ++ [d])
 rw [List.length_append, List.length_singleton] at h4
 exact h.put ⟨by simp, by dsimp only; omega⟩
structure Deed where
 key : ByteArray
 dot : Dot
 past : List Int
def deedC (x : Deed) : List AV := [.s x.key, .i .i64 x.dot.1, .i .i64 x.dot.2, .sl .fro 1 (intsAV x.past)]
end Go.AM
