/- A new row, out of a contract of the model; calls that are handed nil. No project text. -/
import Derived.Test.YtkjbnpecjildiaaAmD
import Derived.Shelf.Spec.SlicesGrow
import Derived.Shelf.Small.Strs
set_option linter.unusedSimpArgs false
set_option linter.unusedVariables false
namespace Go.AM

end Go.AM
namespace Go.AM
open Go.Proofs Go.Shelf Go.RowKit Go.Lib
end Go.AM
namespace Go.AM
/-- Rows of rows. -/
def rowsL (sz : Nat) (ls : List (List (List AV))) : List (List AV) := ls.map fun l => [.sl .fro sz l]
@[simp] theorem rowsL_length (sz ls) : (rowsL sz ls).length = ls.length := by simp [rowsL]
@[simp] theorem rowsL_getElem (sz) (ls : List (List (List AV))) (i : Nat) (h : i < (rowsL sz ls).length) : (rowsL sz ls)[i] = [.sl .fro sz (ls[i]'(by simpa using h))] := by simp [rowsL]
def lenTo {α : Type} (ls : List (List α)) (i : Nat) : Nat := (ls.take i).flatten.length
end Go.AM
namespace Go.AM
section
variable {C : Cx} {Q : Exit → St → Prop} {st : St}
theorem AWp.lastT (tr : Ot) (ks kb : List Nat) (l : List (Nat × AV)) (bx : Boxes) {id : Nat} {ops : Array Oper} (hmix : C.P.follows .mixedOrders = true) (hok : tr.okAll ops = true)
    (h : atree C ops ops.toList tr st fun s => s.sees ks kb l bx) (h2 : Q .normal (St.of l bx)) : AWp C (.region id ops true) st Q := by
  refine AWp.postFit (AWp.post (fun _ => (ks, kb)) ((AWp.tree (Q := fun e s => thenQ (fun s => s.sees ks kb l bx) (fun _ _ => False) e s) tr hmix hok h).mono ?_))
  intro e s hs
  cases e with
  | normal => exact ⟨_, St.sees_fits hs, h2⟩
  | _ => exact hs.elim
end
end Go.AM
namespace Go.AM
theorem ren_calm (f : Nat → Option Nat) {x : AV} (hx : x.calm = true) : x.ren f = x := by
  cases x <;> first | rfl | (simp [AV.calm] at hx; done)
@[simp] theorem map_ren_calm {f : Nat → Option Nat} {cs : List AV} (h : Calm cs) : cs.map (AV.ren f) = cs := by
  have : cs.map (AV.ren f) = cs.map id := List.map_congr_left fun c hc => ren_calm f (h c hc)
  rw [this, List.map_id]
end Go.AM
namespace Go.AM
/-- A result whose new rows are given up. -/
theorem Pure.fro {P : Program} {f : Nat} {args : List AV} {r : AV} (h : Pure P f args r) : Pure P f args (r.tr (fzLeaf (isSlotOf 0)) (.slot 0 [])) := by
  refine ⟨h.1, fun w β ω Pub vs R hω hl hv => ?_⟩
  refine (h.2 w β ω Pub vs R hω hl hv).mono ?_
  rintro e w' ⟨v, E', rfl, rfl, I, hst, ho, hr⟩
  have I2 := I.fz (isSlotOf 0) fun _ => rfl
  refine ⟨v, E'.fz (isSlotOf 0), rfl, rfl, I2, ?_, fun bk q hq => ?_, ?_⟩
  · show E'.st.fz (isSlotOf 0) = _
    rw [hst]
    rfl
  · have h' : (E'.fz (isSlotOf 0)).ω bk = some q := hq
    simp only [Env.fz] at h'
    split at h'
    · rename_i q' hq'
      split at h'
      · cases h'
      · cases h'; exact ho bk q hq'
    · cases h'
  · exact hr.fz _
end Go.AM
namespace Go.AM
open Go.Proofs

end Go.AM
namespace Go.AM
open Go.Proofs

theorem sortD_length (l : List Dot) : (sortD l).length = l.length := by simp [sortD, List.length_mergeSort]
def ordP (l : List Dot) : List Dot := compD (sortD l)

theorem compD_one (l : List Dot) (h : l.length = 1) : compD l = l := by
  match l, h with
  | [x], _ => simp [compD, compN]

theorem c_Compact_0 (xs : List (List AV)) (h : xs.length < 2) : Pure Try.prog 88 [.sl .fro 2 xs] (.sl .fro 2 xs) := by
  refine proc_of (cx Try.prog 61 [0, 2, 3, 4, 5, 8, 13, 25, 32, 44] [2]) 60 [.tmp 2] Try.func88 rfl rfl rfl rfl rfl rfl (Nat.le_refl _) rfl ?_
  refine AWp.go [0] [] fun K hK => ?_
  simp
  first | refine hK _ _ ?_ | refine ⟨by omega, hK _ _ ?_⟩ | refine ⟨by omega, by omega, hK _ _ ?_⟩
  clear hK K
  refine AWp.seq ?_
  refine AWp.go [0, 8] [] fun K hK => ?_
  simp
  first | refine hK _ _ ?_ | refine ⟨by omega, hK _ _ ?_⟩ | refine ⟨by omega, by omega, hK _ _ ?_⟩
  clear hK K
  refine AWp.cond (t := true) (by first | (simp; done) | (simp; omega)) (fun _ => ?_) (by simp)
  refine AWp.go [2] [] fun K hK => ?_
  simp
  first | refine hK _ _ ?_ | refine ⟨by omega, hK _ _ ?_⟩ | refine ⟨by omega, by omega, hK _ _ ?_⟩
  clear hK K
  refine AWp.ret ?_
  simp

set_option maxRecDepth 8000 in
theorem c_dots_Order (l : List Dot) (hlen : l.length ≤ 1000000) : Pure Try.prog 52 [.sl .fro 2 (dotsAV l)] (.sl .fro 2 (dotsAV (ordP l))) := by
  refine proc_of (cx Try.prog 10 [0, 2, 3] [2]) 9 [.tmp 2] Try.func52 rfl rfl rfl rfl rfl rfl (Nat.le_refl _) rfl ?_
  refine AWp.go [0] [] fun K hK => ?_
  simp
  first | refine hK _ _ ?_ | refine ⟨by omega, hK _ _ ?_⟩ | refine ⟨by omega, by omega, hK _ _ ?_⟩
  clear hK K
  refine AWp.go [3] [] fun K hK => ?_
  simp
  refine call_pure (c_Clone_Dot (dotsAV l) (by simp; omega)) (by simp) ?_
  simp
  refine hK _ _ ?_
  clear hK K
  have hs := sortD_length l
  by_cases h0 : l = []
  subst h0
  · refine AWp.step [3] [] [(3, .sl .own 2 [])] [] ?_ ?_
    · simp
      refine call_pure (c_SortFunc_0 87) (by simp) ?_
      simp
    refine AWp.go [2] [] fun K hK => ?_
    simp
    refine call_pure (c_Compact_0 [] (by simp)) (by simp) ?_
    simp
    refine hK _ _ ?_
    refine AWp.ret ?_
    simp [ordP, sortD, compD, compN]
  refine AWp.step [3] [] [(3, .sl .own 2 (dotsAV (sortD l)))] [] ?_ ?_
  · simp
    refine call_lend (l106 l (by omega)) ⟨_, rfl, rfl, rfl⟩ (by simpa [dotsAV] using h0) (by simp) (by simp) ?_
    simp
  by_cases h1 : l.length = 1
  · refine AWp.go [2] [] fun K hK => ?_
    simp
    refine call_pure (c_Compact_0 (dotsAV (sortD l)) (by simp; omega)) (by simp) ?_
    simp
    refine hK _ _ ?_
    refine AWp.ret ?_
    have : compD (sortD l) = sortD l := compD_one _ (by omega)
    simp [ordP, this]
  refine AWp.go [2] [] fun K hK => ?_
  simp
  refine call_hand (h_Compact_Dot (sortD l) (by omega) (by have := List.length_pos_iff.2 h0; omega)) ⟨_, rfl, rfl, rfl⟩ (by intro h; have := congrArg List.length h; simp [dotsAV] at this; rw [this] at hs; exact h0 (List.eq_nil_of_length_eq_zero hs.symm)) (by simp) ?_
  simp
  first | refine hK _ _ ?_ | refine ⟨by omega, hK _ _ ?_⟩ | refine ⟨by omega, by omega, hK _ _ ?_⟩
  clear hK K
  refine AWp.frz [2] ?_
  simp
  refine AWp.ret ?_
  simp [ordP]

end Go.AM
namespace Go.AM
open Go.Proofs


/-- One round of settling. -/
def setStep (s : Seen) (d : Dot) : Seen :=
  if d.2 ≤ getC s.upto d.1 then s else if d.2 = getC s.upto d.1 + 1 then ⟨setC s.upto d.1 d.2, s.more⟩ else ⟨s.upto, s.more ++ [d]⟩
def setTo (u : List Int) (l : List Dot) (i : Nat) : Seen := ((ordP l).take i).foldl setStep ⟨plainL (ofL u), []⟩
theorem plainL_len5 (f : List Int) : (plainL f).length ≤ 5 := by
  have := plainN_le f 5
  simp [plainL]; omega
theorem ordP_length (l : List Dot) : (ordP l).length ≤ l.length := by
  have := compD_le (sortD l)
  rw [sortD_length] at this
  exact this
def settled (u : List Int) (l : List Dot) : Seen := setTo u l (ordP l).length
def fullE (s : Seen) : Int := if s.more.length ≤ 1000 then 0 else 6
def fullS (s : Seen) : Seen := if s.more.length ≤ 1000 then s else ⟨[], []⟩

end Go.AM
namespace Go.AM

def rowQ (t id : Nat) (p : Place) : Option Place := if p = .slot t [] then some (.box id) else none

/-- A slot's own row becomes a box. -/
def St.unown (st : St) (t id sz : Nat) (xs : List (List AV)) (cap : Nat) : St :=
  (((st.take (rowQ t id)).killB id).put t (.bs id 0 xs.length cap)).setBox id (some (xs.flatten ++ List.replicate ((cap - xs.length) * sz) .any))

theorem abs_killB (st : St) (id : Nat) (q : Place) (sz : Nat) (xs : List (List AV)) : st.abs q = .sl .own sz xs ↔ (st.killB id).abs q = .sl .own sz xs := by
  have aux : ∀ (p : Place) (x : AV) sz xs, x = .sl .own sz xs ↔ x.tr (killBLeaf id) p = .sl .own sz xs := by
    intro p x sz xs
    cases x with
    | agg cs => simp [AV.tr]
    | tup cs => simp [AV.tr]
    | fn f fi ca => simp [AV.tr]
    | ptr i off => simp only [AV.tr, killBLeaf]; split <;> simp
    | bs i off n cap => simp only [AV.tr, killBLeaf]; split <;> simp
    | _ => simp [AV.tr, killBLeaf]
  unfold St.killB
  rw [St.abs_tr (fun _ => rfl) (killBLeaf_leaf id)]
  cases q with
  | slot t π => exact aux _ _ _ _
  | cell i off => exact aux _ _ _ _
  | _ => simp [St.abs]

theorem abs_take (st : St) (Q : Place → Option Place) (q : Place) (sz : Nat) (xs : List (List AV)) (h : (st.take Q).abs q = .sl .own sz xs) : st.abs q = .sl .own sz xs ∧ Q q = none := by
  have aux : ∀ (p : Place) (x : AV), x.tr (takeLeaf Q) p = .sl .own sz xs → x = .sl .own sz xs ∧ Q p = none := by
    intro p x h
    cases x with
    | agg cs => simp [AV.tr] at h
    | tup cs => simp [AV.tr] at h
    | fn f fi ca => simp [AV.tr] at h
    | sl g s ys =>
      rw [AV.tr_leaf rfl] at h
      cases g with
      | own =>
        simp only [takeLeaf] at h
        split at h
        · cases h
        · rename_i hq
          exact ⟨h, by simpa using hq⟩
      | vw q ex =>
        simp only [takeLeaf] at h
        split at h <;> cases h
      | _ => simp [takeLeaf] at h
    | pt g ix cells off =>
      rw [AV.tr_leaf rfl] at h
      cases g with
      | vw q ex =>
        simp only [takeLeaf] at h
        split at h <;> cases h
      | _ => simp [takeLeaf] at h
    | _ => simp [AV.tr, takeLeaf] at h
  unfold St.take at h
  rw [St.abs_tr (fun _ => rfl) (takeLeaf_leaf Q)] at h
  cases q with
  | slot t π => exact aux _ _ h
  | cell i off => exact aux _ _ h
  | _ => simp [St.abs] at h

theorem Rel.unown {N : Nat} {E : Env} (R : Rel N E) {t id bk sz cap : Nat} {xs : List (List AV)} {arr : Array Value} {T : TypeId} (htN : t < N) (ht : E.st.slots t = .sl .own sz xs) (hω : E.ω bk = some (.slot t [])) (hg : E.w.heap[bk]? = some (.cells arr T (0, 0)))
    (ha : arr.size = cap * sz) (hc : xs.length ≤ cap) (hrow : Row E.Pub E.w bk 0 sz xs) (hown0 : ∀ j sz xs, E.st.abs (.cell id j) ≠ .sl .own sz xs) (htm : E.tm.getD t undef = .slice (some ⟨bk, 0, none⟩) xs.length cap) (hid2 : parkM ≤ id → bk + parkM = id) :
    Rel N ⟨E.w, (fun i => if i = id then bk else E.β i), (E.take (rowQ t id)).ω, E.Pub, E.st.unown t id sz xs cap, E.tm⟩ := by
  let E1 := E.take (rowQ t id)
  let E' : Env := ⟨E.w, (fun i => if i = id then bk else E.β i), (E.take (rowQ t id)).ω, E.Pub, E.st.unown t id sz xs cap, E.tm⟩
  have R1 : Rel N E1 := R.take (rowQ t id) fun _ => by simp [rowQ]
  have R2 := R1.killB id
  have hown1 : ∀ j sz xs, E1.st.abs (.cell id j) ≠ .sl .own sz xs := fun j sz xs h => hown0 j sz xs (abs_take E.st _ _ _ _ h).1
  have hq : ∀ q sz xs, E1.st.abs q = .sl .own sz xs → rootNe t q ∧ (∀ j, q ≠ .cell id j) ∧ q ≠ .box id := by
    intro q sz' xs' h
    refine ⟨?_, fun j e => hown1 j sz' xs' (e ▸ h), fun e => by subst e; simp [St.abs] at h⟩
    obtain ⟨h1, h2⟩ := abs_take E.st _ _ _ _ h
    cases q with
    | slot t' π =>
      show t' ≠ t
      rintro rfl
      cases π with
      | nil => simp [rowQ] at h2
      | cons k π =>
        simp only [St.abs, ht, AV.at] at h1
        cases h1
    | _ => trivial
  have hno : rootNe t Place.no ∧ (∀ j, Place.no ≠ .cell id j) ∧ Place.no ≠ .box id := ⟨trivial, by simp, by simp⟩
  have hst : Stays (fun q => rootNe t q ∧ (∀ j, q ≠ .cell id j) ∧ q ≠ .box id) (fun i => i ≠ id) { E1 with st := E1.st.killB id } E' := by
    refine ⟨fun bk h => ⟨h, rfl⟩, fun bk q _ h => ⟨h, rfl⟩, fun i hi => by show (if i = id then bk else E.β i) = E.β i; rw [if_neg hi], ?_, ?_⟩
    · intro q u sz xs hr hab hc
      cases q with
      | slot t π => exact hc
      | cell i off =>
        have hi : i ≠ id := fun e => hr.2.1 off (by rw [e])
        show E.w.cell? ⟨if i = id then bk else E.β i, off, none⟩ = some u
        rw [if_neg hi]; exact hc
      | box _ => simp [Env.con] at hc
      | no => simp [Env.con] at hc
    · intro q sz xs hr hab
      cases q with
      | slot t' π =>
        have hne : t' ≠ t := hr.1
        show ((if t' = t then _ else ((E.st.take (rowQ t id)).killB id).slots t') : AV).at π = _
        rw [if_neg hne]; exact hab
      | cell i off =>
        have hi : i ≠ id := fun e => hr.2.1 off (by rw [e])
        show ((((E.st.unown t id _ _ cap).boxes i).getD []).getD off .any) = _
        simp only [St.unown, St.setBox, hi, if_false]; exact hab
      | box _ => simp [St.abs] at hab
      | no => simp [St.abs] at hab
  refine { size := R.size, slots := fun t' => ?_, boxes := fun i csi h => ?_, pub := R1.pub, own := R1.own, abs := fun i h hm => ?_ }
  · show Val E' (.slot t' []) (if t' = t then _ else ((E.st.take (rowQ t id)).killB id).slots t') (E.tm.getD t' undef)
    by_cases he : t' = t
    · subst he
      rw [if_pos rfl, htm]
      have := Val.bs (E := E') (.slot t' []) id 0 xs.length cap
      have hb : E'.β id = bk := by show (if id = id then bk else _) = bk; rw [if_pos rfl]
      rw [hb] at this
      exact this
    · rw [if_neg he]
      exact (R2.slots t').mono hst (R1.leansSlot hq hno t').killB
  · by_cases hi : i = id
    · subst hi
      have hcs : csi = xs.flatten ++ List.replicate ((cap - xs.length) * sz) .any := by
        have h' : (E.st.unown t i sz xs cap).boxes i = some csi := h
        simp only [St.unown, St.setBox, if_true] at h'
        exact (Option.some.inj h').symm
      have hb : E'.β i = bk := by show (if i = i then bk else _) = bk; rw [if_pos rfl]
      subst hcs
      have hfl := flatten_length hrow.1
      refine ⟨?_, arr, T, by rw [hb]; exact hg, ?_, fun j c hj => ?_⟩
      · rw [hb]
        show (match E.ω bk with | some q => some ((rowQ t i q).getD q) | none => none) = _
        rw [hω]
        simp [rowQ]
      · rw [ha, List.length_append, hfl, List.length_replicate, ← Nat.add_mul]
        congr 1; omega
      · by_cases hlt : j < xs.flatten.length
        · rw [List.getElem?_append_left hlt] at hj
          obtain ⟨u, hu, hd⟩ := hrow.2 j c hj
          have hja : j < arr.size := by
            rw [ha]
            rw [hfl] at hlt
            exact Nat.lt_of_lt_of_le hlt (Nat.mul_le_mul_right _ hc)
          have hue : arr.getD j undef = u := by
            simp [World.cell?, hg] at hu
            rw [Array.getD_eq_getD_getElem?]
            rw [hu]; rfl
          rw [hue]
          exact Dat.val (E := E') hd.1 _
        · rw [List.getElem?_append_right (by omega), List.getElem?_replicate] at hj
          split at hj
          · cases hj; exact .any _ _
          · cases hj
    · have h' : ((E.st.take (rowQ t id)).killB id).boxes i = some csi := by
        have h'' : (E.st.unown t id sz xs cap).boxes i = some csi := h
        simp only [St.unown, St.setBox, hi, if_false] at h''
        exact h''
      obtain ⟨h1, arr0, T0, h2, h3, h4⟩ := R2.boxes i csi h'
      have hbi : E'.β i = E.β i := by show (if i = id then bk else E.β i) = E.β i; rw [if_neg hi]
      refine ⟨by rw [hbi]; exact h1, arr0, T0, by rw [hbi]; exact h2, h3, fun j c hj => ?_⟩
      have h5 := h4 j c hj
      simp only [St.killB, St.tr, Option.map_eq_some_iff] at h'
      obtain ⟨cs0, hb0, rfl⟩ := h'
      rw [AV.trC_get] at hj
      obtain ⟨c0, hc0, rfl⟩ := Option.map_eq_some_iff.1 hj
      have := (R1.leansCell hq hno (show E1.st.boxes i = some cs0 from hb0) hc0).killB (id := id)
      simp only [Nat.zero_add] at this h5 ⊢
      exact h5.mono hst this
  · by_cases hi : i = id
    · subst hi
      show (if i = i then bk else _) + parkM = i
      rw [if_pos rfl]; exact hid2 hm
    · show (if i = id then bk else E.β i) + parkM = i
      rw [if_neg hi]
      refine R2.abs i ?_ hm
      have h' : ((E.st.unown t id sz xs cap).boxes i).isSome = true := h
      simp only [St.unown, St.setBox, hi, if_false] at h'
      exact h'
end Go.AM
namespace Go.AM
/-- A box's row becomes a slot's own. -/
def St.reown (st : St) (d id sz : Nat) (ys : List (List AV)) : St := ((st.killB id).setBox id none).put d (.sl .own sz ys)

theorem Rel.reown {N : Nat} {E : Env} (R : Rel N E) {d id sz cap : Nat} {ys : List (List AV)} {pad : List AV} (hsz : 0 < sz) (hs : E.st.slots d = .bs id 0 ys.length cap) (hb : E.st.boxes id = some (ys.flatten ++ pad)) (hlen : (ys.flatten ++ pad).length = cap * sz)
    (hy : ∀ y ∈ ys, y.length = sz) (hdat : (ys.flatten.all fun c => c.data && c.cellOk) = true) (hfr : AV.freeL (ys.flatten ++ pad) = true) :
    Rel N ⟨E.w, E.β, (fun bk => if E.ω bk = some (.box id) then some (.slot d []) else E.ω bk), E.Pub, E.st.reown d id sz ys, E.tm⟩ := by
  let E' : Env := ⟨E.w, E.β, (fun bk => if E.ω bk = some (.box id) then some (.slot d []) else E.ω bk), E.Pub, E.st.reown d id sz ys, E.tm⟩
  have R2 := R.killB id
  have hq : ∀ q sz xs, E.st.abs q = .sl .own sz xs → rootNe d q ∧ (∀ j, q ≠ .cell id j) ∧ q ≠ .box id := by
    intro q sz' xs' h
    refine ⟨?_, fun j e => ?_, fun e => by subst e; simp [St.abs] at h⟩
    · cases q with
      | slot t' π =>
        show t' ≠ d
        rintro rfl
        cases π with
        | nil =>
          simp only [St.abs, hs] at h
          cases h
        | cons k π =>
          simp only [St.abs, hs, AV.at] at h
          cases h
      | _ => trivial
    · subst e
      simp only [St.abs, hb, Option.getD_some, List.getD_eq_getElem?_getD] at h
      cases hj : (ys.flatten ++ pad)[j]? with
      | none => rw [hj] at h; cases h
      | some c =>
        rw [hj] at h
        have := AV.freeL_get hfr hj
        simp only [Option.getD_some] at h
        rw [h] at this
        simp [AV.free] at this
  have hno : rootNe d Place.no ∧ (∀ j, Place.no ≠ .cell id j) ∧ Place.no ≠ .box id := ⟨trivial, by simp, by simp⟩
  have hst : Stays (fun q => rootNe d q ∧ (∀ j, q ≠ .cell id j) ∧ q ≠ .box id) (fun i => i ≠ id) { E with st := E.st.killB id } E' := by
    refine ⟨fun bk h => ⟨h, rfl⟩, fun bk q hq h => ⟨?_, rfl⟩, fun i hi => rfl, ?_, ?_⟩
    · show (if E.ω bk = some (.box id) then some (Place.slot d []) else E.ω bk) = some q
      have h' : E.ω bk = some q := h
      rw [h', if_neg (by simp [hq.2.2])]
    · intro q u sz xs hr hab hc
      cases q <;> exact hc
    · intro q sz xs hr hab
      cases q with
      | slot t' π =>
        have hne : t' ≠ d := hr.1
        show ((if t' = d then _ else (E.st.killB id).slots t') : AV).at π = _
        rw [if_neg hne]; exact hab
      | cell i off =>
        have hi : i ≠ id := fun e => hr.2.1 off (by rw [e])
        show ((((E.st.reown d id _ ys).boxes i).getD []).getD off .any) = _
        simp only [St.reown, St.put, St.setBox, hi, if_false]; exact hab
      | box _ => simp [St.abs] at hab
      | no => simp [St.abs] at hab
  obtain ⟨g1, arr, T, g2, g3, g4⟩ := R.boxes id _ hb
  refine { size := R.size, slots := fun t' => ?_, boxes := fun i csi h => ?_, pub := fun bk h => ⟨(R.pub bk h).1, ?_⟩, own := fun bk q h => ?_, abs := fun i h hm => ?_ }
  · show Val E' (.slot t' []) (if t' = d then _ else (E.st.killB id).slots t') (E.tm.getD t' undef)
    by_cases he : t' = d
    · subst he
      rw [if_pos rfl]
      have hv := R.slots t'
      rw [hs] at hv
      generalize E.tm.getD t' undef = v at hv
      cases hv
      have hfl := flatten_length hy
      have hcap : ys.length ≤ cap := by
        rw [List.length_append, hfl] at hlen
        exact Nat.le_of_mul_le_mul_right (by omega : ys.length * sz ≤ cap * sz) hsz
      refine .sl _ .own sz ys (E.β id) 0 cap hcap ⟨hy, fun j c hj => ?_⟩ ⟨?_, arr, T, g2, rfl, by rw [g3]; exact hlen⟩ trivial
      · have hlt := (List.getElem?_eq_some_iff.1 hj).1
        have hvc := g4 j c (by rw [List.getElem?_append_left hlt]; exact hj)
        have hja : j < arr.size := by rw [g3, List.length_append]; omega
        rw [List.all_eq_true] at hdat
        have hcc := hdat c (List.mem_of_getElem? hj)
        simp only [Bool.and_eq_true] at hcc
        rw [Array.getD_eq_getD_getElem?, Array.getElem?_eq_getElem hja] at hvc
        refine ⟨arr[j], ?_, hvc.dat hcc.1, oneCell_dat (hvc.dat hcc.1) hcc.2⟩
        show E.w.cell? _ = _
        simp [World.cell?, g2, hja]
      · show (if E.ω (E.β id) = some (.box id) then some (Place.slot t' []) else E.ω (E.β id)) = _
        rw [if_pos g1]
    · rw [if_neg he]
      exact (R2.slots t').mono hst (R.leansSlot hq hno t').killB
  · by_cases hi : i = id
    · subst hi
      have h' : (E.st.reown d i sz ys).boxes i = some csi := h
      simp only [St.reown, St.put, St.setBox, if_true] at h'
      cases h'
    · have h' : (E.st.killB id).boxes i = some csi := by
        have h'' : (E.st.reown d id sz ys).boxes i = some csi := h
        simp only [St.reown, St.put, St.setBox, hi, if_false] at h''
        exact h''
      obtain ⟨h1, arr0, T0, h2, h3, h4⟩ := R2.boxes i csi h'
      refine ⟨?_, arr0, T0, h2, h3, fun j c hj => ?_⟩
      · show (if E.ω (E.β i) = some (.box id) then some (Place.slot d []) else E.ω (E.β i)) = _
        have h1' : E.ω (E.β i) = some (.box i) := h1
        rw [h1', if_neg (by simp [hi])]
      · have h5 := h4 j c hj
        simp only [St.killB, St.tr, Option.map_eq_some_iff] at h'
        obtain ⟨cs0, hb0, rfl⟩ := h'
        rw [AV.trC_get] at hj
        obtain ⟨c0, hc0, rfl⟩ := Option.map_eq_some_iff.1 hj
        have := (R.leansCell hq hno hb0 hc0).killB (id := id)
        simp only [Nat.zero_add] at this h5 ⊢
        exact h5.mono hst this
  · show (if E.ω bk = some (.box id) then some (Place.slot d []) else E.ω bk) = none
    rw [(R.pub bk h).2, if_neg (by simp)]
  · have h' : (if E.ω bk = some (.box id) then some (Place.slot d []) else E.ω bk) = some q := h
    split at h'
    · rename_i h2; exact R.own bk _ h2
    · exact R.own bk q h'
  · by_cases hi : i = id
    · subst hi
      have h' : ((E.st.reown d i sz ys).boxes i).isSome = true := h
      simp [St.reown, St.put, St.setBox] at h'
    · have h' : ((E.st.reown d id sz ys).boxes i).isSome = true := h
      simp only [St.reown, St.put, St.setBox, hi, if_false] at h'
      exact R2.abs i h' hm

theorem Inv.unown {N : Nat} {S : Start} {E : Env} (I : Inv N S E) {t id sz : Nat} {xs : List (List AV)} (htN : t < N) (ht : E.st.slots t = .sl .own sz xs) (hne : xs ≠ []) (hid : E.st.boxes id = none) (hk : S.k ≤ id) (hp : id < parkM) :
    ∃ cap E', xs.length ≤ cap ∧ E'.w = E.w ∧ E'.tm = E.tm ∧ Inv N S E' ∧ E'.st = E.st.unown t id sz xs cap := by
  have hv := I.rel.slots t
  rw [ht] at hv
  generalize hvv : E.tm.getD t undef = v at hv
  cases hv with
  | sl0 => exact absurd rfl hne
  | sl _ _ _ _ bk off cap hc hr hg ha =>
    obtain ⟨h1, arr, T, h2, h3, h4⟩ := hg
    subst h3
    have R' := I.rel.unown (id := id) htN ht h1 h2 h4 hc hr (fun j sz xs h => by simp [St.abs, hid] at h) hvv (fun h => by omega)
    refine ⟨cap, ⟨E.w, (fun i => if i = id then bk else E.β i), (E.take (rowQ t id)).ω, E.Pub, E.st.unown t id sz xs cap, E.tm⟩, hc, rfl, rfl, ⟨R', ⟨I.fr.os, I.fr.tape, I.fr.output, I.fr.size, I.fr.block, fun k q h => ?_, I.fr.pub0, I.fr.pub1, fun i hi => ?_⟩⟩, rfl⟩
    · have h' : (match E.ω k with | some q => some ((rowQ t id q).getD q) | none => none) = some q := h
      split at h'
      · rename_i q' hq'; exact I.fr.own k q' hq'
      · cases h'
    · show (if i = id then bk else E.β i) = _
      rw [if_neg (by omega)]
      exact I.fr.beta i hi

/-- The same, where the row may be nil. -/
theorem Inv.unown0 {N : Nat} {S : Start} {E : Env} (I : Inv N S E) {t id sz : Nat} {xs : List (List AV)} (htN : t < N) (ht : E.st.slots t = .sl .own sz xs) (hid : E.st.boxes id = none) (hk : S.k ≤ id) (hp : id < parkM) :
    (xs = [] ∧ ∃ E', E'.w = E.w ∧ E'.tm = E.tm ∧ Inv N S E' ∧ E'.st = (E.st.take (rowQ t id)).put t (.sl .nl sz [])) ∨ ∃ cap E', xs.length ≤ cap ∧ E'.w = E.w ∧ E'.tm = E.tm ∧ Inv N S E' ∧ E'.st = E.st.unown t id sz xs cap := by
  have hv := I.rel.slots t
  rw [ht] at hv
  generalize hvv : E.tm.getD t undef = v at hv
  cases hv with
  | sl0 =>
    left
    refine ⟨rfl, ?_⟩
    have I1 := I.take (rowQ t id) fun _ => by simp [rowQ]
    have hno : NoOwn ((E.take (rowQ t id)).st.slots t) := by
      intro π sz' xs' h
      obtain ⟨h1, h2⟩ := abs_take E.st (rowQ t id) (.slot t π) sz' xs' h
      cases π with
      | nil => simp [rowQ] at h2
      | cons k π =>
        simp only [St.abs, ht, AV.at] at h1
        cases h1
    have I2 := I1.putq t (.sl .nl sz []) (.slice none 0 0) htN hno rfl (.sl0 _ _ _ (by simp) trivial)
    refine ⟨{ E.take (rowQ t id) with st := (E.take (rowQ t id)).st.put t (.sl .nl sz []), tm := (E.take (rowQ t id)).tm.setIfInBounds t (.slice none 0 0) }, rfl, ?_, I2, rfl⟩
    show E.tm.setIfInBounds t (.slice none 0 0) = E.tm
    exact tm_set_same _ _ _ hvv
  | sl _ _ _ _ bk off cap hc hr hg ha =>
    right
    obtain ⟨h1, arr, T, h2, h3, h4⟩ := hg
    subst h3
    have R' := I.rel.unown (id := id) htN ht h1 h2 h4 hc hr (fun j sz xs h => by simp [St.abs, hid] at h) hvv (fun h => by omega)
    refine ⟨cap, ⟨E.w, (fun i => if i = id then bk else E.β i), (E.take (rowQ t id)).ω, E.Pub, E.st.unown t id sz xs cap, E.tm⟩, hc, rfl, rfl, ⟨R', ⟨I.fr.os, I.fr.tape, I.fr.output, I.fr.size, I.fr.block, fun k q h => ?_, I.fr.pub0, I.fr.pub1, fun i hi => ?_⟩⟩, rfl⟩
    · have h' : (match E.ω k with | some q => some ((rowQ t id q).getD q) | none => none) = some q := h
      split at h'
      · rename_i q' hq'; exact I.fr.own k q' hq'
      · cases h'
    · show (if i = id then bk else E.β i) = _
      rw [if_neg (by omega)]
      exact I.fr.beta i hi

theorem Inv.reown {N : Nat} {S : Start} {E : Env} (I : Inv N S E) {d id sz cap : Nat} {ys : List (List AV)} {pad : List AV} (hsz : 0 < sz) (hs : E.st.slots d = .bs id 0 ys.length cap) (hb : E.st.boxes id = some (ys.flatten ++ pad)) (hlen : (ys.flatten ++ pad).length = cap * sz)
    (hy : ∀ y ∈ ys, y.length = sz) (hdat : (ys.flatten.all fun c => c.data && c.cellOk) = true) (hfr : AV.freeL (ys.flatten ++ pad) = true) :
    ∃ E', E'.w = E.w ∧ E'.tm = E.tm ∧ Inv N S E' ∧ E'.st = E.st.reown d id sz ys := by
  refine ⟨⟨E.w, E.β, (fun bk => if E.ω bk = some (.box id) then some (.slot d []) else E.ω bk), E.Pub, E.st.reown d id sz ys, E.tm⟩, rfl, rfl, ⟨I.rel.reown hsz hs hb hlen hy hdat hfr, ⟨I.fr.os, I.fr.tape, I.fr.output, I.fr.size, I.fr.block, fun k q h => ?_, I.fr.pub0, I.fr.pub1, I.fr.beta⟩⟩, rfl⟩
  have h' : (if E.ω k = some (.box id) then some (Place.slot d []) else E.ω k) = some q := h
  split at h'
  · rename_i h2; exact I.fr.own k _ h2
  · exact I.fr.own k q h'

/-- Operations of a region from one on, as they turn a state; ghost steps may stand between them. -/
def SOps (C : Cx) (ops : Array Oper) (k : Nat) (l : List Oper) (st : St) (K : St → Prop) : Prop :=
  ∀ (S : Start) (E : Env) (a : Act), S.k ≤ C.base → Inv C.N S E → a.tmps = E.tm → a.defers = [] → E.st = st → ∀ R : Exit → Act → World → Prop,
    (∀ E a, Inv C.N S E → a.tmps = E.tm → a.defers = [] → K E.st → R .normal a E.w) → wpOps C.P ops R (List.range' k l.length) a E.w

section
variable {C : Cx} {Q : Exit → St → Prop} {st : St}
theorem SOps.nil {ops : Array Oper} {k : Nat} {K : St → Prop} (h : K st) : SOps C ops k [] st K := by
  intro S E a hb I ha hd he R hR
  exact hR E a I ha hd (by rw [he]; exact h)

theorem aops_soundQ {S : Start} (hbase : S.k ≤ C.base) {ops : Array Oper} {K : St → Prop} {R : Exit → Act → World → Prop} : ∀ (l r : List Oper) (k : Nat), ops.toList.drop k = l ++ r →
    (∀ E a, Inv C.N S E → a.tmps = E.tm → a.defers = [] → K E.st → wpOps C.P ops R (List.range' (k + l.length) r.length) a E.w) →
    ∀ (E : Env) (a : Act), Inv C.N S E → a.tmps = E.tm → a.defers = [] → aops C ops l E.st K → wpOps C.P ops R (List.range' k (l ++ r).length) a E.w := by
  intro l
  induction l with
  | nil => intro r k _ hR E a I ha hd h; exact hR E a I ha hd h
  | cons o l ih =>
    intro r k hl hR E a I ha hd h
    have ho : ops[k]? = some o := by
      rw [← Array.getElem?_toList]
      have := congrArg (·[0]?) hl
      simpa [List.getElem?_drop] using this
    have hrest : ops.toList.drop (k + 1) = l ++ r := by
      have := congrArg List.tail hl
      simpa [List.tail_drop] using this
    rw [List.cons_append, List.length_cons, List.range'_succ]
    simp only [wpOps]
    have := aops_head (C := C) (ops := ops) (R := R) (next := wpOps C.P ops R (List.range' (k + 1) (l ++ r).length)) I hbase ha hd ho h fun E' a' I' ha' hd' h' =>
      ih r (k + 1) hrest (fun E a I ha hd hK => by rw [show k + 1 + l.length = k + (o :: l).length by simp; omega]; exact hR E a I ha hd hK) E' a' I' ha' hd' h'
    exact this

theorem SOps.cut (n : Nat) {ops : Array Oper} {k : Nat} {l : List Oper} {K : St → Prop} (hl : ops.toList.drop k = l) (h : ∀ K' : St → Prop, (∀ m bx, SOps C ops (k + (l.take n).length) (l.drop n) (St.of m bx) K → K' (St.of m bx)) → aops C ops (l.take n) st K') : SOps C ops k l st K := by
  intro S E a hb I ha hd he R hR
  have h1 := h (fun s => SOps C ops (k + (l.take n).length) (l.drop n) s K) fun _ _ h => h
  have := aops_soundQ (C := C) hb (ops := ops) (K := fun s => SOps C ops (k + (l.take n).length) (l.drop n) s K) (R := R) (l.take n) (l.drop n) k (by rw [List.take_append_drop]; exact hl)
    (fun E a I ha hd hK => hK S E a hb I ha hd rfl R hR) E a I ha hd (by rw [he]; exact h1)
  rwa [List.take_append_drop] at this

theorem SOps.unown (t id : Nat) {sz : Nat} {xs : List (List AV)} {ops : Array Oper} {k : Nat} {l : List Oper} {K : St → Prop} (ht : st.slots t = .sl .own sz xs) (hN : t < C.N) (hne : xs ≠ []) (hid : st.boxes id = none) (hb : C.base ≤ id ∧ id < 1000000)
    (h : ∀ cap, xs.length ≤ cap → SOps C ops k l (st.unown t id sz xs cap) K) : SOps C ops k l st K := by
  intro S E a hbs I ha hd he R hR
  subst he
  obtain ⟨cap, E', h1, h2, h3, h4, h5⟩ := I.unown hN ht hne hid (Nat.le_trans hbs hb.1) hb.2
  have := h cap h1 S E' a hbs h4 (by rw [ha, h3]) hd h5 R hR
  rwa [h2] at this

theorem SOps.unown0 (t id : Nat) {sz : Nat} {xs : List (List AV)} {ops : Array Oper} {k : Nat} {l : List Oper} {K : St → Prop} (ht : st.slots t = .sl .own sz xs) (hN : t < C.N) (hid : st.boxes id = none) (hb : C.base ≤ id ∧ id < 1000000)
    (h0 : xs = [] → SOps C ops k l ((st.take (rowQ t id)).put t (.sl .nl sz [])) K) (h : ∀ cap, xs.length ≤ cap → SOps C ops k l (st.unown t id sz xs cap) K) : SOps C ops k l st K := by
  intro S E a hbs I ha hd he R hR
  subst he
  rcases I.unown0 hN ht hid (Nat.le_trans hbs hb.1) hb.2 with ⟨h1, E', h2, h3, h4, h5⟩ | ⟨cap, E', h1, h2, h3, h4, h5⟩
  · have := h0 h1 S E' a hbs h4 (by rw [ha, h3]) hd h5 R hR
    rwa [h2] at this
  · have := h cap h1 S E' a hbs h4 (by rw [ha, h3]) hd h5 R hR
    rwa [h2] at this

theorem AWp.unown0 (t id : Nat) {sz : Nat} {xs : List (List AV)} {c : Code} (ht : st.slots t = .sl .own sz xs) (hN : t < C.N) (hid : st.boxes id = none) (hb : C.base ≤ id ∧ id < 1000000)
    (h0 : xs = [] → AWp C c ((st.take (rowQ t id)).put t (.sl .nl sz [])) Q) (h : ∀ cap, xs.length ≤ cap → AWp C c (st.unown t id sz xs cap) Q) : AWp C c st Q := by
  intro S E a hbs I ha hd he
  subst he
  rcases I.unown0 hN ht hid (Nat.le_trans hbs hb.1) hb.2 with ⟨h1, E', h2, h3, h4, h5⟩ | ⟨cap, E', h1, h2, h3, h4, h5⟩
  · have := h0 h1 S E' a hbs h4 (by rw [ha, h3]) hd h5
    rwa [h2] at this
  · have := h cap h1 S E' a hbs h4 (by rw [ha, h3]) hd h5
    rwa [h2] at this

theorem SOps.reown (d id cap : Nat) {sz : Nat} (ys : List (List AV)) (pad : List AV) {ops : Array Oper} {k : Nat} {l : List Oper} {K : St → Prop} (hsz : 0 < sz) (hs : st.slots d = .bs id 0 ys.length cap) (hbx : st.boxes id = some (ys.flatten ++ pad)) (hlen : (ys.flatten ++ pad).length = cap * sz)
    (hy : ∀ y ∈ ys, y.length = sz) (hdat : (ys.flatten.all fun c => c.data && c.cellOk) = true) (hfr : AV.freeL (ys.flatten ++ pad) = true) (h : SOps C ops k l (st.reown d id sz ys) K) : SOps C ops k l st K := by
  intro S E a hbs I ha hd he R hR
  subst he
  obtain ⟨E', h2, h3, h4, h5⟩ := I.reown hsz hs hbx hlen hy hdat hfr
  have := h S E' a hbs h4 (by rw [ha, h3]) hd h5 R hR
  rwa [h2] at this

theorem AWp.sregion {id : Nat} {ops : Array Oper} (h : SOps C ops 0 ops.toList st (Q .normal)) : AWp C (.region id ops false) st Q := by
  intro S E a hb I ha hd he
  refine wp_region ?_
  have := h S E a hb I ha hd he (APost C S Q) (fun E a I ha hd h => ⟨E, rfl, I, ha, hd, h⟩)
  rw [List.range_eq_range']
  simpa using this

/-- A region with ghost steps between its operations. -/
theorem AWp.goS (ks kb : List Nat) {id : Nat} {ops : Array Oper} {y : Code} (h : ∀ K : St → Prop, (∀ l bx, AWp C y (St.of l bx) Q → K (St.of l bx)) → SOps C ops 0 ops.toList st fun s => K (St.of (seeS ks kb s ks) (seeB ks kb s kb))) : AWp C (.seq (.region id ops false) y) st Q := by
  refine AWp.seq (AWp.post (fun _ => (ks, kb)) ((AWp.sregion (Q := fun e s => thenQ (fun s => AWp C y (s.clean ks kb) Q) (fun _ _ => False) e s) ?_).mono ?_))
  · have := h (fun s => AWp C y s Q) fun _ _ h => h
    simp only [← St.clean_eq] at this
    exact this
  · intro e s hs
    cases e with
    | normal => exact hs
    | _ => exact hs.elim

theorem AWp.unown (t id : Nat) {sz : Nat} {xs : List (List AV)} {c : Code} (ht : st.slots t = .sl .own sz xs) (hN : t < C.N) (hne : xs ≠ []) (hid : st.boxes id = none) (hb : C.base ≤ id ∧ id < 1000000) (h : ∀ cap, xs.length ≤ cap → AWp C c (st.unown t id sz xs cap) Q) : AWp C c st Q := by
  intro S E a hbs I ha hd he
  subst he
  obtain ⟨cap, E', h1, h2, h3, h4, h5⟩ := I.unown hN ht hne hid (Nat.le_trans hbs hb.1) hb.2
  have := h cap h1 S E' a hbs h4 (by rw [ha, h3]) hd h5
  rwa [h2] at this

theorem AWp.reown (d id cap : Nat) {sz : Nat} (ys : List (List AV)) (pad : List AV) {c : Code} (hsz : 0 < sz) (hs : st.slots d = .bs id 0 ys.length cap) (hbx : st.boxes id = some (ys.flatten ++ pad)) (hlen : (ys.flatten ++ pad).length = cap * sz)
    (hy : ∀ y ∈ ys, y.length = sz) (hdat : (ys.flatten.all fun c => c.data && c.cellOk) = true) (hfr : AV.freeL (ys.flatten ++ pad) = true) (h : AWp C c (st.reown d id sz ys) Q) : AWp C c st Q := by
  intro S E a hbs I ha hd he
  subst he
  obtain ⟨E', h2, h3, h4, h5⟩ := I.reown hsz hs hbx hlen hy hdat hfr
  have := h S E' a hbs h4 (by rw [ha, h3]) hd h5
  rwa [h2] at this
end
attribute [simp] St.unown St.reown rowQ
end Go.AM
namespace Go.AM
@[simp] theorem St.of_setNone {m : List (Nat × AV)} {bx : Boxes} {id : Nat} : (St.of m bx).setBox id none = (St.of m bx).dropB [id] := by
  refine St.ext' (fun t => rfl) (fun i => ?_)
  show (if i = id then none else (St.of m bx).boxes i) = if [id].contains i then none else (St.of m bx).boxes i
  by_cases h : i = id
  · subst h; simp
  · simp [h]
end Go.AM
namespace Go.AM
open Go.Proofs

theorem idxI_cases {α : Type} (p : α → Bool) (l : List α) : (idxI p l = -1 ∧ l.filter (fun x => !p x) = l) ∨ ∃ i, ∃ h : i < l.length, idxI p l = (i : Int) ∧ (l.take i).filter (fun x => !p x) = l.take i ∧ p l[i] = true := by
  unfold idxI
  cases h : l.findIdx? p with
  | none =>
    left
    rw [List.findIdx?_eq_none_iff] at h
    exact ⟨rfl, List.filter_eq_self.2 fun x hx => by simp [h x hx]⟩
  | some i =>
    right
    rw [List.findIdx?_eq_some_iff_getElem] at h
    obtain ⟨hi, hp, hn⟩ := h
    refine ⟨i, hi, rfl, List.filter_eq_self.2 fun x hx => ?_, hp⟩
    obtain ⟨k, hk, rfl⟩ := List.mem_take_iff_getElem.1 hx
    have := hn k (by omega)
    simpa using this
set_option maxRecDepth 8000 in
theorem c_IndexFuncB_Dot (l : List Dot) (pad : List AV) (cap : Nat) (g : Nat) (p : Dot → Bool) (cs : List AV) (hpad : Calm pad) (hcs : Calm cs) (hg : ∀ n, Proc Try.prog 1 g [.agg (dotC n), .ptr 0 0] [(0, cs)] (.b (p n)) [(0, cs)]) (hl : l.length ≤ 1000000) : Proc Try.prog 2 107 [.bs 0 0 l.length cap, .fn g [] [.ptr 1 0]] [(0, boxR dotC l pad), (1, cs)] (.i .i64 (idxI p l)) [(0, boxR dotC l pad), (1, cs)] := by
  have hC : Calm (boxR dotC l pad) := boxR_calm dotC_ok hpad
  have hL : (boxR dotC l pad).length = l.length * 2 + pad.length := boxR_len dotC_ok l pad
  refine proc_of (cxb Try.prog 19 2 [0, 1, 4, 5, 7, 8, 9, 16] [] [4]) 17 [.tmp 4] Try.func107 rfl rfl rfl rfl rfl rfl (Nat.le_refl _) rfl ?_
  refine AWp.go [0, 1] [0, 1] fun K hK => ?_
  simp [hC, hcs]
  first | refine hK _ _ ?_ | refine ⟨by omega, hK _ _ ?_⟩ | refine ⟨by omega, by omega, hK _ _ ?_⟩
  clear hK K
  refine AWp.seq ?_
  refine AWp.go [0, 1, 7, 8] [0, 1] fun K hK => ?_
  simp [hC, hcs]
  first | refine hK _ _ ?_ | refine ⟨by omega, hK _ _ ?_⟩ | refine ⟨by omega, by omega, hK _ _ ?_⟩
  clear hK K
  refine AWp.block (AWp.while (fun i : Nat => [(0, .bs 0 0 l.length cap), (1, .fn g [] [.ptr 1 0]), (7, .i .i64 l.length), (8, .i .i64 i)]) (fun i => [(0, boxR dotC l pad), (1, cs)]) (fun i => i ≤ l.length ∧ ∀ k (hk : k < i) (hk2 : k < l.length), p l[k] = false) (fun i => l.length - i) [0, 1, 7, 8] [0, 1] 0 (by simp) (by simp [hC, hcs]) ?_)
  rintro i ⟨hi, hall⟩
  refine AWp.go [0, 1, 7, 8, 9] [0, 1] fun K hK => ?_
  simp [hC, hcs]
  first | refine hK _ _ ?_ | refine ⟨by omega, hK _ _ ?_⟩ | refine ⟨by omega, by omega, hK _ _ ?_⟩
  clear hK K
  refine AWp.seq ?_
  by_cases h : i < l.length
  · refine AWp.cond (t := true) (by first | (simp [h]; done) | (simp [h]; omega)) (fun _ => ?_) (by simp)
    refine AWp.skip ?_
    show AWp _ _ _ _
    refine AWp.seq ?_
    refine AWp.block ?_
    refine AWp.go [0, 1, 5, 7, 8] [0, 1] fun K hK => ?_
    simp [hC, hcs]
    first | refine hK _ _ ?_ | refine ⟨by omega, hK _ _ ?_⟩ | refine ⟨by omega, by omega, hK _ _ ?_⟩
    clear hK K
    refine AWp.go [0, 1, 5, 7, 8, 16] [0, 1] fun K hK => ?_
    simp [h, dotR_get l pad i h, hL]
    refine ⟨by omega, ?_⟩
    refine call_proc [(0, 1)] none (hg l[i]) (by simp [dotC]) (by simp) ?_
    simp [hC, hcs]
    refine ⟨by simpa using hcs.still, hK _ _ ?_⟩
    clear hK K
    cases hp : p l[i]
    · refine AWp.cond (t := false) (by simp) (by simp) (fun _ => ?_)
      refine AWp.skip ?_
      show AWp _ _ _ _
      refine AWp.goLast [0, 1, 7, 8] [0, 1] fun K hK => ?_
      simp [hC, hcs]
      first | refine hK _ _ ?_ | refine ⟨by omega, hK _ _ ?_⟩ | refine ⟨by omega, by omega, hK _ _ ?_⟩
      clear hK K
      refine ⟨i + 1, ⟨by omega, fun k hk hk2 => ?_⟩, by omega, ?_⟩
      · by_cases hki : k = i
        · subst hki; exact hp
        · exact hall k (by omega) hk2
      · simp [hC, hcs]
        exact wrap64 (by omega) (by omega)
    · refine AWp.cond (t := true) (by simp) (fun _ => ?_) (by simp)
      refine AWp.go [4] [0, 1] fun K hK => ?_
      simp [hC, hcs]
      first | refine hK _ _ ?_ | refine ⟨by omega, hK _ _ ?_⟩ | refine ⟨by omega, by omega, hK _ _ ?_⟩
      clear hK K
      refine AWp.ret ?_
      rw [idxI_at p l i h (fun k hk => hall k hk (by omega)) hp]
      simp [hC, hcs]
      intro id cs1 hid
      rw [hid]
      have hc1 : Calm cs1 := by
        split at hid
        · cases hid; exact hC
        · split at hid
          · cases hid; exact hcs
          · cases hid
      exact ⟨AV.fitsL_refl _, by simpa using hc1.still⟩
  · refine AWp.cond (t := false) (by first | (simp [h]; done) | (simp [h]; omega)) (by simp) (fun _ => ?_)
    refine AWp.exit ?_
    show AWp _ _ _ _
    refine AWp.go [4] [0, 1] fun K hK => ?_
    simp [hC, hcs]
    first | refine hK _ _ ?_ | refine ⟨by omega, hK _ _ ?_⟩ | refine ⟨by omega, by omega, hK _ _ ?_⟩
    clear hK K
    refine AWp.ret ?_
    rw [idxI_none p l fun k hk => hall k (by omega) hk]
    simp [hC, hcs]
    intro id cs1 hid
    rw [hid]
    have hc1 : Calm cs1 := by
      split at hid
      · cases hid; exact hC
      · split at hid
        · cases hid; exact hcs
        · cases hid
    exact ⟨AV.fitsL_refl _, by simpa using hc1.still⟩
set_option maxRecDepth 8000 in
set_option maxHeartbeats 2000000 in
theorem c_DeleteFuncB_Dot (l : List Dot) (pad : List AV) (cap : Nat) (g : Nat) (p : Dot → Bool) (cs : List AV) (hc : l.length ≤ cap) (hpad : Calm pad) (hp : pad.length = (cap - l.length) * 2) (hcs : Calm cs) (hg : ∀ n, Proc Try.prog 1 g [.agg (dotC n), .ptr 0 0] [(0, cs)] (.b (p n)) [(0, cs)]) (hl : l.length ≤ 1000000) : Proc Try.prog 2 82 [.bs 0 0 l.length cap, .fn g [] [.ptr 1 0]] [(0, boxR dotC l pad), (1, cs)] (.bs 0 0 (l.filter fun x => !p x).length cap) [(0, boxR dotC (l.filter fun x => !p x) (zerosL [.i .i64 0, .i .i64 0] (l.length - (l.filter fun x => !p x).length) ++ pad)), (1, cs)] := by
  have hC : ∀ l', Calm (boxR dotC l' pad) := fun l' => boxR_calm dotC_ok hpad
  have hL : ∀ l', (boxR dotC l' pad).length = l'.length * 2 + pad.length := fun l' => boxR_len dotC_ok l' pad
  have hC2 : ∀ l' n, Calm (boxR dotC l' (zerosL [.i .i64 0, .i .i64 0] n ++ pad)) := fun l' n => boxR_calm dotC_ok ((Calm.zeros (fun c hc => by simp at hc; rcases hc with rfl | rfl <;> rfl) n).append hpad)
  have hfl : (l.filter fun x => !p x).length ≤ l.length := List.length_filter_le _ _
  refine proc_of (cxb Try.prog 42 2 [0, 1, 4, 5, 6, 7, 12, 19, 29] [] [4]) 40 [.tmp 4] Try.func82 rfl rfl rfl rfl rfl rfl (Nat.le_refl _) rfl ?_
  refine AWp.go [0, 1] [0, 1] fun K hK => ?_
  simp [hC, hcs]
  first | refine hK _ _ ?_ | refine ⟨by omega, hK _ _ ?_⟩ | refine ⟨by omega, by omega, hK _ _ ?_⟩
  clear hK K
  refine AWp.go [0, 1, 5] [0, 1] fun K hK => ?_
  simp
  refine call_proc [(0, 0), (1, 1)] none (c_IndexFuncB_Dot l pad cap g p cs hpad hcs hg hl) (by simp) (by simp) ?_
  simp [hC, hcs]
  refine ⟨⟨by simpa using (hC l).still, by simpa using hcs.still⟩, hK _ _ ?_⟩
  clear hK K
  refine AWp.seq ?_
  refine AWp.go [0, 1, 5, 12] [0, 1] fun K hK => ?_
  simp [hC, hcs]
  first | refine hK _ _ ?_ | refine ⟨by omega, hK _ _ ?_⟩ | refine ⟨by omega, by omega, hK _ _ ?_⟩
  clear hK K
  by_cases h0 : idxI p l = -1
  · refine AWp.cond (t := true) (by first | (simp [h0]; done) | (simp [h0]; omega)) (fun _ => ?_) (by simp)
    refine AWp.go [4] [0, 1] fun K hK => ?_
    simp [hC, hcs]
    first | refine hK _ _ ?_ | refine ⟨by omega, hK _ _ ?_⟩ | refine ⟨by omega, by omega, hK _ _ ?_⟩
    clear hK K
    refine AWp.ret ?_
    have hf := (idxI_cases p l).resolve_right (fun ⟨i, _, h, _⟩ => by omega)
    rw [hf.2]
    simp [zerosL, hC, hcs]
    intro id cs1 hid
    rw [hid]
    have hc1 : Calm cs1 := by
      split at hid
      · cases hid; exact hC l
      · split at hid
        · cases hid; exact hcs
        · cases hid
    exact ⟨AV.fitsL_refl _, by simpa using hc1.still⟩
  · refine AWp.cond (t := false) (by first | (simp [h0]; done) | (simp [h0]; omega)) (by simp) (fun _ => ?_)
    obtain ⟨i0, hi0, hidx, htk, hpt⟩ := (idxI_cases p l).resolve_left (fun h => h0 h.1)
    rw [hidx]
    have hft : (l.take (i0 + 1)).filter (fun x => !p x) = l.take i0 := by
      rw [List.take_succ_eq_append_getElem hi0, List.filter_append, htk]
      simp [hpt]
    refine AWp.skip ?_
    show AWp _ _ _ _
    refine AWp.seq ?_
    refine AWp.go [0, 1, 5, 6] [0, 1] fun K hK => ?_
    simp [hC, hcs]
    first | refine hK _ _ ?_ | refine ⟨by omega, hK _ _ ?_⟩ | refine ⟨by omega, by omega, hK _ _ ?_⟩
    clear hK K
    refine AWp.block (AWp.while (fun q : Nat × List Dot => [(0, .bs 0 0 l.length cap), (1, .fn g [] [.ptr 1 0]), (5, .i .i64 ((l.take (i0 + 1 + q.1)).filter fun x => !p x).length), (6, .i .i64 (i0 + 1 + q.1))]) (fun q => [(0, boxR dotC q.2 pad), (1, cs)]) (fun q => q.2.length = l.length ∧ i0 + 1 + q.1 ≤ l.length ∧ ((l.take (i0 + 1 + q.1)).filter fun x => !p x).length ≤ i0 + q.1 ∧ q.2.take ((l.take (i0 + 1 + q.1)).filter fun x => !p x).length = (l.take (i0 + 1 + q.1)).filter (fun x => !p x) ∧ ∀ k, i0 + 1 + q.1 ≤ k → q.2[k]? = l[k]?) (fun q => l.length - q.1) [0, 1, 5, 6] [0, 1] (0, l) (by exact ⟨rfl, by dsimp only; omega, by dsimp only; rw [Nat.add_zero, hft]; simp; omega, by dsimp only; rw [Nat.add_zero, hft]; simp, fun _ _ => rfl⟩) (by have w0 : IntKind.i64.wrap ((i0 : Int) + 1) = i0 + 1 := wrap64 (by omega) (by omega); simp [hft, w0, hC, hcs]; omega) ?_)
    rintro ⟨j, c⟩ ⟨hcl, hj2, hk3, hj3, hj4⟩
    dsimp only at hcl hj2 hk3 hj3 hj4
    try dsimp only
    refine AWp.seq ?_
    refine AWp.go [0, 1, 5, 6, 19] [0, 1] fun K hK => ?_
    simp [hC, hcs]
    first | refine hK _ _ ?_ | refine ⟨by omega, hK _ _ ?_⟩ | refine ⟨by omega, by omega, hK _ _ ?_⟩
    clear hK K
    by_cases h : i0 + 1 + j < l.length
    · refine AWp.cond (t := true) (by first | (simp; done) | (simp; omega)) (fun _ => ?_) (by simp)
      have v1 : IntKind.i64.wrap ((i0 : Int) + 1 + j + 1) = i0 + 1 + j + 1 := wrap64 (by omega) (by omega)
      have v3 : IntKind.i64.wrap ((((l.take (i0 + 1 + j)).filter fun x => !p x).length : Int) + 1) = ((l.take (i0 + 1 + j)).filter fun x => !p x).length + 1 := wrap64 (by omega) (by omega)
      have q1 : c[i0 + 1 + j]'(by omega) = l[i0 + 1 + j] := by have := hj4 (i0 + 1 + j) (by omega); rw [List.getElem?_eq_getElem (by omega), List.getElem?_eq_getElem (by omega)] at this; exact Option.some.inj this
      have g1 := dotR_get c pad (i0 + 1 + j) (by omega)
      rw [q1] at g1
      have e0 : ((i0 : Int) + 1 + j).toNat = i0 + 1 + j := by omega
      refine AWp.skip ?_
      show AWp _ _ _ _
      refine AWp.seq ?_
      refine AWp.block ?_
      refine AWp.go [0, 1, 5, 6, 7] [0, 1, 9] fun K hK => ?_
      simp [e0, g1, hC, hL, hcs]
      refine ⟨by omega, by omega, hK _ _ ?_⟩
      clear hK K
      refine AWp.go [0, 1, 5, 6, 7, 29] [0, 1, 9] fun K hK => ?_
      simp
      refine call_proc [(0, 1)] none (hg l[i0 + 1 + j]) (by simp [dotC]) (by simp) ?_
      simp [hC, hcs]
      refine ⟨by simpa using hcs.still, hK _ _ ?_⟩
      clear hK K
      cases hp2 : p l[i0 + 1 + j]
      · refine AWp.cond (t := true) (by simp) (fun _ => ?_) (by simp)
        refine AWp.step [0, 1, 5, 6] [0, 1] [(0, .bs 0 0 l.length cap), (1, .fn g [] [.ptr 1 0]), (5, .i .i64 ((l.take (i0 + 1 + j)).filter fun x => !p x).length), (6, .i .i64 (i0 + 1 + j))] [(0, boxR dotC (c.set ((l.take (i0 + 1 + j)).filter fun x => !p x).length l[i0 + 1 + j]) pad), (1, cs)] ?_ ?_
        · have hs := dotR_set c pad ((l.take (i0 + 1 + j)).filter fun x => !p x).length (by omega) l[i0 + 1 + j]
          simp [hC, hL, hcs, hs]
          omega
        refine AWp.goLast [0, 1, 5, 6] [0, 1] fun K hK => ?_
        simp [hC, hcs]
        first | refine hK _ _ ?_ | refine ⟨by omega, hK _ _ ?_⟩ | refine ⟨by omega, by omega, hK _ _ ?_⟩
        clear hK K
        show AWp _ _ _ _
        refine AWp.goLast [0, 1, 5, 6] [0, 1] fun K hK => ?_
        simp [hC, hcs]
        first | refine hK _ _ ?_ | refine ⟨by omega, hK _ _ ?_⟩ | refine ⟨by omega, by omega, hK _ _ ?_⟩
        clear hK K
        have hcn : (l.take (i0 + 1 + (j + 1))).filter (fun x => !p x) = (l.take (i0 + 1 + j)).filter (fun x => !p x) ++ [l[i0 + 1 + j]] := by
          rw [show i0 + 1 + (j + 1) = i0 + 1 + j + 1 by omega, List.take_succ_eq_append_getElem h, List.filter_append]
          simp [hp2]
        refine ⟨(j + 1, c.set ((l.take (i0 + 1 + j)).filter fun x => !p x).length l[i0 + 1 + j]), ⟨by simpa using hcl, by dsimp only; omega, ?_, ?_, ?_⟩, by dsimp only; omega, ?_⟩
        · dsimp only; rw [hcn]; simp; omega
        · dsimp only; rw [hcn, List.length_append, List.length_singleton, List.take_succ_eq_append_getElem (by simp; omega), List.getElem_set_self, List.take_set_of_le (Nat.le_refl _), hj3]
        · intro k hk
          dsimp only at hk
          rw [List.getElem?_set_ne (by omega)]
          exact hj4 k (by omega)
        · simp [hC, hcs, v1, v3, hcn]
          omega
      · refine AWp.cond (t := false) (by simp) (by simp) (fun _ => ?_)
        refine AWp.skip ?_
        show AWp _ _ _ _
        refine AWp.goLast [0, 1, 5, 6] [0, 1] fun K hK => ?_
        simp [hC, hcs]
        first | refine hK _ _ ?_ | refine ⟨by omega, hK _ _ ?_⟩ | refine ⟨by omega, by omega, hK _ _ ?_⟩
        clear hK K
        have hcn : (l.take (i0 + 1 + (j + 1))).filter (fun x => !p x) = (l.take (i0 + 1 + j)).filter (fun x => !p x) := by
          rw [show i0 + 1 + (j + 1) = i0 + 1 + j + 1 by omega, List.take_succ_eq_append_getElem h, List.filter_append]
          simp [hp2]
        refine ⟨(j + 1, c), ⟨hcl, by dsimp only; omega, ?_, ?_, ?_⟩, by dsimp only; omega, ?_⟩
        · dsimp only; rw [hcn]; omega
        · dsimp only; rw [hcn]; exact hj3
        · intro k hk
          exact hj4 k (by dsimp only at hk; omega)
        · simp [hC, hcs, v1, hcn]
          omega
    · refine AWp.cond (t := false) (by first | (simp; done) | (simp; omega)) (by simp) (fun _ => ?_)
      refine AWp.exit ?_
      show AWp _ _ _ _
      have hjn : i0 + 1 + j = l.length := by omega
      rw [hjn, List.take_length] at hk3 hj3 ⊢
      have hcl2 := boxR_clear dotC_ok c pad (zerosL [.i .i64 0, .i .i64 0] (l.length - (l.filter fun x => !p x).length)) (l.filter fun x => !p x).length (by omega) (by rw [zerosL_length, hcl]; rfl)
      rw [hj3] at hcl2
      refine AWp.step [0, 5] [0, 1] [(0, .bs 0 0 l.length cap), (5, .i .i64 (l.filter fun x => !p x).length)] [(0, boxR dotC (l.filter fun x => !p x) (zerosL [.i .i64 0, .i .i64 0] (l.length - (l.filter fun x => !p x).length) ++ pad)), (1, cs)] ?_ ?_
      · simp [hL, hcs, show ¬ cap = (l.filter fun x => !p x).length by omega, zerosL_length] at hcl2 ⊢
        simp [hcl2, hC2]
        refine ⟨by omega, by omega, (((hC c).drop _).take _).freeL⟩
      refine AWp.go [4] [0, 1] fun K hK => ?_
      simp [hcs]
      refine ⟨by omega, hK _ _ ?_⟩
      clear hK K
      refine AWp.ret ?_
      simp [hC2, hcs]
      intro id cs1 hid
      rw [hid]
      have hc1 : Calm cs1 := by
        split at hid
        · cases hid; exact hC2 _ _
        · split at hid
          · cases hid; exact hcs
          · cases hid
      exact ⟨AV.fitsL_refl _, by simpa using hc1.still⟩

theorem c_IndexFunc_Dot_0 (g : Nat) (cs : List AV) (hcs : Calm cs) : Proc Try.prog 1 107 [.sl .fro 2 [], .fn g [] [.ptr 0 0]] [(0, cs)] (.i .i64 (-1)) [(0, cs)] := by
  refine proc_of (cxb Try.prog 19 1 [0, 1, 4, 5, 7, 8, 9, 16] [] [4]) 17 [.tmp 4] Try.func107 rfl rfl rfl rfl rfl rfl (Nat.le_refl _) rfl ?_
  refine AWp.go [0, 1] [0] fun K hK => ?_
  simp [hcs]
  first | refine hK _ _ ?_ | refine ⟨by omega, hK _ _ ?_⟩ | refine ⟨by omega, by omega, hK _ _ ?_⟩
  clear hK K
  refine AWp.seq ?_
  refine AWp.go [0, 1, 7, 8] [0] fun K hK => ?_
  simp [hcs]
  first | refine hK _ _ ?_ | refine ⟨by omega, hK _ _ ?_⟩ | refine ⟨by omega, by omega, hK _ _ ?_⟩
  clear hK K
  refine AWp.block (AWp.while (fun i : Nat => [(0, .sl .fro 2 []), (1, .fn g [] [.ptr 0 0]), (7, .i .i64 0), (8, .i .i64 0)]) (fun i => [(0, cs)]) (fun i => True) (fun i => 0) [0, 1, 7, 8] [0] 0 (by simp) (by simp [hcs]) ?_)
  intro i hi
  refine AWp.go [0, 1, 7, 8, 9] [0] fun K hK => ?_
  simp [hcs]
  first | refine hK _ _ ?_ | refine ⟨by omega, hK _ _ ?_⟩ | refine ⟨by omega, by omega, hK _ _ ?_⟩
  clear hK K
  refine AWp.seq ?_
  refine AWp.cond (t := false) (by first | (simp; done) | (simp; omega)) (by simp) (fun _ => ?_)
  refine AWp.exit ?_
  show AWp _ _ _ _
  refine AWp.go [4] [0] fun K hK => ?_
  simp [hcs]
  first | refine hK _ _ ?_ | refine ⟨by omega, hK _ _ ?_⟩ | refine ⟨by omega, by omega, hK _ _ ?_⟩
  clear hK K
  refine AWp.ret ?_
  simp [hcs]
  simpa using hcs.still

theorem c_DeleteFunc_Dot_0 (g : Nat) (cs : List AV) (hcs : Calm cs) : Proc Try.prog 1 82 [.sl .nl 2 [], .fn g [] [.ptr 0 0]] [(0, cs)] (.sl .nl 2 []) [(0, cs)] := by
  refine proc_of (cxb Try.prog 42 1 [0, 1, 4, 5, 6, 7, 12, 19, 29] [] [4]) 40 [.tmp 4] Try.func82 rfl rfl rfl rfl rfl rfl (Nat.le_refl _) rfl ?_
  refine AWp.go [0, 1] [0] fun K hK => ?_
  simp [hcs]
  first | refine hK _ _ ?_ | refine ⟨by omega, hK _ _ ?_⟩ | refine ⟨by omega, by omega, hK _ _ ?_⟩
  clear hK K
  refine AWp.go [0, 1, 5] [0] fun K hK => ?_
  simp
  refine call_proc [(0, 0)] none (c_IndexFunc_Dot_0 g cs hcs) (by simp) (by simp) ?_
  simp [hcs]
  refine ⟨by simpa using hcs.still, hK _ _ ?_⟩
  clear hK K
  refine AWp.seq ?_
  refine AWp.go [0, 1, 5, 12] [0] fun K hK => ?_
  simp [hcs]
  first | refine hK _ _ ?_ | refine ⟨by omega, hK _ _ ?_⟩ | refine ⟨by omega, by omega, hK _ _ ?_⟩
  clear hK K
  refine AWp.cond (t := true) (by first | (simp; done) | (simp; omega)) (fun _ => ?_) (by simp)
  refine AWp.go [4] [0] fun K hK => ?_
  simp [hcs]
  first | refine hK _ _ ?_ | refine ⟨by omega, hK _ _ ?_⟩ | refine ⟨by omega, by omega, hK _ _ ?_⟩
  clear hK K
  refine AWp.ret ?_
  simp [hcs]
  simpa using hcs.still

set_option maxRecDepth 8000 in
theorem c_rwset_unknown1 (c : List Int) (hc : c.length ≤ 1000000) (d : Dot) : Proc Try.prog 1 83 [.agg (dotC d), .ptr 0 0] [(0, [.sl .fro 1 (intsAV c)])] (.b (decide (d.2 ≤ getC c d.1))) [(0, [.sl .fro 1 (intsAV c)])] := by
  refine proc_of (cxb Try.prog 11 1 [1, 2, 3] [] [3]) 9 [.tmp 3] Try.func83 rfl rfl rfl rfl rfl rfl (Nat.le_refl _) rfl ?_
  refine AWp.go [1, 2] [0, 3] fun K hK => ?_
  simp [dotC]
  first | refine hK _ _ ?_ | refine ⟨by omega, hK _ _ ?_⟩ | refine ⟨by omega, by omega, hK _ _ ?_⟩
  clear hK K
  have g1 := c102 c d.1 (by omega)
  refine AWp.goD 8 (fun _ => .i .i64 (getC c d.1)) [3] [0] mix (by kernel_rfl) fun K hK => ?_
  simp [g1]
  refine hK _ _ ?_
  clear hK K
  refine AWp.ret ?_
  simp

theorem dots_dat2 (l : List Dot) : ((dotsAV l).flatten.all fun c => c.data && c.cellOk) = true := by
  rw [List.all_eq_true]
  intro c hc
  obtain ⟨y, hy, hc⟩ := List.mem_flatten.1 hc
  obtain ⟨x, _, rfl⟩ := List.mem_map.1 hy
  simp [dotC] at hc
  rcases hc with rfl | rfl <;> rfl

/-- The dots that a clock has not. -/
def leftD (l : List Dot) (c : List Int) : List Dot := l.filter fun d => !decide (d.2 ≤ getC c d.1)

set_option maxRecDepth 8000 in
set_option maxHeartbeats 1000000 in
theorem c_rwset_unknown (l : List Dot) (c : List Int) (hl : l.length ≤ 1000000) (hc : c.length ≤ 1000000) : Pure Try.prog 50 [.sl .fro 2 (dotsAV l), .sl .fro 1 (intsAV c)] (.sl .own 2 (dotsAV (leftD l c))) := by
  refine proc_of (cx Try.prog 9 [0, 3, 4] [4]) 7 [.tmp 4] Try.func50 rfl rfl rfl rfl rfl rfl (Nat.le_refl _) rfl ?_
  refine AWp.go [0, 3] [3] fun K hK => ?_
  simp
  first | refine hK _ _ ?_ | refine ⟨by omega, hK _ _ ?_⟩ | refine ⟨by omega, by omega, hK _ _ ?_⟩
  clear hK K
  have hcs : Calm [AV.sl .fro 1 (intsAV c)] := fun x hx => by simp at hx; subst hx; rfl
  refine AWp.goS [4] [] fun K hK => ?_
  refine SOps.cut 2 rfl fun K' hK' => ?_
  simp
  refine call_pure (c_Clone_Dot (dotsAV l) (by simp; omega)) (by simp) ?_
  simp
  refine hK' _ _ ?_
  clear hK'
  refine SOps.unown0 6 100 rfl (by simp) rfl (by simp) (fun h0 => ?_) fun cap hcap => ?_
  · have h0 : l = [] := by simpa [dotsAV] using h0
    subst h0
    simp
    refine SOps.cut 3 rfl fun K' hK' => ?_
    simp
    refine call_procK [(0, 3)] none (c_DeleteFunc_Dot_0 83 _ hcs) (by simp) (by simp) ?_
    simp
    refine hK' _ _ (SOps.nil ?_)
    simp
    refine hK _ _ (AWp.ret ?_)
    simp [leftD]
  simp at hcap
  have hcc : Calm (boxR dotC l (List.replicate ((cap - l.length) * 2) AV.any)) := boxR_calm dotC_ok (Calm.replicate _ rfl)
  have hdf := c_DeleteFuncB_Dot l (List.replicate ((cap - l.length) * 2) AV.any) cap 83 (fun d => decide (d.2 ≤ getC c d.1)) _ hcap (Calm.replicate _ rfl) (by simp) hcs (fun n => c_rwset_unknown1 c hc n) hl
  have e0 : (dotsAV l).flatten ++ List.replicate ((cap - l.length) * 2) AV.any = boxR dotC l (List.replicate ((cap - l.length) * 2) AV.any) := rfl
  have hst := (boxR_calm (l := leftD l c) dotC_ok ((Calm.zeros (zero := [AV.i .i64 0, AV.i .i64 0]) (fun c hc => by simp at hc; subst hc; rfl) (l.length - (leftD l c).length)).append (Calm.replicate ((cap - l.length) * 2) (x := AV.any) rfl)))
  have hlf : (leftD l c).length ≤ l.length := List.length_filter_le _ _
  have hrl := rows_len dotC_ok (leftD l c)
  rw [show (l.filter fun d => !decide (d.2 ≤ getC c d.1)) = leftD l c from rfl] at hdf
  simp [e0]
  refine SOps.cut 2 rfl fun K2 hK2 => ?_
  simp
  refine call_proc [(0, 100), (1, 3)] none hdf (by simp) (by simp) ?_
  simp [hcc, hst]
  refine ⟨by simpa using hcc.still, by simpa using hst.still, hK2 _ _ ?_⟩
  refine SOps.reown 8 100 cap (sz := 2) (dotsAV (leftD l c)) (zerosL [.i .i64 0, .i .i64 0] (l.length - (leftD l c).length) ++ List.replicate ((cap - l.length) * 2) AV.any) (by simp) (by simp) rfl ?_ (fun z hz => ?_) (dots_dat2 _) hst.freeL ?_
  · have h5 : ((dotsAV (leftD l c)).flatten).length = (leftD l c).length * 2 := hrl
    simp only [List.length_append, zerosL_length, List.length_replicate, h5]
    simp; omega
  · obtain ⟨x, _, rfl⟩ := List.mem_map.1 hz; rfl
  simp
  refine SOps.cut 1 rfl fun K3 hK3 => ?_
  simp
  refine hK3 _ _ (SOps.nil ?_)
  simp
  refine hK _ _ ?_
  clear hK3 hK2 hK K
  refine AWp.ret ?_
  simp
end Go.AM
namespace Go.AM

/-! ### clocks -/
def okN (n : Int) : Prop := 0 ≤ n ∧ n ≤ 1048576

theorem clockOk_iff (c : List Int) : clockOk c = true ↔ c.length ≤ 5 ∧ ∀ n ∈ c, okN n := by
  simp only [clockOk, Bool.and_eq_true, decide_eq_true_eq, Bool.not_eq_true', List.any_eq_false]
  refine and_congr Iff.rfl ⟨fun h n hn => ?_, fun h n hn => ?_⟩
  · have := h n hn
    simp [badN] at this
    exact this
  · have := h n hn
    simp [badN, okN] at this ⊢
    exact this

theorem plainN_zero (f : List Int) : ∀ n k, plainN f n ≤ k → k < n → f.getD k 0 = 0
  | 0, k, _, h => by omega
  | n + 1, k, h1, h2 => by
    unfold plainN at h1
    split at h1
    · rename_i h0
      by_cases hk : k = n
      · rw [hk]; exact h0
      · exact plainN_zero f n k h1 (by omega)
    · omega

theorem ofL_plainL {f : List Int} (hf : f.length = 5) (hok : ∀ n ∈ f, okN n) : clockOk (plainL f) = true ∧ ofL (plainL f) = f := by
  have h5 := plainN_le f 5
  have hc : clockOk (plainL f) = true := by
    rw [clockOk_iff]
    refine ⟨plainL_len5 f, fun n hn => hok n (List.mem_of_mem_take hn)⟩
  refine ⟨hc, ?_⟩
  unfold ofL
  rw [if_pos hc]
  have hl : (plainL f).length = plainN f 5 := by unfold plainL; rw [List.length_take]; omega
  apply List.ext_getElem
  · rw [List.length_append, hl, List.length_replicate, hf]; omega
  · intro i h1 h2
    by_cases hi : i < plainN f 5
    · rw [List.getElem_append_left (by omega)]
      simp [plainL]
    · rw [List.getElem_append_right (by omega), List.getElem_replicate]
      have := plainN_zero f 5 i (by omega) (by omega)
      rw [List.getD_eq_getElem?_getD, List.getElem?_eq_getElem h2] at this
      exact this.symm

theorem ofL_ok (c : List Int) : (ofL c).length = 5 ∧ ∀ n ∈ ofL c, okN n := by
  refine ⟨ofL_length c, fun n hn => ?_⟩
  unfold ofL at hn
  split at hn
  · rename_i h
    rw [clockOk_iff] at h
    rcases List.mem_append.1 hn with h1 | h1
    · exact h.2 n h1
    · rw [List.eq_of_mem_replicate h1]; exact ⟨by omega, by omega⟩
  · simp at hn; subst hn; exact ⟨by omega, by omega⟩

/-- Two lists of five are the same if they are at each place. -/
theorem five_ext {f g : List Int} (hf : f.length = 5) (hg : g.length = 5) (h : ∀ k, k < 5 → f.getD k 0 = g.getD k 0) : f = g := by
  apply List.ext_getElem (by omega)
  intro i h1 h2
  have := h i (by omega)
  rw [List.getD_eq_getElem?_getD, List.getD_eq_getElem?_getD, List.getElem?_eq_getElem h1, List.getElem?_eq_getElem h2] at this
  exact this

/-- A plain clock. -/
def Pl (u : List Int) : Prop := clockOk u = true ∧ plainL (ofL u) = u

theorem Pl.plain {f : List Int} (hf : f.length = 5) (hok : ∀ n ∈ f, okN n) : Pl (plainL f) := by
  obtain ⟨h1, h2⟩ := ofL_plainL hf hok
  exact ⟨h1, by rw [h2]⟩
theorem Pl.of (c : List Int) : Pl (plainL (ofL c)) := Pl.plain (ofL_ok c).1 (ofL_ok c).2

theorem Pl.ext {u v : List Int} (hu : Pl u) (hv : Pl v) (h : ∀ rep, 1 ≤ rep → rep ≤ 5 → getC u rep = getC v rep) : u = v := by
  rw [← hu.2, ← hv.2]
  congr 1
  refine five_ext (ofL_length u) (ofL_length v) fun k hk => ?_
  have := h (k + 1) (by omega) (by omega)
  rwa [getC_at u k hk, getC_at v k hk] at this

theorem getC_plainL {f : List Int} (hf : f.length = 5) (hok : ∀ n ∈ f, okN n) (rep : Int) : getC (plainL f) rep = if 1 ≤ rep ∧ rep ≤ 5 then f.getD (rep - 1).toNat 0 else 0 := by
  unfold getC
  rw [(ofL_plainL hf hok).2]
theorem set_ok (c : List Int) (k : Nat) (n : Int) (hn : okN n) : ((ofL c).set k n).length = 5 ∧ ∀ m ∈ (ofL c).set k n, okN m := by
  refine ⟨by rw [List.length_set, ofL_length], fun m hm => ?_⟩
  rcases List.mem_or_eq_of_mem_set hm with h | h
  · exact (ofL_ok c).2 m h
  · rw [h]; exact hn
theorem getC_setC (u : List Int) {r n : Int} (hr : 1 ≤ r ∧ r ≤ 5) (hn : okN n) (q : Int) : getC (setC u r n) q = if q = r then n else getC u q := by
  unfold setC
  rw [if_pos ⟨hr, hn⟩, getC_plainL (set_ok u _ n hn).1 (set_ok u _ n hn).2]
  by_cases hq : 1 ≤ q ∧ q ≤ 5
  · rw [if_pos hq]
    have hlen := ofL_length u
    by_cases he : q = r
    · subst he
      rw [if_pos rfl, List.getD_eq_getElem?_getD, List.getElem?_set_self (by omega)]
      rfl
    · rw [if_neg he, List.getD_eq_getElem?_getD, List.getElem?_set_ne (by omega)]
      unfold getC
      rw [if_pos hq, List.getD_eq_getElem?_getD]
  · rw [if_neg hq, if_neg (by omega)]
    unfold getC
    rw [if_neg hq]

/-- The document's set is the program's. -/
theorem refSet_eq (u : List Int) {r n : Int} (hr : 1 ≤ r ∧ r ≤ 5) (hn : okN n) : plainL (ofL ((List.range 5).map fun k : Nat => if (k : Int) + 1 = r then n else getC u (k + 1))) = setC u r n := by
  unfold setC
  rw [if_pos ⟨hr, hn⟩]
  congr 1
  have hf : ∀ m ∈ ((List.range 5).map fun k : Nat => if (k : Int) + 1 = r then n else getC u (k + 1)), okN m := by
    intro m hm
    obtain ⟨k, hk, rfl⟩ := List.mem_map.1 hm
    split
    · exact hn
    · exact getC_range u _
  have e : ofL ((List.range 5).map fun k : Nat => if (k : Int) + 1 = r then n else getC u (k + 1)) = (List.range 5).map fun k : Nat => if (k : Int) + 1 = r then n else getC u (k + 1) := by
    unfold ofL
    rw [if_pos]
    · simp
    · rw [clockOk_iff]; exact ⟨by simp, hf⟩
  rw [e]
  refine five_ext (by simp) (by rw [List.length_set, ofL_length]) fun k hk => ?_
  rw [List.getD_eq_getElem?_getD, List.getElem?_map, List.getElem?_range hk]
  simp only [Option.map_some, Option.getD_some]
  rw [getC_at u k hk]
  have hlen := ofL_length u
  by_cases he : (k : Int) + 1 = r
  · subst he
    rw [if_pos rfl, List.getD_eq_getElem?_getD, show ((k : Int) + 1 - 1).toNat = k by omega, List.getElem?_set_self (by omega)]
    rfl
  · rw [if_neg he, List.getD_eq_getElem?_getD, List.getD_eq_getElem?_getD, List.getElem?_set_ne (by omega)]

/-! ### order -/
def LT (a b : Dot) : Prop := a.1 < b.1 ∨ a.1 = b.1 ∧ a.2 < b.2
theorem ltD_iff (a b : Dot) : ltD a b = true ↔ LT a b := by simp [ltD, LT]
theorem LT.trans {a b c : Dot} (h1 : LT a b) (h2 : LT b c) : LT a c := by unfold LT at *; omega
theorem LT.irrefl (a : Dot) : ¬ LT a a := by unfold LT; omega
theorem LT.tri (a b : Dot) : LT a b ∨ a = b ∨ LT b a := by
  unfold LT
  rcases a with ⟨a1, a2⟩
  rcases b with ⟨b1, b2⟩
  simp only [Prod.mk.injEq]
  omega
abbrev Sorted (l : List Dot) : Prop := l.Pairwise LT

theorem Sorted.ext : ∀ {l m : List Dot}, Sorted l → Sorted m → (∀ d, d ∈ l ↔ d ∈ m) → l = m
  | [], [], _, _, _ => rfl
  | [], y :: m, _, _, h => by have := (h y).2 (by simp); simp at this
  | x :: l, [], _, _, h => by have := (h x).1 (by simp); simp at this
  | x :: l, y :: m, h1, h2, h => by
    rw [Sorted, List.pairwise_cons] at h1 h2
    have hxy : x = y := by
      rcases LT.tri x y with h3 | h3 | h3
      · exfalso
        rcases List.mem_cons.1 ((h x).1 (by simp)) with h4 | h4
        · subst h4; exact LT.irrefl _ h3
        · exact LT.irrefl _ ((h2.1 x h4).trans h3)
      · exact h3
      · exfalso
        rcases List.mem_cons.1 ((h y).2 (by simp)) with h4 | h4
        · subst h4; exact LT.irrefl _ h3
        · exact LT.irrefl _ ((h1.1 y h4).trans h3)
    subst hxy
    congr 1
    refine Sorted.ext h1.2 h2.2 fun d => ⟨fun hd => ?_, fun hd => ?_⟩
    · rcases List.mem_cons.1 ((h d).1 (by simp [hd])) with h4 | h4
      · subst h4; exact absurd (h1.1 d hd) (LT.irrefl _)
      · exact h4
    · rcases List.mem_cons.1 ((h d).2 (by simp [hd])) with h4 | h4
      · subst h4; exact absurd (h2.1 d hd) (LT.irrefl _)
      · exact h4

theorem mem_putD (l : List Dot) (d x : Dot) : x ∈ putD l d ↔ x ∈ l ∨ x = d := by
  induction l with
  | nil => simp [putD]
  | cons y l ih =>
    unfold putD
    split
    · simp [ih, or_assoc]
    · split
      · rename_i h; subst h
        simp
        intro h; exact .inl h
      · simp; constructor
        · rintro (h | h | h) <;> simp [h]
        · rintro ((h | h) | h) <;> simp [h]
theorem sorted_putD {l : List Dot} (h : Sorted l) (d : Dot) : Sorted (putD l d) := by
  induction l with
  | nil => simp [putD, Sorted]
  | cons y l ih =>
    rw [Sorted, List.pairwise_cons] at h
    unfold putD
    split
    · rename_i hl
      rw [ltD_iff] at hl
      rw [Sorted, List.pairwise_cons]
      refine ⟨fun a ha => ?_, ih h.2⟩
      rcases (mem_putD l d a).1 ha with h1 | h1
      · exact h.1 a h1
      · subst h1; exact hl
    · rename_i hl
      rw [ltD_iff] at hl
      split
      · rw [Sorted, List.pairwise_cons]; exact h
      · rename_i hne
        rw [Sorted, List.pairwise_cons]
        refine ⟨fun a ha => ?_, by rw [List.pairwise_cons]; exact h⟩
        have hdy : LT d y := by
          rcases LT.tri y d with h1 | h1 | h1
          · exact absurd h1 hl
          · exact absurd h1 hne
          · exact h1
        rcases List.mem_cons.1 ha with h1 | h1
        · subst h1; exact hdy
        · exact hdy.trans (h.1 a h1)
def LE (a b : Dot) : Prop := ¬ LT b a
theorem sortD_sorted (l : List Dot) : (sortD l).Pairwise LE ∧ ∀ d, d ∈ sortD l ↔ d ∈ l := by
  refine ⟨?_, fun d => by simp [sortD]⟩
  have := List.pairwise_mergeSort (le := fun x y => !ltD y x) (fun a b c h1 h2 => by
      simp only [Bool.not_eq_true', ← Bool.not_eq_true, ltD_iff] at *
      intro h
      rcases LT.tri b c with h3 | h3 | h3
      · exact h1 (h3.trans h)
      · subst h3; exact h1 h
      · exact h2 h3) (fun a b => by
      simp only [Bool.or_eq_true, Bool.not_eq_true', ← Bool.not_eq_true, ltD_iff]
      rcases LT.tri a b with h | h | h
      · exact .inl fun h2 => LT.irrefl _ (h.trans h2)
      · subst h; exact .inl (LT.irrefl _)
      · exact .inr fun h2 => LT.irrefl _ (h.trans h2)) l
  refine this.imp fun {a b} h => ?_
  simp only [Bool.not_eq_true', ← Bool.not_eq_true, ltD_iff] at h
  exact h

theorem compN_spec {l : List Dot} (h : l.Pairwise LE) : ∀ i, i ≤ l.length → Sorted (compN l i) ∧ (∀ d, d ∈ compN l i ↔ d ∈ l.take i)
  | 0, _ => ⟨by simp [compN, Sorted], fun d => by simp [compN]⟩
  | i + 1, hi => by
    obtain ⟨h1, h2⟩ := compN_spec h i (by omega)
    have hl : i < l.length := by omega
    have hx : l[i]? = some l[i] := List.getElem?_eq_getElem hl
    have htk : l.take (i + 1) = l.take i ++ [l[i]] := List.take_succ_eq_append_getElem hl
    unfold compN
    rw [hx]
    simp only
    split
    · rename_i hc
      refine ⟨h1, fun d => ?_⟩
      rw [h2, htk, List.mem_append, List.mem_singleton]
      refine ⟨.inl, fun hd => hd.elim id fun hd => ?_⟩
      subst hd
      have hp : i - 1 < l.length := by omega
      have := hc.2
      rw [List.getElem?_eq_getElem hp] at this
      rw [← Option.some.inj this]
      rw [List.mem_take_iff_getElem]
      exact ⟨i - 1, by omega, rfl⟩
    · rename_i hc
      refine ⟨?_, fun d => by rw [List.mem_append, h2, htk, List.mem_append]⟩
      rw [Sorted, List.pairwise_append]
      refine ⟨h1, by simp, fun a ha b hb => ?_⟩
      simp at hb
      subst hb
      rw [h2, List.mem_take_iff_getElem] at ha
      obtain ⟨k, hk, rfl⟩ := ha
      have hki : k < i := by omega
      rw [List.pairwise_iff_getElem] at h
      rcases LT.tri l[k] l[i] with h3 | h3 | h3
      · exact h3
      · exfalso
        refine hc ⟨by omega, ?_⟩
        have hp : i - 1 < l.length := by omega
        rw [List.getElem?_eq_getElem hp]
        have h4 : LE l[i - 1] l[i] := h (i - 1) i hp hl (by omega)
        have h5 : LE l[k] l[i - 1] := by
          by_cases he : k = i - 1
          · subst he; exact LT.irrefl _
          · exact h k (i - 1) (by omega) hp (by omega)
        rcases LT.tri l[i - 1] l[i] with h6 | h6 | h6
        · rw [← h3] at h6; exact absurd h6 h5
        · rw [h6]
        · exact absurd h6 h4
      · exact absurd h3 (h k i (by omega) hl hki)
theorem ordP_spec (l : List Dot) : Sorted (ordP l) ∧ ∀ d, d ∈ ordP l ↔ d ∈ l := by
  obtain ⟨h1, h2⟩ := sortD_sorted l
  obtain ⟨h3, h4⟩ := compN_spec h1 (sortD l).length (Nat.le_refl _)
  refine ⟨h3, fun d => ?_⟩
  have := h4 d
  rw [List.take_length, h2] at this
  exact this
end Go.AM
namespace Go.AM
open Go.Proofs

structure Entry where
  key : ByteArray
  live : List Dot
  dead : List Dot
def entC (e : Entry) : List AV := [.s e.key, .sl .fro 2 (dotsAV e.live), .sl .fro 2 (dotsAV e.dead)]
def entsAV (l : List Entry) : List (List AV) := l.map entC
@[simp] theorem entsAV_length (l : List Entry) : (entsAV l).length = l.length := by simp [entsAV]
@[simp] theorem entsAV_getElem (l : List Entry) (i : Nat) (h : i < (entsAV l).length) : (entsAV l)[i] = [.s (l[i]'(by simpa using h)).key, .sl .fro 2 (dotsAV (l[i]'(by simpa using h)).live), .sl .fro 2 (dotsAV (l[i]'(by simpa using h)).dead)] := by simp [entsAV, entC]

def eqK (a b : ByteArray) : Bool := a.toList == b.toList
def ltK (a b : ByteArray) : Bool := Op.bytesLess a.toList b.toList
def leK (a b : ByteArray) : Bool := ltK a b || eqK a b
def keyOk (k : ByteArray) : Bool := !eqK k ByteArray.empty && decide ((k.size : Int) ≤ 32)

theorem c_rwset_right (k : ByteArray) : Pure Try.prog 55 [.s k] (.b (keyOk k)) := by
  refine proc_of (cx Try.prog 10 [0, 2] [2]) 9 [.tmp 2] Try.func55 rfl rfl rfl rfl rfl rfl (Nat.le_refl _) rfl ?_
  refine AWp.go [0] [] fun K hK => ?_
  simp
  first | refine hK _ _ ?_ | refine ⟨by omega, hK _ _ ?_⟩ | refine ⟨by omega, by omega, hK _ _ ?_⟩
  clear hK K
  refine AWp.step [2] [] [(2, .b (keyOk k))] [] ?_ ?_
  · by_cases h1 : k.toList = [] <;> by_cases h2 : (k.size : Int) ≤ 32 <;> simp [h1, h2, keyOk, eqK]
  refine AWp.ret ?_
  simp

/-- May the i-th dot stand there? -/
def rowOk (l : List Dot) (i : Nat) : Bool := match l[i]? with
  | some d => mayD d && (!decide (0 < i) || ltD (l.getD (i - 1) (0, 0)) d)
  | none => false
def rowsB (l : List Dot) : Bool := (List.range l.length).all (rowOk l)

set_option maxRecDepth 8000 in
set_option maxHeartbeats 1000000 in
theorem c_rwset_rows (l : List Dot) (hlen : l.length ≤ 1000000) : Pure Try.prog 56 [.sl .fro 2 (dotsAV l)] (.b (rowsB l)) := by
  refine proc_of (cx Try.prog 30 [0, 2, 3, 4, 5, 6, 7, 8, 28] [2]) 29 [.tmp 2] Try.func56 rfl rfl rfl rfl rfl rfl (Nat.le_refl _) rfl ?_
  refine AWp.go [0] [] fun K hK => ?_
  simp
  first | refine hK _ _ ?_ | refine ⟨by omega, hK _ _ ?_⟩ | refine ⟨by omega, by omega, hK _ _ ?_⟩
  clear hK K
  refine AWp.seq ?_
  refine AWp.go [0, 5, 6, 7] [] fun K hK => ?_
  simp
  first | refine hK _ _ ?_ | refine ⟨by omega, hK _ _ ?_⟩ | refine ⟨by omega, by omega, hK _ _ ?_⟩
  clear hK K
  refine AWp.block (AWp.while (fun i : Nat => [(0, .sl .fro 2 (dotsAV l)), (5, .sl .fro 2 (dotsAV l)), (6, .i .i64 l.length), (7, .i .i64 i)]) (fun i => []) (fun i => i ≤ l.length ∧ ∀ k, k < i → rowOk l k = true) (fun i => l.length - i) [0, 5, 6, 7] [] 0 (by simp) (by simp) ?_)
  rintro i ⟨hi, hall⟩
  refine AWp.go [0, 5, 6, 7, 8] [] fun K hK => ?_
  simp
  first | refine hK _ _ ?_ | refine ⟨by omega, hK _ _ ?_⟩ | refine ⟨by omega, by omega, hK _ _ ?_⟩
  clear hK K
  refine AWp.seq ?_
  by_cases h : i < l.length
  · refine AWp.cond (t := true) (by first | (simp [h]; done) | (simp [h]; omega)) (fun _ => ?_) (by simp)
    refine AWp.skip ?_
    show AWp _ _ _ _
    refine AWp.seq ?_
    refine AWp.block ?_
    refine AWp.go [0, 3, 4, 5, 6, 7] [4] fun K hK => ?_
    simp [h]
    first | refine hK _ _ ?_ | refine ⟨by omega, hK _ _ ?_⟩ | refine ⟨by omega, by omega, hK _ _ ?_⟩
    clear hK K
    refine AWp.stepD 17 (fun k => if k = 1 then .b (mayD l[i]) else if k = 13 then .b (ltD (l.getD (i - 1) (0, 0)) l[i]) else .any) [0, 5, 6, 7, 28] [] [(0, .sl .fro 2 (dotsAV l)), (5, .sl .fro 2 (dotsAV l)), (6, .i .i64 l.length), (7, .i .i64 i), (28, .b (!rowOk l i))] [] mix (by kernel_rfl) ?_ ?_
    · have g1 := c_dots_May l[i]
      simp [dotC] at g1
      cases q1 : mayD l[i]
      · rw [q1] at g1
        simp [rowOk, h, q1, g1]
      rw [q1] at g1
      by_cases q3 : 0 < i
      · obtain ⟨j, rfl⟩ : ∃ j, i = j + 1 := ⟨i - 1, by omega⟩
        have hj : j < l.length := by omega
        have w2 : IntKind.i64.wrap (j : Int) = j := wrap64 (by omega) (by omega)
        have g3 := c_dots_Less l[j] l[j + 1]
        simp [dotC] at g3
        simp [rowOk, h, hj, q1, w2, g1]
        exact g3
      · simp [rowOk, h, q1, q3, g1]
    cases hp : rowOk l i
    · refine AWp.cond (t := true) (by simp) (fun _ => ?_) (by simp)
      refine AWp.go [2] [] fun K hK => ?_
      simp
      first | refine hK _ _ ?_ | refine ⟨by omega, hK _ _ ?_⟩ | refine ⟨by omega, by omega, hK _ _ ?_⟩
      clear hK K
      refine AWp.ret ?_
      simp [rowsB, range_not h hp]
    · refine AWp.cond (t := false) (by simp) (by simp) (fun _ => ?_)
      refine AWp.skip ?_
      show AWp _ _ _ _
      refine AWp.goLast [0, 5, 6, 7] [] fun K hK => ?_
      simp
      first | refine hK _ _ ?_ | refine ⟨by omega, hK _ _ ?_⟩ | refine ⟨by omega, by omega, hK _ _ ?_⟩
      clear hK K
      refine ⟨i + 1, ⟨by omega, fun k hk => ?_⟩, by omega, ?_⟩
      · by_cases hki : k = i
        · subst hki; exact hp
        · exact hall k (by omega)
      · simp
        exact wrap64 (by omega) (by omega)
  · refine AWp.cond (t := false) (by first | (simp [h]; done) | (simp [h]; omega)) (by simp) (fun _ => ?_)
    refine AWp.exit ?_
    show AWp _ _ _ _
    obtain rfl : i = l.length := by omega
    refine AWp.go [2] [] fun K hK => ?_
    simp
    first | refine hK _ _ ?_ | refine ⟨by omega, hK _ _ ?_⟩ | refine ⟨by omega, by omega, hK _ _ ?_⟩
    clear hK K
    refine AWp.ret ?_
    rw [rowsB, range_all hall]
    simp

/-- The document's rows. -/
def rowsR (l : List Dot) : Bool := l.all mayD && decide (ordD l = l)
theorem Sorted.of_adj {l : List Dot} (h : ∀ i (hi : i + 1 < l.length), LT (l[i]'(by omega)) l[i + 1]) : Sorted l := by
  induction l with
  | nil => exact List.Pairwise.nil
  | cons a l ih =>
    have hl : Sorted l := ih fun i hi => h (i + 1) (by simpa using hi)
    refine List.Pairwise.cons (fun b hb => ?_) hl
    match l, hl, hb, h with
    | c :: m, hl, hb, h =>
      have h0 : LT a c := by simpa using h 0 (by simp)
      rcases List.mem_cons.1 hb with rfl | hb
      · exact h0
      · exact h0.trans (List.rel_of_pairwise_cons hl hb)
theorem rowsB_iff (l : List Dot) : rowsB l = true ↔ (∀ d ∈ l, mayD d = true) ∧ Sorted l := by
  unfold rowsB
  rw [List.all_eq_true]
  constructor
  · intro h
    refine ⟨fun d hd => ?_, Sorted.of_adj fun i hi => ?_⟩
    · obtain ⟨k, hk, rfl⟩ := List.mem_iff_getElem.1 hd
      have := h k (by simpa using hk)
      simp [rowOk, hk] at this
      exact this.1
    · have := h (i + 1) (by simpa using hi)
      have hi' : i < l.length := by omega
      simp [rowOk, hi, hi'] at this
      exact (ltD_iff _ _).1 this.2
  · rintro ⟨h1, h2⟩ i hi
    have hi : i < l.length := by simpa using hi
    simp [rowOk, hi, h1 _ (List.getElem_mem hi)]
    by_cases h0 : i = 0
    · exact .inl h0
    · have hi' : i - 1 < l.length := by omega
      right
      simp [hi']
      exact (ltD_iff _ _).2 (List.pairwise_iff_getElem.1 h2 (i - 1) i hi' hi (by omega))
def lightE (e : Entry) : Bool := !decide ((100 : Int) < e.key.size) && !decide ((30 : Int) < e.live.length) && !decide ((30 : Int) < e.dead.length)
def lightB (s : List Entry) : Bool := s.all lightE && decide (s.length ≤ 30)

def Fine (s : List Entry) : Prop := s.length ≤ 1000000 ∧ ∀ e ∈ s, e.live.length ≤ 1000000 ∧ e.dead.length ≤ 1000000
/-- May an entry stand behind a key? -/
def entOk (p : ByteArray) (e : Entry) : Bool := keyOk e.key && !leK e.key p && !decide ((e.live.length : Int) + e.dead.length = 0) && rowsB e.live && rowsB e.dead
def prevK (s : List Entry) (i : Nat) : ByteArray := if i = 0 then ByteArray.empty else match s[i - 1]? with
  | some e => e.key
  | none => ByteArray.empty
def entAt (s : List Entry) (i : Nat) : Bool := match s[i]? with
  | some e => entOk (prevK s i) e
  | none => false
def setOk (s : List Entry) : Bool := decide ((s.length : Int) ≤ 4000) && (List.range s.length).all (entAt s)
theorem prevK_succ (s : List Entry) (i : Nat) (h : i < s.length) : prevK s (i + 1) = s[i].key := by simp [prevK, h]

set_option maxRecDepth 8000 in
set_option maxHeartbeats 2000000 in
theorem c_rwset_Check (s : List Entry) (hs : Fine s) : Pure Try.prog 15 [.sl .fro 3 (entsAV s)] (.i .i64 (if setOk s then 0 else 1)) := by
  refine proc_of (cx Try.prog 50 [0, 2, 3, 5, 8, 9, 10, 11, 12, 46] [2]) 49 [.tmp 2] Try.func15 rfl rfl rfl rfl rfl rfl (Nat.le_refl _) rfl ?_
  refine AWp.go [0] [] fun K hK => ?_
  simp
  first | refine hK _ _ ?_ | refine ⟨by omega, hK _ _ ?_⟩ | refine ⟨by omega, by omega, hK _ _ ?_⟩
  clear hK K
  refine AWp.seq ?_
  refine AWp.go [0, 8] [] fun K hK => ?_
  simp
  first | refine hK _ _ ?_ | refine ⟨by omega, hK _ _ ?_⟩ | refine ⟨by omega, by omega, hK _ _ ?_⟩
  clear hK K
  by_cases h : (4000 : Int) < s.length
  · refine AWp.cond (t := true) (by first | (simp [h]; done) | (simp [h]; omega)) (fun _ => ?_) (by simp)
    refine AWp.go [2] [] fun K hK => ?_
    simp
    first | refine hK _ _ ?_ | refine ⟨by omega, hK _ _ ?_⟩ | refine ⟨by omega, by omega, hK _ _ ?_⟩
    clear hK K
    refine AWp.ret ?_
    simp [setOk]
    omega
  · refine AWp.cond (t := false) (by first | (simp [h]; done) | (simp [h]; omega)) (by simp) (fun _ => ?_)
    refine AWp.skip ?_
    show AWp _ _ _ _
    refine AWp.go [0, 3] [] fun K hK => ?_
    simp
    first | refine hK _ _ ?_ | refine ⟨by omega, hK _ _ ?_⟩ | refine ⟨by omega, by omega, hK _ _ ?_⟩
    clear hK K
    refine AWp.seq ?_
    refine AWp.go [3, 9, 10, 11] [] fun K hK => ?_
    simp
    first | refine hK _ _ ?_ | refine ⟨by omega, hK _ _ ?_⟩ | refine ⟨by omega, by omega, hK _ _ ?_⟩
    clear hK K
    refine AWp.block (AWp.while (fun i : Nat => [(3, .s (prevK s i)), (9, .sl .fro 3 (entsAV s)), (10, .i .i64 s.length), (11, .i .i64 i)]) (fun i => []) (fun i => i ≤ s.length ∧ ∀ k, k < i → entAt s k = true) (fun i => s.length - i) [3, 9, 10, 11] [] 0 (by simp) (by simp [prevK]; rfl) ?_)
    rintro i ⟨hi, hall⟩
    refine AWp.go [3, 9, 10, 11, 12] [] fun K hK => ?_
    simp
    first | refine hK _ _ ?_ | refine ⟨by omega, hK _ _ ?_⟩ | refine ⟨by omega, by omega, hK _ _ ?_⟩
    clear hK K
    refine AWp.seq ?_
    by_cases h2 : i < s.length
    · refine AWp.cond (t := true) (by first | (simp [h2]; done) | (simp [h2]; omega)) (fun _ => ?_) (by simp)
      refine AWp.skip ?_
      show AWp _ _ _ _
      refine AWp.seq ?_
      refine AWp.block ?_
      refine AWp.go [3, 5, 9, 10, 11] [5] fun K hK => ?_
      simp [h2]
      first | refine hK _ _ ?_ | refine ⟨by omega, hK _ _ ?_⟩ | refine ⟨by omega, by omega, hK _ _ ?_⟩
      clear hK K
      refine AWp.seq ?_
      refine AWp.step [5, 9, 10, 11, 46] [5] [(5, .ptr 5 0), (9, .sl .fro 3 (entsAV s)), (10, .i .i64 s.length), (11, .i .i64 i), (46, .b (!entOk (prevK s i) s[i]))] [(5, [.s s[i].key, .sl .fro 2 (dotsAV s[i].live), .sl .fro 2 (dotsAV s[i].dead)])] ?_ ?_
      · have hl := hs.2 _ (List.getElem_mem h2)
        have g1 := c_rwset_right s[i].key
        have g2 := c_rwset_rows s[i].live hl.1
        have g3 := c_rwset_rows s[i].dead hl.2
        have w1 : IntKind.i64.wrap ((s[i].live.length : Int) + s[i].dead.length) = (s[i].live.length : Int) + s[i].dead.length := wrap64 (by omega) (by omega)
        simp
        refine call_pure g1 (by simp) ?_
        cases q1 : keyOk s[i].key
        · simp [entOk, q1]
        by_cases q2 : leK s[i].key (prevK s i) = true
        · have q3 := q2
          simp [leK, ltK, eqK] at q2
          rcases q2 with q2 | q2 <;> simp [entOk, q1, q2, q3]
        simp at q2
        have q3 := q2
        simp [leK, ltK, eqK] at q2
        by_cases q4 : (s[i].live.length : Int) + s[i].dead.length = 0
        · simp [entOk, q1, q2, q3, q4]
        simp [q2, q4, w1]
        refine call_pure g2 (by simp) ?_
        cases q5 : rowsB s[i].live
        · simp [entOk, q5]
        simp
        refine call_pure g3 (by simp) ?_
        simp [entOk, q1, q3, q4, q5]
      cases hp : entOk (prevK s i) s[i]
      · refine AWp.cond (t := true) (by simp) (fun _ => ?_) (by simp)
        refine AWp.go [2] [] fun K hK => ?_
        simp
        first | refine hK _ _ ?_ | refine ⟨by omega, hK _ _ ?_⟩ | refine ⟨by omega, by omega, hK _ _ ?_⟩
        clear hK K
        refine AWp.ret ?_
        simp [setOk, range_not (p := entAt s) h2 (by simp [entAt, h2, hp])]
      · refine AWp.cond (t := false) (by simp) (by simp) (fun _ => ?_)
        refine AWp.skip ?_
        show AWp _ _ _ _
        refine AWp.goLast [3, 9, 10, 11] [] fun K hK => ?_
        simp
        first | refine hK _ _ ?_ | refine ⟨by omega, hK _ _ ?_⟩ | refine ⟨by omega, by omega, hK _ _ ?_⟩
        clear hK K
        show AWp _ _ _ _
        refine AWp.goLast [3, 9, 10, 11] [] fun K hK => ?_
        simp
        first | refine hK _ _ ?_ | refine ⟨by omega, hK _ _ ?_⟩ | refine ⟨by omega, by omega, hK _ _ ?_⟩
        clear hK K
        refine ⟨i + 1, ⟨by omega, fun k hk => ?_⟩, by omega, ?_⟩
        · by_cases hki : k = i
          · subst hki; simp [entAt, h2, hp]
          · exact hall k (by omega)
        · simp [prevK_succ s i h2]
          exact wrap64 (by omega) (by omega)
    · refine AWp.cond (t := false) (by first | (simp [h2]; done) | (simp [h2]; omega)) (by simp) (fun _ => ?_)
      refine AWp.exit ?_
      show AWp _ _ _ _
      obtain rfl : i = s.length := by omega
      refine AWp.go [2] [] fun K hK => ?_
      simp
      first | refine hK _ _ ?_ | refine ⟨by omega, hK _ _ ?_⟩ | refine ⟨by omega, by omega, hK _ _ ?_⟩
      clear hK K
      refine AWp.ret ?_
      rw [setOk, range_all hall]
      simp
      omega
end Go.AM
namespace Go.AM
open Go.Proofs
def sameE (a b : Entry) : Bool := eqK a.key b.key && decide (a.live = b.live) && decide (a.dead = b.dead)
def sameB (a b : List Entry) : Bool := decide (a.length = b.length) && (List.range a.length).all fun i => match a[i]?, b[i]? with
  | some x, some y => sameE x y
  | _, _ => false

set_option maxRecDepth 8000 in
set_option maxHeartbeats 2000000 in
theorem c_ref08_Same (a b : List Entry) (ha : Fine a) (hb : Fine b) : Pure Try.prog 20 [.sl .fro 3 (entsAV a), .sl .fro 3 (entsAV b)] (.b (sameB a b)) := by
  refine proc_of (cx Try.prog 56 [0, 1, 4, 5, 10, 14, 55] [4]) 54 [.tmp 4] Try.func20 rfl rfl rfl rfl rfl rfl (Nat.le_refl _) rfl ?_
  refine AWp.go [0, 1] [] fun K hK => ?_
  simp
  first | refine hK _ _ ?_ | refine ⟨by omega, hK _ _ ?_⟩ | refine ⟨by omega, by omega, hK _ _ ?_⟩
  clear hK K
  refine AWp.seq ?_
  refine AWp.go [0, 1, 10] [] fun K hK => ?_
  simp
  first | refine hK _ _ ?_ | refine ⟨by omega, hK _ _ ?_⟩ | refine ⟨by omega, by omega, hK _ _ ?_⟩
  clear hK K
  by_cases hab : ¬ (a.length : Int) = b.length
  · refine AWp.cond (t := true) (by first | (simp [hab]; done) | (simp [hab]; omega)) (fun _ => ?_) (by simp)
    refine AWp.go [4] [] fun K hK => ?_
    simp
    first | refine hK _ _ ?_ | refine ⟨by omega, hK _ _ ?_⟩ | refine ⟨by omega, by omega, hK _ _ ?_⟩
    clear hK K
    refine AWp.ret ?_
    have : ¬ a.length = b.length := by omega
    simp [sameB, this]
  · refine AWp.cond (t := false) (by first | (simp; done) | (simp; omega)) (by simp) (fun _ => ?_)
    refine AWp.skip ?_
    show AWp _ _ _ _
    refine AWp.seq ?_
    refine AWp.go [0, 1, 5] [] fun K hK => ?_
    simp
    first | refine hK _ _ ?_ | refine ⟨by omega, hK _ _ ?_⟩ | refine ⟨by omega, by omega, hK _ _ ?_⟩
    clear hK K
    refine AWp.block (AWp.while (fun i : Nat => [(0, .sl .fro 3 (entsAV a)), (1, .sl .fro 3 (entsAV b)), (5, .i .i64 i)]) (fun i => []) (fun i => i ≤ a.length ∧ ∀ k, k < i → (match a[k]?, b[k]? with | some x, some y => sameE x y | _, _ => false) = true) (fun i => a.length - i) [0, 1, 5] [] 0 (by simp) (by simp) ?_)
    rintro i ⟨hi, hall⟩
    have hlen := ha.1
    have hab2 : a.length = b.length := by omega
    refine AWp.seq ?_
    refine AWp.go [0, 1, 5, 14] [] fun K hK => ?_
    simp
    first | refine hK _ _ ?_ | refine ⟨by omega, hK _ _ ?_⟩ | refine ⟨by omega, by omega, hK _ _ ?_⟩
    clear hK K
    by_cases h2 : i < a.length
    · refine AWp.cond (t := true) (by first | (simp [h2]; done) | (simp [h2]; omega)) (fun _ => ?_) (by simp)
      refine AWp.skip ?_
      show AWp _ _ _ _
      refine AWp.seq ?_
      refine AWp.block ?_
      refine AWp.stepD 39 (fun k => if k = 22 then .b (decide (a[i].live = (b[i]'(by omega)).live)) else if k = 36 then .b (decide (a[i].dead = (b[i]'(by omega)).dead)) else .any) [0, 1, 5, 55] [] [(0, .sl .fro 3 (entsAV a)), (1, .sl .fro 3 (entsAV b)), (5, .i .i64 i), (55, .b (!sameE a[i] (b[i]'(by omega))))] [] mix (by kernel_rfl) ?_ ?_
      · have hla := ha.2 _ (List.getElem_mem h2)
        have h3 : i < b.length := by omega
        have g2 := c_ref04_Dots a[i].live b[i].live (by omega)
        have g3 := c_ref04_Dots a[i].dead b[i].dead (by omega)
        by_cases q1 : a[i].key.toList = b[i].key.toList
        · by_cases q2 : a[i].live = b[i].live
          · rw [q2] at g2
            by_cases q3 : a[i].dead = b[i].dead
            · rw [q3] at g3
              simp at g2 g3
              simp [h2, h3, sameE, eqK, q1, q2, q3, g2, g3]
            · simp [q3] at g2 g3
              simp [h2, h3, sameE, eqK, q1, q2, q3, g2, g3]
          · simp [q2] at g2
            simp [h2, h3, sameE, eqK, q1, q2, g2]
        · have q1' : (a[i].key.toList == b[i].key.toList) = false := by simpa using q1
          simp [h2, h3, sameE, eqK, q1']
      cases hp : sameE a[i] (b[i]'(by omega))
      · refine AWp.cond (t := true) (by simp) (fun _ => ?_) (by simp)
        refine AWp.go [4] [] fun K hK => ?_
        simp
        first | refine hK _ _ ?_ | refine ⟨by omega, hK _ _ ?_⟩ | refine ⟨by omega, by omega, hK _ _ ?_⟩
        clear hK K
        refine AWp.ret ?_
        rw [sameB, range_not (i := i) h2 (by simp [h2, show i < b.length by omega, hp])]
        simp
      · refine AWp.cond (t := false) (by simp) (by simp) (fun _ => ?_)
        refine AWp.skip ?_
        show AWp _ _ _ _
        refine AWp.goLast [0, 1, 5] [] fun K hK => ?_
        simp
        first | refine hK _ _ ?_ | refine ⟨by omega, hK _ _ ?_⟩ | refine ⟨by omega, by omega, hK _ _ ?_⟩
        clear hK K
        refine ⟨i + 1, ⟨by omega, fun k hk => ?_⟩, by omega, ?_⟩
        · by_cases hki : k = i
          · subst hki; simp [h2, show k < b.length by omega, hp]
          · exact hall k (by omega)
        · simp
          exact wrap64 (by omega) (by omega)
    · refine AWp.cond (t := false) (by first | (simp [h2]; done) | (simp [h2]; omega)) (by simp) (fun _ => ?_)
      refine AWp.exit ?_
      show AWp _ _ _ _
      obtain rfl : i = a.length := by omega
      refine AWp.go [4] [] fun K hK => ?_
      simp
      first | refine hK _ _ ?_ | refine ⟨by omega, hK _ _ ?_⟩ | refine ⟨by omega, by omega, hK _ _ ?_⟩
      clear hK K
      refine AWp.ret ?_
      rw [sameB, range_all hall]
      simp [hab2]

def emptyE (k : ByteArray) : Entry := ⟨k, [], []⟩
theorem find_at {α : Type} {p : α → Bool} {l : List α} (i : Nat) (hi : i < l.length) (h0 : ∀ j (hj : j < i), p (l[j]'(by omega)) = false) (h1 : p l[i] = true) : l.find? p = some l[i] := by
  rw [List.find?_eq_some_iff_getElem]
  exact ⟨h1, i, hi, rfl, fun j hj => by simp [h0 j hj]⟩
def getE (s : List Entry) (k : ByteArray) : Entry := (s.find? fun e => eqK e.key k).getD (emptyE k)

theorem leftD_len (l : List Dot) (c : List Int) : (leftD l c).length ≤ l.length := List.length_filter_le _ _

end Go.AM
namespace Go.AM
open Go.Proofs

structure Eff where
  kind : Int
  thing : Int
  key : ByteArray
  num : Int
  dest : Int
  word : ByteArray
def effC (x : Eff) : List AV := [.i .i64 x.kind, .i .i64 x.thing, .s x.key, .i .i64 x.num, .i .i64 x.dest, .s x.word]
def effsAV (l : List Eff) : List (List AV) := l.map effC
@[simp] theorem effsAV_length (l : List Eff) : (effsAV l).length = l.length := by simp [effsAV]
@[simp] theorem effsAV_getElem (l : List Eff) (i : Nat) (h : i < (effsAV l).length) : (effsAV l)[i] = [.i .i64 (l[i]'(by simpa using h)).kind, .i .i64 (l[i]'(by simpa using h)).thing, .s (l[i]'(by simpa using h)).key, .i .i64 (l[i]'(by simpa using h)).num, .i .i64 (l[i]'(by simpa using h)).dest, .s (l[i]'(by simpa using h)).word] := by simp [effsAV, effC]
structure Ev where
  dot : Dot
  past : List Int
  effs : List Eff
def evC (e : Ev) : List AV := [.i .i64 e.dot.1, .i .i64 e.dot.2, .sl .fro 1 (intsAV e.past), .sl .fro 6 (effsAV e.effs)]
def evsAV (l : List Ev) : List (List AV) := l.map evC
@[simp] theorem evsAV_length (l : List Ev) : (evsAV l).length = l.length := by simp [evsAV]
@[simp] theorem evsAV_getElem (l : List Ev) (i : Nat) (h : i < (evsAV l).length) : (evsAV l)[i] = [.i .i64 (l[i]'(by simpa using h)).dot.1, .i .i64 (l[i]'(by simpa using h)).dot.2, .sl .fro 1 (intsAV (l[i]'(by simpa using h)).past), .sl .fro 6 (effsAV (l[i]'(by simpa using h)).effs)] := by simp [evsAV, evC]

def effA (x : Eff) : Bool := !eqK x.key ByteArray.empty && !decide ((32 : Int) < x.key.size) && !decide (x.thing < 0) && !decide (15 < x.thing) && !decide (x.kind < 1) && !decide (6 < x.kind)
def effM (x : Eff) : Bool := decide (x.kind = 3) || decide (x.kind = 4) || decide (x.kind = 5)
def effN (x : Eff) : Bool := effM x && (decide (x.num < 1) || decide (1000 < x.num)) || !effM x && !decide (x.num = 0)
def effT (x : Eff) : Bool := decide (x.kind = 5) && (decide (x.dest < 1) || decide (5 < x.dest)) || !decide (x.kind = 5) && !decide (x.dest = 0)
def effW (x : Eff) : Bool := eqK x.word ByteArray.empty || decide (x.kind = 6) && decide ((x.word.size : Int) ≤ 64)
def effOk (x : Eff) : Bool := effA x && !effN x && !effT x && effW x
theorem effOk_key {x : Eff} (h : effOk x = true) : keyOk x.key = true := by
  simp only [effOk, effA, Bool.and_eq_true, Bool.not_eq_true', decide_eq_false_iff_not] at h
  simp only [keyOk, Bool.and_eq_true, Bool.not_eq_true', decide_eq_true_eq]
  exact ⟨h.1.1.1.1.1.1.1.1, by omega⟩

set_option maxRecDepth 8000 in
set_option maxHeartbeats 2000000 in
theorem c_ref05_MayEffect (x : Eff) : Pure Try.prog 116 [.agg (effC x)] (.b (effOk x)) := by
  refine proc_of (cx Try.prog 103 [1, 2, 3, 32, 65, 88] [2]) 102 [.tmp 2] Try.func116 rfl rfl rfl rfl rfl rfl (Nat.le_refl _) rfl ?_
  refine AWp.go [1] [1] fun K hK => ?_
  simp [effC]
  first | refine hK _ _ ?_ | refine ⟨by omega, hK _ _ ?_⟩ | refine ⟨by omega, by omega, hK _ _ ?_⟩
  clear hK K
  refine AWp.seq ?_
  refine AWp.step [1, 32] [1] [(1, .ptr 1 0), (32, .b (!effA x))] [(1, [.i .i64 x.kind, .i .i64 x.thing, .s x.key, .i .i64 x.num, .i .i64 x.dest, .s x.word])] ?_ ?_
  · by_cases q1 : x.key.toList = []
    · simp [q1, effA, eqK]
    by_cases q2 : (32 : Int) < x.key.size
    · simp [q1, q2, effA, eqK]
    by_cases q3 : x.thing < 0
    · simp [q1, q2, q3, effA, eqK]
    by_cases q4 : 15 < x.thing
    · simp [q1, q2, q3, q4, effA, eqK]
    by_cases q5 : x.kind < 1
    · simp [q1, q2, q3, q4, q5, effA, eqK]
    · simp [q1, q2, q3, q4, q5, effA, eqK]
  cases hA : effA x
  · refine AWp.cond (t := true) (by simp) (fun _ => ?_) (by simp)
    refine AWp.go [2] [] fun K hK => ?_
    simp
    first | refine hK _ _ ?_ | refine ⟨by omega, hK _ _ ?_⟩ | refine ⟨by omega, by omega, hK _ _ ?_⟩
    clear hK K
    refine AWp.ret ?_
    simp [effOk, hA]
  · refine AWp.cond (t := false) (by simp) (by simp) (fun _ => ?_)
    refine AWp.skip ?_
    show AWp _ _ _ _
    refine AWp.step [1, 3] [1] [(1, .ptr 1 0), (3, .b (effM x))] [(1, [.i .i64 x.kind, .i .i64 x.thing, .s x.key, .i .i64 x.num, .i .i64 x.dest, .s x.word])] ?_ ?_
    · by_cases q1 : x.kind = 3
      · simp [q1, effM]
      by_cases q2 : x.kind = 4
      · simp [q2, effM]
      · simp [q1, q2, effM]
    refine AWp.seq ?_
    refine AWp.step [1, 65] [1] [(1, .ptr 1 0), (65, .b (effN x))] [(1, [.i .i64 x.kind, .i .i64 x.thing, .s x.key, .i .i64 x.num, .i .i64 x.dest, .s x.word])] ?_ ?_
    · cases q0 : effM x
      · simp [q0, effN]
      by_cases q1 : x.num < 1
      · simp [q0, q1, effN]
      by_cases q2 : 1000 < x.num
      · simp [q0, q1, q2, effN]
      · simp [q0, q1, q2, effN]
    cases hN : effN x
    · refine AWp.cond (t := false) (by simp) (by simp) (fun _ => ?_)
      refine AWp.skip ?_
      show AWp _ _ _ _
      refine AWp.seq ?_
      refine AWp.step [1, 88] [1] [(1, .ptr 1 0), (88, .b (effT x))] [(1, [.i .i64 x.kind, .i .i64 x.thing, .s x.key, .i .i64 x.num, .i .i64 x.dest, .s x.word])] ?_ ?_
      · by_cases q0 : x.kind = 5
        · by_cases q1 : x.dest < 1
          · simp [q0, q1, effT]
          by_cases q2 : 5 < x.dest
          · simp [q0, q1, q2, effT]
          · simp [q0, q1, q2, effT]
        · simp [q0, effT]
      cases hT : effT x
      · refine AWp.cond (t := false) (by simp) (by simp) (fun _ => ?_)
        refine AWp.skip ?_
        show AWp _ _ _ _
        refine AWp.step [2] [] [(2, .b (effW x))] [] ?_ ?_
        · by_cases q1 : x.word.toList = []
          · simp [q1, effW, eqK]
          by_cases q2 : x.kind = 6
          · simp [q1, q2, effW, eqK]
          · simp [q1, q2, effW, eqK]
        refine AWp.ret ?_
        simp [effOk, hA, hN, hT]
      · refine AWp.cond (t := true) (by simp) (fun _ => ?_) (by simp)
        refine AWp.go [2] [] fun K hK => ?_
        simp
        first | refine hK _ _ ?_ | refine ⟨by omega, hK _ _ ?_⟩ | refine ⟨by omega, by omega, hK _ _ ?_⟩
        clear hK K
        refine AWp.ret ?_
        simp [effOk, hT]
    · refine AWp.cond (t := true) (by simp) (fun _ => ?_) (by simp)
      refine AWp.go [2] [] fun K hK => ?_
      simp
      first | refine hK _ _ ?_ | refine ⟨by omega, hK _ _ ?_⟩ | refine ⟨by omega, by omega, hK _ _ ?_⟩
      clear hK K
      refine AWp.ret ?_
      simp [effOk, hN]

def withinTo (a b : List Int) (i : Nat) : Bool := (List.range i).all fun k => decide (getC a ((k : Int) + 1) ≤ getC b ((k : Int) + 1))
def withinB (a b : List Int) : Bool := withinTo a b 5

set_option maxRecDepth 8000 in
theorem c_ref03_Within (a b : List Int) (ha : a.length ≤ 140737488355328) (hb : b.length ≤ 140737488355328) : Pure Try.prog 68 [.sl .fro 1 (intsAV a), .sl .fro 1 (intsAV b)] (.b (withinB a b)) := by
  refine proc_of (cx Try.prog 17 [0, 1, 4, 5, 7, 16] [4]) 15 [.tmp 4] Try.func68 rfl rfl rfl rfl rfl rfl (Nat.le_refl _) rfl ?_
  refine AWp.go [0, 1] [] fun K hK => ?_
  simp
  first | refine hK _ _ ?_ | refine ⟨by omega, hK _ _ ?_⟩ | refine ⟨by omega, by omega, hK _ _ ?_⟩
  clear hK K
  refine AWp.seq ?_
  refine AWp.go [0, 1, 5] [] fun K hK => ?_
  simp
  first | refine hK _ _ ?_ | refine ⟨by omega, hK _ _ ?_⟩ | refine ⟨by omega, by omega, hK _ _ ?_⟩
  clear hK K
  refine AWp.block (AWp.while (fun i : Nat => [(0, .sl .fro 1 (intsAV a)), (1, .sl .fro 1 (intsAV b)), (5, .i .i64 (i + 1))]) (fun i => []) (fun i => i ≤ 5 ∧ ∀ k, k < i → decide (getC a ((k : Int) + 1) ≤ getC b ((k : Int) + 1)) = true) (fun i => 5 - i) [0, 1, 5] [] 0 (by simp) (by simp) ?_)
  rintro i ⟨hi, hall⟩
  refine AWp.seq ?_
  refine AWp.go [0, 1, 5, 7] [] fun K hK => ?_
  simp
  first | refine hK _ _ ?_ | refine ⟨by omega, hK _ _ ?_⟩ | refine ⟨by omega, by omega, hK _ _ ?_⟩
  clear hK K
  by_cases h : i < 5
  · refine AWp.cond (t := true) (by first | (simp; done) | (simp; omega)) (fun _ => ?_) (by simp)
    refine AWp.skip ?_
    show AWp _ _ _ _
    refine AWp.seq ?_
    refine AWp.block ?_
    refine AWp.go [0, 1, 5, 16] [] fun K hK => ?_
    simp
    refine call_pure (c_ref03_Get a (i + 1) ha) (by simp) ?_
    simp
    refine call_pure (c_ref03_Get b (i + 1) hb) (by simp) ?_
    simp
    first | refine hK _ _ ?_ | refine ⟨by omega, hK _ _ ?_⟩ | refine ⟨by omega, by omega, hK _ _ ?_⟩
    clear hK K
    by_cases hp : getC b (i + 1) < getC a (i + 1)
    · refine AWp.cond (t := true) (by first | (simp [hp]; done) | (simp [hp]; omega)) (fun _ => ?_) (by simp)
      refine AWp.go [4] [] fun K hK => ?_
      simp
      first | refine hK _ _ ?_ | refine ⟨by omega, hK _ _ ?_⟩ | refine ⟨by omega, by omega, hK _ _ ?_⟩
      clear hK K
      refine AWp.ret ?_
      have : withinB a b = false := by
        unfold withinB withinTo
        exact range_not h (by simp; omega)
      simp [this]
    · refine AWp.cond (t := false) (by first | (simp [hp]; done) | (simp [hp]; omega)) (by simp) (fun _ => ?_)
      refine AWp.skip ?_
      show AWp _ _ _ _
      refine AWp.goLast [0, 1, 5] [] fun K hK => ?_
      simp
      first | refine hK _ _ ?_ | refine ⟨by omega, hK _ _ ?_⟩ | refine ⟨by omega, by omega, hK _ _ ?_⟩
      clear hK K
      refine ⟨i + 1, ⟨by omega, fun k hk => ?_⟩, by omega, ?_⟩
      · by_cases hki : k = i
        · subst hki; simp; omega
        · exact hall k (by omega)
      · simp
        exact wrap64 (by omega) (by omega)
  · refine AWp.cond (t := false) (by first | (simp; done) | (simp; omega)) (by simp) (fun _ => ?_)
    refine AWp.exit ?_
    show AWp _ _ _ _
    obtain rfl : i = 5 := by omega
    refine AWp.go [4] [] fun K hK => ?_
    simp
    first | refine hK _ _ ?_ | refine ⟨by omega, hK _ _ ?_⟩ | refine ⟨by omega, by omega, hK _ _ ?_⟩
    clear hK K
    refine AWp.ret ?_
    have : withinB a b = true := by
      unfold withinB withinTo
      exact range_all hall
    simp [this]

def minC (a b : List Int) (k : Int) : Int := if getC a k < getC b k then getC a k else getC b k
def meetC (a b : List Int) : List Int := plainL (ofL ((List.range 5).map fun k : Nat => minC a b ((k : Int) + 1)))

set_option maxRecDepth 8000 in
theorem c_ref03_Meet (a b : List Int) (ha : a.length ≤ 140737488355328) (hb : b.length ≤ 140737488355328) : Pure Try.prog 71 [.sl .fro 1 (intsAV a), .sl .fro 1 (intsAV b)] (.sl .own 1 (intsAV (meetC a b))) := by
  refine proc_of (cx Try.prog 33 [0, 1, 4, 5, 6, 9, 18] [4]) 31 [.tmp 4] Try.func71 rfl rfl rfl rfl rfl rfl (Nat.le_refl _) rfl ?_
  refine AWp.go [0, 1] [] fun K hK => ?_
  simp
  first | refine hK _ _ ?_ | refine ⟨by omega, hK _ _ ?_⟩ | refine ⟨by omega, by omega, hK _ _ ?_⟩
  clear hK K
  refine AWp.go [0, 1, 5] [] fun K hK => ?_
  simp
  first | refine hK _ _ ?_ | refine ⟨by omega, hK _ _ ?_⟩ | refine ⟨by omega, by omega, hK _ _ ?_⟩
  clear hK K
  refine AWp.seq ?_
  refine AWp.go [0, 1, 5, 6] [] fun K hK => ?_
  simp
  first | refine hK _ _ ?_ | refine ⟨by omega, hK _ _ ?_⟩ | refine ⟨by omega, by omega, hK _ _ ?_⟩
  clear hK K
  refine AWp.block (AWp.while (fun i : Nat => [(0, .sl .fro 1 (intsAV a)), (1, .sl .fro 1 (intsAV b)), (5, .sl .own 1 (intsAV ((List.range i).map fun k : Nat => minC a b ((k : Int) + 1)))), (6, .i .i64 (i + 1))]) (fun i => []) (fun i => i ≤ 5) (fun i => 5 - i) [0, 1, 5, 6] [] 0 (by simp) (by simp) ?_)
  intro i hi
  refine AWp.seq ?_
  refine AWp.go [0, 1, 5, 6, 9] [] fun K hK => ?_
  simp
  first | refine hK _ _ ?_ | refine ⟨by omega, hK _ _ ?_⟩ | refine ⟨by omega, by omega, hK _ _ ?_⟩
  clear hK K
  by_cases h : i < 5
  · refine AWp.cond (t := true) (by first | (simp; done) | (simp; omega)) (fun _ => ?_) (by simp)
    have w1 : IntKind.i64.wrap ((i : Int) + 1 + 1) = i + 1 + 1 := wrap64 (by omega) (by omega)
    refine AWp.skip ?_
    show AWp _ _ _ _
    refine AWp.seq ?_
    refine AWp.block ?_
    refine AWp.go [0, 1, 5, 6, 18] [] fun K hK => ?_
    simp
    refine call_pure (c_ref03_Get a (i + 1) ha) (by simp) ?_
    simp
    refine call_pure (c_ref03_Get b (i + 1) hb) (by simp) ?_
    simp
    first | refine hK _ _ ?_ | refine ⟨by omega, hK _ _ ?_⟩ | refine ⟨by omega, by omega, hK _ _ ?_⟩
    clear hK K
    by_cases hp : getC a (i + 1) < getC b (i + 1)
    · refine AWp.cond (t := true) (by first | (simp [hp]; done) | (simp [hp]; omega)) (fun _ => ?_) (by simp)
      refine AWp.goLast [0, 1, 5, 6] [] fun K hK => ?_
      simp
      refine call_pure (c_ref03_Get a (i + 1) ha) (by simp) ?_
      simp
      first | refine hK _ _ ?_ | refine ⟨by omega, hK _ _ ?_⟩ | refine ⟨by omega, by omega, hK _ _ ?_⟩
      clear hK K
      show AWp _ _ _ _
      refine AWp.goLast [0, 1, 5, 6] [] fun K hK => ?_
      simp
      first | refine hK _ _ ?_ | refine ⟨by omega, hK _ _ ?_⟩ | refine ⟨by omega, by omega, hK _ _ ?_⟩
      clear hK K
      refine ⟨i + 1, by omega, by omega, ?_⟩
      simp [List.range_succ, w1, minC, hp]
    · refine AWp.cond (t := false) (by first | (simp [hp]; done) | (simp [hp]; omega)) (by simp) (fun _ => ?_)
      refine AWp.goLast [0, 1, 5, 6] [] fun K hK => ?_
      simp
      refine call_pure (c_ref03_Get b (i + 1) hb) (by simp) ?_
      simp
      first | refine hK _ _ ?_ | refine ⟨by omega, hK _ _ ?_⟩ | refine ⟨by omega, by omega, hK _ _ ?_⟩
      clear hK K
      show AWp _ _ _ _
      refine AWp.goLast [0, 1, 5, 6] [] fun K hK => ?_
      simp
      first | refine hK _ _ ?_ | refine ⟨by omega, hK _ _ ?_⟩ | refine ⟨by omega, by omega, hK _ _ ?_⟩
      clear hK K
      refine ⟨i + 1, by omega, by omega, ?_⟩
      simp [List.range_succ, w1, minC, hp]
  · refine AWp.cond (t := false) (by first | (simp; done) | (simp; omega)) (by simp) (fun _ => ?_)
    refine AWp.exit ?_
    show AWp _ _ _ _
    obtain rfl : i = 5 := by omega
    refine AWp.go [4] [] fun K hK => ?_
    simp
    refine call_pure (c_ref03_Plain ((List.range 5).map fun k : Nat => minC a b ((k : Int) + 1)) (by simp)) (by simp) ?_
    simp
    first | refine hK _ _ ?_ | refine ⟨by omega, hK _ _ ?_⟩ | refine ⟨by omega, by omega, hK _ _ ?_⟩
    clear hK K
    refine AWp.ret ?_
    simp [meetC]

/-- An event of a dot among events. -/
def findB (l : List Ev) (d : Dot) : Bool := l.any fun e => decide (e.dot = d)

set_option maxRecDepth 8000 in
theorem c_ref05_find (l : List Ev) (d : Dot) (hlen : l.length ≤ 140737488355328) : Pure Try.prog 101 [.sl .fro 4 (evsAV l), .agg (dotC d)] (.b (findB l d)) := by
  refine proc_of (cx Try.prog 19 [0, 3, 4, 5, 9, 18] [4]) 17 [.tmp 4] Try.func101 rfl rfl rfl rfl rfl rfl (Nat.le_refl _) rfl ?_
  refine AWp.go [0, 3] [3] fun K hK => ?_
  simp [dotC]
  first | refine hK _ _ ?_ | refine ⟨by omega, hK _ _ ?_⟩ | refine ⟨by omega, by omega, hK _ _ ?_⟩
  clear hK K
  refine AWp.seq ?_
  refine AWp.go [0, 3, 5] [3] fun K hK => ?_
  simp
  first | refine hK _ _ ?_ | refine ⟨by omega, hK _ _ ?_⟩ | refine ⟨by omega, by omega, hK _ _ ?_⟩
  clear hK K
  refine AWp.block (AWp.while (fun i : Nat => [(0, .sl .fro 4 (evsAV l)), (3, .ptr 3 0), (5, .i .i64 i)]) (fun i => [(3, [.i .i64 d.1, .i .i64 d.2])]) (fun i => i ≤ l.length ∧ ∀ k (hk : k < i) (hk2 : k < l.length), decide (l[k].dot = d) = false) (fun i => l.length - i) [0, 3, 5] [3] 0 (by simp) (by simp) ?_)
  rintro i ⟨hi, hall⟩
  refine AWp.seq ?_
  refine AWp.go [0, 3, 5, 9] [3] fun K hK => ?_
  simp
  first | refine hK _ _ ?_ | refine ⟨by omega, hK _ _ ?_⟩ | refine ⟨by omega, by omega, hK _ _ ?_⟩
  clear hK K
  by_cases h : i < l.length
  · refine AWp.cond (t := true) (by first | (simp [h]; done) | (simp [h]; omega)) (fun _ => ?_) (by simp)
    refine AWp.skip ?_
    show AWp _ _ _ _
    refine AWp.seq ?_
    refine AWp.block ?_
    refine AWp.goD 7 (fun _ => .any) [0, 3, 5, 18] [3] mix (by kernel_rfl) fun K hK => ?_
    simp [h]
    first | refine hK _ _ ?_ | refine ⟨by omega, hK _ _ ?_⟩ | refine ⟨by omega, by omega, hK _ _ ?_⟩
    clear hK K
    by_cases hp : l[i].dot = d
    · refine AWp.cond (t := true) (by simp [Prod.ext_iff] at hp ⊢; omega) (fun _ => ?_) (by simp)
      refine AWp.go [4] [] fun K hK => ?_
      simp
      first | refine hK _ _ ?_ | refine ⟨by omega, hK _ _ ?_⟩ | refine ⟨by omega, by omega, hK _ _ ?_⟩
      clear hK K
      refine AWp.ret ?_
      have : findB l d = true := any_of h (by simpa using hp)
      simp [this]
    · refine AWp.cond (t := false) (by simp [Prod.ext_iff] at hp ⊢; omega) (by simp) (fun _ => ?_)
      refine AWp.skip ?_
      show AWp _ _ _ _
      refine AWp.goLast [0, 3, 5] [3] fun K hK => ?_
      simp
      first | refine hK _ _ ?_ | refine ⟨by omega, hK _ _ ?_⟩ | refine ⟨by omega, by omega, hK _ _ ?_⟩
      clear hK K
      refine ⟨i + 1, ⟨by omega, fun k hk hk2 => ?_⟩, by omega, ?_⟩
      · by_cases hki : k = i
        · subst hki; simpa using hp
        · exact hall k (by omega) hk2
      · simp
        exact wrap64 (by omega) (by omega)
  · refine AWp.cond (t := false) (by first | (simp [h]; done) | (simp [h]; omega)) (by simp) (fun _ => ?_)
    refine AWp.exit ?_
    show AWp _ _ _ _
    refine AWp.go [4] [] fun K hK => ?_
    simp
    first | refine hK _ _ ?_ | refine ⟨by omega, hK _ _ ?_⟩ | refine ⟨by omega, by omega, hK _ _ ?_⟩
    clear hK K
    refine AWp.ret ?_
    have : findB l d = false := any_not fun k hk => hall k (by omega) hk
    simp [this]

def aheadB (a b : Ev) : Bool := mayD a.dot && decide (a.dot.2 ≤ getC b.past a.dot.1)

set_option maxRecDepth 8000 in
theorem c_ref05_Ahead (a b : Ev) (hb : b.past.length ≤ 140737488355328) : Pure Try.prog 67 [.agg (evC a), .agg (evC b)] (.b (aheadB a b)) := by
  refine proc_of (cx Try.prog 20 [2, 3, 4] [4]) 18 [.tmp 4] Try.func67 rfl rfl rfl rfl rfl rfl (Nat.le_refl _) rfl ?_
  refine AWp.go [2, 3] [2, 3] fun K hK => ?_
  simp [evC]
  first | refine hK _ _ ?_ | refine ⟨by omega, hK _ _ ?_⟩ | refine ⟨by omega, by omega, hK _ _ ?_⟩
  clear hK K
  refine AWp.stepD 16 (fun k => if k = 2 then .b (mayD a.dot) else if k = 9 then .i .i64 (getC b.past a.dot.1) else .any) [4] [] [(4, .b (aheadB a b))] [] mix (by kernel_rfl) ?_ ?_
  · have g1 := c_ref04_May a.dot
    have g2 := c_ref03_Get b.past a.dot.1 hb
    simp [dotC] at g1
    cases q1 : mayD a.dot
    · rw [q1] at g1
      simp [aheadB, q1, g1]
    · rw [q1] at g1
      simp [aheadB, q1, g1, g2]
  refine AWp.ret ?_
  simp

set_option maxRecDepth 8000 in
theorem c_ref03_MayW (l : List Int) (hlen : l.length ≤ 9223372036854775807) : Pure Try.prog 18 [.sl .fro 1 (intsAV l)] (.b (clockOk l)) := by
  refine proc_of (cx Try.prog 25 [0, 2, 3, 7, 21] [2]) 24 [.tmp 2] Try.func18 rfl rfl rfl rfl rfl rfl (Nat.le_refl _) rfl ?_
  refine AWp.go [0] [] fun K hK => ?_
  simp
  first | refine hK _ _ ?_ | refine ⟨by omega, hK _ _ ?_⟩ | refine ⟨by omega, by omega, hK _ _ ?_⟩
  clear hK K
  refine AWp.seq ?_
  refine AWp.go [0, 3] [] fun K hK => ?_
  simp
  first | refine hK _ _ ?_ | refine ⟨by omega, hK _ _ ?_⟩ | refine ⟨by omega, by omega, hK _ _ ?_⟩
  clear hK K
  refine AWp.block (AWp.while (fun i : Nat => [(0, .sl .fro 1 (intsAV l)), (3, .i .i64 i)]) (fun i => []) (fun i => i ≤ l.length ∧ ∀ k (hk : k < i) (hk2 : k < l.length), badN l[k] = false) (fun i => l.length - i) [0, 3] [] 0 (by simp) (by simp) ?_)
  rintro i ⟨hi, hall⟩
  refine AWp.seq ?_
  refine AWp.go [0, 3, 7] [] fun K hK => ?_
  simp
  first | refine hK _ _ ?_ | refine ⟨by omega, hK _ _ ?_⟩ | refine ⟨by omega, by omega, hK _ _ ?_⟩
  clear hK K
  by_cases h : i < l.length
  · refine AWp.cond (t := true) (by first | (simp [h]; done) | (simp [h]; omega)) (fun _ => ?_) (by simp)
    refine AWp.skip ?_
    show AWp _ _ _ _
    refine AWp.seq ?_
    refine AWp.block ?_
    refine AWp.step [0, 3, 21] [] [(0, .sl .fro 1 (intsAV l)), (3, .i .i64 i), (21, .b (badN l[i]))] [] ?_ ?_
    · by_cases h1 : l[i] < 0 <;> simp [h, h1, badN]
    cases hp : badN l[i]
    · refine AWp.cond (t := false) (by simp) (by simp) (fun _ => ?_)
      refine AWp.skip ?_
      show AWp _ _ _ _
      refine AWp.goLast [0, 3] [] fun K hK => ?_
      simp
      first | refine hK _ _ ?_ | refine ⟨by omega, hK _ _ ?_⟩ | refine ⟨by omega, by omega, hK _ _ ?_⟩
      clear hK K
      refine ⟨i + 1, ⟨by omega, fun k hk hk2 => ?_⟩, by omega, ?_⟩
      · by_cases hki : k = i
        · subst hki; exact hp
        · exact hall k (by omega) hk2
      · simp
        exact wrap64 (by omega) (by omega)
    · refine AWp.cond (t := true) (by simp) (fun _ => ?_) (by simp)
      refine AWp.go [2] [] fun K hK => ?_
      simp
      first | refine hK _ _ ?_ | refine ⟨by omega, hK _ _ ?_⟩ | refine ⟨by omega, by omega, hK _ _ ?_⟩
      clear hK K
      refine AWp.ret ?_
      simp [clockOk, any_of h hp]
  · refine AWp.cond (t := false) (by first | (simp [h]; done) | (simp [h]; omega)) (by simp) (fun _ => ?_)
    refine AWp.exit ?_
    show AWp _ _ _ _
    refine AWp.go [2] [] fun K hK => ?_
    simp
    first | refine hK _ _ ?_ | refine ⟨by omega, hK _ _ ?_⟩ | refine ⟨by omega, by omega, hK _ _ ?_⟩
    clear hK K
    refine AWp.ret ?_
    rw [clockOk, any_not fun k hk => hall k (by omega) hk]
    simp
    omega

def evA (e : Ev) : Bool := mayD e.dot && clockOk e.past && decide (plainL (ofL e.past) = e.past) && decide (getC e.past e.dot.1 + 1 = e.dot.2)
def evOk (e : Ev) : Bool := evA e && e.effs.all effOk && decide ((1 : Int) ≤ e.effs.length) && decide ((e.effs.length : Int) ≤ 16)

set_option maxRecDepth 8000 in
set_option maxHeartbeats 2000000 in
theorem c_ref05_May (e : Ev) (hp : e.past.length ≤ 9223372036854775807) (he : e.effs.length ≤ 9223372036854775807) : Pure Try.prog 100 [.agg (evC e)] (.b (evOk e)) := by
  refine proc_of (cx Try.prog 60 [1, 2, 3, 35, 40, 49] [2]) 59 [.tmp 2] Try.func100 rfl rfl rfl rfl rfl rfl (Nat.le_refl _) rfl ?_
  refine AWp.go [1] [1] fun K hK => ?_
  simp [evC]
  first | refine hK _ _ ?_ | refine ⟨by omega, hK _ _ ?_⟩ | refine ⟨by omega, by omega, hK _ _ ?_⟩
  clear hK K
  refine AWp.seq ?_
  refine AWp.stepD 32 (fun k => if k = 2 then .b (mayD e.dot) else if k = 7 then .b (clockOk e.past) else if k = 13 then .sl .fro 1 (intsAV (plainL (ofL e.past))) else if k = 16 then .b (decide (plainL (ofL e.past) = e.past)) else if k = 25 then .i .i64 (getC e.past e.dot.1) else .any) [1, 35] [1] [(1, .ptr 1 0), (35, .b (!evA e))] [(1, [.i .i64 e.dot.1, .i .i64 e.dot.2, .sl .fro 1 (intsAV e.past), .sl .fro 6 (effsAV e.effs)])] mix (by kernel_rfl) ?_ ?_
  · have g1 := c_ref04_May e.dot
    have g2 := c_ref03_MayW e.past hp
    simp [dotC] at g1
    cases q1 : mayD e.dot
    · rw [q1] at g1
      simp [evA, q1, g1]
    rw [q1] at g1
    cases q2 : clockOk e.past
    · rw [q2] at g2
      simp [evA, q1, q2, g1, g2]
    rw [q2] at g2
    have hl := clockOk_len q2
    have g3 := (c_ref03_Plain e.past (by omega)).fro
    have g4 := c_ref03_Same (plainL (ofL e.past)) e.past (by have := refP_len (ofL e.past) 5; rw [refP_plain] at this; omega)
    have g5 := c_ref03_Get e.past e.dot.1 (by omega)
    have hr := getC_range e.past e.dot.1
    have w1 : IntKind.i64.wrap (getC e.past e.dot.1 + 1) = getC e.past e.dot.1 + 1 := wrap64 (by omega) (by omega)
    simp at g3
    by_cases q3 : plainL (ofL e.past) = e.past
    · simp [q3] at g4 g3
      simp [evA, q1, q2, q3, g1, g2, g3, g4, g5, w1]
    · simp [q3] at g4
      simp [evA, q1, q2, q3, g1, g2, g3, g4]
  cases hA : evA e
  · refine AWp.cond (t := true) (by simp) (fun _ => ?_) (by simp)
    refine AWp.go [2] [] fun K hK => ?_
    simp
    first | refine hK _ _ ?_ | refine ⟨by omega, hK _ _ ?_⟩ | refine ⟨by omega, by omega, hK _ _ ?_⟩
    clear hK K
    refine AWp.ret ?_
    simp [evOk, hA]
  · refine AWp.cond (t := false) (by simp) (by simp) (fun _ => ?_)
    refine AWp.skip ?_
    show AWp _ _ _ _
    refine AWp.seq ?_
    refine AWp.go [1, 3] [1] fun K hK => ?_
    simp
    first | refine hK _ _ ?_ | refine ⟨by omega, hK _ _ ?_⟩ | refine ⟨by omega, by omega, hK _ _ ?_⟩
    clear hK K
    refine AWp.block (AWp.while (fun i : Nat => [(1, .ptr 1 0), (3, .i .i64 i)]) (fun i => [(1, [.i .i64 e.dot.1, .i .i64 e.dot.2, .sl .fro 1 (intsAV e.past), .sl .fro 6 (effsAV e.effs)])]) (fun i => i ≤ e.effs.length ∧ ∀ k (hk : k < i) (hk2 : k < e.effs.length), effOk e.effs[k] = true) (fun i => e.effs.length - i) [1, 3] [1] 0 (by simp) (by simp) ?_)
    rintro i ⟨hi, hall⟩
    refine AWp.seq ?_
    refine AWp.go [1, 3, 40] [1] fun K hK => ?_
    simp
    first | refine hK _ _ ?_ | refine ⟨by omega, hK _ _ ?_⟩ | refine ⟨by omega, by omega, hK _ _ ?_⟩
    clear hK K
    by_cases h : i < e.effs.length
    · refine AWp.cond (t := true) (by first | (simp [h]; done) | (simp [h]; omega)) (fun _ => ?_) (by simp)
      refine AWp.skip ?_
      show AWp _ _ _ _
      refine AWp.seq ?_
      refine AWp.block ?_
      refine AWp.go [1, 3, 49] [1] fun K hK => ?_
      simp [h]
      refine call_pure (c_ref05_MayEffect e.effs[i]) (by simp [effC]) ?_
      simp
      first | refine hK _ _ ?_ | refine ⟨by omega, hK _ _ ?_⟩ | refine ⟨by omega, by omega, hK _ _ ?_⟩
      clear hK K
      cases hp : effOk e.effs[i]
      · refine AWp.cond (t := true) (by simp) (fun _ => ?_) (by simp)
        refine AWp.go [2] [] fun K hK => ?_
        simp
        first | refine hK _ _ ?_ | refine ⟨by omega, hK _ _ ?_⟩ | refine ⟨by omega, by omega, hK _ _ ?_⟩
        clear hK K
        refine AWp.ret ?_
        simp [evOk, all_not h hp]
      · refine AWp.cond (t := false) (by simp) (by simp) (fun _ => ?_)
        refine AWp.skip ?_
        show AWp _ _ _ _
        refine AWp.goLast [1, 3] [1] fun K hK => ?_
        simp
        first | refine hK _ _ ?_ | refine ⟨by omega, hK _ _ ?_⟩ | refine ⟨by omega, by omega, hK _ _ ?_⟩
        clear hK K
        refine ⟨i + 1, ⟨by omega, fun k hk hk2 => ?_⟩, by omega, ?_⟩
        · by_cases hki : k = i
          · subst hki; exact hp
          · exact hall k (by omega) hk2
        · simp
          exact wrap64 (by omega) (by omega)
    · refine AWp.cond (t := false) (by first | (simp [h]; done) | (simp [h]; omega)) (by simp) (fun _ => ?_)
      refine AWp.exit ?_
      show AWp _ _ _ _
      have hall2 : e.effs.all effOk = true := all_of fun k hk => hall k (by omega) hk
      refine AWp.step [2] [] [(2, .b (evOk e))] [] ?_ ?_
      · by_cases q1 : (1 : Int) ≤ e.effs.length
        · simp [evOk, hA, hall2, q1]
        · simp [evOk, hA, hall2, q1]
      refine AWp.ret ?_
      simp
end Go.AM
namespace Go.AM
open Go.Proofs

def close1 (l : List Ev) (i : Nat) : Bool := match l[i]? with
  | some e => evOk e && !findB (l.take i) e.dot && decide (sumTo e.past 5 < l.length)
  | none => false
def close4 (l : List Ev) (r : Int) (n : Nat) : Bool := findB l (r, (n : Int) + 1)
def close3 (l : List Ev) (e : Ev) (r : Nat) : Bool := (List.range (getC e.past ((r : Int) + 1)).toNat).all (close4 l ((r : Int) + 1))
def close2 (l : List Ev) (e : Ev) : Bool := (List.range 5).all (close3 l e)
def closedB (l : List Ev) : Bool := (List.range l.length).all (close1 l) && l.all (close2 l)
def Wide (l : List Ev) : Prop := ∀ e ∈ l, e.past.length ≤ 9223372036854775807 ∧ e.effs.length ≤ 9223372036854775807
theorem close1_at {l : List Ev} {i : Nat} (h : i < l.length) : close1 l i = (evOk l[i] && !findB (l.take i) l[i].dot && decide (sumTo l[i].past 5 < l.length)) := by
  simp [close1, h]
theorem evOk_past {e : Ev} (h : evOk e = true) : e.past.length ≤ 5 := by
  simp only [evOk, evA, Bool.and_eq_true] at h
  exact clockOk_len h.1.1.1.1.1.2

set_option maxRecDepth 8000 in
set_option maxHeartbeats 4000000 in
theorem c_ref05_Closed (l : List Ev) (hlen : l.length ≤ 1000000) (hw : Wide l) : Pure Try.prog 66 [.sl .fro 4 (evsAV l)] (.b (closedB l)) := by
  refine proc_of (cx Try.prog 68 [0, 2, 3, 4, 5, 6, 10, 40, 44, 48, 59, 67] [2]) 67 [.tmp 2] Try.func66 rfl rfl rfl rfl rfl rfl (Nat.le_refl _) rfl ?_
  refine AWp.go [0] [] fun K hK => ?_
  simp
  first | refine hK _ _ ?_ | refine ⟨by omega, hK _ _ ?_⟩ | refine ⟨by omega, by omega, hK _ _ ?_⟩
  clear hK K
  refine AWp.seq ?_
  refine AWp.go [0, 3] [] fun K hK => ?_
  simp
  first | refine hK _ _ ?_ | refine ⟨by omega, hK _ _ ?_⟩ | refine ⟨by omega, by omega, hK _ _ ?_⟩
  clear hK K
  refine AWp.block (AWp.while (fun i : Nat => [(0, .sl .fro 4 (evsAV l)), (3, .i .i64 i)]) (fun i => []) (fun i => i ≤ l.length ∧ ∀ k, k < i → close1 l k = true) (fun i => l.length - i) [0, 3] [] 0 (by simp) (by simp) ?_)
  rintro i ⟨hi, hall⟩
  refine AWp.seq ?_
  refine AWp.go [0, 3, 10] [] fun K hK => ?_
  simp
  first | refine hK _ _ ?_ | refine ⟨by omega, hK _ _ ?_⟩ | refine ⟨by omega, by omega, hK _ _ ?_⟩
  clear hK K
  by_cases h : i < l.length
  · refine AWp.cond (t := true) (by first | (simp [h]; done) | (simp [h]; omega)) (fun _ => ?_) (by simp)
    refine AWp.skip ?_
    show AWp _ _ _ _
    refine AWp.seq ?_
    refine AWp.block ?_
    refine AWp.stepD 28 (fun k => if k = 4 then .b (evOk l[i]) else if k = 15 then .b (findB (l.take i) l[i].dot) else if k = 23 then .i .i64 (sumTo l[i].past 5) else .any) [0, 3, 40] [] [(0, .sl .fro 4 (evsAV l)), (3, .i .i64 i), (40, .b (!close1 l i))] [] mix (by kernel_rfl) ?_ ?_
    · have hwi := hw _ (List.getElem_mem h)
      have g1 := c_ref05_May l[i] hwi.1 hwi.2
      rw [close1_at h]
      simp [evC] at g1
      cases q1 : evOk l[i]
      · rw [q1] at g1
        simp [h, g1]
      rw [q1] at g1
      have hpl := evOk_past q1
      have g2 := c_ref05_find (l.take i) l[i].dot (by rw [List.length_take]; omega)
      have g3 := c_ref03_Sum l[i].past (by omega)
      have et : evsAV (l.take i) = (evsAV l).take i := by simp [evsAV, List.map_take]
      simp [dotC, et] at g2
      cases q2 : findB (l.take i) l[i].dot
      · rw [q2] at g2
        by_cases q3 : sumTo l[i].past 5 < l.length
        · have q4 : ¬ (l.length : Int) ≤ sumTo l[i].past 5 := by omega
          simp [h, g1, g2, g3, q3, q4]
          omega
        · have q4 : (l.length : Int) ≤ sumTo l[i].past 5 := by omega
          simp [h, g1, g2, g3, q3, q4]
          omega
      · rw [q2] at g2
        simp [h, g1, g2]
        omega
    cases hp : close1 l i
    · refine AWp.cond (t := true) (by simp) (fun _ => ?_) (by simp)
      refine AWp.go [2] [] fun K hK => ?_
      simp
      first | refine hK _ _ ?_ | refine ⟨by omega, hK _ _ ?_⟩ | refine ⟨by omega, by omega, hK _ _ ?_⟩
      clear hK K
      refine AWp.ret ?_
      simp [closedB, range_not h hp]
    · refine AWp.cond (t := false) (by simp) (by simp) (fun _ => ?_)
      refine AWp.skip ?_
      show AWp _ _ _ _
      refine AWp.goLast [0, 3] [] fun K hK => ?_
      simp
      first | refine hK _ _ ?_ | refine ⟨by omega, hK _ _ ?_⟩ | refine ⟨by omega, by omega, hK _ _ ?_⟩
      clear hK K
      refine ⟨i + 1, ⟨by omega, fun k hk => ?_⟩, by omega, ?_⟩
      · by_cases hki : k = i
        · subst hki; exact hp
        · exact hall k (by omega)
      · simp
        exact wrap64 (by omega) (by omega)
  · refine AWp.cond (t := false) (by first | (simp [h]; done) | (simp [h]; omega)) (by simp) (fun _ => ?_)
    refine AWp.exit ?_
    show AWp _ _ _ _
    refine AWp.seq ?_
    refine AWp.go [0, 4] [] fun K hK => ?_
    simp
    first | refine hK _ _ ?_ | refine ⟨by omega, hK _ _ ?_⟩ | refine ⟨by omega, by omega, hK _ _ ?_⟩
    clear hK K
    have hc1 : (List.range l.length).all (close1 l) = true := range_all fun k hk => hall k (by omega)
    have hpast : ∀ e ∈ l, e.past.length ≤ 5 := fun e he => by
      obtain ⟨k, hk, rfl⟩ := List.mem_iff_getElem.1 he
      have := hall k (by omega)
      rw [close1_at hk] at this
      simp only [Bool.and_eq_true] at this
      exact evOk_past this.1.1
    clear hall hi
    refine AWp.block (AWp.while (fun a : Nat => [(0, .sl .fro 4 (evsAV l)), (4, .i .i64 a)]) (fun a => []) (fun a => a ≤ l.length ∧ ∀ k (hk : k < a) (hk2 : k < l.length), close2 l l[k] = true) (fun a => l.length - a) [0, 4] [] 0 (by simp) (by simp) ?_)
    rintro a ⟨ha, hall⟩
    refine AWp.seq ?_
    refine AWp.go [0, 4, 44] [] fun K hK => ?_
    simp
    first | refine hK _ _ ?_ | refine ⟨by omega, hK _ _ ?_⟩ | refine ⟨by omega, by omega, hK _ _ ?_⟩
    clear hK K
    by_cases h : a < l.length
    · refine AWp.cond (t := true) (by first | (simp [h]; done) | (simp [h]; omega)) (fun _ => ?_) (by simp)
      refine AWp.skip ?_
      show AWp _ _ _ _
      refine AWp.seq ?_
      refine AWp.block ?_
      refine AWp.go [0, 4, 5] [] fun K hK => ?_
      simp
      first | refine hK _ _ ?_ | refine ⟨by omega, hK _ _ ?_⟩ | refine ⟨by omega, by omega, hK _ _ ?_⟩
      clear hK K
      have hpa := hpast _ (List.getElem_mem h)
      refine AWp.block (AWp.while (fun r : Nat => [(0, .sl .fro 4 (evsAV l)), (4, .i .i64 a), (5, .i .i64 (r + 1))]) (fun r => []) (fun r => r ≤ 5 ∧ ∀ k, k < r → close3 l l[a] k = true) (fun r => 5 - r) [0, 4, 5] [] 0 (by simp) (by simp) ?_)
      rintro r ⟨hr, hall3⟩
      refine AWp.seq ?_
      refine AWp.go [0, 4, 5, 48] [] fun K hK => ?_
      simp
      first | refine hK _ _ ?_ | refine ⟨by omega, hK _ _ ?_⟩ | refine ⟨by omega, by omega, hK _ _ ?_⟩
      clear hK K
      by_cases h5 : r < 5
      · refine AWp.cond (t := true) (by first | (simp; done) | (simp; omega)) (fun _ => ?_) (by simp)
        refine AWp.skip ?_
        show AWp _ _ _ _
        refine AWp.seq ?_
        refine AWp.block ?_
        refine AWp.go [0, 4, 5, 6] [] fun K hK => ?_
        simp
        first | refine hK _ _ ?_ | refine ⟨by omega, hK _ _ ?_⟩ | refine ⟨by omega, by omega, hK _ _ ?_⟩
        clear hK K
        have hgr := getC_range l[a].past ((r : Int) + 1)
        refine AWp.block (AWp.while (fun n : Nat => [(0, .sl .fro 4 (evsAV l)), (4, .i .i64 a), (5, .i .i64 (r + 1)), (6, .i .i64 (n + 1))]) (fun n => []) (fun n => (n : Int) ≤ getC l[a].past ((r : Int) + 1) ∧ ∀ k, k < n → close4 l ((r : Int) + 1) k = true) (fun n => (getC l[a].past ((r : Int) + 1)).toNat - n) [0, 4, 5, 6] [] 0 (by have := hgr.1; simpa using this) (by simp) ?_)
        rintro n ⟨hn, hall4⟩
        refine AWp.seq ?_
        refine AWp.go [0, 4, 5, 6, 59] [] fun K hK => ?_
        simp [h]
        refine call_pure (c_ref03_Get l[a].past (r + 1) (by omega)) (by simp) ?_
        simp
        first | refine hK _ _ ?_ | refine ⟨by omega, hK _ _ ?_⟩ | refine ⟨by omega, by omega, hK _ _ ?_⟩
        clear hK K
        by_cases h6 : (n : Int) < getC l[a].past ((r : Int) + 1)
        · refine AWp.cond (t := true) (by simp; omega) (fun _ => ?_) (by simp)
          refine AWp.skip ?_
          show AWp _ _ _ _
          refine AWp.seq ?_
          refine AWp.block ?_
          refine AWp.go [0, 4, 5, 6, 67] [] fun K hK => ?_
          simp
          refine call_pure (c_ref05_find l ((r : Int) + 1, (n : Int) + 1) (by omega)) (by simp [dotC]) ?_
          simp
          first | refine hK _ _ ?_ | refine ⟨by omega, hK _ _ ?_⟩ | refine ⟨by omega, by omega, hK _ _ ?_⟩
          clear hK K
          cases hp : findB l ((r : Int) + 1, (n : Int) + 1)
          · refine AWp.cond (t := true) (by simp) (fun _ => ?_) (by simp)
            refine AWp.go [2] [] fun K hK => ?_
            simp
            first | refine hK _ _ ?_ | refine ⟨by omega, hK _ _ ?_⟩ | refine ⟨by omega, by omega, hK _ _ ?_⟩
            clear hK K
            refine AWp.ret ?_
            have e3 : close3 l l[a] r = false := by
              unfold close3
              exact range_not (i := n) (by omega) hp
            have e2 : close2 l l[a] = false := by
              unfold close2
              exact range_not h5 e3
            simp [closedB, all_not h e2]
          · refine AWp.cond (t := false) (by simp) (by simp) (fun _ => ?_)
            refine AWp.skip ?_
            show AWp _ _ _ _
            refine AWp.goLast [0, 4, 5, 6] [] fun K hK => ?_
            simp
            first | refine hK _ _ ?_ | refine ⟨by omega, hK _ _ ?_⟩ | refine ⟨by omega, by omega, hK _ _ ?_⟩
            clear hK K
            refine ⟨n + 1, ⟨by omega, fun k hk => ?_⟩, by omega, ?_⟩
            · by_cases hki : k = n
              · subst hki; exact hp
              · exact hall4 k (by omega)
            · simp
              exact wrap64 (by omega) (by omega)
        · refine AWp.cond (t := false) (by simp; omega) (by simp) (fun _ => ?_)
          refine AWp.exit ?_
          show AWp _ _ _ _
          refine AWp.goLast [0, 4, 5] [] fun K hK => ?_
          simp
          first | refine hK _ _ ?_ | refine ⟨by omega, hK _ _ ?_⟩ | refine ⟨by omega, by omega, hK _ _ ?_⟩
          clear hK K
          refine ⟨r + 1, ⟨by omega, fun k hk => ?_⟩, by omega, ?_⟩
          · by_cases hki : k = r
            · subst hki
              unfold close3
              exact range_all fun n' hn' => hall4 n' (by omega)
            · exact hall3 k (by omega)
          · simp
            exact wrap64 (by omega) (by omega)
      · refine AWp.cond (t := false) (by first | (simp; done) | (simp; omega)) (by simp) (fun _ => ?_)
        refine AWp.exit ?_
        show AWp _ _ _ _
        refine AWp.goLast [0, 4] [] fun K hK => ?_
        simp
        first | refine hK _ _ ?_ | refine ⟨by omega, hK _ _ ?_⟩ | refine ⟨by omega, by omega, hK _ _ ?_⟩
        clear hK K
        refine ⟨a + 1, ⟨by omega, fun k hk hk2 => ?_⟩, by omega, ?_⟩
        · by_cases hki : k = a
          · subst hki
            obtain rfl : r = 5 := by omega
            unfold close2
            exact range_all hall3
          · exact hall k (by omega) hk2
        · simp
          exact wrap64 (by omega) (by omega)
    · refine AWp.cond (t := false) (by first | (simp [h]; done) | (simp [h]; omega)) (by simp) (fun _ => ?_)
      refine AWp.exit ?_
      show AWp _ _ _ _
      refine AWp.go [2] [] fun K hK => ?_
      simp
      first | refine hK _ _ ?_ | refine ⟨by omega, hK _ _ ?_⟩ | refine ⟨by omega, by omega, hK _ _ ?_⟩
      clear hK K
      refine AWp.ret ?_
      have : closedB l = true := by
        unfold closedB
        rw [hc1, all_of fun k hk => hall k (by omega) hk]
        rfl
      simp [this]

def passB (e f : Ev) : Bool := !(aheadB f e && !withinB f.past e.past)
def wholeB (l : List Ev) : Bool := closedB l && l.all fun e => l.all (passB e)
theorem closed_past {l : List Ev} (h : closedB l = true) : ∀ e ∈ l, e.past.length ≤ 5 := fun e he => by
  simp only [closedB, Bool.and_eq_true, List.all_eq_true] at h
  obtain ⟨k, hk, rfl⟩ := List.mem_iff_getElem.1 he
  have := h.1 k (by simpa using hk)
  rw [close1_at hk] at this
  simp only [Bool.and_eq_true] at this
  exact evOk_past this.1.1

set_option maxRecDepth 8000 in
set_option maxHeartbeats 4000000 in
theorem c_law08_Whole (l : List Ev) (hlen : l.length ≤ 1000000) (hw : Wide l) : Pure Try.prog 32 [.sl .fro 4 (evsAV l)] (.b (wholeB l)) := by
  refine proc_of (cx Try.prog 43 [0, 2, 3, 4, 7, 11, 17, 42] [2]) 42 [.tmp 2] Try.func32 rfl rfl rfl rfl rfl rfl (Nat.le_refl _) rfl ?_
  refine AWp.go [0] [] fun K hK => ?_
  simp
  first | refine hK _ _ ?_ | refine ⟨by omega, hK _ _ ?_⟩ | refine ⟨by omega, by omega, hK _ _ ?_⟩
  clear hK K
  refine AWp.seq ?_
  refine AWp.go [0, 7] [] fun K hK => ?_
  simp
  refine call_pure (c_ref05_Closed l hlen hw) (by simp) ?_
  simp
  first | refine hK _ _ ?_ | refine ⟨by omega, hK _ _ ?_⟩ | refine ⟨by omega, by omega, hK _ _ ?_⟩
  clear hK K
  cases hc : closedB l
  · refine AWp.cond (t := true) (by simp) (fun _ => ?_) (by simp)
    refine AWp.go [2] [] fun K hK => ?_
    simp
    first | refine hK _ _ ?_ | refine ⟨by omega, hK _ _ ?_⟩ | refine ⟨by omega, by omega, hK _ _ ?_⟩
    clear hK K
    refine AWp.ret ?_
    simp [wholeB, hc]
  · refine AWp.cond (t := false) (by simp) (by simp) (fun _ => ?_)
    refine AWp.skip ?_
    show AWp _ _ _ _
    refine AWp.seq ?_
    refine AWp.go [0, 3] [] fun K hK => ?_
    simp
    first | refine hK _ _ ?_ | refine ⟨by omega, hK _ _ ?_⟩ | refine ⟨by omega, by omega, hK _ _ ?_⟩
    clear hK K
    have hpast := closed_past hc
    refine AWp.block (AWp.while (fun i : Nat => [(0, .sl .fro 4 (evsAV l)), (3, .i .i64 i)]) (fun i => []) (fun i => i ≤ l.length ∧ ∀ k (hk : k < i) (hk2 : k < l.length), l.all (passB l[k]) = true) (fun i => l.length - i) [0, 3] [] 0 (by simp) (by simp) ?_)
    rintro i ⟨hi, hall⟩
    refine AWp.seq ?_
    refine AWp.go [0, 3, 11] [] fun K hK => ?_
    simp
    first | refine hK _ _ ?_ | refine ⟨by omega, hK _ _ ?_⟩ | refine ⟨by omega, by omega, hK _ _ ?_⟩
    clear hK K
    by_cases h : i < l.length
    · refine AWp.cond (t := true) (by first | (simp [h]; done) | (simp [h]; omega)) (fun _ => ?_) (by simp)
      refine AWp.skip ?_
      show AWp _ _ _ _
      refine AWp.seq ?_
      refine AWp.block ?_
      refine AWp.go [0, 3, 4] [] fun K hK => ?_
      simp
      first | refine hK _ _ ?_ | refine ⟨by omega, hK _ _ ?_⟩ | refine ⟨by omega, by omega, hK _ _ ?_⟩
      clear hK K
      have hpi := hpast _ (List.getElem_mem h)
      refine AWp.block (AWp.while (fun a : Nat => [(0, .sl .fro 4 (evsAV l)), (3, .i .i64 i), (4, .i .i64 a)]) (fun a => []) (fun a => a ≤ l.length ∧ ∀ k (hk : k < a) (hk2 : k < l.length), passB l[i] l[k] = true) (fun a => l.length - a) [0, 3, 4] [] 0 (by simp) (by simp) ?_)
      rintro a ⟨ha, hall2⟩
      refine AWp.seq ?_
      refine AWp.go [0, 3, 4, 17] [] fun K hK => ?_
      simp
      first | refine hK _ _ ?_ | refine ⟨by omega, hK _ _ ?_⟩ | refine ⟨by omega, by omega, hK _ _ ?_⟩
      clear hK K
      by_cases h2 : a < l.length
      · refine AWp.cond (t := true) (by first | (simp [h2]; done) | (simp [h2]; omega)) (fun _ => ?_) (by simp)
        refine AWp.skip ?_
        show AWp _ _ _ _
        refine AWp.seq ?_
        refine AWp.block ?_
        refine AWp.stepD 23 (fun k => if k = 8 then .b (aheadB l[a] l[i]) else if k = 20 then .b (withinB l[a].past l[i].past) else .any) [0, 3, 4, 42] [] [(0, .sl .fro 4 (evsAV l)), (3, .i .i64 i), (4, .i .i64 a), (42, .b (!passB l[i] l[a]))] [] mix (by kernel_rfl) ?_ ?_
        · have hpa := hpast _ (List.getElem_mem h2)
          have g1 := c_ref05_Ahead l[a] l[i] (by omega)
          have g2 := c_ref03_Within l[a].past l[i].past (by omega) (by omega)
          simp [evC] at g1
          cases q1 : aheadB l[a] l[i]
          · rw [q1] at g1
            simp [h, h2, passB, q1, g1]
          rw [q1] at g1
          simp [h, h2, passB, q1, g1, g2]
        cases hp : passB l[i] l[a]
        · refine AWp.cond (t := true) (by simp) (fun _ => ?_) (by simp)
          refine AWp.go [2] [] fun K hK => ?_
          simp
          first | refine hK _ _ ?_ | refine ⟨by omega, hK _ _ ?_⟩ | refine ⟨by omega, by omega, hK _ _ ?_⟩
          clear hK K
          refine AWp.ret ?_
          have e1 : l.all (passB l[i]) = false := all_not h2 hp
          have e2 : (l.all fun e => l.all (passB e)) = false := all_not h e1
          simp [wholeB, e2]
        · refine AWp.cond (t := false) (by simp) (by simp) (fun _ => ?_)
          refine AWp.skip ?_
          show AWp _ _ _ _
          refine AWp.goLast [0, 3, 4] [] fun K hK => ?_
          simp
          first | refine hK _ _ ?_ | refine ⟨by omega, hK _ _ ?_⟩ | refine ⟨by omega, by omega, hK _ _ ?_⟩
          clear hK K
          refine ⟨a + 1, ⟨by omega, fun k hk hk2 => ?_⟩, by omega, ?_⟩
          · by_cases hki : k = a
            · subst hki; exact hp
            · exact hall2 k (by omega) hk2
          · simp
            exact wrap64 (by omega) (by omega)
      · refine AWp.cond (t := false) (by first | (simp [h2]; done) | (simp [h2]; omega)) (by simp) (fun _ => ?_)
        refine AWp.exit ?_
        show AWp _ _ _ _
        refine AWp.goLast [0, 3] [] fun K hK => ?_
        simp
        first | refine hK _ _ ?_ | refine ⟨by omega, hK _ _ ?_⟩ | refine ⟨by omega, by omega, hK _ _ ?_⟩
        clear hK K
        refine ⟨i + 1, ⟨by omega, fun k hk hk2 => ?_⟩, by omega, ?_⟩
        · by_cases hki : k = i
          · subst hki
            exact all_of fun k hk => hall2 k (by omega) hk
          · exact hall k (by omega) hk2
        · simp
          exact wrap64 (by omega) (by omega)
    · refine AWp.cond (t := false) (by first | (simp [h]; done) | (simp [h]; omega)) (by simp) (fun _ => ?_)
      refine AWp.exit ?_
      show AWp _ _ _ _
      refine AWp.go [2] [] fun K hK => ?_
      simp
      first | refine hK _ _ ?_ | refine ⟨by omega, hK _ _ ?_⟩ | refine ⟨by omega, by omega, hK _ _ ?_⟩
      clear hK K
      refine AWp.ret ?_
      have : (l.all fun e => l.all (passB e)) = true := all_of fun k hk => hall k (by omega) hk
      simp [wholeB, hc, this]

def hitE (kind thing : Int) (k : ByteArray) (x : Eff) : Bool := decide (x.kind = kind) && decide (x.thing = thing) && eqK x.key k
def doesB (e : Ev) (kind thing : Int) (k : ByteArray) : Bool := e.effs.any (hitE kind thing k)

set_option maxRecDepth 8000 in
set_option maxHeartbeats 2000000 in
theorem c_ref08_Does (e : Ev) (kind thing : Int) (k : ByteArray) (he : e.effs.length ≤ 9223372036854775807) : Pure Try.prog 34 [.agg (evC e), .i .i64 kind, .i .i64 thing, .s k] (.b (doesB e kind thing k)) := by
  refine proc_of (cx Try.prog 39 [1, 2, 3, 4, 8, 9, 10, 15, 38] [8]) 35 [.tmp 8] Try.func34 rfl rfl rfl rfl rfl rfl (Nat.le_refl _) rfl ?_
  refine AWp.go [1, 2, 3, 4] [4] fun K hK => ?_
  simp [evC]
  first | refine hK _ _ ?_ | refine ⟨by omega, hK _ _ ?_⟩ | refine ⟨by omega, by omega, hK _ _ ?_⟩
  clear hK K
  refine AWp.seq ?_
  refine AWp.go [1, 2, 3, 4, 9] [4] fun K hK => ?_
  simp
  first | refine hK _ _ ?_ | refine ⟨by omega, hK _ _ ?_⟩ | refine ⟨by omega, by omega, hK _ _ ?_⟩
  clear hK K
  refine AWp.block (AWp.while (fun i : Nat => [(1, .i .i64 kind), (2, .i .i64 thing), (3, .s k), (4, .ptr 4 0), (9, .i .i64 i)]) (fun i => [(4, [.i .i64 e.dot.1, .i .i64 e.dot.2, .sl .fro 1 (intsAV e.past), .sl .fro 6 (effsAV e.effs)])]) (fun i => i ≤ e.effs.length ∧ ∀ j (hj : j < i) (hj2 : j < e.effs.length), hitE kind thing k e.effs[j] = false) (fun i => e.effs.length - i) [1, 2, 3, 4, 9] [4] 0 (by simp) (by simp) ?_)
  rintro i ⟨hi, hall⟩
  refine AWp.seq ?_
  refine AWp.go [1, 2, 3, 4, 9, 15] [4] fun K hK => ?_
  simp
  first | refine hK _ _ ?_ | refine ⟨by omega, hK _ _ ?_⟩ | refine ⟨by omega, by omega, hK _ _ ?_⟩
  clear hK K
  by_cases h : i < e.effs.length
  · refine AWp.cond (t := true) (by first | (simp [h]; done) | (simp [h]; omega)) (fun _ => ?_) (by simp)
    refine AWp.skip ?_
    show AWp _ _ _ _
    refine AWp.seq ?_
    refine AWp.block ?_
    refine AWp.go [1, 2, 3, 4, 9, 10] [4, 10] fun K hK => ?_
    simp [h]
    first | refine hK _ _ ?_ | refine ⟨by omega, hK _ _ ?_⟩ | refine ⟨by omega, by omega, hK _ _ ?_⟩
    clear hK K
    refine AWp.step [1, 2, 3, 4, 9, 38] [4] [(1, .i .i64 kind), (2, .i .i64 thing), (3, .s k), (4, .ptr 4 0), (9, .i .i64 i), (38, .b (hitE kind thing k e.effs[i]))] [(4, [.i .i64 e.dot.1, .i .i64 e.dot.2, .sl .fro 1 (intsAV e.past), .sl .fro 6 (effsAV e.effs)])] ?_ ?_
    · by_cases q1 : e.effs[i].kind = kind
      · by_cases q2 : e.effs[i].thing = thing
        · simp [q1, q2, hitE, eqK]
        · simp [q1, q2, hitE]
      · simp [q1, hitE]
    cases hp : hitE kind thing k e.effs[i]
    · refine AWp.cond (t := false) (by simp) (by simp) (fun _ => ?_)
      refine AWp.skip ?_
      show AWp _ _ _ _
      refine AWp.goLast [1, 2, 3, 4, 9] [4] fun K hK => ?_
      simp
      first | refine hK _ _ ?_ | refine ⟨by omega, hK _ _ ?_⟩ | refine ⟨by omega, by omega, hK _ _ ?_⟩
      clear hK K
      refine ⟨i + 1, ⟨by omega, fun j hj hj2 => ?_⟩, by omega, ?_⟩
      · by_cases hji : j = i
        · subst hji; exact hp
        · exact hall j (by omega) hj2
      · simp
        exact wrap64 (by omega) (by omega)
    · refine AWp.cond (t := true) (by simp) (fun _ => ?_) (by simp)
      refine AWp.go [8] [] fun K hK => ?_
      simp
      first | refine hK _ _ ?_ | refine ⟨by omega, hK _ _ ?_⟩ | refine ⟨by omega, by omega, hK _ _ ?_⟩
      clear hK K
      refine AWp.ret ?_
      simp [doesB, any_of h hp]
  · refine AWp.cond (t := false) (by first | (simp [h]; done) | (simp [h]; omega)) (by simp) (fun _ => ?_)
    refine AWp.exit ?_
    show AWp _ _ _ _
    refine AWp.go [8] [] fun K hK => ?_
    simp
    first | refine hK _ _ ?_ | refine ⟨by omega, hK _ _ ?_⟩ | refine ⟨by omega, by omega, hK _ _ ?_⟩
    clear hK K
    refine AWp.ret ?_
    have : doesB e kind thing k = false := any_not fun j hj => hall j (by omega) hj
    simp [this]
end Go.AM
namespace Go.AM
open Go.Proofs

/-- Pasts that may be, effects of any length. -/
def Mild (l : List Ev) : Prop := ∀ e ∈ l, e.past.length ≤ 5 ∧ e.effs.length ≤ 9223372036854775807
def touchB (b : Ev) (thing : Int) (k : ByteArray) : Bool := doesB b 1 thing k || doesB b 2 thing k
def clashB (a : Ev) (thing : Int) (k : ByteArray) (b : Ev) : Bool := aheadB a b && touchB b thing k
def aliveTo (l : List Ev) (thing : Int) (k : ByteArray) (a : Ev) (n : Nat) : Bool := doesB a 1 thing k && !((l.take n).any (clashB a thing k))
def aliveA (l : List Ev) (thing : Int) (k : ByteArray) (a : Ev) : Bool := aliveTo l thing k a l.length
def liveTo (l : List Ev) (thing : Int) (k : ByteArray) (i : Nat) : List Dot := (l.take i).foldl (fun o a => if aliveA l thing k a then putD o a.dot else o) []
def liveA (l : List Ev) (thing : Int) (k : ByteArray) : List Dot := liveTo l thing k l.length

def stand1 (l : List Ev) (thing : Int) (k : ByteArray) (i : Nat) (e : Ev) (j : Nat) : Bool := match l[j]? with
  | some b => !(!decide (j = i) && doesB b 2 thing k && !aheadB b e)
  | none => true
def standsB (l : List Ev) (thing : Int) (k : ByteArray) (i : Nat) (e : Ev) : Bool := (List.range l.length).all (stand1 l thing k i e) && doesB e 1 thing k
theorem stand1_at {l : List Ev} (thing : Int) (k : ByteArray) (i : Nat) (e : Ev) {j : Nat} (h : j < l.length) : stand1 l thing k i e j = !(!decide (j = i) && doesB l[j] 2 thing k && !aheadB l[j] e) := by
  simp [stand1, h]

set_option maxRecDepth 8000 in
set_option maxHeartbeats 4000000 in
theorem c_ref09_stands (l : List Ev) (i : Nat) (thing : Int) (k : ByteArray) (hlen : l.length ≤ 1000000) (hm : Mild l) (hi : i < l.length) : Pure Try.prog 72 [.sl .fro 4 (evsAV l), .i .i64 i, .i .i64 thing, .s k] (.b (standsB l thing k i l[i])) := by
  have hmi := hm _ (List.getElem_mem hi)
  refine proc_of (cx Try.prog 47 [0, 1, 2, 3, 8, 9, 13, 39] [8]) 43 [.tmp 8] Try.func72 rfl rfl rfl rfl rfl rfl (Nat.le_refl _) rfl ?_
  refine AWp.go [0, 1, 2, 3] [] fun K hK => ?_
  simp
  first | refine hK _ _ ?_ | refine ⟨by omega, hK _ _ ?_⟩ | refine ⟨by omega, by omega, hK _ _ ?_⟩
  clear hK K
  refine AWp.seq ?_
  refine AWp.go [0, 1, 2, 3, 9] [] fun K hK => ?_
  simp
  first | refine hK _ _ ?_ | refine ⟨by omega, hK _ _ ?_⟩ | refine ⟨by omega, by omega, hK _ _ ?_⟩
  clear hK K
  refine AWp.block (AWp.while (fun a : Nat => [(0, .sl .fro 4 (evsAV l)), (1, .i .i64 i), (2, .i .i64 thing), (3, .s k), (9, .i .i64 a)]) (fun a => []) (fun a => a ≤ l.length ∧ ∀ j, j < a → stand1 l thing k i l[i] j = true) (fun a => l.length - a) [0, 1, 2, 3, 9] [] 0 (by simp) (by simp) ?_)
  rintro a ⟨ha, hall⟩
  refine AWp.seq ?_
  refine AWp.go [0, 1, 2, 3, 9, 13] [] fun K hK => ?_
  simp
  first | refine hK _ _ ?_ | refine ⟨by omega, hK _ _ ?_⟩ | refine ⟨by omega, by omega, hK _ _ ?_⟩
  clear hK K
  by_cases h : a < l.length
  · refine AWp.cond (t := true) (by first | (simp [h]; done) | (simp [h]; omega)) (fun _ => ?_) (by simp)
    refine AWp.skip ?_
    show AWp _ _ _ _
    refine AWp.seq ?_
    refine AWp.block ?_
    refine AWp.stepD 24 (fun k0 => if k0 = 10 then .b (doesB l[a] 2 thing k) else if k0 = 21 then .b (aheadB l[a] l[i]) else .any) [0, 1, 2, 3, 9, 39] [] [(0, .sl .fro 4 (evsAV l)), (1, .i .i64 i), (2, .i .i64 thing), (3, .s k), (9, .i .i64 a), (39, .b (!stand1 l thing k i l[i] a))] [] mix (by kernel_rfl) ?_ ?_
    · have hma := hm _ (List.getElem_mem h)
      have g1 := c_ref05_Ahead l[a] l[i] (by omega)
      have g2 := c_ref08_Does l[a] 2 thing k hma.2
      simp [evC] at g1 g2
      rw [stand1_at thing k i l[i] h]
      by_cases q0 : a = i
      · simp [q0]
      have q0' : ¬ (a : Int) = i := by omega
      cases q1 : doesB l[a] 2 thing k
      · rw [q1] at g2
        simp [h, q0, q0', g2]
      · rw [q1] at g2
        simp [h, hi, q0, q0', g1, g2]
    cases hp : stand1 l thing k i l[i] a
    · refine AWp.cond (t := true) (by simp) (fun _ => ?_) (by simp)
      refine AWp.go [8] [] fun K hK => ?_
      simp
      first | refine hK _ _ ?_ | refine ⟨by omega, hK _ _ ?_⟩ | refine ⟨by omega, by omega, hK _ _ ?_⟩
      clear hK K
      refine AWp.ret ?_
      simp [standsB, range_not h hp]
    · refine AWp.cond (t := false) (by simp) (by simp) (fun _ => ?_)
      refine AWp.skip ?_
      show AWp _ _ _ _
      refine AWp.goLast [0, 1, 2, 3, 9] [] fun K hK => ?_
      simp
      first | refine hK _ _ ?_ | refine ⟨by omega, hK _ _ ?_⟩ | refine ⟨by omega, by omega, hK _ _ ?_⟩
      clear hK K
      refine ⟨a + 1, ⟨by omega, fun j hj => ?_⟩, by omega, ?_⟩
      · by_cases hja : j = a
        · subst hja; exact hp
        · exact hall j (by omega)
      · simp
        exact wrap64 (by omega) (by omega)
  · refine AWp.cond (t := false) (by first | (simp [h]; done) | (simp [h]; omega)) (by simp) (fun _ => ?_)
    refine AWp.exit ?_
    show AWp _ _ _ _
    have hall2 : (List.range l.length).all (stand1 l thing k i l[i]) = true := range_all fun j hj => hall j (by omega)
    have g3 := c_ref08_Does l[i] 1 thing k hmi.2
    simp [evC] at g3
    refine AWp.go [8] [] fun K hK => ?_
    simp [hi]
    refine call_pure g3 (by simp) ?_
    simp
    first | refine hK _ _ ?_ | refine ⟨by omega, hK _ _ ?_⟩ | refine ⟨by omega, by omega, hK _ _ ?_⟩
    clear hK K
    refine AWp.ret ?_
    simp [standsB, hall2]

def holdB (l : List Ev) (thing : Int) (k : ByteArray) (i : Nat) (e : Ev) : Bool := standsB l thing k i e && !doesB e 2 thing k
def clash9 (l : List Ev) (thing : Int) (k : ByteArray) (e : Ev) (j : Nat) : Bool := match l[j]? with
  | some b => aheadB e b && holdB l thing k j b
  | none => false
theorem clash9_at {l : List Ev} (thing : Int) (k : ByteArray) (e : Ev) {j : Nat} (h : j < l.length) : clash9 l thing k e j = (aheadB e l[j] && holdB l thing k j l[j]) := by
  simp [clash9, h]
def alive9 (l : List Ev) (thing : Int) (k : ByteArray) (i : Nat) (e : Ev) (n : Nat) : Bool := holdB l thing k i e && !((List.range n).any (clash9 l thing k e))
theorem alive9_succ (l : List Ev) (thing : Int) (k : ByteArray) (i : Nat) (e : Ev) (n : Nat) : alive9 l thing k i e (n + 1) = (alive9 l thing k i e n && !clash9 l thing k e n) := by
  unfold alive9
  rw [List.range_succ, List.any_append]
  cases holdB l thing k i e <;> simp
def live9To (l : List Ev) (thing : Int) (k : ByteArray) : Nat → List Dot
  | 0 => []
  | i + 1 => match l[i]? with
    | some e => if alive9 l thing k i e l.length then putD (live9To l thing k i) e.dot else live9To l thing k i
    | none => live9To l thing k i
theorem live9To_succ (l : List Ev) (thing : Int) (k : ByteArray) (i : Nat) (h : i < l.length) : live9To l thing k (i + 1) = if alive9 l thing k i l[i] l.length then putD (live9To l thing k i) l[i].dot else live9To l thing k i := by
  simp [live9To, h]
theorem live9To_len (l : List Ev) (thing : Int) (k : ByteArray) : ∀ i, i ≤ l.length → (live9To l thing k i).length ≤ i
  | 0, _ => by simp [live9To]
  | i + 1, h => by
    have := live9To_len l thing k i (by omega)
    rw [live9To_succ l thing k i (by omega)]
    split
    · have := putD_length (live9To l thing k i) l[i].dot; omega
    · omega

set_option maxRecDepth 8000 in
set_option maxHeartbeats 4000000 in
theorem c_ref09_Live (l : List Ev) (thing : Int) (k : ByteArray) (hlen : l.length ≤ 1000000) (hm : Mild l) : Pure Try.prog 39 [.sl .fro 4 (evsAV l), .i .i64 thing, .s k] (.sl .fro 2 (dotsAV (live9To l thing k l.length))) := by
  refine proc_of (cx Try.prog 74 [0, 1, 2, 6, 7, 8, 9, 10, 15, 36, 64, 65] [6]) 71 [.tmp 6] Try.func39 rfl rfl rfl rfl rfl rfl (Nat.le_refl _) rfl ?_
  refine AWp.go [0, 1, 2] [] fun K hK => ?_
  simp
  first | refine hK _ _ ?_ | refine ⟨by omega, hK _ _ ?_⟩ | refine ⟨by omega, by omega, hK _ _ ?_⟩
  clear hK K
  refine AWp.go [0, 1, 2, 7] [] fun K hK => ?_
  simp
  first | refine hK _ _ ?_ | refine ⟨by omega, hK _ _ ?_⟩ | refine ⟨by omega, by omega, hK _ _ ?_⟩
  clear hK K
  refine AWp.seq ?_
  refine AWp.go [0, 1, 2, 7, 8] [] fun K hK => ?_
  simp
  first | refine hK _ _ ?_ | refine ⟨by omega, hK _ _ ?_⟩ | refine ⟨by omega, by omega, hK _ _ ?_⟩
  clear hK K
  refine AWp.frz [7] ?_
  simp
  refine AWp.block (AWp.while (fun i : Nat => [(0, .sl .fro 4 (evsAV l)), (1, .i .i64 thing), (2, .s k), (7, .sl .fro 2 (dotsAV (live9To l thing k i))), (8, .i .i64 i)]) (fun i => []) (fun i => i ≤ l.length) (fun i => l.length - i) [0, 1, 2, 7, 8] [] 0 (by simp) (by simp [live9To, dotsAV]) ?_)
  intro i hi
  refine AWp.seq ?_
  refine AWp.go [0, 1, 2, 7, 8, 15] [] fun K hK => ?_
  simp
  first | refine hK _ _ ?_ | refine ⟨by omega, hK _ _ ?_⟩ | refine ⟨by omega, by omega, hK _ _ ?_⟩
  clear hK K
  by_cases h : i < l.length
  · refine AWp.cond (t := true) (by first | (simp [h]; done) | (simp [h]; omega)) (fun _ => ?_) (by simp)
    refine AWp.skip ?_
    show AWp _ _ _ _
    refine AWp.seq ?_
    refine AWp.block ?_
    have hmi := hm _ (List.getElem_mem h)
    have hll := live9To_len l thing k i (by omega)
    have g0 := c_ref08_Does l[i] 2 thing k hmi.2
    have g1 := c_ref09_stands l i thing k hlen hm h
    simp [evC] at g0
    refine AWp.step [0, 1, 2, 7, 8, 9] [] [(0, .sl .fro 4 (evsAV l)), (1, .i .i64 thing), (2, .s k), (7, .sl .fro 2 (dotsAV (live9To l thing k i))), (8, .i .i64 i), (9, .b (holdB l thing k i l[i]))] [] ?_ ?_
    · simp
      refine call_pure g1 (by simp) ?_
      cases q1 : standsB l thing k i l[i]
      · simp [holdB, q1]
      simp [h]
      refine call_pure g0 (by simp) ?_
      simp [holdB, q1]
    refine AWp.seq ?_
    refine AWp.go [0, 1, 2, 7, 8, 9, 10] [] fun K hK => ?_
    simp
    first | refine hK _ _ ?_ | refine ⟨by omega, hK _ _ ?_⟩ | refine ⟨by omega, by omega, hK _ _ ?_⟩
    clear hK K
    refine AWp.block (AWp.while (fun a : Nat => [(0, .sl .fro 4 (evsAV l)), (1, .i .i64 thing), (2, .s k), (7, .sl .fro 2 (dotsAV (live9To l thing k i))), (8, .i .i64 i), (9, .b (alive9 l thing k i l[i] a)), (10, .i .i64 a)]) (fun a => []) (fun a => a ≤ l.length) (fun a => l.length - a) [0, 1, 2, 7, 8, 9, 10] [] 0 (by simp) (by simp [alive9]) ?_)
    intro a ha
    refine AWp.seq ?_
    refine AWp.go [0, 1, 2, 7, 8, 9, 10, 36] [] fun K hK => ?_
    simp
    first | refine hK _ _ ?_ | refine ⟨by omega, hK _ _ ?_⟩ | refine ⟨by omega, by omega, hK _ _ ?_⟩
    clear hK K
    by_cases h2 : a < l.length
    · refine AWp.cond (t := true) (by first | (simp [h2]; done) | (simp [h2]; omega)) (fun _ => ?_) (by simp)
      refine AWp.skip ?_
      show AWp _ _ _ _
      refine AWp.seq ?_
      refine AWp.block ?_
      refine AWp.stepD 26 (fun k0 => if k0 = 8 then .b (aheadB l[i] l[a]) else if k0 = 14 then .b (standsB l thing k a l[a]) else if k0 = 23 then .b (doesB l[a] 2 thing k) else .any) [0, 1, 2, 7, 8, 9, 10, 64] [] [(0, .sl .fro 4 (evsAV l)), (1, .i .i64 thing), (2, .s k), (7, .sl .fro 2 (dotsAV (live9To l thing k i))), (8, .i .i64 i), (9, .b (alive9 l thing k i l[i] a)), (10, .i .i64 a), (64, .b (clash9 l thing k l[i] a))] [] mix (by kernel_rfl) ?_ ?_
      · have hma := hm _ (List.getElem_mem h2)
        have g1 := c_ref05_Ahead l[i] l[a] (by omega)
        have g2 := c_ref09_stands l a thing k hlen hm h2
        have g3 := c_ref08_Does l[a] 2 thing k hma.2
        simp [evC] at g1 g3
        rw [clash9_at thing k l[i] h2]
        cases q1 : aheadB l[i] l[a]
        · rw [q1] at g1
          simp [h, h2, g1]
        rw [q1] at g1
        cases q2 : standsB l thing k a l[a]
        · rw [q2] at g2
          simp [h, h2, holdB, q2, g1, g2]
        · rw [q2] at g2
          simp [h, h2, holdB, q2, g1, g2, g3]
      cases hp : clash9 l thing k l[i] a
      · refine AWp.cond (t := false) (by simp) (by simp) (fun _ => ?_)
        refine AWp.skip ?_
        show AWp _ _ _ _
        refine AWp.goLast [0, 1, 2, 7, 8, 9, 10] [] fun K hK => ?_
        simp
        first | refine hK _ _ ?_ | refine ⟨by omega, hK _ _ ?_⟩ | refine ⟨by omega, by omega, hK _ _ ?_⟩
        clear hK K
        refine ⟨a + 1, by omega, by omega, ?_⟩
        simp [alive9_succ, hp]
        exact wrap64 (by omega) (by omega)
      · refine AWp.cond (t := true) (by simp) (fun _ => ?_) (by simp)
        refine AWp.goLast [0, 1, 2, 7, 8, 9, 10] [] fun K hK => ?_
        simp
        first | refine hK _ _ ?_ | refine ⟨by omega, hK _ _ ?_⟩ | refine ⟨by omega, by omega, hK _ _ ?_⟩
        clear hK K
        show AWp _ _ _ _
        refine AWp.goLast [0, 1, 2, 7, 8, 9, 10] [] fun K hK => ?_
        simp
        first | refine hK _ _ ?_ | refine ⟨by omega, hK _ _ ?_⟩ | refine ⟨by omega, by omega, hK _ _ ?_⟩
        clear hK K
        refine ⟨a + 1, by omega, by omega, ?_⟩
        simp [alive9_succ, hp]
        exact wrap64 (by omega) (by omega)
    · refine AWp.cond (t := false) (by first | (simp [h2]; done) | (simp [h2]; omega)) (by simp) (fun _ => ?_)
      refine AWp.exit ?_
      show AWp _ _ _ _
      obtain rfl : a = l.length := by omega
      refine AWp.go [0, 1, 2, 7, 8, 65] [] fun K hK => ?_
      simp
      first | refine hK _ _ ?_ | refine ⟨by omega, hK _ _ ?_⟩ | refine ⟨by omega, by omega, hK _ _ ?_⟩
      clear hK K
      cases hA : alive9 l thing k i l[i] l.length
      · refine AWp.cond (t := false) (by simp) (by simp) (fun _ => ?_)
        refine AWp.skip ?_
        show AWp _ _ _ _
        refine AWp.goLast [0, 1, 2, 7, 8] [] fun K hK => ?_
        simp
        first | refine hK _ _ ?_ | refine ⟨by omega, hK _ _ ?_⟩ | refine ⟨by omega, by omega, hK _ _ ?_⟩
        clear hK K
        refine ⟨i + 1, by omega, by omega, ?_⟩
        simp [live9To_succ _ _ _ _ h, hA]
        exact wrap64 (by omega) (by omega)
      · refine AWp.cond (t := true) (by simp) (fun _ => ?_) (by simp)
        have g4 := c_ref04_Put (live9To l thing k i) l[i].dot (by omega)
        simp [dotC] at g4
        refine AWp.goLast [0, 1, 2, 7, 8] [] fun K hK => ?_
        simp [h]
        refine call_pure g4 (by simp) ?_
        simp
        first | refine hK _ _ ?_ | refine ⟨by omega, hK _ _ ?_⟩ | refine ⟨by omega, by omega, hK _ _ ?_⟩
        clear hK K
        show AWp _ _ _ _
        refine AWp.goLast [0, 1, 2, 7, 8] [] fun K hK => ?_
        simp
        first | refine hK _ _ ?_ | refine ⟨by omega, hK _ _ ?_⟩ | refine ⟨by omega, by omega, hK _ _ ?_⟩
        clear hK K
        refine ⟨i + 1, by omega, by omega, ?_⟩
        simp [live9To_succ _ _ _ _ h, hA]
        exact wrap64 (by omega) (by omega)
  · refine AWp.cond (t := false) (by first | (simp [h]; done) | (simp [h]; omega)) (by simp) (fun _ => ?_)
    refine AWp.exit ?_
    show AWp _ _ _ _
    obtain rfl : i = l.length := by omega
    refine AWp.go [6] [] fun K hK => ?_
    simp
    first | refine hK _ _ ?_ | refine ⟨by omega, hK _ _ ?_⟩ | refine ⟨by omega, by omega, hK _ _ ?_⟩
    clear hK K
    refine AWp.ret ?_
    simp
end Go.AM
namespace Go.AM
open Go.Proofs

def u8sAV (l : List Int) : List (List AV) := l.map fun n => [.i .u8 n]
@[simp] theorem u8sAV_length (l : List Int) : (u8sAV l).length = l.length := by simp [u8sAV]
@[simp] theorem u8sAV_getElem (l : List Int) (i : Nat) (h : i < (u8sAV l).length) : (u8sAV l)[i] = [.i .u8 (l[i]'(by simpa using h))] := by simp [u8sAV]
def canB (s : List Int) (e : Ev) : Bool := decide (getC s e.dot.1 < e.dot.2) && withinB e.past s
def cans (l : List Ev) (s : List Int) : List Ev := l.filter (canB s)
theorem cans_len (l : List Ev) (s : List Int) : (cans l s).length ≤ l.length := List.length_filter_le _ _
def pick (turns : List Int) (i m : Nat) : Nat := if h : i < turns.length then (turns[i].tmod m).toNat else 0
theorem pick_lt {turns : List Int} (ht : ∀ x ∈ turns, 0 ≤ x ∧ x < 256) (i : Nat) {m : Nat} (hm : 0 < m) : pick turns i m < m := by
  unfold pick
  split
  · rename_i h
    have h1 := ht _ (List.getElem_mem h)
    have h2 := Int.tmod_lt_of_pos turns[i] (by omega : (0 : Int) < m)
    have h3 := Int.tmod_nonneg (m : Int) h1.1
    omega
  · exact hm
def setClk (c : List Int) (rep n : Int) : List Int := plainL (ofL ((List.range 5).map fun k : Nat => if (k : Int) + 1 = rep then n else getC c (k + 1)))
theorem setClk_len (c : List Int) (rep n : Int) : (setClk c rep n).length ≤ 5 := by
  have := refP_len (ofL ((List.range 5).map fun k : Nat => if (k : Int) + 1 = rep then n else getC c (k + 1))) 5
  rw [refP_plain] at this
  exact this
def turnStep (l : List Ev) (turns : List Int) (i : Nat) (q : List Ev × List Int) : List Ev × List Int := match (cans l q.2)[pick turns i (cans l q.2).length]? with
  | some x => (q.1 ++ [x], setClk q.2 x.dot.1 x.dot.2)
  | none => q
def turnTo (l : List Ev) (turns : List Int) : Nat → List Ev × List Int
  | 0 => ([], [])
  | i + 1 => turnStep l turns i (turnTo l turns i)
def turned (l : List Ev) (turns : List Int) : List Ev := (turnTo l turns l.length).1
theorem turnTo_stop {l : List Ev} {turns : List Int} {i : Nat} (h : cans l (turnTo l turns i).2 = []) (n : Nat) : turnTo l turns (i + n) = turnTo l turns i := by
  induction n with
  | zero => rfl
  | succ n ih =>
    rw [← Nat.add_assoc, turnTo, ih]
    unfold turnStep
    rw [h]
    rfl
theorem turnTo_go {l : List Ev} {turns : List Int} {i : Nat} (h : pick turns i (cans l (turnTo l turns i).2).length < (cans l (turnTo l turns i).2).length) :
    turnTo l turns (i + 1) = ((turnTo l turns i).1 ++ [(cans l (turnTo l turns i).2)[pick turns i (cans l (turnTo l turns i).2).length]], setClk (turnTo l turns i).2 (cans l (turnTo l turns i).2)[pick turns i (cans l (turnTo l turns i).2).length].dot.1 (cans l (turnTo l turns i).2)[pick turns i (cans l (turnTo l turns i).2).length].dot.2) := by
  rw [turnTo, turnStep, List.getElem?_eq_getElem h]
theorem turnTo_len (l : List Ev) (turns : List Int) : ∀ i, (turnTo l turns i).1.length ≤ i ∧ (turnTo l turns i).2.length ≤ 5
  | 0 => by simp [turnTo]
  | i + 1 => by
    have ih := turnTo_len l turns i
    rw [turnTo]
    unfold turnStep
    split
    · rename_i x hx
      have := setClk_len (turnTo l turns i).2 x.dot.1 x.dot.2
      simp; omega
    · omega
theorem evsAV_snoc (l : List Ev) (e : Ev) : evsAV (l ++ [e]) = evsAV l ++ [[.i .i64 e.dot.1, .i .i64 e.dot.2, .sl .fro 1 (intsAV e.past), .sl .fro 6 (effsAV e.effs)]] := by
  unfold evsAV; rw [List.map_append]; rfl
theorem cans_take (l : List Ev) (s : List Int) (a : Nat) (h : a < l.length) : cans (l.take (a + 1)) s = if canB s l[a] then cans (l.take a) s ++ [l[a]] else cans (l.take a) s := by
  unfold cans
  rw [List.take_succ_eq_append_getElem h, List.filter_append]
  cases hc : canB s l[a] <;> simp [hc]

set_option maxRecDepth 8000 in
set_option maxHeartbeats 4000000 in
theorem c_law08_Turned (l : List Ev) (turns : List Int) (hlen : l.length ≤ 1000000) (hm : Mild l) (htl : turns.length ≤ 1000000) (ht : ∀ x ∈ turns, 0 ≤ x ∧ x < 256) : Pure Try.prog 33 [.sl .fro 4 (evsAV l), .sl .fro 1 (u8sAV turns)] (.sl .own 4 (evsAV (turned l turns))) := by
  refine proc_of (cx Try.prog 95 [0, 1, 4, 5, 6, 7, 8, 9, 10, 16, 23, 49, 59, 64] [4]) 93 [.tmp 4] Try.func33 rfl rfl rfl rfl rfl rfl (Nat.le_refl _) rfl ?_
  refine AWp.go [0, 1] [] fun K hK => ?_
  simp
  first | refine hK _ _ ?_ | refine ⟨by omega, hK _ _ ?_⟩ | refine ⟨by omega, by omega, hK _ _ ?_⟩
  clear hK K
  refine AWp.go [0, 1, 5] [] fun K hK => ?_
  simp
  first | refine hK _ _ ?_ | refine ⟨by omega, hK _ _ ?_⟩ | refine ⟨by omega, by omega, hK _ _ ?_⟩
  clear hK K
  refine AWp.go [0, 1, 5, 6] [] fun K hK => ?_
  simp
  first | refine hK _ _ ?_ | refine ⟨by omega, hK _ _ ?_⟩ | refine ⟨by omega, by omega, hK _ _ ?_⟩
  clear hK K
  refine AWp.seq ?_
  refine AWp.go [0, 1, 5, 6, 7] [] fun K hK => ?_
  simp
  first | refine hK _ _ ?_ | refine ⟨by omega, hK _ _ ?_⟩ | refine ⟨by omega, by omega, hK _ _ ?_⟩
  clear hK K
  refine AWp.frz [6] ?_
  simp
  refine AWp.block (AWp.while (fun i : Nat => [(0, .sl .fro 4 (evsAV l)), (1, .sl .fro 1 (u8sAV turns)), (5, .sl .own 4 (evsAV (turnTo l turns i).1)), (6, .sl .fro 1 (intsAV (turnTo l turns i).2)), (7, .i .i64 i)]) (fun i => []) (fun i => i ≤ l.length) (fun i => l.length - i) [0, 1, 5, 6, 7] [] 0 (by simp) (by simp [turnTo, evsAV]) ?_)
  intro i hi
  refine AWp.seq ?_
  refine AWp.go [0, 1, 5, 6, 7, 16] [] fun K hK => ?_
  simp
  first | refine hK _ _ ?_ | refine ⟨by omega, hK _ _ ?_⟩ | refine ⟨by omega, by omega, hK _ _ ?_⟩
  clear hK K
  by_cases h : i < l.length
  · refine AWp.cond (t := true) (by first | (simp [h]; done) | (simp [h]; omega)) (fun _ => ?_) (by simp)
    refine AWp.skip ?_
    show AWp _ _ _ _
    refine AWp.seq ?_
    refine AWp.block ?_
    have hT := turnTo_len l turns i
    obtain ⟨o, ho⟩ : ∃ o, o = (turnTo l turns i).1 := ⟨_, rfl⟩
    obtain ⟨s, hs⟩ : ∃ s, s = (turnTo l turns i).2 := ⟨_, rfl⟩
    rw [← ho, ← hs] at hT
    rw [← ho, ← hs]
    refine AWp.go [0, 1, 5, 6, 7, 8] [] fun K hK => ?_
    simp
    first | refine hK _ _ ?_ | refine ⟨by omega, hK _ _ ?_⟩ | refine ⟨by omega, by omega, hK _ _ ?_⟩
    clear hK K
    refine AWp.seq ?_
    refine AWp.go [0, 1, 5, 6, 7, 8, 9] [] fun K hK => ?_
    simp
    first | refine hK _ _ ?_ | refine ⟨by omega, hK _ _ ?_⟩ | refine ⟨by omega, by omega, hK _ _ ?_⟩
    clear hK K
    refine AWp.block (AWp.while (fun a : Nat => [(0, .sl .fro 4 (evsAV l)), (1, .sl .fro 1 (u8sAV turns)), (5, .sl .own 4 (evsAV o)), (6, .sl .fro 1 (intsAV s)), (7, .i .i64 i), (8, .sl .own 4 (evsAV (cans (l.take a) s))), (9, .i .i64 a)]) (fun a => []) (fun a => a ≤ l.length) (fun a => l.length - a) [0, 1, 5, 6, 7, 8, 9] [] 0 (by simp) (by simp [cans, evsAV]) ?_)
    intro a ha
    refine AWp.seq ?_
    refine AWp.go [0, 1, 5, 6, 7, 8, 9, 23] [] fun K hK => ?_
    simp
    first | refine hK _ _ ?_ | refine ⟨by omega, hK _ _ ?_⟩ | refine ⟨by omega, by omega, hK _ _ ?_⟩
    clear hK K
    by_cases h2 : a < l.length
    · refine AWp.cond (t := true) (by first | (simp [h2]; done) | (simp [h2]; omega)) (fun _ => ?_) (by simp)
      refine AWp.skip ?_
      show AWp _ _ _ _
      refine AWp.seq ?_
      refine AWp.block ?_
      have hca := cans_len (l.take a) s
      rw [List.length_take] at hca
      refine AWp.stepD 24 (fun k0 => if k0 = 13 then .i .i64 (getC s l[a].dot.1) else if k0 = 22 then .b (withinB l[a].past s) else .any) [0, 1, 5, 6, 7, 8, 9, 49] [] [(0, .sl .fro 4 (evsAV l)), (1, .sl .fro 1 (u8sAV turns)), (5, .sl .own 4 (evsAV o)), (6, .sl .fro 1 (intsAV s)), (7, .i .i64 i), (8, .sl .own 4 (evsAV (cans (l.take a) s))), (9, .i .i64 a), (49, .b (canB s l[a]))] [] mix (by kernel_rfl) ?_ ?_
      · have hma := hm _ (List.getElem_mem h2)
        have g1 := c_ref03_Get s l[a].dot.1 (by omega)
        have g2 := c_ref03_Within l[a].past s (by omega) (by omega)
        by_cases q1 : getC s l[a].dot.1 < l[a].dot.2
        · simp [h2, canB, q1, g1, g2]
        · simp [h2, canB, q1, g1]
      cases hp : canB s l[a]
      · refine AWp.cond (t := false) (by simp) (by simp) (fun _ => ?_)
        refine AWp.skip ?_
        show AWp _ _ _ _
        refine AWp.goLast [0, 1, 5, 6, 7, 8, 9] [] fun K hK => ?_
        simp
        first | refine hK _ _ ?_ | refine ⟨by omega, hK _ _ ?_⟩ | refine ⟨by omega, by omega, hK _ _ ?_⟩
        clear hK K
        refine ⟨a + 1, by omega, by omega, ?_⟩
        simp [cans_take _ _ _ h2, hp]
        exact wrap64 (by omega) (by omega)
      · refine AWp.cond (t := true) (by simp) (fun _ => ?_) (by simp)
        refine AWp.goLast [0, 1, 5, 6, 7, 8, 9] [] fun K hK => ?_
        simp [h2]
        first | refine hK _ _ ?_ | refine ⟨by omega, hK _ _ ?_⟩ | refine ⟨by omega, by omega, hK _ _ ?_⟩
        clear hK K
        show AWp _ _ _ _
        refine AWp.goLast [0, 1, 5, 6, 7, 8, 9] [] fun K hK => ?_
        simp
        first | refine hK _ _ ?_ | refine ⟨by omega, hK _ _ ?_⟩ | refine ⟨by omega, by omega, hK _ _ ?_⟩
        clear hK K
        refine ⟨a + 1, by omega, by omega, ?_⟩
        simp [cans_take _ _ _ h2, hp, evsAV_snoc]
        exact wrap64 (by omega) (by omega)
    · refine AWp.cond (t := false) (by first | (simp [h2]; done) | (simp [h2]; omega)) (by simp) (fun _ => ?_)
      refine AWp.exit ?_
      show AWp _ _ _ _
      refine AWp.seq ?_
      obtain rfl : a = l.length := by omega
      rw [List.take_length]
      have hcl := cans_len l s
      refine AWp.go [0, 1, 5, 6, 7, 8, 59] [] fun K hK => ?_
      simp
      first | refine hK _ _ ?_ | refine ⟨by omega, hK _ _ ?_⟩ | refine ⟨by omega, by omega, hK _ _ ?_⟩
      clear hK K
      by_cases h3 : (cans l s).length = 0
      · refine AWp.cond (t := true) (by simp at h3 ⊢; simp [h3]) (fun _ => ?_) (by simp)
        refine AWp.go [4] [] fun K hK => ?_
        simp
        first | refine hK _ _ ?_ | refine ⟨by omega, hK _ _ ?_⟩ | refine ⟨by omega, by omega, hK _ _ ?_⟩
        clear hK K
        refine AWp.ret ?_
        have e : turned l turns = o := by
          have hn : cans l s = [] := List.length_eq_zero_iff.1 h3
          rw [hs] at hn
          have := turnTo_stop hn (l.length - i)
          rw [turned, show l.length = i + (l.length - i) by omega, this, ho]
        simp [e]
      · refine AWp.cond (t := false) (by simp at h3 ⊢; simp [h3]) (by simp) (fun _ => ?_)
        refine AWp.skip ?_
        show AWp _ _ _ _
        refine AWp.frz [8] ?_
        simp
        refine AWp.go [0, 1, 5, 6, 7, 8, 10] [] fun K hK => ?_
        simp
        first | refine hK _ _ ?_ | refine ⟨by omega, hK _ _ ?_⟩ | refine ⟨by omega, by omega, hK _ _ ?_⟩
        clear hK K
        refine AWp.seq ?_
        have hpl := pick_lt ht i (m := (cans l s).length) (by omega)
        refine AWp.go [0, 1, 5, 6, 7, 8, 10, 64] [] fun K hK => ?_
        simp
        first | refine hK _ _ ?_ | refine ⟨by omega, hK _ _ ?_⟩ | refine ⟨by omega, by omega, hK _ _ ?_⟩
        clear hK K
        by_cases h4 : i < turns.length
        · refine AWp.cond (t := true) (by first | (simp [h4]; done) | (simp [h4]; omega)) (fun _ => ?_) (by simp)
          have ht4 := ht _ (List.getElem_mem h4)
          have hpk : pick turns i (cans l s).length = (turns[i].tmod (cans l s).length).toNat := by simp [pick, h4]
          have hnn := Int.tmod_nonneg ((cans l s).length : Int) ht4.1
          have w0 : IntKind.i64.wrap turns[i] = turns[i] := wrap64 (by omega) (by omega)
          have w1 : IntKind.i64.wrap (turns[i].tmod ((cans l s).length : Int)) = (pick turns i (cans l s).length : Int) := by
            rw [hpk, wrap64 (by omega) (by have := Int.tmod_lt_of_pos turns[i] (by omega : (0 : Int) < (cans l s).length); omega)]
            omega
          refine AWp.last [0, 1, 5, 6, 7, 8, 10] [] [(0, .sl .fro 4 (evsAV l)), (1, .sl .fro 1 (u8sAV turns)), (5, .sl .own 4 (evsAV o)), (6, .sl .fro 1 (intsAV s)), (7, .i .i64 i), (8, .sl .fro 4 (evsAV (cans l s))), (10, .i .i64 (pick turns i (cans l s).length))] [] ?_ ?_
          · simp [h4, w0]
            exact ⟨fun h0 => h3 (by rw [h0]; rfl), by rw [hpk]; exact (Int.toNat_of_nonneg hnn).symm⟩
          show AWp _ _ _ _
          obtain ⟨x, hx⟩ : ∃ x, x = (cans l s)[pick turns i (cans l s).length] := ⟨_, rfl⟩
          refine AWp.step [0, 1, 5, 6, 7, 8, 10] [] [(0, .sl .fro 4 (evsAV l)), (1, .sl .fro 1 (u8sAV turns)), (5, .sl .own 4 (evsAV (o ++ [x]))), (6, .sl .fro 1 (intsAV s)), (7, .i .i64 i), (8, .sl .fro 4 (evsAV (cans l s))), (10, .i .i64 (pick turns i (cans l s).length))] [] ?_ ?_
          · rw [evsAV_snoc, hx]
            simp [hpl]
            omega
          have g5 := (c_ref03_Set s x.dot.1 x.dot.2 (by omega)).fro
          rw [hx] at g5
          simp at g5
          refine AWp.lastD 14 (fun k0 => if k0 = 13 then .sl .fro 1 (intsAV (setClk s x.dot.1 x.dot.2)) else .any) [0, 1, 5, 6, 7] [] [(0, .sl .fro 4 (evsAV l)), (1, .sl .fro 1 (u8sAV turns)), (5, .sl .own 4 (evsAV (o ++ [x]))), (6, .sl .fro 1 (intsAV (setClk s x.dot.1 x.dot.2))), (7, .i .i64 i)] [] mix (by kernel_rfl) ?_ ?_
          · rw [hx]
            simp [hpl, setClk]
            exact g5
          show AWp _ _ _ _
          refine AWp.goLast [0, 1, 5, 6, 7] [] fun K hK => ?_
          simp
          first | refine hK _ _ ?_ | refine ⟨by omega, hK _ _ ?_⟩ | refine ⟨by omega, by omega, hK _ _ ?_⟩
          clear hK K
          refine ⟨i + 1, by omega, by omega, ?_⟩
          have e := turnTo_go (l := l) (turns := turns) (i := i) (by rw [← hs]; exact hpl)
          simp only [← hs, ← ho] at e
          rw [← hx] at e
          rw [e]
          simp
          exact wrap64 (by omega) (by omega)
        · refine AWp.cond (t := false) (by first | (simp [h4]; done) | (simp [h4]; omega)) (by simp) (fun _ => ?_)
          refine AWp.skip ?_
          show AWp _ _ _ _
          obtain ⟨x, hx⟩ : ∃ x, x = (cans l s)[pick turns i (cans l s).length] := ⟨_, rfl⟩
          have hp0 : pick turns i (cans l s).length = 0 := by simp [pick, h4]
          rw [show AV.i .i64 0 = AV.i .i64 (pick turns i (cans l s).length : Nat) by rw [hp0]; rfl]
          refine AWp.step [0, 1, 5, 6, 7, 8, 10] [] [(0, .sl .fro 4 (evsAV l)), (1, .sl .fro 1 (u8sAV turns)), (5, .sl .own 4 (evsAV (o ++ [x]))), (6, .sl .fro 1 (intsAV s)), (7, .i .i64 i), (8, .sl .fro 4 (evsAV (cans l s))), (10, .i .i64 (pick turns i (cans l s).length))] [] ?_ ?_
          · rw [evsAV_snoc, hx]
            simp [hpl]
            omega
          have g5 := (c_ref03_Set s x.dot.1 x.dot.2 (by omega)).fro
          rw [hx] at g5
          simp at g5
          refine AWp.lastD 14 (fun k0 => if k0 = 13 then .sl .fro 1 (intsAV (setClk s x.dot.1 x.dot.2)) else .any) [0, 1, 5, 6, 7] [] [(0, .sl .fro 4 (evsAV l)), (1, .sl .fro 1 (u8sAV turns)), (5, .sl .own 4 (evsAV (o ++ [x]))), (6, .sl .fro 1 (intsAV (setClk s x.dot.1 x.dot.2))), (7, .i .i64 i)] [] mix (by kernel_rfl) ?_ ?_
          · rw [hx]
            simp [hpl, setClk]
            exact g5
          show AWp _ _ _ _
          refine AWp.goLast [0, 1, 5, 6, 7] [] fun K hK => ?_
          simp
          first | refine hK _ _ ?_ | refine ⟨by omega, hK _ _ ?_⟩ | refine ⟨by omega, by omega, hK _ _ ?_⟩
          clear hK K
          refine ⟨i + 1, by omega, by omega, ?_⟩
          have e := turnTo_go (l := l) (turns := turns) (i := i) (by rw [← hs]; exact hpl)
          simp only [← hs, ← ho] at e
          rw [← hx] at e
          rw [e]
          simp
          exact wrap64 (by omega) (by omega)
  · refine AWp.cond (t := false) (by first | (simp [h]; done) | (simp [h]; omega)) (by simp) (fun _ => ?_)
    refine AWp.exit ?_
    show AWp _ _ _ _
    obtain rfl : i = l.length := by omega
    refine AWp.go [4] [] fun K hK => ?_
    simp
    first | refine hK _ _ ?_ | refine ⟨by omega, hK _ _ ?_⟩ | refine ⟨by omega, by omega, hK _ _ ?_⟩
    clear hK K
    refine AWp.ret ?_
    simp [turned]
end Go.AM
namespace Go.AM

theorem pure_int {P : Program} {f : Nat} {args : List AV} {k : IntKind} {n : Int} (hf : ∃ fn c, P.funcs[f]? = some fn ∧ fn.body = some c ∧ (fn.name == "runtime.NumGoroutine") = false)
    (h : ∀ (w : World) (E : Env) (vs : Array Value), args.length = vs.size → (∀ (k : Nat) c, args[k]? = some c → Val E .no c (vs.getD k undef)) →
      Calls P f vs w fun e w' => e = .returned (.int k n) ∧ w' = w) : Pure P f args (.i k n) := by
  refine ⟨hf, fun w β ω Pub vs R hω hl hv => ?_⟩
  refine (h w _ vs hl hv).mono ?_
  rintro e w' ⟨rfl, rfl⟩
  have hω0 : ∀ bk, ω bk = none := fun bk => by
    cases hq : ω bk with
    | none => rfl
    | some q => have := hω bk q hq; cases q <;> simp [inBx] at this
  have hpl : ∀ bk, Pub bk → bk < w'.heap.size := fun bk h => (R.pub bk h).1
  refine ⟨_, ⟨w', β, fun _ => none, Pub, St.ofBoxes [], #[]⟩, rfl, rfl, ⟨⟨rfl, fun t => .any _ _, fun id cs h => (by cases h), fun bk h => ⟨hpl bk h, rfl⟩, fun bk q h => (by cases h), fun id h => by cases h⟩, ⟨rfl, rfl, rfl, Nat.le_refl _, fun k hk _ => rfl, fun k q h => (by cases h), fun _ h => h, fun _ h => .inl h, fun _ _ => rfl⟩⟩, rfl, fun bk q h => (by cases h), .i _ _ _⟩
end Go.AM
namespace Go.AM
open Go.Proofs Go.Shelf Go.RowKit Go.Lib
theorem pure_cmpS {P : Program} {ρ : Ren} (L : Lays.n106 P ρ) (a b : ByteArray) : Pure P (ρ.f 106) [.s a, .s b] (.i .i64 (Lib.compareBytes a.data.toList b.data.toList)) := by
  refine pure_int ⟨_, _, L.f106, rfl, rfl⟩ fun w E vs hl hv => ?_
  have hvs : vs = #[.string a, .string b] := by
    have e0 := hv 0 _ rfl
    have e1 := hv 1 _ rfl
    have e2 : vs.getD 0 undef = .string a := by
      generalize vs.getD 0 undef = v at e0
      cases e0; rfl
    have e3 : vs.getD 1 undef = .string b := by
      generalize vs.getD 1 undef = v at e1
      cases e1; rfl
    have hsz : vs.size = 2 := hl.symm
    apply Array.ext
    · rw [hsz]; rfl
    · intro j hj hj2
      rw [hsz] at hj
      match j, hj with
      | 0, _ => rw [Array.getD_eq_getD_getElem?, Array.getElem?_eq_getElem (by omega)] at e2; exact e2
      | 1, _ => rw [Array.getD_eq_getD_getElem?, Array.getElem?_eq_getElem (by omega)] at e3; exact e3
  subst hvs
  exact Any.strings_Compare L a b w
end Go.AM
