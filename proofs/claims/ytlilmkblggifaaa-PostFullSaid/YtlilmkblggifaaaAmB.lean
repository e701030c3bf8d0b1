/- What becomes of marks where a value is kept: taken over, or given up. No project text. -/
import Derived.Test.YtlilmkblggifaaaAmA
import Derived.Laws.CopyRow
import Derived.Laws.AppendOwn
import Derived.IntWalk
namespace Go.AM

/-- Each view within a value is settled: taken over (`Q`: to where it goes), or given up (`F`). -/
def resLeafOk (Q : Place → Option Place) (F : Place → Bool) (p : Place) : AV → Bool
  | .sl (.vw q ex) _ _ => (ex && decide (Q q = some p) && !F q && decide (p ≠ .no)) || F q
  | .sl .own _ _ => false
  | .pt (.vw q _) _ _ _ => F q
  | _ => true

mutual
def AV.resOk (Q : Place → Option Place) (F : Place → Bool) : Place → AV → Bool
  | p, .agg cs => AV.resOkL Q F p 0 cs
  | p, .tup cs => AV.resOkL Q F p 0 cs
  | _, .fn _ fi ca => AV.resOkN Q F fi && AV.resOkN Q F ca
  | p, x => resLeafOk Q F p x
def AV.resOkL (Q : Place → Option Place) (F : Place → Bool) : Place → Nat → List AV → Bool
  | _, _, [] => true
  | p, k, x :: xs => AV.resOk Q F (p.sub k) x && AV.resOkL Q F p (k + 1) xs
def AV.resOkN (Q : Place → Option Place) (F : Place → Bool) : List AV → Bool
  | [] => true
  | x :: xs => AV.resOk Q F .no x && AV.resOkN Q F xs
end

def resLeaf (F : Place → Bool) (p : Place) : AV → AV
  | .sl (.vw q _) sz xs => if F q || decide (p = .no) then .sl .fro sz xs else .sl .own sz xs
  | .pt (.vw _ _) ix cs off => .pt .fro ix cs off
  | x => x

theorem AV.resOkL_get {Q F} : ∀ {p : Place} {cs : List AV} {k : Nat}, AV.resOkL Q F p k cs = true → ∀ (j : Nat) c, cs[j]? = some c → c.resOk Q F (p.sub (k + j)) = true
  | p, [], k, _, j, c, h => by simp at h
  | p, x :: xs, k, hr, 0, c, h => by
    simp at h; subst h
    simp only [AV.resOkL, Bool.and_eq_true] at hr
    exact hr.1
  | p, x :: xs, k, hr, j + 1, c, h => by
    simp only [AV.resOkL, Bool.and_eq_true] at hr
    have := AV.resOkL_get hr.2 j c (by simpa using h)
    rwa [show k + 1 + j = k + (j + 1) by omega] at this

theorem AV.resOkN_get {Q F} : ∀ {cs : List AV}, AV.resOkN Q F cs = true → ∀ (j : Nat) c, cs[j]? = some c → c.resOk Q F .no = true
  | [], _, j, c, h => by simp at h
  | x :: xs, hr, 0, c, h => by
    simp at h; subst h
    simp only [AV.resOkN, Bool.and_eq_true] at hr
    exact hr.1
  | x :: xs, hr, j + 1, c, h => by
    simp only [AV.resOkN, Bool.and_eq_true] at hr
    exact AV.resOkN_get hr.2 j c (by simpa using h)

def Env.settle (E : Env) (Q : Place → Option Place) (F : Place → Bool) : Env := (E.fz F).take Q

theorem settle_pub {E : Env} {Q F} : ∀ bk, E.Pub bk → (E.settle Q F).Pub bk ∧ E.w.heap[bk]? = E.w.heap[bk]? := fun _ h => ⟨.inl h, rfl⟩

/-- The room that a place owns: out of an exact view of it. -/
theorem exact_room {N : Nat} {E : Env} (R : Rel N E) {q : Place} {sz : Nat} {xs : List (List AV)} {bk off cap : Nat} (hc : E.con q = some (.slice (some ⟨bk, off, none⟩) xs.length cap)) (ha : E.st.abs q = .sl .own sz xs) :
    Room E.w bk off (cap * sz) := by
  have := R.at hc
  rw [ha] at this
  cases this with
  | sl _ _ _ _ _ _ _ _ _ hg _ => exact hg.2

theorem Val.settle {N : Nat} {E : Env} (R : Rel N E) {Q : Place → Option Place} {F : Place → Bool} {p0 : Place} {x : AV} {v : Value} (hv : Val E p0 x v) :
    ∀ p, x.resOk Q F p = true → Val (E.settle Q F) p (x.tr (resLeaf F) p) v := by
  induction hv with
  | any p v => exact fun p _ => .any p v
  | b p x => exact fun p _ => .b p x
  | i p k n => exact fun p _ => .i p k n
  | s p x => exact fun p _ => .s p x
  | nil p => exact fun p _ => .nil p
  | nofn p => exact fun p _ => .nofn p
  | ptr p id off => exact fun p _ => .ptr (E := E.settle Q F) p id off
  | pt p1 g ix cells off bk o hc hg ha =>
    intro p hr
    rw [AV.tr_leaf rfl]
    cases g with
    | own => exact hg.elim
    | nl => exact hg.elim
    | fro => exact .pt p .fro ix cells off bk o (hc.mono settle_pub rfl) (settle_pub _ hg).1 trivial
    | vw q ex =>
      simp only [AV.resOk, resLeafOk] at hr
      exact .pt p .fro ix cells off bk o (hc.mono settle_pub rfl) (.inr ⟨q, hg.1, hr⟩) trivial
  | sl1 p1 sz a cap => exact fun p _ => .sl1 p sz a cap
  | sl0 p1 g sz h0 ha =>
    intro p hr
    rw [AV.tr_leaf rfl]
    cases g with
    | own => simp [AV.resOk, resLeafOk] at hr
    | fro => exact .sl0 p _ sz (by simp) trivial
    | nl => exact .sl0 p _ sz (by simp) trivial
    | vw q ex =>
      simp only [resLeaf]
      split <;> exact .sl0 p _ sz (by simp) trivial
  | sl p1 g sz xs bk off cap hc hr1 hg ha =>
    intro p hr
    rw [AV.tr_leaf rfl]
    cases g with
    | own => simp [AV.resOk, resLeafOk] at hr
    | fro => exact .sl p .fro sz xs bk off cap hc (hr1.mono settle_pub rfl) (settle_pub _ hg).1 trivial
    | nl => exact hg.elim
    | vw q ex =>
      simp only [AV.resOk, resLeafOk, Bool.or_eq_true, Bool.and_eq_true, decide_eq_true_eq, Bool.not_eq_true'] at hr
      simp only [resLeaf]
      rcases hr with ⟨⟨⟨he, hQ⟩, hF⟩, hp⟩ | hF
      · rw [if_neg (by simp [hF, hp])]
        obtain ⟨h1, h2⟩ := hg
        obtain ⟨h3, h4⟩ := h2 he
        refine .sl p .own sz xs bk off cap hc (hr1.mono settle_pub rfl) ⟨?_, exact_room R h3 h4⟩ trivial
        simp [Env.settle, Env.take, Env.fz, h1, hF, hQ]
      · rw [if_pos (by simp [hF])]
        exact .sl p .fro sz xs bk off cap hc (hr1.mono settle_pub rfl) (.inr ⟨q, hg.1, hF⟩) trivial
  | fn p1 f fi ca fi' ca' h1 h2 _ _ ih1 ih2 =>
    intro p hr
    rw [AV.tr]
    simp only [AV.resOk, Bool.and_eq_true] at hr
    refine .fn p f _ _ fi' ca' (by rw [AV.trN_length]; exact h1) (by rw [AV.trN_length]; exact h2) (fun k c hk => ?_) (fun k c hk => ?_)
    · rw [AV.trN_get] at hk
      obtain ⟨c', hc, rfl⟩ := Option.map_eq_some_iff.1 hk
      exact ih1 k c' hc .no (AV.resOkN_get hr.1 k c' hc)
    · rw [AV.trN_get] at hk
      obtain ⟨c', hc, rfl⟩ := Option.map_eq_some_iff.1 hk
      exact ih2 k c' hc .no (AV.resOkN_get hr.2 k c' hc)
  | agg p1 cs arr h1 _ ih =>
    intro p hr
    rw [AV.tr]
    rw [AV.resOk] at hr
    refine .agg p _ arr (by rw [AV.trL_length]; exact h1) (fun k c hk => ?_)
    rw [AV.trL_get] at hk
    obtain ⟨c', hc, rfl⟩ := Option.map_eq_some_iff.1 hk
    have h3 := AV.resOkL_get hr k c' hc
    rw [Nat.zero_add] at h3 ⊢
    exact ih k c' hc _ h3
  | tup p1 cs arr h1 _ ih =>
    intro p hr
    rw [AV.tr]
    rw [AV.resOk] at hr
    refine .tup p _ arr (by rw [AV.trL_length]; exact h1) (fun k c hk => ?_)
    rw [AV.trL_get] at hk
    obtain ⟨c', hc, rfl⟩ := Option.map_eq_some_iff.1 hk
    have h3 := AV.resOkL_get hr k c' hc
    rw [Nat.zero_add] at h3 ⊢
    exact ih k c' hc _ h3

theorem Rel.settle {N : Nat} {E : Env} (R : Rel N E) (Q : Place → Option Place) (F : Place → Bool) (hQ : ∀ id, Q (.box id) = none) (hF : ∀ id, F (.box id) = false) : Rel N (E.settle Q F) :=
  (R.fz F hF).take Q hQ

/- Data: a value all of whose slices never turn. -/
mutual
def AV.data : AV → Bool
  | .b _ | .i _ _ | .s _ | .nil | .nofn => true
  | .sl .fro _ _ => true
  | .agg cs => AV.dataL cs
  | _ => false
def AV.dataL : List AV → Bool
  | [] => true
  | x :: xs => x.data && AV.dataL xs
end

theorem AV.dataL_iff : ∀ {cs : List AV}, AV.dataL cs = true ↔ ∀ c ∈ cs, c.data = true
  | [] => by simp [AV.dataL]
  | x :: xs => by simp [AV.dataL, AV.dataL_iff (cs := xs)]

theorem Val.dat {E : Env} {p : Place} {x : AV} {v : Value} (hv : Val E p x v) : x.data = true → Dat E.Pub E.w x v := by
  induction hv with
  | b p x => exact fun _ => .b x
  | i p k n => exact fun _ => .i k n
  | s p x => exact fun _ => .s x
  | nil p => exact fun _ => .nil
  | nofn p => exact fun _ => .nofn
  | sl1 p sz a cap => exact fun _ => .sl1 sz a cap
  | sl0 p g sz h0 ha =>
    intro h
    cases g <;> first | (simp [AV.data] at h; done) | exact .sl0 sz
  | sl p g sz xs bk off cap hc hr hg ha =>
    intro h
    cases g with
    | fro =>
      refine .sl sz xs bk off cap (fun k => (E.w.cell? ⟨bk, off + k, none⟩).getD undef) hg hc hr.1 (fun k c hk => ?_) (fun k c hk => ?_) (fun k c hk => ?_)
      · obtain ⟨u, hu, hd⟩ := hr.2 k c hk
        simp [hu]
      · obtain ⟨u, hu, hd⟩ := hr.2 k c hk
        simpa [hu] using hd.2
      · obtain ⟨u, hu, hd⟩ := hr.2 k c hk
        simpa [hu] using hd.1
    | _ => simp [AV.data] at h
  | agg p cs arr h1 _ ih =>
    intro h
    rw [AV.data, AV.dataL_iff] at h
    exact .agg cs arr h1 fun k c hk => ih k c hk (h c (List.mem_of_getElem? hk))
  | any => intro h; simp [AV.data] at h
  | ptr => intro h; simp [AV.data] at h
  | pt => intro h; simp [AV.data] at h
  | fn => intro h; simp [AV.data] at h
  | tup => intro h; simp [AV.data] at h

/-- A value made data: views are given up (`F`), nil slices are empty ones. -/
def dzLeaf (F : Place → Bool) (_ : Place) : AV → AV
  | .sl (.vw q ex) sz xs => if F q then .sl .fro sz xs else .sl (.vw q ex) sz xs
  | .sl .nl sz [] => .sl .fro sz []
  | x => x

def AV.dz (F : Place → Bool) (x : AV) : AV := x.tr (dzLeaf F) .no

theorem Val.dz {E : Env} {F : Place → Bool} {p0 : Place} {x : AV} {v : Value} (hv : Val E p0 x v) : (x.dz F).data = true → Dat (E.fz F).Pub (E.fz F).w (x.dz F) v := by
  have hpub : ∀ bk, E.Pub bk → (E.fz F).Pub bk ∧ E.w.heap[bk]? = E.w.heap[bk]? := fun bk h => ⟨.inl h, rfl⟩
  unfold AV.dz
  have key : ∀ p, (x.tr (dzLeaf F) p).data = true → Dat (E.fz F).Pub (E.fz F).w (x.tr (dzLeaf F) p) v := by
    induction hv with
    | any p v => intro p h; simp [AV.tr, dzLeaf, AV.data] at h
    | b p x => exact fun p _ => .b x
    | i p k n => exact fun p _ => .i k n
    | s p x => exact fun p _ => .s x
    | nil p => exact fun p _ => .nil
    | nofn p => exact fun p _ => .nofn
    | ptr p id off => intro p h; simp [AV.tr, dzLeaf, AV.data] at h
    | pt p g ix cells off bk o hc hg ha => intro p h; simp [AV.tr, dzLeaf, AV.data] at h
    | sl1 p1 sz a cap => exact fun p _ => .sl1 sz a cap
    | sl0 p1 g sz h0 ha =>
      intro p h
      rw [AV.tr_leaf rfl] at h ⊢
      cases g with
      | own => simp [dzLeaf, AV.data] at h
      | fro => exact .sl0 sz
      | nl => exact .sl0 sz
      | vw q ex =>
        simp only [dzLeaf] at h ⊢
        split at h
        · rename_i hf; rw [if_pos hf]; exact .sl0 sz
        · simp [AV.data] at h
    | sl p1 g sz xs bk off cap hc hr hg ha =>
      intro p h
      rw [AV.tr_leaf rfl] at h ⊢
      cases g with
      | own => simp [dzLeaf, AV.data] at h
      | nl => exact hg.elim
      | fro => exact (Val.sl (E := E.fz F) p .fro sz xs bk off cap hc (hr.mono hpub rfl) (hpub _ hg).1 trivial).dat rfl
      | vw q ex =>
        simp only [dzLeaf] at h ⊢
        split at h
        · rename_i hf
          rw [if_pos hf]
          exact (Val.sl (E := E.fz F) p .fro sz xs bk off cap hc (hr.mono hpub rfl) (.inr ⟨q, hg.1, hf⟩) trivial).dat rfl
        · simp [AV.data] at h
    | fn p f fi ca fi' ca' h1 h2 _ _ ih1 ih2 => intro p h; simp [AV.tr, AV.data] at h
    | agg p1 cs arr h1 _ ih =>
      intro p h
      rw [AV.tr] at h ⊢
      rw [AV.data, AV.dataL_iff] at h
      refine .agg _ arr (by rw [AV.trL_length]; exact h1) fun k c hk => ?_
      have hmem := List.mem_of_getElem? hk
      rw [AV.trL_get] at hk
      obtain ⟨c', hc, rfl⟩ := Option.map_eq_some_iff.1 hk
      exact ih k c' hc _ (h _ hmem)
    | tup p cs arr h1 _ ih => intro p h; simp [AV.tr, AV.data] at h
  exact key .no

end Go.AM
namespace Go.AM

theorem heap_alloc_old' (w : World) (o : Obj) (bk : Nat) (h : bk < w.heap.size) : (w.alloc o).heap[bk]? = w.heap[bk]? := by
  show (w.heap.push o)[bk]? = _
  rw [Array.getElem?_push, if_neg (by omega)]

theorem heap_alloc_new' (w : World) (o : Obj) : (w.alloc o).heap[w.heap.size]? = some o := by
  show (w.heap.push o)[w.heap.size]? = _
  simp

theorem heap_alloc_size' (w : World) (o : Obj) : (w.alloc o).heap.size = w.heap.size + 1 := by
  show (w.heap.push o).size = _
  simp

def St.setBox (st : St) (id : Nat) (cs : Option (List AV)) : St := { st with boxes := fun i => if i = id then cs else st.boxes i }

theorem St.abs_slot (st : St) (t : Nat) (π : List Nat) : st.abs (.slot t π) = (st.slots t).at π := rfl

/-- A box's cells turn: its block is written; so may be what dead places own. -/
theorem Rel.setBox {N : Nat} {E : Env} (R : Rel N E) (Dead : Place → Prop) (hdead : ∀ q sz xs, E.st.abs q = .sl .own sz xs → ¬ Dead q) (hdb : ∀ id, ¬ Dead (.box id)) (hdn : ¬ Dead .no)
    (w' : World) (ω' : Nat → Option Place) (Pub' : Nat → Prop) (id : Nat) (D : Nat → Prop) (cs cs' : List AV) (arr arr' : Array Value) (T T' : TypeId) (hb : E.st.boxes id = some cs)
    (ha : E.w.heap[E.β id]? = some (.cells arr T (0, 0)))
    (hw : ∀ bk, bk < E.w.heap.size → bk ≠ E.β id → (∀ q, E.ω bk = some q → ¬ Dead q) → w'.heap[bk]? = E.w.heap[bk]?) (hw' : w'.heap[E.β id]? = some (.cells arr' T' (0, 0)))
    (hlen : arr'.size = cs'.length) (hcl : cs'.length = cs.length) (hown0 : ∀ (j : Nat) c, cs[j]? = some c → D j → ∀ sz xs, c ≠ .sl .own sz xs) (hsame : ∀ j, ¬ D j → cs'[j]? = cs[j]? ∧ arr'[j]? = arr[j]?)
    (hω : ∀ bk q, E.ω bk = some q → ω' bk = some q) (hP : ∀ bk, E.Pub bk → Pub' bk)
    (hpub : ∀ bk, Pub' bk → bk < w'.heap.size ∧ ω' bk = none) (hown : ∀ bk q, ω' bk = some q → bk < w'.heap.size) :
    let E' : Env := { w := w', β := E.β, ω := ω', Pub := Pub', st := E.st.setBox id (some cs'), tm := E.tm }
    Stays (fun q => (∀ j, q = .cell id j → ¬ D j) ∧ ¬ Dead q ∧ q ≠ .box id) (fun _ => True) E E' ∧
      ((∀ (j : Nat) c, cs'[j]? = some c → D j → Val E' (.cell id j) c (arr'.getD j undef)) → Rel N E') := by
  intro E'
  have hbb := R.boxes id cs hb
  have hq : ∀ q sz xs, E.st.abs q = .sl .own sz xs → (∀ j, q = .cell id j → ¬ D j) ∧ ¬ Dead q ∧ q ≠ .box id := by
    intro q sz xs h
    refine ⟨fun j he hd => ?_, hdead q sz xs h, fun he => ?_⟩
    · subst he
      simp only [St.abs, hb, Option.getD_some] at h
      cases hj : cs[j]? with
      | none => rw [List.getD_eq_getElem?_getD, hj] at h; simp at h
      | some c =>
        rw [getD_get hj] at h
        exact hown0 j c hj hd sz xs h
    · subst he; simp [St.abs] at h
  have hpb : ∀ bk, E.Pub bk → w'.heap[bk]? = E.w.heap[bk]? := fun bk h => hw bk (R.pub bk h).1 (fun e => by have := (R.pub bk h).2; rw [e, hbb.1] at this; cases this) (by rw [(R.pub bk h).2]; simp)
  have hob : ∀ bk q, ¬ Dead q → q ≠ .box id → E.ω bk = some q → w'.heap[bk]? = E.w.heap[bk]? := fun bk q hn hne h =>
    hw bk (R.own bk q h) (fun e => by rw [e, hbb.1] at h; exact hne (Option.some.inj h).symm) (by rw [h]; simpa using hn)
  have hst : Stays (fun q => (∀ j, q = .cell id j → ¬ D j) ∧ ¬ Dead q ∧ q ≠ .box id) (fun _ => True) E E' := by
    refine ⟨fun bk h => ⟨hP bk h, hpb bk h⟩, fun bk q hs h => ⟨hω bk q h, hob bk q hs.2.1 hs.2.2 h⟩, fun _ _ => rfl, ?_, ?_⟩
    · intro q u sz xs hr hab hc
      cases q with
      | slot t π => exact hc
      | cell i off =>
        have hc' : E.w.cell? ⟨E.β i, off, none⟩ = some u := hc
        show w'.cell? ⟨E.β i, off, none⟩ = some u
        by_cases hi : i = id
        · subst hi
          have hnd := hr.1 off rfl
          simp only [World.cell?, ha] at hc'
          simp only [World.cell?, hw']
          simp only [Option.isSome_none, Bool.false_eq_true, if_false] at hc' ⊢
          rw [(hsame off hnd).2]; exact hc'
        · have hlive : ∃ cs, E.st.boxes i = some cs := by
            cases hbx : E.st.boxes i with
            | none => simp [St.abs, hbx] at hab
            | some cs => exact ⟨cs, rfl⟩
          obtain ⟨csi, hbi⟩ := hlive
          rw [cell_same (hob _ _ (hdb i) (by simpa using hi) (R.boxes i csi hbi).1)]; exact hc'
      | box _ => simp [Env.con] at hc
      | no => simp [Env.con] at hc
    · intro q sz xs hr hab
      cases q with
      | slot t π => exact hab
      | cell i off =>
        by_cases hi : i = id
        · subst hi
          have hnd := hr.1 off rfl
          simp only [St.abs, hb, Option.getD_some] at hab
          show ((((E.st.setBox i (some cs')).boxes i).getD []).getD off .any) = _
          simp only [St.setBox, if_true, Option.getD_some, List.getD_eq_getElem?_getD, (hsame off hnd).1]
          rwa [List.getD_eq_getElem?_getD] at hab
        · show ((((E.st.setBox id (some cs')).boxes i).getD []).getD off .any) = _
          simp only [St.setBox, hi, if_false]; exact hab
      | box _ => simp [St.abs] at hab
      | no => simp [St.abs] at hab
  have hno : (∀ j, Place.no = .cell id j → ¬ D j) ∧ ¬ Dead .no ∧ Place.no ≠ .box id := ⟨by simp, hdn, by simp⟩
  refine ⟨hst, fun hx => ?_⟩
  refine { size := R.size, slots := fun t => (R.slots t).mono hst (R.leansSlot hq hno t), boxes := fun i csi h => ?_, pub := hpub, own := hown }
  by_cases hi : i = id
  · subst hi
    have : csi = cs' := by simpa [E', St.setBox] using h.symm
    subst this
    refine ⟨hω _ _ hbb.1, arr', T', hw', hlen, fun j c hj => ?_⟩
    by_cases hd : D j
    · exact hx j c hj hd
    · obtain ⟨h1, arr0, T0, h2, h3, h4⟩ := hbb
      have e : arr0 = arr := by rw [ha] at h2; cases h2; rfl
      subst e
      obtain ⟨s1, s2⟩ := hsame j hd
      rw [s1] at hj
      have := (h4 j c hj).mono hst (R.leansCell hq hno hb hj)
      rw [Array.getD_eq_getD_getElem?] at this ⊢
      rw [s2]; exact this
  · have h' : E.st.boxes i = some csi := by simpa [E', St.setBox, hi] using h
    obtain ⟨h1, arr0, T0, h2, h3, h4⟩ := R.boxes i csi h'
    refine ⟨hω _ _ h1, arr0, T0, ?_, h3, fun j c hj => ?_⟩
    · show w'.heap[E.β i]? = _
      rw [hob _ _ (hdb i) (by simpa using hi) h1]; exact h2
    · exact (h4 j c hj).mono hst (R.leansCell hq hno h' hj)

theorem Leans.killB {SP : Place → Prop} {id : Nat} {p : Place} {x : AV} (h : Leans SP (fun _ => True) p x) : Leans SP (fun i => i ≠ id) p (x.tr (killBLeaf id) p) := by
  induction h with
  | any p => exact .any p
  | b p x => exact .b p x
  | i p k n => exact .i p k n
  | s p x => exact .s p x
  | nil p => exact .nil p
  | nofn p => exact .nofn p
  | ptr p id' off _ =>
    rw [AV.tr_leaf rfl]
    simp only [killBLeaf]
    split
    · exact .any p
    · rename_i hne; exact .ptr p id' off hne
  | pt p g ix cells off hq => exact .pt p g ix cells off hq
  | sl p g sz xs hq ho => exact .sl p g sz xs hq ho
  | fn p f fi ca h1 h2 ih1 ih2 =>
    rw [AV.tr]
    refine .fn p f _ _ (fun c hc => ?_) (fun c hc => ?_)
    · obtain ⟨k, hk⟩ := List.getElem?_of_mem hc
      rw [AV.trN_get] at hk
      obtain ⟨c', hc', rfl⟩ := Option.map_eq_some_iff.1 hk
      exact ih1 c' (List.mem_of_getElem? hc')
    · obtain ⟨k, hk⟩ := List.getElem?_of_mem hc
      rw [AV.trN_get] at hk
      obtain ⟨c', hc', rfl⟩ := Option.map_eq_some_iff.1 hk
      exact ih2 c' (List.mem_of_getElem? hc')
  | agg p cs _ ih =>
    rw [AV.tr]
    refine .agg p _ fun k c hk => ?_
    rw [AV.trL_get] at hk
    obtain ⟨c', hc', rfl⟩ := Option.map_eq_some_iff.1 hk
    have := ih k c' hc'
    simpa using this
  | tup p cs _ ih =>
    rw [AV.tr]
    refine .tup p _ fun k c hk => ?_
    rw [AV.trL_get] at hk
    obtain ⟨c', hc', rfl⟩ := Option.map_eq_some_iff.1 hk
    have := ih k c' hc'
    simpa using this

/-- A new box, under a name that no pointer bears (any more), and of whose cells nothing is viewed. -/
theorem Rel.newBox {N : Nat} {E : Env} (R : Rel N E) (id : Nat) (cs : List AV) (arr : Array Value) (T : TypeId) (hlen : arr.size = cs.length)
    (hown0 : ∀ j sz xs, E.st.abs (.cell id j) ≠ .sl .own sz xs) :
    let E' : Env := ⟨E.w.alloc (.cells arr T), (fun i => if i = id then E.w.heap.size else E.β i), (fun bk => if bk = E.w.heap.size then some (.box id) else E.ω bk), E.Pub, (E.st.killB id).setBox id (some cs), E.tm⟩
    Stays (fun q => (∀ j, q ≠ .cell id j) ∧ q ≠ .box id) (fun i => i ≠ id) { E with st := E.st.killB id } E' ∧
      ((∀ (j : Nat) c, cs[j]? = some c → Val E' (.cell id j) c (arr.getD j undef)) → Rel N E') := by
  intro E'
  have R1 := R.killB id
  have hold : ∀ bk, bk < E.w.heap.size → E'.w.heap[bk]? = E.w.heap[bk]? := fun bk h => heap_alloc_old' _ _ _ h
  have habs : ∀ q sz xs, E.st.abs q = .sl .own sz xs ↔ (E.st.killB id).abs q = .sl .own sz xs := by
    have aux : ∀ (p : Place) (x : AV) sz xs, x = .sl .own sz xs ↔ x.tr (killBLeaf id) p = .sl .own sz xs := by
      intro p x sz xs
      cases x with
      | agg cs => simp [AV.tr]
      | tup cs => simp [AV.tr]
      | fn f fi ca => simp [AV.tr]
      | ptr i off => simp only [AV.tr, killBLeaf]; split <;> simp
      | _ => simp [AV.tr, killBLeaf]
    intro q sz xs
    unfold St.killB
    rw [St.abs_tr (fun _ => rfl) (killBLeaf_leaf id)]
    cases q with
    | slot t π => exact aux _ _ _ _
    | cell i off => exact aux _ _ _ _
    | _ => simp [St.abs]
  have hst : Stays (fun q => (∀ j, q ≠ .cell id j) ∧ q ≠ .box id) (fun i => i ≠ id) { E with st := E.st.killB id } E' := by
    refine ⟨fun bk h => ⟨h, hold bk (R.pub bk h).1⟩, fun bk q _ h => ⟨?_, hold bk (R.own bk q h)⟩, fun i hi => by simp [E', hi], ?_, ?_⟩
    · have : bk ≠ E.w.heap.size := by have := R.own bk q h; omega
      simp only [E', this, if_false]; exact h
    · intro q u sz xs hr hab hc
      cases q with
      | slot t π => exact hc
      | cell i off =>
        have hi : i ≠ id := fun e => hr.1 off (by rw [e])
        have hc' : E.w.cell? ⟨E.β i, off, none⟩ = some u := hc
        show E'.w.cell? ⟨E'.β i, off, none⟩ = some u
        have : E'.β i = E.β i := by simp [E', hi]
        rw [this, cell_same (hold _ (cell_lt hc'))]; exact hc'
      | box _ => simp [Env.con] at hc
      | no => simp [Env.con] at hc
    · intro q sz xs hr hab
      cases q with
      | slot t π => exact hab
      | cell i off =>
        have hi : i ≠ id := fun e => hr.1 off (by rw [e])
        show (((((E.st.killB id).setBox id (some cs)).boxes i).getD []).getD off .any) = _
        simp only [St.setBox, hi, if_false]; exact hab
      | box _ => simp [St.abs] at hab
      | no => simp [St.abs] at hab
  have hq : ∀ q sz xs, E.st.abs q = .sl .own sz xs → (∀ j, q ≠ .cell id j) ∧ q ≠ .box id := by
    intro q sz xs h
    exact ⟨fun j e => hown0 j sz xs (e ▸ h), fun e => by subst e; simp [St.abs] at h⟩
  have hno : (∀ j, Place.no ≠ .cell id j) ∧ Place.no ≠ .box id := by simp
  refine ⟨hst, fun hx => ?_⟩
  refine { size := R.size, slots := fun t => ?_, boxes := fun i csi h => ?_, pub := ?_, own := ?_ }
  · exact (R1.slots t).mono hst (R.leansSlot hq hno t).killB
  · by_cases hi : i = id
    · subst hi
      have : csi = cs := by simpa [E', St.setBox] using h.symm
      subst this
      refine ⟨by simp [E'], arr, T, ?_, hlen, hx⟩
      show (E.w.alloc (.cells arr T)).heap[if i = i then E.w.heap.size else E.β i]? = _
      rw [if_pos rfl, heap_alloc_new']
    · have h' : (E.st.killB id).boxes i = some csi := by simpa [E', St.setBox, hi] using h
      obtain ⟨h1, arr0, T0, h2, h3, h4⟩ := R1.boxes i csi h'
      have hbi : E'.β i = E.β i := by simp [E', hi]
      have hlt := R.own _ _ h1
      refine ⟨?_, arr0, T0, ?_, h3, fun j c hj => ?_⟩
      · rw [hbi]
        have : E.β i ≠ E.w.heap.size := by simp only at hlt; omega
        simp only [E', this, if_false]; exact h1
      · rw [hbi, hold _ hlt]; exact h2
      · have h5 := h4 j c hj
        simp only [St.killB, St.tr, Option.map_eq_some_iff] at h'
        obtain ⟨cs0, hb0, rfl⟩ := h'
        rw [AV.trC_get] at hj
        obtain ⟨c0, hc0, rfl⟩ := Option.map_eq_some_iff.1 hj
        have := (R.leansCell hq hno hb0 hc0).killB (id := id)
        simp only [Nat.zero_add] at this h5 ⊢
        exact h5.mono hst this
  · intro bk h
    have := R.pub bk h
    refine ⟨by simp only [E', heap_alloc_size']; omega, ?_⟩
    have : bk ≠ E.w.heap.size := by omega
    simp only [E', this, if_false]; exact (R.pub bk h).2
  · intro bk q h
    simp only [E', heap_alloc_size'] at h ⊢
    split at h
    · omega
    · have := R.own bk q h; omega

end Go.AM
namespace Go.AM

/-- The relation and the frame. -/
structure Inv (N : Nat) (S : Start) (E : Env) : Prop where
  rel : Rel N E
  fr : Fr S E

/- No view anywhere within. -/
mutual
def AV.solid : AV → Bool
  | .sl (.vw _ _) _ _ => false
  | .pt (.vw _ _) _ _ _ => false
  | .agg cs => AV.solidL cs
  | .tup cs => AV.solidL cs
  | .fn _ fi ca => AV.solidL fi && AV.solidL ca
  | _ => true
def AV.solidL : List AV → Bool
  | [] => true
  | x :: xs => x.solid && AV.solidL xs
end

theorem AV.solidL_iff : ∀ {cs : List AV}, AV.solidL cs = true ↔ ∀ c ∈ cs, c.solid = true
  | [] => by simp [AV.solidL]
  | x :: xs => by simp [AV.solidL, AV.solidL_iff (cs := xs)]

theorem AV.solidL_get {cs : List AV} (h : AV.solidL cs = true) {k : Nat} {c : AV} (hk : cs[k]? = some c) : c.solid = true := AV.solidL_iff.1 h c (List.mem_of_getElem? hk)

/- No pointer to a certain box. -/
mutual
def AV.noPtr (i : Nat) : AV → Bool
  | .ptr id _ => id != i
  | .agg cs => AV.noPtrL i cs
  | .tup cs => AV.noPtrL i cs
  | .fn _ fi ca => AV.noPtrL i fi && AV.noPtrL i ca
  | _ => true
def AV.noPtrL (i : Nat) : List AV → Bool
  | [] => true
  | x :: xs => x.noPtr i && AV.noPtrL i xs
end

theorem AV.noPtrL_get {i : Nat} : ∀ {cs : List AV}, AV.noPtrL i cs = true → ∀ {k : Nat} {c : AV}, cs[k]? = some c → c.noPtr i = true
  | [], _, k, c, h => by simp at h
  | x :: xs, h, 0, c, hk => by
    simp at hk; subst hk
    simp only [AV.noPtrL, Bool.and_eq_true] at h; exact h.1
  | x :: xs, h, k + 1, c, hk => by
    simp only [AV.noPtrL, Bool.and_eq_true] at h
    exact AV.noPtrL_get h.2 (by simpa using hk)

/-- A value without views carries over, wherever its own rows stay its own. -/
theorem Val.movedB (i0 : Nat) {E E' : Env} (hP : ∀ bk, E.Pub bk → E'.Pub bk ∧ E'.w.heap[bk]? = E.w.heap[bk]?) (hO : ∀ bk q, E.ω bk = some q → (∀ id, q ≠ .box id) → E'.ω bk = some q ∧ E'.w.heap[bk]? = E.w.heap[bk]?)
    (hB : ∀ id, id ≠ i0 → E'.β id = E.β id) {p : Place} {x : AV} {v : Value} (hv : Val E p x v) : x.solid = true → (x.noPtr i0 = true ∨ E'.β i0 = E.β i0) → (∀ id, p ≠ .box id) → Val E' p x v := by
  have hsub : ∀ (p : Place) (k : Nat), (∀ id, p ≠ .box id) → ∀ id, p.sub k ≠ .box id := by
    intro p k h id; cases p <;> simp [Place.sub]
  induction hv with
  | any p v => exact fun _ _ _ => .any p v
  | b p x => exact fun _ _ _ => .b p x
  | i p k n => exact fun _ _ _ => .i p k n
  | s p x => exact fun _ _ _ => .s p x
  | nil p => exact fun _ _ _ => .nil p
  | nofn p => exact fun _ _ _ => .nofn p
  | ptr p id off =>
    intro _ hn _
    have : E'.β id = E.β id := by
      by_cases he : id = i0
      · subst he
        rcases hn with h | h
        · simp [AV.noPtr] at h
        · exact h
      · exact hB id he
    rw [← this]; exact .ptr p id off
  | pt p g ix cells off bk o hc hg ha =>
    intro hs _ _
    cases g with
    | own => exact hg.elim
    | nl => exact hg.elim
    | fro => exact .pt p .fro ix cells off bk o (hc.mono hP (hP _ hg).2) (hP _ hg).1 trivial
    | vw q ex => simp [AV.solid] at hs
  | sl1 p sz a cap => exact fun _ _ _ => .sl1 p sz a cap
  | sl0 p g sz h0 ha =>
    intro hs _ _
    cases g with
    | vw q ex => simp [AV.solid] at hs
    | _ => exact .sl0 p _ sz (by simp) trivial
  | sl p g sz xs bk off cap hc hr hg ha =>
    intro hs _ hb
    cases g with
    | vw q ex => simp [AV.solid] at hs
    | fro => exact .sl p .fro sz xs bk off cap hc (hr.mono hP (hP _ hg).2) (hP _ hg).1 trivial
    | nl => exact hg.elim
    | own =>
      have ho := hO bk p hg.1 hb
      exact .sl p .own sz xs bk off cap hc (hr.mono hP ho.2) ⟨ho.1, hg.2.mono ho.2⟩ trivial
  | fn p f fi ca fi' ca' h1 h2 _ _ ih1 ih2 =>
    intro hs hn _
    simp only [AV.solid, Bool.and_eq_true] at hs
    simp only [AV.noPtr, Bool.and_eq_true] at hn
    exact .fn p f fi ca fi' ca' h1 h2 (fun k c hk => ih1 k c hk (AV.solidL_get hs.1 hk) (hn.imp (fun h => AV.noPtrL_get h.1 hk) id) (by simp)) (fun k c hk => ih2 k c hk (AV.solidL_get hs.2 hk) (hn.imp (fun h => AV.noPtrL_get h.2 hk) id) (by simp))
  | agg p cs arr h1 _ ih =>
    intro hs hn hb
    rw [AV.solid] at hs
    rw [AV.noPtr] at hn
    exact .agg p cs arr h1 fun k c hk => ih k c hk (AV.solidL_get hs hk) (hn.imp (fun h => AV.noPtrL_get h hk) id) (hsub p k hb)
  | tup p cs arr h1 _ ih =>
    intro hs hn hb
    rw [AV.solid] at hs
    rw [AV.noPtr] at hn
    exact .tup p cs arr h1 fun k c hk => ih k c hk (AV.solidL_get hs hk) (hn.imp (fun h => AV.noPtrL_get h hk) id) (hsub p k hb)

theorem Val.moved {E E' : Env} (hP : ∀ bk, E.Pub bk → E'.Pub bk ∧ E'.w.heap[bk]? = E.w.heap[bk]?) (hO : ∀ bk q, E.ω bk = some q → (∀ id, q ≠ .box id) → E'.ω bk = some q ∧ E'.w.heap[bk]? = E.w.heap[bk]?)
    (hB : ∀ id, E'.β id = E.β id) {p : Place} {x : AV} {v : Value} (hv : Val E p x v) (hs : x.solid = true) (hb : ∀ id, p ≠ .box id) : Val E' p x v :=
  hv.movedB 0 hP hO (fun id _ => hB id) hs (.inr (hB 0)) hb

theorem AV.res_solid (F : Place → Bool) (x : AV) : ∀ p, (x.tr (resLeaf F) p).solid = true := by
  refine AV.rec (motive_1 := fun x => ∀ p, (x.tr (resLeaf F) p).solid = true) (motive_2 := fun l => (∀ p k, AV.solidL (AV.trL (resLeaf F) p k l) = true) ∧ AV.solidL (AV.trN (resLeaf F) l) = true) (motive_3 := fun _ => True)
    ?_ ?_ ?_ ?_ ?_ ?_ ?_ ?_ ?_ ?_ ?_ ?_ ?_ ?_ ?_ ?_ x
  · intro p; rfl
  · intro x p; rfl
  · intro k n p; rfl
  · intro x p; rfl
  · intro p; rfl
  · intro p; rfl
  · intro id off p; rfl
  · intro g ix cells off _ p; cases g <;> rfl
  · intro f fi ca h1 h2 p; simp [AV.tr, AV.solid, h1.2, h2.2]
  · intro g sz xs _ p
    rw [AV.tr_leaf rfl]
    cases g <;> simp [resLeaf, AV.solid]
    split <;> rfl
  · intro cs h p; simp [AV.tr, AV.solid, h.1]
  · intro cs h p; simp [AV.tr, AV.solid, h.1]
  · exact ⟨fun _ _ => rfl, rfl⟩
  · intro x xs h1 h2
    exact ⟨fun p k => by simp [AV.trL, AV.solidL, h1, h2.1], by simp [AV.trN, AV.solidL, h1, h2.2]⟩
  · trivial
  · intros; trivial

/-- What is taken from a slot leaves no own row in it. -/
theorem take_noOwn (st : St) (Q : Place → Option Place) (d : Nat) (h : ∀ π, (Q (.slot d π)).isSome = true) : NoOwn ((st.take Q).slots d) := by
  intro π sz xs he
  have h1 : (st.take Q).abs (.slot d π) = .sl .own sz xs := he
  unfold St.take at h1
  rw [St.abs_tr (fun _ => rfl) (takeLeaf_leaf Q)] at h1
  simp only at h1
  generalize st.abs (.slot d π) = x at h1
  cases x with
  | sl g sz' xs' =>
    rw [AV.tr_leaf rfl] at h1
    cases g with
    | own => simp [takeLeaf, h π] at h1
    | vw q ex => simp only [takeLeaf] at h1; split at h1 <;> simp at h1
    | fro => simp [takeLeaf] at h1
    | nl => simp [takeLeaf] at h1
  | pt g ix cs off =>
    rw [AV.tr_leaf rfl] at h1
    cases g <;> simp [takeLeaf] at h1
    split at h1 <;> simp at h1
  | agg cs => simp [AV.tr] at h1
  | tup cs => simp [AV.tr] at h1
  | fn f fi ca => simp [AV.tr] at h1
  | _ => simp [AV.tr, takeLeaf] at h1

theorem take_cell (st : St) (Q : Place → Option Place) (id j : Nat) (h : (Q (.cell id j)).isSome = true) : ∀ sz xs, (st.take Q).abs (.cell id j) ≠ .sl .own sz xs := by
  intro sz xs h1
  unfold St.take at h1
  rw [St.abs_tr (fun _ => rfl) (takeLeaf_leaf Q)] at h1
  simp only at h1
  generalize st.abs (.cell id j) = x at h1
  cases x with
  | sl g sz' xs' =>
    rw [AV.tr_leaf rfl] at h1
    cases g with
    | own => simp [takeLeaf, h] at h1
    | vw q ex => simp only [takeLeaf] at h1; split at h1 <;> simp at h1
    | fro => simp [takeLeaf] at h1
    | nl => simp [takeLeaf] at h1
  | pt g ix cs off =>
    rw [AV.tr_leaf rfl] at h1
    cases g <;> simp [takeLeaf] at h1
    split at h1 <;> simp at h1
  | agg cs => simp [AV.tr] at h1
  | tup cs => simp [AV.tr] at h1
  | fn f fi ca => simp [AV.tr] at h1
  | _ => simp [AV.tr, takeLeaf] at h1

section
variable {N : Nat} {S : Start} {E : Env}

theorem Inv.fz (I : Inv N S E) (F : Place → Bool) (hF : ∀ id, F (.box id) = false) : Inv N S (E.fz F) := by
  refine ⟨I.rel.fz F hF, ⟨I.fr.os, I.fr.tape, I.fr.output, I.fr.size, I.fr.block, fun k q h => ?_, fun bk h => .inl (I.fr.pub0 bk h), fun bk h => ?_, I.fr.beta⟩⟩
  · simp only [Env.fz] at h
    split at h
    · rename_i q' hq'; exact I.fr.own k q' hq'
    · cases h
  · rcases h with h | ⟨q, h, _⟩
    · exact I.fr.pub1 bk h
    · exact .inr (I.fr.own bk q h)

theorem Inv.take (I : Inv N S E) (Q : Place → Option Place) (hQ : ∀ id, Q (.box id) = none) : Inv N S (E.take Q) := by
  refine ⟨I.rel.take Q hQ, ⟨I.fr.os, I.fr.tape, I.fr.output, I.fr.size, I.fr.block, fun k q h => ?_, I.fr.pub0, I.fr.pub1, I.fr.beta⟩⟩
  simp only [Env.take] at h
  split at h
  · rename_i q' hq'; exact I.fr.own k q' hq'
  · cases h

theorem Inv.settle (I : Inv N S E) (Q : Place → Option Place) (F : Place → Bool) (hQ : ∀ id, Q (.box id) = none) (hF : ∀ id, F (.box id) = false) : Inv N S (E.settle Q F) :=
  (I.fz F hF).take Q hQ

theorem Inv.putq (I : Inv N S E) (d : Nat) (x : AV) (v : Value) (hd : d < N) (hno : NoOwn (E.st.slots d)) (hf : x.free = true) (hv : Val E .no x v) :
    Inv N S { E with st := E.st.put d x, tm := E.tm.setIfInBounds d v } :=
  ⟨I.rel.putq d x v hd hno hf hv, ⟨I.fr.os, I.fr.tape, I.fr.output, I.fr.size, I.fr.block, I.fr.own, I.fr.pub0, I.fr.pub1, I.fr.beta⟩⟩

/-- A settled value is kept in a slot. -/
theorem Inv.keep (I : Inv N S E) (Q : Place → Option Place) (F : Place → Bool) (d : Nat) (x : AV) (v : Value) (hd : d < N) (hv : Val E .no x v) (hQ : ∀ id, Q (.box id) = none) (hF : ∀ id, F (.box id) = false)
    (hl : ∀ π, (Q (.slot d π)).isSome = true) (hr : x.resOk Q F (.slot d []) = true) :
    Inv N S { (E.settle Q F) with st := (E.settle Q F).st.put d (x.tr (resLeaf F) (.slot d [])), tm := E.tm.setIfInBounds d v } := by
  have I1 := I.settle Q F hQ hF
  have hno : NoOwn ((E.settle Q F).st.slots d) := take_noOwn (E.fz F).st Q d hl
  have hv1 := hv.settle I.rel _ hr
  obtain ⟨_, h⟩ := I1.rel.put (fun _ => False) (fun _ _ _ _ h => h) (fun _ h => h) (fun h => h) E.w (E.settle Q F).ω (E.settle Q F).Pub d (x.tr (resLeaf F) (.slot d [])) v hd hno (fun _ _ _ => rfl) (fun _ _ h => h) (fun _ h => h) I1.rel.pub I1.rel.own
  refine ⟨h ?_, ⟨I1.fr.os, I1.fr.tape, I1.fr.output, I1.fr.size, I1.fr.block, I1.fr.own, I1.fr.pub0, I1.fr.pub1, I1.fr.beta⟩⟩
  refine Val.moved (E := E.settle Q F) (fun bk h => ?_) (fun bk q h _ => ?_) (fun _ => ?_) hv1 (AV.res_solid F x _) (by simp)
  · exact ⟨h, rfl⟩
  · exact ⟨h, rfl⟩
  · rfl
end
end Go.AM
namespace Go.AM

def AV.cellOk : AV → Bool
  | .any | .agg _ | .tup _ => false
  | _ => true

/- each cell of a box settled at its own place -/
def AV.resOkC (Q : Place → Option Place) (F : Place → Bool) (id : Nat) : Nat → List AV → Bool
  | _, [] => true
  | k, x :: xs => x.resOk Q F (.cell id k) && AV.resOkC Q F id (k + 1) xs

theorem AV.resOkC_get {Q F id} : ∀ {cs : List AV} {k : Nat}, AV.resOkC Q F id k cs = true → ∀ (j : Nat) c, cs[j]? = some c → c.resOk Q F (.cell id (k + j)) = true
  | [], k, _, j, c, h => by simp at h
  | x :: xs, k, hr, 0, c, h => by
    simp at h; subst h
    simp only [AV.resOkC, Bool.and_eq_true] at hr
    exact hr.1
  | x :: xs, k, hr, j + 1, c, h => by
    simp only [AV.resOkC, Bool.and_eq_true] at hr
    have := AV.resOkC_get hr.2 j c (by simpa using h)
    rwa [show k + 1 + j = k + (j + 1) by omega] at this

theorem oneCell_of {E : Env} {p : Place} {x : AV} {v : Value} (h : Val E p x v) (hc : x.cellOk = true) : v.oneCell' = true := by
  cases h <;> first | rfl | (simp [AV.cellOk] at hc)

theorem boxes_tr {h : Place → AV → AV} (st : St) (id : Nat) (cs : List AV) (hb : st.boxes id = some cs) : (st.tr h).boxes id = some (AV.trC h id 0 cs) := by
  simp [St.tr, hb]

section
variable {P : Program} {N : Nat} {S : Start} {E : Env}

theorem Inv.storeBox (I : Inv N S E) {t : TypeId} {y : TI} (oy : TyOk P t y) (Q : Place → Option Place) (F : Place → Bool) (id off : Nat) (cs : List AV) (x : AV) (v : Value) (hv : Val E .no x v)
    (hb : E.st.boxes id = some cs) (hh : x.hole = false) (hn : (flatA x).length = y.size) (hle : off + y.size ≤ cs.length) (hcell : (flatA x).all AV.cellOk = true)
    (hQ : ∀ id, Q (.box id) = none) (hF : ∀ id, F (.box id) = false) (hl : ∀ j, off ≤ j → j < off + y.size → ∀ sz xs, (E.settle Q F).st.abs (.cell id j) ≠ .sl .own sz xs) (hr : AV.resOkC Q F id off (flatA x) = true) :
    ∃ w', (Instr.storeAt t (.pointer (some ⟨E.β id, off, none⟩)) v).run P E.w = .ok () w' ∧
      Inv N S { (E.settle Q F) with w := w', st := (E.settle Q F).st.setBox id (some (spliceL (((E.settle Q F).st.boxes id).getD []) off (AV.trC (resLeaf F) id off (flatA x)))) } := by
  have I1 := I.settle Q F hQ hF
  obtain ⟨hl1, hv1⟩ := flatA_val hv hh
  have hb1 : (E.settle Q F).st.boxes id = some (AV.trC (takeLeaf Q) id 0 (AV.trC (fzLeaf F) id 0 cs)) := boxes_tr _ _ _ (boxes_tr _ _ _ hb)
  generalize hcs1 : AV.trC (takeLeaf Q) id 0 (AV.trC (fzLeaf F) id 0 cs) = cs1 at hb1
  have hlen1 : cs1.length = cs.length := by rw [← hcs1, AV.trC_length, AV.trC_length]
  obtain ⟨h1, arr, T, h2, h3, h4⟩ := I1.rel.boxes id cs1 hb1
  have h2' : E.w.heap[E.β id]? = some (.cells arr T (0, 0)) := h2
  have hone : ∀ u ∈ v.cells.toList, u.oneCell' = true := by
    intro u hu
    obtain ⟨k, hk⟩ := List.getElem?_of_mem hu
    have hkl : k < (flatA x).length := by rw [hl1]; have := (List.getElem?_eq_some_iff.1 hk).1; simpa using this
    have hc := List.getElem?_eq_getElem hkl
    have := hv1 k _ hc
    have he : v.cells.getD k undef = u := by
      rw [Array.getD_eq_getD_getElem?, ← Array.getElem?_toList, hk]; rfl
    rw [he] at this
    exact oneCell_of this (List.all_eq_true.1 hcell _ (List.getElem_mem hkl))
  have hfit : off + 0 + v.cells.toList.length ≤ arr.size := by
    simp only [Array.length_toList, Nat.add_zero]; omega
  have hrun := run_storeCells_at P (E.β id) off T v.cells.toList 0 arr E.w h2' hfit hone
  simp only [Nat.add_zero, Array.length_toList] at hrun
  generalize harr : (arr.toList.take off ++ v.cells.toList ++ arr.toList.drop (off + v.cells.size)).toArray = arr' at hrun
  have hsplice : arr'.toList = arr.toList.take off ++ v.cells.toList ++ arr.toList.drop (off + v.cells.size) := by rw [← harr]
  have hasz : arr'.size = arr.size := by
    rw [← Array.length_toList, hsplice]; simp; omega
  have hget : ∀ j : Nat, arr'[j]? = if off ≤ j ∧ j < off + v.cells.size then v.cells[j - off]? else arr[j]? := by
    intro j
    rw [← Array.getElem?_toList, hsplice]
    by_cases ha : j < off
    · rw [if_neg (by omega), List.append_assoc, List.getElem?_append_left (by simp; omega)]
      simp [ha]
    · have hto : (arr.toList.take off).length = off := by simp; omega
      by_cases hbb : j < off + v.cells.size
      · rw [if_pos (by omega), List.append_assoc, List.getElem?_append_right (by omega), hto, List.getElem?_append_left (by simp; omega)]
        simp
      · rw [if_neg (by omega), List.getElem?_append_right (by simp; omega)]
        simp only [List.length_append, hto, Array.length_toList, List.getElem?_drop, Array.getElem?_toList]
        congr 1; omega
  have hvsz : v.cells.size = y.size := by omega
  refine ⟨E.w.setRow (E.β id) arr', ?_, ?_⟩
  · simp only [Instr.storeAt, Sem.run_bind, Instr.sureAddr, Sem.run_pure, Result.andThen_ok, storeVar, oy.sizeOf]
    rw [if_neg (by simp; omega)]
    exact hrun
  · have hnew : (E.w.setRow (E.β id) arr').heap[E.β id]? = some (.cells arr' T (0, 0)) := setRow_heap E.w (E.β id) arr arr' T (0, 0) h2'
    have hother : ∀ k, k ≠ E.β id → (E.w.setRow (E.β id) arr').heap[k]? = E.w.heap[k]? := fun k hk => setRow_other E.w (E.β id) k arr' hk
    have hsize : (E.w.setRow (E.β id) arr').heap.size = E.w.heap.size := by simp
    have hnl : (AV.trC (resLeaf F) id off (flatA x)).length = y.size := by rw [AV.trC_length, hn]
    have hsl : off + (AV.trC (resLeaf F) id off (flatA x)).length ≤ cs1.length := by omega
    rw [hb1]; simp only [Option.getD_some]
    obtain ⟨_, hR⟩ := I1.rel.setBox (fun _ => False) (fun _ _ _ _ h => h) (fun _ h => h) (fun h => h) (E.w.setRow (E.β id) arr') (E.settle Q F).ω (E.settle Q F).Pub id (fun j => off ≤ j ∧ j < off + y.size) cs1
      (spliceL cs1 off (AV.trC (resLeaf F) id off (flatA x))) arr arr' T T hb1 h2' (fun bk _ hne _ => hother bk hne) hnew (by rw [hasz, h3, splice_length _ _ _ hsl]) (splice_length _ _ _ hsl)
      (fun j c hj hd sz xs he => by
        apply hl j hd.1 hd.2 sz xs
        show (((E.settle Q F).st.boxes id).getD []).getD j .any = _
        rw [hb1]; exact (getD_get hj).trans he)
      (fun j hnd => by
        rw [splice_get _ _ _ _ hsl, hnl, if_neg hnd, hget, hvsz, if_neg hnd]
        exact ⟨rfl, rfl⟩)
      (fun _ _ h => h) (fun _ h => h) (fun bk h => ⟨by rw [hsize]; exact (I1.rel.pub bk h).1, (I1.rel.pub bk h).2⟩) (fun bk q h => by rw [hsize]; exact I1.rel.own bk q h)
    refine ⟨hR ?_, ⟨I1.fr.os, I1.fr.tape, I1.fr.output, by rw [hsize]; exact I1.fr.size, fun k hk hno => ?_, I1.fr.own, I1.fr.pub0, I1.fr.pub1, I1.fr.beta⟩⟩
    · intro j c hj hd
      rw [splice_get _ _ _ _ hsl, hnl, if_pos hd, AV.trC_get] at hj
      obtain ⟨c0, hc0, rfl⟩ := Option.map_eq_some_iff.1 hj
      have hj2 : off + (j - off) = j := by omega
      rw [hj2]
      have hres := AV.resOkC_get hr (j - off) c0 hc0
      rw [hj2] at hres
      have h5 := (hv1 (j - off) c0 hc0).settle I.rel (.cell id j) hres
      have he : arr'.getD j undef = v.cells.getD (j - off) undef := by
        rw [Array.getD_eq_getD_getElem?, hget, hvsz, if_pos hd, Array.getD_eq_getD_getElem?]
      rw [he]
      have hbk : ∀ bk q, (E.settle Q F).ω bk = some q → (∀ i, q ≠ .box i) → bk ≠ E.β id := by
        intro bk q hq hne e
        have h1' : (E.settle Q F).ω (E.β id) = some (.box id) := h1
        rw [e, h1'] at hq
        exact hne id (Option.some.inj hq).symm
      refine Val.moved (E := E.settle Q F) (fun bk h => ?_) (fun bk q h hne => ?_) (fun _ => ?_) h5 (AV.res_solid F c0 _) (by simp)
      · refine ⟨h, hother bk fun e => ?_⟩
        have h1' : (E.settle Q F).ω (E.β id) = some (.box id) := h1
        have := (I1.rel.pub bk h).2
        rw [e, h1'] at this; cases this
      · exact ⟨h, hother bk (hbk bk q h hne)⟩
      · rfl
    · rw [hother k fun e => ?_]
      · exact I.fr.block k hk hno
      · have := I1.fr.own (E.β id) _ h1
        rcases this with h | h
        · omega
        · exact hno (e ▸ h)

theorem Inv.newBox (I : Inv N S E) (Q : Place → Option Place) (F : Place → Bool) (d id : Nat) (x : AV) (v : Value) (T : TypeId) (hd : d < N) (hv : Val E .no x v) (hh : x.hole = false)
    (hQ : ∀ id, Q (.box id) = none) (hF : ∀ id, F (.box id) = false) (hl : ∀ j, (Q (.cell id j)).isSome = true) (hld : ∀ π, (Q (.slot d π)).isSome = true) (hr : AV.resOkC Q F id 0 (flatA x) = true)
    (hp : AV.noPtrL id (AV.trC (resLeaf F) id 0 (flatA x)) = true) (hid : S.k ≤ id) :
    ∃ ω' β', Inv N S ⟨E.w.alloc (.cells v.cells T), β', ω', (E.settle Q F).Pub, (((E.settle Q F).st.killB id).setBox id (some (AV.trC (resLeaf F) id 0 (flatA x)))).put d (.ptr id 0), E.tm.setIfInBounds d (.pointer (some ⟨E.w.heap.size, 0, none⟩))⟩ := by
  have I1 := I.settle Q F hQ hF
  obtain ⟨hl1, hv1⟩ := flatA_val hv hh
  obtain ⟨_, hR⟩ := I1.rel.newBox id (AV.trC (resLeaf F) id 0 (flatA x)) v.cells T (by rw [AV.trC_length]; exact hl1.symm) (fun j sz xs => take_cell (E.fz F).st Q id j (hl j) sz xs)
  have hsz : (E.w.alloc (.cells v.cells T)).heap.size = E.w.heap.size + 1 := heap_alloc_size' _ _
  have R2 := hR (fun j c hj => by
    have hnp := AV.noPtrL_get hp hj
    rw [AV.trC_get] at hj
    obtain ⟨c0, hc0, rfl⟩ := Option.map_eq_some_iff.1 hj
    simp only [Nat.zero_add] at hnp ⊢
    have hres := AV.resOkC_get hr j c0 hc0
    simp only [Nat.zero_add] at hres
    have h5 := (hv1 j c0 hc0).settle I.rel (.cell id j) hres
    refine Val.movedB id (E := E.settle Q F) (fun bk h => ?_) (fun bk q h hne => ?_) (fun i hi => ?_) h5 (AV.res_solid F c0 _) (.inl hnp) (by simp)
    · exact ⟨h, heap_alloc_old' _ _ _ (I1.rel.pub bk h).1⟩
    · have hlt : bk < E.w.heap.size := I1.rel.own bk q h
      refine ⟨?_, heap_alloc_old' _ _ _ hlt⟩
      have : bk ≠ E.w.heap.size := by omega
      show (if bk = E.w.heap.size then _ else _) = _
      rw [if_neg this]; exact h
    · show (if i = id then _ else _) = _
      rw [if_neg hi])
  have hno : NoOwn ((((E.settle Q F).st.killB id).setBox id (some (AV.trC (resLeaf F) id 0 (flatA x)))).slots d) := by
    intro π sz xs he
    have h1 : ((E.settle Q F).st.killB id).abs (.slot d π) = .sl .own sz xs := he
    unfold St.killB at h1
    rw [St.abs_tr (fun _ => rfl) (killBLeaf_leaf id)] at h1
    simp only at h1
    have h2 := take_noOwn (E.fz F).st Q d hld π sz xs
    generalize hgx : (E.settle Q F).st.abs (.slot d π) = y at h1
    cases y with
    | sl g sz' xs' => rw [AV.tr_leaf rfl] at h1; exact h2 (by rw [← h1]; exact hgx)
    | ptr i off => rw [AV.tr_leaf rfl] at h1; simp only [killBLeaf] at h1; split at h1 <;> simp at h1
    | agg cs => simp [AV.tr] at h1
    | tup cs => simp [AV.tr] at h1
    | fn f fi ca => simp [AV.tr] at h1
    | _ => simp [AV.tr, killBLeaf] at h1
  refine ⟨_, _, R2.putq d (.ptr id 0) (.pointer (some ⟨E.w.heap.size, 0, none⟩)) hd hno rfl ?_, ⟨I1.fr.os, I1.fr.tape, I1.fr.output, ?_, fun k hk hn => ?_, fun k q hq => ?_, I1.fr.pub0, I1.fr.pub1, fun i hi => ?_⟩⟩
  · have := Val.ptr (E := ⟨E.w.alloc (.cells v.cells T), (fun i => if i = id then E.w.heap.size else (E.settle Q F).β i), (fun bk => if bk = E.w.heap.size then some (.box id) else (E.settle Q F).ω bk), (E.settle Q F).Pub,
      ((E.settle Q F).st.killB id).setBox id (some (AV.trC (resLeaf F) id 0 (flatA x))), E.tm⟩) .no id 0
    simp only [if_true] at this
    exact this
  · show S.w0.heap.size ≤ (E.w.alloc (.cells v.cells T)).heap.size
    have := I.fr.size; omega
  · show (E.w.alloc (.cells v.cells T)).heap[k]? = _
    rw [heap_alloc_old' _ _ _ (by have := I.fr.size; omega)]
    exact I.fr.block k hk hn
  · have hq' : (if k = E.w.heap.size then some (.box id) else (E.settle Q F).ω k) = some q := hq
    split at hq'
    · rename_i e; left; have := I.fr.size; omega
    · exact I1.fr.own k q hq'
  · show (if i = id then _ else _) = _
    rw [if_neg (by omega)]
    exact I1.fr.beta i hi
end
end Go.AM
namespace Go.AM
section
variable {P : Program} {N : Nat} {S : Start} {E : Env}

/-- What is appended, as the builtin reads it. -/
structure Reads (P : Program) (w : World) (size : Nat) (x : Value) (m : Nat) (news : List Value) : Prop where
  len : (Builtin.lenOf x).run P w = .ok m w
  first : ∀ w', w'.heap = w.heap → (Builtin.firstCells size m x).run P w' = .ok news.toArray w'
  length : news.length = m * size
  one : ∀ u ∈ news, u.oneCell' = true

theorem append_in {w : World} {t t2 ty e : TypeId} {i : TypeInfo} {d2 : TypeDesc} (ht : P.underlying t = some (.slice e)) (ht2 : P.underlying t2 = some d2) (hd2 : d2 = .string ∨ ∃ e', d2 = .slice e') (hi : P.info? e = some i)
    {g sLen sCap T : Nat} {cur : Array Value} (hg : w.heap[g]? = some (.cells cur T (0, 0))) {x : Value} {m : Nat} {news : List Value} (hx : Reads P w i.size x m news)
    (hroom : sLen + m ≤ sCap) (hfit : sLen * i.size + news.length ≤ cur.size) :
    (Builtin.append_ #[t, t2] ty #[.slice (some ⟨g, 0, none⟩) sLen sCap, x]).run P w =
      .ok (.slice (some ⟨g, 0, none⟩) (sLen + m) sCap) (w.setRow g (cur.toList.take (sLen * i.size) ++ news ++ cur.toList.drop (sLen * i.size + news.length)).toArray) := by
  have hst := run_storeCells_at P g (sLen * i.size) T news 0 cur w hg (by simpa using hfit) hx.one
  simp only [Nat.add_zero] at hst
  have hf := hx.first w rfl
  rcases hd2 with rfl | ⟨e', rfl⟩
  · simp [Builtin.append_, run_underlying ht, run_underlying ht2, sizeOf, typeInfo, hi, hx.len, hroom, hf, Addr.add_lit, hst]
  · simp [Builtin.append_, run_underlying ht, run_underlying ht2, sizeOf, typeInfo, hi, hx.len, hroom, hf, Addr.add_lit, hst]

theorem append_new {w : World} {t t2 ty e : TypeId} {i : TypeInfo} {z : Value} {d2 : TypeDesc} (ht : P.underlying t = some (.slice e)) (ht2 : P.underlying t2 = some d2) (hd2 : d2 = .string ∨ ∃ e', d2 = .slice e') (hi : P.info? e = some i) (hz : i.zero = some z)
    {base : Option Addr} {sLen sCap : Nat} {olds : List Value} (hold : ∀ w', w'.heap = w.heap → (Builtin.firstCells i.size sLen (.slice base sLen sCap)).run P w' = .ok olds.toArray w')
    {x : Value} {m : Nat} {news : List Value} (hx : Reads P w i.size x m news)
    (hg : sCap < sLen + m) (h63 : ((sLen + m : Nat) : Int) ≤ 9223372036854775807) (hfit : Builtin.nextslicecap (sLen + m) sCap * i.bytes ≤ 281474976710656) :
    (Builtin.append_ #[t, t2] ty #[.slice base sLen sCap, x]).run P w =
      .ok (.slice (some ⟨w.heap.size, 0, none⟩) (sLen + m) (grownCap w (sLen + m) sCap e))
        (w.drew.alloc (.cells (olds.toArray ++ news.toArray ++ Builtin.zeroCells z.cells (grownCap w (sLen + m) sCap e - (sLen + m))) e)) := by
  have hn : ¬ (sLen + m ≤ sCap) := by omega
  have h63' : ¬ (9223372036854775807 < ((sLen : Int) + (m : Int))) := by omega
  have h48' : ¬ (281474976710656 < Builtin.nextslicecap (sLen + m) sCap * i.bytes) := by omega
  have hf := hx.first w.drew rfl
  have hfo := hold w.drew rfl
  have ha : (olds.toArray ++ news.toArray ++ Builtin.zeroCells z.cells (grownCap w (sLen + m) sCap e - (sLen + m))) = (olds ++ news).toArray ++ Builtin.zeroCells z.cells (grownCap w (sLen + m) sCap e - (sLen + m)) := by simp
  rw [ha]
  rcases hd2 with rfl | ⟨e', rfl⟩
  · simp [Builtin.append_, run_underlying ht, run_underlying ht2, sizeOf, typeInfo, zeroValue, hi, hz, hx.len, hn, h63', h48', Question.forced, hf, hfo, newRow, grownCap]
    congr 2; apply Array.ext'; simp
  · simp [Builtin.append_, run_underlying ht, run_underlying ht2, sizeOf, typeInfo, zeroValue, hi, hz, hx.len, hn, h63', h48', Question.forced, hf, hfo, newRow, grownCap]
    congr 2; apply Array.ext'; simp

/-- The values that a row's cells hold. -/
theorem row_values {Pub : Nat → Prop} {w : World} {bk off : Nat} : ∀ {cs : List AV}, Cells Pub w bk off cs → ∃ vs : List Value, vs.length = cs.length ∧ (∀ (k : Nat) u, vs[k]? = some u → w.cell? ⟨bk, off + k, none⟩ = some u) ∧
    ∀ (k : Nat) c, cs[k]? = some c → ∃ u, vs[k]? = some u ∧ DatC Pub w c u := by
  intro cs h
  refine ⟨(List.range cs.length).map fun k => (w.cell? ⟨bk, off + k, none⟩).getD undef, by simp, fun k u hk => ?_, fun k c hk => ?_⟩
  · rw [List.getElem?_map] at hk
    obtain ⟨j, hj, rfl⟩ := Option.map_eq_some_iff.1 hk
    obtain ⟨hj1, hj2⟩ := List.getElem?_eq_some_iff.1 hj
    simp at hj1 hj2; subst hj2
    obtain ⟨u, hu, _⟩ := h k cs[k] (List.getElem?_eq_getElem hj1)
    simp [hu]
  · have hlt := (List.getElem?_eq_some_iff.1 hk).1
    obtain ⟨u, hu, hd⟩ := h k c hk
    exact ⟨u, by simp [hlt, hu], hd⟩

theorem oneCell_dat {Pub : Nat → Prop} {w : World} {c : AV} {u : Value} (h : Dat Pub w c u) (hc : c.cellOk = true) : u.oneCell' = true := by
  cases h <;> first | rfl | (simp [AV.cellOk] at hc)

/-- A new row of a slot's own. -/
theorem Inv.putRow (I : Inv N S E) (w1 : World) (hh : w1.heap = E.w.heap) (ho : w1.os = E.w.os ∧ w1.tape = E.w.tape ∧ w1.output = E.w.output) (d : Nat) (hd : d < N) (hno : NoOwn (E.st.slots d))
    (sz cap : Nat) (xs : List (List AV)) (arr : Array Value) (T : TypeId) (hsz : arr.size = cap * sz) (hcap : xs.length ≤ cap) (hl : ∀ x ∈ xs, x.length = sz)
    (hc : ∀ (k : Nat) c, xs.flatten[k]? = some c → ∃ u, arr[k]? = some u ∧ DatC E.Pub E.w c u) :
    ∃ ω', Inv N S ⟨w1.alloc (.cells arr T), E.β, ω', E.Pub, E.st.put d (.sl .own sz xs), E.tm.setIfInBounds d (.slice (some ⟨E.w.heap.size, 0, none⟩) xs.length cap)⟩ := by
  have hsize : (w1.alloc (.cells arr T)).heap.size = E.w.heap.size + 1 := by rw [heap_alloc_size', hh]
  have hold : ∀ bk, bk < E.w.heap.size → (w1.alloc (.cells arr T)).heap[bk]? = E.w.heap[bk]? := fun bk h => by rw [heap_alloc_old' _ _ _ (by rw [hh]; exact h), hh]
  have hnew : (w1.alloc (.cells arr T)).heap[E.w.heap.size]? = some (.cells arr T (0, 0)) := by rw [← hh]; exact heap_alloc_new' _ _
  let ω' : Nat → Option Place := fun bk => if bk = E.w.heap.size then some (.slot d []) else E.ω bk
  have hω : ∀ bk q, E.ω bk = some q → ω' bk = some q := fun bk q h => by
    have : bk ≠ E.w.heap.size := by have := I.rel.own bk q h; omega
    simp only [ω', this, if_false]; exact h
  obtain ⟨_, hR⟩ := I.rel.put (fun _ => False) (fun _ _ _ _ h => h) (fun _ h => h) (fun h => h) (w1.alloc (.cells arr T)) ω' E.Pub d (.sl .own sz xs) (.slice (some ⟨E.w.heap.size, 0, none⟩) xs.length cap) hd hno
    (fun bk h _ => hold bk h) hω (fun _ h => h)
    (fun bk h => ⟨by rw [hsize]; have := (I.rel.pub bk h).1; omega, by
      have h1 := I.rel.pub bk h
      have : bk ≠ E.w.heap.size := by omega
      simp only [ω', this, if_false]; exact h1.2⟩)
    (fun bk q h => by
      rw [hsize]
      simp only [ω'] at h
      split at h
      · omega
      · have := I.rel.own bk q h; omega)
  refine ⟨ω', hR ?_, ⟨ho.1.trans I.fr.os, ho.2.1.trans I.fr.tape, ho.2.2.trans I.fr.output, by show S.w0.heap.size ≤ _; rw [hsize]; have := I.fr.size; omega, fun k hk hn => ?_, fun k q h => ?_, I.fr.pub0, I.fr.pub1, I.fr.beta⟩⟩
  · refine .sl _ .own sz xs E.w.heap.size 0 cap hcap ⟨hl, fun k c hk => ?_⟩ ⟨by simp [ω'], arr, T, hnew, rfl, hsz⟩ trivial
    obtain ⟨u, hu, hdt⟩ := hc k c hk
    refine ⟨u, ?_, hdt.mono fun bk hb => ⟨hb, hold bk (I.rel.pub bk hb).1⟩⟩
    show (w1.alloc (.cells arr T)).cell? _ = _
    simp [World.cell?, hnew, hu]
  · show (w1.alloc (.cells arr T)).heap[k]? = _
    rw [hold k (by have := I.fr.size; omega)]
    exact I.fr.block k hk hn
  · simp only [ω'] at h
    split at h
    · left; have := I.fr.size; omega
    · exact I.fr.own k q h

theorem Inv.putNil (I : Inv N S E) (d : Nat) (hd : d < N) (hno : NoOwn (E.st.slots d)) (sz : Nat) :
    Inv N S { E with st := E.st.put d (.sl .own sz []), tm := E.tm.setIfInBounds d (.slice none 0 0) } := by
  obtain ⟨_, hR⟩ := I.rel.put (fun _ => False) (fun _ _ _ _ h => h) (fun _ h => h) (fun h => h) E.w E.ω E.Pub d (.sl .own sz []) (.slice none 0 0) hd hno (fun _ _ _ => rfl) (fun _ _ h => h) (fun _ h => h) I.rel.pub I.rel.own
  exact ⟨hR (.sl0 _ _ _ (by simp) trivial), ⟨I.fr.os, I.fr.tape, I.fr.output, I.fr.size, I.fr.block, I.fr.own, I.fr.pub0, I.fr.pub1, I.fr.beta⟩⟩

theorem flatten_length {sz : Nat} : ∀ {xs : List (List AV)}, (∀ x ∈ xs, x.length = sz) → xs.flatten.length = xs.length * sz
  | [], _ => by simp
  | x :: xs, h => by
    simp only [List.flatten_cons, List.length_append, List.length_cons, h x (by simp), flatten_length (xs := xs) fun y hy => h y (by simp [hy]), Nat.add_mul]
    omega

/-- What the slot's own row is appended to, in place or anew. `E`: as the row belongs to slot `d` by name alone already (nothing in the state reads it). -/
theorem Inv.append (I : Inv N S E) {t t2 e : TypeId} (ty : TypeId) {y ye : TI} (oy : TyOk P t y) (oe : TyOk P e ye) (hk : y.kind = .slice e) {d2 : TypeDesc} (ht2 : P.underlying t2 = some d2) (hd2 : d2 = .string ∨ ∃ e', d2 = .slice e')
    (d : Nat) (hd : d < N) (hno : NoOwn (E.st.slots d)) (xs ys : List (List AV)) (s x : Value) (hby : 0 < ye.bytes)
    (hs : (s = .slice none 0 0 ∧ xs = []) ∨ ∃ bk cap, s = .slice (some ⟨bk, 0, none⟩) xs.length cap ∧ xs.length ≤ cap ∧ E.ω bk = some (.slot d []) ∧ Row E.Pub E.w bk 0 ye.size xs ∧ Room E.w bk 0 (cap * ye.size))
    (vs : List Value) (hx : Reads P E.w ye.size x ys.length vs) (hyl : ∀ x ∈ ys, x.length = ye.size) (hyv : ∀ (k : Nat) c, ys.flatten[k]? = some c → ∃ u, vs[k]? = some u ∧ DatC E.Pub E.w c u)
    (hbound : (xs.length + ys.length) * ye.bytes ≤ 140737488355328) :
    ∃ v' E', (Builtin.append_ #[t, t2] ty #[s, x]).run P E.w = .ok v' E'.w ∧ Inv N S E' ∧ E'.st = E.st.put d (.sl .own ye.size (xs ++ ys)) ∧ E'.tm = E.tm.setIfInBounds d v' := by
  have ht : P.underlying t = some (.slice e) := oy.und.trans (congrArg some (kind_slice (oy.kind.trans hk)))
  have hi := oe.info
  have hsize : oe.i.size = ye.size := oe.size
  have hbytes : oe.i.bytes = ye.bytes := oe.bytes
  have hx' : Reads P E.w oe.i.size x ys.length vs := by rw [hsize]; exact hx
  have hle : xs.length + ys.length ≤ (xs.length + ys.length) * ye.bytes := Nat.le_mul_of_pos_right _ hby
  have h63 : ((xs.length + ys.length : Nat) : Int) ≤ 9223372036854775807 := by omega
  have hflat : (xs ++ ys).flatten = xs.flatten ++ ys.flatten := by simp
  have hylen := flatten_length hyl
  rcases hs with ⟨rfl, rfl⟩ | ⟨bk, cap, rfl, hcap, hown, hrow, hroom⟩
  · by_cases hm : ys.length = 0
    · have hys : ys = [] := List.eq_nil_of_length_eq_zero hm
      subst hys
      have hvs : vs = [] := List.eq_nil_of_length_eq_zero (by have := hx.length; simpa using this)
      subst hvs
      refine ⟨.slice none 0 0, _, ?_, I.putNil d hd hno ye.size, rfl, rfl⟩
      have hf := hx'.first E.w rfl
      have hl := hx'.len
      simp only [List.length_nil] at hl hf
      rcases hd2 with rfl | ⟨e', rfl⟩
      · simp [Builtin.append_, run_underlying ht, run_underlying ht2, sizeOf, typeInfo, hi, hl, hf]
      · simp [Builtin.append_, run_underlying ht, run_underlying ht2, sizeOf, typeInfo, hi, hl, hf]
    · have hold : ∀ w', w'.heap = E.w.heap → (Builtin.firstCells oe.i.size 0 (.slice none 0 0)).run P w' = .ok ([] : List Value).toArray w' := fun w' _ => rfl
      have hgc := grownCap_ge E.w (0 + ys.length) 0 e
      have hr := append_new (P := P) (ty := ty) ht ht2 hd2 hi oe.zero hold hx' (by omega) (by simpa using h63) (growslice_fits (by omega) (by rw [hbytes]; simpa using hbound))
      simp only [Nat.zero_add] at hr hgc
      obtain ⟨ω', hI⟩ := I.putRow E.w.drew rfl ⟨rfl, rfl, rfl⟩ d hd hno ye.size (grownCap E.w ys.length 0 e) ys (([] : List Value).toArray ++ vs.toArray ++ Builtin.zeroCells oe.z.cells (grownCap E.w ys.length 0 e - ys.length)) e
        (by simp only [Array.size_append, List.size_toArray, size_zeroCells, oe.zcs, hx.length, List.length_nil, Nat.zero_add, ← Nat.add_mul]; congr 1; omega) hgc hyl
        (fun k c hk => by
          obtain ⟨u, hu, hdt⟩ := hyv k c hk
          refine ⟨u, ?_, hdt⟩
          have : k < vs.length := (List.getElem?_eq_some_iff.1 hu).1
          rw [Array.getElem?_append_left (by simpa using this)]
          simpa using hu)
      exact ⟨_, _, hr, hI, by simp, by simp⟩
  · obtain ⟨cur, T, hcur, _, hcs⟩ := hroom
    by_cases hin : xs.length + ys.length ≤ cap
    · have hfit : xs.length * oe.i.size + vs.length ≤ cur.size := by rw [hsize, hx.length, hcs, ← Nat.add_mul]; exact Nat.mul_le_mul_right _ hin
      have hr := append_in (P := P) (ty := ty) ht ht2 hd2 hi hcur hx' hin hfit
      rw [hsize] at hr hfit
      generalize harr : (cur.toList.take (xs.length * ye.size) ++ vs ++ cur.toList.drop (xs.length * ye.size + vs.length)).toArray = arr' at hr
      have hal : arr'.toList = cur.toList.take (xs.length * ye.size) ++ vs ++ cur.toList.drop (xs.length * ye.size + vs.length) := by rw [← harr]
      have hasz : arr'.size = cap * ye.size := by rw [← Array.length_toList, hal, ← hcs]; simp; omega
      have hset : (E.w.setRow bk arr').heap[bk]? = some (.cells arr' T (0, 0)) := setRow_heap E.w bk cur arr' T (0, 0) hcur
      have hoth : ∀ k, k ≠ bk → (E.w.setRow bk arr').heap[k]? = E.w.heap[k]? := fun k hk => setRow_other E.w bk k arr' hk
      have hsz' : (E.w.setRow bk arr').heap.size = E.w.heap.size := by simp
      have hpb : ∀ b, E.Pub b → b ≠ bk := fun b h e => by have := (I.rel.pub b h).2; rw [e, hown] at this; cases this
      have hxl := flatten_length hrow.1
      obtain ⟨_, hR⟩ := I.rel.put (fun q => q = .slot d []) (fun q sz xs' ha he => by subst he; exact hno [] sz xs' ha) (fun id => by simp) (by simp) (E.w.setRow bk arr') E.ω E.Pub d (.sl .own ye.size (xs ++ ys))
        (.slice (some ⟨bk, 0, none⟩) (xs.length + ys.length) cap) hd hno
        (fun b hb hnd => hoth b fun e => by subst e; exact hnd _ hown rfl) (fun _ _ h => h) (fun _ h => h) (fun b h => by rw [hsz']; exact I.rel.pub b h) (fun b q h => by rw [hsz']; exact I.rel.own b q h)
      refine ⟨_, ⟨E.w.setRow bk arr', E.β, E.ω, E.Pub, E.st.put d (.sl .own ye.size (xs ++ ys)), E.tm.setIfInBounds d (.slice (some ⟨bk, 0, none⟩) (xs.length + ys.length) cap)⟩, hr, ⟨hR ?_, ⟨I.fr.os, I.fr.tape, I.fr.output, by show S.w0.heap.size ≤ _; rw [hsz']; exact I.fr.size, fun k hk hn => ?_, I.fr.own, I.fr.pub0, I.fr.pub1, I.fr.beta⟩⟩, rfl, rfl⟩
      · have := Val.sl (E := ⟨E.w.setRow bk arr', E.β, E.ω, E.Pub, E.st.put d (.sl .own ye.size (xs ++ ys)), E.tm.setIfInBounds d (.slice (some ⟨bk, 0, none⟩) (xs.length + ys.length) cap)⟩) (.slot d []) .own ye.size (xs ++ ys) bk 0 cap
          (by simpa using hin) ⟨fun z hz => (List.mem_append.1 hz).elim (hrow.1 z) (hyl z), fun k c hk => ?_⟩ ⟨hown, arr', T, hset, rfl, hasz⟩ trivial
        · simpa using this
        · have hcell : ∀ (k : Nat), (E.w.setRow bk arr').cell? ⟨bk, 0 + k, none⟩ = arr'[k]? := by intro k; simp [World.cell?, hset]
          have hmon : ∀ {c u}, DatC E.Pub E.w c u → DatC E.Pub (E.w.setRow bk arr') c u := fun h => h.mono fun b hb => ⟨hb, hoth b (hpb b hb)⟩
          show ∃ u, (E.w.setRow bk arr').cell? ⟨bk, 0 + k, none⟩ = some u ∧ DatC E.Pub (E.w.setRow bk arr') c u
          rw [hcell, ← Array.getElem?_toList, hal]
          rw [hflat] at hk
          have htl : (cur.toList.take (xs.length * ye.size)).length = xs.length * ye.size := by simp; omega
          by_cases hlt : k < xs.length * ye.size
          · rw [List.getElem?_append_left (by omega)] at hk
            obtain ⟨u, hu, hdt⟩ := hrow.2 k c hk
            refine ⟨u, ?_, hmon hdt⟩
            rw [List.append_assoc, List.getElem?_append_left (by omega), List.getElem?_take, if_pos hlt]
            simpa [World.cell?, hcur] using hu
          · rw [List.getElem?_append_right (by omega)] at hk
            obtain ⟨u, hu, hdt⟩ := hyv _ c hk
            refine ⟨u, ?_, hmon hdt⟩
            rw [hxl] at hu
            have hul := (List.getElem?_eq_some_iff.1 hu).1
            rw [List.append_assoc, List.getElem?_append_right (by omega), htl, List.getElem?_append_left hul]
            exact hu
      · show (E.w.setRow bk arr').heap[k]? = _
        rw [hoth k fun e => ?_]
        · exact I.fr.block k hk hn
        · have := I.fr.own bk _ hown
          rcases this with h | h
          · omega
          · exact hn (e ▸ h)
    · obtain ⟨os, hol, hoc, hov⟩ := row_values hrow.2
      have hxl := flatten_length hrow.1
      have hold : ∀ w', w'.heap = E.w.heap → (Builtin.firstCells oe.i.size xs.length (.slice (some ⟨bk, 0, none⟩) xs.length cap)).run P w' = .ok os.toArray w' := by
        intro w' hw'
        show (loadCells _ _).run P w' = _
        rw [hsize, ← hxl, ← hol]
        refine load_cells bk 0 os fun j v hj => ?_
        rw [cell_same (w' := w') (w := E.w) (by rw [hw'])]
        exact hoc j v hj
      have hgc := grownCap_ge E.w (xs.length + ys.length) cap e
      have hr := append_new (P := P) (ty := ty) ht ht2 hd2 hi oe.zero hold hx' (by omega) h63 (growslice_fits (by omega) (by rw [hbytes]; exact hbound))
      obtain ⟨ω', hI⟩ := I.putRow E.w.drew rfl ⟨rfl, rfl, rfl⟩ d hd hno ye.size (grownCap E.w (xs.length + ys.length) cap e) (xs ++ ys) (os.toArray ++ vs.toArray ++ Builtin.zeroCells oe.z.cells (grownCap E.w (xs.length + ys.length) cap e - (xs.length + ys.length))) e
        (by simp only [Array.size_append, List.size_toArray, size_zeroCells, oe.zcs, hx.length, hol, hxl, ← Nat.add_mul]; congr 1; omega) (by simpa using hgc)
        (fun z hz => (List.mem_append.1 hz).elim (hrow.1 z) (hyl z))
        (fun k c hk => by
          rw [hflat] at hk
          by_cases hlt : k < os.length
          · rw [List.getElem?_append_left (by omega)] at hk
            obtain ⟨u, hu, hdt⟩ := hov k c hk
            refine ⟨u, ?_, hdt⟩
            rw [Array.getElem?_append_left (by simp; omega), Array.getElem?_append_left (by simpa using hlt)]
            simpa using hu
          · rw [List.getElem?_append_right (by omega)] at hk
            obtain ⟨u, hu, hdt⟩ := hyv _ c hk
            refine ⟨u, ?_, hdt⟩
            rw [← hol] at hu
            have hul := (List.getElem?_eq_some_iff.1 hu).1
            rw [Array.getElem?_append_left (by simp; omega), Array.getElem?_append_right (by simp; omega)]
            simpa using hu)
      exact ⟨_, _, hr, hI, by simp, by simp⟩
end
end Go.AM
namespace Go.AM
section
variable {P : Program} {N : Nat} {S : Start} {E : Env}

theorem set_flat {sz : Nat} {xs : List (List AV)} (hl : ∀ x ∈ xs, x.length = sz) {ix : Nat} {old new : List AV} (hix : xs[ix]? = some old) (hn : new.length = sz) (k : Nat) :
    (xs.set ix new).flatten[k]? = if ix * sz ≤ k ∧ k < ix * sz + sz then new[k - ix * sz]? else xs.flatten[k]? := by
  induction xs generalizing ix k with
  | nil => simp at hix
  | cons x xs ih =>
    have hx : x.length = sz := hl x (by simp)
    cases ix with
    | zero =>
      simp at hix; subst hix
      simp only [List.set_cons_zero, List.flatten_cons, Nat.zero_mul, Nat.zero_le, true_and, Nat.zero_add, Nat.sub_zero]
      by_cases hk : k < sz
      · rw [if_pos hk, List.getElem?_append_left (by omega)]
      · rw [if_neg hk, List.getElem?_append_right (by omega), List.getElem?_append_right (by omega), hn, hx]
    | succ ix =>
      simp only [List.set_cons_succ, List.flatten_cons]
      by_cases hk : k < sz
      · rw [List.getElem?_append_left (by omega), List.getElem?_append_left (by omega), if_neg]
        have : sz ≤ (ix + 1) * sz := by rw [Nat.add_mul]; omega
        omega
      · rw [List.getElem?_append_right (by omega), List.getElem?_append_right (by omega), hx, ih (fun y hy => hl y (by simp [hy])) (by simpa using hix)]
        have e : (ix + 1) * sz = ix * sz + sz := by rw [Nat.add_mul]; omega
        by_cases hin : ix * sz ≤ k - sz ∧ k - sz < ix * sz + sz
        · rw [if_pos hin, if_pos (by omega), e]; congr 1; omega
        · rw [if_neg hin, if_neg (by omega)]

theorem tm_set_same (tm : Array Value) (t : Nat) (v : Value) (h : tm.getD t undef = v) : tm.setIfInBounds t v = tm := by
  apply Array.ext_getElem?
  intro k
  by_cases hk : k = t
  · subst hk
    by_cases hlt : k < tm.size
    · simp only [Array.getElem?_setIfInBounds_self, hlt, if_true, Array.getElem?_eq_getElem hlt]
      rw [Array.getD_eq_getD_getElem?, Array.getElem?_eq_getElem hlt] at h
      simpa using h.symm
    · rw [Array.getElem?_eq_none (by simp; omega), Array.getElem?_eq_none (by omega)]
  · rw [Array.getElem?_setIfInBounds_ne (Ne.symm hk)]

/-- The row of a place, with one element turned. -/
def St.setAt (st : St) (q : Place) (x : AV) : St :=
  match q with
  | .slot t [] => st.put t x
  | .cell id j => st.setBox id ((st.boxes id).map fun cs => cs.set j x)
  | _ => st

def selfTake (q : Place) (p : Place) : Option Place := if p = q then some q else none

theorem Inv.storeElem (I : Inv N S E) {t : TypeId} {y : TI} (oy : TyOk P t y) (F : Place → Bool) (hF : ∀ id, F (.box id) = false) (q : Place) (ix off sz : Nat) (cells : List AV) (xs : List (List AV)) (vp : Value) (x : AV) (v : Value)
    (hv : Val E .no x v) (hp : Val E .no (.pt (.vw q true) ix cells off) vp) (hab : E.st.abs q = .sl .own sz xs) (hq : (∃ t, q = .slot t []) ∨ ∃ id j, q = .cell id j) (hFq : F q = false) (hh : x.hole = false) (hn : (flatA x).length = y.size)
    (hle : off + y.size ≤ cells.length) (hdata : AV.dataL ((flatA x).map (AV.dz F)) = true) (hcell : (flatA x).all AV.cellOk = true) :
    ∃ E', (Instr.storeAt t vp v).run P E.w = .ok () E'.w ∧ Inv N S E' ∧ E'.tm = E.tm ∧
      E'.st = ((E.st.fz F).take (selfTake q)).setAt q (.sl .own sz (xs.set ix (spliceL cells off ((flatA x).map (AV.dz F))))) := by
  cases hp with
  | pt _ _ _ _ _ bk o hcs hg hat =>
  obtain ⟨hω, hex⟩ := hg
  obtain ⟨sz', xs', o', cap, hcon, hab', hix, ho⟩ := hex rfl
  rw [hab] at hab'
  obtain ⟨_, rfl, rfl⟩ := AV.sl.inj hab'
  obtain ⟨cur, T, hcur, ho0, hcs0⟩ := exact_room I.rel hcon hab
  subst ho0
  have hval := I.rel.at hcon
  rw [hab] at hval
  cases hval with
  | sl _ _ _ _ _ _ _ hcap hrow _ _ =>
  have hlen : cells.length = sz := hrow.1 cells (List.mem_of_getElem? hix)
  have hixl : ix < xs.length := (List.getElem?_eq_some_iff.1 hix).1
  obtain ⟨hl1, hv1⟩ := flatA_val hv hh
  have hone : ∀ u ∈ v.cells.toList, u.oneCell' = true := by
    intro u hu
    obtain ⟨k, hk⟩ := List.getElem?_of_mem hu
    have hkl : k < (flatA x).length := by rw [hl1]; have := (List.getElem?_eq_some_iff.1 hk).1; simpa using this
    have := hv1 k _ (List.getElem?_eq_getElem hkl)
    have he : v.cells.getD k undef = u := by
      rw [Array.getD_eq_getD_getElem?, ← Array.getElem?_toList, hk]; rfl
    rw [he] at this
    exact oneCell_of this (List.all_eq_true.1 hcell _ (List.getElem_mem hkl))
  have hend : ix * sz + sz ≤ cap * sz := by
    have : (ix + 1) * sz ≤ cap * sz := Nat.mul_le_mul_right _ (by omega)
    rw [Nat.add_mul] at this; omega
  have hob : o + off = ix * sz + off := by omega
  have hfit : (ix * sz + off) + 0 + v.cells.toList.length ≤ cur.size := by simp only [Array.length_toList, Nat.add_zero]; omega
  have hrun := run_storeCells_at P bk (ix * sz + off) T v.cells.toList 0 cur E.w hcur hfit hone
  simp only [Nat.add_zero, Array.length_toList] at hrun
  generalize harr : (cur.toList.take (ix * sz + off) ++ v.cells.toList ++ cur.toList.drop (ix * sz + off + v.cells.size)).toArray = arr' at hrun
  have hal : arr'.toList = cur.toList.take (ix * sz + off) ++ v.cells.toList ++ cur.toList.drop (ix * sz + off + v.cells.size) := by rw [← harr]
  have hvsz : v.cells.size = y.size := by omega
  have hasz : arr'.size = cap * sz := by rw [← Array.length_toList, hal, ← hcs0]; simp; omega
  have hget : ∀ j : Nat, arr'[j]? = if ix * sz + off ≤ j ∧ j < ix * sz + off + v.cells.size then v.cells[j - (ix * sz + off)]? else cur[j]? := by
    intro j
    rw [← Array.getElem?_toList, hal]
    have hto : (cur.toList.take (ix * sz + off)).length = ix * sz + off := by simp; omega
    by_cases ha : j < ix * sz + off
    · rw [if_neg (by omega), List.append_assoc, List.getElem?_append_left (by omega), List.getElem?_take, if_pos ha]
      simp
    · by_cases hbb : j < ix * sz + off + v.cells.size
      · rw [if_pos (by omega), List.append_assoc, List.getElem?_append_right (by omega), hto, List.getElem?_append_left (by simp; omega)]
        simp
      · rw [if_neg (by omega), List.getElem?_append_right (by simp; omega)]
        simp only [List.length_append, hto, Array.length_toList, List.getElem?_drop, Array.getElem?_toList]
        congr 1; omega
  -- the state, its marks settled
  let E2 := (E.fz F).take (selfTake q)
  have hqb : ∀ id, selfTake q (.box id) = none := by
    intro id
    unfold selfTake
    rcases hq with ⟨t, rfl⟩ | ⟨id', j, rfl⟩ <;> rw [if_neg (by simp)]
  have I2 : Inv N S E2 := (I.fz F hF).take (selfTake q) hqb
  have hω2 : E2.ω bk = some q := by
    show (match (E.fz F).ω bk with | some q' => some ((selfTake q q').getD q') | none => none) = _
    simp [Env.fz, hω, hFq, selfTake]
  have hdead : ∀ p sz xs, E2.st.abs p = .sl .own sz xs → ¬ p = q := by
    intro p sz' xs' ha he
    subst he
    rcases hq with ⟨t, rfl⟩ | ⟨id', j, rfl⟩
    · have h1 : (E2.st).abs (.slot t []) = .sl .own sz' xs' := ha
      have h2 : ((E.fz F).st.take (selfTake (.slot t []))).abs (.slot t []) = .sl .own sz' xs' := h1
      unfold St.take at h2
      rw [St.abs_tr (fun _ => rfl) (takeLeaf_leaf _)] at h2
      simp only at h2
      generalize (E.fz F).st.abs (.slot t []) = z at h2
      cases z with
      | sl g a b => rw [AV.tr_leaf rfl] at h2; cases g <;> simp [takeLeaf, selfTake] at h2; (split at h2 <;> simp at h2)
      | pt g a b c => rw [AV.tr_leaf rfl] at h2; cases g <;> simp [takeLeaf] at h2; (split at h2 <;> simp at h2)
      | agg => simp [AV.tr] at h2
      | tup => simp [AV.tr] at h2
      | fn => simp [AV.tr] at h2
      | _ => simp [AV.tr, takeLeaf] at h2
    · exact take_cell (E.fz F).st (selfTake (.cell id' j)) id' j (by simp [selfTake]) sz' xs' ha
  have hset : (E.w.setRow bk arr').heap[bk]? = some (.cells arr' T (0, 0)) := setRow_heap E.w bk cur arr' T (0, 0) hcur
  have hoth : ∀ k, k ≠ bk → (E.w.setRow bk arr').heap[k]? = E.w.heap[k]? := fun k hk => setRow_other E.w bk k arr' hk
  have hsz' : (E.w.setRow bk arr').heap.size = E.w.heap.size := by simp
  have hpb : ∀ b, E2.Pub b → b ≠ bk := fun b h e => by have := (I2.rel.pub b h).2; rw [e, hω2] at this; cases this
  have hfrb : ∀ k, k < S.w0.heap.size → ¬ S.own0 k → (E.w.setRow bk arr').heap[k]? = S.w0.heap[k]? := by
    intro k hk hn
    rw [hoth k fun e => ?_]
    · exact I.fr.block k hk hn
    · have := I.fr.own bk _ hω
      rcases this with h | h
      · omega
      · exact hn (e ▸ h)
  -- the new row
  have hnlen : ((flatA x).map (AV.dz F)).length = y.size := by rw [List.length_map, hn]
  have hsl : off + ((flatA x).map (AV.dz F)).length ≤ cells.length := by omega
  generalize hnew : spliceL cells off ((flatA x).map (AV.dz F)) = new
  have hnl : new.length = sz := by rw [← hnew, splice_length _ _ _ hsl, hlen]
  have hrow' : Row E2.Pub (E.w.setRow bk arr') bk 0 sz (xs.set ix new) := by
    refine ⟨fun z hz => ?_, fun k c hk => ?_⟩
    · rcases List.mem_or_eq_of_mem_set hz with h | h
      · exact hrow.1 z h
      · rw [h]; exact hnl
    · have hcellk : (E.w.setRow bk arr').cell? ⟨bk, 0 + k, none⟩ = arr'[k]? := by simp [World.cell?, hset]
      rw [hcellk, hget, hvsz]
      have hmonE : ∀ {c u}, DatC E.Pub E.w c u → DatC E2.Pub (E.w.setRow bk arr') c u := fun h => h.mono fun b hb => ⟨.inl hb, hoth b (hpb b (.inl hb))⟩
      rw [set_flat hrow.1 hix hnl] at hk
      split at hk
      · rename_i hin
        rw [← hnew, splice_get _ _ _ _ hsl, hnlen] at hk
        split at hk
        · rename_i hin2
          rw [if_pos (by omega)]
          rw [List.getElem?_map] at hk
          obtain ⟨c0, hc0, rfl⟩ := Option.map_eq_some_iff.1 hk
          have hd := (hv1 _ c0 hc0).dz (F := F) (AV.dataL_iff.1 hdata _ (List.mem_of_getElem? (by rw [List.getElem?_map, hc0]; rfl)))
          have hlt := (List.getElem?_eq_some_iff.1 hc0).1
          have hone1 : (v.cells.getD (k - ix * sz - off) undef).oneCell' = true := oneCell_of (hv1 _ c0 hc0) (List.all_eq_true.1 hcell _ (List.mem_of_getElem? hc0))
          refine ⟨v.cells.getD (k - ix * sz - off) undef, ?_, hd.mono fun b hb => ⟨hb, hoth b (hpb b hb)⟩, hone1⟩
          have : k - (ix * sz + off) = k - ix * sz - off := by omega
          rw [this, Array.getD_eq_getD_getElem?, Array.getElem?_eq_getElem (by omega)]
          rfl
        · rename_i hin2
          rw [if_neg (by omega)]
          obtain ⟨u, hu, hd⟩ := hrow.2 k c (by
            have := flat_get hrow.1 ix (k - ix * sz) cells c hix hk
            rwa [show ix * sz + (k - ix * sz) = k by omega] at this)
          exact ⟨u, by simpa [World.cell?, hcur] using hu, hmonE hd⟩
      · rename_i hin
        rw [if_neg (by omega)]
        obtain ⟨u, hu, hd⟩ := hrow.2 k c hk
        exact ⟨u, by simpa [World.cell?, hcur] using hu, hmonE hd⟩
  have hrun' : (Instr.storeAt t (.pointer (some ⟨bk, o + off, none⟩)) v).run P E.w = .ok () (E.w.setRow bk arr') := by
    simp only [Instr.storeAt, Sem.run_bind, Instr.sureAddr, Sem.run_pure, Result.andThen_ok, storeVar, oy.sizeOf]
    rw [if_neg (by simp; omega), hob]
    exact hrun
  rcases hq with ⟨t', rfl⟩ | ⟨id, j, rfl⟩
  · -- in a slot
    have hd : t' < N := by
      rcases Nat.lt_or_ge t' N with h | h
      · exact h
      · have : E.tm.getD t' undef = undef := by rw [Array.getD_eq_getD_getElem?, Array.getElem?_eq_none (by rw [I.rel.size]; exact h)]; rfl
        have hcon' : some (E.tm.getD t' undef) = some _ := hcon
        rw [this] at hcon'; cases hcon'
    have htm : E.tm.getD t' undef = .slice (some ⟨bk, 0, none⟩) xs.length cap := Option.some.inj hcon
    have hno2 : NoOwn (E2.st.slots t') := by
      intro π sz' xs' he
      have hs0 : E.st.slots t' = .sl .own sz xs := hab
      have hs2 : E2.st.slots t' = .any := by
        show (((E.st.slots t').tr (fzLeaf F) (.slot t' [])).tr (takeLeaf (selfTake (.slot t' []))) (.slot t' [])) = .any
        rw [hs0]
        simp [AV.tr, fzLeaf, hFq, takeLeaf, selfTake]
      rw [hs2, AV.at_any] at he; cases he
    obtain ⟨_, hR⟩ := I2.rel.put (fun p => p = .slot t' []) hdead (fun id => by simp) (by simp) (E.w.setRow bk arr') E2.ω E2.Pub t' (.sl .own sz (xs.set ix new)) (.slice (some ⟨bk, 0, none⟩) xs.length cap) hd hno2
      (fun b hb hnd => hoth b fun e => by subst e; exact hnd _ hω2 rfl) (fun _ _ h => h) (fun _ h => h) (fun b h => by rw [hsz']; exact I2.rel.pub b h) (fun b q h => by rw [hsz']; exact I2.rel.own b q h)
    refine ⟨_, hrun', ⟨hR ?_, ⟨I2.fr.os, I2.fr.tape, I2.fr.output, by show S.w0.heap.size ≤ _; rw [hsz']; exact I2.fr.size, hfrb, I2.fr.own, I2.fr.pub0, I2.fr.pub1, I2.fr.beta⟩⟩, tm_set_same _ _ _ htm, rfl⟩
    have := Val.sl (E := ⟨E.w.setRow bk arr', E2.β, E2.ω, E2.Pub, E2.st.put t' (.sl .own sz (xs.set ix new)), E2.tm.setIfInBounds t' (.slice (some ⟨bk, 0, none⟩) xs.length cap)⟩) (.slot t' []) .own sz (xs.set ix new) bk 0 cap
      (by simpa using hcap) hrow' ⟨hω2, arr', T, hset, rfl, hasz⟩ trivial
    simpa using this
  · -- in a cell of a box
    have hlive : ∃ cs, E2.st.boxes id = some cs := by
      cases hb : E.st.boxes id with
      | none => simp [St.abs, hb] at hab
      | some cs => exact ⟨_, boxes_tr _ _ _ (boxes_tr _ _ _ hb)⟩
    obtain ⟨cs, hb2⟩ := hlive
    obtain ⟨hb1, barr, bT, hbh, hbl, _⟩ := I2.rel.boxes id cs hb2
    have hne : E2.β id ≠ bk := fun e => by rw [e, hω2] at hb1; cases hb1
    have hcj : E.w.cell? ⟨E.β id, j, none⟩ = some (.slice (some ⟨bk, 0, none⟩) xs.length cap) := hcon
    have hbh' : E.w.heap[E.β id]? = some (.cells barr bT (0, 0)) := hbh
    have hbj : barr[j]? = some (.slice (some ⟨bk, 0, none⟩) xs.length cap) := by simpa [World.cell?, hbh'] using hcj
    have hjl : j < cs.length := by rw [← hbl]; exact (Array.getElem?_eq_some_iff.1 hbj).1
    obtain ⟨_, hR⟩ := I2.rel.setBox (fun p => p = .cell id j) hdead (fun id => by simp) (by simp) (E.w.setRow bk arr') E2.ω E2.Pub id (fun k => k = j) cs (cs.set j (.sl .own sz (xs.set ix new))) barr barr bT bT hb2 hbh
      (fun b hb hnb hnd => hoth b fun e => by subst e; exact hnd _ hω2 rfl) (by rw [hoth _ hne]; exact hbh) (by simpa using hbl) (by simp)
      (fun k c hk hkj sz' xs' he => by
        subst hkj
        refine hdead (.cell id k) sz' xs' ?_ rfl
        show ((E2.st.boxes id).getD []).getD k .any = _
        rw [hb2]; exact (getD_get hk).trans he)
      (fun k hk => ⟨by rw [List.getElem?_set_ne (Ne.symm hk)], rfl⟩) (fun _ _ h => h) (fun _ h => h) (fun b h => by rw [hsz']; exact I2.rel.pub b h) (fun b q h => by rw [hsz']; exact I2.rel.own b q h)
    refine ⟨_, hrun', ⟨hR ?_, ⟨I2.fr.os, I2.fr.tape, I2.fr.output, by show S.w0.heap.size ≤ _; rw [hsz']; exact I2.fr.size, hfrb, I2.fr.own, I2.fr.pub0, I2.fr.pub1, I2.fr.beta⟩⟩, rfl, ?_⟩
    · intro k c hk hkj
      subst hkj
      rw [List.getElem?_set_self hjl] at hk
      obtain rfl := Option.some.inj hk
      have hbd : barr.getD k undef = .slice (some ⟨bk, 0, none⟩) xs.length cap := by rw [Array.getD_eq_getD_getElem?, hbj]; rfl
      rw [hbd]
      have := Val.sl (E := ⟨E.w.setRow bk arr', E2.β, E2.ω, E2.Pub, E2.st.setBox id (some (cs.set k (.sl .own sz (xs.set ix new)))), E2.tm⟩) (.cell id k) .own sz (xs.set ix new) bk 0 cap
        (by simpa using hcap) hrow' ⟨hω2, arr', T, hset, rfl, hasz⟩ trivial
      simpa using this
    · have : ∀ z, E2.st.setBox id (some (cs.set j z)) = E2.st.setAt (.cell id j) z := by
        intro z
        show _ = E2.st.setBox id ((E2.st.boxes id).map fun cs => cs.set j z)
        rw [hb2]; rfl
      exact this _
end
end Go.AM
namespace Go.AM

theorem AV.tr_id {h : Place → AV → AV} (hl : ∀ p x, x.leaf = true → h p x = x) (x : AV) : ∀ p, x.tr h p = x := by
  refine AV.rec (motive_1 := fun x => ∀ p, x.tr h p = x) (motive_2 := fun l => (∀ p k, AV.trL h p k l = l) ∧ AV.trN h l = l) (motive_3 := fun _ => True)
    ?_ ?_ ?_ ?_ ?_ ?_ ?_ ?_ ?_ ?_ ?_ ?_ ?_ ?_ ?_ ?_ x
  · intro p; exact hl _ _ rfl
  · intro x p; exact hl _ _ rfl
  · intro k n p; exact hl _ _ rfl
  · intro x p; exact hl _ _ rfl
  · intro p; exact hl _ _ rfl
  · intro p; exact hl _ _ rfl
  · intro id off p; exact hl _ _ rfl
  · intro g ix cells off _ p; exact hl _ _ rfl
  · intro f fi ca h1 h2 p; simp [AV.tr, h1.2, h2.2]
  · intro g sz xs _ p; exact hl _ _ rfl
  · intro cs h p; simp [AV.tr, h.1]
  · intro cs h p; simp [AV.tr, h.1]
  · exact ⟨fun _ _ => rfl, rfl⟩
  · intro x xs h1 h2
    exact ⟨fun p k => by simp [AV.trL, h1, h2.1], by simp [AV.trN, h1, h2.2]⟩
  · trivial
  · intros; trivial

theorem AV.trC_id {h : Place → AV → AV} (hl : ∀ p x, x.leaf = true → h p x = x) (id : Nat) : ∀ (cs : List AV) (k : Nat), AV.trC h id k cs = cs
  | [], _ => rfl
  | x :: xs, k => by simp [AV.trC, AV.tr_id hl, AV.trC_id hl id xs]

theorem St.tr_id {h : Place → AV → AV} (hl : ∀ p x, x.leaf = true → h p x = x) (st : St) : st.tr h = st := by
  cases st with
  | mk slots boxes =>
    simp only [St.tr, AV.tr_id hl]
    congr 1
    funext id
    cases boxes id with
    | none => rfl
    | some cs => simp [AV.trC_id hl]

def noQ : Place → Option Place := fun _ => none
def noF : Place → Bool := fun _ => false

theorem fzLeaf_no (p : Place) (x : AV) : fzLeaf noF p x = x := by
  unfold fzLeaf
  split <;> simp [noF]
theorem takeLeaf_no (p : Place) (x : AV) : takeLeaf noQ p x = x := by
  unfold takeLeaf
  split <;> simp [noQ]

@[simp] theorem St.fz_no (st : St) : st.fz noF = st := St.tr_id (fun p x _ => fzLeaf_no p x) st
@[simp] theorem St.take_no (st : St) : st.take noQ = st := St.tr_id (fun p x _ => takeLeaf_no p x) st

theorem Env.settle_no (E : Env) : E.settle noQ noF = E := by
  cases E with
  | mk w β ω Pub st tm =>
    simp only [Env.settle, Env.take, Env.fz, St.fz_no, St.take_no]
    congr 1
    · funext bk
      cases ω bk with
      | none => rfl
      | some q => simp [noF, noQ]
    · funext bk
      simp [noF]

def St.settle (st : St) (Q : Place → Option Place) (F : Place → Bool) : St := (st.fz F).take Q
@[simp] theorem St.settle_no (st : St) : st.settle noQ noF = st := by simp [St.settle]

/- The views within a value: of what, exact or not, and where they would go. -/
mutual
def AV.vws : Place → AV → List (Place × Bool × Place)
  | p, .sl (.vw q ex) _ _ => [(q, ex, p)]
  | p, .pt (.vw q _) _ _ _ => [(q, false, p)]
  | p, .agg cs => AV.vwsL p 0 cs
  | p, .tup cs => AV.vwsL p 0 cs
  | _, .fn _ fi ca => AV.vwsN fi ++ AV.vwsN ca
  | _, _ => []
def AV.vwsL : Place → Nat → List AV → List (Place × Bool × Place)
  | _, _, [] => []
  | p, k, x :: xs => AV.vws (p.sub k) x ++ AV.vwsL p (k + 1) xs
def AV.vwsN : List AV → List (Place × Bool × Place)
  | [] => []
  | x :: xs => AV.vws .no x ++ AV.vwsN xs
end

def AV.vwsC (id : Nat) : Nat → List AV → List (Place × Bool × Place)
  | _, [] => []
  | k, x :: xs => AV.vws (.cell id k) x ++ AV.vwsC id (k + 1) xs

abbrev Views := List (Place × Bool × Place)

def mkQ (leak : Place → Bool) (l : Views) (tk : Place → Bool) (q : Place) : Option Place :=
  match q with
  | .box _ => none
  | q => if leak q then some .no else (l.find? fun e => decide (e.1 = q) && e.2.1 && tk q).map fun e => e.2.2

def mkF (l : Views) (tk : Place → Bool) (q : Place) : Bool :=
  match q with
  | .box _ => false
  | q => l.any fun e => decide (e.1 = q) && !(e.2.1 && tk q)

structure Cx where
  P : Program
  N : Nat
  kept : List Nat
  keptB : List Nat
  res : List Nat
  base : Nat

def Cx.T (C : Cx) : Nat → Option TI := ti C.P

/-- May a place be taken from: a slot that nothing reads any more; or anything, where the function ends with it. -/
def Cx.tk (C : Cx) (rf : Bool) (d : Option Nat) : Place → Bool
  | .slot t _ => (rf || !C.kept.contains t) && decide (some t ≠ d)
  | .cell _ _ => rf
  | _ => false

def isSlotOf (d : Nat) : Place → Bool
  | .slot t _ => t == d
  | _ => false
def isCellOf (id off n : Nat) : Place → Bool
  | .cell i j => i == id && decide (off ≤ j) && decide (j < off + n)
  | _ => false
def isBoxOf (id d : Nat) : Place → Bool
  | .cell i _ => i == id
  | .slot t _ => t == d
  | _ => false

def settleQ (fast : Bool) (leak : Place → Bool) (l : Views) (tk : Place → Bool) : Place → Option Place := match fast with | true => noQ | false => mkQ leak l tk
def settleF (fast : Bool) (l : Views) (tk : Place → Bool) : Place → Bool := match fast with | true => noF | false => mkF l tk

theorem settleQ_box (fast leak l tk id) : settleQ fast leak l tk (.box id) = none := by cases fast <;> rfl
theorem settleF_box (fast l tk id) : settleF fast l tk (.box id) = false := by cases fast <;> rfl

def szOf (T : Nat → Option TI) (t : Nat) : Nat :=
  match T t with
  | some y => match y.kind with
    | .slice e => ((T e).map TI.size).getD 0
    | _ => 0
  | none => 0

/-- x is kept in slot d. -/
def aassign (C : Cx) (st : St) (d : Nat) (X : AV) (K : St → Prop) : Prop :=
  let l := X.vws (.slot d [])
  let fast := l.isEmpty && (st.slots d).free
  let tk := C.tk (C.res.contains d) (some d)
  let Q := settleQ fast (isSlotOf d) l tk
  let F := settleF fast l tk
  d < C.N ∧ X.resOk Q F (.slot d []) = true ∧ K ((st.settle Q F).put d (X.tr (resLeaf F) (.slot d [])))

/-- x is kept in cells of a box. -/
def astoreBox (C : Cx) (st : St) (t : Nat) (rf : Bool) (id off : Nat) (X : AV) (K : St → Prop) : Prop :=
  match C.T t, st.boxes id with
  | some y, some cs =>
    let l := AV.vwsC id off (flatA X)
    let fast := l.isEmpty && AV.freeL ((cs.drop off).take y.size)
    let tk := C.tk rf none
    let Q := settleQ fast (isCellOf id off y.size) l tk
    let F := settleF fast l tk
    X.hole = false ∧ (flatA X).length = y.size ∧ off + y.size ≤ cs.length ∧ (flatA X).all AV.cellOk = true ∧ AV.resOkC Q F id off (flatA X) = true ∧
      K ((st.settle Q F).setBox id (some (spliceL (((st.settle Q F).boxes id).getD []) off (AV.trC (resLeaf F) id off (flatA X)))))
  | _, _ => False

/-- A new box, in slot d. -/
def anewBox (C : Cx) (st : St) (d : Nat) (X : AV) (K : St → Prop) : Prop :=
  let id := C.base + d
  let l := AV.vwsC id 0 (flatA X)
  let tk := C.tk false (some d)
  let Q := mkQ (isBoxOf id d) l tk
  let F := mkF l tk
  d < C.N ∧ X.hole = false ∧ AV.resOkC Q F id 0 (flatA X) = true ∧ AV.noPtrL id (AV.trC (resLeaf F) id 0 (flatA X)) = true ∧
    K ((((st.settle Q F).killB id).setBox id (some (AV.trC (resLeaf F) id 0 (flatA X)))).put d (.ptr id 0))

/-- An element of a place's own row is written. -/
def astoreElem (C : Cx) (st : St) (t : Nat) (q : Place) (ix off : Nat) (cells : List AV) (X : AV) (K : St → Prop) : Prop :=
  match C.T t, st.abs q with
  | some y, .sl .own sz xs =>
    let l := AV.vwsL .no 0 (flatA X)
    let F := settleF l.isEmpty l (fun _ => false)
    (match q with | .slot _ [] => True | .cell _ _ => True | _ => False) ∧ F q = false ∧ X.hole = false ∧ (flatA X).length = y.size ∧ off + y.size ≤ cells.length ∧
      AV.dataL ((flatA X).map (AV.dz F)) = true ∧ (flatA X).all AV.cellOk = true ∧
      K (((st.fz F).take (selfTake q)).setAt q (.sl .own sz (xs.set ix (spliceL cells off ((flatA X).map (AV.dz F))))))
  | _, _ => False

section
variable {C : Cx} {S : Start} {E : Env}

theorem free_noOwn : ∀ (π : List Nat) {x : AV} {sz : Nat} {xs : List (List AV)}, x.free = true → x.at π ≠ .sl .own sz xs
  | [], x, sz, xs, h => by intro e; cases x <;> simp [AV.at] at e; obtain ⟨rfl, _⟩ := e; simp [AV.free] at h
  | k :: π, x, sz, xs, h => by
    cases x with
    | agg cs =>
      simp only [AV.at]
      rw [AV.free] at h
      cases hk : cs[k]? with
      | none => rw [List.getD_eq_getElem?_getD, hk, Option.getD_none, AV.at_any]; simp
      | some c => rw [getD_get hk]; exact free_noOwn π (AV.freeL_get h hk)
    | tup cs =>
      simp only [AV.at]
      rw [AV.free] at h
      cases hk : cs[k]? with
      | none => rw [List.getD_eq_getElem?_getD, hk, Option.getD_none, AV.at_any]; simp
      | some c => rw [getD_get hk]; exact free_noOwn π (AV.freeL_get h hk)
    | _ => simp [AV.at]

theorem settle_noOwn {st : St} {d : Nat} {fast : Bool} {l : Views} {tk : Place → Bool} {leak : Place → Bool} (hl : ∀ π, leak (.slot d π) = true) (h : fast = true → (st.slots d).free = true) :
    NoOwn ((st.settle (settleQ fast leak l tk) (settleF fast l tk)).slots d) := by
  cases fast with
  | true =>
    show NoOwn ((st.settle noQ noF).slots d)
    rw [St.settle_no]
    intro π sz xs
    exact free_noOwn π (h rfl)
  | false => exact take_noOwn _ _ d fun π => by simp [settleQ, mkQ, hl π]

theorem aassign_sound (I : Inv C.N S E) {d : Nat} {X : AV} {v : Value} {K : St → Prop} (hv : Val E .no X v) (h : aassign C E.st d X K) :
    ∃ E', E'.w = E.w ∧ Inv C.N S E' ∧ E'.tm = E.tm.setIfInBounds d v ∧ K E'.st := by
  obtain ⟨hd, hr, hk⟩ := h
  generalize hfast : ((X.vws (.slot d [])).isEmpty && (E.st.slots d).free) = fast at hr hk
  have hff : fast = true → (E.st.slots d).free = true := fun e => by rw [e] at hfast; simp only [Bool.and_eq_true] at hfast; exact hfast.2
  generalize hQ : settleQ fast (isSlotOf d) (X.vws (.slot d [])) (C.tk (C.res.contains d) (some d)) = Q at hr hk
  generalize hF : settleF fast (X.vws (.slot d [])) (C.tk (C.res.contains d) (some d)) = F at hr hk
  have hQb : ∀ id, Q (.box id) = none := fun id => by rw [← hQ]; exact settleQ_box ..
  have hFb : ∀ id, F (.box id) = false := fun id => by rw [← hF]; exact settleF_box ..
  have hno : NoOwn ((E.settle Q F).st.slots d) := by
    have := settle_noOwn (st := E.st) (d := d) (fast := fast) (l := X.vws (.slot d [])) (tk := C.tk (C.res.contains d) (some d)) (leak := isSlotOf d) (fun π => by simp [isSlotOf]) hff
    rw [hQ, hF] at this; exact this
  have I1 := I.settle Q F hQb hFb
  have hv1 := hv.settle I.rel _ hr
  obtain ⟨_, hR⟩ := I1.rel.put (fun _ => False) (fun _ _ _ _ h => h) (fun _ h => h) (fun h => h) E.w (E.settle Q F).ω (E.settle Q F).Pub d (X.tr (resLeaf F) (.slot d [])) v hd hno (fun _ _ _ => rfl) (fun _ _ h => h) (fun _ h => h) I1.rel.pub I1.rel.own
  have hfin := hR (by
    refine Val.moved (E := E.settle Q F) (fun bk h => ?_) (fun bk q h _ => ?_) (fun _ => ?_) hv1 (AV.res_solid F X _) (by simp)
    · exact ⟨h, rfl⟩
    · exact ⟨h, rfl⟩
    · rfl)
  exact ⟨⟨E.w, (E.settle Q F).β, (E.settle Q F).ω, (E.settle Q F).Pub, (E.settle Q F).st.put d (X.tr (resLeaf F) (.slot d [])), (E.settle Q F).tm.setIfInBounds d v⟩, rfl,
    ⟨hfin, ⟨I1.fr.os, I1.fr.tape, I1.fr.output, I1.fr.size, I1.fr.block, I1.fr.own, I1.fr.pub0, I1.fr.pub1, I1.fr.beta⟩⟩, rfl, hk⟩

theorem noOwn_cell {st : St} {id off n : Nat} {cs : List AV} (hb : st.boxes id = some cs) (hf : AV.freeL ((cs.drop off).take n) = true) (j : Nat) (h1 : off ≤ j) (h2 : j < off + n) (sz : Nat) (xs : List (List AV)) :
    st.abs (.cell id j) ≠ .sl .own sz xs := by
  intro he
  simp only [St.abs, hb, Option.getD_some] at he
  cases hj : cs[j]? with
  | none => rw [List.getD_eq_getElem?_getD, hj] at he; simp at he
  | some c =>
    rw [getD_get hj] at he; subst he
    have : ((cs.drop off).take n)[j - off]? = some (.sl .own sz xs) := by
      rw [List.getElem?_take, if_pos (by omega), List.getElem?_drop, show off + (j - off) = j by omega]; exact hj
    have := AV.freeL_get hf this
    simp [AV.free] at this

theorem astoreBox_sound (I : Inv C.N S E) {t : Nat} {rf : Bool} {id off : Nat} {X : AV} {v : Value} {K : St → Prop} (hv : Val E .no X v) (h : astoreBox C E.st t rf id off X K) :
    ∃ E', (Instr.storeAt t (.pointer (some ⟨E.β id, off, none⟩)) v).run C.P E.w = .ok () E'.w ∧ Inv C.N S E' ∧ E'.tm = E.tm ∧ K E'.st := by
  unfold astoreBox at h
  split at h
  · rename_i y cs hy hb
    obtain ⟨oy⟩ := ti_ok hy
    simp only at h
    generalize hfast : ((AV.vwsC id off (flatA X)).isEmpty && AV.freeL ((cs.drop off).take y.size)) = fast at h
    have hff : fast = true → AV.freeL ((cs.drop off).take y.size) = true := fun e => by rw [e] at hfast; simp only [Bool.and_eq_true] at hfast; exact hfast.2
    generalize hQ : settleQ fast (isCellOf id off y.size) (AV.vwsC id off (flatA X)) (C.tk rf none) = Q at h
    generalize hF : settleF fast (AV.vwsC id off (flatA X)) (C.tk rf none) = F at h
    obtain ⟨hh, hn, hle, hcell, hr, hk⟩ := h
    have hQb : ∀ id, Q (.box id) = none := fun id => by rw [← hQ]; exact settleQ_box ..
    have hFb : ∀ id, F (.box id) = false := fun id => by rw [← hF]; exact settleF_box ..
    have hl : ∀ j, off ≤ j → j < off + y.size → ∀ sz xs, (E.settle Q F).st.abs (.cell id j) ≠ .sl .own sz xs := by
      intro j h1 h2 sz xs
      cases hfb : fast with
      | true =>
        rw [hfb] at hQ hF
        have e1 : Q = noQ := hQ.symm
        have e2 : F = noF := hF.symm
        subst e1; subst e2
        rw [Env.settle_no]
        exact noOwn_cell hb (hff hfb) j h1 h2 sz xs
      | false =>
        rw [hfb] at hQ
        refine take_cell (E.fz F).st Q id j ?_ sz xs
        rw [← hQ]
        simp [settleQ, mkQ, isCellOf, h1, h2]
    obtain ⟨w', hrun, hI⟩ := I.storeBox oy Q F id off cs X v hv hb hh hn hle hcell hQb hFb hl hr
    exact ⟨⟨w', (E.settle Q F).β, (E.settle Q F).ω, (E.settle Q F).Pub, _, (E.settle Q F).tm⟩, hrun, hI, rfl, hk⟩
  · exact h.elim

theorem anewBox_sound (I : Inv C.N S E) (hbase : S.k ≤ C.base) {d : Nat} {X : AV} {v : Value} (T : TypeId) {K : St → Prop} (hv : Val E .no X v) (h : anewBox C E.st d X K) :
    ∃ E', E'.w = E.w.alloc (.cells v.cells T) ∧ Inv C.N S E' ∧ E'.tm = E.tm.setIfInBounds d (.pointer (some ⟨E.w.heap.size, 0, none⟩)) ∧ K E'.st := by
  obtain ⟨hd, hh, hr, hp, hk⟩ := h
  obtain ⟨ω', β', hI⟩ := I.newBox (mkQ (isBoxOf (C.base + d) d) (AV.vwsC (C.base + d) 0 (flatA X)) (C.tk false (some d))) (mkF (AV.vwsC (C.base + d) 0 (flatA X)) (C.tk false (some d))) d (C.base + d) X v T hd hv hh
    (fun id => rfl) (fun id => rfl) (fun j => by simp [mkQ, isBoxOf]) (fun π => by simp [mkQ, isBoxOf]) hr hp (by omega)
  exact ⟨⟨_, _, _, _, _, _⟩, rfl, hI, rfl, hk⟩

theorem astoreElem_sound (I : Inv C.N S E) {t : Nat} {q : Place} {ix off : Nat} {cells : List AV} {X : AV} {v vp : Value} {K : St → Prop} (hv : Val E .no X v) (hp : Val E .no (.pt (.vw q true) ix cells off) vp)
    (h : astoreElem C E.st t q ix off cells X K) :
    ∃ E', (Instr.storeAt t vp v).run C.P E.w = .ok () E'.w ∧ Inv C.N S E' ∧ E'.tm = E.tm ∧ K E'.st := by
  unfold astoreElem at h
  split at h
  · rename_i y sz xs hy hab
    obtain ⟨oy⟩ := ti_ok hy
    obtain ⟨hq, hFq, hh, hn, hle, hdata, hcell, hk⟩ := h
    have hq' : (∃ t, q = .slot t []) ∨ ∃ id j, q = .cell id j := by
      split at hq
      · exact .inl ⟨_, rfl⟩
      · exact .inr ⟨_, _, rfl⟩
      · exact hq.elim
    obtain ⟨E', h1, h2, h3, h4⟩ := I.storeElem oy (settleF (AV.vwsL .no 0 (flatA X)).isEmpty (AV.vwsL .no 0 (flatA X)) (fun _ => false)) (fun id => settleF_box ..) q ix off sz cells xs vp X v hv hp hab hq' hFq hh hn hle hdata hcell
    exact ⟨E', h1, h2, h3, by rw [h4]; exact hk⟩
  · exact h.elim

/-! ### Rows of one's own -/

def chunk (sz : Nat) : Nat → List AV → List (List AV)
  | 0, _ => []
  | n + 1, cs => cs.take sz :: chunk sz n (cs.drop sz)

/-- A slice's literal, in slot d. -/
def abuildSlice (C : Cx) (st : St) (d t len : Nat) (parts : List (Nat × AV)) (K : St → Prop) : Prop :=
  match (C.T t).map TI.kind with
  | some (.slice e) => match C.T e with
    | some y =>
      let l := AV.vwsN (parts.map (·.2))
      let F := settleF l.isEmpty l (fun _ => false)
      match fillL (fun i => some (i * y.size, y.size)) (List.replicate len (y.zero.map (AV.dz noF))).flatten (parts.map fun p => (p.1, p.2.dz F)) with
      | some cs => d < C.N ∧ (st.slots d).free = true ∧ len * y.size ≤ 16777216 ∧ 0 < y.size ∧ (parts.all fun p => (p.2.dz F).data) = true ∧ AV.dataL (y.zero.map (AV.dz noF)) = true ∧ AV.dataL cs = true ∧ cs.all AV.cellOk = true ∧
          K ((st.fz F).put d (.sl .own y.size (chunk y.size len cs)))
      | none => False
    | none => False
  | _ => False

/-- make of a slice, in slot d. -/
def amakeSlice (C : Cx) (st : St) (d t : Nat) (l c : AV) (K : St → Prop) : Prop :=
  match (C.T t).map TI.kind, l, c with
  | some (.slice e), .i _ l, .i _ c => match C.T e with
    | some y => d < C.N ∧ (st.slots d).free = true ∧ 0 ≤ l ∧ l ≤ c ∧ c * y.bytes ≤ 140737488355328 ∧ 0 < y.bytes ∧ AV.dataL (y.zero.map (AV.dz noF)) = true ∧ (y.zero.map (AV.dz noF)).all AV.cellOk = true ∧
          K (st.put d (.sl .own y.size (List.replicate l.toNat (y.zero.map (AV.dz noF)))))
    | none => False
  | _, _, _ => False

/-- What an append appends. -/
def appendix (x : AV) : Option (Nat × List (List AV)) :=
  match x with
  | .sl _ sz ys => some (sz, ys)
  | .s b => some (1, b.data.toList.map fun c => [.i .u8 c.toNat])
  | _ => none

/-- What a row is taken for, that is appended to in slot d. -/
def appendQ (d : Nat) (q p : Place) : Option Place :=
  match p with
  | .box _ => none
  | p => if p = q then some (.slot d []) else if isSlotOf d p then some .no else none

def aappendTo (st : St) (d : Nat) (y : TI) (ys : List (List AV)) (s : AV) (K : St → Prop) : Prop :=
  match s with
  | .sl .nl _ xs => (st.slots d).free = true ∧ xs = [] ∧ ys.length * y.bytes ≤ 140737488355328 ∧ K (st.put d (.sl .own y.size ys))
  | .sl (.vw q true) sz xs => sz = y.size ∧ (xs.length + ys.length) * y.bytes ≤ 140737488355328 ∧ K ((st.take (appendQ d q)).put d (.sl .own y.size (xs ++ ys)))
  | _ => False

/-- append, in slot d. -/
def aappend (C : Cx) (st : St) (d t t2 : Nat) (s x : AV) (K : St → Prop) : Prop :=
  match (C.T t).map TI.kind, (C.T t2).map TI.kind, appendix x with
  | some (.slice e), some k2, some (sz2, ys) => match C.T e, k2 with
    | some y, .str | some y, .slice _ => d < C.N ∧ 0 < y.bytes ∧ sz2 = y.size ∧ aappendTo st d y ys s K
    | _, _ => False
  | _, _, _ => False

theorem chunk_flatten (sz : Nat) : ∀ (n : Nat) (cs : List AV), (chunk sz n cs).flatten = cs.take (n * sz)
  | 0, cs => by simp [chunk]
  | n + 1, cs => by
    simp only [chunk, List.flatten_cons, chunk_flatten sz n]
    rw [show (n + 1) * sz = sz + n * sz by rw [Nat.add_mul]; omega, List.take_add]

theorem chunk_length (sz : Nat) : ∀ (n : Nat) (cs : List AV), (chunk sz n cs).length = n
  | 0, cs => rfl
  | n + 1, cs => by simp [chunk, chunk_length sz n]

theorem chunk_each (sz : Nat) : ∀ (n : Nat) (cs : List AV), n * sz ≤ cs.length → ∀ x ∈ chunk sz n cs, x.length = sz
  | 0, cs, _, x, hx => by simp [chunk] at hx
  | n + 1, cs, h, x, hx => by
    rw [Nat.add_mul] at h
    simp only [chunk, List.mem_cons] at hx
    rcases hx with rfl | hx
    · simp; omega
    · exact chunk_each sz n (cs.drop sz) (by simp; omega) x hx

theorem fillL_length {place : Nat → Option (Nat × Nat)} : ∀ (ps : List (Nat × AV)) (cs cs' : List AV), fillL place cs ps = some cs' → cs'.length = cs.length
  | [], cs, cs', h => by simp [fillL] at h; rw [h]
  | (i, x) :: ps, cs, cs', h => by
    unfold fillL at h
    split at h
    · cases h
    · split at h
      · cases h
      · rename_i hc
        have := fillL_length ps _ _ h
        rw [this, splice_length]
        simp only [not_or] at hc; omega

theorem zero_dz {P : Program} {t : TypeId} {y : TI} (o : TyOk P t y) (hd : AV.dataL (y.zero.map (AV.dz noF)) = true) (E : Env) (k : Nat) (c : AV) (hk : (y.zero.map (AV.dz noF))[k]? = some c) : Dat E.Pub E.w c (o.z.cells.getD k undef) := by
  rw [List.getElem?_map] at hk
  obtain ⟨c0, hc0, rfl⟩ := Option.map_eq_some_iff.1 hk
  have := (o.zval E .no k c0 hc0).dz (F := noF) (AV.dataL_iff.1 hd _ (List.mem_of_getElem? (by rw [List.getElem?_map, hc0]; rfl)))
  exact this.mono fun bk hb => ⟨by rcases hb with h | ⟨q, _, h⟩; exact h; simp [noF] at h, rfl⟩

theorem rep_flat_get {α : Type} (z : List α) (n k : Nat) (c : α) (h : (List.replicate n z).flatten[k]? = some c) : k < n * z.length ∧ z[k % z.length]? = some c := by
  induction n generalizing k with
  | zero => simp at h
  | succ n ih =>
    rw [List.replicate_succ, List.flatten_cons] at h
    by_cases hk : k < z.length
    · rw [List.getElem?_append_left hk] at h
      rw [Nat.mod_eq_of_lt hk]
      exact ⟨by rw [Nat.add_mul]; omega, h⟩
    · rw [List.getElem?_append_right (by omega)] at h
      obtain ⟨h1, h2⟩ := ih _ h
      refine ⟨by rw [Nat.add_mul]; omega, ?_⟩
      rwa [← Nat.mod_eq_sub_mod (by omega)] at h2
end
end Go.AM
namespace Go.AM
theorem getbang {arr : Array Value} {k : Nat} (h : k < arr.size) : arr[k]! = arr[k] := getElem!_pos arr k h

section
variable {C : Cx} {S : Start} {E : Env}

theorem abuildSlice_sound (I : Inv C.N S E) {d t len : Nat} {ps : List (Nat × AV)} {qs : Array (Nat × Value)} {K : St → Prop} (hl : ps.length = qs.size)
    (hv : ∀ (j : Nat) p q, ps[j]? = some p → qs[j]? = some q → p.1 = q.1 ∧ Val E .no p.2 q.2) (h : abuildSlice C E.st d t len ps K) :
    ∃ v E', (Instr.buildSlice t len qs).run C.P E.w = .ok v E'.w ∧ Inv C.N S E' ∧ E'.tm = E.tm.setIfInBounds d v ∧ K E'.st := by
  unfold abuildSlice at h
  split at h
  · rename_i e hk
    obtain ⟨z, oz, hz⟩ := kind_of_map (P := C.P) hk
    have hd := kind_slice (oz.kind.trans hz)
    split at h
    · rename_i y hy
      obtain ⟨oy⟩ := ti_ok hy
      simp only at h
      generalize hF : settleF (AV.vwsN (ps.map (·.2))).isEmpty (AV.vwsN (ps.map (·.2))) (fun _ => false) = F at h
      have hFb : ∀ id, F (.box id) = false := fun id => by rw [← hF]; exact settleF_box ..
      split at h
      · rename_i cs hfill
        obtain ⟨hdN, hfree, hmany, hsz, hpd, hzd, hcd, hcok, hk⟩ := h
        have I1 := I.fz F hFb
        have hzl : (y.zero.map (AV.dz noF)).length = y.size := by rw [List.length_map, oy.zlen]
        have hside0 : Side (E.fz F) (List.replicate len (y.zero.map (AV.dz noF))).flatten ((Array.range (len * y.size)).map (oy.z.cells[· % oy.z.cells.size]!)) := by
          refine ⟨by simp [oy.zlen], fun k c hk => ?_⟩
          obtain ⟨h1, h2⟩ := rep_flat_get _ _ _ _ hk
          rw [hzl] at h1 h2
          have := (zero_dz oy hzd (E.fz F) _ c h2).val (E := E.fz F) .no
          have he : ((Array.range (len * y.size)).map (oy.z.cells[· % oy.z.cells.size]!)).getD k undef = oy.z.cells.getD (k % y.size) undef := by
            have hlt : k % y.size < oy.z.cells.size := by rw [oy.zcs]; exact Nat.mod_lt _ hsz
            rw [Array.getD_eq_getD_getElem?, Array.getElem?_map, Array.getElem?_range, if_pos h1]
            simp [oy.zcs, getbang hlt]
            rw [Array.getElem?_eq_getElem hlt]; rfl
          rw [he]; exact this
        have hfree0 : AV.freeL (List.replicate len (y.zero.map (AV.dz noF))).flatten = true := by
          rw [AV.freeL_iff]
          intro c hc
          obtain ⟨k, hk⟩ := List.getElem?_of_mem hc
          obtain ⟨h1, h2⟩ := rep_flat_get _ _ _ _ hk
          exact (zero_dz oy hzd E _ c h2).free
        obtain ⟨f1, arr', f2, f3⟩ := fill_sound (E := E.fz F) (ps.map fun p => (p.1, p.2.dz F)) qs.toList _ _ cs hside0 hfree0 (by simpa using hl) (fun j p q h1 h2 => by
          rw [List.getElem?_map] at h1
          obtain ⟨p0, hp0, rfl⟩ := Option.map_eq_some_iff.1 h1
          obtain ⟨e1, e2⟩ := hv j p0 q hp0 (by simpa using h2)
          have hdat := e2.dz (F := F) (List.all_eq_true.1 hpd _ (List.mem_of_getElem? hp0))
          exact ⟨e1, hdat.val (E := E.fz F) .no, hdat.free⟩) hfill
        have hcl : cs.length = len * y.size := by rw [fillL_length _ _ _ hfill]; simp [oy.zlen]
        have hno : NoOwn ((E.fz F).st.slots d) := by
          intro π sz xs
          have : (E.st.slots d).free = true := hfree
          show ((E.st.slots d).tr (fzLeaf F) (.slot d [])).at π ≠ _
          rw [AV.at_tr (fun _ => rfl) (fzLeaf_leaf F)]
          intro he
          have h1 := free_noOwn π this (sz := sz) (xs := xs)
          generalize (E.st.slots d).at π = u at he h1
          cases u with
          | sl g a b =>
            rw [AV.tr_leaf rfl] at he
            cases g with
            | own => simp only [fzLeaf] at he; split at he <;> simp_all
            | vw q ex => simp only [fzLeaf] at he; split at he <;> simp at he
            | fro => simp [fzLeaf] at he
            | nl => simp [fzLeaf] at he
          | pt g a b c => rw [AV.tr_leaf rfl] at he; cases g <;> simp [fzLeaf] at he; (split at he <;> simp at he)
          | agg => simp [AV.tr] at he
          | tup => simp [AV.tr] at he
          | fn => simp [AV.tr] at he
          | _ => simp [AV.tr, fzLeaf] at he
        have hchl := chunk_length y.size len cs
        obtain ⟨ω', hI⟩ := I1.putRow E.w rfl ⟨rfl, rfl, rfl⟩ d hdN hno y.size len (chunk y.size len cs) arr' e (by rw [← f3.1, hcl]) (by rw [hchl]; exact Nat.le_refl _) (chunk_each y.size len cs (by omega))
          (fun k c hkk => by
            rw [chunk_flatten, List.take_of_length_le (by omega)] at hkk
            have hv' := f3.2 k c hkk
            have hdd := hv'.dat (AV.dataL_iff.1 hcd c (List.mem_of_getElem? hkk))
            have hlt : k < arr'.size := by rw [← f3.1]; exact (List.getElem?_eq_some_iff.1 hkk).1
            refine ⟨arr'[k], Array.getElem?_eq_getElem hlt, ?_⟩
            rw [Array.getD_eq_getD_getElem?, Array.getElem?_eq_getElem hlt] at hdd
            exact ⟨hdd, oneCell_dat hdd (List.all_eq_true.1 hcok c (List.mem_of_getElem? hkk))⟩)
        refine ⟨.slice (some ⟨E.w.heap.size, 0, none⟩) len len, ⟨_, _, _, _, _, _⟩, ?_, hI, by rw [hchl]; rfl, hk⟩
        have hlim : ¬ (len * y.size > 2 ^ 24) := by omega
        have hlim' : ¬ (len * y.size > 16777216) := by omega
        by_cases h0 : len * y.size = 0
        · have he : ((Array.range (len * y.size)).map ((#[] : Array Value)[· % (#[] : Array Value).size]!)) = ((Array.range (len * y.size)).map (oy.z.cells[· % oy.z.cells.size]!)) := by rw [h0]; simp
          simp only [Instr.buildSlice, Sem.run_bind, oz.underlying, hd, Result.andThen_ok, oy.sizeOf, if_neg hlim]
          rw [if_pos h0]
          simp only [Sem.run_bind, Sem.run_pure, Result.andThen_ok, he, f2]
          rfl
        · simp only [Instr.buildSlice, Sem.run_bind, oz.underlying, hd, Result.andThen_ok, oy.sizeOf, if_neg hlim]
          rw [if_neg h0]
          simp only [Sem.run_bind, oy.zeroValue, Sem.run_pure, Result.andThen_ok, f2]
          rfl
      · exact h.elim
    · exact h.elim
  · exact h.elim

theorem amakeSlice_sound (I : Inv C.N S E) {d t : Nat} {l c : AV} {vl vc : Value} {K : St → Prop} (hl : Val E .no l vl) (hc : Val E .no c vc) (h : amakeSlice C E.st d t l c K) :
    ∃ v E', (Instr.makeSlice t vl vc).run C.P E.w = .ok v E'.w ∧ Inv C.N S E' ∧ E'.tm = E.tm.setIfInBounds d v ∧ K E'.st := by
  unfold amakeSlice at h
  split at h
  · rename_i e kl l kc c hk
    obtain ⟨z, oz, hz⟩ := kind_of_map (P := C.P) hk
    have hd := kind_slice (oz.kind.trans hz)
    split at h
    · rename_i y hy
      obtain ⟨oy⟩ := ti_ok hy
      obtain ⟨hdN, hfree, h0, h1, h2, hby, hzd, hzok, hK⟩ := h
      cases hl; cases hc
      obtain ⟨l, rfl⟩ : ∃ n : Nat, l = n := ⟨l.toNat, by omega⟩
      obtain ⟨c, rfl⟩ : ∃ n : Nat, c = n := ⟨c.toNat, by omega⟩
      have hlc : l ≤ c := by omega
      have hcb : c * y.bytes ≤ 140737488355328 := by
        have h3 : ((c * y.bytes : Nat) : Int) ≤ 140737488355328 := by rw [Int.natCast_mul]; exact h2
        omega
      have hc63 : c ≤ 140737488355328 := Nat.le_trans (Nat.le_mul_of_pos_right c hby) hcb
      have hwl : IntKind.i64.wrap (l : Int) = l := IntWalk.i64_in _ (by omega)
      have hwc : IntKind.i64.wrap (c : Int) = c := IntWalk.i64_in _ (by omega)
      have hzl : (y.zero.map (AV.dz noF)).length = y.size := by rw [List.length_map, oy.zlen]
      have hgetr : ∀ k, k < c * y.size → ((Array.range (c * y.size)).map (oy.z.cells[· % oy.z.cells.size]!))[k]? = some (oy.z.cells.getD (k % y.size) undef) := by
        intro k hk
        have hsz : 0 < y.size := by rcases Nat.eq_zero_or_pos y.size with h | h; (rw [h] at hk; simp at hk); exact h
        have hlt : k % y.size < oy.z.cells.size := by rw [oy.zcs]; exact Nat.mod_lt _ hsz
        rw [Array.getElem?_map, Array.getElem?_range, if_pos hk]
        simp [oy.zcs, getbang hlt]
        rw [Array.getElem?_eq_getElem hlt]; rfl
      obtain ⟨ω', hI⟩ := I.putRow E.w rfl ⟨rfl, rfl, rfl⟩ d hdN (fun π sz xs => free_noOwn π hfree) y.size c (List.replicate l (y.zero.map (AV.dz noF))) ((Array.range (c * y.size)).map (oy.z.cells[· % oy.z.cells.size]!)) e
        (by simp) (by simpa using hlc) (fun x hx => by rw [List.eq_of_mem_replicate hx, hzl])
        (fun k a hk => by
          obtain ⟨g1, g2⟩ := rep_flat_get _ _ _ _ hk
          rw [hzl] at g1 g2
          exact ⟨_, hgetr k (Nat.lt_of_lt_of_le g1 (Nat.mul_le_mul_right _ hlc)), zero_dz oy hzd E _ a g2, oneCell_dat (zero_dz oy hzd E _ a g2) (List.all_eq_true.1 hzok a (List.mem_of_getElem? g2))⟩)
      refine ⟨.slice (some ⟨E.w.heap.size, 0, none⟩) l c, ⟨_, _, _, _, _, _⟩, ?_, hI, by simp, by simpa using hK⟩
      have hbi : oy.i.bytes = y.bytes := oy.bytes
      have hfit : ¬ ((y.bytes : Int) * (c : Int) > 2 ^ 48) := by
        have : (y.bytes : Int) * (c : Int) = ((c * y.bytes : Nat) : Int) := by rw [Nat.mul_comm]; simp
        rw [this]; omega
      unfold Instr.makeSlice
      simp only [Sem.run_bind, oz.underlying, hd, Result.andThen_ok, asInt, asIntOf, Sem.run_pure, oy.typeInfo, hwl, hwc, hbi]
      have hcond : ¬ ((decide ((c : Int) < 0) || decide ((y.bytes : Int) * (c : Int) > 2 ^ 48) || decide ((l : Int) < 0) || decide ((l : Int) > (c : Int))) = true) := by
        have e1 : decide ((c : Int) < 0) = false := decide_eq_false (by omega)
        have e2 : decide ((y.bytes : Int) * (c : Int) > 2 ^ 48) = false := decide_eq_false hfit
        have e3 : decide ((l : Int) < 0) = false := decide_eq_false (by omega)
        have e4 : decide ((l : Int) > (c : Int)) = false := decide_eq_false (by omega)
        rw [e1, e2, e3, e4]; decide
      rw [if_neg hcond]
      simp only [Sem.run_bind, run_askRoom, Result.andThen_ok, Int.toNat_natCast, oy.sizeOf]
      by_cases hn0 : c * y.size = 0
      · have he : ((Array.range (c * y.size)).map ((#[] : Array Value)[· % (#[] : Array Value).size]!)) = ((Array.range (c * y.size)).map (oy.z.cells[· % oy.z.cells.size]!)) := by rw [hn0]; simp
        rw [if_pos hn0]
        simp only [Sem.run_bind, Sem.run_pure, Result.andThen_ok, he]
        rfl
      · rw [if_neg hn0]
        simp only [Sem.run_bind, oy.zeroValue, Sem.run_pure, Result.andThen_ok]
        rfl
    · exact h.elim
  · exact h.elim

theorem appendix_reads {x : AV} {vx : Value} (hx : Val E .no x vx) {sz : Nat} {ys : List (List AV)} (h : appendix x = some (sz, ys)) (hf : x.free = true) :
    (∀ z ∈ ys, z.length = sz) ∧ ∃ vs : List Value, Reads C.P E.w sz vx ys.length vs ∧ ∀ (k : Nat) c, ys.flatten[k]? = some c → ∃ u, vs[k]? = some u ∧ DatC E.Pub E.w c u := by
  unfold appendix at h
  split at h
  · rename_i g sz' ys'
    obtain ⟨rfl, rfl⟩ := Prod.mk.inj (Option.some.inj h)
    cases hx with
    | sl1 => exact ⟨by simp, [], ⟨rfl, fun w' _ => by simp [Builtin.firstCells, loadCells, loadCellsFrom], by simp, by simp⟩, by simp⟩
    | sl0 => exact ⟨by simp, [], ⟨rfl, fun w' _ => rfl, by simp, by simp⟩, by simp⟩
    | sl _ _ _ _ bk off cap hcap hrow hg _ =>
      obtain ⟨vs, h1, h2, h3⟩ := row_values hrow.2
      refine ⟨hrow.1, vs, ⟨rfl, fun w' hw' => ?_, by rw [h1, flatten_length hrow.1], fun u hu => ?_⟩, h3⟩
      · show (loadCells _ _).run C.P w' = _
        rw [← flatten_length hrow.1, ← h1]
        refine load_cells bk off vs fun j v hj => ?_
        rw [cell_same (w' := w') (w := E.w) (by rw [hw'])]
        exact h2 j v hj
      · obtain ⟨k, hk⟩ := List.getElem?_of_mem hu
        have hlt : k < ys'.flatten.length := by rw [← h1]; exact (List.getElem?_eq_some_iff.1 hk).1
        obtain ⟨u', hu', hd⟩ := h3 k _ (List.getElem?_eq_getElem hlt)
        rw [hk] at hu'
        obtain rfl := Option.some.inj hu'
        exact hd.2
  · rename_i b
    obtain ⟨rfl, rfl⟩ := Prod.mk.inj (Option.some.inj h)
    cases hx
    refine ⟨fun z hz => ?_, b.data.toList.map fun c => .int .u8 c.toNat, ⟨?_, fun w' _ => ?_, by simp, fun u hu => ?_⟩, fun k c hk => ?_⟩
    · obtain ⟨c, _, rfl⟩ := List.mem_map.1 hz; rfl
    · have hsz : (b.data.toList.map fun c => [AV.i .u8 c.toNat]).length = b.size := by rw [List.length_map, Array.length_toList]; rfl
      rw [hsz]; rfl
    · have hsz : (b.data.toList.map fun c => [AV.i .u8 c.toNat]).length = b.size := by rw [List.length_map, Array.length_toList]; rfl
      rw [hsz]
      have he : b.extract 0 b.size = b := by simp
      simp only [Builtin.firstCells, he, Sem.run_pure]
      congr 1
      apply Array.ext'
      simp
    · obtain ⟨c, _, rfl⟩ := List.mem_map.1 hu; rfl
    · have hfl : (b.data.toList.map fun c => [AV.i .u8 c.toNat]).flatten = b.data.toList.map fun c => AV.i .u8 c.toNat := by
        generalize b.data.toList = l
        induction l with
        | nil => rfl
        | cons c l ih => simp [ih]
      rw [hfl, List.getElem?_map] at hk
      obtain ⟨c0, hc0, rfl⟩ := Option.map_eq_some_iff.1 hk
      exact ⟨.int .u8 c0.toNat, by rw [List.getElem?_map, hc0]; rfl, .i _ _, rfl⟩
  · cases h

theorem und_text {P : Program} {t2 : TypeId} {k2 : Kind} (h : (ti P t2).map TI.kind = some k2) (hk : k2 = .str ∨ ∃ e, k2 = .slice e) : ∃ d2, P.underlying t2 = some d2 ∧ (d2 = .string ∨ ∃ e', d2 = .slice e') := by
  obtain ⟨z, oz, hz⟩ := kind_of_map h
  rcases hk with rfl | ⟨e, rfl⟩
  · exact ⟨oz.d, oz.und, .inl (kind_str (oz.kind.trans hz))⟩
  · exact ⟨oz.d, oz.und, .inr ⟨e, kind_slice (oz.kind.trans hz)⟩⟩

theorem aappend_sound (I : Inv C.N S E) {d t t2 : Nat} (ty : TypeId) {s x : AV} {vs vx : Value} {K : St → Prop} (hs : Val E .no s vs) (hx : Val E .no x vx) (hxf : x.free = true) (h : aappend C E.st d t t2 s x K) :
    ∃ v E', (Builtin.append_ #[t, t2] ty #[vs, vx]).run C.P E.w = .ok v E'.w ∧ Inv C.N S E' ∧ E'.tm = E.tm.setIfInBounds d v ∧ K E'.st := by
  unfold aappend at h
  split at h
  · rename_i e k2 sz2 ys hk hk2 hap
    obtain ⟨z, oz, hz⟩ := kind_of_map (P := C.P) hk
    have main : ∀ (y : TI), C.T e = some y → (k2 = .str ∨ ∃ e, k2 = .slice e) →
        (d < C.N ∧ 0 < y.bytes ∧ sz2 = y.size ∧ aappendTo E.st d y ys s K) →
        ∃ v E', (Builtin.append_ #[t, t2] ty #[vs, vx]).run C.P E.w = .ok v E'.w ∧ Inv C.N S E' ∧ E'.tm = E.tm.setIfInBounds d v ∧ K E'.st := by
      clear h
      intro y hy hkk h
      obtain ⟨oy⟩ := ti_ok hy
      obtain ⟨hdN, hby, rfl, h⟩ := h
      obtain ⟨d2, hd2u, hd2⟩ := und_text hk2 hkk
      have hs0 : ∃ g sz xs, s = .sl g sz xs := by cases s <;> first | exact ⟨_, _, _, rfl⟩ | exact h.elim
      obtain ⟨g, sz, xs, rfl⟩ := hs0
      cases g with
      | own => exact h.elim
      | fro => exact h.elim
      | nl =>
        obtain ⟨hfree, rfl, hb, hK⟩ := h
        obtain ⟨hyl, uv, hrd, hyv⟩ := appendix_reads (C := C) hx hap hxf
        have hvs : vs = .slice none 0 0 := by
          cases hs with
          | sl0 => rfl
          | sl _ _ _ _ _ _ _ _ _ hg _ => exact hg.elim
        subst hvs
        obtain ⟨v', E', h1, h2, h3, h4⟩ := I.append ty oz oy hz hd2u hd2 d hdN (fun π sz xs => free_noOwn π hfree) [] ys (.slice none 0 0) vx hby (.inl ⟨rfl, rfl⟩) uv hrd hyl hyv (by simpa using hb)
        exact ⟨v', E', h1, h2, h4, by rw [h3]; simpa using hK⟩
      | vw q ex =>
        cases ex with
        | false => exact h.elim
        | true =>
        obtain ⟨rfl, hb, hK⟩ := h
        generalize hQ : appendQ d q = Q at hK
        have hQb : ∀ id, Q (.box id) = none := fun id => by rw [← hQ]; rfl
        have hat : ∃ sz' xs', E.st.abs q = .sl .own sz' xs' := by
          cases hs with
          | sl0 _ _ _ _ ha => exact ha
          | sl _ _ _ _ _ _ _ _ _ _ ha => exact ha
        have hqb : ∀ id, q ≠ .box id := by
          intro id e; subst e
          obtain ⟨_, _, h⟩ := hat
          simp [St.abs] at h
        have hQq : Q q = some (.slot d []) := by
          rw [← hQ]
          cases q <;> first | (exact absurd rfl (hqb _)) | simp [appendQ]
        have I1 := I.take Q hQb
        have hno : NoOwn ((E.take Q).st.slots d) := take_noOwn E.st Q d fun π => by
          rw [← hQ]; simp only [appendQ]; split
          · rfl
          · simp [isSlotOf]
        obtain ⟨hyl, uv, hrd, hyv⟩ := appendix_reads (C := C) hx hap hxf
        have hsrc : (vs = .slice none 0 0 ∧ xs = []) ∨ ∃ bk cap, vs = .slice (some ⟨bk, 0, none⟩) xs.length cap ∧ xs.length ≤ cap ∧ (E.take Q).ω bk = some (.slot d []) ∧ Row (E.take Q).Pub (E.take Q).w bk 0 y.size xs ∧ Room (E.take Q).w bk 0 (cap * y.size) := by
          cases hs with
          | sl0 => exact .inl ⟨rfl, rfl⟩
          | sl _ _ _ _ bk off cap hcap hrow hg _ =>
            obtain ⟨g1, g2⟩ := hg
            obtain ⟨g3, g4⟩ := g2 rfl
            have hroom := exact_room I.rel g3 g4
            obtain ⟨_, _, _, ho, _⟩ := id hroom
            subst ho
            exact .inr ⟨bk, cap, rfl, hcap, by simp [Env.take, g1, hQq], hrow, hroom⟩
        obtain ⟨v', E', h1, h2, h3, h4⟩ := I1.append ty oz oy hz hd2u hd2 d hdN hno xs ys vs vx hby hsrc uv hrd hyl hyv hb
        exact ⟨v', E', h1, h2, h4, by rw [h3]; exact hK⟩
    split at h
    · rename_i _ y hy
      exact main y hy (.inl rfl) h
    · rename_i _ y e2 hy
      exact main y hy (.inr ⟨_, rfl⟩) h
    · exact h.elim
  · exact h.elim
end
end Go.AM
