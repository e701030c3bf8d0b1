/- Contracts of functions, and calls by them. No project text. -/
import Derived.Test.YtlilmkblggifaaaAmB
namespace Go.AM

abbrev Boxes := List (Nat × List AV)

def St.ofBoxes (bx : Boxes) : St := ⟨fun _ => .any, fun id => bx.lookup id⟩

/-- A place within certain boxes. -/
def inBx (bx : Boxes) : Place → Prop
  | .cell id _ => (bx.lookup id).isSome = true
  | .box id => (bx.lookup id).isSome = true
  | _ => False

def Proc (P : Program) (k : Nat) (f : Nat) (args : List AV) (bx : Boxes) (r : AV) (bx' : Boxes) : Prop :=
  (∃ fn c, P.funcs[f]? = some fn ∧ fn.body = some c ∧ (fn.name == "runtime.NumGoroutine") = false) ∧
  ∀ (w : World) (β : Nat → Nat) (ω : Nat → Option Place) (Pub : Nat → Prop) (vs : Array Value), Rel 0 ⟨w, β, ω, Pub, St.ofBoxes bx, #[]⟩ → (∀ bk q, ω bk = some q → inBx bx q) →
    args.length = vs.size → (∀ (k : Nat) c, args[k]? = some c → Val ⟨w, β, ω, Pub, St.ofBoxes bx, #[]⟩ .no c (vs.getD k undef)) →
    Calls P f vs w fun e w' => ∃ v E', e = .returned v ∧ E'.w = w' ∧ Inv 0 ⟨w, fun bk => ω bk ≠ none, Pub, β, k⟩ E' ∧ E'.st = St.ofBoxes bx' ∧ (∀ bk q, E'.ω bk = some q → inBx bx' q ∨ ∃ π, q = .slot 0 π) ∧
      Val E' (.slot 0 []) r v

/-- A function of data alone, that turns nothing. -/
def Pure (P : Program) (f : Nat) (args : List AV) (r : AV) : Prop := Proc P 0 f args [] r []

/-- An argument, as data for the time of a call. -/
def argLeaf (_ : Place) : AV → AV
  | .sl (.vw _ _) sz xs => .sl .fro sz xs
  | .sl .nl sz xs => .sl .fro sz xs
  | .pt (.vw _ _) ix cs off => .pt .fro ix cs off
  | x => x
def AV.argz (x : AV) : AV := x.tr argLeaf .no

/- Numbers, truth values, texts: nothing of memory. -/
mutual
def AV.scalar : AV → Bool
  | .b _ | .i _ _ | .s _ | .nil | .nofn => true
  | .agg cs => AV.scalarL cs
  | .tup cs => AV.scalarL cs
  | _ => false
def AV.scalarL : List AV → Bool
  | [] => true
  | x :: xs => x.scalar && AV.scalarL xs
end

theorem AV.scalarL_get : ∀ {cs : List AV}, AV.scalarL cs = true → ∀ {k : Nat} {c : AV}, cs[k]? = some c → c.scalar = true
  | [], _, k, c, h => by simp at h
  | x :: xs, h, 0, c, hk => by
    simp at hk; subst hk
    simp only [AV.scalarL, Bool.and_eq_true] at h; exact h.1
  | x :: xs, h, k + 1, c, hk => by
    simp only [AV.scalarL, Bool.and_eq_true] at h
    exact AV.scalarL_get h.2 (by simpa using hk)

theorem Val.scalar {E : Env} {p : Place} {x : AV} {v : Value} (hv : Val E p x v) : x.scalar = true → ∀ E' p', Val E' p' x v := by
  induction hv with
  | b p x => exact fun _ E' p' => .b p' x
  | i p k n => exact fun _ E' p' => .i p' k n
  | s p x => exact fun _ E' p' => .s p' x
  | nil p => exact fun _ E' p' => .nil p'
  | nofn p => exact fun _ E' p' => .nofn p'
  | agg p cs arr h1 _ ih =>
    intro hs E' p'
    rw [AV.scalar] at hs
    exact .agg p' cs arr h1 fun k c hk => ih k c hk (AV.scalarL_get hs hk) E' _
  | tup p cs arr h1 _ ih =>
    intro hs E' p'
    rw [AV.scalar] at hs
    exact .tup p' cs arr h1 fun k c hk => ih k c hk (AV.scalarL_get hs hk) E' _
  | any => intro h; simp [AV.scalar] at h
  | ptr => intro h; simp [AV.scalar] at h
  | pt => intro h; simp [AV.scalar] at h
  | fn => intro h; simp [AV.scalar] at h
  | sl1 => intro h; simp [AV.scalar] at h
  | sl0 => intro h; simp [AV.scalar] at h
  | sl => intro h; simp [AV.scalar] at h

/-- A value handed on as an argument: what it views is readable for the time. -/
theorem Val.argz {E : Env} {Pub' : Nat → Prop} {F : Place → Bool} {ω' : Nat → Option Place} {st' : St} {tm' : Array Value} (hP : ∀ bk, E.Pub bk → Pub' bk) (hF : ∀ bk q, E.ω bk = some q → F q = true → Pub' bk) {p : Place} {x : AV} {v : Value}
    (hv : Val E p x v) : x.free = true → ∀ p0, x.resOk noQ F p0 = true → ∀ p', Val ⟨E.w, E.β, ω', Pub', st', tm'⟩ p' (x.tr argLeaf p') v := by
  have hpub : ∀ bk, E.Pub bk → Pub' bk ∧ E.w.heap[bk]? = E.w.heap[bk]? := fun bk h => ⟨hP bk h, rfl⟩
  induction hv with
  | any p v => exact fun _ _ _ p' => .any p' v
  | b p x => exact fun _ _ _ p' => .b p' x
  | i p k n => exact fun _ _ _ p' => .i p' k n
  | s p x => exact fun _ _ _ p' => .s p' x
  | nil p => exact fun _ _ _ p' => .nil p'
  | nofn p => exact fun _ _ _ p' => .nofn p'
  | ptr p id off => exact fun _ _ _ p' => .ptr (E := ⟨E.w, E.β, ω', Pub', st', tm'⟩) p' id off
  | pt p g ix cells off bk o hc hg ha =>
    intro _ p0 hr p'
    rw [AV.tr_leaf rfl]
    cases g with
    | own => exact hg.elim
    | nl => exact hg.elim
    | fro => exact .pt p' .fro ix cells off bk o (hc.mono hpub rfl) (hP _ hg) trivial
    | vw q ex =>
      simp only [AV.resOk, resLeafOk] at hr
      exact .pt p' .fro ix cells off bk o (hc.mono hpub rfl) (hF _ _ hg.1 hr) trivial
  | sl1 p sz a cap => exact fun _ _ _ p' => .sl1 p' sz a cap
  | sl0 p g sz h0 ha =>
    intro hf p0 hr p'
    rw [AV.tr_leaf rfl]
    cases g with
    | own => simp [AV.free] at hf
    | _ => exact .sl0 p' _ sz (by simp) trivial
  | sl p g sz xs bk off cap hc hr1 hg ha =>
    intro hf p0 hr p'
    rw [AV.tr_leaf rfl]
    cases g with
    | own => simp [AV.free] at hf
    | nl => exact hg.elim
    | fro => exact .sl p' .fro sz xs bk off cap hc (hr1.mono hpub rfl) (hP _ hg) trivial
    | vw q ex =>
      simp only [AV.resOk, resLeafOk, noQ] at hr
      have : F q = true := by simpa using hr
      exact .sl p' .fro sz xs bk off cap hc (hr1.mono hpub rfl) (hF _ _ hg.1 this) trivial
  | fn p f fi ca fi' ca' h1 h2 _ _ ih1 ih2 =>
    intro hf p0 hr p'
    rw [AV.tr]
    simp only [AV.free, Bool.and_eq_true] at hf
    simp only [AV.resOk, Bool.and_eq_true] at hr
    refine .fn p' f _ _ fi' ca' (by rw [AV.trN_length]; exact h1) (by rw [AV.trN_length]; exact h2) (fun k c hk => ?_) (fun k c hk => ?_)
    · rw [AV.trN_get] at hk
      obtain ⟨c', hc, rfl⟩ := Option.map_eq_some_iff.1 hk
      exact ih1 k c' hc (AV.freeL_get hf.1 hc) .no (AV.resOkN_get hr.1 k c' hc) .no
    · rw [AV.trN_get] at hk
      obtain ⟨c', hc, rfl⟩ := Option.map_eq_some_iff.1 hk
      exact ih2 k c' hc (AV.freeL_get hf.2 hc) .no (AV.resOkN_get hr.2 k c' hc) .no
  | agg p cs arr h1 _ ih =>
    intro hf p0 hr p'
    rw [AV.tr]
    rw [AV.free] at hf
    rw [AV.resOk] at hr
    refine .agg p' _ arr (by rw [AV.trL_length]; exact h1) (fun k c hk => ?_)
    rw [AV.trL_get] at hk
    obtain ⟨c', hc, rfl⟩ := Option.map_eq_some_iff.1 hk
    rw [Nat.zero_add]
    exact ih k c' hc (AV.freeL_get hf hc) _ (AV.resOkL_get hr k c' hc) _
  | tup p cs arr h1 _ ih =>
    intro hf p0 hr p'
    rw [AV.tr]
    rw [AV.free] at hf
    rw [AV.resOk] at hr
    refine .tup p' _ arr (by rw [AV.trL_length]; exact h1) (fun k c hk => ?_)
    rw [AV.trL_get] at hk
    obtain ⟨c', hc, rfl⟩ := Option.map_eq_some_iff.1 hk
    rw [Nat.zero_add]
    exact ih k c' hc (AV.freeL_get hf hc) _ (AV.resOkL_get hr k c' hc) _

/- Its pointers are to certain boxes. -/
mutual
def AV.ptrs (ok : Nat → Bool) : AV → Bool
  | .ptr id _ => ok id
  | .agg cs => AV.ptrsL ok cs
  | .tup cs => AV.ptrsL ok cs
  | .fn _ fi ca => AV.ptrsL ok fi && AV.ptrsL ok ca
  | _ => true
def AV.ptrsL (ok : Nat → Bool) : List AV → Bool
  | [] => true
  | x :: xs => x.ptrs ok && AV.ptrsL ok xs
end

theorem AV.ptrsL_get {ok : Nat → Bool} : ∀ {cs : List AV}, AV.ptrsL ok cs = true → ∀ {k : Nat} {c : AV}, cs[k]? = some c → c.ptrs ok = true
  | [], _, k, c, h => by simp at h
  | x :: xs, h, 0, c, hk => by
    simp at hk; subst hk
    simp only [AV.ptrsL, Bool.and_eq_true] at h; exact h.1
  | x :: xs, h, k + 1, c, hk => by
    simp only [AV.ptrsL, Bool.and_eq_true] at h
    exact AV.ptrsL_get h.2 (by simpa using hk)

/-- A result, taken over by a slot. -/
theorem Val.result {E E' : Env} (hst : ∀ q sz xs, E.st.abs q ≠ .sl .own sz xs) (d : Nat) (hw : E'.w = E.w) (ok : Nat → Bool) (hβ : ∀ id, ok id = true → E'.β id = E.β id) (hP : ∀ bk, E.Pub bk → E'.Pub bk) (hω : ∀ bk π, E.ω bk = some (.slot 0 π) → E'.ω bk = some (.slot d π))
    (hno : ∀ bk, E.ω bk ≠ some .no) {p : Place} {x : AV} {v : Value} (hv : Val E p x v) : x.ptrs ok = true → (∀ π0, p = .slot 0 π0 → Val E' (.slot d π0) x v) ∧ (p = .no → Val E' .no x v) := by
  have hat : ∀ q ex, ¬ GhAt E (.vw q ex) := fun q ex h => by obtain ⟨sz, xs, h⟩ := h; exact hst q sz xs h
  have hpub : ∀ bk, E.Pub bk → E'.Pub bk ∧ E'.w.heap[bk]? = E.w.heap[bk]? := fun bk h => ⟨hP bk h, by rw [hw]⟩
  induction hv with
  | any p v => exact fun _ => ⟨fun _ _ => .any _ v, fun _ => .any _ v⟩
  | b p x => exact fun _ => ⟨fun _ _ => .b _ x, fun _ => .b _ x⟩
  | i p k n => exact fun _ => ⟨fun _ _ => .i _ k n, fun _ => .i _ k n⟩
  | s p x => exact fun _ => ⟨fun _ _ => .s _ x, fun _ => .s _ x⟩
  | nil p => exact fun _ => ⟨fun _ _ => .nil _, fun _ => .nil _⟩
  | nofn p => exact fun _ => ⟨fun _ _ => .nofn _, fun _ => .nofn _⟩
  | ptr p id off =>
    intro hk
    rw [AV.ptrs] at hk
    exact ⟨fun _ _ => by rw [← hβ id hk]; exact .ptr _ id off, fun _ => by rw [← hβ id hk]; exact .ptr _ id off⟩
  | pt p g ix cells off bk o hc hg ha =>
    intro _
    cases g with
    | own => exact hg.elim
    | nl => exact hg.elim
    | vw q ex => exact (hat q ex ha).elim
    | fro => exact ⟨fun _ _ => .pt _ .fro ix cells off bk o (hc.mono hpub (by rw [hw])) (hP _ hg) trivial, fun _ => .pt _ .fro ix cells off bk o (hc.mono hpub (by rw [hw])) (hP _ hg) trivial⟩
  | sl1 p sz a cap => exact fun _ => ⟨fun _ _ => .sl1 _ sz a cap, fun _ => .sl1 _ sz a cap⟩
  | sl0 p g sz h0 ha =>
    intro _
    cases g with
    | vw q ex => exact (hat q ex ha).elim
    | _ => exact ⟨fun _ _ => .sl0 _ _ sz (by simp) trivial, fun _ => .sl0 _ _ sz (by simp) trivial⟩
  | sl p g sz xs bk off cap hc hr hg ha =>
    intro _
    have hr' := hr.mono (w' := E'.w) hpub (by rw [hw])
    cases g with
    | vw q ex => exact (hat q ex ha).elim
    | nl => exact hg.elim
    | fro => exact ⟨fun _ _ => .sl _ .fro sz xs bk off cap hc hr' (hP _ hg) trivial, fun _ => .sl _ .fro sz xs bk off cap hc hr' (hP _ hg) trivial⟩
    | own =>
      refine ⟨fun π0 he => ?_, fun he => ?_⟩
      · subst he
        exact .sl _ .own sz xs bk off cap hc hr' ⟨hω bk π0 hg.1, hg.2.mono (by rw [hw])⟩ trivial
      · subst he
        exact (hno bk hg.1).elim
  | fn p f fi ca fi' ca' h1 h2 h3 h4 ih1 ih2 =>
    intro hp
    simp only [AV.ptrs, Bool.and_eq_true] at hp
    exact ⟨fun _ _ => .fn _ f fi ca fi' ca' h1 h2 (fun k c hk => (ih1 k c hk (AV.ptrsL_get hp.1 hk)).2 rfl) (fun k c hk => (ih2 k c hk (AV.ptrsL_get hp.2 hk)).2 rfl), fun _ => .fn _ f fi ca fi' ca' h1 h2 (fun k c hk => (ih1 k c hk (AV.ptrsL_get hp.1 hk)).2 rfl) (fun k c hk => (ih2 k c hk (AV.ptrsL_get hp.2 hk)).2 rfl)⟩
  | agg p cs arr h1 _ ih =>
    intro hp
    rw [AV.ptrs] at hp
    refine ⟨fun π0 he => ?_, fun he => ?_⟩
    · subst he
      exact .agg _ cs arr h1 fun k c hk => (ih k c hk (AV.ptrsL_get hp hk)).1 _ rfl
    · subst he
      exact .agg _ cs arr h1 fun k c hk => (ih k c hk (AV.ptrsL_get hp hk)).2 rfl
  | tup p cs arr h1 _ ih =>
    intro hp
    rw [AV.ptrs] at hp
    refine ⟨fun π0 he => ?_, fun he => ?_⟩
    · subst he
      exact .tup _ cs arr h1 fun k c hk => (ih k c hk (AV.ptrsL_get hp hk)).1 _ rfl
    · subst he
      exact .tup _ cs arr h1 fun k c hk => (ih k c hk (AV.ptrsL_get hp hk)).2 rfl

theorem rel_empty (w : World) (β : Nat → Nat) (Pub : Nat → Prop) (hP : ∀ bk, Pub bk → bk < w.heap.size) : Rel 0 ⟨w, β, fun _ => none, Pub, St.ofBoxes [], #[]⟩ where
  size := rfl
  slots t := .any _ _
  boxes id cs h := by simp [St.ofBoxes] at h
  pub bk h := ⟨hP bk h, rfl⟩
  own bk q h := by simp at h

theorem abs_empty (q : Place) (sz : Nat) (xs : List (List AV)) : (St.ofBoxes []).abs q ≠ .sl .own sz xs := by
  cases q with
  | slot t π => simp [St.abs, St.ofBoxes, AV.at_any]
  | cell id off => simp [St.abs, St.ofBoxes]
  | _ => simp [St.abs]

/-- What a call of a pure function does to a state. -/
def acall (C : Cx) (st : St) (d : Nat) (f : Nat) (args : List AV) (K : St → Prop) : Prop :=
  ∃ r, Pure C.P f (args.map AV.argz) r ∧ d < C.N ∧ (st.slots d).free = true ∧
    (match r.scalar with
      | true => K (st.put d r)
      | false =>
        let l := AV.vwsN args
        let F := settleF l.isEmpty l (fun _ => false)
        AV.resOkN noQ F args = true ∧ ((st.fz F).slots d).free = true ∧ r.ptrs (fun _ => false) = true ∧ K ((st.fz F).put d r))

section
variable {C : Cx} {S : Start} {E : Env}

theorem resOk_all {x : AV} : ∀ p, x.free = true → x.resOk noQ (fun _ => true) p = true := by
  refine AV.rec (motive_1 := fun x => ∀ p, x.free = true → x.resOk noQ (fun _ => true) p = true) (motive_2 := fun l => AV.freeL l = true → (∀ p k, AV.resOkL noQ (fun _ => true) p k l = true) ∧ AV.resOkN noQ (fun _ => true) l = true) (motive_3 := fun _ => True)
    ?_ ?_ ?_ ?_ ?_ ?_ ?_ ?_ ?_ ?_ ?_ ?_ ?_ ?_ ?_ ?_ x
  · intro p _; rfl
  · intro x p _; rfl
  · intro k n p _; rfl
  · intro x p _; rfl
  · intro p _; rfl
  · intro p _; rfl
  · intro id off p _; rfl
  · intro g ix cells off _ p _; cases g <;> rfl
  · intro f fi ca h1 h2 p h
    simp only [AV.free, Bool.and_eq_true] at h
    simp [AV.resOk, (h1 h.1).2, (h2 h.2).2]
  · intro g sz xs _ p h
    cases g <;> simp_all [AV.resOk, resLeafOk, AV.free]
  · intro cs h p hf; rw [AV.free] at hf; simp [AV.resOk, (h hf).1]
  · intro cs h p hf; rw [AV.free] at hf; simp [AV.resOk, (h hf).1]
  · exact fun _ => ⟨fun _ _ => rfl, rfl⟩
  · intro x xs h1 h2 hf
    simp only [AV.freeL, Bool.and_eq_true] at hf
    exact ⟨fun p k => by simp [AV.resOkL, h1 _ hf.1, (h2 hf.2).1], by simp [AV.resOkN, h1 _ hf.1, (h2 hf.2).2]⟩
  · trivial
  · intros; trivial

/-- A function's value, in the model's own words, at a call. -/
theorem acall_sound (I : Inv C.N S E) {d f : Nat} {args : List AV} {vs : Array Value} {K : St → Prop} (hl : args.length = vs.size) (hf : AV.freeL args = true)
    (hv : ∀ (k : Nat) c, args[k]? = some c → Val E .no c (vs.getD k undef)) (h : acall C E.st d f args K) :
    (∃ fn c, C.P.funcs[f]? = some fn ∧ fn.body = some c ∧ (fn.name == "runtime.NumGoroutine") = false) ∧
    Calls C.P f vs E.w fun e w' => ∃ v E', e = .returned v ∧ E'.w = w' ∧ Inv C.N S E' ∧ E'.tm = E.tm.setIfInBounds d v ∧ K E'.st := by
  obtain ⟨r, ⟨hfn, hP⟩, hd, hfree, hK⟩ := h
  refine ⟨hfn, ?_⟩
  have hargs : ∀ (E1 : Env) (F : Place → Bool) (Pub' : Nat → Prop), (E1 = E) → (∀ bk, E.Pub bk → Pub' bk) → (∀ bk q, E.ω bk = some q → F q = true → Pub' bk) → AV.resOkN noQ F args = true →
      ∀ (k : Nat) c, (args.map AV.argz)[k]? = some c → Val ⟨E.w, E.β, fun _ => none, Pub', St.ofBoxes [], #[]⟩ .no c (vs.getD k undef) := by
    intro E1 F Pub' _ h1 h2 h3 k c hk
    rw [List.getElem?_map] at hk
    obtain ⟨c0, hc0, rfl⟩ := Option.map_eq_some_iff.1 hk
    exact (hv k c0 hc0).argz h1 h2 (AV.freeL_get hf hc0) .no (AV.resOkN_get h3 k c0 hc0) .no
  cases hs : r.scalar with
  | true =>
    rw [hs] at hK
    have hall : AV.resOkN noQ (fun _ => true) args = true := by
      have := resOk_all (x := .fn 0 args []) .no (by simp [AV.free, hf, AV.freeL])
      simpa [AV.resOk, AV.resOkN] using this
    refine (hP E.w E.β (fun _ => none) (fun bk => bk < E.w.heap.size) vs (rel_empty _ _ _ fun _ h => h) (by simp) (by simpa using hl) (hargs E (fun _ => true) _ rfl (fun bk h => (I.rel.pub bk h).1) (fun bk q h _ => I.rel.own bk q h) hall)).mono ?_
    rintro e w' ⟨v, E1, rfl, rfl, hI, hst, hω, hr⟩
    have hp1 := hI.fr.pub0
    have hp2 := hI.fr.pub1
    have hold : ∀ bk, bk < E.w.heap.size → E1.w.heap[bk]? = E.w.heap[bk]? := fun bk h => hI.fr.block bk h (by simp)
    obtain ⟨_, hR⟩ := I.rel.put (fun _ => False) (fun _ _ _ _ h => h) (fun _ h => h) (fun h => h) E1.w E.ω E.Pub d r v hd (fun π sz xs => free_noOwn π hfree) (fun bk h _ => hold bk h) (fun _ _ h => h) (fun _ h => h)
      (fun bk h => ⟨Nat.lt_of_lt_of_le (I.rel.pub bk h).1 hI.fr.size, (I.rel.pub bk h).2⟩) (fun bk q h => Nat.lt_of_lt_of_le (I.rel.own bk q h) hI.fr.size)
    exact ⟨v, ⟨E1.w, E.β, E.ω, E.Pub, E.st.put d r, E.tm.setIfInBounds d v⟩, rfl, rfl,
      ⟨hR (hr.scalar hs _ _), ⟨hI.fr.os.trans I.fr.os, hI.fr.tape.trans I.fr.tape, hI.fr.output.trans I.fr.output, Nat.le_trans I.fr.size hI.fr.size, fun k hk hn => (hold k (Nat.lt_of_lt_of_le hk I.fr.size)).trans (I.fr.block k hk hn), I.fr.own, I.fr.pub0, I.fr.pub1, I.fr.beta⟩⟩, rfl, hK⟩
  | false =>
    rw [hs] at hK
    simp only at hK
    generalize hF : settleF (AV.vwsN args).isEmpty (AV.vwsN args) (fun _ => false) = F at hK
    obtain ⟨hres, hfree2, hptr, hK⟩ := hK
    have hFb : ∀ id, F (.box id) = false := fun id => by rw [← hF]; exact settleF_box ..
    have I1 := I.fz F hFb
    refine (hP E.w E.β (fun _ => none) (E.fz F).Pub vs (rel_empty _ _ _ fun bk h => (I1.rel.pub bk h).1) (by simp) (by simpa using hl) (hargs E F _ rfl (fun bk h => .inl h) (fun bk q h hq => .inr ⟨q, h, hq⟩) hres)).mono ?_
    rintro e w' ⟨v, E1, rfl, rfl, hI, hst, hω, hr⟩
    have hp1 := hI.fr.pub0
    have hp2 := hI.fr.pub1
    have hold : ∀ bk, bk < E.w.heap.size → E1.w.heap[bk]? = E.w.heap[bk]? := fun bk h => hI.fr.block bk h (by simp)
    have hnew : ∀ bk q, E1.ω bk = some q → E.w.heap.size ≤ bk := fun bk q h => (hI.fr.own bk q h).resolve_right (by simp)
    let ω' : Nat → Option Place := fun bk => match (E.fz F).ω bk with
      | some q => some q
      | none => match E1.ω bk with
        | some (.slot 0 π) => some (.slot d π)
        | _ => none
    have hω1 : ∀ bk q, (E.fz F).ω bk = some q → ω' bk = some q := fun bk q h => by simp [ω', h]
    have hωn : ∀ bk, E.w.heap.size ≤ bk → (E.fz F).ω bk = none := fun bk h => by
      cases ho : (E.fz F).ω bk with
      | none => rfl
      | some q => have := I1.rel.own bk q ho; have h' : E.w.heap.size ≤ bk := h; have : bk < E.w.heap.size := this; omega
    have hω2 : ∀ bk q, ω' bk = some q → bk < E1.w.heap.size := by
      intro bk q h
      simp only [ω'] at h
      split at h
      · rename_i q' hq'; exact Nat.lt_of_lt_of_le (I1.rel.own bk q' hq') hI.fr.size
      · split at h
        · rename_i π hq'; exact hI.rel.own bk _ hq'
        · cases h
    have hP2 : ∀ bk, E1.Pub bk → bk < E1.w.heap.size ∧ ω' bk = none := by
      intro bk h
      refine ⟨(hI.rel.pub bk h).1, ?_⟩
      have h2 := (hI.rel.pub bk h).2
      have h3 : (E.fz F).ω bk = none := by
        rcases hp2 bk h with h | h | h
        · exact (I1.rel.pub bk h).2
        · exact hωn bk h
        · exact absurd rfl h
      simp [ω', h3, h2]
    obtain ⟨_, hR⟩ := I1.rel.put (fun _ => False) (fun _ _ _ _ h => h) (fun _ h => h) (fun h => h) E1.w ω' E1.Pub d r v hd (fun π sz xs => free_noOwn π hfree2) (fun bk h _ => hold bk h) hω1 hp1 hP2 hω2
    have hfin := hR ((Val.result (E := E1) (E' := ⟨E1.w, (E.fz F).β, ω', E1.Pub, (E.fz F).st.put d r, (E.fz F).tm.setIfInBounds d v⟩) (by rw [hst]; exact abs_empty) d rfl (fun _ => false) (by simp) (fun _ h => h)
      (fun bk π h => by simp [ω', hωn bk (hnew bk _ h), h]) (fun bk h => by rcases hω bk _ h with h | ⟨π, h⟩; exact h; cases h) hr hptr).1 [] rfl)
    refine ⟨v, ⟨E1.w, (E.fz F).β, ω', E1.Pub, (E.fz F).st.put d r, (E.fz F).tm.setIfInBounds d v⟩, rfl, rfl,
      ⟨hfin, ⟨hI.fr.os.trans I.fr.os, hI.fr.tape.trans I.fr.tape, hI.fr.output.trans I.fr.output, Nat.le_trans I.fr.size hI.fr.size, fun k hk hn => (hold k (Nat.lt_of_lt_of_le hk I.fr.size)).trans (I.fr.block k hk hn), fun k q h => ?_, fun bk h => hp1 bk (I1.fr.pub0 bk h), fun bk h => ?_, I1.fr.beta⟩⟩, rfl, hK⟩
    have h' : ω' k = some q := h
    simp only [ω'] at h'
    split at h'
    · rename_i q' hq'; exact I1.fr.own k q' hq'
    · split at h'
      · rename_i π hq'; exact .inl (Nat.le_trans I.fr.size (hnew k _ hq'))
      · cases h'
    rcases hp2 bk h with h | h | h
    · exact I1.fr.pub1 bk h
    · exact .inr (.inl (Nat.le_trans I.fr.size h))
    · exact absurd rfl h
end
end Go.AM
namespace Go.AM

/-- A state whose slots and boxes are listed. -/
def St.of (l : List (Nat × AV)) (bx : Boxes) : St := ⟨fun t => (l.lookup t).getD .any, fun id => bx.lookup id⟩

theorem St.ext' {s s' : St} (h1 : ∀ t, s.slots t = s'.slots t) (h2 : ∀ id, s.boxes id = s'.boxes id) : s = s' := by
  cases s; cases s'
  simp only at h1 h2
  congr 1
  · exact funext h1
  · exact funext h2

theorem St.of_slots (l bx t) : (St.of l bx).slots t = (l.lookup t).getD .any := rfl
theorem St.of_boxes (l bx id) : (St.of l bx).boxes id = bx.lookup id := rfl

theorem lookup_cons' {α} (k : Nat) (v : α) (l : List (Nat × α)) (t : Nat) : List.lookup t ((k, v) :: l) = if t = k then some v else l.lookup t := by
  rw [List.lookup_cons]
  by_cases h : t = k
  · subst h; simp
  · have : (t == k) = false := by simpa using h
    simp [this, h]

theorem St.of_put (l bx d v) : (St.of l bx).put d v = St.of ((d, v) :: l) bx := by
  refine St.ext' (fun t => ?_) (fun _ => rfl)
  simp only [St.put, St.of, lookup_cons']
  split <;> rfl

theorem St.of_setBox (l bx id cs) : (St.of l bx).setBox id (some cs) = St.of l ((id, cs) :: bx) := by
  refine St.ext' (fun _ => rfl) (fun i => ?_)
  simp only [St.setBox, St.of, lookup_cons']

theorem lookup_map {α β} (g : Nat → α → β) (l : List (Nat × α)) (t : Nat) : List.lookup t (l.map fun e => (e.1, g e.1 e.2)) = (l.lookup t).map (g t) := by
  induction l with
  | nil => rfl
  | cons e l ih =>
    obtain ⟨k, v⟩ := e
    rw [List.map_cons, lookup_cons', lookup_cons', ih]
    split
    · rename_i h; subst h; rfl
    · rfl

def trS (h : Place → AV → AV) (l : List (Nat × AV)) : List (Nat × AV) := l.map fun e => (e.1, e.2.tr h (.slot e.1 []))
def trB (h : Place → AV → AV) (bx : Boxes) : Boxes := bx.map fun e => (e.1, AV.trC h e.1 0 e.2)

theorem St.of_tr (h : Place → AV → AV) (ha : ∀ p, h p .any = .any) (l bx) : (St.of l bx).tr h = St.of (trS h l) (trB h bx) := by
  refine St.ext' (fun t => ?_) (fun id => ?_)
  · show AV.tr h (.slot t []) ((l.lookup t).getD .any) = ((trS h l).lookup t).getD .any
    rw [trS, lookup_map (fun t x => AV.tr h (.slot t []) x) l t]
    cases l.lookup t with
    | none => exact (AV.tr_leaf rfl).trans (ha _)
    | some x => rfl
  · show Option.map _ (bx.lookup id) = (trB h bx).lookup id
    rw [trB, lookup_map (fun id cs => AV.trC h id 0 cs) bx id]

theorem St.of_take (Q l bx) : (St.of l bx).take Q = St.of (trS (takeLeaf Q) l) (trB (takeLeaf Q) bx) := St.of_tr _ (fun _ => rfl) l bx
theorem St.of_fz (F l bx) : (St.of l bx).fz F = St.of (trS (fzLeaf F) l) (trB (fzLeaf F) bx) := St.of_tr _ (fun _ => rfl) l bx
theorem St.of_killB (i l bx) : (St.of l bx).killB i = St.of (trS (killBLeaf i) l) (trB (killBLeaf i) bx) := St.of_tr _ (fun _ => rfl) l bx

/-! ### Forgetting -/

theorem Inv.forget {N : Nat} {S : Start} {E : Env} (I : Inv N S E) (st' : St) (hs : ∀ t, st'.slots t = E.st.slots t ∨ (st'.slots t = .any ∧ NoOwn (E.st.slots t)))
    (hb : ∀ id, st'.boxes id = E.st.boxes id ∨ (st'.boxes id = none ∧ ∀ j sz xs, E.st.abs (.cell id j) ≠ .sl .own sz xs)) : Inv N S { E with st := st' } := by
  let SP : Place → Prop := fun q => q = .no ∨ ∃ sz xs, E.st.abs q = .sl .own sz xs
  have habs : ∀ q sz xs, E.st.abs q = .sl .own sz xs → st'.abs q = .sl .own sz xs := by
    intro q sz xs h
    cases q with
    | slot t π =>
      simp only [St.abs] at h ⊢
      rcases hs t with h1 | ⟨_, h2⟩
      · rw [h1]; exact h
      · exact absurd h (h2 π sz xs)
    | cell id j =>
      rcases hb id with h1 | ⟨_, h2⟩
      · simp only [St.abs] at h ⊢; rw [h1]; exact h
      · exact absurd h (h2 j sz xs)
    | box id => exact h
    | no => exact h
  have hst : Stays SP (fun _ => True) E { E with st := st' } :=
    ⟨fun bk h => ⟨h, rfl⟩, fun bk q _ h => ⟨h, rfl⟩, fun _ _ => rfl, fun q u sz xs _ _ h => by
      cases q <;> exact h, fun q sz xs _ h => habs q sz xs h⟩
  refine ⟨⟨I.rel.size, fun t => ?_, fun id cs h => ?_, I.rel.pub, I.rel.own⟩, ⟨I.fr.os, I.fr.tape, I.fr.output, I.fr.size, I.fr.block, I.fr.own, I.fr.pub0, I.fr.pub1, I.fr.beta⟩⟩
  · show Val { E with st := st' } (.slot t []) (st'.slots t) _
    rcases hs t with h1 | ⟨h1, _⟩
    · rw [h1]
      refine (I.rel.slots t).mono hst ((I.rel.slots t).leans (fun q sz xs h => .inr ⟨sz, xs, h⟩) (.inl rfl) fun π sz xs h => .inr ⟨sz, xs, ?_⟩)
      rw [subs_slot]; exact h
    · rw [h1]; exact .any _ _
  · have h1 : E.st.boxes id = some cs := by
      rcases hb id with h1 | ⟨h1, _⟩
      · rw [← h1]; exact h
      · have h2 : st'.boxes id = some cs := h
        rw [h1] at h2; cases h2
    obtain ⟨g1, arr, T, g2, g3, g4⟩ := I.rel.boxes id cs h1
    refine ⟨g1, arr, T, g2, g3, fun j c hj => ?_⟩
    refine (g4 j c hj).mono hst ((g4 j c hj).leans (fun q sz xs h => .inr ⟨sz, xs, h⟩) (.inl rfl) fun π sz xs h => ?_)
    cases π with
    | nil =>
      right
      refine ⟨sz, xs, ?_⟩
      have h' : c = .sl .own sz xs := by
        cases c <;> simp_all [AV.at]
      simp only [Place.subs, St.abs, h1, Option.getD_some]
      rw [getD_get hj]; exact h'
    | cons k π => left; simp only [Place.subs, Place.sub]; exact subs_no π

def leakQ (ks kb : List Nat) : Place → Option Place
  | .slot t _ => if ks.contains t then none else some .no
  | .cell id _ => if kb.contains id then none else some .no
  | _ => none

/-- A state, of which only some slots and boxes are still known. -/
def St.clean (ks kb : List Nat) (st : St) : St :=
  ⟨fun t => if ks.contains t then (st.take (leakQ ks kb)).slots t else .any, fun id => if kb.contains id then (st.take (leakQ ks kb)).boxes id else none⟩

theorem Inv.clean {N : Nat} {S : Start} {E : Env} (I : Inv N S E) (ks kb : List Nat) : ∃ E', E'.w = E.w ∧ E'.tm = E.tm ∧ Inv N S E' ∧ E'.st = E.st.clean ks kb := by
  have I1 := I.take (leakQ ks kb) (fun id => rfl)
  refine ⟨{ E.take (leakQ ks kb) with st := E.st.clean ks kb }, rfl, rfl, I1.forget (E.st.clean ks kb) (fun t => ?_) (fun id => ?_), rfl⟩
  · simp only [St.clean]
    by_cases h : ks.contains t = true
    · rw [if_pos h]; exact .inl rfl
    · rw [if_neg h]
      refine .inr ⟨rfl, ?_⟩
      have h' : ks.contains t = false := by simpa using h
      exact take_noOwn E.st (leakQ ks kb) t fun π => by simp only [leakQ, h']; rfl
  · simp only [St.clean]
    by_cases h : kb.contains id = true
    · rw [if_pos h]; exact .inl rfl
    · rw [if_neg h]
      refine .inr ⟨rfl, fun j => ?_⟩
      have h' : kb.contains id = false := by simpa using h
      exact take_cell E.st (leakQ ks kb) id j (by simp only [leakQ, h']; rfl)

def cleanS (ks kb : List Nat) (l : List (Nat × AV)) : List Nat → List (Nat × AV)
  | [] => []
  | t :: ts => (t, ((l.lookup t).getD .any).tr (takeLeaf (leakQ ks kb)) (.slot t [])) :: cleanS ks kb l ts
def cleanB (ks kb : List Nat) (bx : Boxes) : List Nat → Boxes
  | [] => []
  | t :: ts => match bx.lookup t with
    | some cs => (t, AV.trC (takeLeaf (leakQ ks kb)) t 0 cs) :: cleanB ks kb bx ts
    | none => cleanB ks kb bx ts

theorem cleanS_lookup (ks kb l) : ∀ (ts : List Nat) (t : Nat), (cleanS ks kb l ts).lookup t = if ts.contains t then some (((l.lookup t).getD .any).tr (takeLeaf (leakQ ks kb)) (.slot t [])) else none
  | [], t => by simp [cleanS]
  | x :: ts, t => by
    rw [cleanS, lookup_cons', cleanS_lookup ks kb l ts t]
    by_cases h : t = x
    · subst h; simp
    · simp [h]

theorem cleanB_lookup (ks kb) (bx : Boxes) : ∀ (ts : List Nat) (t : Nat), (cleanB ks kb bx ts).lookup t = if ts.contains t then (bx.lookup t).map (AV.trC (takeLeaf (leakQ ks kb)) t 0) else none
  | [], t => by simp [cleanB]
  | x :: ts, t => by
    rw [cleanB]
    cases hb : bx.lookup x with
    | none =>
      simp only []
      rw [cleanB_lookup ks kb bx ts t]
      by_cases h : t = x
      · subst h; simp [hb]
      · simp [h]
    | some cs =>
      simp only []
      rw [lookup_cons', cleanB_lookup ks kb bx ts t]
      by_cases h : t = x
      · subst h; simp [hb]
      · simp [h]

theorem St.of_clean (ks kb l bx) : (St.of l bx).clean ks kb = St.of (cleanS ks kb l ks) (cleanB ks kb bx kb) := by
  refine St.ext' (fun t => ?_) (fun id => ?_)
  · show (if ks.contains t then _ else _) = ((cleanS ks kb l ks).lookup t).getD .any
    rw [cleanS_lookup]
    by_cases h : ks.contains t = true
    · rw [if_pos h, if_pos h]; rfl
    · rw [if_neg h, if_neg h]; rfl
  · show (if kb.contains id then _ else _) = (cleanB ks kb bx kb).lookup id
    rw [cleanB_lookup]
    by_cases h : kb.contains id = true
    · rw [if_pos h, if_pos h]; rfl
    · rw [if_neg h, if_neg h]

/- No view anywhere; functions hold nothing of their own. -/
mutual
def AV.tidy : AV → Bool
  | .sl (.vw _ _) _ _ => false
  | .pt (.vw _ _) _ _ _ => false
  | .agg cs => AV.tidyL cs
  | .tup cs => AV.tidyL cs
  | .fn _ fi ca => AV.tidyL fi && AV.tidyL ca && AV.freeL fi && AV.freeL ca
  | _ => true
def AV.tidyL : List AV → Bool
  | [] => true
  | x :: xs => x.tidy && AV.tidyL xs
end

theorem AV.tidyL_iff : ∀ {cs : List AV}, AV.tidyL cs = true ↔ ∀ c ∈ cs, c.tidy = true
  | [] => by simp [AV.tidyL]
  | x :: xs => by simp [AV.tidyL, AV.tidyL_iff (cs := xs)]

theorem AV.tidyL_get {cs : List AV} (h : AV.tidyL cs = true) {k : Nat} {c : AV} (hk : cs[k]? = some c) : c.tidy = true := AV.tidyL_iff.1 h c (List.mem_of_getElem? hk)

/-- What may stay in a box's cell behind a call. -/
def AV.still (c : AV) : Bool := c.tidy && (c.free || match c with | .sl .own _ _ => true | _ => false)

end Go.AM
namespace Go.AM

def renLeaf (ρ : Nat → Option Nat) (_ : Place) : AV → AV
  | .ptr id off => match ρ id with
    | some j => .ptr j off
    | none => .any
  | x => x
def AV.ren (ρ : Nat → Option Nat) (x : AV) : AV := x.tr (renLeaf ρ) .no

section
variable {E E' : Env} {ρ : Nat → Option Nat} (hP : ∀ bk, E.Pub bk → E'.Pub bk ∧ E'.w.heap[bk]? = E.w.heap[bk]?) (hB : ∀ id j, ρ id = some j → E'.β j = E.β id)
include hP hB

theorem Val.renFree {p : Place} {x : AV} {v : Value} (hv : Val E p x v) : x.tidy = true → x.free = true → ∀ p0 p', Val E' p' (x.tr (renLeaf ρ) p0) v := by
  induction hv with
  | any p v => exact fun _ _ p0 p' => .any p' v
  | b p x => exact fun _ _ p0 p' => .b p' x
  | i p k n => exact fun _ _ p0 p' => .i p' k n
  | s p x => exact fun _ _ p0 p' => .s p' x
  | nil p => exact fun _ _ p0 p' => .nil p'
  | nofn p => exact fun _ _ p0 p' => .nofn p'
  | ptr p id off =>
    intro _ _ p0 p'
    rw [AV.tr_leaf rfl]
    simp only [renLeaf]
    split
    · rename_i j hj; rw [← hB id j hj]; exact .ptr p' j off
    · exact .any _ _
  | pt p g ix cells off bk o hc hg ha =>
    intro hs _ p0 p'
    rw [AV.tr_leaf rfl]
    cases g with
    | own => exact hg.elim
    | nl => exact hg.elim
    | fro => exact .pt p' .fro ix cells off bk o (hc.mono hP (hP _ hg).2) (hP _ hg).1 trivial
    | vw q ex => simp [AV.tidy] at hs
  | sl1 p sz a cap => exact fun _ _ p0 p' => by rw [AV.tr_leaf rfl]; exact .sl1 p' sz a cap
  | sl0 p g sz h0 ha =>
    intro hs _ p0 p'
    rw [AV.tr_leaf rfl]
    cases g with
    | vw q ex => simp [AV.tidy] at hs
    | _ => exact .sl0 p' _ sz (by simp) trivial
  | sl p g sz xs bk off cap hc hr hg ha =>
    intro hs hf p0 p'
    rw [AV.tr_leaf rfl]
    cases g with
    | vw q ex => simp [AV.tidy] at hs
    | fro => exact .sl p' .fro sz xs bk off cap hc (hr.mono hP (hP _ hg).2) (hP _ hg).1 trivial
    | nl => exact hg.elim
    | own => simp [AV.free] at hf
  | fn p f fi ca fi' ca' h1 h2 _ _ ih1 ih2 =>
    intro hs hf p0 p'
    simp only [AV.tidy, Bool.and_eq_true] at hs
    rw [AV.tr]
    refine .fn p' f _ _ fi' ca' (by rw [AV.trN_length]; exact h1) (by rw [AV.trN_length]; exact h2) (fun k c hk => ?_) (fun k c hk => ?_)
    · rw [AV.trN_get] at hk
      obtain ⟨c', hc, rfl⟩ := Option.map_eq_some_iff.1 hk
      exact ih1 k c' hc (AV.tidyL_get hs.1.1.1 hc) (AV.freeL_get hs.1.2 hc) _ _
    · rw [AV.trN_get] at hk
      obtain ⟨c', hc, rfl⟩ := Option.map_eq_some_iff.1 hk
      exact ih2 k c' hc (AV.tidyL_get hs.1.1.2 hc) (AV.freeL_get hs.2 hc) _ _
  | agg p cs arr h1 _ ih =>
    intro hs hf p0 p'
    rw [AV.tidy] at hs
    rw [AV.free] at hf
    rw [AV.tr]
    refine .agg p' _ arr (by rw [AV.trL_length]; exact h1) fun k c hk => ?_
    rw [AV.trL_get] at hk
    obtain ⟨c', hc, rfl⟩ := Option.map_eq_some_iff.1 hk
    exact ih k c' hc (AV.tidyL_get hs hc) (AV.freeL_get hf hc) _ _
  | tup p cs arr h1 _ ih =>
    intro hs hf p0 p'
    rw [AV.tidy] at hs
    rw [AV.free] at hf
    rw [AV.tr]
    refine .tup p' _ arr (by rw [AV.trL_length]; exact h1) fun k c hk => ?_
    rw [AV.trL_get] at hk
    obtain ⟨c', hc, rfl⟩ := Option.map_eq_some_iff.1 hk
    exact ih k c' hc (AV.tidyL_get hs hc) (AV.freeL_get hf hc) _ _

theorem Val.renSlot (d0 d : Nat) (hO : ∀ bk π, E.ω bk = some (.slot d0 π) → E'.ω bk = some (.slot d π) ∧ E'.w.heap[bk]? = E.w.heap[bk]?) {p : Place} {x : AV} {v : Value} (hv : Val E p x v) :
    x.tidy = true → ∀ π0 p0, p = .slot d0 π0 → Val E' (.slot d π0) (x.tr (renLeaf ρ) p0) v := by
  induction hv with
  | sl p g sz xs bk off cap hc hr hg ha =>
    intro hs π0 p0 he
    cases g with
    | vw q ex => simp [AV.tidy] at hs
    | fro => exact (Val.sl (E := E) p .fro sz xs bk off cap hc hr hg ha).renFree hP hB hs rfl _ _
    | nl => exact hg.elim
    | own =>
      subst he
      rw [AV.tr_leaf rfl]
      have ho := hO bk π0 hg.1
      exact .sl _ .own sz xs bk off cap hc (hr.mono hP ho.2) ⟨ho.1, hg.2.mono ho.2⟩ trivial
  | sl1 p sz a cap => exact fun _ π0 p0 _ => by rw [AV.tr_leaf rfl]; exact .sl1 _ sz a cap
  | sl0 p g sz h0 ha =>
    intro hs π0 p0 _
    rw [AV.tr_leaf rfl]
    cases g with
    | vw q ex => simp [AV.tidy] at hs
    | _ => exact .sl0 _ _ sz (by simp) trivial
  | agg p cs arr h1 _ ih =>
    intro hs π0 p0 he
    subst he
    rw [AV.tidy] at hs
    rw [AV.tr]
    refine .agg _ _ arr (by rw [AV.trL_length]; exact h1) fun k c hk => ?_
    rw [AV.trL_get] at hk
    obtain ⟨c', hc, rfl⟩ := Option.map_eq_some_iff.1 hk
    exact ih k c' hc (AV.tidyL_get hs hc) _ _ rfl
  | tup p cs arr h1 _ ih =>
    intro hs π0 p0 he
    subst he
    rw [AV.tidy] at hs
    rw [AV.tr]
    refine .tup _ _ arr (by rw [AV.trL_length]; exact h1) fun k c hk => ?_
    rw [AV.trL_get] at hk
    obtain ⟨c', hc, rfl⟩ := Option.map_eq_some_iff.1 hk
    exact ih k c' hc (AV.tidyL_get hs hc) _ _ rfl
  | any p v => exact fun _ _ _ _ => .any _ v
  | b p x => exact fun _ _ _ _ => .b _ x
  | i p k n => exact fun _ _ _ _ => .i _ k n
  | s p x => exact fun _ _ _ _ => .s _ x
  | nil p => exact fun _ _ _ _ => .nil _
  | nofn p => exact fun _ _ _ _ => .nofn _
  | ptr p id off => exact fun hs π0 p0 _ => (Val.ptr (E := E) p id off).renFree hP hB hs rfl _ _
  | pt p g ix cells off bk o hc hg ha => exact fun hs π0 p0 _ => (Val.pt (E := E) p g ix cells off bk o hc hg ha).renFree hP hB hs rfl _ _
  | fn p f fi ca fi' ca' h1 h2 h3 h4 _ _ =>
    intro hs π0 p0 _
    refine (Val.fn (E := E) p f fi ca fi' ca' h1 h2 h3 h4).renFree hP hB hs ?_ _ _
    simp only [AV.tidy, Bool.and_eq_true] at hs
    simp [AV.free, hs.1.2, hs.2]

/-- A cell of a box, handed on. -/
theorem Val.renCell (id id' j : Nat) (hO : ∀ bk, E.ω bk = some (.cell id j) → E'.ω bk = some (.cell id' j) ∧ E'.w.heap[bk]? = E.w.heap[bk]?) {x : AV} {v : Value} (hv : Val E (.cell id j) x v) (hs : x.still = true) (p0 : Place) :
    Val E' (.cell id' j) (x.tr (renLeaf ρ) p0) v := by
  simp only [AV.still, Bool.and_eq_true, Bool.or_eq_true] at hs
  obtain ⟨s1, s2⟩ := hs
  rcases s2 with s2 | s2
  · exact hv.renFree hP hB s1 s2 _ _
  · split at s2
    · rename_i sz xs
      rw [AV.tr_leaf rfl]
      cases hv with
      | sl0 => exact .sl0 _ _ _ (by simp) trivial
      | sl _ _ _ _ bk off cap hc hr hg ha =>
        have ho := hO bk hg.1
        exact .sl _ .own _ _ bk off cap hc (hr.mono hP ho.2) ⟨ho.1, hg.2.mono ho.2⟩ trivial
    · cases s2
end

/-- What is handed on holds no view, and owns nothing. -/
theorem argz_tidy (x : AV) : ∀ p, x.free = true → (x.tr argLeaf p).tidy = true ∧ (x.tr argLeaf p).free = true := by
  refine AV.rec (motive_1 := fun x => ∀ p, x.free = true → (x.tr argLeaf p).tidy = true ∧ (x.tr argLeaf p).free = true)
    (motive_2 := fun l => AV.freeL l = true → (∀ p k, AV.tidyL (AV.trL argLeaf p k l) = true ∧ AV.freeL (AV.trL argLeaf p k l) = true) ∧ AV.tidyL (AV.trN argLeaf l) = true ∧ AV.freeL (AV.trN argLeaf l) = true) (motive_3 := fun _ => True)
    ?_ ?_ ?_ ?_ ?_ ?_ ?_ ?_ ?_ ?_ ?_ ?_ ?_ ?_ ?_ ?_ x
  · intro p _; exact ⟨rfl, rfl⟩
  · intro x p _; exact ⟨rfl, rfl⟩
  · intro k n p _; exact ⟨rfl, rfl⟩
  · intro x p _; exact ⟨rfl, rfl⟩
  · intro p _; exact ⟨rfl, rfl⟩
  · intro p _; exact ⟨rfl, rfl⟩
  · intro id off p _; exact ⟨rfl, rfl⟩
  · intro g ix cells off _ p _; cases g <;> exact ⟨rfl, rfl⟩
  · intro f fi ca h1 h2 p h
    simp only [AV.free, Bool.and_eq_true] at h
    rw [AV.tr]
    simp [AV.tidy, AV.free, (h1 h.1).2, (h2 h.2).2]
  · intro g sz xs _ p h
    cases g with
    | own => simp [AV.free] at h
    | _ => exact ⟨rfl, rfl⟩
  · intro cs h p hf; rw [AV.free] at hf; rw [AV.tr]; exact ⟨((h hf).1 p 0).1, ((h hf).1 p 0).2⟩
  · intro cs h p hf; rw [AV.free] at hf; rw [AV.tr]; exact ⟨((h hf).1 p 0).1, ((h hf).1 p 0).2⟩
  · exact fun _ => ⟨fun _ _ => ⟨rfl, rfl⟩, rfl, rfl⟩
  · intro x xs h1 h2 hf
    simp only [AV.freeL, Bool.and_eq_true] at hf
    refine ⟨fun p k => ?_, ?_, ?_⟩
    · simp [AV.trL, AV.tidyL, AV.freeL, h1 _ hf.1, (h2 hf.2).1]
    · simp [AV.trN, AV.tidyL, h1 _ hf.1, (h2 hf.2).2.1]
    · simp [AV.trN, AV.freeL, h1 _ hf.1, (h2 hf.2).2.2]
  · trivial
  · intros; trivial

def St.dropB (given : List Nat) (st : St) : St := { st with boxes := fun id => if given.contains id then none else st.boxes id }
def St.addB (l : Boxes) (st : St) : St := { st with boxes := fun id => match l.lookup id with | some cs => some cs | none => st.boxes id }

theorem lookup_filter {α} (p : Nat → Bool) (l : List (Nat × α)) (t : Nat) : List.lookup t (l.filter fun e => p e.1) = if p t then l.lookup t else none := by
  induction l with
  | nil => simp
  | cons e l ih =>
    obtain ⟨k, v⟩ := e
    rw [List.filter_cons]
    by_cases hk : p k = true
    · simp only [hk, if_true]
      rw [lookup_cons', lookup_cons', ih]
      by_cases h : t = k
      · subst h; simp [hk]
      · simp [h]
    · simp only [hk, Bool.false_eq_true, if_false]
      rw [lookup_cons', ih]
      by_cases h : t = k
      · subst h; simp [hk]
      · simp [h]

theorem lookup_append' {α} (l m : List (Nat × α)) (t : Nat) : List.lookup t (l ++ m) = match l.lookup t with | some x => some x | none => m.lookup t := by
  induction l with
  | nil => rfl
  | cons e l ih =>
    obtain ⟨k, v⟩ := e
    rw [List.cons_append, lookup_cons', lookup_cons', ih]
    split <;> rfl

theorem St.of_dropB (given l bx) : (St.of l bx).dropB given = St.of l (bx.filter fun e => !given.contains e.1) := by
  refine St.ext' (fun _ => rfl) (fun id => ?_)
  show (if given.contains id then none else bx.lookup id) = (bx.filter fun e => !given.contains e.1).lookup id
  rw [lookup_filter fun id => !given.contains id]
  cases given.contains id <;> rfl

theorem St.of_addB (m l bx) : (St.of l bx).addB m = St.of l (m ++ bx) := by
  refine St.ext' (fun _ => rfl) (fun id => ?_)
  show (match m.lookup id with | some cs => some cs | none => bx.lookup id) = (m ++ bx).lookup id
  rw [lookup_append']
  cases m.lookup id <;> rfl

def killO (nw : Option (Nat × Nat)) (st : St) : St :=
  match nw with
  | some e => st.killB e.2
  | none => st

def givenL (m : List (Nat × Nat)) (nw : Option (Nat × Nat)) : List Nat := m.map (·.2) ++ nw.toList.map (·.2)
def swapL (m : List (Nat × Nat)) : List (Nat × Nat) := m.map fun e => (e.2, e.1)
def upL (m : List (Nat × Nat)) (nw : Option (Nat × Nat)) : List (Nat × Nat) := m ++ nw.toList

def givenQ (g : List Nat) : Place → Option Place
  | .cell id _ => if g.contains id then some (.box id) else none
  | _ => none

def nodup : List Nat → Bool
  | [] => true
  | x :: xs => !xs.contains x && nodup xs

/-- The boxes that are handed on. -/
def givenOk (m : List (Nat × Nat)) (st : St) : Boxes → Prop
  | [] => True
  | (i, cs) :: bx => (match m.lookup i with
    | some B => match st.boxes B with
      | some cs0 => cs0.all AV.still = true ∧ cs = cs0.map (AV.ren fun id => (swapL m).lookup id)
      | none => False
    | none => False) ∧ givenOk m st bx

/-- The boxes that come back. -/
def takenL (u : List (Nat × Nat)) (bx' : Boxes) : List (Nat × Nat) → Boxes
  | [] => []
  | (i, B) :: l => match bx'.lookup i with
    | some cs => (B, cs.map (AV.ren fun i => u.lookup i)) :: takenL u bx' l
    | none => takenL u bx' l

def pairsOk (k base : Nat) (m : List (Nat × Nat)) (nw : Option (Nat × Nat)) : Bool :=
  m.all (fun e => decide (e.1 < k)) && nodup (m.map (·.1)) && nodup (m.map (·.2)) && match nw with
    | some e => decide (k ≤ e.1) && decide (base ≤ e.2) && !(m.map (·.2)).contains e.2
    | none => true

/-- What a call that is handed boxes does to a state. -/
def acallP (C : Cx) (st : St) (d : Option Nat) (f : Nat) (args : List AV) (K : St → Prop) : Prop :=
  ∃ (k : Nat) (m : List (Nat × Nat)) (nw : Option (Nat × Nat)) (bx : Boxes) (r : AV) (bx' : Boxes),
    Proc C.P k f (args.map fun x => x.argz.ren fun id => (swapL m).lookup id) bx r bx' ∧ pairsOk k C.base m nw = true ∧
    (let l := AV.vwsN args
     let F := settleF l.isEmpty l (fun _ => false)
     let st1 := st.fz F
     let st2 := killO nw ((st1.take (givenQ (givenL m nw))).dropB (givenL m nw))
     AV.resOkN noQ F args = true ∧ givenOk m st1 bx ∧ r.tidy = true ∧ (bx'.all fun e => e.2.all AV.still) = true ∧
       match d with
       | some d => d < C.N ∧ (st2.slots d).free = true ∧ K ((st2.addB (takenL (upL m nw) bx' (upL m nw))).put d (r.ren fun i => (upL m nw).lookup i))
       | none => K (st2.addB (takenL (upL m nw) bx' (upL m nw))))

theorem Rel.killO {N : Nat} {E : Env} (R : Rel N E) (nw : Option (Nat × Nat)) : Rel N { E with st := Go.AM.killO nw E.st } := by
  cases nw with
  | none => exact R
  | some e => exact R.killB e.2

theorem Inv.killO {N : Nat} {S : Start} {E : Env} (I : Inv N S E) (nw : Option (Nat × Nat)) : Inv N S { E with st := Go.AM.killO nw E.st } :=
  ⟨I.rel.killO nw, ⟨I.fr.os, I.fr.tape, I.fr.output, I.fr.size, I.fr.block, I.fr.own, I.fr.pub0, I.fr.pub1, I.fr.beta⟩⟩

theorem nodup_lookup {α} : ∀ {l : List (Nat × α)}, nodup (l.map (·.1)) = true → ∀ e ∈ l, l.lookup e.1 = some e.2
  | [], _, e, h => by simp at h
  | (k, v) :: l, hn, e, h => by
    simp only [List.map_cons, nodup, Bool.and_eq_true, Bool.not_eq_true'] at hn
    rw [lookup_cons']
    rcases List.mem_cons.1 h with h1 | h1
    · subst h1; simp
    · by_cases he : e.1 = k
      · have h2 := hn.1
        simp at h2
        obtain ⟨a, b⟩ := e
        simp only at he
        subst he
        exact absurd h1 (h2 b)
      · rw [if_neg he]; exact nodup_lookup hn.2 e h1

theorem lookup_mem {α} : ∀ {l : List (Nat × α)} {k : Nat} {v : α}, l.lookup k = some v → (k, v) ∈ l
  | [], k, v, h => by simp at h
  | (k', v') :: l, k, v, h => by
    rw [lookup_cons'] at h
    split at h
    · rename_i he; subst he; cases h; simp
    · exact List.mem_cons_of_mem _ (lookup_mem h)

theorem swap_lookup {m : List (Nat × Nat)} (h2 : nodup (m.map (·.2)) = true) {i B : Nat} (h : (i, B) ∈ m) : (swapL m).lookup B = some i := by
  have : nodup ((swapL m).map (·.1)) = true := by simpa [swapL, Function.comp_def] using h2
  exact nodup_lookup this (B, i) (List.mem_map.2 ⟨(i, B), h, rfl⟩)

theorem swap_mem {m : List (Nat × Nat)} {i B : Nat} (h : (swapL m).lookup B = some i) : (i, B) ∈ m := by
  have := lookup_mem h
  obtain ⟨e, he, h2⟩ := List.mem_map.1 this
  cases h2; exact he

theorem givenOk_get {m : List (Nat × Nat)} {st : St} : ∀ {bx : Boxes}, givenOk m st bx → ∀ {i : Nat} {cs : List AV}, bx.lookup i = some cs →
    ∃ B cs0, m.lookup i = some B ∧ st.boxes B = some cs0 ∧ cs0.all AV.still = true ∧ cs = cs0.map (AV.ren fun id => (swapL m).lookup id)
  | [], _, i, cs, h => by simp at h
  | (k, c) :: bx, hg, i, cs, h => by
    simp only [givenOk] at hg
    rw [lookup_cons'] at h
    split at h
    · rename_i he
      subst he; cases h
      obtain ⟨hg, _⟩ := hg
      split at hg
      · rename_i B hB
        split at hg
        · rename_i cs0 hc; exact ⟨B, cs0, hB, hc, hg.1, hg.2⟩
        · exact hg.elim
      · exact hg.elim
    · exact givenOk_get hg.2 h

theorem takenL_get {u : List (Nat × Nat)} {bx' : Boxes} : ∀ {l : List (Nat × Nat)}, nodup (l.map (·.2)) = true → ∀ B cs, (takenL u bx' l).lookup B = some cs →
    ∃ i cs', (i, B) ∈ l ∧ bx'.lookup i = some cs' ∧ cs = cs'.map (AV.ren fun i => u.lookup i)
  | [], _, B, cs, h => by simp [takenL] at h
  | (i, B0) :: l, hn, B, cs, h => by
    simp only [List.map_cons, nodup, Bool.and_eq_true] at hn
    rw [takenL] at h
    split at h
    · rename_i cs' hc
      rw [lookup_cons'] at h
      split at h
      · rename_i he; subst he; cases h; exact ⟨i, cs', by simp, hc, rfl⟩
      · obtain ⟨i', cs'', h1, h2, h3⟩ := takenL_get hn.2 B cs h
        exact ⟨i', cs'', List.mem_cons_of_mem _ h1, h2, h3⟩
    · obtain ⟨i', cs'', h1, h2, h3⟩ := takenL_get hn.2 B cs h
      exact ⟨i', cs'', List.mem_cons_of_mem _ h1, h2, h3⟩

theorem takenL_none {u : List (Nat × Nat)} {bx' : Boxes} : ∀ {l : List (Nat × Nat)} {B : Nat}, B ∉ l.map (·.2) → (takenL u bx' l).lookup B = none
  | [], B, _ => by simp [takenL]
  | (i, B0) :: l, B, h => by
    simp only [List.map_cons, List.mem_cons, not_or] at h
    rw [takenL]
    split
    · rw [lookup_cons', if_neg h.1]; exact takenL_none h.2
    · exact takenL_none h.2

theorem nodup_append {l m : List Nat} : nodup (l ++ m) = true ↔ nodup l = true ∧ nodup m = true ∧ ∀ x ∈ l, x ∉ m := by
  induction l with
  | nil => simp [nodup]
  | cons x l ih =>
    simp only [List.cons_append, nodup, Bool.and_eq_true, ih, Bool.not_eq_true', List.mem_cons, forall_eq_or_imp]
    simp only [List.contains_eq_mem, List.mem_append, decide_eq_false_iff_not, not_or]
    constructor
    · rintro ⟨⟨h1, h2⟩, h3, h4, h5⟩; exact ⟨⟨h1, h3⟩, h4, h2, h5⟩
    · rintro ⟨⟨h1, h3⟩, h4, h2, h5⟩; exact ⟨⟨h1, h2⟩, h3, h4, h5⟩

section
variable {C : Cx} {S : Start} {E : Env}

def setO (tm : Array Value) (d : Option Nat) (v : Value) : Array Value :=
  match d with
  | some d => tm.setIfInBounds d v
  | none => tm

theorem acallP_sound (I : Inv C.N S E) (hbase : S.k ≤ C.base) {d : Option Nat} {f : Nat} {args : List AV} {vs : Array Value} {K : St → Prop} (hl : args.length = vs.size) (hf : AV.freeL args = true)
    (hv : ∀ (k : Nat) c, args[k]? = some c → Val E .no c (vs.getD k undef)) (h : acallP C E.st d f args K) :
    (∃ fn c, C.P.funcs[f]? = some fn ∧ fn.body = some c ∧ (fn.name == "runtime.NumGoroutine") = false) ∧
    Calls C.P f vs E.w fun e w' => ∃ v E', e = .returned v ∧ E'.w = w' ∧ Inv C.N S E' ∧ E'.tm = setO E.tm d v ∧ K E'.st := by
  obtain ⟨k, m, nw, bx, r, bx', ⟨hfn, hP⟩, hpairs, hrest⟩ := h
  refine ⟨hfn, ?_⟩
  simp only at hrest
  generalize hF : settleF (AV.vwsN args).isEmpty (AV.vwsN args) (fun _ => false) = F at hrest
  obtain ⟨hres, hgiven, htidy, hstill, hK⟩ := hrest
  have hFb : ∀ id, F (.box id) = false := fun id => by rw [← hF]; exact settleF_box ..
  have I1 := I.fz F hFb
  -- the pairs
  simp only [pairsOk, Bool.and_eq_true, List.all_eq_true, decide_eq_true_eq] at hpairs
  obtain ⟨⟨⟨pk, pn1⟩, pn2⟩, pnw⟩ := hpairs
  have pnew : ∀ e, nw = some e → k ≤ e.1 ∧ C.base ≤ e.2 ∧ e.2 ∉ m.map (·.2) := by
    intro e he
    subst he
    simp only [Bool.and_eq_true, decide_eq_true_eq, Bool.not_eq_true'] at pnw
    refine ⟨pnw.1.1, pnw.1.2, ?_⟩
    simpa [List.contains_eq_mem] using pnw.2
  let u := upL m nw
  let g := givenL m nw
  have hu2 : u.map (·.2) = g := by simp [u, g, upL, givenL]
  have hnd2 : nodup (u.map (·.2)) = true := by
    rw [hu2]
    show nodup (m.map (·.2) ++ nw.toList.map (·.2)) = true
    rw [nodup_append]
    refine ⟨pn2, ?_, fun x hx => ?_⟩
    · cases nw <;> simp [nodup]
    · cases hnw : nw with
      | none => simp
      | some e =>
        have := (pnew e hnw).2.2
        simp only [Option.toList_some, List.map_cons, List.map_nil, List.mem_singleton]
        intro he; subst he; exact this hx
  have hnd1 : nodup (u.map (·.1)) = true := by
    show nodup ((m ++ nw.toList).map (·.1)) = true
    rw [List.map_append, nodup_append]
    refine ⟨pn1, ?_, fun x hx => ?_⟩
    · cases nw <;> simp [nodup]
    · cases hnw : nw with
      | none => simp
      | some e =>
        have h1 := (pnew e hnw).1
        obtain ⟨e', he', rfl⟩ := List.mem_map.1 hx
        have := pk e' he'
        simp only [Option.toList_some, List.map_cons, List.map_nil, List.mem_singleton]
        omega
  -- the callee's environment
  let β0 : Nat → Nat := fun i => match m.lookup i with | some B => E.β B | none => 0
  let ω0 : Nat → Option Place := fun bk => match E.fz F |>.ω bk with
    | some (.cell B j) => ((swapL m).lookup B).bind fun i => if (bx.lookup i).isSome then some (.cell i j) else none
    | some (.box B) => ((swapL m).lookup B).bind fun i => if (bx.lookup i).isSome then some (.box i) else none
    | _ => none
  let E0 : Env := ⟨E.w, β0, ω0, (E.fz F).Pub, St.ofBoxes bx, #[]⟩
  have hω0 : ∀ bk q, ω0 bk = some q → (∃ q', (E.fz F).ω bk = some q' ∧ ((∃ B j, q' = .cell B j ∧ B ∈ m.map (·.2)) ∨ ∃ B, q' = .box B ∧ B ∈ m.map (·.2))) ∧ inBx bx q := by
    intro bk q h
    simp only [ω0] at h
    split at h
    · rename_i B j hq
      obtain ⟨i, hi, h2⟩ := Option.bind_eq_some_iff.1 h
      split at h2
      · rename_i hs; cases h2
        exact ⟨⟨_, hq, .inl ⟨B, j, rfl, List.mem_map.2 ⟨_, swap_mem hi, rfl⟩⟩⟩, hs⟩
      · cases h2
    · rename_i B hq
      obtain ⟨i, hi, h2⟩ := Option.bind_eq_some_iff.1 h
      split at h2
      · rename_i hs; cases h2
        exact ⟨⟨_, hq, .inr ⟨B, rfl, List.mem_map.2 ⟨_, swap_mem hi, rfl⟩⟩⟩, hs⟩
      · cases h2
    · cases h
  have hP0 : ∀ bk, (E.fz F).Pub bk → E0.Pub bk ∧ E0.w.heap[bk]? = (E.fz F).w.heap[bk]? := fun bk h => ⟨h, rfl⟩
  have hB0 : ∀ id j, (swapL m).lookup id = some j → E0.β j = (E.fz F).β id := by
    intro id j h
    have := nodup_lookup pn1 _ (swap_mem h)
    show β0 j = E.β id
    simp only at this
    simp [β0, this]
  have R0 : Rel 0 E0 := by
    refine ⟨rfl, fun t => .any _ _, fun i cs h => ?_, fun bk h => ⟨(I1.rel.pub bk h).1, ?_⟩, fun bk q h => ?_⟩
    · obtain ⟨B, cs0, hB, hb, hst, rfl⟩ := givenOk_get hgiven (show bx.lookup i = some cs from h)
      obtain ⟨g1, arr, T, g2, g3, g4⟩ := I1.rel.boxes B cs0 hb
      have hm : (i, B) ∈ m := lookup_mem hB
      have hsw := swap_lookup pn2 hm
      have hin : (bx.lookup i).isSome = true := by
        have h' : bx.lookup i = some (cs0.map (AV.ren fun id => (swapL m).lookup id)) := h
        rw [h']; rfl
      have hbeta : E0.β i = (E.fz F).β B := hB0 B i hsw
      refine ⟨?_, arr, T, by rw [hbeta]; exact g2, by rw [g3, List.length_map], fun j c hj => ?_⟩
      · rw [hbeta]
        show ω0 _ = _
        simp only [ω0, g1, hsw, Option.bind_some, hin, if_true]
      · rw [List.getElem?_map] at hj
        obtain ⟨c0, hc0, rfl⟩ := Option.map_eq_some_iff.1 hj
        refine (g4 j c0 hc0).renCell hP0 hB0 B i j (fun bk hbk => ⟨?_, rfl⟩) (List.all_eq_true.1 hst c0 (List.mem_of_getElem? hc0)) .no
        show ω0 bk = _
        simp only [ω0, hbk, hsw, Option.bind_some, hin, if_true]
    · show ω0 bk = none
      have := (I1.rel.pub bk h).2
      simp only [ω0, this]
    · obtain ⟨⟨q', hq', _⟩, _⟩ := hω0 bk q h
      exact I1.rel.own bk q' hq'
  -- its arguments
  have hargs : ∀ (j : Nat) c, (args.map fun x => x.argz.ren fun id => (swapL m).lookup id)[j]? = some c → Val E0 .no c (vs.getD j undef) := by
    intro j c hj
    rw [List.getElem?_map] at hj
    obtain ⟨c0, hc0, rfl⟩ := Option.map_eq_some_iff.1 hj
    have hfr := AV.freeL_get hf hc0
    have h1 : Val (E.fz F) .no c0.argz (vs.getD j undef) :=
      (hv j c0 hc0).argz (Pub' := (E.fz F).Pub) (ω' := (E.fz F).ω) (st' := (E.fz F).st) (tm' := E.tm) (fun bk h => .inl h) (fun bk q h hq => .inr ⟨q, h, hq⟩) hfr .no (AV.resOkN_get hres j c0 hc0) .no
    obtain ⟨t1, t2⟩ := argz_tidy c0 .no hfr
    exact h1.renFree hP0 hB0 t1 t2 .no .no
  refine (hP E.w β0 ω0 (E.fz F).Pub vs R0 (fun bk q h => (hω0 bk q h).2) (by simpa using hl) hargs).mono ?_
  rintro e w' ⟨v, E1, rfl, rfl, hI, hst1, hω, hr⟩
  refine ⟨v, ?_⟩
  have hp1 := hI.fr.pub0
  have hp2 := hI.fr.pub1
  have hold : ∀ bk, bk < E.w.heap.size → ω0 bk = none → E1.w.heap[bk]? = E.w.heap[bk]? := fun bk h hn => hI.fr.block bk h (by simpa using hn)
  -- the caller's, without what was given
  have I2 := (I1.take (givenQ g) (fun id => rfl))
  have I3 := I2.forget (((E.fz F).st.take (givenQ g)).dropB g) (fun t => .inl rfl) (fun id => by
    show (if g.contains id then none else _) = _ ∨ _
    by_cases hg : g.contains id = true
    · refine .inr ⟨by show (if g.contains id then none else _) = none; rw [if_pos hg], fun j => take_cell (E.fz F).st (givenQ g) id j (by simp only [givenQ, hg]; rfl)⟩
    · left; rw [if_neg hg]; rfl)
  have I4 := I3.killO nw
  have hgm : ∀ B, B ∈ m.map (·.2) → g.contains B = true := fun B h => by
    have : B ∈ g := List.mem_append_left _ h
    simpa [List.contains_eq_mem] using this
  have hfree0 : ∀ bk q, (E.fz F).ω bk = some q → (∀ B j, q = .cell B j → g.contains B = false) → (∀ B, q = .box B → g.contains B = false) → ω0 bk = none := by
    intro bk q hq h1 h2
    cases ho : ω0 bk with
    | none => rfl
    | some q0 =>
      obtain ⟨⟨q', hq', hc⟩, _⟩ := hω0 bk q0 ho
      rw [hq] at hq'
      cases hq'
      rcases hc with ⟨B, j, he, hm⟩ | ⟨B, he, hm⟩
      · have := h1 B j he; rw [hgm B hm] at this; cases this
      · have := h2 B he; rw [hgm B hm] at this; cases this
  have hnone1 : ∀ bk, bk < E.w.heap.size → ω0 bk = none → E1.ω bk = none := by
    intro bk h hn
    cases ho : E1.ω bk with
    | none => rfl
    | some q =>
      rcases hI.fr.own bk q ho with h1 | h1
      · exact absurd h (by have h1' : E.w.heap.size ≤ bk := h1; omega)
      · exact absurd hn h1
  classical
  let ω3 : Nat → Option Place := fun bk => match E1.ω bk with
    | some (.slot t π) => if t = 0 then some (.slot (d.getD 0) π) else none
    | some (.cell i j) => (u.lookup i).map fun B => .cell B j
    | some (.box i) => (u.lookup i).map .box
    | some .no => none
    | none => if ω0 bk = none then (E.fz F).ω bk else none
  let β3 : Nat → Nat := fun id => match (swapL u).lookup id with | some i => E1.β i | none => E.β id
  have hω3 : ∀ bk q, (E.fz F).ω bk = some q → ω0 bk = none → ω3 bk = some q := by
    intro bk q h h0
    have := hnone1 bk (I1.rel.own bk q h) h0
    simp only [ω3, this, h0, if_true, h]
  have hβold : ∀ i B, (i, B) ∈ m → E1.β i = E.β B := by
    intro i B h
    rw [hI.fr.beta i (pk _ h)]
    have := nodup_lookup pn1 _ h
    simp only at this
    show β0 i = _
    simp [β0, this]
  have hβu : ∀ i B, (i, B) ∈ u → β3 B = E1.β i := by
    intro i B h
    have := swap_lookup hnd2 h
    simp [β3, this]
  have hβn : ∀ B, g.contains B = false → β3 B = E.β B := by
    intro B h
    cases hs : (swapL u).lookup B with
    | none => simp [β3, hs]
    | some i =>
      have hm : B ∈ u.map (·.2) := List.mem_map.2 ⟨_, swap_mem hs, rfl⟩
      rw [hu2] at hm
      have : g.contains B = true := by simpa [List.contains_eq_mem] using hm
      rw [this] at h; cases h
  let st2 : St := Go.AM.killO nw (((E.fz F).st.take (givenQ g)).dropB g)
  let E4 : Env := { (E.fz F).take (givenQ g) with st := st2 }
  have R4 : Rel C.N E4 := I4.rel
  let E3 : Env := ⟨E1.w, β3, ω3, E1.Pub, st2.addB (takenL u bx' u), E.tm⟩
  let SP : Place → Prop := fun q => (∀ B, q ≠ .box B) ∧ ∀ B j, q = .cell B j → g.contains B = false
  let SB : Nat → Prop := fun i => ∀ e, nw = some e → i ≠ e.2
  have hE4ω : ∀ bk q, E4.ω bk = some q → SP q ∨ (∃ B, q = .box B ∧ g.contains B = false) → (E.fz F).ω bk = some q ∧ ω0 bk = none := by
    intro bk q h hq
    have h' : (match (E.fz F).ω bk with | some q => some ((givenQ g q).getD q) | none => none) = some q := h
    split at h'
    · rename_i q' hq'
      have h2 := Option.some.inj h'
      have hg : givenQ g q' = none := by
        cases hgq : givenQ g q' with
        | none => rfl
        | some q2 =>
          exfalso
          have h3 : q2 = q := by rw [hgq] at h2; exact h2
          unfold givenQ at hgq
          split at hgq
          · rename_i id j
            split at hgq
            · rename_i hc
              cases hgq
              rcases hq with hq | ⟨B, hq, hB⟩
              · exact hq.1 id h3.symm
              · rw [← h3] at hq; cases hq; rw [hc] at hB; cases hB
            · cases hgq
          · cases hgq
      rw [hg] at h2
      have h2 : q' = q := h2
      subst h2
      refine ⟨hq', hfree0 bk q' hq' (fun B j he => ?_) fun B he => ?_⟩
      · subst he
        cases hc : g.contains B with
        | false => rfl
        | true =>
          have hg' : (if g.contains B then some (Place.box B) else none) = none := hg
          rw [if_pos hc] at hg'; cases hg'
      · rcases hq with hq | ⟨B', hq, hB⟩
        · exact absurd he (hq.1 B)
        · rw [hq] at he; cases he; exact hB
    · cases h'
  have hboxes : ∀ id cs, st2.boxes id = some cs → g.contains id = false := by
    intro id cs h
    cases hc : g.contains id with
    | false => rfl
    | true =>
      exfalso
      have h1 : (((E.fz F).st.take (givenQ g)).dropB g).boxes id = none := by
        show (if g.contains id then none else _) = none
        rw [if_pos hc]
      cases hnw : nw with
      | none =>
        have : st2 = ((E.fz F).st.take (givenQ g)).dropB g := by show Go.AM.killO nw _ = _; rw [hnw]; rfl
        rw [this, h1] at h; cases h
      | some e =>
        have : st2 = (((E.fz F).st.take (givenQ g)).dropB g).killB e.2 := by show Go.AM.killO nw _ = _; rw [hnw]; rfl
        rw [this] at h
        have h2 : Option.map (AV.trC (killBLeaf e.2) id 0) ((((E.fz F).st.take (givenQ g)).dropB g).boxes id) = some cs := h
        rw [h1] at h2; cases h2
  have hadd : ∀ id, g.contains id = false → (takenL u bx' u).lookup id = none := by
    intro id h
    refine takenL_none ?_
    rw [hu2]
    simpa [List.contains_eq_mem] using h
  have hst : Stays SP SB E4 E3 := by
    refine ⟨fun bk h => ?_, fun bk q hq h => ?_, fun id hid => ?_, fun q w sz xs hq hab hc => ?_, fun q sz xs hq hab => ?_⟩
    · have hpub := I1.rel.pub bk h
      refine ⟨hp1 bk h, hold bk hpub.1 ?_⟩
      cases ho : ω0 bk with
      | none => rfl
      | some q0 =>
        obtain ⟨⟨q', hq', _⟩, _⟩ := hω0 bk q0 ho
        rw [hpub.2] at hq'; cases hq'
    · obtain ⟨h1, h2⟩ := hE4ω bk q h (.inl hq)
      exact ⟨hω3 bk q h1 h2, hold bk (I1.rel.own bk q h1) h2⟩
    · show β3 id = E.β id
      cases hs : (swapL u).lookup id with
      | none => simp [β3, hs]
      | some i =>
        have hm := swap_mem hs
        rw [hβu i id hm]
        rcases List.mem_append.1 hm with h1 | h1
        · exact hβold i id h1
        · cases hnw : nw with
          | none => rw [hnw] at h1; simp at h1
          | some e =>
            rw [hnw] at h1
            simp at h1
            exact absurd (by rw [← h1]) (hid e hnw)
    · cases q with
      | slot t π => exact hc
      | cell id j =>
        have hgc := hq.2 id j rfl
        have hb : ∃ cs, st2.boxes id = some cs := by
          cases hbx : st2.boxes id with
          | some cs => exact ⟨cs, rfl⟩
          | none =>
            have hab' : ((st2.boxes id).getD []).getD j .any = .sl .own sz xs := hab
            rw [hbx] at hab'; simp at hab'
        obtain ⟨cs, hb⟩ := hb
        obtain ⟨g1, _⟩ := R4.boxes id cs hb
        obtain ⟨h1, h2⟩ := hE4ω _ _ g1 (.inr ⟨id, rfl, hgc⟩)
        have hc' : E.w.cell? ⟨E.β id, j, none⟩ = some w := hc
        show E1.w.cell? ⟨β3 id, j, none⟩ = some w
        rw [hβn id hgc, cell_same (hold _ (cell_lt hc') h2)]; exact hc'
      | box _ => simp [Env.con] at hc
      | no => simp [Env.con] at hc
    · cases q with
      | slot t π => exact hab
      | cell id j =>
        have hgc := hq.2 id j rfl
        show ((match (takenL u bx' u).lookup id with | some cs => some cs | none => st2.boxes id).getD []).getD j .any = _
        rw [hadd id hgc]; exact hab
      | box _ => simp [St.abs] at hab
      | no => simp [St.abs] at hab
  have hq3 : ∀ q sz xs, (((E.fz F).st.take (givenQ g)).dropB g).abs q = .sl .own sz xs → SP q := by
    intro q sz xs h
    refine ⟨fun B e => by subst e; simp [St.abs] at h, fun B j e => ?_⟩
    subst e
    cases hc : g.contains B with
    | false => rfl
    | true =>
      exfalso
      have h1 : (((E.fz F).st.take (givenQ g)).dropB g).boxes B = none := by
        show (if g.contains B then none else _) = none
        rw [if_pos hc]
      simp [St.abs, h1] at h
  have hno : SP .no := ⟨by simp, by simp⟩
  have hleanS : ∀ t, Leans SP SB (.slot t []) (st2.slots t) := by
    intro t
    have h := I3.rel.leansSlot hq3 hno t
    cases hnw : nw with
    | none =>
      have e1 : SB = fun _ => True := by funext i; simp [SB, hnw]
      have : st2 = ((E.fz F).st.take (givenQ g)).dropB g := by show Go.AM.killO nw _ = _; rw [hnw]; rfl
      rw [e1, this]; exact h
    | some e =>
      have e1 : SB = fun i => i ≠ e.2 := by funext i; simp [SB, hnw]
      have : st2 = (((E.fz F).st.take (givenQ g)).dropB g).killB e.2 := by show Go.AM.killO nw _ = _; rw [hnw]; rfl
      rw [e1, this]; exact h.killB
  have hleanC : ∀ id cs j c, st2.boxes id = some cs → cs[j]? = some c → Leans SP SB (.cell id j) c := by
    intro id cs j c hb hj
    cases hnw : nw with
    | none =>
      have e1 : SB = fun _ => True := by funext i; simp [SB, hnw]
      have : st2 = ((E.fz F).st.take (givenQ g)).dropB g := by show Go.AM.killO nw _ = _; rw [hnw]; rfl
      rw [e1]; rw [this] at hb; exact I3.rel.leansCell hq3 hno hb hj
    | some e =>
      have e1 : SB = fun i => i ≠ e.2 := by funext i; simp [SB, hnw]
      have : st2 = (((E.fz F).st.take (givenQ g)).dropB g).killB e.2 := by show Go.AM.killO nw _ = _; rw [hnw]; rfl
      rw [e1]; rw [this] at hb
      simp only [St.killB, St.tr, Option.map_eq_some_iff] at hb
      obtain ⟨cs0, hb0, rfl⟩ := hb
      rw [AV.trC_get] at hj
      obtain ⟨c0, hc0, rfl⟩ := Option.map_eq_some_iff.1 hj
      have := (I3.rel.leansCell hq3 hno hb0 hc0).killB (id := e.2)
      simpa only [Nat.zero_add] using this
  have hsz : E.w.heap.size ≤ E1.w.heap.size := hI.fr.size
  have hω3s : ∀ bk q, ω3 bk = some q → (∃ q', E1.ω bk = some q') ∨ (ω0 bk = none ∧ ∃ q', (E.fz F).ω bk = some q') := by
    intro bk q h
    cases ho : E1.ω bk with
    | some q' => exact .inl ⟨q', rfl⟩
    | none =>
      simp only [ω3, ho] at h
      split at h
      · rename_i h0; exact .inr ⟨h0, q, h⟩
      · cases h
  have R3 : Rel C.N E3 := by
    refine ⟨I.rel.size, fun t => (R4.slots t).mono hst (hleanS t), fun id cs h => ?_, fun bk h => ⟨(hI.rel.pub bk h).1, ?_⟩, fun bk q h => ?_⟩
    · have h' : (match (takenL u bx' u).lookup id with | some cs => some cs | none => st2.boxes id) = some cs := h
      cases ht : (takenL u bx' u).lookup id with
      | some cs1 =>
        rw [ht] at h'
        cases h'
        obtain ⟨i, cs', hm, hb, rfl⟩ := takenL_get hnd2 id cs ht
        obtain ⟨g1, arr, T, g2, g3, g4⟩ := hI.rel.boxes i cs' (by rw [hst1]; exact hb)
        have hlk := nodup_lookup hnd1 _ hm
        simp only at hlk
        have hbeta := hβu i id hm
        refine ⟨?_, arr, T, by show E1.w.heap[β3 id]? = _; rw [hbeta]; exact g2, by rw [g3, List.length_map], fun j c hj => ?_⟩
        · show ω3 (β3 id) = _
          rw [hbeta]
          simp [ω3, g1, hlk]
        · rw [List.getElem?_map] at hj
          obtain ⟨c0, hc0, rfl⟩ := Option.map_eq_some_iff.1 hj
          refine Val.renCell (E := E1) (E' := E3) (fun bk h => ⟨h, rfl⟩) (fun i' B h => hβu i' B (lookup_mem h)) i id j (fun bk hbk => ⟨?_, rfl⟩) (g4 j c0 hc0) ?_ .no
          · show ω3 bk = _
            simp [ω3, hbk, hlk]
          · have := List.all_eq_true.1 hstill _ (lookup_mem hb)
            exact List.all_eq_true.1 this c0 (List.mem_of_getElem? hc0)
      | none =>
        rw [ht] at h'
        have h'' : st2.boxes id = some cs := h'
        have hgc := hboxes id cs h''
        obtain ⟨g1, arr, T, g2, g3, g4⟩ := R4.boxes id cs h''
        obtain ⟨h1, h2⟩ := hE4ω _ _ g1 (.inr ⟨id, rfl, hgc⟩)
        have hbeta : E3.β id = E4.β id := hβn id hgc
        refine ⟨by rw [hbeta]; exact hω3 _ _ h1 h2, arr, T, ?_, g3, fun j c hj => (g4 j c hj).mono hst (hleanC id cs j c h'' hj)⟩
        rw [hbeta]
        exact (hold _ (I1.rel.own _ _ h1) h2).trans g2
    · show ω3 bk = none
      have h1 := (hI.rel.pub bk h).2
      simp only [ω3, h1]
      rcases hp2 bk h with h | h | h
      · rw [(I1.rel.pub bk h).2]; simp
      · have h' : E.w.heap.size ≤ bk := h
        cases ho : (E.fz F).ω bk with
        | none => simp
        | some q => have := I1.rel.own bk q ho; have h2 : bk < E.w.heap.size := this; omega
      · rw [if_neg h]
    · show bk < E1.w.heap.size
      rcases hω3s bk q h with ⟨q', hq'⟩ | ⟨_, q', hq'⟩
      · exact hI.rel.own bk q' hq'
      · exact Nat.lt_of_lt_of_le (I1.rel.own bk q' hq') hsz
  have hFr : Fr S E3 := by
    refine ⟨hI.fr.os.trans I.fr.os, hI.fr.tape.trans I.fr.tape, hI.fr.output.trans I.fr.output, Nat.le_trans I.fr.size hsz, fun kk hk hn => ?_, fun kk q h => ?_, fun bk h => hp1 bk (I1.fr.pub0 bk h), fun bk h => ?_, fun id hid => ?_⟩
    · refine (hold kk (Nat.lt_of_lt_of_le hk I.fr.size) ?_).trans (I.fr.block kk hk hn)
      cases ho : ω0 kk with
      | none => rfl
      | some q0 =>
        obtain ⟨⟨q', hq', _⟩, _⟩ := hω0 kk q0 ho
        rcases I1.fr.own kk q' hq' with h1 | h1
        · omega
        · exact absurd h1 hn
    · rcases hω3s kk q h with ⟨q', hq'⟩ | ⟨_, q', hq'⟩
      · rcases hI.fr.own kk q' hq' with h1 | h1
        · exact .inl (Nat.le_trans I.fr.size h1)
        · cases ho : ω0 kk with
          | none => exact absurd ho h1
          | some q0 =>
            obtain ⟨⟨q2, hq2, _⟩, _⟩ := hω0 kk q0 ho
            exact I1.fr.own kk q2 hq2
      · exact I1.fr.own kk q' hq'
    · rcases hp2 bk h with h | h | h
      · exact I1.fr.pub1 bk h
      · exact .inr (.inl (Nat.le_trans I.fr.size h))
      · cases ho : ω0 bk with
        | none => exact absurd ho h
        | some q0 =>
          obtain ⟨⟨q2, hq2, _⟩, _⟩ := hω0 bk q0 ho
          rcases I1.fr.own bk q2 hq2 with h1 | h1
          · exact .inr (.inl h1)
          · exact .inr (.inr h1)
    · show β3 id = S.β0 id
      rw [← I.fr.beta id hid]
      cases hs : (swapL u).lookup id with
      | none => simp [β3, hs]
      | some i =>
        have hm := swap_mem hs
        rw [hβu i id hm]
        rcases List.mem_append.1 hm with h1 | h1
        · exact hβold i id h1
        · cases hnw : nw with
          | none => rw [hnw] at h1; simp at h1
          | some e =>
            rw [hnw] at h1
            simp at h1
            have := (pnew e hnw).2.1
            rw [← h1] at this
            simp only at this
            omega
  cases d with
  | none => exact ⟨E3, rfl, rfl, ⟨R3, hFr⟩, rfl, hK⟩
  | some d =>
    obtain ⟨hd, hfree, hK⟩ := hK
    obtain ⟨_, hR⟩ := R3.put (fun _ => False) (fun _ _ _ _ h => h) (fun _ h => h) (fun h => h) E1.w ω3 E1.Pub d (r.ren fun i => u.lookup i) v hd (fun π sz xs => free_noOwn π hfree) (fun _ _ _ => rfl) (fun _ _ h => h) (fun _ h => h) R3.pub R3.own
    have hfin := hR (Val.renSlot (E := E1) (E' := ⟨E1.w, β3, ω3, E1.Pub, E3.st.put d (r.ren fun i => u.lookup i), E.tm.setIfInBounds d v⟩) (fun bk h => ⟨h, rfl⟩) (fun i' B h => hβu i' B (lookup_mem h)) 0 d (fun bk π h => ⟨by simp [ω3, h], rfl⟩) hr htidy [] .no rfl)
    exact ⟨⟨E1.w, β3, ω3, E1.Pub, E3.st.put d (r.ren fun i => u.lookup i), E.tm.setIfInBounds d v⟩, rfl, rfl, ⟨hfin, ⟨hFr.os, hFr.tape, hFr.output, hFr.size, hFr.block, hFr.own, hFr.pub0, hFr.pub1, hFr.beta⟩⟩, rfl, hK⟩
end
end Go.AM
namespace Go.AM

/-- A function that is handed a whole row (not empty) and gives it back, turned. -/
def HProc (P : Program) (f sz : Nat) (xs : List (List AV)) (rest : List AV) (xs' : List (List AV)) : Prop :=
  (∃ fn c, P.funcs[f]? = some fn ∧ fn.body = some c ∧ (fn.name == "runtime.NumGoroutine") = false) ∧
  ∀ (w : World) (β : Nat → Nat) (Pub : Nat → Prop) (bk cap : Nat) (T : TypeId) (cells : Array Value) (vs : Array Value),
    w.heap[bk]? = some (.cells cells T (0, 0)) → cells.size = cap * sz → xs.length ≤ cap → Row Pub w bk 0 sz xs → (∀ b, Pub b → b < w.heap.size ∧ b ≠ bk) →
    rest.length = vs.size → (∀ (k : Nat) c, rest[k]? = some c → Val ⟨w, β, fun _ => none, Pub, St.ofBoxes [], #[]⟩ .no c (vs.getD k undef)) →
    Calls P f (#[.slice (some ⟨bk, 0, none⟩) xs.length cap] ++ vs) w fun e w' => ∃ cells', e = .returned (.slice (some ⟨bk, 0, none⟩) xs'.length cap) ∧ xs'.length ≤ cap ∧ cells'.size = cap * sz ∧
      w'.heap[bk]? = some (.cells cells' T (0, 0)) ∧ (∀ b, b < w.heap.size → b ≠ bk → w'.heap[b]? = w.heap[b]?) ∧ w.heap.size ≤ w'.heap.size ∧ w'.os = w.os ∧ w'.tape = w.tape ∧ w'.output = w.output ∧ Row Pub w' bk 0 sz xs'

def acallH (C : Cx) (st : St) (d f : Nat) (args : List AV) (K : St → Prop) : Prop :=
  match args with
  | .sl (.vw q true) sz xs :: rest => ∃ xs', HProc C.P f sz xs (rest.map AV.argz) xs' ∧ xs ≠ [] ∧ AV.resOkN noQ noF rest = true ∧ d < C.N ∧ K ((st.take (appendQ d q)).put d (.sl .own sz xs'))
  | _ => False

section
variable {C : Cx} {S : Start} {E : Env}

theorem acallH_sound (I : Inv C.N S E) {d f : Nat} {args : List AV} {vs : Array Value} {K : St → Prop} (hl : args.length = vs.size) (hf : AV.freeL args = true)
    (hv : ∀ (k : Nat) c, args[k]? = some c → Val E .no c (vs.getD k undef)) (h : acallH C E.st d f args K) :
    (∃ fn c, C.P.funcs[f]? = some fn ∧ fn.body = some c ∧ (fn.name == "runtime.NumGoroutine") = false) ∧
    Calls C.P f vs E.w fun e w' => ∃ v E', e = .returned v ∧ E'.w = w' ∧ Inv C.N S E' ∧ E'.tm = E.tm.setIfInBounds d v ∧ K E'.st := by
  unfold acallH at h
  split at h
  · rename_i q sz xs rest
    obtain ⟨xs', ⟨hfn, hP⟩, hne, hok, hdN, hK⟩ := h
    refine ⟨hfn, ?_⟩
    simp only [AV.freeL, Bool.and_eq_true] at hf
    generalize hQ : appendQ d q = Q at hK
    have hQb : ∀ id, Q (.box id) = none := fun id => by rw [← hQ]; rfl
    have h0 := hv 0 _ rfl
    have hat : ∃ sz' xs', E.st.abs q = .sl .own sz' xs' := by
      generalize vs.getD 0 undef = v0 at h0
      cases h0 with
      | sl0 _ _ _ _ ha => exact ha
      | sl _ _ _ _ _ _ _ _ _ _ ha => exact ha
    have hqb : ∀ id, q ≠ .box id := by
      intro id e; subst e
      obtain ⟨_, _, h⟩ := hat
      simp [St.abs] at h
    have hQq : Q q = some (.slot d []) := by
      rw [← hQ]
      cases q <;> first | (exact absurd rfl (hqb _)) | simp [appendQ]
    have I1 := I.take Q hQb
    have hno : NoOwn ((E.take Q).st.slots d) := take_noOwn E.st Q d fun π => by
      rw [← hQ]; simp only [appendQ]; split
      · rfl
      · simp [isSlotOf]
    obtain ⟨bk, cap, hvs0, hcap, hown, hrow, hroom⟩ : ∃ bk cap, vs.getD 0 undef = .slice (some ⟨bk, 0, none⟩) xs.length cap ∧ xs.length ≤ cap ∧ (E.take Q).ω bk = some (.slot d []) ∧ Row E.Pub E.w bk 0 sz xs ∧ Room E.w bk 0 (cap * sz) := by
      generalize hv0 : vs.getD 0 undef = v0 at h0
      cases h0 with
      | sl0 => exact absurd rfl hne
      | sl _ _ _ _ bk off cap hcap hrow hg _ =>
        obtain ⟨g1, g2⟩ := hg
        obtain ⟨g3, g4⟩ := g2 rfl
        have hroom := exact_room I.rel g3 g4
        obtain ⟨_, _, _, ho, _⟩ := id hroom
        subst ho
        exact ⟨bk, cap, rfl, hcap, by simp [Env.take, g1, hQq], hrow, hroom⟩
    obtain ⟨cur, T, hcur, _, hcs⟩ := hroom
    have hpb : ∀ b, E.Pub b → b ≠ bk := fun b h e => by have := (I1.rel.pub b h).2; rw [e, hown] at this; cases this
    have hvs : vs = #[.slice (some ⟨bk, 0, none⟩) xs.length cap] ++ vs.extract 1 vs.size := by
      apply Array.ext'
      have : 0 < vs.size := by rw [← hl]; simp
      cases hvl : vs.toList with
      | nil => rw [← Array.length_toList, hvl] at this; simp at this
      | cons v l =>
        have h1 : vs.getD 0 undef = v := by rw [Array.getD_eq_getD_getElem?, ← Array.getElem?_toList, hvl]; rfl
        rw [h1] at hvs0
        subst hvs0
        rw [Array.toList_append, Array.toList_extract, List.extract_eq_take_drop, hvl]
        simp
        rw [← Array.length_toList, hvl]; simp
    have hrl : (rest.map AV.argz).length = (vs.extract 1 vs.size).size := by
      simp at hl ⊢; omega
    rw [hvs]
    refine (hP E.w E.β E.Pub bk cap T cur _ hcur hcs hcap hrow (fun b hb => ⟨(I.rel.pub b hb).1, hpb b hb⟩) hrl (fun k c hk => ?_)).mono ?_
    · rw [List.getElem?_map] at hk
      obtain ⟨c0, hc0, rfl⟩ := Option.map_eq_some_iff.1 hk
      have h1 := hv (k + 1) c0 (by simpa using hc0)
      have h2 : (vs.extract 1 vs.size).getD k undef = vs.getD (k + 1) undef := by
        rw [Array.getD_eq_getD_getElem?, Array.getD_eq_getD_getElem?, Array.getElem?_extract]
        split
        · rw [Nat.add_comm]
        · rename_i hge
          rw [Array.getElem?_eq_none (by omega)]
      rw [h2]
      exact Val.argz (fun _ h => h) (fun _ _ _ h => by cases h) h1 (AV.freeL_iff.1 hf.2 c0 (List.mem_of_getElem? hc0)) .no (AV.resOkN_get hok k c0 hc0) .no
    · rintro e w' ⟨cells', rfl, hcap', hcs', hset, hoth, hsz, hos, htp, hout, hrow'⟩
      obtain ⟨_, hR⟩ := I1.rel.put (fun q => q = .slot d []) (fun q sz xs' ha he => by subst he; exact hno [] sz xs' ha) (fun id => by simp) (by simp) w' (E.take Q).ω E.Pub d (.sl .own sz xs')
        (.slice (some ⟨bk, 0, none⟩) xs'.length cap) hdN hno
        (fun b hb hnd => hoth b hb fun e => by subst e; exact hnd _ hown rfl) (fun _ _ h => h) (fun _ h => h) (fun b h => ⟨Nat.lt_of_lt_of_le (I1.rel.pub b h).1 hsz, (I1.rel.pub b h).2⟩) (fun b q h => Nat.lt_of_lt_of_le (I1.rel.own b q h) hsz)
      refine ⟨_, ⟨w', E.β, (E.take Q).ω, E.Pub, (E.take Q).st.put d (.sl .own sz xs'), E.tm.setIfInBounds d (.slice (some ⟨bk, 0, none⟩) xs'.length cap)⟩, rfl, rfl, ⟨hR ?_, ⟨hos.trans I.fr.os, htp.trans I.fr.tape, hout.trans I.fr.output, Nat.le_trans I.fr.size hsz, fun k hk hn => ?_, I1.fr.own, I.fr.pub0, I.fr.pub1, I.fr.beta⟩⟩, rfl, hK⟩
      · exact .sl _ .own sz xs' bk 0 cap hcap' hrow' ⟨hown, cells', T, hset, rfl, hcs'⟩ trivial
      · show w'.heap[k]? = _
        rw [hoth k (Nat.lt_of_lt_of_le hk I.fr.size) fun e => ?_]
        · exact I.fr.block k hk hn
        · have := I1.fr.own bk _ hown
          rcases this with h | h
          · omega
          · exact hn (e ▸ h)
  · exact h.elim
end
end Go.AM
namespace Go.AM

def isRes (C : Cx) : Operand → Bool
  | .tmp t => C.res.contains t
  | _ => false

def aquiet (C : Cx) (o : Oper) (st : St) (d : Nat) (K : St → Prop) : Prop :=
  (qop C.T st o.type o.op).ok ∧ d < C.N ∧ (st.slots d).free = true ∧ K (st.put d (qop C.T st o.type o.op).v)

def astore (C : Cx) (st : St) (t : Nat) (rf : Bool) (x y : AV) (K : St → Prop) : Prop :=
  match x with
  | .ptr id off => astoreBox C st t rf id off y K
  | .pt (.vw q true) ix cells off => astoreElem C st t q ix off cells y K
  | _ => False

def aappendL (C : Cx) (st : St) (d : Nat) : List AV → List Nat → (St → Prop) → Prop
  | [s, x], [t, t2], K => aappend C st d t t2 s x K
  | _, _, _ => False

def rdArgs (C : Cx) (st : St) : List Operand → List Nat → List AV
  | x :: xs, t :: ts => st.rd (szOf C.T t) x :: rdArgs C st xs ts
  | x :: xs, [] => st.rd 0 x :: rdArgs C st xs []
  | [], _ => []

def acallV (C : Cx) (st : St) (d : Nat) (f : AV) (args : List AV) (K : St → Prop) : Prop :=
  match f with
  | .fn f fi ca => acall C st d f (fi ++ args ++ ca) K ∨ acallP C st (some d) f (fi ++ args ++ ca) K ∨ acallH C st d f (fi ++ args ++ ca) K
  | _ => False

def acallN (C : Cx) (st : St) (f : AV) (args : List AV) (K : St → Prop) : Prop :=
  match f with
  | .fn f fi ca => acallP C st none f (fi ++ args ++ ca) K
  | _ => False

def elemSz (T : Nat → Option TI) (t : Nat) : Nat :=
  match T t with
  | some y => match y.kind with
    | .slice e => szOf T e
    | _ => 0
  | none => 0

/-- Is an operation a slice's comparison with nil? -/
def isNilCmp : Op → Option (Bool × Nat × Operand)
  | .binOp .eql t x (.const (.slice none 0 0)) _ => some (true, t, x)
  | .binOp .neq t x (.const (.slice none 0 0)) _ => some (false, t, x)
  | _ => none

/-- A slice is compared with nil: an empty one may be nil or not. -/
def anil (C : Cx) (st : St) (d : Nat) (eq : Bool) (t : Nat) (x : AV) (K : St → Prop) : Prop :=
  match (C.T t).map TI.kind, x with
  | some (.slice _), .sl g _ xs => d < C.N ∧ (st.slots d).free = true ∧ (xs = [] → K (st.put d (.b eq))) ∧ (g ≠ .nl → K (st.put d (.b !eq)))
  | _, _ => False

def aelse (C : Cx) (o : Oper) (st : St) (d : Nat) (K : St → Prop) : Prop :=
  match isNilCmp o.op with
  | some (eq, t, x) => anil C st d eq t (st.rd 0 x) K
  | none => aquiet C o st d K

/-- What an operation does to a state, and what is asked for it. -/
def aop (C : Cx) (o : Oper) (st : St) (K : St → Prop) : Prop :=
  match o.dst, o.op with
  | some d, .assign x => aassign C st d (st.rd (szOf C.T o.type) x) K
  | some d, .alloc t => match C.T t with
    | some y => anewBox C st d (.agg y.zero) K
    | none => False
  | some d, .box t x => anewBox C st d (st.rd (szOf C.T t) x) K
  | none, .store t a x => astore C st t (isRes C a) (st.rd 0 a) (st.rd (szOf C.T t) x) K
  | some d, .buildSlice t len parts => abuildSlice C st d t len (parts.toList.map fun p => (p.1, st.rd (elemSz C.T t) p.2)) K
  | some d, .makeSlice t l c => amakeSlice C st d t (st.rd 0 l) (st.rd 0 c) K
  | some d, .call ⟨.builtin .append, args, ts⟩ => aappendL C st d (rdArgs C st args.toList ts.toList) ts.toList K
  | some d, .call ⟨.value f, args, ts⟩ => acallV C st d (st.rd 0 f) (rdArgs C st args.toList ts.toList) K
  | some d, _ => aelse C o st d K
  | none, .call ⟨.value f, args, ts⟩ => acallN C st (st.rd 0 f) (rdArgs C st args.toList ts.toList) K
  | none, _ => False

theorem exec_buildSlice (ρ : Operand → Value) (o : Oper) {t len : Nat} {parts : Array (Nat × Operand)} (ho : o.op = .buildSlice t len parts) :
    execOp ρ o = (do pure (Next.value (← Instr.buildSlice t len (parts.map fun p => (p.1, ρ p.2))))) := by
  unfold execOp
  simp only [ho]

theorem exec_makeSlice (ρ : Operand → Value) (o : Oper) {t : Nat} {l c : Operand} (ho : o.op = .makeSlice t l c) : execOp ρ o = (do pure (Next.value (← Instr.makeSlice t (ρ l) (ρ c)))) := by
  unfold execOp
  simp only [ho]
theorem exec_alloc (ρ : Operand → Value) (o : Oper) {t : Nat} (ho : o.op = .alloc t) : execOp ρ o = (do pure (Next.value (← Instr.alloc t true (.tuple #[])))) := by
  unfold execOp
  simp only [ho]
theorem exec_box (ρ : Operand → Value) (o : Oper) {t : Nat} {x : Operand} (ho : o.op = .box t x) : execOp ρ o = (do pure (Next.value (← Instr.box t (ρ x)))) := by
  unfold execOp
  simp only [ho]
theorem exec_store (ρ : Operand → Value) (o : Oper) {t : Nat} {x y : Operand} (ho : o.op = .store t x y) : execOp ρ o = (do Instr.storeAt t (ρ x) (ρ y); pure .skip) := by
  unfold execOp
  simp only [ho]
theorem exec_assign (ρ : Operand → Value) (o : Oper) {x : Operand} (ho : o.op = .assign x) : execOp ρ o = pure (.value (ρ x)) := by
  unfold execOp
  simp only [ho]
theorem exec_append (ρ : Operand → Value) (o : Oper) {x y : Operand} {t t2 : Nat} (ho : o.op = .call ⟨.builtin .append, #[x, y], #[t, t2]⟩) : execOp ρ o = (do pure (Next.value (← Builtin.append_ #[t, t2] o.type #[ρ x, ρ y]))) := by
  unfold execOp
  simp only [ho, resolve, pure_bind, invoke, Go.builtin, List.map_toArray, List.map_cons, List.map_nil]
theorem exec_call (ρ : Operand → Value) (o : Oper) {f : Operand} {args : Array Operand} {ts : Array Nat} {g : Nat} {fi ca : Array Value} (ho : o.op = .call ⟨.value f, args, ts⟩) (hf : ρ f = .func (.func g) fi ca) :
    execOp ρ o = callFunc g (fi ++ args.map ρ ++ ca) := by
  unfold execOp
  simp only [ho, resolve, hf, Deferred.ofValue, pure_bind, invoke]

section
variable {C : Cx} {S : Start} {E : Env}

theorem rdArgs_ok (I : Inv C.N S E) {a : Act} (ha : a.tmps = E.tm) : ∀ (xs : List Operand) (ts : List Nat), (rdArgs C E.st xs ts).length = xs.length ∧ AV.freeL (rdArgs C E.st xs ts) = true ∧
    ∀ (k : Nat) c, (rdArgs C E.st xs ts)[k]? = some c → Val E .no c ((xs.map a.eval).getD k undef)
  | [], ts => by simp [rdArgs, AV.freeL]
  | x :: xs, [] => by
    obtain ⟨h1, h2, h3⟩ := rdArgs_ok I ha xs []
    refine ⟨by simp [rdArgs, h1], by simp [rdArgs, AV.freeL, h2, St.rd_free], fun k c hk => ?_⟩
    cases k with
    | zero => simp [rdArgs] at hk; subst hk; exact I.rel.rd ha 0 x .no
    | succ k => simpa using h3 k c (by simpa [rdArgs] using hk)
  | x :: xs, t :: ts => by
    obtain ⟨h1, h2, h3⟩ := rdArgs_ok I ha xs ts
    refine ⟨by simp [rdArgs, h1], by simp [rdArgs, AV.freeL, h2, St.rd_free], fun k c hk => ?_⟩
    cases k with
    | zero => simp [rdArgs] at hk; subst hk; exact I.rel.rd ha _ x .no
    | succ k => simpa using h3 k c (by simpa [rdArgs] using hk)

theorem act_put (a : Act) (d : Nat) (v : Value) : (a.put (some d) v).tmps = a.tmps.setIfInBounds d v ∧ (a.put (some d) v).defers = a.defers := ⟨rfl, rfl⟩

/-- What follows an operation. -/
def Next (C : Cx) (S : Start) (a : Act) (K : St → Prop) (next : Act → World → Prop) : Prop :=
  ∀ E' a', Inv C.N S E' → a'.tmps = E'.tm → a'.defers = a.defers → K E'.st → next a' E'.w

theorem next_put {a : Act} {K : St → Prop} {next : Act → World → Prop} (hnext : Next C S a K next) (ha : a.tmps = E.tm) {o : Oper} {d : Nat} {v : Value} {E' : Env} (hd : o.dst = some d) (hI : Inv C.N S E') (htm : E'.tm = E.tm.setIfInBounds d v)
    (hK : K E'.st) : next (a.put o.dst v) E'.w := by
  refine hnext E' _ hI ?_ ?_ hK
  · rw [hd, (act_put a d v).1, htm, ha]
  · rw [hd]; exact (act_put a d v).2

theorem wp_val {a : Act} {K : St → Prop} {next : Act → World → Prop} {Q : Exit → Act → World → Prop} (hnext : Next C S a K next) (ha : a.tmps = E.tm) {o : Oper} {s : Sem Value} {d : Nat} {v : Value} {E' : Env} (hd : o.dst = some d)
    (he : execOp a.eval o = (do pure (Next.value (← s)))) (hr : s.run C.P E.w = .ok v E'.w) (hI : Inv C.N S E') (htm : E'.tm = E.tm.setIfInBounds d v) (hK : K E'.st) : o.wp C.P a E.w next Q := by
  unfold Oper.wp
  rw [he]
  simp only [Sem.run_bind, hr, Result.andThen_ok, Sem.run_pure, Oper.upon_value]
  exact next_put hnext ha hd hI htm hK

section
variable {a : Act} {K : St → Prop} {next : Act → World → Prop} {Q : Exit → Act → World → Prop} {o : Oper} {d : Nat}

theorem wp_assign (I : Inv C.N S E) (ha : a.tmps = E.tm) (hnext : Next C S a K next) {x : Operand} (hd : o.dst = some d) (ho : o.op = .assign x) (h : aassign C E.st d (E.st.rd (szOf C.T o.type) x) K) : o.wp C.P a E.w next Q := by
  obtain ⟨E', hw, hI, htm, hK⟩ := aassign_sound I (I.rel.rd ha _ x .no) h
  unfold Oper.wp
  rw [exec_assign a.eval o ho]
  simp only [Sem.run_pure, Oper.upon_value, ← hw]
  exact next_put hnext ha hd hI htm hK

theorem wp_alloc (I : Inv C.N S E) (hbase : S.k ≤ C.base) (ha : a.tmps = E.tm) (hnext : Next C S a K next) {t : Nat} {y : TI} (hy : C.T t = some y) (hd : o.dst = some d) (ho : o.op = .alloc t) (h : anewBox C E.st d (.agg y.zero) K) : o.wp C.P a E.w next Q := by
  obtain ⟨oy⟩ := ti_ok hy
  obtain ⟨E', hw, hI, htm, hK⟩ := anewBox_sound I hbase (v := .agg oy.z.cells) t ((zero_side oy).agg) h
  refine wp_val hnext ha hd (s := Instr.alloc t true (.tuple #[])) (exec_alloc a.eval o ho) ?_ hI htm hK
  rw [hw]
  simp only [Instr.alloc, Sem.run_bind, oy.zeroValue, Result.andThen_ok]
  rfl

theorem wp_box (I : Inv C.N S E) (hbase : S.k ≤ C.base) (ha : a.tmps = E.tm) (hnext : Next C S a K next) {t : Nat} {x : Operand} (hd : o.dst = some d) (ho : o.op = .box t x) (h : anewBox C E.st d (E.st.rd (szOf C.T t) x) K) : o.wp C.P a E.w next Q := by
  obtain ⟨E', hw, hI, htm, hK⟩ := anewBox_sound I hbase t (I.rel.rd ha _ x .no) h
  refine wp_val hnext ha hd (s := Instr.box t (a.eval x)) (exec_box a.eval o ho) ?_ hI htm hK
  rw [hw]
  rfl

theorem wp_store (I : Inv C.N S E) (ha : a.tmps = E.tm) (hnext : Next C S a K next) {t : Nat} {x y : Operand} {rf : Bool} {sz : Nat} (hd : o.dst = none) (ho : o.op = .store t x y) (h : astore C E.st t rf (E.st.rd 0 x) (E.st.rd sz y) K) : o.wp C.P a E.w next Q := by
  have key : ∃ E', (Instr.storeAt t (a.eval x) (a.eval y)).run C.P E.w = .ok () E'.w ∧ Inv C.N S E' ∧ E'.tm = E.tm ∧ K E'.st := by
    unfold astore at h
    have hp := I.rel.rd ha 0 x .no
    split at h
    · rename_i id off hx
      rw [hx] at hp
      generalize hv : a.eval x = v at hp ⊢
      cases hp
      exact astoreBox_sound I (I.rel.rd ha _ y .no) h
    · rename_i q ix cells off hx
      rw [hx] at hp
      exact astoreElem_sound I (I.rel.rd ha _ y .no) hp h
    · exact h.elim
  obtain ⟨E', hr, hI, htm, hK⟩ := key
  unfold Oper.wp
  rw [exec_store a.eval o ho]
  simp only [Sem.run_bind, hr, Result.andThen_ok, Sem.run_pure, Oper.upon_skip]
  refine hnext E' _ hI ?_ ?_ hK
  · rw [hd]; show a.tmps = _; rw [htm, ha]
  · rw [hd]; rfl

theorem wp_buildSlice (I : Inv C.N S E) (ha : a.tmps = E.tm) (hnext : Next C S a K next) {t len : Nat} {parts : Array (Nat × Operand)} {sz : Nat} (hd : o.dst = some d) (ho : o.op = .buildSlice t len parts)
    (h : abuildSlice C E.st d t len (parts.toList.map fun p => (p.1, E.st.rd sz p.2)) K) : o.wp C.P a E.w next Q := by
  have hl : (parts.toList.map fun p => (p.1, E.st.rd sz p.2)).length = (parts.map fun p => (p.1, a.eval p.2)).size := by
    rw [List.length_map, Array.size_map, Array.length_toList]
  have hq : ∀ (j : Nat) (p : Nat × AV) (q : Nat × Value), (parts.toList.map fun p => (p.1, E.st.rd sz p.2))[j]? = some p → (parts.map fun p => (p.1, a.eval p.2))[j]? = some q → p.1 = q.1 ∧ Val E .no p.2 q.2 := by
    intro j p q h1 h2
    rw [List.getElem?_map] at h1
    rw [Array.getElem?_map, ← Array.getElem?_toList] at h2
    cases hz : parts.toList[j]? with
    | none => rw [hz] at h1; cases h1
    | some z =>
      rw [hz] at h1 h2
      have e1 := Option.some.inj h1
      have e2 := Option.some.inj h2
      rw [← e1, ← e2]
      exact ⟨rfl, I.rel.rd ha sz z.2 .no⟩
  generalize hps : (parts.toList.map fun p => (p.1, E.st.rd sz p.2)) = ps at hl hq h
  generalize hqs : (parts.map fun p => (p.1, a.eval p.2)) = qs at hl hq
  obtain ⟨v, E', hr, hI, htm, hK⟩ := abuildSlice_sound I hl hq h
  have he := exec_buildSlice a.eval o ho
  rw [hqs] at he
  exact wp_val hnext ha hd he hr hI htm hK

theorem wp_makeSlice (I : Inv C.N S E) (ha : a.tmps = E.tm) (hnext : Next C S a K next) {t : Nat} {l c : Operand} (hd : o.dst = some d) (ho : o.op = .makeSlice t l c) (h : amakeSlice C E.st d t (E.st.rd 0 l) (E.st.rd 0 c) K) : o.wp C.P a E.w next Q := by
  obtain ⟨v, E', hr, hI, htm, hK⟩ := amakeSlice_sound I (I.rel.rd ha 0 l .no) (I.rel.rd ha 0 c .no) h
  exact wp_val hnext ha hd (s := Instr.makeSlice t (a.eval l) (a.eval c)) (exec_makeSlice a.eval o ho) hr hI htm hK

theorem wp_append (I : Inv C.N S E) (ha : a.tmps = E.tm) (hnext : Next C S a K next) {args : Array Operand} {ts : Array Nat} (hd : o.dst = some d) (ho : o.op = .call ⟨.builtin .append, args, ts⟩)
    (h : aappendL C E.st d (rdArgs C E.st args.toList ts.toList) ts.toList K) : o.wp C.P a E.w next Q := by
  obtain ⟨g1, g2, g3⟩ := rdArgs_ok I ha args.toList ts.toList
  have hs : ∃ s x t t2, rdArgs C E.st args.toList ts.toList = [s, x] ∧ ts.toList = [t, t2] := by
    generalize rdArgs C E.st args.toList ts.toList = l1 at h
    generalize ts.toList = l2 at h
    unfold aappendL at h
    split at h
    · exact ⟨_, _, _, _, rfl, rfl⟩
    · exact h.elim
  obtain ⟨s, x, t, t2, hrd, hts⟩ := hs
  rw [hrd, hts] at h
  rw [hrd] at g1 g2 g3
  have hal : ∃ o1 o2, args = #[o1, o2] := by
    have h2 : args.toList.length = 2 := by rw [← g1]; rfl
    match hat : args.toList, h2 with
    | [o1, o2], _ => exact ⟨o1, o2, by apply Array.ext'; simpa using hat⟩
  obtain ⟨o1, o2, rfl⟩ := hal
  have het : ts = #[t, t2] := by apply Array.ext'; simpa using hts
  subst het
  simp only [AV.freeL, Bool.and_eq_true] at g2
  obtain ⟨v, E', hr, hI, htm, hK⟩ := aappend_sound I o.type (g3 0 s rfl) (g3 1 x rfl) g2.2.1 h
  exact wp_val hnext ha hd (s := Builtin.append_ #[t, t2] o.type #[a.eval o1, a.eval o2]) (exec_append a.eval o ho) hr hI htm hK

theorem wp_call (I : Inv C.N S E) (hbase : S.k ≤ C.base) (ha : a.tmps = E.tm) (hnext : Next C S a K next) {f : Operand} {args : Array Operand} {ts : Array Nat} (hd : o.dst = some d) (ho : o.op = .call ⟨.value f, args, ts⟩)
    (h : acallV C E.st d (E.st.rd 0 f) (rdArgs C E.st args.toList ts.toList) K) : o.wp C.P a E.w next Q := by
  obtain ⟨g1, g2, g3⟩ := rdArgs_ok I ha args.toList ts.toList
  unfold acallV at h
  split at h
  · rename_i f' fi ca hfv
    have hf := I.rel.rd ha 0 f .no
    have hff := E.st.rd_free 0 f
    rw [hfv] at hf hff
    generalize hv : a.eval f = vf at hf
    cases hf with
    | fn _ _ _ _ fi' ca' l1 l2 h1 h2 =>
    simp only [AV.free, Bool.and_eq_true] at hff
    have hfree : AV.freeL (fi ++ rdArgs C E.st args.toList ts.toList ++ ca) = true := by
      rw [AV.freeL_iff]
      intro c hc
      simp only [List.mem_append] at hc
      rcases hc with (hc | hc) | hc
      · exact AV.freeL_iff.1 hff.1 c hc
      · exact AV.freeL_iff.1 g2 c hc
      · exact AV.freeL_iff.1 hff.2 c hc
    have hargs : ∀ (k : Nat) c, (fi ++ rdArgs C E.st args.toList ts.toList ++ ca)[k]? = some c → Val E .no c ((fi' ++ args.map a.eval ++ ca').getD k undef) := fun k c hk => by
      rw [Array.getD_eq_getD_getElem?]
      by_cases hk1 : k < fi.length
      · rw [List.append_assoc, List.getElem?_append_left hk1] at hk
        rw [Array.append_assoc, Array.getElem?_append_left (by omega)]
        have := h1 k c hk
        rwa [Array.getD_eq_getD_getElem?] at this
      · rw [List.append_assoc, List.getElem?_append_right (by omega)] at hk
        rw [Array.append_assoc, Array.getElem?_append_right (by omega), ← l1]
        by_cases hk2 : k - fi.length < args.size
        · rw [List.getElem?_append_left (by rw [g1]; simpa using hk2)] at hk
          rw [Array.getElem?_append_left (by simpa using hk2)]
          have := g3 _ c hk
          rw [List.getD_eq_getElem?_getD] at this
          simpa [Array.getElem?_map, ← Array.getElem?_toList] using this
        · rw [List.getElem?_append_right (by rw [g1]; simpa using hk2)] at hk
          rw [Array.getElem?_append_right (by simpa using hk2)]
          rw [g1] at hk
          have := h2 _ c hk
          rw [Array.getD_eq_getD_getElem?] at this
          simpa using this
    have hlen : (fi ++ rdArgs C E.st args.toList ts.toList ++ ca).length = (fi' ++ args.map a.eval ++ ca').size := by simp [l1, l2, g1]
    have main : (∃ fn c, C.P.funcs[f']? = some fn ∧ fn.body = some c ∧ (fn.name == "runtime.NumGoroutine") = false) ∧
        Calls C.P f' (fi' ++ args.map a.eval ++ ca') E.w fun e w' => ∃ v E', e = .returned v ∧ E'.w = w' ∧ Inv C.N S E' ∧ E'.tm = E.tm.setIfInBounds d v ∧ K E'.st := by
      rcases h with h | h | h
      · exact acall_sound I hlen hfree hargs h
      · exact acallP_sound I hbase hlen hfree hargs h
      · exact acallH_sound I hlen hfree hargs h
    obtain ⟨⟨fn, c, hfn, hbody, hname⟩, hcall⟩ := main
    unfold Oper.wp
    rw [exec_call a.eval o ho hv]
    simp only [callFunc, Sem.run_bind, run_program, Result.andThen_ok, hfn, hname, Bool.false_eq_true, if_false, hbody, Option.isNone_some, Sem.run_pure, Oper.upon_enter]
    refine hcall.mono ?_
    rintro e w' ⟨v, E', rfl, rfl, hI, htm, hK⟩
    exact next_put hnext ha hd hI htm hK
  · exact h.elim

theorem wp_callN (I : Inv C.N S E) (hbase : S.k ≤ C.base) (ha : a.tmps = E.tm) (hnext : Next C S a K next) {f : Operand} {args : Array Operand} {ts : Array Nat} (hd : o.dst = none) (ho : o.op = .call ⟨.value f, args, ts⟩)
    (h : acallN C E.st (E.st.rd 0 f) (rdArgs C E.st args.toList ts.toList) K) : o.wp C.P a E.w next Q := by
  obtain ⟨g1, g2, g3⟩ := rdArgs_ok I ha args.toList ts.toList
  unfold acallN at h
  split at h
  · rename_i f' fi ca hfv
    have hf := I.rel.rd ha 0 f .no
    have hff := E.st.rd_free 0 f
    rw [hfv] at hf hff
    generalize hv : a.eval f = vf at hf
    cases hf with
    | fn _ _ _ _ fi' ca' l1 l2 h1 h2 =>
    simp only [AV.free, Bool.and_eq_true] at hff
    have hfree : AV.freeL (fi ++ rdArgs C E.st args.toList ts.toList ++ ca) = true := by
      rw [AV.freeL_iff]
      intro c hc
      simp only [List.mem_append] at hc
      rcases hc with (hc | hc) | hc
      · exact AV.freeL_iff.1 hff.1 c hc
      · exact AV.freeL_iff.1 g2 c hc
      · exact AV.freeL_iff.1 hff.2 c hc
    have hargs : ∀ (k : Nat) c, (fi ++ rdArgs C E.st args.toList ts.toList ++ ca)[k]? = some c → Val E .no c ((fi' ++ args.map a.eval ++ ca').getD k undef) := fun k c hk => by
      rw [Array.getD_eq_getD_getElem?]
      by_cases hk1 : k < fi.length
      · rw [List.append_assoc, List.getElem?_append_left hk1] at hk
        rw [Array.append_assoc, Array.getElem?_append_left (by omega)]
        have := h1 k c hk
        rwa [Array.getD_eq_getD_getElem?] at this
      · rw [List.append_assoc, List.getElem?_append_right (by omega)] at hk
        rw [Array.append_assoc, Array.getElem?_append_right (by omega), ← l1]
        by_cases hk2 : k - fi.length < args.size
        · rw [List.getElem?_append_left (by rw [g1]; simpa using hk2)] at hk
          rw [Array.getElem?_append_left (by simpa using hk2)]
          have := g3 _ c hk
          rw [List.getD_eq_getElem?_getD] at this
          simpa [Array.getElem?_map, ← Array.getElem?_toList] using this
        · rw [List.getElem?_append_right (by rw [g1]; simpa using hk2)] at hk
          rw [Array.getElem?_append_right (by simpa using hk2)]
          rw [g1] at hk
          have := h2 _ c hk
          rw [Array.getD_eq_getD_getElem?] at this
          simpa using this
    have hlen : (fi ++ rdArgs C E.st args.toList ts.toList ++ ca).length = (fi' ++ args.map a.eval ++ ca').size := by simp [l1, l2, g1]
    have main : (∃ fn c, C.P.funcs[f']? = some fn ∧ fn.body = some c ∧ (fn.name == "runtime.NumGoroutine") = false) ∧
        Calls C.P f' (fi' ++ args.map a.eval ++ ca') E.w fun e w' => ∃ v E', e = .returned v ∧ E'.w = w' ∧ Inv C.N S E' ∧ E'.tm = E.tm ∧ K E'.st := acallP_sound I hbase hlen hfree hargs h
    obtain ⟨⟨fn, c, hfn, hbody, hname⟩, hcall⟩ := main
    unfold Oper.wp
    rw [exec_call a.eval o ho hv]
    simp only [callFunc, Sem.run_bind, run_program, Result.andThen_ok, hfn, hname, Bool.false_eq_true, if_false, hbody, Option.isNone_some, Sem.run_pure, Oper.upon_enter]
    refine hcall.mono ?_
    rintro e w' ⟨v, E', rfl, rfl, hI, htm, hK⟩
    refine hnext E' _ hI ?_ ?_ hK
    · rw [hd]; show a.tmps = _; rw [htm, ha]
    · rw [hd]; rfl
  · exact h.elim

theorem wp_quiet (I : Inv C.N S E) (ha : a.tmps = E.tm) (hnext : Next C S a K next) (hd : o.dst = some d) (h : aquiet C o E.st d K) : o.wp C.P a E.w next Q := by
  obtain ⟨hok, hdN, hfree, hK⟩ := h
  obtain ⟨hf, v, hr, hv⟩ := qop_sound (P := C.P) I.rel ha o hok
  have hI := I.putq d _ v hdN (fun π sz xs => free_noOwn π hfree) hf hv
  unfold Oper.wp
  rw [hr]
  exact next_put (E' := { E with st := E.st.put d _, tm := E.tm.setIfInBounds d v }) hnext ha hd hI rfl hK
end

theorem equal_nil {P : Program} {t e : TypeId} (h : P.underlying t = some (.slice e)) (v : Option Addr) (n c : Nat) (w : World) : (Op.equal t (.slice v n c) (.slice none 0 0)).run P w = .ok v.isNone w := by
  show (Op.equalIn (9999 + 1) t _ _).run P w = _
  rw [Op.equalIn]
  cases v <;> simp [run_underlying h]

theorem isNilCmp_some {op : Op} {eq : Bool} {t : Nat} {x : Operand} (h : isNilCmp op = some (eq, t, x)) : ∃ yt, op = .binOp (if eq then .eql else .neq) t x (.const (.slice none 0 0)) yt := by
  unfold isNilCmp at h
  split at h
  · cases h; exact ⟨_, rfl⟩
  · cases h; exact ⟨_, rfl⟩
  · cases h

theorem wp_else (I : Inv C.N S E) {a : Act} {K : St → Prop} {next : Act → World → Prop} {Q : Exit → Act → World → Prop} {o : Oper} {d : Nat} (ha : a.tmps = E.tm) (hnext : Next C S a K next) (hd : o.dst = some d) (h : aelse C o E.st d K) : o.wp C.P a E.w next Q := by
  unfold aelse at h
  split at h
  · rename_i eq t x hop
    obtain ⟨yt, ho⟩ := isNilCmp_some hop
    unfold anil at h
    split at h
    · rename_i e g sz xs hk hx
      obtain ⟨hdN, hfree, h1, h2⟩ := h
      obtain ⟨z, oz, hz⟩ := kind_of_map (P := C.P) hk
      have hdesc := kind_slice (oz.kind.trans hz)
      have hu : C.P.underlying t = some (.slice e) := oz.und.trans (congrArg some hdesc)
      have hval := I.rel.rd ha 0 x .no
      rw [hx] at hval
      have run : ∀ (v : Option Addr) (n c : Nat), a.eval x = .slice v n c → (execOp a.eval o).run C.P E.w = .ok (.value (.bool (if v.isNone then eq else !eq))) E.w := by
        intro v n c hv
        have he : a.eval (.const (.slice none 0 0)) = .slice none 0 0 := rfl
        unfold execOp
        simp only [ho, hv, he]
        simp only [Sem.run_bind, eqGuard_run (a := .slice v n c) (by simp) (by simp), Result.andThen_ok]
        cases eq
        · simp only [Bool.false_eq_true, if_false, binOp, Sem.run_bind, equal_nil hu, Result.andThen_ok, Sem.run_pure]
          cases v <;> rfl
        · simp only [if_true, binOp, Sem.run_bind, equal_nil hu, Result.andThen_ok, Sem.run_pure]
          cases v <;> rfl
      have fin : ∀ b, (execOp a.eval o).run C.P E.w = .ok (.value (.bool b)) E.w → K (E.st.put d (.b b)) → o.wp C.P a E.w next Q := by
        intro b hr hK
        have hI := I.putq d (.b b) (.bool b) hdN (fun π sz xs => free_noOwn π hfree) rfl (.b _ _)
        unfold Oper.wp
        rw [hr]
        exact next_put (E' := { E with st := E.st.put d _, tm := E.tm.setIfInBounds d (.bool b) }) hnext ha hd hI rfl hK
      generalize hv : a.eval x = v at hval
      cases hval with
      | sl1 => exact fin (!eq) (run _ _ _ hv) (h2 (by simp))
      | sl0 => exact fin eq (run _ _ _ hv) (h1 rfl)
      | sl _ _ _ _ bk off cap hc hr hg hat =>
        refine fin (!eq) (run _ _ _ hv) (h2 ?_)
        intro e; subst e; exact hg.elim
    · exact h.elim
  · exact wp_quiet I ha hnext hd h

theorem aop_sound (I : Inv C.N S E) (hbase : S.k ≤ C.base) {a : Act} (ha : a.tmps = E.tm) (o : Oper) {K : St → Prop} (h : aop C o E.st K) {next : Act → World → Prop} {Q : Exit → Act → World → Prop} (hnext : Next C S a K next) :
    o.wp C.P a E.w next Q := by
  unfold aop at h
  cases hd : o.dst with
  | none =>
    rw [hd] at h
    split at h
    all_goals first
      | (exact h.elim)
      | (rename_i heq _; cases heq; done)
      | (rename_i heq; cases heq; done)
      | (rename_i t x y _ ho; exact wp_store I ha hnext hd ho h)
      | (rename_i t x y ho; exact wp_store I ha hnext hd ho h)
      | (rename_i f args ts _ ho; exact wp_callN I hbase ha hnext hd ho h)
      | (rename_i f args ts ho; exact wp_callN I hbase ha hnext hd ho h)
      | (rename_i heq _ _ _ _ _ _ _; cases heq; done)
  | some d =>
    rw [hd] at h
    split at h
    · rename_i d' x he ho; cases he; exact wp_assign I ha hnext hd ho h
    · rename_i d' t he ho; cases he
      split at h
      · rename_i y hy; exact wp_alloc I hbase ha hnext hy hd ho h
      · exact h.elim
    · rename_i d' t x he ho; cases he; exact wp_box I hbase ha hnext hd ho h
    · rename_i he ho; cases he
    · rename_i d' t len parts he ho; cases he; exact wp_buildSlice I ha hnext hd ho h
    · rename_i d' t l c he ho; cases he; exact wp_makeSlice I ha hnext hd ho h
    · rename_i d' args ts he ho; cases he; exact wp_append I ha hnext hd ho h
    · rename_i d' f args ts he ho; cases he; exact wp_call I hbase ha hnext hd ho h
    · rename_i d' he _ _ _ _ _ _ _; obtain rfl := Option.some.inj he; exact wp_else I ha hnext hd h
    · rename_i he ho; cases he
    · exact h.elim
end
end Go.AM
namespace Go.AM

/-! ### Regions -/

def aops (C : Cx) (ops : Array Oper) : List Oper → St → (St → Prop) → Prop
  | [], st, K => K st
  | o :: rest, st, K =>
    match o.guard with
    | none => aop C o st fun st => aops C ops rest st K
    | some (j, b) =>
      match (ops[j]?).bind (·.dst), o.dst with
      | some t, some d => match st.slots t with
        | .b c => if c = b then aop C o st fun st => aops C ops rest st K else d < C.N ∧ (st.slots d).free = true ∧ aops C ops rest (st.put d .any) K
        | _ => False
      | _, _ => False

/-- What code leaves: how it ends, and the state. -/
def APost (C : Cx) (S : Start) (Q : Exit → St → Prop) : Exit → Act → World → Prop :=
  fun e a w => ∃ E, E.w = w ∧ Inv C.N S E ∧ a.tmps = E.tm ∧ a.defers = [] ∧ Q e E.st

def AWp (C : Cx) (c : Code) (st : St) (Q : Exit → St → Prop) : Prop :=
  ∀ (S : Start) (E : Env) (a : Act), S.k ≤ C.base → Inv C.N S E → a.tmps = E.tm → a.defers = [] → E.st = st → c.wp C.P (APost C S Q) a E.w

section
variable {C : Cx} {Q : Exit → St → Prop} {st : St}

theorem aops_sound {S : Start} (hbase : S.k ≤ C.base) {ops : Array Oper} {K : St → Prop} {R : Exit → Act → World → Prop} (hR : ∀ E a, Inv C.N S E → a.tmps = E.tm → a.defers = [] → K E.st → R .normal a E.w) :
    ∀ (k : Nat) (l : List Oper), ops.toList.drop k = l → ∀ (E : Env) (a : Act), Inv C.N S E → a.tmps = E.tm → a.defers = [] → aops C ops l E.st K → wpOps C.P ops R (List.range' k l.length) a E.w := by
  intro k l
  induction l generalizing k with
  | nil => intro hl E a I ha hd h; exact hR E a I ha hd h
  | cons o rest ih =>
    intro hl E a I ha hd h
    have ho : ops[k]? = some o := by
      rw [← Array.getElem?_toList]
      have := congrArg (·[0]?) hl
      simpa [List.getElem?_drop] using this
    have hrest : ops.toList.drop (k + 1) = rest := by
      have := congrArg List.tail hl
      simpa [List.tail_drop] using this
    have hnext : ∀ E', aops C ops rest E'.st K → Inv C.N S E' → ∀ a', a'.tmps = E'.tm → a'.defers = [] → wpOps C.P ops R (List.range' (k + 1) rest.length) a' E'.w :=
      fun E' h I' a' ha' hd' => ih (k + 1) hrest E' a' I' ha' hd' h
    simp only [List.length_cons, List.range'_succ, wpOps, ho]
    have run : aop C o E.st (fun st => aops C ops rest st K) → o.wp C.P a E.w (wpOps C.P ops R (List.range' (k + 1) rest.length)) R := fun h =>
      aop_sound I hbase ha o h fun E' a' I' ha' hd' hK => hnext E' hK I' a' ha' (hd'.trans hd)
    simp only [aops] at h
    cases hg : o.guard with
    | none =>
      rw [hg] at h
      have hw : Region.wanted o (yielded ops a.tmps) = true := by simp [Region.wanted, hg]
      rw [hw]
      exact .inl (run h)
    | some jb =>
      obtain ⟨j, b⟩ := jb
      rw [hg] at h
      simp only at h
      split at h
      · rename_i t d hj hd'
        split at h
        · rename_i c hc
          have hval := I.rel.slots t
          rw [hc] at hval
          have hv : a.tmps.getD t undef = .bool c := by
            rw [ha]
            generalize E.tm.getD t undef = v at hval
            cases hval; rfl
          have hy : yielded ops a.tmps j = some c := by
            obtain ⟨oj, hoj, hdj⟩ := Option.bind_eq_some_iff.1 hj
            have ht : t < a.tmps.size := by
              rcases Nat.lt_or_ge t a.tmps.size with h1 | h1
              · exact h1
              · rw [Array.getD_eq_getD_getElem?, Array.getElem?_eq_none h1] at hv
                simp [undef] at hv
            have hg2 : a.tmps[t]? = some (.bool c) := by
              rw [Array.getElem?_eq_getElem ht]
              rw [Array.getD_eq_getD_getElem?, Array.getElem?_eq_getElem ht] at hv
              exact congrArg some hv
            unfold yielded
            simp [hj, hg2]
          have hw : Region.wanted o (yielded ops a.tmps) = (c == b) := by
            simp only [Region.wanted, hg, hy]
            cases c <;> cases b <;> rfl
          rw [hw]
          by_cases hcb : c = b
          · have : (c == b) = true := by simpa using hcb
            rw [this]
            rw [if_pos hcb] at h
            exact .inl (run h)
          · have : (c == b) = false := by simpa using hcb
            rw [this]
            rw [if_neg hcb] at h
            obtain ⟨h1, h2, h3⟩ := h
            have I' := I.putq d .any undef h1 (fun π sz xs => free_noOwn π h2) rfl (.any _ _)
            refine hnext _ h3 I' _ ?_ ?_
            · rw [hd']; show a.tmps.setIfInBounds d undef = _; rw [ha]
            · rw [hd']; exact hd
        · exact h.elim
      · exact h.elim

theorem AWp.region {id : Nat} {ops : Array Oper} (h : aops C ops ops.toList st (Q .normal)) : AWp C (.region id ops false) st Q := by
  intro S E a hb I ha hd he
  refine wp_region ?_
  have := aops_sound (C := C) hb (ops := ops) (K := Q .normal) (R := APost C S Q) (fun E a I ha hd h => ⟨E, rfl, I, ha, hd, h⟩) 0 ops.toList rfl E a I ha hd (by rw [he]; exact h)
  rw [List.range_eq_range']
  simpa using this

theorem AWp.mono {c : Code} {Q' : Exit → St → Prop} (h : AWp C c st Q) (hq : ∀ e s, Q e s → Q' e s) : AWp C c st Q' := by
  intro S E a hb I ha hd he
  exact wp_mono (h S E a hb I ha hd he) fun e a w ⟨E', h1, h2, h3, h4, h5⟩ => ⟨E', h1, h2, h3, h4, hq e _ h5⟩

theorem AWp.clean (ks kb : List Nat) {c : Code} (h : AWp C c (st.clean ks kb) Q) : AWp C c st Q := by
  intro S E a hb I ha hd he
  obtain ⟨E', h1, h2, h3, h4⟩ := I.clean ks kb
  have := h S E' a hb h3 (by rw [ha, h2]) hd (by rw [h4, he])
  rwa [h1] at this

theorem AWp.post (f : Exit → List Nat × List Nat) {c : Code} (h : AWp C c st fun e s => Q e (s.clean (f e).1 (f e).2)) : AWp C c st Q := by
  intro S E a hb I ha hd he
  refine wp_mono (h S E a hb I ha hd he) ?_
  rintro e a w ⟨E1, rfl, h2, h3, h4, h5⟩
  obtain ⟨E', g1, g2, g3, g4⟩ := h2.clean (f e).1 (f e).2
  exact ⟨E', g1, g3, by rw [h3, g2], h4, by rw [g4]; exact h5⟩

theorem AWp.skip (h : Q .normal st) : AWp C .skip st Q := fun _ E _ _ I ha hd he => wp_skip ⟨E, rfl, I, ha, hd, by rw [he]; exact h⟩
theorem AWp.label {l : Nat} (h : Q .normal st) : AWp C (.label l) st Q := fun _ E _ _ I ha hd he => wp_label ⟨E, rfl, I, ha, hd, by rw [he]; exact h⟩
theorem AWp.exit {id : Nat} (h : Q (.exit id) st) : AWp C (.exit id) st Q := fun _ E _ _ I ha hd he => wp_exit ⟨E, rfl, I, ha, hd, by rw [he]; exact h⟩
theorem AWp.goto {l : Nat} (h : Q (.goto l) st) : AWp C (.goto l) st Q := fun _ E _ _ I ha hd he => wp_goto ⟨E, rfl, I, ha, hd, by rw [he]; exact h⟩
theorem AWp.ret (h : Q .ret st) : AWp C .ret st Q := fun _ E _ _ I ha hd he => wp_ret ⟨E, rfl, I, ha, hd, by rw [he]; exact h⟩

def thenQ (R : St → Prop) (Q : Exit → St → Prop) : Exit → St → Prop
  | .normal, s => R s
  | e, s => Q e s

theorem AWp.seq {x y : Code} (h : AWp C x st (thenQ (fun s => AWp C y s Q) Q)) : AWp C (.seq x y) st Q := by
  intro S E a hb I ha hd he
  refine wp_seq (wp_mono (h S E a hb I ha hd he) ?_)
  rintro e a w ⟨E1, rfl, h2, h3, h4, h5⟩
  cases e with
  | normal => exact h5 S E1 a hb h2 h3 h4 rfl
  | _ => exact ⟨E1, rfl, h2, h3, h4, h5⟩

theorem AWp.cond {c : Operand} {x y : Code} {t : Bool} (hc : st.rd 0 c = .b t) (h1 : t = true → AWp C x st Q) (h2 : t = false → AWp C y st Q) : AWp C (.cond c x y) st Q := by
  intro S E a hb I ha hd he
  have hv := I.rel.rd ha 0 c .no
  rw [he, hc] at hv
  have hv' : a.eval c = .bool t := by
    generalize a.eval c = v at hv
    cases hv; rfl
  exact wp_cond_split hv' (fun h => h1 h S E a hb I ha hd he) (fun h => h2 h S E a hb I ha hd he)

def blockQ (id : Nat) (Q : Exit → St → Prop) : Exit → St → Prop
  | .exit id', s => if id' = id then Q .normal s else Q (.exit id') s
  | e, s => Q e s

theorem AWp.block {id : Nat} {c : Code} (h : AWp C c st (blockQ id Q)) : AWp C (.block id c) st Q := by
  intro S E a hb I ha hd he
  refine wp_block (wp_mono (h S E a hb I ha hd he) ?_)
  rintro e a w ⟨E1, rfl, h2, h3, h4, h5⟩
  cases e with
  | exit id' =>
    simp only [Exit.inBlock]
    simp only [blockQ] at h5
    split
    · rename_i hh; rw [if_pos hh] at h5; exact ⟨E1, rfl, h2, h3, h4, h5⟩
    · rename_i hh; rw [if_neg hh] at h5; exact ⟨E1, rfl, h2, h3, h4, h5⟩
  | _ => exact ⟨E1, rfl, h2, h3, h4, h5⟩

theorem wp_loop_by {P : Program} {R : Exit → Act → World → Prop} {ι : Type} (J : ι → Act → World → Prop) (μ : ι → Nat) {c : Code} (round : ∀ i a w, J i a w → c.wp P (Exit.then (fun a' w' => ∃ i', J i' a' w' ∧ μ i' < μ i) R) a w)
    {i0 : ι} {a : Act} {w : World} (h₀ : J i0 a w) : (Code.loop c).wp P R a w := by
  intro b k cs
  have key : ∀ n i a w, μ i = n → J i a w → ∃ e a' w', R e a' w' ∧ Arrives P (lone (b.at a (.code c :: .inLoop c :: k)) cs w) b k cs e a' w' := by
    intro n
    induction n using Nat.strongRecOn with
    | _ n ih =>
      intro i a w hn hI
      obtain ⟨e, a₁, w₁, hq, harr⟩ := round i a w hI b (.inLoop c :: k) cs
      cases e with
      | normal =>
        obtain ⟨i₁, hI₁, hlt⟩ := hq
        obtain ⟨e₂, a₂, w₂, hq₂, harr₂⟩ := ih (μ i₁) (hn ▸ hlt) i₁ a₁ w₁ rfl hI₁
        exact ⟨e₂, a₂, w₂, hq₂, .of_steps (Steps.trans harr (.one step_inLoop)) harr₂⟩
      | exit id => exact ⟨_, a₁, w₁, hq, .pass (x := .inLoop c) rfl (fun _ _ => .inl (by simp)) harr⟩
      | goto l => exact ⟨_, a₁, w₁, hq, .pass (x := .inLoop c) rfl (fun _ _ => .inl (by simp)) harr⟩
      | ret => exact ⟨_, a₁, w₁, hq, .pass (x := .inLoop c) rfl (fun _ _ => .inl (by simp)) harr⟩
      | panic ch => exact ⟨_, a₁, w₁, hq, .pass (x := .inLoop c) rfl (fun _ _ => .inl (by simp)) harr⟩
      | outgrown => exact ⟨_, a₁, w₁, hq, .pass (x := .inLoop c) rfl (fun _ _ => .inl (by simp)) harr⟩
  obtain ⟨e, a', w', hq, harr⟩ := key _ i0 a w rfl h₀
  exact ⟨e, a', w', hq, .of_steps (.one step_loop) harr⟩

theorem AWp.loop {ι : Type} (F : ι → St) (inv : ι → Prop) (μ : ι → Nat) (ks kb : List Nat) {c : Code} (i0 : ι) (h0 : inv i0) (hst : st.clean ks kb = F i0)
    (round : ∀ i, inv i → AWp C c (F i) (thenQ (fun s => ∃ i', inv i' ∧ μ i' < μ i ∧ s.clean ks kb = F i') Q)) : AWp C (.loop c) st Q := by
  refine AWp.clean ks kb ?_
  intro S E a hb I ha hd he
  refine wp_loop_by (fun i a w => inv i ∧ ∃ E, E.w = w ∧ Inv C.N S E ∧ a.tmps = E.tm ∧ a.defers = [] ∧ E.st = F i) μ ?_ (i0 := i0) ⟨h0, E, rfl, I, ha, hd, he.trans hst⟩
  rintro i a w ⟨hi, E, rfl, I, ha, hd, he⟩
  refine wp_mono (round i hi S E a hb I ha hd he) ?_
  rintro e a w ⟨E1, rfl, h2, h3, h4, h5⟩
  cases e with
  | normal =>
    obtain ⟨i', g1, g2, g3⟩ := h5
    obtain ⟨E2, k1, k2, k3, k4⟩ := h2.clean ks kb
    exact ⟨i', ⟨g1, E2, k1, k3, by rw [h3, k2], h4, by rw [k4, g3]⟩, g2⟩
  | _ => exact ⟨E1, rfl, h2, h3, h4, h5⟩
end
end Go.AM
