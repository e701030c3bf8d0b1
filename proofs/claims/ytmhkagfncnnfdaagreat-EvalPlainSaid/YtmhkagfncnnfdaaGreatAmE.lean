/- Maps of a function's own: made, asked, told. No project text. -/
import Derived.Test.YtmhkagfncnnfdaaGreatAmD
import Derived.WideKeyRuns
import Derived.ChangeArms
import Derived.ChangeOld
import Derived.ChangeShapes
import Derived.Below
import Derived.SizedLaws
import Derived.Carry
import Derived.OpenShut
import Derived.WideShapes
set_option linter.unusedSimpArgs false
set_option linter.unusedVariables false
namespace Go.AM

def litA : List AV → Option Value
  | [.i k n, .i k' n'] => some (.agg #[.int k n, .int k' n'])
  | _ => none
theorem litA_some {cs : List AV} {u : Value} (h : litA cs = some u) : ∃ k n k' n', cs = [.i k n, .i k' n'] ∧ u = .agg #[.int k n, .int k' n'] := by
  unfold litA at h
  split at h
  · rename_i k n k' n'
    exact ⟨k, n, k', n', rfl, (Option.some.inj h).symm⟩
  · cases h
/-- A value that is plain data: which one it is. -/
def AV.lit : AV → Option Value
  | .b x => some (.bool x)
  | .i k n => some (.int k n)
  | .s x => some (.string x)
  | .agg cs => litA cs
  | _ => none
theorem val_lit {E : Env} {p : Place} {x : AV} {v u : Value} (h : Val E p x v) (hl : x.lit = some u) : v = u := by
  cases h <;> simp [AV.lit] at hl
  case b => exact hl
  case i => exact hl
  case s => exact hl
  case agg cs arr hs hc =>
    obtain ⟨k, n, k', n', rfl, rfl⟩ := litA_some hl
    have h2 : arr.size = 2 := by simpa using hs.symm
    have e0 := hc 0 _ rfl
    have e1 := hc 1 _ rfl
    obtain ⟨l⟩ := arr
    match l, h2 with
    | [a, b], _ =>
      have ha : a = .int k n := by
        have e0 : Val E (p.sub 0) (.i k n) a := e0
        cases e0; rfl
      have hb : b = .int k' n' := by
        have e1 : Val E (p.sub 1) (.i k' n') b := e1
        cases e1; rfl
      rw [ha, hb]

theorem yielded_on {N : Nat} {S : Start} {ops : Array Oper} {E : Env} (I : Inv N S E) {a : Act} (ha : a.tmps = E.tm) {j t : Nat} {c : Bool} (hj : (ops[j]?).bind (·.dst) = some t) (hc : E.st.slots t = .b c) : yielded ops a.tmps j = some c := by
  have hval := I.rel.slots t
  rw [hc] at hval
  have hv : a.tmps.getD t undef = .bool c := by
    rw [ha]
    generalize E.tm.getD t undef = v at hval
    cases hval; rfl
  have ht : t < a.tmps.size := by
    rcases Nat.lt_or_ge t a.tmps.size with h1 | h1
    · exact h1
    · rw [Array.getD_eq_getD_getElem?, Array.getElem?_eq_none h1] at hv
      simp [undef] at hv
  have hg2 : a.tmps[t]? = some (.bool c) := by
    rw [Array.getElem?_eq_getElem ht]
    rw [Array.getD_eq_getD_getElem?, Array.getElem?_eq_getElem ht] at hv
    exact congrArg some hv
  unfold yielded
  simp [hj, hg2]

/-- Is an operation asked? -/
def asked (ops : Array Oper) (st : St) (o : Oper) (c : Bool) : Prop := match o.guard with
  | none => c = true
  | some (j, b) => match (ops[j]?).bind (·.dst) with
    | some t => match (st.slots t).gv with
      | some (some x) => c = (x == b)
      | some none => c = false
      | none => False
    | none => False

theorem asked_wanted {N : Nat} {S : Start} {ops : Array Oper} {E : Env} (I : Inv N S E) {a : Act} (ha : a.tmps = E.tm) {o : Oper} {c : Bool} (h : asked ops E.st o c) : Region.wanted o (yielded ops a.tmps) = c := by
  unfold asked at h
  split at h
  · rename_i hg
    subst h
    simp [Region.wanted, hg]
  · rename_i j b hg
    split at h
    · rename_i t hj
      split at h
      · rename_i x hc
        have hy := yielded_on I ha hj (AV.gv_some hc)
        subst h
        simp only [Region.wanted, hg, hy]
        cases x <;> cases b <;> rfl
      · rename_i hc
        have hy := yielded_off I ha hj (AV.gv_none hc)
        subst h
        simp only [Region.wanted, hg, hy]
        rfl
      · exact h.elim
    · exact h.elim

section
variable {M : MapLaw} {C : Cx} {st : St} {ops : Array Oper} {k : Nat} {o : Oper} {l : List Oper} {K : St → MS → Prop}

theorem mact_put {a : Act} {d : Nat} {v : Value} : (a.put (some d) v).tmps = a.tmps.setIfInBounds d v ∧ (a.put (some d) v).defers = a.defers := ⟨rfl, rfl⟩

/-- An operation that was not asked. -/
theorem SOpsM.off {m : MS} {d : Nat} (hops : ops[k]? = some o) (hd : o.dst = some d) (hg : asked ops st o false) (hN : d < C.N) (hf : (st.slots d).free = true) (h : SOpsM M C ops (k + 1) l (st.put d (.tup [])) m K) : SOpsM M C ops k (o :: l) st m K := by
  intro S E a hb I ha hdf he hm R hR
  subst he
  have hw := asked_wanted I ha hg
  have I' := I.putq d (.tup []) undef hN (fun π sz xs => free_noOwn π hf) rfl val_undef
  have J' := I.again.putq d (.tup []) undef hN (fun π sz xs => free_noOwn π hf) rfl val_undef
  simp only [List.length_cons, List.range'_succ, wpOps, hops, hw]
  simp only [Bool.false_eq_true, if_false]
  refine h S _ _ hb I' ?_ ?_ rfl (hm.keep J') R hR
  · rw [hd, mact_put.1, ha]
  · rw [hd, mact_put.2, hdf]

/-- A map is made. -/
theorem SOpsM.make {d : Nat} (hops : ops[k]? = some o) (ho : o.op = .makeMap M.t none) (hd : o.dst = some d) (hg : asked ops st o true) (hN : d < C.N) (hf : (st.slots d).free = true) (h : ∀ b, SOpsM M C ops (k + 1) l (st.put d (.mp b)) (some (.map b [])) K) : SOpsM M C ops k (o :: l) st none K := by
  intro S E a hb I ha hdf he hm R hR
  subst he
  have hw := asked_wanted I ha hg
  have hget : ∀ j, j < E.w.heap.size → (E.w.alloc (.map #[] 0)).heap[j]? = E.w.heap[j]? := fun j hj => by
    show (E.w.heap.push _)[j]? = _
    rw [Array.getElem?_push, if_neg (by omega)]
  have hsz : (E.w.alloc (.map #[] 0)).heap.size = E.w.heap.size + 1 := by
    show (E.w.heap.push _).size = _
    rw [Array.size_push]
  have I1 := I.other (E.w.alloc (.map #[] 0)) ⟨⟨rfl, Nat.le_refl _⟩, rfl, rfl⟩ (by omega) (fun j hj => hget j (by
    rcases hj with h | h
    · exact (I.rel.pub j h).1
    · cases hq : E.ω j with
      | none => exact absurd hq h
      | some q => exact I.rel.own j q hq)) (fun j hj _ => hget j (Nat.lt_of_lt_of_le hj I.fr.size))
  have I2 := I1.putq d (.mp E.w.heap.size) (.map (some E.w.heap.size)) hN (fun π sz xs => free_noOwn π hf) rfl (.mp _ _)
  simp only [List.length_cons, List.range'_succ, wpOps, hops, hw, if_true]
  refine .inl ?_
  unfold Oper.wp
  have hx : (execOp a.eval o).run C.P E.w = .ok (.value (.map (some E.w.heap.size))) (E.w.alloc (.map #[] 0)) := by
    unfold execOp
    rw [ho]
    have hmk : (Instr.makeMap M.t none).run C.P E.w = .ok (.map (some E.w.heap.size)) (E.w.alloc (.map #[] 0)) := rfl
    simp only [Option.map_none, Sem.run_bind, hmk, Result.andThen_ok, Sem.run_pure]
  rw [hx, Oper.upon_value]
  refine h E.w.heap.size S _ _ hb I2 ?_ ?_ rfl ⟨⟨#[], 0, ?_, by simp, by simp⟩, I.fr.size, ?_, fun hp => ?_⟩ R hR
  · rw [hd, mact_put.1, ha]
  · rw [hd, mact_put.2, hdf]
  · show (E.w.heap.push _)[E.w.heap.size]? = _
    rw [Array.getElem?_push, if_pos rfl]
  · show E.ω E.w.heap.size = none
    cases hq : E.ω E.w.heap.size with
    | none => rfl
    | some q => exact absurd (I.rel.own _ q hq) (Nat.lt_irrefl _)
  · exact Nat.lt_irrefl _ (I.rel.pub _ hp).1

/-- A map is asked. -/
theorem SOpsM.look {d b sz : Nat} {ks : List Value} {xo ko : Operand} {kv : Value} {r : Bool} (hM : M.Ok C.P) (hops : ops[k]? = some o) (ho : o.op = .lookup M.t xo ko false) (hd : o.dst = some d) (hg : asked ops st o true) (hx : st.rd 0 xo = .mp b) (hk : (st.rd sz ko).lit = some kv) (hgood : M.good kv)
    (hr : r = true ↔ kv ∈ ks) (hN : d < C.N) (hf : (st.slots d).free = true) (h : SOpsM M C ops (k + 1) l (st.put d (.b r)) (some (.map b ks)) K) : SOpsM M C ops k (o :: l) st (some (.map b ks)) K := by
  intro S E a hb I ha hdf he hm R hR
  subst he
  have hw := asked_wanted I ha hg
  have hxv : a.eval xo = .map (some b) := by
    have hv := I.rel.rd ha 0 xo .no
    rw [hx] at hv
    generalize a.eval xo = v at hv
    cases hv; rfl
  have hkv : a.eval ko = kv := val_lit (I.rel.rd ha sz ko .no) hk
  have I' := I.putq d (.b r) (.bool r) hN (fun π sz xs => free_noOwn π hf) rfl (.b _ _)
  have J' := I.again.putq d (.b r) (.bool r) hN (fun π sz xs => free_noOwn π hf) rfl (.b _ _)
  obtain ⟨⟨es, clock, e1, e2, e3⟩, e4, e5, e6⟩ := id hm
  simp only [Aux.blk] at e1 e4 e5 e6
  simp only [List.length_cons, List.range'_succ, wpOps, hops, hw, if_true]
  refine .inl ?_
  unfold Oper.wp
  have hrun : (Instr.lookup M.t (.map (some b)) kv false).run C.P E.w = .ok (.bool r) E.w := by
    rcases hM.find E.w kv es hgood (fun x hx => (e2 x hx).1) with ⟨j, e, f1, f2, f3⟩ | ⟨f1, f2⟩
    · have hem : e ∈ es.toList := by
        have : es.toList[j]? = some e := by simpa using f1
        exact List.mem_of_getElem? this
      have hrt : r = true := hr.2 ((e3 kv).2 ⟨e, hem, f2⟩)
      simp only [Instr.lookup, Sem.run_bind, run_underlying hM.und, Result.andThen_ok, MapKept.run_getObj_map e1, Sem.run_pure, hM.chk _ E.w kv hgood, f3, (e2 e hem).2, hrt]
      rfl
    · have hrf : r = false := by
        cases r with
        | false => rfl
        | true =>
          obtain ⟨x, hx, hxk⟩ := (e3 kv).1 (hr.1 rfl)
          exact absurd hxk (f1 x hx)
      simp only [Instr.lookup, Sem.run_bind, run_underlying hM.und, Result.andThen_ok, MapKept.run_getObj_map e1, Sem.run_pure, hM.chk _ E.w kv hgood, f2, hM.zero, hrf]
      rfl
  have hx2 : (execOp a.eval o).run C.P E.w = .ok (.value (.bool r)) E.w := by
    unfold execOp
    rw [ho]
    simp only [Sem.run_bind, hxv, hkv, hrun, Result.andThen_ok, Sem.run_pure]
  rw [hx2, Oper.upon_value]
  refine h S _ _ hb I' ?_ ?_ rfl (hm.keep J') R hR
  · rw [hd, mact_put.1, ha]
  · rw [hd, mact_put.2, hdf]

/-- A map is told of a key. -/
theorem SOpsM.tell {b sz : Nat} {ks : List Value} {xo ko vo : Operand} {kv : Value} (hM : M.Ok C.P) (hops : ops[k]? = some o) (ho : o.op = .mapUpdate M.t xo ko vo) (hd : o.dst = none) (hg : asked ops st o true) (hx : st.rd 0 xo = .mp b) (hk : (st.rd sz ko).lit = some kv) (hgood : M.good kv)
    (hv : st.rd 0 vo = .b true) (h : SOpsM M C ops (k + 1) l st (some (.map b (kv :: ks))) K) : SOpsM M C ops k (o :: l) st (some (.map b ks)) K := by
  intro S E a hb I ha hdf he hm R hR
  subst he
  have hw := asked_wanted I ha hg
  have hxv : a.eval xo = .map (some b) := by
    have hv := I.rel.rd ha 0 xo .no
    rw [hx] at hv
    generalize a.eval xo = v at hv
    cases hv; rfl
  have hkv : a.eval ko = kv := val_lit (I.rel.rd ha sz ko .no) hk
  have hvv : a.eval vo = .bool true := by
    have hv2 := I.rel.rd ha 0 vo .no
    rw [hv] at hv2
    generalize a.eval vo = v at hv2
    cases hv2; rfl
  obtain ⟨⟨es, clock, e1, e2, e3⟩, e4, e5, e6⟩ := id hm
  simp only [Aux.blk] at e1 e4 e5 e6
  have hlt : b < E.w.heap.size := (Array.getElem?_eq_some_iff.1 e1).1
  simp only [List.length_cons, List.range'_succ, wpOps, hops, hw, if_true]
  refine .inl ?_
  unfold Oper.wp
  have hrun : ∃ es' clock', (Instr.mapUpdate M.t (.map (some b)) kv (.bool true)).run C.P E.w = .ok () { E.w with heap := E.w.heap.setIfInBounds b (.map es' clock') } ∧
      (∀ x ∈ es'.toList, M.good x.key ∧ x.val = .bool true) ∧ ∀ v, v ∈ kv :: ks ↔ ∃ x ∈ es'.toList, x.key = v := by
    rcases hM.find E.w kv es hgood (fun x hx => (e2 x hx).1) with ⟨j, e, f1, f2, f3⟩ | ⟨f1, f2⟩
    · have hj : j < es.size := (Array.getElem?_eq_some_iff.1 f1).1
      have hem : e ∈ es.toList := by
        have : es.toList[j]? = some e := by simpa using f1
        exact List.mem_of_getElem? this
      refine ⟨es.modify j fun e => { e with key := kv, val := .bool true }, clock, ?_, fun x hx => ?_, fun v => ?_⟩
      · simp only [Instr.mapUpdate, Sem.run_bind, run_underlying hM.und, Result.andThen_ok, MapKept.run_getObj_map e1, hM.chk _ E.w kv hgood, f3, f1, Option.map_some, Option.getD_some, f2, hM.stay E.w kv hgood, MapKept.run_setObj_map _ e1]
      · rw [Array.toList_modify] at hx
        obtain ⟨i, hi, rfl⟩ := List.mem_iff_getElem.1 hx
        rw [List.getElem_modify]
        split
        · exact ⟨hgood, rfl⟩
        · exact e2 _ (List.getElem_mem _)
      · have hkin : kv ∈ ks := (e3 kv).2 ⟨e, hem, f2⟩
        rw [List.mem_cons]
        constructor
        · intro hv
          have hv' : v ∈ ks := by
            rcases hv with rfl | hv
            · exact hkin
            · exact hv
          obtain ⟨x, hx, hxv⟩ := (e3 v).1 hv'
          obtain ⟨i, hi, rfl⟩ := List.mem_iff_getElem.1 hx
          rw [Array.toList_modify]
          refine ⟨(es.toList.modify j fun e => { e with key := kv, val := .bool true })[i]'(by rw [List.length_modify]; exact hi), List.getElem_mem _, ?_⟩
          rw [List.getElem_modify]
          split
          · rename_i hij
            subst hij
            have : es.toList[j] = e := by
              have h1 : es.toList[j]? = some e := by simpa using f1
              rw [List.getElem?_eq_getElem hi] at h1
              exact Option.some.inj h1
            rw [← hxv, this, f2]
          · exact hxv
        · rintro ⟨x, hx, hxv⟩
          rw [Array.toList_modify] at hx
          obtain ⟨i, hi, rfl⟩ := List.mem_iff_getElem.1 hx
          rw [List.getElem_modify] at hxv
          split at hxv
          · exact .inl hxv.symm
          · exact .inr ((e3 v).2 ⟨_, List.getElem_mem _, hxv⟩)
    · refine ⟨es.push { key := kv, val := .bool true, born := clock }, clock + 1, ?_, fun x hx => ?_, fun v => ?_⟩
      · simp only [Instr.mapUpdate, Sem.run_bind, run_underlying hM.und, Result.andThen_ok, MapKept.run_getObj_map e1, hM.chk _ E.w kv hgood, f2, MapKept.run_setObj_map _ e1]
      · rw [Array.toList_push, List.mem_append, List.mem_singleton] at hx
        rcases hx with hx | rfl
        · exact e2 x hx
        · exact ⟨hgood, rfl⟩
      · rw [List.mem_cons, Array.toList_push, e3 v]
        constructor
        · rintro (rfl | ⟨x, hx, hxv⟩)
          · exact ⟨_, List.mem_append_right _ (List.mem_singleton.2 rfl), rfl⟩
          · exact ⟨x, List.mem_append_left _ hx, hxv⟩
        · rintro ⟨x, hx, hxv⟩
          rcases List.mem_append.1 hx with hx | hx
          · exact .inr ⟨x, hx, hxv⟩
          · rw [List.mem_singleton] at hx; subst hx; exact .inl hxv.symm
  obtain ⟨es', clock', g1, g2, g3⟩ := hrun
  have hx2 : (execOp a.eval o).run C.P E.w = .ok .skip { E.w with heap := E.w.heap.setIfInBounds b (.map es' clock') } := by
    unfold execOp
    rw [ho]
    simp only [Sem.run_bind, hxv, hkv, hvv, g1, Result.andThen_ok, Sem.run_pure]
  rw [hx2, Oper.upon_skip]
  have hne : ∀ j, j ≠ b → (E.w.heap.setIfInBounds b (.map es' clock'))[j]? = E.w.heap[j]? := fun j hj => by simp [Ne.symm hj]
  have I1 := I.other { E.w with heap := E.w.heap.setIfInBounds b (.map es' clock') } ⟨⟨rfl, Nat.le_refl _⟩, rfl, rfl⟩ (by simp) (fun j hj => hne j fun he => by
    subst he
    rcases hj with h | h
    · exact e6 h
    · exact h e5) (fun j hj _ => hne j (by omega))
  refine h S _ _ hb I1 ?_ ?_ rfl ⟨⟨es', clock', ?_, g2, g3⟩, e4, e5, e6⟩ R hR
  · rw [hd]; exact ha
  · rw [hd]; exact hdf
  · show (E.w.heap.setIfInBounds b (.map es' clock'))[b]? = _
    simp [hlt]

/-- A reader of a text is made. -/
theorem SOpsM.read {d sz : Nat} {ty : TypeId} {xo : Operand} {s : ByteArray} (hu : C.P.underlying ty = some .string) (hops : ops[k]? = some o) (ho : o.op = .range ty xo) (hd : o.dst = some d) (hg : asked ops st o true) (hx : st.rd sz xo = .s s) (hN : d < C.N) (hf : (st.slots d).free = true)
    (h : ∀ b, SOpsM M C ops (k + 1) l (st.put d (.it b)) (some (.it b s 0)) K) : SOpsM M C ops k (o :: l) st none K := by
  intro S E a hb I ha hdf he hm R hR
  subst he
  have hw := asked_wanted I ha hg
  have hxv : a.eval xo = .string s := by
    have hv := I.rel.rd ha sz xo .no
    rw [hx] at hv
    generalize a.eval xo = v at hv
    cases hv; rfl
  have hget : ∀ j, j < E.w.heap.size → (E.w.alloc (.stringIter s 0)).heap[j]? = E.w.heap[j]? := fun j hj => by
    show (E.w.heap.push _)[j]? = _
    rw [Array.getElem?_push, if_neg (by omega)]
  have hsz : (E.w.alloc (.stringIter s 0)).heap.size = E.w.heap.size + 1 := by
    show (E.w.heap.push _).size = _
    rw [Array.size_push]
  have I1 := I.other (E.w.alloc (.stringIter s 0)) ⟨⟨rfl, Nat.le_refl _⟩, rfl, rfl⟩ (by omega) (fun j hj => hget j (by
    rcases hj with h | h
    · exact (I.rel.pub j h).1
    · cases hq : E.ω j with
      | none => exact absurd hq h
      | some q => exact I.rel.own j q hq)) (fun j hj _ => hget j (Nat.lt_of_lt_of_le hj I.fr.size))
  have I2 := I1.putq d (.it E.w.heap.size) (.pointer (some ⟨E.w.heap.size, 0, none⟩)) hN (fun π sz xs => free_noOwn π hf) rfl (.it _ _)
  simp only [List.length_cons, List.range'_succ, wpOps, hops, hw, if_true]
  refine .inl ?_
  unfold Oper.wp
  have hrun : (Instr.range ty (.string s)).run C.P E.w = .ok (.pointer (some ⟨E.w.heap.size, 0, none⟩)) (E.w.alloc (.stringIter s 0)) := by
    unfold Instr.range
    simp only [Sem.run_bind, run_underlying hu, Result.andThen_ok, Sem.run_pure]
    rfl
  have hx2 : (execOp a.eval o).run C.P E.w = .ok (.value (.pointer (some ⟨E.w.heap.size, 0, none⟩))) (E.w.alloc (.stringIter s 0)) := by
    unfold execOp
    rw [ho]
    simp only [Sem.run_bind, hxv, hrun, Result.andThen_ok, Sem.run_pure]
  rw [hx2, Oper.upon_value]
  refine h E.w.heap.size S _ _ hb I2 ?_ ?_ rfl ⟨?_, I.fr.size, ?_, fun hp => ?_⟩ R hR
  · rw [hd, mact_put.1, ha]
  · rw [hd, mact_put.2, hdf]
  · show (E.w.heap.push _)[E.w.heap.size]? = _
    rw [Array.getElem?_push, if_pos rfl]
  · show E.ω E.w.heap.size = none
    cases hq : E.ω E.w.heap.size with
    | none => rfl
    | some q => exact absurd (I.rel.own _ q hq) (Nat.lt_irrefl _)
  · exact Nat.lt_irrefl _ (I.rel.pub _ hp).1

/-- A reader of a text goes on. -/
theorem SOpsM.next {d b pos : Nat} {xo : Operand} {s : ByteArray} (hops : ops[k]? = some o) (ho : o.op = .next xo true) (hd : o.dst = some d) (hg : asked ops st o true) (hx : st.rd 0 xo = .it b) (hN : d < C.N) (hf : (st.slots d).free = true)
    (h1 : pos < s.size → SOpsM M C ops (k + 1) l (st.put d (.tup [.b true, .i .i64 pos, .i .i32 (Utf8.decode s pos).1])) (some (.it b s (pos + (Utf8.decode s pos).2))) K)
    (h2 : ¬ pos < s.size → SOpsM M C ops (k + 1) l (st.put d (.tup [.b false])) (some (.it b s pos)) K) : SOpsM M C ops k (o :: l) st (some (.it b s pos)) K := by
  intro S E a hb I ha hdf he hm R hR
  subst he
  have hw := asked_wanted I ha hg
  have hxv : a.eval xo = .pointer (some ⟨b, 0, none⟩) := by
    have hv := I.rel.rd ha 0 xo .no
    rw [hx] at hv
    generalize a.eval xo = v at hv
    cases hv; rfl
  obtain ⟨e1, e4, e5, e6⟩ := id hm
  simp only [Aux.blk, Aux.holds] at e1 e4 e5 e6
  have hlt : b < E.w.heap.size := (Array.getElem?_eq_some_iff.1 e1).1
  have hgo : (getObj b).run C.P E.w = .ok (.stringIter s pos) E.w := by simp [getObj, Sem.run, e1]
  simp only [List.length_cons, List.range'_succ, wpOps, hops, hw, if_true]
  refine .inl ?_
  unfold Oper.wp
  by_cases hp : pos < s.size
  · have hso : ∀ o', (setObj b o').run C.P E.w = .ok () { E.w with heap := E.w.heap.setIfInBounds b o' } := fun o' => by simp [setObj, Sem.run, e1]
    have hrun : (Instr.next (.pointer (some ⟨b, 0, none⟩)) true o.type).run C.P E.w = .ok (.tuple #[.bool true, goInt pos, .int .i32 (Utf8.decode s pos).1]) { E.w with heap := E.w.heap.setIfInBounds b (.stringIter s (pos + (Utf8.decode s pos).2)) } := by
      unfold Instr.next
      simp only [Sem.run_bind, hgo, Result.andThen_ok, hp, if_true, hso, Sem.run_pure]
    have hx2 : (execOp a.eval o).run C.P E.w = .ok (.value (.tuple #[.bool true, goInt pos, .int .i32 (Utf8.decode s pos).1])) { E.w with heap := E.w.heap.setIfInBounds b (.stringIter s (pos + (Utf8.decode s pos).2)) } := by
      unfold execOp
      rw [ho]
      simp only [Sem.run_bind, hxv, hrun, Result.andThen_ok, Sem.run_pure]
    rw [hx2, Oper.upon_value]
    have hne : ∀ j, j ≠ b → (E.w.heap.setIfInBounds b (.stringIter s (pos + (Utf8.decode s pos).2)))[j]? = E.w.heap[j]? := fun j hj => by simp [Ne.symm hj]
    have I1 := I.other { E.w with heap := E.w.heap.setIfInBounds b (.stringIter s (pos + (Utf8.decode s pos).2)) } ⟨⟨rfl, Nat.le_refl _⟩, rfl, rfl⟩ (by simp) (fun j hj => hne j fun he => by
      subst he
      rcases hj with h | h
      · exact e6 h
      · exact h e5) (fun j hj _ => hne j (by omega))
    have I2 := I1.putq d (.tup [.b true, .i .i64 pos, .i .i32 (Utf8.decode s pos).1]) (.tuple #[.bool true, goInt pos, .int .i32 (Utf8.decode s pos).1]) hN (fun π sz xs => free_noOwn π hf) rfl (.tup _ _ _ rfl fun i c hc => by
      match i, hc with
      | 0, hc => cases hc; exact .b _ _
      | 1, hc => cases hc; exact .i _ _ _
      | 2, hc => cases hc; exact .i _ _ _
      | i + 3, hc => simp at hc)
    refine h1 hp S _ _ hb I2 ?_ ?_ rfl ⟨?_, e4, e5, e6⟩ R hR
    · rw [hd, mact_put.1, ha]
    · rw [hd, mact_put.2, hdf]
    · show (E.w.heap.setIfInBounds b _)[b]? = _
      simp [hlt]
  · have hrun : (Instr.next (.pointer (some ⟨b, 0, none⟩)) true o.type).run C.P E.w = .ok (.tuple #[.bool false]) E.w := by
      unfold Instr.next
      simp only [Sem.run_bind, hgo, Result.andThen_ok, hp, if_false, Sem.run_pure]
    have hx2 : (execOp a.eval o).run C.P E.w = .ok (.value (.tuple #[.bool false])) E.w := by
      unfold execOp
      rw [ho]
      simp only [Sem.run_bind, hxv, hrun, Result.andThen_ok, Sem.run_pure]
    rw [hx2, Oper.upon_value]
    have hv : ∀ {E : Env} {p}, Val E p (.tup [.b false]) (.tuple #[.bool false]) := fun {E p} => .tup _ _ _ rfl fun i c hc => by
      match i, hc with
      | 0, hc => cases hc; exact .b _ _
      | i + 1, hc => simp at hc
    have I2 := I.putq d (.tup [.b false]) (.tuple #[.bool false]) hN (fun π sz xs => free_noOwn π hf) rfl hv
    have J2 := I.again.putq d (.tup [.b false]) (.tuple #[.bool false]) hN (fun π sz xs => free_noOwn π hf) rfl hv
    refine h2 hp S _ _ hb I2 ?_ ?_ rfl (hm.keep J2) R hR
    · rw [hd, mact_put.1, ha]
    · rw [hd, mact_put.2, hdf]
end

/-- Keys that are texts or numbers. -/
theorem mapLaw_flat {P : Program} {t kt et : TypeId} {d : TypeDesc} (hu : P.underlying t = some (.map kt et)) (hk : P.underlying kt = some d) (hz : ∀ w, (zeroValue et).run P w = .ok (.bool false) w) : MapLaw.Ok ⟨t, kt, et, MapKept.IsKey d⟩ P where
  und := hu
  chk em w k h := MapKept.run_checkKey hk h em 9999
  find w k es h hes := by
    rcases MapKept.findNow_spec h es.toList 0 hes with ⟨h1, h2⟩ | ⟨j, e, h1, h2, h3⟩
    · exact .inr ⟨h2, MapKept.run_findKey hk h1⟩
    · rw [Nat.zero_add] at h1
      exact .inl ⟨j, e, by simpa using h2, h3, MapKept.run_findKey hk h1⟩
  stay w k h := MapKept.run_keyThatStays h
  zero := hz
end Go.AM
namespace Go.AM
open Go.Proofs

def letN (n : Int) : Bool := decide (97 ≤ n) && decide (n ≤ 122)
def digN (n : Int) : Bool := decide (48 ≤ n) && decide (n ≤ 57)
theorem c_lex_letter (n : Int) : Pure Tryz.prog 169 [.i .i32 n] (.b (letN n)) := by
  refine proc_of (cx Tryz.prog 9 [0, 2] [2]) 8 [.tmp 2] Tryz.func169 rfl rfl rfl rfl rfl rfl (Nat.le_refl _) rfl ?_
  refine AWp.go [0] [] fun K hK => ?_
  simp
  first | refine hK _ _ ?_ | refine ⟨by omega, hK _ _ ?_⟩ | refine ⟨by omega, by omega, hK _ _ ?_⟩
  clear hK K
  refine AWp.step [2] [] [(2, .b (letN n))] [] ?_ ?_
  · by_cases q : 97 ≤ n <;> simp [q, letN]
  refine AWp.ret ?_
  simp
theorem c_lex_digit (n : Int) : Pure Tryz.prog 170 [.i .i32 n] (.b (digN n)) := by
  refine proc_of (cx Tryz.prog 9 [0, 2] [2]) 8 [.tmp 2] Tryz.func170 rfl rfl rfl rfl rfl rfl (Nat.le_refl _) rfl ?_
  refine AWp.go [0] [] fun K hK => ?_
  simp
  first | refine hK _ _ ?_ | refine ⟨by omega, hK _ _ ?_⟩ | refine ⟨by omega, by omega, hK _ _ ?_⟩
  clear hK K
  refine AWp.step [2] [] [(2, .b (digN n))] [] ?_ ?_
  · by_cases q : 48 ≤ n <;> simp [q, digN]
  refine AWp.ret ?_
  simp
def byteN (s : ByteArray) (i : Nat) : Int := ((s.data.getD i 0).toNat : Int)
def wordAt (s : ByteArray) (i : Nat) : Bool := letN (byteN s i) || (digN (byteN s i) && decide (0 < i))
def wordB (s : ByteArray) : Bool := (List.range s.size).all (wordAt s) && decide ((1 : Int) ≤ s.size) && decide ((s.size : Int) ≤ 16)

theorem decode_low {s : ByteArray} {i : Nat} (h : i < s.size) (hb : byteN s i < 128) : Utf8.decode s i = ((s.data.getD i 0).toNat, 1) := by
  have e : s.get! i = s.data.getD i 0 := by
    show s.data[i]! = _
    simp [getElem!_def, Array.getD_eq_getD_getElem?]
    rfl
  unfold byteN at hb
  unfold Utf8.decode
  simp only [Nat.add_zero, e]
  rw [if_pos (by omega)]
theorem decode_high {s : ByteArray} {i : Nat} (h : i < s.size) (hb : ¬ byteN s i < 128) : 128 ≤ (Utf8.decode s i).1 := by
  have e : s.get! i = s.data.getD i 0 := by
    show s.data[i]! = _
    simp [getElem!_def, Array.getD_eq_getD_getElem?]
    rfl
  unfold byteN at hb
  unfold Utf8.decode
  simp only [Nat.add_zero, e]
  rw [if_neg (by omega)]
  split
  · split
    · simp only; omega
    · simp [Utf8.runeError]
  · split
    · split
      · rename_i hc
        simp only [Bool.and_eq_true, decide_eq_true_eq] at hc
        simp only; omega
      · simp [Utf8.runeError]
    · split
      · split
        · rename_i hc
          simp only [Bool.and_eq_true, decide_eq_true_eq] at hc
          simp only; omega
        · simp [Utf8.runeError]
      · simp [Utf8.runeError]
theorem wordAt_low {s : ByteArray} {i : Nat} (h : wordAt s i = true) : byteN s i < 128 := by
  simp [wordAt, letN, digN] at h
  omega
/-- What the program's test says of a rune. -/
def wordC (c : Int) (i : Nat) : Bool := letN c || (digN c && decide (0 < i))
theorem wordC_at {s : ByteArray} {i : Nat} (h : i < s.size) : wordC ((Utf8.decode s i).1 : Int) i = wordAt s i := by
  by_cases hb : byteN s i < 128
  · rw [decode_low h hb]; rfl
  · have h1 := decode_high h hb
    have e1 : wordAt s i = false := by
      rw [Bool.eq_false_iff]
      exact fun h2 => hb (wordAt_low h2)
    rw [e1]
    simp only [wordC, letN, digN, Bool.or_eq_false_iff, Bool.and_eq_false_iff, decide_eq_false_iff_not]
    omega

set_option maxRecDepth 8000 in
set_option maxHeartbeats 1000000 in
theorem c_lex_Word (s : ByteArray) : Pure Tryz.prog 146 [.s s] (.b (wordB s)) := by
  refine proc_of (cx Tryz.prog 30 [0, 2, 3, 4, 11, 13, 14, 15, 29] [2]) 29 [.tmp 2] Tryz.func146 rfl rfl rfl rfl rfl rfl (Nat.le_refl _) rfl ?_
  refine AWpM.toAWp (M := (⟨0, 0, 0, fun _ => False⟩ : MapLaw)) ?_
  refine AWpM.go [0] [] fun K hK => ?_
  simp
  first | refine hK _ _ ?_ | refine ⟨by omega, hK _ _ ?_⟩ | refine ⟨by omega, by omega, hK _ _ ?_⟩
  clear hK K
  refine AWpM.seq ?_
  refine AWpM.step [0, 11] [] [(0, .s s), (11, .b (decide (s.toList = []) || decide ((16 : Int) < s.size)))] [] ?_ ?_
  · by_cases q : s.toList = [] <;> simp [q]
  cases hq : decide (s.toList = []) || decide ((16 : Int) < s.size)
  · refine AWpM.cond (t := false) (by simp) (by simp) (fun _ => ?_)
    refine AWpM.skip ?_
    show AWpM _ _ _ _ _ _
    refine AWpM.seq ?_
    have hlen : s.size ≤ 16 ∧ 1 ≤ s.size := by
      simp only [Bool.or_eq_false_iff, decide_eq_false_iff_not] at hq
      refine ⟨by omega, ?_⟩
      rcases Nat.eq_zero_or_pos s.size with h0 | h0
      · exfalso
        apply hq.1
        rw [ByteArray.toList_eq]
        exact List.length_eq_zero_iff.1 (by simpa using h0)
      · exact h0
    refine AWpM.goS [13] [] fun K hK => ?_
    refine SOpsM.cut 1 rfl fun K' hK' => ?_
    simp
    refine hK' _ _ ?_
    clear hK'
    refine SOpsM.read (s := s) (sz := 0) Tryz.underlying9 rfl rfl rfl (by simp [asked]) (by simp) (by simp) (by simp) fun b => ?_
    refine SOpsM.nil ?_
    simp
    refine hK _ _ _ ?_
    clear hK K K'
    refine AWpM.block (AWpM.while (fun i : Nat => [(13, .it b)]) (fun i => []) (fun i => some (.it b s i)) (fun i => i ≤ s.size ∧ ∀ k, k < i → wordAt s k = true) (fun i => s.size - i) [13] [] 0 (by simp) (by simp) ?_)
    rintro i ⟨hi, hall⟩
    skip
    refine AWpM.goS [13, 14, 15] [] fun K hK => ?_
    refine SOpsM.next (s := s) rfl rfl rfl (by simp [asked]) (by simp) (by simp) (by simp) (fun hp => ?_) (fun hp => ?_)
    all_goals (
      refine SOpsM.cut 1 rfl fun K' hK' => ?_
      simp
      refine hK' _ _ ?_
      clear hK'
      refine SOpsM.nil ?_
      simp
      refine hK _ _ _ ?_
      clear hK K K')
    · refine AWpM.seq ?_
      refine AWpM.cond (t := true) (by first | (simp; done) | (simp; omega)) (fun _ => ?_) (by simp)
      refine AWpM.skip ?_
      show AWpM _ _ _ _ _ _
      refine AWpM.block ?_
      refine AWpM.go [3, 4, 13] [] fun K hK => ?_
      simp
      first | refine hK _ _ ?_ | refine ⟨by omega, hK _ _ ?_⟩ | refine ⟨by omega, by omega, hK _ _ ?_⟩
      clear hK K
      refine AWpM.step [13, 29] [] [(13, .it b), (29, .b (!wordAt s i))] [] ?_ ?_
      · have g1 := c_lex_letter ((Utf8.decode s i).1 : Int)
        have g2 := c_lex_digit ((Utf8.decode s i).1 : Int)
        have hC := wordC_at hp
        rw [← hC]
        simp
        refine call_pure g1 (by simp) ?_
        cases q1 : letN ((Utf8.decode s i).1 : Int)
        · by_cases q0 : i = 0
          · simp [q0, wordC, q1]
            subst q0
            simp [q1]
          · simp [q0]
            refine call_pure g2 (by simp) ?_
            simp [wordC, q1]
            omega
        · simp [wordC, q1]
      cases hw : wordAt s i
      · refine AWpM.cond (t := true) (by simp) (fun _ => ?_) (by simp)
        refine AWpM.go [2] [] fun K hK => ?_
        simp
        first | refine hK _ _ ?_ | refine ⟨by omega, hK _ _ ?_⟩ | refine ⟨by omega, by omega, hK _ _ ?_⟩
        clear hK K
        refine AWpM.ret ?_
        simp [wordB, range_not hp hw]
      · refine AWpM.cond (t := false) (by simp) (by simp) (fun _ => ?_)
        refine AWpM.skip ?_
        refine ⟨i + 1, ⟨by omega, fun k hk => ?_⟩, by omega, ?_⟩
        · by_cases hki : k = i
          · subst hki; exact hw
          · exact hall k (by omega)
        · have hd := decode_low hp (wordAt_low hw)
          simp [hd]
    · refine AWpM.seq ?_
      refine AWpM.cond (t := false) (by first | (simp; done) | (simp; omega)) (by simp) (fun _ => ?_)
      refine AWpM.exit ?_
      show AWpM _ _ _ _ _ _
      obtain rfl : i = s.size := by omega
      have hall2 : (List.range s.size).all (wordAt s) = true := range_all fun k hk => hall k (by omega)
      have hw : wordB s = true := by
        simp only [wordB, hall2, Bool.true_and, Bool.and_eq_true, decide_eq_true_eq]
        omega
      refine AWpM.go [2] [] fun K hK => ?_
      simp
      first | refine hK _ _ ?_ | refine ⟨by omega, hK _ _ ?_⟩ | refine ⟨by omega, by omega, hK _ _ ?_⟩
      clear hK K
      refine AWpM.ret ?_
      simp [hw]
  · refine AWpM.cond (t := true) (by simp) (fun _ => ?_) (by simp)
    have hw : wordB s = false := by
      rw [Bool.eq_false_iff]
      intro h
      simp only [wordB, Bool.and_eq_true, decide_eq_true_eq] at h
      simp only [Bool.or_eq_true, decide_eq_true_eq] at hq
      rcases hq with hq | hq
      · have : s.size = 0 := by
          have h2 := congrArg List.length hq
          rw [ByteArray.toList_eq] at h2
          simpa using h2
        omega
      · omega
    refine AWpM.go [2] [] fun K hK => ?_
    simp
    first | refine hK _ _ ?_ | refine ⟨by omega, hK _ _ ?_⟩ | refine ⟨by omega, by omega, hK _ _ ?_⟩
    clear hK K
    refine AWpM.ret ?_
    simp [hw]
end Go.AM
namespace Go.AM
open Go.Proofs


def strsAV (l : List ByteArray) : List (List AV) := l.map fun s => [.s s]
@[simp] theorem strsAV_length (l : List ByteArray) : (strsAV l).length = l.length := by simp [strsAV]
@[simp] theorem strsAV_getElem (l : List ByteArray) (i : Nat) (h : i < (strsAV l).length) : (strsAV l)[i] = [.s (l[i]'(by simpa using h))] := by simp [strsAV]
@[simp] theorem strsAV_append (a b : List ByteArray) : strsAV (a ++ b) = strsAV a ++ strsAV b := by simp [strsAV]
@[simp] theorem strsAV_one (a : ByteArray) : strsAV [a] = [[.s a]] := rfl
@[simp] theorem strsAV_nil : strsAV [] = [] := rfl
structure Cl where
  kind : Int
  strict : Bool
  a : Int
  b : Int
  num : Int
def clC (x : Cl) : List AV := [.i .i64 x.kind, .b x.strict, .i .i64 x.a, .i .i64 x.b, .i .i64 x.num]
def clsAV (l : List Cl) : List (List AV) := l.map clC
@[simp] theorem clsAV_length (l : List Cl) : (clsAV l).length = l.length := by simp [clsAV]
@[simp] theorem clsAV_getElem (l : List Cl) (i : Nat) (h : i < (clsAV l).length) : (clsAV l)[i] = [.i .i64 (l[i]'(by simpa using h)).kind, .b (l[i]'(by simpa using h)).strict, .i .i64 (l[i]'(by simpa using h)).a, .i .i64 (l[i]'(by simpa using h)).b, .i .i64 (l[i]'(by simpa using h)).num] := by simp [clsAV, clC]
structure Dg where
  kind : Int
  thing : Int
  num : Int
def dgC (x : Dg) : List AV := [.i .i64 x.kind, .i .i64 x.thing, .i .i64 x.num]
def dgsAV (l : List Dg) : List (List AV) := l.map dgC
@[simp] theorem dgsAV_length (l : List Dg) : (dgsAV l).length = l.length := by simp [dgsAV]
@[simp] theorem dgsAV_getElem (l : List Dg) (i : Nat) (h : i < (dgsAV l).length) : (dgsAV l)[i] = [.i .i64 (l[i]'(by simpa using h)).kind, .i .i64 (l[i]'(by simpa using h)).thing, .i .i64 (l[i]'(by simpa using h)).num] := by simp [dgsAV, dgC]
structure Opn where
  name : ByteArray
  does : List Dg
def opnC (x : Opn) : List AV := [.s x.name, .sl .fro 3 (dgsAV x.does)]
def opnsAV (l : List Opn) : List (List AV) := l.map opnC
@[simp] theorem opnsAV_length (l : List Opn) : (opnsAV l).length = l.length := by simp [opnsAV]
@[simp] theorem opnsAV_getElem (l : List Opn) (i : Nat) (h : i < (opnsAV l).length) : (opnsAV l)[i] = [.s (l[i]'(by simpa using h)).name, .sl .fro 3 (dgsAV (l[i]'(by simpa using h)).does)] := by simp [opnsAV, opnC]
structure Rul where
  sets : List ByteArray
  counts : List ByteArray
  notes : List ByteArray
  cls : List Cl
  opers : List Opn
def rulC (r : Rul) : List AV := [.sl .fro 1 (strsAV r.sets), .sl .fro 1 (strsAV r.counts), .sl .fro 1 (strsAV r.notes), .sl .fro 5 (clsAV r.cls), .sl .fro 2 (opnsAV r.opers)]
structure Cel where
  key : ByteArray
  num : Int
def celC (x : Cel) : List AV := [.s x.key, .i .i64 x.num]
def celsAV (l : List Cel) : List (List AV) := l.map celC
@[simp] theorem celsAV_length (l : List Cel) : (celsAV l).length = l.length := by simp [celsAV]
@[simp] theorem celsAV_getElem (l : List Cel) (i : Nat) (h : i < (celsAV l).length) : (celsAV l)[i] = [.s (l[i]'(by simpa using h)).key, .i .i64 (l[i]'(by simpa using h)).num] := by simp [celsAV, celC]
def rowsS (l : List (List ByteArray)) : List (List AV) := l.map fun x => [.sl .fro 1 (strsAV x)]
@[simp] theorem rowsS_length (l : List (List ByteArray)) : (rowsS l).length = l.length := by simp [rowsS]
@[simp] theorem rowsS_getElem (l : List (List ByteArray)) (i : Nat) (h : i < (rowsS l).length) : (rowsS l)[i] = [.sl .fro 1 (strsAV (l[i]'(by simpa using h)))] := by simp [rowsS]
def rowsK (l : List (List Cel)) : List (List AV) := l.map fun x => [.sl .fro 2 (celsAV x)]
@[simp] theorem rowsK_length (l : List (List Cel)) : (rowsK l).length = l.length := by simp [rowsK]
@[simp] theorem rowsK_getElem (l : List (List Cel)) (i : Nat) (h : i < (rowsK l).length) : (rowsK l)[i] = [.sl .fro 2 (celsAV (l[i]'(by simpa using h)))] := by simp [rowsK]
structure Sta where
  sets : List (List ByteArray)
  counts : List (List Cel)
def staC (s : Sta) : List AV := [.sl .fro 1 (rowsS s.sets), .sl .fro 1 (rowsK s.counts)]

def idxS (l : List ByteArray) (s : ByteArray) : Int := idxI (fun x => eqK x s) l
theorem eqK_comm (a b : ByteArray) : eqK a b = eqK b a := by
  unfold eqK
  rw [Bool.eq_iff_iff, beq_iff_eq, beq_iff_eq]
  exact eq_comm

set_option maxRecDepth 8000 in
theorem c_Index_Str (l : List ByteArray) (s : ByteArray) (hlen : l.length ≤ 1000000) : Pure Tryz.prog 112 [.sl .fro 1 (strsAV l), .s s] (.i .i64 (idxS l s)) := by
  refine proc_of (cx Tryz.prog 19 [0, 1, 4, 5, 7, 8, 9, 16] [4]) 17 [.tmp 4] Tryz.func112 rfl rfl rfl rfl rfl rfl (Nat.le_refl _) rfl ?_
  refine AWp.go [0, 1] [] fun K hK => ?_
  simp
  first | refine hK _ _ ?_ | refine ⟨by omega, hK _ _ ?_⟩ | refine ⟨by omega, by omega, hK _ _ ?_⟩
  clear hK K
  refine AWp.seq ?_
  refine AWp.go [0, 1, 7, 8] [] fun K hK => ?_
  simp
  first | refine hK _ _ ?_ | refine ⟨by omega, hK _ _ ?_⟩ | refine ⟨by omega, by omega, hK _ _ ?_⟩
  clear hK K
  refine AWp.block (AWp.while (fun i : Nat => [(0, .sl .fro 1 (strsAV l)), (1, .s s), (7, .i .i64 l.length), (8, .i .i64 i)]) (fun i => []) (fun i => i ≤ l.length ∧ ∀ k (hk : k < i) (hk2 : k < l.length), eqK l[k] s = false) (fun i => l.length - i) [0, 1, 7, 8] [] 0 (by simp) (by simp) ?_)
  rintro i ⟨hi, hall⟩
  refine AWp.go [0, 1, 7, 8, 9] [] fun K hK => ?_
  simp
  first | refine hK _ _ ?_ | refine ⟨by omega, hK _ _ ?_⟩ | refine ⟨by omega, by omega, hK _ _ ?_⟩
  clear hK K
  refine AWp.seq ?_
  by_cases h : i < l.length
  · refine AWp.cond (t := true) (by first | (simp [h]; done) | (simp [h]; omega)) (fun _ => ?_) (by simp)
    refine AWp.skip ?_
    show AWp _ _ _ _
    refine AWp.seq ?_
    refine AWp.block ?_
    refine AWp.go [0, 1, 5, 7, 8] [] fun K hK => ?_
    simp
    first | refine hK _ _ ?_ | refine ⟨by omega, hK _ _ ?_⟩ | refine ⟨by omega, by omega, hK _ _ ?_⟩
    clear hK K
    refine AWp.step [0, 1, 5, 7, 8, 16] [] [(0, .sl .fro 1 (strsAV l)), (1, .s s), (5, .i .i64 i), (7, .i .i64 l.length), (8, .i .i64 i), (16, .b (eqK l[i] s))] [] ?_ ?_
    · rw [eqK_comm]
      simp [h, eqK]
    cases hp : eqK l[i] s
    · refine AWp.cond (t := false) (by simp) (by simp) (fun _ => ?_)
      refine AWp.skip ?_
      show AWp _ _ _ _
      refine AWp.goLast [0, 1, 7, 8] [] fun K hK => ?_
      simp
      first | refine hK _ _ ?_ | refine ⟨by omega, hK _ _ ?_⟩ | refine ⟨by omega, by omega, hK _ _ ?_⟩
      clear hK K
      refine ⟨i + 1, ⟨by omega, fun k hk hk2 => ?_⟩, by omega, ?_⟩
      · by_cases hki : k = i
        · subst hki; simpa using hp
        · exact hall k (by omega) hk2
      · simp
        exact wrap64 (by omega) (by omega)
    · refine AWp.cond (t := true) (by simp) (fun _ => ?_) (by simp)
      refine AWp.go [4] [] fun K hK => ?_
      simp
      first | refine hK _ _ ?_ | refine ⟨by omega, hK _ _ ?_⟩ | refine ⟨by omega, by omega, hK _ _ ?_⟩
      clear hK K
      refine AWp.ret ?_
      rw [idxS, idxI_at _ l i h (fun k hk => hall k hk (by omega)) hp]
      simp
  · refine AWp.cond (t := false) (by first | (simp [h]; done) | (simp [h]; omega)) (by simp) (fun _ => ?_)
    refine AWp.exit ?_
    show AWp _ _ _ _
    refine AWp.go [4] [] fun K hK => ?_
    simp
    first | refine hK _ _ ?_ | refine ⟨by omega, hK _ _ ?_⟩ | refine ⟨by omega, by omega, hK _ _ ?_⟩
    clear hK K
    refine AWp.ret ?_
    rw [idxS, idxI_none _ l fun k hk => hall k (by omega) hk]
    simp
def hasS (l : List ByteArray) (s : ByteArray) : Bool := l.any fun x => eqK x s
theorem c_Contains_Str (l : List ByteArray) (s : ByteArray) (hlen : l.length ≤ 1000000) : Pure Tryz.prog 55 [.sl .fro 1 (strsAV l), .s s] (.b (hasS l s)) := by
  refine proc_of (cx Tryz.prog 9 [0, 1, 4] [4]) 7 [.tmp 4] Tryz.func55 rfl rfl rfl rfl rfl rfl (Nat.le_refl _) rfl ?_
  refine AWp.go [0, 1] [] fun K hK => ?_
  simp
  first | refine hK _ _ ?_ | refine ⟨by omega, hK _ _ ?_⟩ | refine ⟨by omega, by omega, hK _ _ ?_⟩
  clear hK K
  refine AWp.go [4] [] fun K hK => ?_
  simp
  refine call_pure (c_Index_Str l s hlen) (by simp) ?_
  simp
  first | refine hK _ _ ?_ | refine ⟨by omega, hK _ _ ?_⟩ | refine ⟨by omega, by omega, hK _ _ ?_⟩
  clear hK K
  refine AWp.ret ?_
  unfold idxS
  rw [idxI_ge]
  simp [hasS]
def keptL : List ByteArray := [⟨#[115,101,116]⟩, ⟨#[99,111,117,110,116]⟩, ⟨#[110,111,116,101]⟩, ⟨#[114,117,108,101]⟩, ⟨#[111,112]⟩, ⟨#[115,116,114,105,99,116]⟩, ⟨#[114,101,102]⟩, ⟨#[98,111,116,104]⟩, ⟨#[108,105,109,105,116]⟩, ⟨#[109,111,115,116]⟩, ⟨#[108,101,97,115,116]⟩, ⟨#[110,101,101,100,115]⟩, ⟨#[97,100,100]⟩, ⟨#[100,114,111,112]⟩, ⟨#[117,112]⟩, ⟨#[100,111,119,110]⟩, ⟨#[112,117,116]⟩]
set_option maxRecDepth 8000 in
theorem c_parse_Kept (s : ByteArray) : Pure Tryz.prog 147 [.s s] (.b (hasS keptL s)) := by
  refine proc_of (cx Tryz.prog 6 [0, 2] [2]) 5 [.tmp 2] Tryz.func147 rfl rfl rfl rfl rfl rfl (Nat.le_refl _) rfl ?_
  refine AWp.go [0] [] fun K hK => ?_
  simp
  first | refine hK _ _ ?_ | refine ⟨by omega, hK _ _ ?_⟩ | refine ⟨by omega, by omega, hK _ _ ?_⟩
  clear hK K
  refine AWp.go [2] [] fun K hK => ?_
  simp
  refine call_pure (c_Contains_Str keptL s (by decide)) (by simp [strsAV, keptL]) ?_
  simp
  first | refine hK _ _ ?_ | refine ⟨by omega, hK _ _ ?_⟩ | refine ⟨by omega, by omega, hK _ _ ?_⟩
  clear hK K
  refine AWp.ret ?_
  simp
def nameB (s : ByteArray) : Bool := wordB s && !hasS keptL s
theorem c_sorts_word (s : ByteArray) : Pure Tryz.prog 124 [.s s] (.b (nameB s)) := by
  refine proc_of (cx Tryz.prog 10 [0, 2] [2]) 9 [.tmp 2] Tryz.func124 rfl rfl rfl rfl rfl rfl (Nat.le_refl _) rfl ?_
  refine AWp.go [0] [] fun K hK => ?_
  simp
  first | refine hK _ _ ?_ | refine ⟨by omega, hK _ _ ?_⟩ | refine ⟨by omega, by omega, hK _ _ ?_⟩
  clear hK K
  refine AWp.step [2] [] [(2, .b (nameB s))] [] ?_ ?_
  · simp
    refine call_pure (c_lex_Word s) (by simp) ?_
    cases q1 : wordB s
    · simp [nameB, q1]
    simp
    refine call_pure (c_parse_Kept s) (by simp) ?_
    simp [nameB, q1]
  refine AWp.ret ?_
  simp
end Go.AM
namespace Go.AM
open Go.Proofs

def Tryz.growStr_ren : Go.Shelf.Ren := ⟨fun | 4 => 148 | n => n, fun | 22 => 22 | 25 => 9 | 3 => 3 | 4 => 4 | 9 => 9 | 20 => 20 | 0 => 0 | 2 => 3 | n => n, fun | n => n⟩
theorem Tryz.growStr : Go.Proofs.Lays8.n4 Tryz.prog Tryz.growStr_ren := {
  mixed := by kernel_rfl,
  f4 := ⟨Tryz.f148.name, by decide, Tryz.func148.trans (congrArg some (by kernel_rfl))⟩,
  t0 := Tryz.underlying0, a0 := Tryz.isAgg0, z0 := Tryz.sizeOf0, v0 := Tryz.zeroValue0,
  t3 := Tryz.underlying3, a3 := Tryz.isAgg3, z3 := Tryz.sizeOf3, v3 := Tryz.zeroValue3,
  t4 := Tryz.underlying4, a4 := Tryz.isAgg4, z4 := Tryz.sizeOf4, v4 := Tryz.zeroValue4,
  t9 := Tryz.underlying9, a9 := Tryz.isAgg9, z9 := Tryz.sizeOf9, v9 := Tryz.zeroValue9,
  t20 := Tryz.underlying20, a20 := Tryz.isAgg20, z20 := Tryz.sizeOf20, v20 := Tryz.zeroValue20,
  t22 := Tryz.underlying22, a22 := Tryz.isAgg22, z22 := Tryz.sizeOf22, v22 := Tryz.zeroValue22 }
theorem c_Grow_Str_0 : Pure Tryz.prog 148 [.sl .nl 1 [], .i .i64 0] (.sl .own 1 []) := by
  refine proc_of (cx Tryz.prog 27 [0, 1, 4, 6, 16] [4]) 25 [.tmp 4] Tryz.func148 rfl rfl rfl rfl rfl rfl (Nat.le_refl _) rfl ?_
  refine AWp.go [0, 1] [] fun K hK => ?_
  simp
  first | refine hK _ _ ?_ | refine ⟨by omega, hK _ _ ?_⟩ | refine ⟨by omega, by omega, hK _ _ ?_⟩
  clear hK K
  refine AWp.seq ?_
  refine AWp.go [0, 1, 6] [] fun K hK => ?_
  simp
  first | refine hK _ _ ?_ | refine ⟨by omega, hK _ _ ?_⟩ | refine ⟨by omega, by omega, hK _ _ ?_⟩
  clear hK K
  refine AWp.cond (t := false) (by first | (simp; done) | (simp; omega)) (by simp) (fun _ => ?_)
  refine AWp.skip ?_
  show AWp _ _ _ _
  refine AWp.seq ?_
  refine AWp.go [0, 1] [] fun K hK => ?_
  simp
  first | refine hK _ _ ?_ | refine ⟨by omega, hK _ _ ?_⟩ | refine ⟨by omega, by omega, hK _ _ ?_⟩
  clear hK K
  refine AWp.go [0, 1, 16] [] fun K hK => ?_
  simp
  first | refine hK _ _ ?_ | refine ⟨by omega, hK _ _ ?_⟩ | refine ⟨by omega, by omega, hK _ _ ?_⟩
  clear hK K
  refine AWp.cond (t := false) (by first | (simp; done) | (simp; omega)) (by simp) (fun _ => ?_)
  refine AWp.skip ?_
  show AWp _ _ _ _
  refine AWp.go [4] [] fun K hK => ?_
  simp
  first | refine hK _ _ ?_ | refine ⟨by omega, hK _ _ ?_⟩ | refine ⟨by omega, by omega, hK _ _ ?_⟩
  clear hK K
  refine AWp.ret ?_
  simp
theorem c_Grow_Str (n : Nat) (hn : n ≤ 1000000) : Pure Tryz.prog 148 [.sl .nl 1 [], .i .i64 n] (.sl .own 1 []) := by
  rcases Nat.eq_zero_or_pos n with rfl | h0
  · exact c_Grow_Str_0
  obtain ⟨y, hy, h1, h2⟩ : ∃ y, ti Tryz.prog 9 = some y ∧ y.size = 1 ∧ y.bytes = 16 := by
    have : Cx.T' Tryz.prog 9 = ti Tryz.prog 9 := rfl
    rw [← this]
    simp
  have := pure_grow Tryz.growStr (y := y) hy (by omega) n h0 (by rw [h2]; omega) (by omega)
  rw [h1] at this
  exact this
set_option maxRecDepth 8000 in
theorem c_Concat_Str (ls : List (List (List AV))) (hn : ls.length ≤ 1000) (hs : ls.flatten.length ≤ 1000000) : Pure Tryz.prog 125 [.sl .fro 1 (rowsL 1 ls)] (.sl .own 1 ls.flatten) := by
  refine proc_of (cx Tryz.prog 36 [0, 2, 3, 5, 6, 8, 9, 10, 11, 12, 20, 25, 26, 27, 28] [2]) 35 [.tmp 2] Tryz.func125 rfl rfl rfl rfl rfl rfl (Nat.le_refl _) rfl ?_
  refine AWp.go [0] [] fun K hK => ?_
  simp
  first | refine hK _ _ ?_ | refine ⟨by omega, hK _ _ ?_⟩ | refine ⟨by omega, by omega, hK _ _ ?_⟩
  clear hK K
  refine AWp.go [0, 3] [] fun K hK => ?_
  simp
  first | refine hK _ _ ?_ | refine ⟨by omega, hK _ _ ?_⟩ | refine ⟨by omega, by omega, hK _ _ ?_⟩
  clear hK K
  refine AWp.seq ?_
  refine AWp.go [0, 3, 9, 10, 11] [] fun K hK => ?_
  simp
  first | refine hK _ _ ?_ | refine ⟨by omega, hK _ _ ?_⟩ | refine ⟨by omega, by omega, hK _ _ ?_⟩
  clear hK K
  refine AWp.block (AWp.while (fun i : Nat => [(0, .sl .fro 1 (rowsL 1 ls)), (3, .i .i64 (lenTo ls i)), (9, .sl .fro 1 (rowsL 1 ls)), (10, .i .i64 ls.length), (11, .i .i64 i)]) (fun i => []) (fun i => i ≤ ls.length) (fun i => ls.length - i) [0, 3, 9, 10, 11] [] 0 (by simp) (by simp [lenTo]) ?_)
  intro i hi
  refine AWp.go [0, 3, 9, 10, 11, 12] [] fun K hK => ?_
  simp
  first | refine hK _ _ ?_ | refine ⟨by omega, hK _ _ ?_⟩ | refine ⟨by omega, by omega, hK _ _ ?_⟩
  clear hK K
  refine AWp.seq ?_
  by_cases h : i < ls.length
  · refine AWp.cond (t := true) (by first | (simp [h]; done) | (simp [h]; omega)) (fun _ => ?_) (by simp)
    have h1 := lenTo_le ls (i + 1)
    have h2 := lenTo_succ ls i h
    have w1 : IntKind.i64.wrap ((i : Int) + 1) = i + 1 := wrap64 (by omega) (by omega)
    have w2 : IntKind.i64.wrap ((lenTo ls i : Int) + ls[i].length) = (lenTo ls (i + 1) : Int) := by rw [wrap64 (by omega) (by omega)]; omega
    refine AWp.skip ?_
    show AWp _ _ _ _
    refine AWp.seq ?_
    refine AWp.block ?_
    refine AWp.go [0, 3, 5, 9, 10, 11] [] fun K hK => ?_
    simp [h]
    first | refine hK _ _ ?_ | refine ⟨by omega, hK _ _ ?_⟩ | refine ⟨by omega, by omega, hK _ _ ?_⟩
    clear hK K
    refine AWp.go [0, 3, 9, 10, 11] [] fun K hK => ?_
    simp [w2, h]
    first | refine hK _ _ ?_ | refine ⟨by omega, hK _ _ ?_⟩ | refine ⟨by omega, by omega, hK _ _ ?_⟩
    clear hK K
    refine AWp.go [0, 3, 9, 10, 11, 20] [] fun K hK => ?_
    simp
    first | refine hK _ _ ?_ | refine ⟨by omega, hK _ _ ?_⟩ | refine ⟨by omega, by omega, hK _ _ ?_⟩
    clear hK K
    refine AWp.cond (t := false) (by first | (simp; done) | (simp; omega)) (by simp) (fun _ => ?_)
    refine AWp.skip ?_
    show AWp _ _ _ _
    refine AWp.goLast [0, 3, 9, 10, 11] [] fun K hK => ?_
    simp
    first | refine hK _ _ ?_ | refine ⟨by omega, hK _ _ ?_⟩ | refine ⟨by omega, by omega, hK _ _ ?_⟩
    clear hK K
    refine ⟨i + 1, by omega, by omega, ?_⟩
    simp [w1]
  · refine AWp.cond (t := false) (by first | (simp [h]; done) | (simp [h]; omega)) (by simp) (fun _ => ?_)
    refine AWp.exit ?_
    show AWp _ _ _ _
    obtain rfl : i = ls.length := by omega
    have hlt : lenTo ls ls.length = ls.flatten.length := by simp [lenTo]
    have hl1 := lenTo_le ls ls.length
    refine AWp.go [0, 6] [] fun K hK => ?_
    simp
    refine call_nil (c_Grow_Str (lenTo ls ls.length) (by omega)) (by simp) (by simp) ?_
    simp
    first | refine hK _ _ ?_ | refine ⟨by omega, hK _ _ ?_⟩ | refine ⟨by omega, by omega, hK _ _ ?_⟩
    clear hK K
    refine AWp.seq ?_
    refine AWp.go [6, 25, 26, 27] [] fun K hK => ?_
    simp
    first | refine hK _ _ ?_ | refine ⟨by omega, hK _ _ ?_⟩ | refine ⟨by omega, by omega, hK _ _ ?_⟩
    clear hK K
    refine AWp.block (AWp.while (fun j : Nat => [(6, .sl .own 1 (ls.take j).flatten), (25, .sl .fro 1 (rowsL 1 ls)), (26, .i .i64 ls.length), (27, .i .i64 j)]) (fun j => []) (fun j => j ≤ ls.length) (fun j => ls.length - j) [6, 25, 26, 27] [] 0 (by simp) (by simp) ?_)
    intro j hj
    refine AWp.go [6, 25, 26, 27, 28] [] fun K hK => ?_
    simp
    first | refine hK _ _ ?_ | refine ⟨by omega, hK _ _ ?_⟩ | refine ⟨by omega, by omega, hK _ _ ?_⟩
    clear hK K
    refine AWp.seq ?_
    by_cases h : j < ls.length
    · refine AWp.cond (t := true) (by first | (simp [h]; done) | (simp [h]; omega)) (fun _ => ?_) (by simp)
      have h1 := lenTo_le ls (j + 1)
      have h2 := lenTo_succ ls j h
      have h3 : (ls.take j).flatten.length = lenTo ls j := rfl
      have w1 : IntKind.i64.wrap ((j : Int) + 1) = j + 1 := wrap64 (by omega) (by omega)
      refine AWp.skip ?_
      show AWp _ _ _ _
      refine AWp.seq ?_
      refine AWp.block ?_
      refine AWp.go [6, 8, 25, 26, 27] [] fun K hK => ?_
      simp [h]
      first | refine hK _ _ ?_ | refine ⟨by omega, hK _ _ ?_⟩ | refine ⟨by omega, by omega, hK _ _ ?_⟩
      clear hK K
      refine AWp.goLast [6, 25, 26, 27] [] fun K hK => ?_
      simp [h]
      refine ⟨?_, hK _ _ ?_⟩
      · rw [List.length_flatten, List.map_take] at h3
        omega
      clear hK K
      show AWp _ _ _ _
      refine AWp.goLast [6, 25, 26, 27] [] fun K hK => ?_
      simp
      first | refine hK _ _ ?_ | refine ⟨by omega, hK _ _ ?_⟩ | refine ⟨by omega, by omega, hK _ _ ?_⟩
      clear hK K
      refine ⟨j + 1, by omega, by omega, ?_⟩
      have e : (ls.take (j + 1)).flatten = (ls.take j).flatten ++ ls[j] := by
        rw [List.take_succ_eq_append_getElem h, List.flatten_append]
        simp only [List.flatten_cons, List.flatten_nil, List.append_nil]
      simp [w1, e]
    · refine AWp.cond (t := false) (by first | (simp [h]; done) | (simp [h]; omega)) (by simp) (fun _ => ?_)
      refine AWp.exit ?_
      show AWp _ _ _ _
      obtain rfl : j = ls.length := by omega
      refine AWp.go [2] [] fun K hK => ?_
      simp
      first | refine hK _ _ ?_ | refine ⟨by omega, hK _ _ ?_⟩ | refine ⟨by omega, by omega, hK _ _ ?_⟩
      clear hK K
      refine AWp.ret ?_
      simp
theorem eqK_eq {a b : ByteArray} : eqK a b = true ↔ a = b := by
  constructor
  · intro h
    have h : a.toList = b.toList := by simpa [eqK] using h
    rw [ByteArray.toList_eq, ByteArray.toList_eq] at h
    exact ByteArray.ext (Array.toList_inj.1 h)
  · rintro rfl; simp [eqK]
def allN (r : Rul) : List ByteArray := r.sets ++ r.counts ++ r.notes ++ r.opers.map Opn.name
/-- Rules that are not great. -/
def Slight (r : Rul) : Prop := r.sets.length ≤ 100 ∧ r.counts.length ≤ 100 ∧ r.notes.length ≤ 100 ∧ r.cls.length ≤ 100 ∧ r.opers.length ≤ 100
set_option maxRecDepth 8000 in
set_option maxHeartbeats 2000000 in
theorem c_sorts_names (r : Rul) (hr : Slight r) : Pure Tryz.prog 79 [.agg (rulC r)] (.sl .own 1 (strsAV (allN r))) := by
  obtain ⟨h1, h2, h3, h4, h5⟩ := hr
  refine proc_of (cx Tryz.prog 28 [1, 2, 3, 5, 15, 16, 17, 18] [2]) 27 [.tmp 2] Tryz.func79 rfl rfl rfl rfl rfl rfl (Nat.le_refl _) rfl ?_
  refine AWp.go [1] [1] fun K hK => ?_
  simp [rulC]
  first | refine hK _ _ ?_ | refine ⟨by omega, hK _ _ ?_⟩ | refine ⟨by omega, by omega, hK _ _ ?_⟩
  clear hK K
  have gC := c_Concat_Str [strsAV r.sets, strsAV r.counts, strsAV r.notes] (by simp) (by simp; omega)
  refine AWp.go [1, 3] [1] fun K hK => ?_
  simp
  refine call_pure gC (by simp [rowsL]) ?_
  simp
  first | refine hK _ _ ?_ | refine ⟨by omega, hK _ _ ?_⟩ | refine ⟨by omega, by omega, hK _ _ ?_⟩
  clear hK K
  have e0 : strsAV r.sets ++ (strsAV r.counts ++ strsAV r.notes) = strsAV (r.sets ++ r.counts ++ r.notes) := by simp
  rw [e0]
  refine AWp.seq ?_
  refine AWp.go [3, 15, 16, 17] [] fun K hK => ?_
  simp
  first | refine hK _ _ ?_ | refine ⟨by omega, hK _ _ ?_⟩ | refine ⟨by omega, by omega, hK _ _ ?_⟩
  clear hK K
  refine AWp.block (AWp.while (fun i : Nat => [(3, .sl .own 1 (strsAV (r.sets ++ r.counts ++ r.notes ++ (r.opers.take i).map Opn.name))), (15, .sl .fro 2 (opnsAV r.opers)), (16, .i .i64 r.opers.length), (17, .i .i64 i)]) (fun i => []) (fun i => i ≤ r.opers.length) (fun i => r.opers.length - i) [3, 15, 16, 17] [] 0 (by simp) (by simp) ?_)
  intro i hi
  refine AWp.go [3, 15, 16, 17, 18] [] fun K hK => ?_
  simp
  first | refine hK _ _ ?_ | refine ⟨by omega, hK _ _ ?_⟩ | refine ⟨by omega, by omega, hK _ _ ?_⟩
  clear hK K
  refine AWp.seq ?_
  by_cases h : i < r.opers.length
  · refine AWp.cond (t := true) (by first | (simp [h]; done) | (simp [h]; omega)) (fun _ => ?_) (by simp)
    refine AWp.skip ?_
    show AWp _ _ _ _
    refine AWp.seq ?_
    refine AWp.block ?_
    refine AWp.go [3, 5, 15, 16, 17] [5] fun K hK => ?_
    simp [h]
    first | refine hK _ _ ?_ | refine ⟨by omega, hK _ _ ?_⟩ | refine ⟨by omega, by omega, hK _ _ ?_⟩
    clear hK K
    refine AWp.goLast [3, 15, 16, 17] [] fun K hK => ?_
    simp
    refine ⟨by omega, hK _ _ ?_⟩
    clear hK K
    show AWp _ _ _ _
    refine AWp.goLast [3, 15, 16, 17] [] fun K hK => ?_
    simp
    first | refine hK _ _ ?_ | refine ⟨by omega, hK _ _ ?_⟩ | refine ⟨by omega, by omega, hK _ _ ?_⟩
    clear hK K
    refine ⟨i + 1, by omega, by omega, ?_⟩
    rw [List.take_succ_eq_append_getElem h, List.map_append]
    simp
    exact wrap64 (by omega) (by omega)
  · refine AWp.cond (t := false) (by first | (simp [h]; done) | (simp [h]; omega)) (by simp) (fun _ => ?_)
    refine AWp.exit ?_
    show AWp _ _ _ _
    obtain rfl : i = r.opers.length := by omega
    refine AWp.go [2] [] fun K hK => ?_
    simp
    first | refine hK _ _ ?_ | refine ⟨by omega, hK _ _ ?_⟩ | refine ⟨by omega, by omega, hK _ _ ?_⟩
    clear hK K
    refine AWp.ret ?_
    simp [allN, List.take_of_length_le]
set_option maxRecDepth 8000 in
set_option maxHeartbeats 8000000 in
theorem c_ref16_All (r : Rul) (hr : Slight r) : Pure Tryz.prog 24 [.agg (rulC r)] (.sl .own 1 (strsAV (allN r))) := by
  obtain ⟨h1, h2, h3, h4, h5⟩ := hr
  refine proc_of (cx Tryz.prog 32 [1, 2, 3, 4, 19] [2]) 31 [.tmp 2] Tryz.func24 rfl rfl rfl rfl rfl rfl (Nat.le_refl _) rfl ?_
  refine AWp.go [1] [1] fun K hK => ?_
  simp [rulC]
  first | refine hK _ _ ?_ | refine ⟨by omega, hK _ _ ?_⟩ | refine ⟨by omega, by omega, hK _ _ ?_⟩
  clear hK K
  refine AWp.stepT (.take 1 (.take 4 (.take 7 (.alt 0 (.alt 2 (.alt 3 (.alt 5 (.alt 6 (.alt 8 (.alt 9 (.take 10 .fin) .stop) .stop) (.alt 8 (.alt 6 (.alt 9 (.take 10 .fin) .stop) .stop) .stop)) (.alt 8 (.alt 5 (.alt 6 (.alt 9 (.take 10 .fin) .stop) .stop) .stop) .stop)) (.alt 5 (.alt 3 (.alt 6 (.alt 8 (.alt 9 (.take 10 .fin) .stop) .stop) (.alt 8 (.alt 6 (.alt 9 (.take 10 .fin) .stop) .stop) .stop)) (.alt 8 (.alt 3 (.alt 6 (.alt 9 (.take 10 .fin) .stop) .stop) .stop) .stop)) (.alt 8 (.alt 3 (.alt 5 (.alt 6 (.alt 9 (.take 10 .fin) .stop) .stop) .stop) (.alt 5 (.alt 3 (.alt 6 (.alt 9 (.take 10 .fin) .stop) .stop) .stop) .stop)) .stop))) (.alt 5 (.alt 2 (.alt 3 (.alt 6 (.alt 8 (.alt 9 (.take 10 .fin) .stop) .stop) (.alt 8 (.alt 6 (.alt 9 (.take 10 .fin) .stop) .stop) .stop)) (.alt 8 (.alt 3 (.alt 6 (.alt 9 (.take 10 .fin) .stop) .stop) .stop) .stop)) (.alt 8 (.alt 2 (.alt 3 (.alt 6 (.alt 9 (.take 10 .fin) .stop) .stop) .stop) .stop) .stop)) (.alt 8 (.alt 2 (.alt 3 (.alt 5 (.alt 6 (.alt 9 (.take 10 .fin) .stop) .stop) .stop) (.alt 5 (.alt 3 (.alt 6 (.alt 9 (.take 10 .fin) .stop) .stop) .stop) .stop)) (.alt 5 (.alt 2 (.alt 3 (.alt 6 (.alt 9 (.take 10 .fin) .stop) .stop) .stop) .stop) .stop)) .stop))) (.alt 2 (.alt 0 (.alt 3 (.alt 5 (.alt 6 (.alt 8 (.alt 9 (.take 10 .fin) .stop) .stop) (.alt 8 (.alt 6 (.alt 9 (.take 10 .fin) .stop) .stop) .stop)) (.alt 8 (.alt 5 (.alt 6 (.alt 9 (.take 10 .fin) .stop) .stop) .stop) .stop)) (.alt 5 (.alt 3 (.alt 6 (.alt 8 (.alt 9 (.take 10 .fin) .stop) .stop) (.alt 8 (.alt 6 (.alt 9 (.take 10 .fin) .stop) .stop) .stop)) (.alt 8 (.alt 3 (.alt 6 (.alt 9 (.take 10 .fin) .stop) .stop) .stop) .stop)) (.alt 8 (.alt 3 (.alt 5 (.alt 6 (.alt 9 (.take 10 .fin) .stop) .stop) .stop) (.alt 5 (.alt 3 (.alt 6 (.alt 9 (.take 10 .fin) .stop) .stop) .stop) .stop)) .stop))) (.alt 5 (.alt 0 (.alt 3 (.alt 6 (.alt 8 (.alt 9 (.take 10 .fin) .stop) .stop) (.alt 8 (.alt 6 (.alt 9 (.take 10 .fin) .stop) .stop) .stop)) (.alt 8 (.alt 3 (.alt 6 (.alt 9 (.take 10 .fin) .stop) .stop) .stop) .stop)) (.alt 8 (.alt 0 (.alt 3 (.alt 6 (.alt 9 (.take 10 .fin) .stop) .stop) .stop) .stop) .stop)) (.alt 8 (.alt 0 (.alt 3 (.alt 5 (.alt 6 (.alt 9 (.take 10 .fin) .stop) .stop) .stop) (.alt 5 (.alt 3 (.alt 6 (.alt 9 (.take 10 .fin) .stop) .stop) .stop) .stop)) (.alt 5 (.alt 0 (.alt 3 (.alt 6 (.alt 9 (.take 10 .fin) .stop) .stop) .stop) .stop) .stop)) .stop))) (.alt 5 (.alt 0 (.alt 2 (.alt 3 (.alt 6 (.alt 8 (.alt 9 (.take 10 .fin) .stop) .stop) (.alt 8 (.alt 6 (.alt 9 (.take 10 .fin) .stop) .stop) .stop)) (.alt 8 (.alt 3 (.alt 6 (.alt 9 (.take 10 .fin) .stop) .stop) .stop) .stop)) (.alt 8 (.alt 2 (.alt 3 (.alt 6 (.alt 9 (.take 10 .fin) .stop) .stop) .stop) .stop) .stop)) (.alt 2 (.alt 0 (.alt 3 (.alt 6 (.alt 8 (.alt 9 (.take 10 .fin) .stop) .stop) (.alt 8 (.alt 6 (.alt 9 (.take 10 .fin) .stop) .stop) .stop)) (.alt 8 (.alt 3 (.alt 6 (.alt 9 (.take 10 .fin) .stop) .stop) .stop) .stop)) (.alt 8 (.alt 0 (.alt 3 (.alt 6 (.alt 9 (.take 10 .fin) .stop) .stop) .stop) .stop) .stop)) (.alt 8 (.alt 0 (.alt 2 (.alt 3 (.alt 6 (.alt 9 (.take 10 .fin) .stop) .stop) .stop) .stop) (.alt 2 (.alt 0 (.alt 3 (.alt 6 (.alt 9 (.take 10 .fin) .stop) .stop) .stop) .stop) .stop)) .stop))) (.alt 8 (.alt 0 (.alt 2 (.alt 3 (.alt 5 (.alt 6 (.alt 9 (.take 10 .fin) .stop) .stop) .stop) (.alt 5 (.alt 3 (.alt 6 (.alt 9 (.take 10 .fin) .stop) .stop) .stop) .stop)) (.alt 5 (.alt 2 (.alt 3 (.alt 6 (.alt 9 (.take 10 .fin) .stop) .stop) .stop) .stop) .stop)) (.alt 2 (.alt 0 (.alt 3 (.alt 5 (.alt 6 (.alt 9 (.take 10 .fin) .stop) .stop) .stop) (.alt 5 (.alt 3 (.alt 6 (.alt 9 (.take 10 .fin) .stop) .stop) .stop) .stop)) (.alt 5 (.alt 0 (.alt 3 (.alt 6 (.alt 9 (.take 10 .fin) .stop) .stop) .stop) .stop) .stop)) (.alt 5 (.alt 0 (.alt 2 (.alt 3 (.alt 6 (.alt 9 (.take 10 .fin) .stop) .stop) .stop) .stop) (.alt 2 (.alt 0 (.alt 3 (.alt 6 (.alt 9 (.take 10 .fin) .stop) .stop) .stop) .stop) .stop)) .stop))) .stop))))))) [1, 3] [1] [(1, .ptr 1 0), (3, .sl .own 1 (strsAV (r.sets ++ r.counts ++ r.notes)))] [(1, [.sl .fro 1 (strsAV r.sets), .sl .fro 1 (strsAV r.counts), .sl .fro 1 (strsAV r.notes), .sl .fro 5 (clsAV r.cls), .sl .fro 2 (opnsAV r.opers)])] mix (by kernel_rfl) ?_ ?_
  · repeat' (first | (refine atree.tk fun K1 h1 => ?_; (simp; (first | refine ⟨by omega, ?_⟩ | skip); (first | refine h1 _ _ ?_ | refine ⟨by omega, h1 _ _ ?_⟩ | refine ⟨by omega, by omega, h1 _ _ ?_⟩); clear h1 K1)) | (refine atree.a1 fun K1 h1 => ?_; (simp; (first | refine ⟨by omega, ?_⟩ | skip); (first | refine h1 _ _ ?_ | refine ⟨by omega, h1 _ _ ?_⟩ | refine ⟨by omega, by omega, h1 _ _ ?_⟩); clear h1 K1)) | (refine atree.al (fun K1 h1 => ?_) ?_ <;> try (simp; (first | refine ⟨by omega, ?_⟩ | skip); (first | refine h1 _ _ ?_ | refine ⟨by omega, h1 _ _ ?_⟩ | refine ⟨by omega, by omega, h1 _ _ ?_⟩); clear h1 K1)))
    all_goals (simp)
  refine AWp.seq ?_
  refine AWp.go [1, 3, 4] [1] fun K hK => ?_
  simp
  first | refine hK _ _ ?_ | refine ⟨by omega, hK _ _ ?_⟩ | refine ⟨by omega, by omega, hK _ _ ?_⟩
  clear hK K
  refine AWp.block (AWp.while (fun i : Nat => [(1, .ptr 1 0), (3, .sl .own 1 (strsAV (r.sets ++ r.counts ++ r.notes ++ (r.opers.take i).map Opn.name))), (4, .i .i64 i)]) (fun i => [(1, [.sl .fro 1 (strsAV r.sets), .sl .fro 1 (strsAV r.counts), .sl .fro 1 (strsAV r.notes), .sl .fro 5 (clsAV r.cls), .sl .fro 2 (opnsAV r.opers)])]) (fun i => i ≤ r.opers.length) (fun i => r.opers.length - i) [1, 3, 4] [1] 0 (by simp) (by simp) ?_)
  intro i hi
  refine AWp.seq ?_
  refine AWp.go [1, 3, 4, 19] [1] fun K hK => ?_
  simp
  first | refine hK _ _ ?_ | refine ⟨by omega, hK _ _ ?_⟩ | refine ⟨by omega, by omega, hK _ _ ?_⟩
  clear hK K
  by_cases h : i < r.opers.length
  · refine AWp.cond (t := true) (by first | (simp [h]; done) | (simp [h]; omega)) (fun _ => ?_) (by simp)
    refine AWp.skip ?_
    show AWp _ _ _ _
    refine AWp.seq ?_
    refine AWp.block ?_
    refine AWp.goLast [1, 3, 4] [1] fun K hK => ?_
    simp [h]
    refine ⟨by omega, hK _ _ ?_⟩
    clear hK K
    show AWp _ _ _ _
    refine AWp.goLast [1, 3, 4] [1] fun K hK => ?_
    simp
    first | refine hK _ _ ?_ | refine ⟨by omega, hK _ _ ?_⟩ | refine ⟨by omega, by omega, hK _ _ ?_⟩
    clear hK K
    refine ⟨i + 1, by omega, by omega, ?_⟩
    rw [List.take_succ_eq_append_getElem h, List.map_append]
    simp
    exact wrap64 (by omega) (by omega)
  · refine AWp.cond (t := false) (by first | (simp [h]; done) | (simp [h]; omega)) (by simp) (fun _ => ?_)
    refine AWp.exit ?_
    show AWp _ _ _ _
    obtain rfl : i = r.opers.length := by omega
    refine AWp.go [2] [] fun K hK => ?_
    simp
    first | refine hK _ _ ?_ | refine ⟨by omega, hK _ _ ?_⟩ | refine ⟨by omega, by omega, hK _ _ ?_⟩
    clear hK K
    refine AWp.ret ?_
    simp [allN, List.take_of_length_le]
def namedAt (l : List ByteArray) (i : Nat) : Bool := match l[i]? with
  | some s => nameB s && !hasS (l.take i) s
  | none => false
def namedB (l : List ByteArray) : Bool := (List.range l.length).all (namedAt l)
theorem namedAt_at {l : List ByteArray} {i : Nat} (h : i < l.length) : namedAt l i = (nameB l[i] && !hasS (l.take i) l[i]) := by simp [namedAt, h]
def keyS (l : List ByteArray) : List Value := (l.map Value.string).reverse
theorem keyS_snoc (l : List ByteArray) (s : ByteArray) : keyS (l ++ [s]) = .string s :: keyS l := by simp [keyS]
theorem mem_keyS (l : List ByteArray) (s : ByteArray) : hasS l s = true ↔ Value.string s ∈ keyS l := by
  simp only [hasS, List.any_eq_true, eqK_eq, keyS, List.mem_reverse, List.mem_map]
  constructor
  · rintro ⟨x, hx, rfl⟩; exact ⟨x, hx, rfl⟩
  · rintro ⟨x, hx, h⟩; exact ⟨x, hx, Value.string.inj h⟩
def lawS : MapLaw := ⟨127, 9, 4, MapKept.IsKey .string⟩
theorem lawS_ok : lawS.Ok Tryz.prog := mapLaw_flat Tryz.underlying127 Tryz.underlying9 Tryz.zeroValue4
set_option maxRecDepth 8000 in
set_option maxHeartbeats 2000000 in
theorem c_sorts_named (l : List ByteArray) (hlen : l.length ≤ 1000) : Pure Tryz.prog 78 [.sl .fro 1 (strsAV l)] (.b (namedB l)) := by
  refine proc_of (cx Tryz.prog 24 [0, 2, 3, 5, 7, 8, 9, 10, 20] [2]) 23 [.tmp 2] Tryz.func78 rfl rfl rfl rfl rfl rfl (Nat.le_refl _) rfl ?_
  refine AWpM.toAWp (M := lawS) ?_
  refine AWpM.go [0] [] fun K hK => ?_
  simp
  first | refine hK _ _ ?_ | refine ⟨by omega, hK _ _ ?_⟩ | refine ⟨by omega, by omega, hK _ _ ?_⟩
  clear hK K
  refine AWpM.goS [0, 3] [] fun K hK => ?_
  refine SOpsM.make (M := lawS) rfl rfl rfl (by simp [asked]) (by simp) (by simp) fun b => ?_
  refine SOpsM.cut 1 rfl fun K' hK' => ?_
  simp
  refine hK' _ _ ?_
  clear hK'
  refine SOpsM.nil ?_
  simp
  refine hK _ _ _ ?_
  clear hK K K'
  refine AWpM.seq ?_
  refine AWpM.go [3, 7, 8, 9] [] fun K hK => ?_
  simp
  first | refine hK _ _ ?_ | refine ⟨by omega, hK _ _ ?_⟩ | refine ⟨by omega, by omega, hK _ _ ?_⟩
  clear hK K
  refine AWpM.block (AWpM.while (fun i : Nat => [(3, .mp b), (7, .sl .fro 1 (strsAV l)), (8, .i .i64 l.length), (9, .i .i64 i)]) (fun i => []) (fun i => some (.map b (keyS (l.take i)))) (fun i => i ≤ l.length ∧ ∀ k, k < i → namedAt l k = true) (fun i => l.length - i) [3, 7, 8, 9] [] 0 (by simp) (by simp [keyS]) ?_)
  rintro i ⟨hi, hall⟩
  refine AWpM.go [3, 7, 8, 9, 10] [] fun K hK => ?_
  simp
  first | refine hK _ _ ?_ | refine ⟨by omega, hK _ _ ?_⟩ | refine ⟨by omega, by omega, hK _ _ ?_⟩
  clear hK K
  refine AWpM.seq ?_
  by_cases h : i < l.length
  · refine AWpM.cond (t := true) (by first | (simp [h]; done) | (simp [h]; omega)) (fun _ => ?_) (by simp)
    refine AWpM.skip ?_
    show AWpM _ _ _ _ _ _
    refine AWpM.seq ?_
    refine AWpM.block ?_
    refine AWpM.go [3, 5, 7, 8, 9] [] fun K hK => ?_
    simp [h]
    first | refine hK _ _ ?_ | refine ⟨by omega, hK _ _ ?_⟩ | refine ⟨by omega, by omega, hK _ _ ?_⟩
    clear hK K
    refine AWpM.seq ?_
    refine AWpM.goS [3, 5, 7, 8, 9, 20] [] fun K hK => ?_
    refine SOpsM.cut 6 rfl fun K' hK' => ?_
    simp
    refine call_pure (c_sorts_word l[i]) (by simp) ?_
    have hn := namedAt_at h
    cases q1 : nameB l[i]
    skip
    · rw [q1] at hn
      simp
      refine hK' _ _ ?_
      clear hK'
      refine SOpsM.off rfl rfl (by simp [asked]) (by simp) (by simp) ?_
      refine SOpsM.cut 1 rfl fun K2 hK2 => ?_
      simp
      refine hK2 _ _ ?_
      clear hK2
      refine SOpsM.nil ?_
      simp
      refine hK _ _ _ ?_
      clear hK K K' K2
      refine AWpM.cond (t := true) (by first | (simp; done) | (simp; omega)) (fun _ => ?_) (by simp)
      refine AWpM.go [2] [] fun K hK => ?_
      simp
      first | refine hK _ _ ?_ | refine ⟨by omega, hK _ _ ?_⟩ | refine ⟨by omega, by omega, hK _ _ ?_⟩
      clear hK K
      refine AWpM.ret ?_
      have hn2 : namedAt l i = false := by first | exact hn | (rw [hn, hp]; rfl)
      simp [namedB, range_not h hn2]
    · rw [q1] at hn
      simp
      refine hK' _ _ ?_
      clear hK'
      refine SOpsM.look (sz := 0) (kv := .string l[i]) (r := hasS (l.take i) l[i]) lawS_ok rfl rfl rfl (by simp [asked]) (by simp) (by simp [AV.lit]) trivial (mem_keyS _ _) (by simp) (by simp) ?_
      refine SOpsM.cut 1 rfl fun K2 hK2 => ?_
      simp
      refine hK2 _ _ ?_
      clear hK2
      refine SOpsM.nil ?_
      simp
      refine hK _ _ _ ?_
      clear hK K K' K2
      cases hp : hasS (l.take i) l[i]
      · refine AWpM.cond (t := false) (by simp) (by simp) (fun _ => ?_)
        refine AWpM.skip ?_
        show AWpM _ _ _ _ _ _
        refine AWpM.goSLast [3, 7, 8, 9] [] fun K hK => ?_
        refine SOpsM.cut 2 rfl fun K' hK' => ?_
        simp
        refine hK' _ _ ?_
        clear hK'
        refine SOpsM.tell (sz := 0) (kv := .string l[i]) lawS_ok rfl rfl rfl (by simp [asked]) (by simp) (by simp [AV.lit]) trivial (by simp) ?_
        refine SOpsM.nil ?_
        refine hK _ _ ?_
        clear hK K K'
        show AWpM _ _ _ _ _ _
        refine AWpM.goLast [3, 7, 8, 9] [] fun K hK => ?_
        simp
        first | refine hK _ _ ?_ | refine ⟨by omega, hK _ _ ?_⟩ | refine ⟨by omega, by omega, hK _ _ ?_⟩
        clear hK K
        refine ⟨i + 1, ⟨by omega, fun k hk => ?_⟩, by omega, ?_⟩
        · by_cases hki : k = i
          · subst hki
            rw [hn, hp]; rfl
          · exact hall k (by omega)
        · rw [List.take_succ_eq_append_getElem h, keyS_snoc]
          simp
          exact wrap64 (by omega) (by omega)
      · refine AWpM.cond (t := true) (by simp) (fun _ => ?_) (by simp)
        refine AWpM.go [2] [] fun K hK => ?_
        simp
        first | refine hK _ _ ?_ | refine ⟨by omega, hK _ _ ?_⟩ | refine ⟨by omega, by omega, hK _ _ ?_⟩
        clear hK K
        refine AWpM.ret ?_
        have hn2 : namedAt l i = false := by first | exact hn | (rw [hn, hp]; rfl)
        simp [namedB, range_not h hn2]
  · refine AWpM.cond (t := false) (by first | (simp [h]; done) | (simp [h]; omega)) (by simp) (fun _ => ?_)
    refine AWpM.exit ?_
    show AWpM _ _ _ _ _ _
    obtain rfl : i = l.length := by omega
    refine AWpM.go [2] [] fun K hK => ?_
    simp
    first | refine hK _ _ ?_ | refine ⟨by omega, hK _ _ ?_⟩ | refine ⟨by omega, by omega, hK _ _ ?_⟩
    clear hK K
    refine AWpM.ret ?_
    have : namedB l = true := range_all hall
    simp [this]
end Go.AM
namespace Go.AM
open Go.Proofs
def inB (n lo hi : Int) : Bool := decide (lo ≤ n) && decide (n ≤ hi)
theorem c_sorts_within (n lo hi : Int) : Pure Tryz.prog 128 [.i .i64 n, .i .i64 lo, .i .i64 hi] (.b (inB n lo hi)) := by
  refine proc_of (cx Tryz.prog 15 [0, 1, 2, 6] [6]) 12 [.tmp 6] Tryz.func128 rfl rfl rfl rfl rfl rfl (Nat.le_refl _) rfl ?_
  refine AWp.go [0, 1, 2] [] fun K hK => ?_
  simp
  first | refine hK _ _ ?_ | refine ⟨by omega, hK _ _ ?_⟩ | refine ⟨by omega, by omega, hK _ _ ?_⟩
  clear hK K
  refine AWp.step [6] [] [(6, .b (inB n lo hi))] [] ?_ ?_
  · by_cases q : lo ≤ n <;> simp [q, inB]
  refine AWp.ret ?_
  simp
def inN (n : Int) (m : Nat) : Bool := decide (0 ≤ n) && decide (n < (m : Int))
theorem inB_N (n : Int) (m : Nat) : inB n 0 ((m : Int) - 1) = inN n m := by
  unfold inB inN
  congr 1
  rw [decide_eq_decide]
  omega
theorem minus_wrap {m : Nat} (h : m ≤ 1000) : IntKind.i64.wrap ((m : Int) - 1) = (m : Int) - 1 := wrap64 (by omega) (by omega)
theorem c_sorts_clause1 (r : Rul) (hr : Slight r) (n : Int) : Proc Tryz.prog 1 127 [.i .i64 n, .ptr 0 0] [(0, [.sl .fro 1 (strsAV r.sets), .sl .fro 1 (strsAV r.counts), .sl .fro 1 (strsAV r.notes), .sl .fro 5 (clsAV r.cls), .sl .fro 2 (opnsAV r.opers)])] (.b (inN n r.sets.length)) [(0, [.sl .fro 1 (strsAV r.sets), .sl .fro 1 (strsAV r.counts), .sl .fro 1 (strsAV r.notes), .sl .fro 5 (clsAV r.cls), .sl .fro 2 (opnsAV r.opers)])] := by
  obtain ⟨h1, h2, h3, h4, h5⟩ := hr
  have w1 := minus_wrap (m := r.sets.length) (by omega)
  refine proc_of (cxb Tryz.prog 10 1 [0, 1, 3] [] [3]) 8 [.tmp 3] Tryz.func127 rfl rfl rfl rfl rfl rfl (Nat.le_refl _) rfl ?_
  refine AWp.go [0, 1] [0] fun K hK => ?_
  simp
  first | refine hK _ _ ?_ | refine ⟨by omega, hK _ _ ?_⟩ | refine ⟨by omega, by omega, hK _ _ ?_⟩
  clear hK K
  refine AWp.go [3] [0] fun K hK => ?_
  simp [w1, inB_N]
  refine call_pure (c_sorts_within n 0 ((r.sets.length : Int) - 1)) (by simp) ?_
  simp [w1, inB_N]
  first | refine hK _ _ ?_ | refine ⟨by omega, hK _ _ ?_⟩ | refine ⟨by omega, by omega, hK _ _ ?_⟩
  clear hK K
  refine AWp.ret ?_
  simp
def clB (r : Rul) (c : Cl) : Bool :=
  if c.kind = 4 ∨ c.kind = 5 then inN c.a r.sets.length && inN c.b r.sets.length && !decide (c.a = c.b) && decide (c.num = 0)
  else if c.kind = 9 then inN c.a r.counts.length && inN c.b r.sets.length && decide (c.num = 0)
  else if c.kind = 6 then inN c.a r.sets.length && decide (c.b = 0) && inB c.num 0 1000 && !c.strict
  else if c.kind = 7 then inN c.a r.counts.length && decide (c.b = 0) && inB c.num 0 1000 && !c.strict
  else if c.kind = 8 then inN c.a r.counts.length && decide (c.b = 0) && inB c.num (-1000) 0 && c.strict
  else false
set_option maxRecDepth 8000 in
set_option maxHeartbeats 4000000 in
theorem c_sorts_clause (r : Rul) (hr : Slight r) (c : Cl) : Pure Tryz.prog 83 [.agg (rulC r), .agg (clC c)] (.b (clB r c)) := by
  have hr0 := hr
  obtain ⟨h1, h2, h3, h4, h5⟩ := hr
  have w2 := minus_wrap (m := r.counts.length) (by omega)
  have gf := c_sorts_clause1 r hr0
  refine proc_of (cx Tryz.prog 112 [2, 3, 4, 5, 6, 16, 17, 42, 56, 77, 95] [4]) 110 [.tmp 4] Tryz.func83 rfl rfl rfl rfl rfl rfl (Nat.le_refl _) rfl ?_
  refine AWp.go [2, 3] [2, 3] fun K hK => ?_
  simp [rulC, clC]
  first | refine hK _ _ ?_ | refine ⟨by omega, hK _ _ ?_⟩ | refine ⟨by omega, by omega, hK _ _ ?_⟩
  clear hK K
  refine AWp.go [2, 3, 5] [2, 3] fun K hK => ?_
  simp
  first | refine hK _ _ ?_ | refine ⟨by omega, hK _ _ ?_⟩ | refine ⟨by omega, by omega, hK _ _ ?_⟩
  clear hK K
  refine AWp.go [3, 5, 6] [2, 3] fun K hK => ?_
  simp [w2, inB_N]
  refine call_pure (c_sorts_within c.a 0 ((r.counts.length : Int) - 1)) (by simp) ?_
  simp [w2, inB_N]
  first | refine hK _ _ ?_ | refine ⟨by omega, hK _ _ ?_⟩ | refine ⟨by omega, by omega, hK _ _ ?_⟩
  clear hK K
  refine AWp.seq ?_
  refine AWp.go [3, 5, 6, 16] [2, 3] fun K hK => ?_
  simp
  first | refine hK _ _ ?_ | refine ⟨by omega, hK _ _ ?_⟩ | refine ⟨by omega, by omega, hK _ _ ?_⟩
  clear hK K
  refine AWp.block ?_
  refine AWp.mid [3, 5, 6, 16, 17] [2, 3] [(3, .ptr 3 0), (5, .fn 127 [] [.ptr 2 0]), (6, .b (inN c.a r.counts.length)), (16, .i .i64 c.kind), (17, .b (decide (c.kind = 4) || decide (c.kind = 5)))] [(2, [.sl .fro 1 (strsAV r.sets), .sl .fro 1 (strsAV r.counts), .sl .fro 1 (strsAV r.notes), .sl .fro 5 (clsAV r.cls), .sl .fro 2 (opnsAV r.opers)]), (3, [.i .i64 c.kind, .b c.strict, .i .i64 c.a, .i .i64 c.b, .i .i64 c.num])] ?_ ?_
  · refine AWp.go [3, 5, 6, 16, 17] [2, 3] fun K hK => ?_
    simp
    first | refine hK _ _ ?_ | refine ⟨by omega, hK _ _ ?_⟩ | refine ⟨by omega, by omega, hK _ _ ?_⟩
    clear hK K
    by_cases q4 : c.kind = 4
    · refine AWp.cond (t := true) (by first | (simp [q4]; done) | (simp [q4]; omega)) (fun _ => ?_) (by simp)
      refine AWp.skip ?_
      simp [q4]
    · refine AWp.cond (t := false) (by first | (simp [q4]; done) | (simp [q4]; omega)) (by simp) (fun _ => ?_)
      refine AWp.goLast [3, 5, 6, 16, 17] [2, 3] fun K hK => ?_
      simp
      first | refine hK _ _ ?_ | refine ⟨by omega, hK _ _ ?_⟩ | refine ⟨by omega, by omega, hK _ _ ?_⟩
      clear hK K
      simp [q4]
  by_cases q45 : c.kind = 4 ∨ c.kind = 5
  · refine AWp.cond (t := true) (by first | (simp [q45]; done) | (simp [q45]; omega)) (fun _ => ?_) (by simp)
    refine AWp.step [4] [2, 3] [(4, .b (clB r c))] [(2, [.sl .fro 1 (strsAV r.sets), .sl .fro 1 (strsAV r.counts), .sl .fro 1 (strsAV r.notes), .sl .fro 5 (clsAV r.cls), .sl .fro 2 (opnsAV r.opers)]), (3, [.i .i64 c.kind, .b c.strict, .i .i64 c.a, .i .i64 c.b, .i .i64 c.num])] ?_ ?_
    · simp
      refine call_proc [(0, 2)] none (gf c.a) (by simp) (by simp) ?_
      cases p1 : inN c.a r.sets.length
      · simp [clB, q45, p1]
      simp
      refine call_proc [(0, 2)] none (gf c.b) (by simp) (by simp) ?_
      cases p2 : inN c.b r.sets.length
      · simp [clB, q45, p1, p2]
      by_cases p3 : c.a = c.b
      · simp [clB, q45, p1, p2, p3]
      · simp [clB, q45, p1, p2, p3]
    refine AWp.ret ?_
    simp
  · refine AWp.cond (t := false) (by first | (simp [q45]; done) | (simp [q45]; omega)) (by simp) (fun _ => ?_)
    refine AWp.go [3, 5, 6, 16, 42] [2, 3] fun K hK => ?_
    simp
    first | refine hK _ _ ?_ | refine ⟨by omega, hK _ _ ?_⟩ | refine ⟨by omega, by omega, hK _ _ ?_⟩
    clear hK K
    by_cases q9 : c.kind = 9
    · refine AWp.cond (t := true) (by first | (simp [q9]; done) | (simp [q9]; omega)) (fun _ => ?_) (by simp)
      refine AWp.step [4] [2, 3] [(4, .b (clB r c))] [(2, [.sl .fro 1 (strsAV r.sets), .sl .fro 1 (strsAV r.counts), .sl .fro 1 (strsAV r.notes), .sl .fro 5 (clsAV r.cls), .sl .fro 2 (opnsAV r.opers)]), (3, [.i .i64 c.kind, .b c.strict, .i .i64 c.a, .i .i64 c.b, .i .i64 c.num])] ?_ ?_
      · cases p1 : inN c.a r.counts.length
        · simp [clB, q45, q9, p1]
        simp [p1]
        refine call_proc [(0, 2)] none (gf c.b) (by simp) (by simp) ?_
        cases p2 : inN c.b r.sets.length
        · simp [clB, q9, p1, p2]
        · simp [clB, q9, p1, p2]
      refine AWp.ret ?_
      simp
    · refine AWp.cond (t := false) (by first | (simp [q9]; done) | (simp [q9]; omega)) (by simp) (fun _ => ?_)
      refine AWp.go [3, 5, 6, 16, 56] [2, 3] fun K hK => ?_
      simp
      first | refine hK _ _ ?_ | refine ⟨by omega, hK _ _ ?_⟩ | refine ⟨by omega, by omega, hK _ _ ?_⟩
      clear hK K
      by_cases q6 : c.kind = 6
      · refine AWp.cond (t := true) (by first | (simp [q6]; done) | (simp [q6]; omega)) (fun _ => ?_) (by simp)
        refine AWp.step [4] [2, 3] [(4, .b (clB r c))] [(2, [.sl .fro 1 (strsAV r.sets), .sl .fro 1 (strsAV r.counts), .sl .fro 1 (strsAV r.notes), .sl .fro 5 (clsAV r.cls), .sl .fro 2 (opnsAV r.opers)]), (3, [.i .i64 c.kind, .b c.strict, .i .i64 c.a, .i .i64 c.b, .i .i64 c.num])] ?_ ?_
        · simp
          refine call_proc [(0, 2)] none (gf c.a) (by simp) (by simp) ?_
          cases p1 : inN c.a r.sets.length
          · simp [clB, q6, p1]
          by_cases p3 : c.b = 0
          · simp [p3]
            refine call_pure (c_sorts_within c.num 0 1000) (by simp) ?_
            cases p4 : inB c.num 0 1000
            · simp [clB, q6, p1, p3, p4]
            · simp [clB, q6, p1, p3, p4]
          · simp [clB, q6, p1, p3]
        refine AWp.ret ?_
        simp
      · refine AWp.cond (t := false) (by first | (simp [q6]; done) | (simp [q6]; omega)) (by simp) (fun _ => ?_)
        refine AWp.go [3, 6, 16, 77] [2, 3] fun K hK => ?_
        simp
        first | refine hK _ _ ?_ | refine ⟨by omega, hK _ _ ?_⟩ | refine ⟨by omega, by omega, hK _ _ ?_⟩
        clear hK K
        by_cases q7 : c.kind = 7
        · refine AWp.cond (t := true) (by first | (simp [q7]; done) | (simp [q7]; omega)) (fun _ => ?_) (by simp)
          refine AWp.step [4] [2, 3] [(4, .b (clB r c))] [(2, [.sl .fro 1 (strsAV r.sets), .sl .fro 1 (strsAV r.counts), .sl .fro 1 (strsAV r.notes), .sl .fro 5 (clsAV r.cls), .sl .fro 2 (opnsAV r.opers)]), (3, [.i .i64 c.kind, .b c.strict, .i .i64 c.a, .i .i64 c.b, .i .i64 c.num])] ?_ ?_
          · cases p1 : inN c.a r.counts.length
            · simp [clB, q7, p1]
            by_cases p3 : c.b = 0
            · simp [p1, p3]
              refine call_pure (c_sorts_within c.num 0 1000) (by simp) ?_
              cases p4 : inB c.num 0 1000
              · simp [clB, q7, p1, p3, p4]
              · simp [clB, q7, p1, p3, p4]
            · simp [clB, q7, p1, p3]
          refine AWp.ret ?_
          simp
        · refine AWp.cond (t := false) (by first | (simp [q7]; done) | (simp [q7]; omega)) (by simp) (fun _ => ?_)
          refine AWp.go [3, 6, 95] [2, 3] fun K hK => ?_
          simp
          first | refine hK _ _ ?_ | refine ⟨by omega, hK _ _ ?_⟩ | refine ⟨by omega, by omega, hK _ _ ?_⟩
          clear hK K
          by_cases q8 : c.kind = 8
          · refine AWp.cond (t := true) (by first | (simp [q8]; done) | (simp [q8]; omega)) (fun _ => ?_) (by simp)
            refine AWp.step [4] [2, 3] [(4, .b (clB r c))] [(2, [.sl .fro 1 (strsAV r.sets), .sl .fro 1 (strsAV r.counts), .sl .fro 1 (strsAV r.notes), .sl .fro 5 (clsAV r.cls), .sl .fro 2 (opnsAV r.opers)]), (3, [.i .i64 c.kind, .b c.strict, .i .i64 c.a, .i .i64 c.b, .i .i64 c.num])] ?_ ?_
            · cases p1 : inN c.a r.counts.length
              · simp [clB, q8, p1]
              by_cases p3 : c.b = 0
              · simp [p1, p3]
                refine call_pure (c_sorts_within c.num (-1000) 0) (by simp) ?_
                cases p4 : inB c.num (-1000) 0
                · simp [clB, q8, p1, p3, p4]
                · simp [clB, q8, p1, p3, p4]
              · simp [clB, q8, p1, p3]
            refine AWp.ret ?_
            simp
          · refine AWp.cond (t := false) (by first | (simp [q8]; done) | (simp [q8]; omega)) (by simp) (fun _ => ?_)
            refine AWp.skip ?_
            show AWp _ _ _ _
            refine AWp.go [4] [2, 3] fun K hK => ?_
            simp
            first | refine hK _ _ ?_ | refine ⟨by omega, hK _ _ ?_⟩ | refine ⟨by omega, by omega, hK _ _ ?_⟩
            clear hK K
            refine AWp.ret ?_
            simp [clB, q45, q9, q6, q7, q8]
end Go.AM
namespace Go.AM
def noEnv (w : World) : Env := ⟨w, fun _ => 0, fun _ => none, fun _ => False, ⟨fun _ => .any, fun _ => none⟩, #[]⟩
theorem val_pair (E : Env) (p : Place) (k : IntKind) (a b : Int) : Val E p (.agg [.i k a, .i k b]) (.agg #[.int k a, .int k b]) := .agg _ _ _ rfl fun i c hc => by
  match i, hc with
  | 0, hc => cases hc; exact .i _ _ _
  | 1, hc => cases hc; exact .i _ _ _
  | i + 2, hc => simp at hc
theorem equal_pair {P : Program} {t : TypeId} {k : IntKind} (h : flatEq P t = some [.int k, .int k]) (a b a' b' : Int) (w : World) : (Op.equal t (.agg #[.int k a, .int k b]) (.agg #[.int k a', .int k b'])).run P w = .ok (a == a' && (b == b' && true)) w := by
  have he : eqCells [.int k, .int k] [.i k a, .i k b] [.i k a', .i k b'] = some (a == a' && (b == b' && true)) := by simp [eqCells, eqCell]
  unfold flatEq at h
  split at h
  · cases h
  · rename_i hno
    have h1 : P.stoodInHeld t = false := by cases hs : P.stoodInHeld t with
      | false => rfl
      | true => exact absurd (.inl hs) hno
    split at h
    · rename_i fs hu
      have hfo : P.fieldsOf t = fs := by unfold Program.fieldsOf; rw [hu]
      have hx := val_pair (noEnv w) .no k a b
      have hy := val_pair (noEnv w) .no k a' b'
      cases hx with
      | agg _ _ ax lx vx =>
      cases hy with
      | agg _ _ ay ly vy =>
      have hrun := eqFields_run (P := P) (E := noEnv w) w 9998 fs.toList 0 _ _ _ _ h he lx ly (fun k c hk => ⟨_, by rw [Nat.zero_add]; exact vx k c hk⟩) (fun k c hk => ⟨_, by rw [Nat.zero_add]; exact vy k c hk⟩)
      show (Op.equalIn (9999 + 1) t _ _).run P w = _
      rw [run_equalIn_struct w 9999 t _ _ (by rw [hfo]; exact hu) h1, hfo]
      exact hrun
    · cases h
def PairKey (k : IntKind) (v : Value) : Prop := ∃ a b, v = .agg #[.int k a, .int k b]
theorem findAsking_pair {P : Program} {t : TypeId} {k : IntKind} (h : flatEq P t = some [.int k, .int k]) (w : World) {x : Value} (hx : PairKey k x) : ∀ (es : List MapEntry) (i : Nat), (∀ e ∈ es, PairKey k e.key) →
    (∃ j e, es[j]? = some e ∧ e.key = x ∧ (Instr.findAsking t x es i).run P w = .ok (some (i + j, e.val)) w) ∨ ((∀ e ∈ es, e.key ≠ x) ∧ (Instr.findAsking t x es i).run P w = .ok none w)
  | [], i, _ => .inr ⟨by simp, rfl⟩
  | e :: es, i, hes => by
    obtain ⟨a, b, rfl⟩ := hx
    obtain ⟨a', b', he⟩ := hes e List.mem_cons_self
    have hq := equal_pair h a b a' b' w
    rw [← he] at hq
    by_cases hab : a = a' ∧ b = b'
    · left
      refine ⟨0, e, rfl, by rw [he, hab.1, hab.2], ?_⟩
      have ht : (a == a' && (b == b' && true)) = true := by simp [hab.1, hab.2]
      rw [ht] at hq
      unfold Instr.findAsking
      simp only [Sem.run_bind, hq, Result.andThen_ok]
      simp
    · have hf : (a == a' && (b == b' && true)) = false := by
        rw [Bool.eq_false_iff]
        intro h2
        simp at h2
        exact hab h2
      rw [hf] at hq
      have hne : e.key ≠ .agg #[.int k a, .int k b] := fun h2 => by
        rw [he] at h2
        simp at h2
        exact hab ⟨h2.1.symm, h2.2.symm⟩
      have hstep : (Instr.findAsking t (.agg #[.int k a, .int k b]) (e :: es) i).run P w = (Instr.findAsking t (.agg #[.int k a, .int k b]) es (i + 1)).run P w := by
        conv => lhs; unfold Instr.findAsking
        simp only [Sem.run_bind, hq, Result.andThen_ok, Bool.false_eq_true, if_false]
      rw [hstep]
      rcases findAsking_pair h w ⟨a, b, rfl⟩ es (i + 1) (fun x hx => hes x (List.mem_cons_of_mem _ hx)) with ⟨j, e', g1, g2, g3⟩ | ⟨g1, g2⟩
      · left
        exact ⟨j + 1, e', by simpa using g1, g2, by rw [g3, show i + 1 + j = i + (j + 1) by omega]⟩
      · right
        refine ⟨fun y hy => ?_, g2⟩
        rcases List.mem_cons.1 hy with rfl | hy
        · exact hne
        · exact g1 y hy
theorem mapLaw_pair {P : Program} {t kt et : TypeId} {k : IntKind} (hu : P.underlying t = some (.map kt et)) (hf : flatEq P kt = some [.int k, .int k]) (hs : (match P.underlying kt with | some (.array _ _) | some (.struct _) => true | _ => false) = true)
    (hc : ∀ em w a b, (Instr.checkKey em 10000 kt (.agg #[.int k a, .int k b])).run P w = .ok () w) (hz : ∀ w, (zeroValue et).run P w = .ok (.bool false) w) : MapLaw.Ok ⟨t, kt, et, PairKey k⟩ P where
  und := hu
  chk em w x h := by obtain ⟨a, b, rfl⟩ := h; exact hc em w a b
  find w x es h hes := by
    show _ ∨ (_ ∧ (Instr.findKey kt x es.toList).run P w = _)
    have hq : (Instr.findKey kt x es.toList).run P w = (Instr.findAsking kt x es.toList).run P w := run_findKey_eq w hs x es.toList
    simp only [hq]
    rcases findAsking_pair hf w h es.toList 0 hes with ⟨j, e, g1, g2, g3⟩ | ⟨g1, g2⟩
    · left
      rw [Nat.zero_add] at g3
      exact ⟨j, e, by simpa using g1, g2, g3⟩
    · exact .inr ⟨g1, g2⟩
  stay w x h := by
    obtain ⟨a, b, rfl⟩ := h
    have hsb : Instr.sameBits 10000 (.agg #[.int k a, .int k b]) (.agg #[.int k a, .int k b]) = true := by
      simp [Instr.sameBits]
    simp [Instr.keyThatStays, hsb]
  zero := hz
end Go.AM
namespace Go.AM
open Go.Proofs

def doB (r : Rul) (d : Dg) : Bool :=
  if d.kind = 1 ∨ d.kind = 2 then inN d.thing r.sets.length && decide (d.num = 0)
  else if d.kind = 3 ∨ d.kind = 4 then inN d.thing r.counts.length && inB d.num 1 1000
  else if d.kind = 6 then inN d.thing r.notes.length && decide (d.num = 0)
  else false
set_option maxRecDepth 8000 in
set_option maxHeartbeats 4000000 in
theorem c_sorts_doing (r : Rul) (hr : Slight r) (d : Dg) : Pure Tryz.prog 130 [.agg (rulC r), .agg (dgC d)] (.b (doB r d)) := by
  obtain ⟨h1, h2, h3, h4, h5⟩ := hr
  have w1 := minus_wrap (m := r.sets.length) (by omega)
  have w2 := minus_wrap (m := r.counts.length) (by omega)
  have w3 := minus_wrap (m := r.notes.length) (by omega)
  refine proc_of (cx Tryz.prog 51 [2, 3, 4, 6, 7, 22, 37] [4]) 49 [.tmp 4] Tryz.func130 rfl rfl rfl rfl rfl rfl (Nat.le_refl _) rfl ?_
  refine AWp.go [2, 3] [2, 3] fun K hK => ?_
  simp [rulC, dgC]
  first | refine hK _ _ ?_ | refine ⟨by omega, hK _ _ ?_⟩ | refine ⟨by omega, by omega, hK _ _ ?_⟩
  clear hK K
  refine AWp.seq ?_
  refine AWp.go [2, 3, 6] [2, 3] fun K hK => ?_
  simp
  first | refine hK _ _ ?_ | refine ⟨by omega, hK _ _ ?_⟩ | refine ⟨by omega, by omega, hK _ _ ?_⟩
  clear hK K
  refine AWp.block ?_
  refine AWp.mid [2, 3, 6, 7] [2, 3] [(2, .ptr 2 0), (3, .ptr 3 0), (6, .i .i64 d.kind), (7, .b (decide (d.kind = 1) || decide (d.kind = 2)))] [(2, [.sl .fro 1 (strsAV r.sets), .sl .fro 1 (strsAV r.counts), .sl .fro 1 (strsAV r.notes), .sl .fro 5 (clsAV r.cls), .sl .fro 2 (opnsAV r.opers)]), (3, [.i .i64 d.kind, .i .i64 d.thing, .i .i64 d.num])] ?_ ?_
  · refine AWp.go [2, 3, 6, 7] [2, 3] fun K hK => ?_
    simp
    first | refine hK _ _ ?_ | refine ⟨by omega, hK _ _ ?_⟩ | refine ⟨by omega, by omega, hK _ _ ?_⟩
    clear hK K
    by_cases q1 : d.kind = 1
    · refine AWp.cond (t := true) (by first | (simp [q1]; done) | (simp [q1]; omega)) (fun _ => ?_) (by simp)
      refine AWp.skip ?_
      simp [q1]
    · refine AWp.cond (t := false) (by first | (simp [q1]; done) | (simp [q1]; omega)) (by simp) (fun _ => ?_)
      refine AWp.goLast [2, 3, 6, 7] [2, 3] fun K hK => ?_
      simp
      first | refine hK _ _ ?_ | refine ⟨by omega, hK _ _ ?_⟩ | refine ⟨by omega, by omega, hK _ _ ?_⟩
      clear hK K
      simp [q1]
  by_cases q12 : d.kind = 1 ∨ d.kind = 2
  · refine AWp.cond (t := true) (by first | (simp [q12]; done) | (simp [q12]; omega)) (fun _ => ?_) (by simp)
    refine AWp.step [4] [2, 3] [(4, .b (doB r d))] [(2, [.sl .fro 1 (strsAV r.sets), .sl .fro 1 (strsAV r.counts), .sl .fro 1 (strsAV r.notes), .sl .fro 5 (clsAV r.cls), .sl .fro 2 (opnsAV r.opers)]), (3, [.i .i64 d.kind, .i .i64 d.thing, .i .i64 d.num])] ?_ ?_
    · simp [w1]
      refine call_pure (c_sorts_within d.thing 0 ((r.sets.length : Int) - 1)) (by simp) ?_
      rw [inB_N]
      cases p1 : inN d.thing r.sets.length <;> simp [doB, q12, p1]
    refine AWp.ret ?_
    simp
  · refine AWp.cond (t := false) (by first | (simp [q12]; done) | (simp [q12]; omega)) (by simp) (fun _ => ?_)
    refine AWp.mid [2, 3, 6, 22] [2, 3] [(2, .ptr 2 0), (3, .ptr 3 0), (6, .i .i64 d.kind), (22, .b (decide (d.kind = 3) || decide (d.kind = 4)))] [(2, [.sl .fro 1 (strsAV r.sets), .sl .fro 1 (strsAV r.counts), .sl .fro 1 (strsAV r.notes), .sl .fro 5 (clsAV r.cls), .sl .fro 2 (opnsAV r.opers)]), (3, [.i .i64 d.kind, .i .i64 d.thing, .i .i64 d.num])] ?_ ?_
    · refine AWp.go [2, 3, 6, 22] [2, 3] fun K hK => ?_
      simp
      first | refine hK _ _ ?_ | refine ⟨by omega, hK _ _ ?_⟩ | refine ⟨by omega, by omega, hK _ _ ?_⟩
      clear hK K
      by_cases q3 : d.kind = 3
      · refine AWp.cond (t := true) (by first | (simp [q3]; done) | (simp [q3]; omega)) (fun _ => ?_) (by simp)
        refine AWp.skip ?_
        simp [q3]
      · refine AWp.cond (t := false) (by first | (simp [q3]; done) | (simp [q3]; omega)) (by simp) (fun _ => ?_)
        refine AWp.goLast [2, 3, 6, 22] [2, 3] fun K hK => ?_
        simp
        first | refine hK _ _ ?_ | refine ⟨by omega, hK _ _ ?_⟩ | refine ⟨by omega, by omega, hK _ _ ?_⟩
        clear hK K
        simp [q3]
    by_cases q34 : d.kind = 3 ∨ d.kind = 4
    · refine AWp.cond (t := true) (by first | (simp [q34]; done) | (simp [q34]; omega)) (fun _ => ?_) (by simp)
      refine AWp.step [4] [2, 3] [(4, .b (doB r d))] [(2, [.sl .fro 1 (strsAV r.sets), .sl .fro 1 (strsAV r.counts), .sl .fro 1 (strsAV r.notes), .sl .fro 5 (clsAV r.cls), .sl .fro 2 (opnsAV r.opers)]), (3, [.i .i64 d.kind, .i .i64 d.thing, .i .i64 d.num])] ?_ ?_
      · simp [w2]
        refine call_pure (c_sorts_within d.thing 0 ((r.counts.length : Int) - 1)) (by simp) ?_
        rw [inB_N]
        cases p1 : inN d.thing r.counts.length
        · simp [doB, q12, q34, p1]
        simp
        refine call_pure (c_sorts_within d.num 1 1000) (by simp) ?_
        simp [doB, q12, q34, p1]
      refine AWp.ret ?_
      simp
    · refine AWp.cond (t := false) (by first | (simp [q34]; done) | (simp [q34]; omega)) (by simp) (fun _ => ?_)
      refine AWp.go [2, 3, 37] [2, 3] fun K hK => ?_
      simp
      first | refine hK _ _ ?_ | refine ⟨by omega, hK _ _ ?_⟩ | refine ⟨by omega, by omega, hK _ _ ?_⟩
      clear hK K
      by_cases q6 : d.kind = 6
      · refine AWp.cond (t := true) (by first | (simp [q6]; done) | (simp [q6]; omega)) (fun _ => ?_) (by simp)
        refine AWp.step [4] [2, 3] [(4, .b (doB r d))] [(2, [.sl .fro 1 (strsAV r.sets), .sl .fro 1 (strsAV r.counts), .sl .fro 1 (strsAV r.notes), .sl .fro 5 (clsAV r.cls), .sl .fro 2 (opnsAV r.opers)]), (3, [.i .i64 d.kind, .i .i64 d.thing, .i .i64 d.num])] ?_ ?_
        · simp [w3]
          refine call_pure (c_sorts_within d.thing 0 ((r.notes.length : Int) - 1)) (by simp) ?_
          rw [inB_N]
          cases p1 : inN d.thing r.notes.length <;> simp [doB, q6, p1]
        refine AWp.ret ?_
        simp
      · refine AWp.cond (t := false) (by first | (simp [q6]; done) | (simp [q6]; omega)) (by simp) (fun _ => ?_)
        refine AWp.skip ?_
        show AWp _ _ _ _
        refine AWp.go [4] [2, 3] fun K hK => ?_
        simp
        first | refine hK _ _ ?_ | refine ⟨by omega, hK _ _ ?_⟩ | refine ⟨by omega, by omega, hK _ _ ?_⟩
        clear hK K
        refine AWp.ret ?_
        simp [doB, q12, q34, q6]
def toK (d : Dg) : Int × Int := if d.kind = 1 ∨ d.kind = 2 then (0, d.thing) else if d.kind = 3 ∨ d.kind = 4 then (1, d.thing) else (2, d.thing)
set_option maxRecDepth 8000 in
set_option maxHeartbeats 1000000 in
theorem c_sorts_to (d : Dg) : Pure Tryz.prog 131 [.agg (dgC d)] (.agg [.i .i64 (toK d).1, .i .i64 (toK d).2]) := by
  refine proc_of (cx Tryz.prog 20 [1, 2, 4, 5, 11] [2]) 19 [.cell 2 137] Tryz.func131 rfl rfl rfl rfl rfl rfl (Nat.le_refl _) rfl ?_
  refine AWp.go [1, 2] [1, 2] fun K hK => ?_
  simp [dgC]
  first | refine hK _ _ ?_ | refine ⟨by omega, hK _ _ ?_⟩ | refine ⟨by omega, by omega, hK _ _ ?_⟩
  clear hK K
  refine AWp.seq ?_
  refine AWp.go [1, 2, 4] [1, 2] fun K hK => ?_
  simp
  first | refine hK _ _ ?_ | refine ⟨by omega, hK _ _ ?_⟩ | refine ⟨by omega, by omega, hK _ _ ?_⟩
  clear hK K
  refine AWp.block ?_
  refine AWp.mid [1, 2, 4, 5] [1, 2] [(1, .ptr 1 0), (2, .ptr 2 0), (4, .i .i64 d.kind), (5, .b (decide (d.kind = 1) || decide (d.kind = 2)))] [(1, [.i .i64 d.kind, .i .i64 d.thing, .i .i64 d.num]), (2, [.i .i64 0, .i .i64 0])] ?_ ?_
  · refine AWp.go [1, 2, 4, 5] [1, 2] fun K hK => ?_
    simp
    first | refine hK _ _ ?_ | refine ⟨by omega, hK _ _ ?_⟩ | refine ⟨by omega, by omega, hK _ _ ?_⟩
    clear hK K
    by_cases q1 : d.kind = 1
    · refine AWp.cond (t := true) (by first | (simp [q1]; done) | (simp [q1]; omega)) (fun _ => ?_) (by simp)
      refine AWp.skip ?_
      simp [q1]
    · refine AWp.cond (t := false) (by first | (simp [q1]; done) | (simp [q1]; omega)) (by simp) (fun _ => ?_)
      refine AWp.goLast [1, 2, 4, 5] [1, 2] fun K hK => ?_
      simp
      first | refine hK _ _ ?_ | refine ⟨by omega, hK _ _ ?_⟩ | refine ⟨by omega, by omega, hK _ _ ?_⟩
      clear hK K
      simp [q1]
  by_cases q12 : d.kind = 1 ∨ d.kind = 2
  · refine AWp.cond (t := true) (by first | (simp [q12]; done) | (simp [q12]; omega)) (fun _ => ?_) (by simp)
    refine AWp.go [2] [1, 2] fun K hK => ?_
    simp
    first | refine hK _ _ ?_ | refine ⟨by omega, hK _ _ ?_⟩ | refine ⟨by omega, by omega, hK _ _ ?_⟩
    clear hK K
    refine AWp.ret ?_
    simp [toK, q12]
  · refine AWp.cond (t := false) (by first | (simp [q12]; done) | (simp [q12]; omega)) (by simp) (fun _ => ?_)
    refine AWp.mid [1, 2, 11] [1, 2] [(1, .ptr 1 0), (2, .ptr 2 0), (11, .b (decide (d.kind = 3) || decide (d.kind = 4)))] [(1, [.i .i64 d.kind, .i .i64 d.thing, .i .i64 d.num]), (2, [.i .i64 0, .i .i64 0])] ?_ ?_
    · refine AWp.go [1, 2, 4, 11] [1, 2] fun K hK => ?_
      simp
      first | refine hK _ _ ?_ | refine ⟨by omega, hK _ _ ?_⟩ | refine ⟨by omega, by omega, hK _ _ ?_⟩
      clear hK K
      by_cases q3 : d.kind = 3
      · refine AWp.cond (t := true) (by first | (simp [q3]; done) | (simp [q3]; omega)) (fun _ => ?_) (by simp)
        refine AWp.skip ?_
        simp [q3]
      · refine AWp.cond (t := false) (by first | (simp [q3]; done) | (simp [q3]; omega)) (by simp) (fun _ => ?_)
        refine AWp.goLast [1, 2, 11] [1, 2] fun K hK => ?_
        simp
        first | refine hK _ _ ?_ | refine ⟨by omega, hK _ _ ?_⟩ | refine ⟨by omega, by omega, hK _ _ ?_⟩
        clear hK K
        simp [q3]
    by_cases q34 : d.kind = 3 ∨ d.kind = 4
    · refine AWp.cond (t := true) (by first | (simp [q34]; done) | (simp [q34]; omega)) (fun _ => ?_) (by simp)
      refine AWp.go [2] [1, 2] fun K hK => ?_
      simp
      first | refine hK _ _ ?_ | refine ⟨by omega, hK _ _ ?_⟩ | refine ⟨by omega, by omega, hK _ _ ?_⟩
      clear hK K
      refine AWp.ret ?_
      simp [toK, q12, q34]
    · refine AWp.cond (t := false) (by first | (simp [q34]; done) | (simp [q34]; omega)) (by simp) (fun _ => ?_)
      refine AWp.skip ?_
      show AWp _ _ _ _
      refine AWp.go [2] [1, 2] fun K hK => ?_
      simp
      first | refine hK _ _ ?_ | refine ⟨by omega, hK _ _ ?_⟩ | refine ⟨by omega, by omega, hK _ _ ?_⟩
      clear hK K
      refine AWp.ret ?_
      simp [toK, q12, q34]
def pairV (p : Int × Int) : Value := .agg #[.int .i64 p.1, .int .i64 p.2]
def keyP (l : List Dg) : List Value := (l.map fun d => pairV (toK d)).reverse
theorem keyP_snoc (l : List Dg) (d : Dg) : keyP (l ++ [d]) = pairV (toK d) :: keyP l := by simp [keyP]
def didB (l : List Dg) (d : Dg) : Bool := l.any fun x => decide (toK x = toK d)
theorem mem_keyP (l : List Dg) (d : Dg) : didB l d = true ↔ pairV (toK d) ∈ keyP l := by
  simp only [didB, List.any_eq_true, decide_eq_true_eq, keyP, List.mem_reverse, List.mem_map]
  constructor
  · rintro ⟨x, hx, h⟩; exact ⟨x, hx, by rw [h]⟩
  · rintro ⟨x, hx, h⟩
    refine ⟨x, hx, ?_⟩
    simp [pairV] at h
    exact Prod.ext h.1 h.2
def oprAt (r : Rul) (l : List Dg) (i : Nat) : Bool := match l[i]? with
  | some d => doB r d && !didB (l.take i) d
  | none => false
theorem oprAt_at (r : Rul) {l : List Dg} {i : Nat} (h : i < l.length) : oprAt r l i = (doB r l[i] && !didB (l.take i) l[i]) := by simp [oprAt, h]
def opB (r : Rul) (o : Opn) : Bool := inB o.does.length 1 16 && (List.range o.does.length).all (oprAt r o.does)
def lawP : MapLaw := ⟨134, 137, 4, PairKey .i64⟩
theorem check_thing (em : Bool) (w : World) (a b : Int) : (Instr.checkKey em 10000 137 (.agg #[.int .i64 a, .int .i64 b])).run Tryz.prog w = .ok () w := by
  have hi : ∀ x : Int, (Instr.checkKey em 9999 3 (.int .i64 x)).run Tryz.prog w = .ok () w := fun x => MapKept.run_checkKey (P := Tryz.prog) (d := .int .i64) (k := .int .i64 x) Tryz.underlying3 rfl em 9998
  have p0 : (part 3 #[.int .i64 a, .int .i64 b] 0).run Tryz.prog w = .ok (.int .i64 a) w := part_run (Tryz.isAgg3 w) (by simp)
  have p1 : (part 3 #[.int .i64 a, .int .i64 b] 1).run Tryz.prog w = .ok (.int .i64 b) w := part_run (Tryz.isAgg3 w) (by simp)
  unfold Instr.checkKey
  simp only [Sem.run_bind, run_underlying Tryz.underlying137, Result.andThen_ok]
  simp [Sem.run_bind, Result.andThen_ok, p0, p1, hi]
theorem lawP_ok : lawP.Ok Tryz.prog := mapLaw_pair Tryz.underlying134 (by kernel_rfl) (by kernel_rfl) check_thing Tryz.zeroValue4
set_option maxRecDepth 8000 in
set_option maxHeartbeats 4000000 in
theorem c_sorts_oper (r : Rul) (hr : Slight r) (o : Opn) (ho : o.does.length ≤ 1000) : Pure Tryz.prog 86 [.agg (rulC r), .agg (opnC o)] (.b (opB r o)) := by
  have gd := c_sorts_doing r hr
  simp [rulC] at gd
  refine proc_of (cx Tryz.prog 35 [2, 3, 4, 5, 7, 12, 15, 16, 17, 18, 30] [4]) 33 [.tmp 4] Tryz.func86 rfl rfl rfl rfl rfl rfl (Nat.le_refl _) rfl ?_
  refine AWpM.toAWp (M := lawP) ?_
  refine AWpM.go [2, 3] [2, 3] fun K hK => ?_
  simp [rulC, opnC]
  first | refine hK _ _ ?_ | refine ⟨by omega, hK _ _ ?_⟩ | refine ⟨by omega, by omega, hK _ _ ?_⟩
  clear hK K
  refine AWpM.seq ?_
  refine AWpM.go [2, 3, 12] [2, 3] fun K hK => ?_
  simp
  refine call_pure (c_sorts_within o.does.length 1 16) (by simp) ?_
  simp
  first | refine hK _ _ ?_ | refine ⟨by omega, hK _ _ ?_⟩ | refine ⟨by omega, by omega, hK _ _ ?_⟩
  clear hK K
  cases q0 : inB o.does.length 1 16
  · refine AWpM.cond (t := true) (by simp) (fun _ => ?_) (by simp)
    refine AWpM.go [4] [] fun K hK => ?_
    simp
    first | refine hK _ _ ?_ | refine ⟨by omega, hK _ _ ?_⟩ | refine ⟨by omega, by omega, hK _ _ ?_⟩
    clear hK K
    refine AWpM.ret ?_
    simp [opB, q0]
  · refine AWpM.cond (t := false) (by simp) (by simp) (fun _ => ?_)
    refine AWpM.skip ?_
    show AWpM _ _ _ _ _ _
    refine AWpM.goS [2, 3, 5] [2, 3] fun K hK => ?_
    refine SOpsM.make (M := lawP) rfl rfl rfl (by simp [asked]) (by simp) (by simp) fun b => ?_
    refine SOpsM.cut 1 rfl fun K' hK' => ?_
    simp
    refine hK' _ _ ?_
    clear hK'
    refine SOpsM.nil ?_
    simp
    refine hK _ _ _ ?_
    clear hK K K'
    refine AWpM.seq ?_
    refine AWpM.go [2, 5, 15, 16, 17] [2] fun K hK => ?_
    simp
    first | refine hK _ _ ?_ | refine ⟨by omega, hK _ _ ?_⟩ | refine ⟨by omega, by omega, hK _ _ ?_⟩
    clear hK K
    refine AWpM.block (AWpM.while (fun i : Nat => [(2, .ptr 2 0), (5, .mp b), (15, .sl .fro 3 (dgsAV o.does)), (16, .i .i64 o.does.length), (17, .i .i64 i)]) (fun i => [(2, [.sl .fro 1 (strsAV r.sets), .sl .fro 1 (strsAV r.counts), .sl .fro 1 (strsAV r.notes), .sl .fro 5 (clsAV r.cls), .sl .fro 2 (opnsAV r.opers)])]) (fun i => some (.map b (keyP (o.does.take i)))) (fun i => i ≤ o.does.length ∧ ∀ k, k < i → oprAt r o.does k = true) (fun i => o.does.length - i) [2, 5, 15, 16, 17] [2] 0 (by simp) (by simp [keyP]) ?_)
    rintro i ⟨hi, hall⟩
    refine AWpM.go [2, 5, 15, 16, 17, 18] [2] fun K hK => ?_
    simp
    first | refine hK _ _ ?_ | refine ⟨by omega, hK _ _ ?_⟩ | refine ⟨by omega, by omega, hK _ _ ?_⟩
    clear hK K
    refine AWpM.seq ?_
    by_cases h : i < o.does.length
    · refine AWpM.cond (t := true) (by first | (simp [h]; done) | (simp [h]; omega)) (fun _ => ?_) (by simp)
      refine AWpM.skip ?_
      show AWpM _ _ _ _ _ _
      refine AWpM.seq ?_
      refine AWpM.block ?_
      refine AWpM.go [2, 5, 7, 15, 16, 17] [2, 7] fun K hK => ?_
      simp [h]
      first | refine hK _ _ ?_ | refine ⟨by omega, hK _ _ ?_⟩ | refine ⟨by omega, by omega, hK _ _ ?_⟩
      clear hK K
      refine AWpM.seq ?_
      refine AWpM.goS [2, 5, 7, 15, 16, 17, 30] [2, 7] fun K hK => ?_
      refine SOpsM.cut 8 rfl fun K' hK' => ?_
      simp
      refine call_pure (gd o.does[i]) (by simp [dgC]) ?_
      have hn := oprAt_at r h
      cases q1 : doB r o.does[i]
      skip
      · rw [q1] at hn
        simp
        refine hK' _ _ ?_
        clear hK'
        refine SOpsM.off rfl rfl (by simp [asked]) (by simp) (by simp) ?_
        refine SOpsM.cut 1 rfl fun K2 hK2 => ?_
        simp
        refine hK2 _ _ ?_
        clear hK2
        refine SOpsM.nil ?_
        simp
        refine hK _ _ _ ?_
        clear hK K K' K2
        refine AWpM.cond (t := true) (by first | (simp; done) | (simp; omega)) (fun _ => ?_) (by simp)
        refine AWpM.go [4] [] fun K hK => ?_
        simp
        first | refine hK _ _ ?_ | refine ⟨by omega, hK _ _ ?_⟩ | refine ⟨by omega, by omega, hK _ _ ?_⟩
        clear hK K
        refine AWpM.ret ?_
        have hn2 : oprAt r o.does i = false := by first | exact hn | (rw [hn, hp]; rfl)
        simp [opB, range_not h hn2]
      · rw [q1] at hn
        simp
        refine call_pure (c_sorts_to o.does[i]) (by simp [dgC]) ?_
        simp
        refine hK' _ _ ?_
        clear hK'
        refine SOpsM.look (sz := 0) (kv := pairV (toK o.does[i])) (r := didB (o.does.take i) o.does[i]) lawP_ok rfl rfl rfl (by simp [asked]) (by simp) (by simp [AV.lit, litA, pairV]) ⟨_, _, rfl⟩ (mem_keyP _ _) (by simp) (by simp) ?_
        refine SOpsM.cut 1 rfl fun K2 hK2 => ?_
        simp
        refine hK2 _ _ ?_
        clear hK2
        refine SOpsM.nil ?_
        simp
        refine hK _ _ _ ?_
        clear hK K K' K2
        cases hp : didB (o.does.take i) o.does[i]
        · refine AWpM.cond (t := false) (by simp) (by simp) (fun _ => ?_)
          refine AWpM.skip ?_
          show AWpM _ _ _ _ _ _
          refine AWpM.goSLast [2, 5, 15, 16, 17] [2] fun K hK => ?_
          refine SOpsM.cut 3 rfl fun K' hK' => ?_
          simp
          refine call_pure (c_sorts_to o.does[i]) (by simp [dgC]) ?_
          simp
          refine hK' _ _ ?_
          clear hK'
          refine SOpsM.tell (sz := 0) (kv := pairV (toK o.does[i])) lawP_ok rfl rfl rfl (by simp [asked]) (by simp) (by simp [AV.lit, litA, pairV]) ⟨_, _, rfl⟩ (by simp) ?_
          refine SOpsM.nil ?_
          refine hK _ _ ?_
          clear hK K K'
          show AWpM _ _ _ _ _ _
          refine AWpM.goLast [2, 5, 15, 16, 17] [2] fun K hK => ?_
          simp
          first | refine hK _ _ ?_ | refine ⟨by omega, hK _ _ ?_⟩ | refine ⟨by omega, by omega, hK _ _ ?_⟩
          clear hK K
          refine ⟨i + 1, ⟨by omega, fun k hk => ?_⟩, by omega, ?_⟩
          · by_cases hki : k = i
            · subst hki
              rw [hn, hp]; rfl
            · exact hall k (by omega)
          · rw [List.take_succ_eq_append_getElem h, keyP_snoc]
            simp
            exact wrap64 (by omega) (by omega)
        · refine AWpM.cond (t := true) (by simp) (fun _ => ?_) (by simp)
          refine AWpM.go [4] [] fun K hK => ?_
          simp
          first | refine hK _ _ ?_ | refine ⟨by omega, hK _ _ ?_⟩ | refine ⟨by omega, by omega, hK _ _ ?_⟩
          clear hK K
          refine AWpM.ret ?_
          have hn2 : oprAt r o.does i = false := by first | exact hn | (rw [hn, hp]; rfl)
          simp [opB, range_not h hn2]
    · refine AWpM.cond (t := false) (by first | (simp [h]; done) | (simp [h]; omega)) (by simp) (fun _ => ?_)
      refine AWpM.exit ?_
      show AWpM _ _ _ _ _ _
      obtain rfl : i = o.does.length := by omega
      refine AWpM.go [4] [] fun K hK => ?_
      simp
      first | refine hK _ _ ?_ | refine ⟨by omega, hK _ _ ?_⟩ | refine ⟨by omega, by omega, hK _ _ ?_⟩
      clear hK K
      refine AWpM.ret ?_
      have : (List.range o.does.length).all (oprAt r o.does) = true := range_all hall
      simp [opB, q0, this]
end Go.AM
namespace Go.AM
open Go.Proofs

def keyI (l : List Cl) : List Value := ((l.filter fun c => decide (c.kind = 8)).map fun c => Value.int .i64 c.a).reverse
theorem keyI_snoc (l : List Cl) (c : Cl) : keyI (l ++ [c]) = if c.kind = 8 then .int .i64 c.a :: keyI l else keyI l := by
  unfold keyI
  rw [List.filter_append, List.map_append, List.reverse_append]
  by_cases h : c.kind = 8 <;> simp [h]
def flooredB (l : List Cl) (c : Cl) : Bool := l.any fun x => decide (x.kind = 8) && decide (x.a = c.a)
theorem mem_keyI (l : List Cl) (c : Cl) : flooredB l c = true ↔ Value.int .i64 c.a ∈ keyI l := by
  simp only [flooredB, List.any_eq_true, Bool.and_eq_true, decide_eq_true_eq, keyI, List.mem_reverse, List.mem_map, List.mem_filter]
  constructor
  · rintro ⟨x, hx, h1, h2⟩; exact ⟨x, ⟨hx, h1⟩, by rw [h2]⟩
  · rintro ⟨x, ⟨hx, h1⟩, h⟩; exact ⟨x, hx, h1, by simpa using h⟩
def floorAt (l : List Cl) (i : Nat) : Bool := match l[i]? with
  | some c => !(decide (c.kind = 8) && flooredB (l.take i) c)
  | none => false
theorem floorAt_at {l : List Cl} {i : Nat} (h : i < l.length) : floorAt l i = !(decide (l[i].kind = 8) && flooredB (l.take i) l[i]) := by simp [floorAt, h]
def floorsB (l : List Cl) : Bool := (List.range l.length).all (floorAt l)
def lawI : MapLaw := ⟨129, 3, 4, MapKept.IsKey (.int .i64)⟩
theorem lawI_ok : lawI.Ok Tryz.prog := mapLaw_flat Tryz.underlying129 Tryz.underlying3 Tryz.zeroValue4
set_option maxRecDepth 8000 in
set_option maxHeartbeats 4000000 in
theorem c_sorts_least (r : Rul) (hr : Slight r) : Pure Tryz.prog 80 [.agg (rulC r)] (.b (floorsB r.cls)) := by
  obtain ⟨h1, h2, h3, h4, h5⟩ := hr
  refine proc_of (cx Tryz.prog 25 [1, 2, 3, 5, 8, 9, 10, 11, 16, 20] [2]) 24 [.tmp 2] Tryz.func80 rfl rfl rfl rfl rfl rfl (Nat.le_refl _) rfl ?_
  refine AWpM.toAWp (M := lawI) ?_
  refine AWpM.go [1] [1] fun K hK => ?_
  simp [rulC]
  first | refine hK _ _ ?_ | refine ⟨by omega, hK _ _ ?_⟩ | refine ⟨by omega, by omega, hK _ _ ?_⟩
  clear hK K
  refine AWpM.goS [1, 3] [1] fun K hK => ?_
  refine SOpsM.make (M := lawI) rfl rfl rfl (by simp [asked]) (by simp) (by simp) fun b => ?_
  refine SOpsM.cut 1 rfl fun K' hK' => ?_
  simp
  refine hK' _ _ ?_
  clear hK'
  refine SOpsM.nil ?_
  simp
  refine hK _ _ _ ?_
  clear hK K K'
  refine AWpM.seq ?_
  refine AWpM.go [3, 8, 9, 10] [] fun K hK => ?_
  simp
  first | refine hK _ _ ?_ | refine ⟨by omega, hK _ _ ?_⟩ | refine ⟨by omega, by omega, hK _ _ ?_⟩
  clear hK K
  refine AWpM.block (AWpM.while (fun i : Nat => [(3, .mp b), (8, .sl .fro 5 (clsAV r.cls)), (9, .i .i64 r.cls.length), (10, .i .i64 i)]) (fun i => []) (fun i => some (.map b (keyI (r.cls.take i)))) (fun i => i ≤ r.cls.length ∧ ∀ k, k < i → floorAt r.cls k = true) (fun i => r.cls.length - i) [3, 8, 9, 10] [] 0 (by simp) (by simp [keyI]) ?_)
  rintro i ⟨hi, hall⟩
  refine AWpM.go [3, 8, 9, 10, 11] [] fun K hK => ?_
  simp
  first | refine hK _ _ ?_ | refine ⟨by omega, hK _ _ ?_⟩ | refine ⟨by omega, by omega, hK _ _ ?_⟩
  clear hK K
  refine AWpM.seq ?_
  by_cases h : i < r.cls.length
  · refine AWpM.cond (t := true) (by first | (simp [h]; done) | (simp [h]; omega)) (fun _ => ?_) (by simp)
    refine AWpM.skip ?_
    show AWpM _ _ _ _ _ _
    refine AWpM.seq ?_
    refine AWpM.block ?_
    refine AWpM.go [3, 5, 8, 9, 10] [5] fun K hK => ?_
    simp [h]
    first | refine hK _ _ ?_ | refine ⟨by omega, hK _ _ ?_⟩ | refine ⟨by omega, by omega, hK _ _ ?_⟩
    clear hK K
    refine AWpM.seq ?_
    have hn := floorAt_at h
    refine AWpM.step [3, 5, 8, 9, 10, 16] [5] [(3, .mp b), (5, .ptr 5 0), (8, .sl .fro 5 (clsAV r.cls)), (9, .i .i64 r.cls.length), (10, .i .i64 i), (16, .b (!decide (r.cls[i].kind = 8)))] [(5, [.i .i64 r.cls[i].kind, .b r.cls[i].strict, .i .i64 r.cls[i].a, .i .i64 r.cls[i].b, .i .i64 r.cls[i].num])] ?_ ?_
    · simp
    by_cases q8 : r.cls[i].kind = 8
    · refine AWpM.cond (t := false) (by first | (simp [q8]; done) | (simp [q8]; omega)) (by simp) (fun _ => ?_)
      refine AWpM.skip ?_
      show AWpM _ _ _ _ _ _
      refine AWpM.seq ?_
      refine AWpM.goS [3, 5, 8, 9, 10, 20] [5] fun K hK => ?_
      refine SOpsM.cut 3 rfl fun K' hK' => ?_
      simp
      refine hK' _ _ ?_
      clear hK'
      refine SOpsM.look (sz := 0) (kv := .int .i64 r.cls[i].a) (r := flooredB (r.cls.take i) r.cls[i]) lawI_ok rfl rfl rfl (by simp [asked]) (by simp) (by simp [AV.lit]) rfl (mem_keyI _ _) (by simp) (by simp) ?_
      refine SOpsM.nil ?_
      simp
      refine hK _ _ _ ?_
      clear hK K K'
      cases hp : flooredB (r.cls.take i) r.cls[i]
      · refine AWpM.cond (t := false) (by simp) (by simp) (fun _ => ?_)
        refine AWpM.skip ?_
        show AWpM _ _ _ _ _ _
        refine AWpM.goSLast [3, 8, 9, 10] [] fun K hK => ?_
        refine SOpsM.cut 3 rfl fun K' hK' => ?_
        simp
        refine hK' _ _ ?_
        clear hK'
        refine SOpsM.tell (sz := 0) (kv := .int .i64 r.cls[i].a) lawI_ok rfl rfl rfl (by simp [asked]) (by simp) (by simp [AV.lit]) rfl (by simp) ?_
        refine SOpsM.nil ?_
        refine hK _ _ ?_
        clear hK K K'
        show AWpM _ _ _ _ _ _
        refine AWpM.goLast [3, 8, 9, 10] [] fun K hK => ?_
        simp
        first | refine hK _ _ ?_ | refine ⟨by omega, hK _ _ ?_⟩ | refine ⟨by omega, by omega, hK _ _ ?_⟩
        clear hK K
        refine ⟨i + 1, ⟨by omega, fun k hk => ?_⟩, by omega, ?_⟩
        · by_cases hki : k = i
          · subst hki
            first | (rw [hn, hp]; simp; done) | (rw [hn]; simp [q8])
          · exact hall k (by omega)
        · rw [List.take_succ_eq_append_getElem h, keyI_snoc]
          simp [q8]
          exact wrap64 (by omega) (by omega)
      · refine AWpM.cond (t := true) (by simp) (fun _ => ?_) (by simp)
        refine AWpM.go [2] [] fun K hK => ?_
        simp
        first | refine hK _ _ ?_ | refine ⟨by omega, hK _ _ ?_⟩ | refine ⟨by omega, by omega, hK _ _ ?_⟩
        clear hK K
        refine AWpM.ret ?_
        have hn2 : floorAt r.cls i = false := by rw [hn, hp]; simp [q8]
        simp [floorsB, range_not h hn2]
    · refine AWpM.cond (t := true) (by first | (simp [q8]; done) | (simp [q8]; omega)) (fun _ => ?_) (by simp)
      refine AWpM.exit ?_
      show AWpM _ _ _ _ _ _
      refine AWpM.goLast [3, 8, 9, 10] [] fun K hK => ?_
      simp
      first | refine hK _ _ ?_ | refine ⟨by omega, hK _ _ ?_⟩ | refine ⟨by omega, by omega, hK _ _ ?_⟩
      clear hK K
      refine ⟨i + 1, ⟨by omega, fun k hk => ?_⟩, by omega, ?_⟩
      · by_cases hki : k = i
        · subst hki
          first | (rw [hn, hp]; simp; done) | (rw [hn]; simp [q8])
        · exact hall k (by omega)
      · rw [List.take_succ_eq_append_getElem h, keyI_snoc]
        simp [q8]
        exact wrap64 (by omega) (by omega)
  · refine AWpM.cond (t := false) (by first | (simp [h]; done) | (simp [h]; omega)) (by simp) (fun _ => ?_)
    refine AWpM.exit ?_
    show AWpM _ _ _ _ _ _
    obtain rfl : i = r.cls.length := by omega
    refine AWpM.go [2] [] fun K hK => ?_
    simp
    first | refine hK _ _ ?_ | refine ⟨by omega, hK _ _ ?_⟩ | refine ⟨by omega, by omega, hK _ _ ?_⟩
    clear hK K
    refine AWpM.ret ?_
    have : floorsB r.cls = true := range_all hall
    simp [this]
set_option maxRecDepth 8000 in
theorem c_IndexFunc1_Cl (l : List Cl) (g : Nat) (p : Cl → Bool) (cs : List AV) (hc : Calm cs) (hg : ∀ n ∈ l, Proc Tryz.prog 1 g [.agg (clC n), .ptr 0 0] [(0, cs)] (.b (p n)) [(0, cs)]) (hl : l.length ≤ 1000000) : Proc Tryz.prog 1 126 [.sl .fro 5 (clsAV l), .fn g [] [.ptr 0 0]] [(0, cs)] (.i .i64 (idxI p l)) [(0, cs)] := by
  refine proc_of (cxb Tryz.prog 19 1 [0, 1, 4, 5, 7, 8, 9, 16] [] [4]) 17 [.tmp 4] Tryz.func126 rfl rfl rfl rfl rfl rfl (Nat.le_refl _) rfl ?_
  refine AWp.go [0, 1] [0] fun K hK => ?_
  simp [hc]
  first | refine hK _ _ ?_ | refine ⟨by omega, hK _ _ ?_⟩ | refine ⟨by omega, by omega, hK _ _ ?_⟩
  clear hK K
  refine AWp.seq ?_
  refine AWp.go [0, 1, 7, 8] [0] fun K hK => ?_
  simp [hc]
  first | refine hK _ _ ?_ | refine ⟨by omega, hK _ _ ?_⟩ | refine ⟨by omega, by omega, hK _ _ ?_⟩
  clear hK K
  refine AWp.block (AWp.while (fun i : Nat => [(0, .sl .fro 5 (clsAV l)), (1, .fn g [] [.ptr 0 0]), (7, .i .i64 l.length), (8, .i .i64 i)]) (fun i => [(0, cs)]) (fun i => i ≤ l.length ∧ ∀ k (hk : k < i) (hk2 : k < l.length), p l[k] = false) (fun i => l.length - i) [0, 1, 7, 8] [0] 0 (by simp) (by simp [hc]) ?_)
  rintro i ⟨hi, hall⟩
  refine AWp.go [0, 1, 7, 8, 9] [0] fun K hK => ?_
  simp [hc]
  first | refine hK _ _ ?_ | refine ⟨by omega, hK _ _ ?_⟩ | refine ⟨by omega, by omega, hK _ _ ?_⟩
  clear hK K
  refine AWp.seq ?_
  by_cases h : i < l.length
  · refine AWp.cond (t := true) (by first | (simp [h]; done) | (simp [h]; omega)) (fun _ => ?_) (by simp)
    refine AWp.skip ?_
    show AWp _ _ _ _
    refine AWp.seq ?_
    refine AWp.block ?_
    refine AWp.go [0, 1, 5, 7, 8] [0] fun K hK => ?_
    simp [hc]
    first | refine hK _ _ ?_ | refine ⟨by omega, hK _ _ ?_⟩ | refine ⟨by omega, by omega, hK _ _ ?_⟩
    clear hK K
    refine AWp.go [0, 1, 5, 7, 8, 16] [0] fun K hK => ?_
    simp [h, hc]
    refine call_proc [(0, 0)] none (hg l[i] (List.getElem_mem h)) (by simp [clC]) (by simp) ?_
    simp [h, hc]
    refine ⟨by simpa using hc.still, hK _ _ ?_⟩
    clear hK K
    cases hp : p l[i]
    · refine AWp.cond (t := false) (by simp) (by simp) (fun _ => ?_)
      refine AWp.skip ?_
      show AWp _ _ _ _
      refine AWp.goLast [0, 1, 7, 8] [0] fun K hK => ?_
      simp [hc]
      first | refine hK _ _ ?_ | refine ⟨by omega, hK _ _ ?_⟩ | refine ⟨by omega, by omega, hK _ _ ?_⟩
      clear hK K
      refine ⟨i + 1, ⟨by omega, fun k hk hk2 => ?_⟩, by omega, ?_⟩
      · by_cases hki : k = i
        · subst hki; exact hp
        · exact hall k (by omega) hk2
      · simp [hc]
        exact wrap64 (by omega) (by omega)
    · refine AWp.cond (t := true) (by simp) (fun _ => ?_) (by simp)
      refine AWp.go [4] [0] fun K hK => ?_
      simp [hc]
      first | refine hK _ _ ?_ | refine ⟨by omega, hK _ _ ?_⟩ | refine ⟨by omega, by omega, hK _ _ ?_⟩
      clear hK K
      refine AWp.ret ?_
      rw [idxI_at p l i h (fun k hk => hall k hk (by omega)) hp]
      simp [hc]
      simpa using hc.still
  · refine AWp.cond (t := false) (by first | (simp [h]; done) | (simp [h]; omega)) (by simp) (fun _ => ?_)
    refine AWp.exit ?_
    show AWp _ _ _ _
    refine AWp.go [4] [0] fun K hK => ?_
    simp [hc]
    first | refine hK _ _ ?_ | refine ⟨by omega, hK _ _ ?_⟩ | refine ⟨by omega, by omega, hK _ _ ?_⟩
    clear hK K
    refine AWp.ret ?_
    rw [idxI_none p l fun k hk => hall k (by omega) hk]
    simp [hc]
    simpa using hc.still

theorem c_ContainsFunc1_Cl (l : List Cl) (g : Nat) (p : Cl → Bool) (cs : List AV) (hc : Calm cs) (hg : ∀ n ∈ l, Proc Tryz.prog 1 g [.agg (clC n), .ptr 0 0] [(0, cs)] (.b (p n)) [(0, cs)]) (hl : l.length ≤ 1000000) : Proc Tryz.prog 1 81 [.sl .fro 5 (clsAV l), .fn g [] [.ptr 0 0]] [(0, cs)] (.b (l.any p)) [(0, cs)] := by
  refine proc_of (cxb Tryz.prog 9 1 [0, 1, 4] [] [4]) 7 [.tmp 4] Tryz.func81 rfl rfl rfl rfl rfl rfl (Nat.le_refl _) rfl ?_
  refine AWp.go [0, 1] [0] fun K hK => ?_
  simp [hc]
  first | refine hK _ _ ?_ | refine ⟨by omega, hK _ _ ?_⟩ | refine ⟨by omega, by omega, hK _ _ ?_⟩
  clear hK K
  refine AWp.go [4] [0] fun K hK => ?_
  simp [hc]
  refine call_proc [(0, 0)] none (c_IndexFunc1_Cl l g p cs hc hg hl) (by simp) (by simp) ?_
  simp [hc]
  refine ⟨by simpa using hc.still, hK _ _ ?_⟩
  clear hK K
  refine AWp.ret ?_
  rw [← idxI_ge]
  simp [hc]
  simpa using hc.still
set_option maxRecDepth 8000 in
theorem c_IndexFunc1_Opn (l : List Opn) (g : Nat) (p : Opn → Bool) (cs : List AV) (hc : Calm cs) (hg : ∀ n ∈ l, Proc Tryz.prog 1 g [.agg (opnC n), .ptr 0 0] [(0, cs)] (.b (p n)) [(0, cs)]) (hl : l.length ≤ 1000000) : Proc Tryz.prog 1 129 [.sl .fro 2 (opnsAV l), .fn g [] [.ptr 0 0]] [(0, cs)] (.i .i64 (idxI p l)) [(0, cs)] := by
  refine proc_of (cxb Tryz.prog 19 1 [0, 1, 4, 5, 7, 8, 9, 16] [] [4]) 17 [.tmp 4] Tryz.func129 rfl rfl rfl rfl rfl rfl (Nat.le_refl _) rfl ?_
  refine AWp.go [0, 1] [0] fun K hK => ?_
  simp [hc]
  first | refine hK _ _ ?_ | refine ⟨by omega, hK _ _ ?_⟩ | refine ⟨by omega, by omega, hK _ _ ?_⟩
  clear hK K
  refine AWp.seq ?_
  refine AWp.go [0, 1, 7, 8] [0] fun K hK => ?_
  simp [hc]
  first | refine hK _ _ ?_ | refine ⟨by omega, hK _ _ ?_⟩ | refine ⟨by omega, by omega, hK _ _ ?_⟩
  clear hK K
  refine AWp.block (AWp.while (fun i : Nat => [(0, .sl .fro 2 (opnsAV l)), (1, .fn g [] [.ptr 0 0]), (7, .i .i64 l.length), (8, .i .i64 i)]) (fun i => [(0, cs)]) (fun i => i ≤ l.length ∧ ∀ k (hk : k < i) (hk2 : k < l.length), p l[k] = false) (fun i => l.length - i) [0, 1, 7, 8] [0] 0 (by simp) (by simp [hc]) ?_)
  rintro i ⟨hi, hall⟩
  refine AWp.go [0, 1, 7, 8, 9] [0] fun K hK => ?_
  simp [hc]
  first | refine hK _ _ ?_ | refine ⟨by omega, hK _ _ ?_⟩ | refine ⟨by omega, by omega, hK _ _ ?_⟩
  clear hK K
  refine AWp.seq ?_
  by_cases h : i < l.length
  · refine AWp.cond (t := true) (by first | (simp [h]; done) | (simp [h]; omega)) (fun _ => ?_) (by simp)
    refine AWp.skip ?_
    show AWp _ _ _ _
    refine AWp.seq ?_
    refine AWp.block ?_
    refine AWp.go [0, 1, 5, 7, 8] [0] fun K hK => ?_
    simp [hc]
    first | refine hK _ _ ?_ | refine ⟨by omega, hK _ _ ?_⟩ | refine ⟨by omega, by omega, hK _ _ ?_⟩
    clear hK K
    refine AWp.go [0, 1, 5, 7, 8, 16] [0] fun K hK => ?_
    simp [h, hc]
    refine call_proc [(0, 0)] none (hg l[i] (List.getElem_mem h)) (by simp [opnC]) (by simp) ?_
    simp [h, hc]
    refine ⟨by simpa using hc.still, hK _ _ ?_⟩
    clear hK K
    cases hp : p l[i]
    · refine AWp.cond (t := false) (by simp) (by simp) (fun _ => ?_)
      refine AWp.skip ?_
      show AWp _ _ _ _
      refine AWp.goLast [0, 1, 7, 8] [0] fun K hK => ?_
      simp [hc]
      first | refine hK _ _ ?_ | refine ⟨by omega, hK _ _ ?_⟩ | refine ⟨by omega, by omega, hK _ _ ?_⟩
      clear hK K
      refine ⟨i + 1, ⟨by omega, fun k hk hk2 => ?_⟩, by omega, ?_⟩
      · by_cases hki : k = i
        · subst hki; exact hp
        · exact hall k (by omega) hk2
      · simp [hc]
        exact wrap64 (by omega) (by omega)
    · refine AWp.cond (t := true) (by simp) (fun _ => ?_) (by simp)
      refine AWp.go [4] [0] fun K hK => ?_
      simp [hc]
      first | refine hK _ _ ?_ | refine ⟨by omega, hK _ _ ?_⟩ | refine ⟨by omega, by omega, hK _ _ ?_⟩
      clear hK K
      refine AWp.ret ?_
      rw [idxI_at p l i h (fun k hk => hall k hk (by omega)) hp]
      simp [hc]
      simpa using hc.still
  · refine AWp.cond (t := false) (by first | (simp [h]; done) | (simp [h]; omega)) (by simp) (fun _ => ?_)
    refine AWp.exit ?_
    show AWp _ _ _ _
    refine AWp.go [4] [0] fun K hK => ?_
    simp [hc]
    first | refine hK _ _ ?_ | refine ⟨by omega, hK _ _ ?_⟩ | refine ⟨by omega, by omega, hK _ _ ?_⟩
    clear hK K
    refine AWp.ret ?_
    rw [idxI_none p l fun k hk => hall k (by omega) hk]
    simp [hc]
    simpa using hc.still

theorem c_ContainsFunc1_Opn (l : List Opn) (g : Nat) (p : Opn → Bool) (cs : List AV) (hc : Calm cs) (hg : ∀ n ∈ l, Proc Tryz.prog 1 g [.agg (opnC n), .ptr 0 0] [(0, cs)] (.b (p n)) [(0, cs)]) (hl : l.length ≤ 1000000) : Proc Tryz.prog 1 84 [.sl .fro 2 (opnsAV l), .fn g [] [.ptr 0 0]] [(0, cs)] (.b (l.any p)) [(0, cs)] := by
  refine proc_of (cxb Tryz.prog 9 1 [0, 1, 4] [] [4]) 7 [.tmp 4] Tryz.func84 rfl rfl rfl rfl rfl rfl (Nat.le_refl _) rfl ?_
  refine AWp.go [0, 1] [0] fun K hK => ?_
  simp [hc]
  first | refine hK _ _ ?_ | refine ⟨by omega, hK _ _ ?_⟩ | refine ⟨by omega, by omega, hK _ _ ?_⟩
  clear hK K
  refine AWp.go [4] [0] fun K hK => ?_
  simp [hc]
  refine call_proc [(0, 0)] none (c_IndexFunc1_Opn l g p cs hc hg hl) (by simp) (by simp) ?_
  simp [hc]
  refine ⟨by simpa using hc.still, hK _ _ ?_⟩
  clear hK K
  refine AWp.ret ?_
  rw [← idxI_ge]
  simp [hc]
  simpa using hc.still
theorem c_sorts_Check1 (r : Rul) (hr : Slight r) (c : Cl) : Proc Tryz.prog 1 82 [.agg (clC c), .ptr 0 0] [(0, [.sl .fro 1 (strsAV r.sets), .sl .fro 1 (strsAV r.counts), .sl .fro 1 (strsAV r.notes), .sl .fro 5 (clsAV r.cls), .sl .fro 2 (opnsAV r.opers)])] (.b (!clB r c)) [(0, [.sl .fro 1 (strsAV r.sets), .sl .fro 1 (strsAV r.counts), .sl .fro 1 (strsAV r.notes), .sl .fro 5 (clsAV r.cls), .sl .fro 2 (opnsAV r.opers)])] := by
  have gc := c_sorts_clause r hr c
  simp [rulC, clC] at gc
  refine proc_of (cxb Tryz.prog 8 1 [1, 2, 3] [] [3]) 6 [.tmp 3] Tryz.func82 rfl rfl rfl rfl rfl rfl (Nat.le_refl _) rfl ?_
  refine AWp.go [1, 2] [0, 3] fun K hK => ?_
  simp [clC]
  first | refine hK _ _ ?_ | refine ⟨by omega, hK _ _ ?_⟩ | refine ⟨by omega, by omega, hK _ _ ?_⟩
  clear hK K
  refine AWp.go [3] [0] fun K hK => ?_
  simp
  refine call_pure gc (by simp) ?_
  simp
  first | refine hK _ _ ?_ | refine ⟨by omega, hK _ _ ?_⟩ | refine ⟨by omega, by omega, hK _ _ ?_⟩
  clear hK K
  refine AWp.ret ?_
  simp
theorem c_sorts_Check2 (r : Rul) (hr : Slight r) (o : Opn) (ho : o.does.length ≤ 1000) : Proc Tryz.prog 1 85 [.agg (opnC o), .ptr 0 0] [(0, [.sl .fro 1 (strsAV r.sets), .sl .fro 1 (strsAV r.counts), .sl .fro 1 (strsAV r.notes), .sl .fro 5 (clsAV r.cls), .sl .fro 2 (opnsAV r.opers)])] (.b (!opB r o)) [(0, [.sl .fro 1 (strsAV r.sets), .sl .fro 1 (strsAV r.counts), .sl .fro 1 (strsAV r.notes), .sl .fro 5 (clsAV r.cls), .sl .fro 2 (opnsAV r.opers)])] := by
  have gc := c_sorts_oper r hr o ho
  simp [rulC, opnC] at gc
  refine proc_of (cxb Tryz.prog 8 1 [1, 2, 3] [] [3]) 6 [.tmp 3] Tryz.func85 rfl rfl rfl rfl rfl rfl (Nat.le_refl _) rfl ?_
  refine AWp.go [1, 2] [0, 3] fun K hK => ?_
  simp [opnC]
  first | refine hK _ _ ?_ | refine ⟨by omega, hK _ _ ?_⟩ | refine ⟨by omega, by omega, hK _ _ ?_⟩
  clear hK K
  refine AWp.go [3] [0] fun K hK => ?_
  simp
  refine call_pure gc (by simp) ?_
  simp
  first | refine hK _ _ ?_ | refine ⟨by omega, hK _ _ ?_⟩ | refine ⟨by omega, by omega, hK _ _ ?_⟩
  clear hK K
  refine AWp.ret ?_
  simp
def lensB (r : Rul) : Bool := !decide ((6 : Int) < r.sets.length) && !decide ((4 : Int) < r.counts.length) && !decide ((3 : Int) < r.notes.length) && !decide ((16 : Int) < r.opers.length) && !decide ((12 : Int) < r.cls.length)
def headB (r : Rul) : Bool := lensB r && namedB (allN r) && floorsB r.cls
def rulesB (r : Rul) : Bool := headB r && r.cls.all (clB r) && r.opers.all (opB r)
/-- Rules that are not great, in all that they have. -/
def Slim (r : Rul) : Prop := Slight r ∧ (∀ o ∈ r.opers, o.does.length ≤ 1000) ∧ ∀ s ∈ allN r, s.size ≤ 1000
theorem allN_len {r : Rul} (h : Slight r) : (allN r).length ≤ 1000 := by
  obtain ⟨h1, h2, h3, h4, h5⟩ := h
  simp [allN]; omega
theorem any_not_all {α : Type} (l : List α) (p : α → Bool) : (l.any fun x => !p x) = !l.all p := by
  induction l with
  | nil => rfl
  | cons a l ih => simp only [List.any_cons, List.all_cons, ih]; cases p a <;> simp
set_option maxRecDepth 8000 in
set_option maxHeartbeats 8000000 in
theorem c_sorts_Check (r : Rul) (hr : Slim r) : Pure Tryz.prog 46 [.agg (rulC r)] (.i .i64 (if rulesB r then 0 else 1)) := by
  obtain ⟨hs, hd, hn⟩ := hr
  have gn := c_sorts_names r hs
  have gm := c_sorts_named (allN r) (allN_len hs)
  have gl := c_sorts_least r hs
  simp [rulC] at gn gl
  have g1 := c_ContainsFunc1_Cl r.cls 82 (fun c => !clB r c) [.sl .fro 1 (strsAV r.sets), .sl .fro 1 (strsAV r.counts), .sl .fro 1 (strsAV r.notes), .sl .fro 5 (clsAV r.cls), .sl .fro 2 (opnsAV r.opers)] (fun c hc => by simp at hc; rcases hc with rfl | rfl | rfl | rfl | rfl <;> rfl) (fun c _ => c_sorts_Check1 r hs c) (by have := hs.2.2.2.1; omega)
  have g2 := c_ContainsFunc1_Opn r.opers 85 (fun o => !opB r o) [.sl .fro 1 (strsAV r.sets), .sl .fro 1 (strsAV r.counts), .sl .fro 1 (strsAV r.notes), .sl .fro 5 (clsAV r.cls), .sl .fro 2 (opnsAV r.opers)] (fun c hc => by simp at hc; rcases hc with rfl | rfl | rfl | rfl | rfl <;> rfl) (fun o ho => c_sorts_Check2 r hs o (hd o ho)) (by have := hs.2.2.2.2; omega)
  rw [any_not_all] at g1 g2
  refine proc_of (cx Tryz.prog 52 [1, 2, 41, 51] [2]) 51 [.tmp 2] Tryz.func46 rfl rfl rfl rfl rfl rfl (Nat.le_refl _) rfl ?_
  refine AWp.go [1] [1] fun K hK => ?_
  simp [rulC]
  first | refine hK _ _ ?_ | refine ⟨by omega, hK _ _ ?_⟩ | refine ⟨by omega, by omega, hK _ _ ?_⟩
  clear hK K
  refine AWp.seq ?_
  refine AWp.step [1, 41] [1] [(1, .ptr 1 0), (41, .b (!headB r))] [(1, [.sl .fro 1 (strsAV r.sets), .sl .fro 1 (strsAV r.counts), .sl .fro 1 (strsAV r.notes), .sl .fro 5 (clsAV r.cls), .sl .fro 2 (opnsAV r.opers)])] ?_ ?_
  · by_cases q1 : (6 : Int) < r.sets.length
    · simp [q1, headB, lensB]
    by_cases q2 : (4 : Int) < r.counts.length
    · simp [q1, q2, headB, lensB]
    by_cases q3 : (3 : Int) < r.notes.length
    · simp [q1, q2, q3, headB, lensB]
    by_cases q4 : (16 : Int) < r.opers.length
    · simp [q1, q2, q3, q4, headB, lensB]
    by_cases q5 : (12 : Int) < r.cls.length
    · simp [q1, q2, q3, q4, q5, headB, lensB]
    simp [q1, q2, q3, q4, q5]
    refine call_pure gn (by simp) ?_
    simp
    refine call_pure gm (by simp) ?_
    cases q6 : namedB (allN r)
    · simp [q1, q2, q3, q4, q5, q6, headB, lensB]
    simp
    refine call_pure gl (by simp) ?_
    simp [q1, q2, q3, q4, q5, q6, headB, lensB]
  cases hh : headB r
  · refine AWp.cond (t := true) (by simp) (fun _ => ?_) (by simp)
    refine AWp.go [2] [1] fun K hK => ?_
    simp
    first | refine hK _ _ ?_ | refine ⟨by omega, hK _ _ ?_⟩ | refine ⟨by omega, by omega, hK _ _ ?_⟩
    clear hK K
    refine AWp.ret ?_
    simp [rulesB, hh]
  · refine AWp.cond (t := false) (by simp) (by simp) (fun _ => ?_)
    refine AWp.skip ?_
    show AWp _ _ _ _
    refine AWp.seq ?_
    refine AWp.step [51] [1] [(51, .b (!(r.cls.all (clB r) && r.opers.all (opB r))))] [(1, [.sl .fro 1 (strsAV r.sets), .sl .fro 1 (strsAV r.counts), .sl .fro 1 (strsAV r.notes), .sl .fro 5 (clsAV r.cls), .sl .fro 2 (opnsAV r.opers)])] ?_ ?_
    · simp
      refine call_proc [(0, 1)] none g1 (by simp) (by simp) ?_
      cases q1 : r.cls.all (clB r)
      · simp
      simp
      refine call_proc [(0, 1)] none g2 (by simp) (by simp) ?_
      simp
    cases hq : r.cls.all (clB r) && r.opers.all (opB r)
    · refine AWp.cond (t := true) (by simp) (fun _ => ?_) (by simp)
      refine AWp.go [2] [1] fun K hK => ?_
      simp
      first | refine hK _ _ ?_ | refine ⟨by omega, hK _ _ ?_⟩ | refine ⟨by omega, by omega, hK _ _ ?_⟩
      clear hK K
      refine AWp.ret ?_
      simp [rulesB, hh, hq]
    · refine AWp.cond (t := false) (by simp) (by simp) (fun _ => ?_)
      refine AWp.skip ?_
      show AWp _ _ _ _
      refine AWp.go [2] [1] fun K hK => ?_
      simp
      first | refine hK _ _ ?_ | refine ⟨by omega, hK _ _ ?_⟩ | refine ⟨by omega, by omega, hK _ _ ?_⟩
      clear hK K
      refine AWp.ret ?_
      simp [rulesB, hh, hq]
end Go.AM
namespace Go.AM
open Go.Proofs
def inI (n m : Int) : Bool := decide (0 ≤ n) && decide (n < m)
def sortN (k : Int) : Nat := if k = 1 ∨ k = 2 then 1 else if k = 3 ∨ k = 4 then 2 else if k = 6 then 3 else 0
def clashK (d x : Dg) : Bool := decide (sortN x.kind = sortN d.kind) && decide (x.thing = d.thing)
def opRAt (r : Rul) (l : List Dg) (i : Nat) : Bool := match l[i]? with
  | some d => doB r d && !(l.take i).any (clashK d)
  | none => false
def manyL (r : Rul) : List Int := [0, r.sets.length, r.counts.length, r.notes.length]
def badD (r : Rul) (d : Dg) : Bool := !inI d.thing ((manyL r).getD (sortN d.kind) 0) || (decide (sortN d.kind = 2) && (decide (d.num < 1) || decide (1000 < d.num))) || (!decide (sortN d.kind = 2) && !decide (d.num = 0))
end Go.AM
namespace Go.AM
open Go.Proofs
def fewB (r : Rul) : Bool := !decide ((20 : Int) < r.sets.length) && !decide ((20 : Int) < r.counts.length) && !decide ((20 : Int) < r.notes.length) && !decide ((30 : Int) < r.cls.length) && !decide ((30 : Int) < r.opers.length)
def slimB (r : Rul) : Bool := fewB r && (allN r).all (fun s => !decide ((100 : Int) < s.size)) && r.opers.all (fun o => !decide ((20 : Int) < o.does.length))
theorem few_slight {r : Rul} (h : fewB r = true) : Slight r := by
  simp only [fewB, Bool.and_eq_true, Bool.not_eq_true', decide_eq_false_iff_not] at h
  unfold Slight
  omega
theorem slim_of {r : Rul} (h : slimB r = true) : Slim r := by
  simp only [slimB, Bool.and_eq_true, List.all_eq_true, Bool.not_eq_true', decide_eq_false_iff_not] at h
  exact ⟨few_slight h.1.1, fun o ho => by have := h.2 o ho; omega, fun s hs => by have := h.1.2 s hs; omega⟩
set_option maxRecDepth 8000 in
set_option maxHeartbeats 4000000 in
theorem c_law16_Light (r : Rul) : Pure Tryz.prog 6 [.agg (rulC r)] (.b (slimB r)) := by
  refine proc_of (cx Tryz.prog 63 [1, 2, 3, 4, 5, 33, 39, 47, 52, 62] [2]) 62 [.tmp 2] Tryz.func6 rfl rfl rfl rfl rfl rfl (Nat.le_refl _) rfl ?_
  refine AWp.go [1] [1] fun K hK => ?_
  simp [rulC]
  first | refine hK _ _ ?_ | refine ⟨by omega, hK _ _ ?_⟩ | refine ⟨by omega, by omega, hK _ _ ?_⟩
  clear hK K
  refine AWp.seq ?_
  refine AWp.step [1, 33] [1] [(1, .ptr 1 0), (33, .b (!fewB r))] [(1, [.sl .fro 1 (strsAV r.sets), .sl .fro 1 (strsAV r.counts), .sl .fro 1 (strsAV r.notes), .sl .fro 5 (clsAV r.cls), .sl .fro 2 (opnsAV r.opers)])] ?_ ?_
  · by_cases q1 : (20 : Int) < r.sets.length
    · simp [q1, fewB]
    by_cases q2 : (20 : Int) < r.counts.length
    · simp [q1, q2, fewB]
    by_cases q3 : (20 : Int) < r.notes.length
    · simp [q1, q2, q3, fewB]
    by_cases q4 : (30 : Int) < r.cls.length
    · simp [q1, q2, q3, q4, fewB]
    by_cases q5 : (30 : Int) < r.opers.length <;> simp [q1, q2, q3, q4, q5, fewB]
  cases hh : fewB r
  · refine AWp.cond (t := true) (by simp) (fun _ => ?_) (by simp)
    refine AWp.go [2] [1] fun K hK => ?_
    simp
    first | refine hK _ _ ?_ | refine ⟨by omega, hK _ _ ?_⟩ | refine ⟨by omega, by omega, hK _ _ ?_⟩
    clear hK K
    refine AWp.ret ?_
    simp [slimB, hh]
  · refine AWp.cond (t := false) (by simp) (by simp) (fun _ => ?_)
    refine AWp.skip ?_
    show AWp _ _ _ _
    have hs := few_slight hh
    have gn := c_ref16_All r hs
    have hal := allN_len hs
    have ho5 := hs.2.2.2.2
    simp [rulC] at gn
    refine AWp.go [1, 3] [1] fun K hK => ?_
    simp
    refine call_pure gn (by simp) ?_
    simp
    first | refine hK _ _ ?_ | refine ⟨by omega, hK _ _ ?_⟩ | refine ⟨by omega, by omega, hK _ _ ?_⟩
    clear hK K
    obtain ⟨A, hA⟩ : ∃ A, A = allN r := ⟨_, rfl⟩
    rw [← hA] at hal ⊢
    refine AWp.seq ?_
    refine AWp.go [1, 3, 4] [1] fun K hK => ?_
    simp
    first | refine hK _ _ ?_ | refine ⟨by omega, hK _ _ ?_⟩ | refine ⟨by omega, by omega, hK _ _ ?_⟩
    clear hK K
    refine AWp.block (AWp.while (fun i : Nat => [(1, .ptr 1 0), (3, .sl .own 1 (strsAV A)), (4, .i .i64 i)]) (fun i => [(1, [.sl .fro 1 (strsAV r.sets), .sl .fro 1 (strsAV r.counts), .sl .fro 1 (strsAV r.notes), .sl .fro 5 (clsAV r.cls), .sl .fro 2 (opnsAV r.opers)])]) (fun i => i ≤ A.length ∧ ∀ k (hk : k < i) (hk2 : k < A.length), (!decide ((100 : Int) < A[k].size)) = true) (fun i => A.length - i) [1, 3, 4] [1] 0 (by simp) (by simp) ?_)
    rintro i ⟨hi, hall⟩
    refine AWp.seq ?_
    refine AWp.go [1, 3, 4, 39] [1] fun K hK => ?_
    simp
    first | refine hK _ _ ?_ | refine ⟨by omega, hK _ _ ?_⟩ | refine ⟨by omega, by omega, hK _ _ ?_⟩
    clear hK K
    by_cases h : i < A.length
    · refine AWp.cond (t := true) (by first | (simp [h]; done) | (simp [h]; omega)) (fun _ => ?_) (by simp)
      refine AWp.skip ?_
      show AWp _ _ _ _
      refine AWp.seq ?_
      refine AWp.block ?_
      refine AWp.go [1, 3, 4, 47] [1] fun K hK => ?_
      simp [h]
      first | refine hK _ _ ?_ | refine ⟨by omega, hK _ _ ?_⟩ | refine ⟨by omega, by omega, hK _ _ ?_⟩
      clear hK K
      by_cases hp : (100 : Int) < A[i].size
      · refine AWp.cond (t := true) (by first | (simp [hp]; done) | (simp [hp]; omega)) (fun _ => ?_) (by simp)
        refine AWp.go [2] [1] fun K hK => ?_
        simp
        first | refine hK _ _ ?_ | refine ⟨by omega, hK _ _ ?_⟩ | refine ⟨by omega, by omega, hK _ _ ?_⟩
        clear hK K
        refine AWp.ret ?_
        have : (A.all fun s => !decide ((100 : Int) < s.size)) = false := all_not h (by simpa using hp)
        simp [slimB, ← hA, this]
      · refine AWp.cond (t := false) (by first | (simp [hp]; done) | (simp [hp]; omega)) (by simp) (fun _ => ?_)
        refine AWp.skip ?_
        show AWp _ _ _ _
        refine AWp.goLast [1, 3, 4] [1] fun K hK => ?_
        simp
        first | refine hK _ _ ?_ | refine ⟨by omega, hK _ _ ?_⟩ | refine ⟨by omega, by omega, hK _ _ ?_⟩
        clear hK K
        refine ⟨i + 1, ⟨by omega, fun k hk hk2 => ?_⟩, by omega, ?_⟩
        · by_cases hki : k = i
          · subst hki; simpa using hp
          · exact hall k (by omega) hk2
        · simp
          exact wrap64 (by omega) (by omega)
    · refine AWp.cond (t := false) (by first | (simp [h]; done) | (simp [h]; omega)) (by simp) (fun _ => ?_)
      refine AWp.exit ?_
      show AWp _ _ _ _
      refine AWp.seq ?_
      have hca : (A.all fun s => !decide ((100 : Int) < s.size)) = true := all_of fun k hk => hall k (by omega) hk
      clear hall
      refine AWp.go [1, 5] [1] fun K hK => ?_
      simp
      first | refine hK _ _ ?_ | refine ⟨by omega, hK _ _ ?_⟩ | refine ⟨by omega, by omega, hK _ _ ?_⟩
      clear hK K
      refine AWp.block (AWp.while (fun a : Nat => [(1, .ptr 1 0), (5, .i .i64 a)]) (fun a => [(1, [.sl .fro 1 (strsAV r.sets), .sl .fro 1 (strsAV r.counts), .sl .fro 1 (strsAV r.notes), .sl .fro 5 (clsAV r.cls), .sl .fro 2 (opnsAV r.opers)])]) (fun a => a ≤ r.opers.length ∧ ∀ k (hk : k < a) (hk2 : k < r.opers.length), (!decide ((20 : Int) < r.opers[k].does.length)) = true) (fun a => r.opers.length - a) [1, 5] [1] 0 (by simp) (by simp) ?_)
      rintro a ⟨ha, hall⟩
      refine AWp.seq ?_
      refine AWp.go [1, 5, 52] [1] fun K hK => ?_
      simp
      first | refine hK _ _ ?_ | refine ⟨by omega, hK _ _ ?_⟩ | refine ⟨by omega, by omega, hK _ _ ?_⟩
      clear hK K
      by_cases h : a < r.opers.length
      · refine AWp.cond (t := true) (by first | (simp [h]; done) | (simp [h]; omega)) (fun _ => ?_) (by simp)
        refine AWp.skip ?_
        show AWp _ _ _ _
        refine AWp.seq ?_
        refine AWp.block ?_
        refine AWp.go [1, 5, 62] [1] fun K hK => ?_
        simp [h]
        first | refine hK _ _ ?_ | refine ⟨by omega, hK _ _ ?_⟩ | refine ⟨by omega, by omega, hK _ _ ?_⟩
        clear hK K
        by_cases hp : (20 : Int) < r.opers[a].does.length
        · refine AWp.cond (t := true) (by first | (simp [hp]; done) | (simp [hp]; omega)) (fun _ => ?_) (by simp)
          refine AWp.go [2] [1] fun K hK => ?_
          simp
          first | refine hK _ _ ?_ | refine ⟨by omega, hK _ _ ?_⟩ | refine ⟨by omega, by omega, hK _ _ ?_⟩
          clear hK K
          refine AWp.ret ?_
          have : (r.opers.all fun o => !decide ((20 : Int) < o.does.length)) = false := all_not h (by simpa using hp)
          simp [slimB, this]
        · refine AWp.cond (t := false) (by first | (simp [hp]; done) | (simp [hp]; omega)) (by simp) (fun _ => ?_)
          refine AWp.skip ?_
          show AWp _ _ _ _
          refine AWp.goLast [1, 5] [1] fun K hK => ?_
          simp
          first | refine hK _ _ ?_ | refine ⟨by omega, hK _ _ ?_⟩ | refine ⟨by omega, by omega, hK _ _ ?_⟩
          clear hK K
          refine ⟨a + 1, ⟨by omega, fun k hk hk2 => ?_⟩, by omega, ?_⟩
          · by_cases hki : k = a
            · subst hki; simpa using hp
            · exact hall k (by omega) hk2
          · simp
            exact wrap64 (by omega) (by omega)
      · refine AWp.cond (t := false) (by first | (simp [h]; done) | (simp [h]; omega)) (by simp) (fun _ => ?_)
        refine AWp.exit ?_
        show AWp _ _ _ _
        refine AWp.go [2] [1] fun K hK => ?_
        simp
        first | refine hK _ _ ?_ | refine ⟨by omega, hK _ _ ?_⟩ | refine ⟨by omega, by omega, hK _ _ ?_⟩
        clear hK K
        refine AWp.ret ?_
        have : (r.opers.all fun o => !decide ((20 : Int) < o.does.length)) = true := all_of fun k hk => hall k (by omega) hk
        simp [slimB, hh, ← hA, hca, this]
end Go.AM
namespace Go.AM

inductive TT where
  | int (k : IntKind)
  | bool
  | str
  | sl (sz : Nat) (e : TT)
  | st (fs : List TT)

mutual
def TT.size : TT → Nat
  | .st fs => TT.sizeL fs
  | _ => 1
def TT.sizeL : List TT → Nat
  | [] => 0
  | f :: fs => f.size + TT.sizeL fs
end

mutual
/-- Is it the shape of a type? -/
def TT.isAt (P : Program) : TT → TypeId → Bool
  | .int k, t => match P.underlying t with
    | some (.int k') => k' == k
    | _ => false
  | .bool, t => match P.underlying t with
    | some .bool => true
    | _ => false
  | .str, t => match P.underlying t with
    | some .string => true
    | _ => false
  | .sl sz e, t => match P.underlying t with
    | some (.slice et) => P.cellsOf et == sz && decide (0 < sz) && e.size == sz && e.isAt P et
    | _ => false
  | .st fs, t => match P.underlying t with
    | some (.struct fl) => P.cellsOf t == TT.sizeL fs && TT.isL P fs fl.toList 0
    | _ => false
def TT.isL (P : Program) : List TT → List Field → Nat → Bool
  | [], [], _ => true
  | f :: fs, d :: ds, off => d.offset == off && P.cellsOf d.type == f.size && f.isAt P d.type && TT.isL P fs ds (off + f.size)
  | _, _, _ => false
end

mutual
/-- Cells of such a shape. -/
def TT.fit : TT → List AV → Prop
  | .int k, avs => ∃ n, avs = [.i k n] ∧ k.min ≤ n ∧ n ≤ k.max
  | .bool, avs => ∃ b, avs = [.b b]
  | .str, avs => ∃ s, avs = [.s s] ∧ s.size ≤ maxLen
  | .sl sz e, avs => ∃ xs, avs = [.sl .fro sz xs] ∧ xs.length ≤ maxLen ∧ ∀ x ∈ xs, e.fit x
  | .st fs, avs => TT.fitL fs avs
def TT.fitL : List TT → List AV → Prop
  | [], avs => avs = []
  | f :: fs, avs => ∃ a b, avs = a ++ b ∧ f.fit a ∧ TT.fitL fs b
end

section
variable {H : Type} {enc : TypeId × Value → H} {P : Program} {w : World} {held : Bool}

/-- Cells that are read as data. -/
def AsDat (w : World) (avs : List AV) (cs : List Value) : Prop := avs.length = cs.length ∧ ∀ (k : Nat) c, avs[k]? = some c → ∃ u, cs[k]? = some u ∧ DatC (fun b => b < w.heap.size) w c u

theorem AsDat.one {w : World} {c : AV} {u : Value} (h : Dat (fun b => b < w.heap.size) w c u) (h1 : u.oneCell' = true) : AsDat w [c] [u] := ⟨rfl, fun k c' hk => by
  cases k with
  | zero => simp at hk; subst hk; exact ⟨u, rfl, h, h1⟩
  | succ k => simp at hk⟩

theorem cell_spot {w : World} {a : Addr} {v : Value} (h : w.cell? a = some v) : a.spot = none := by
  unfold World.cell? at h
  split at h
  · cases hs : a.spot with
    | none => rfl
    | some s => simp [hs] at h
  · cases h

theorem cell_lt' {w : World} {a : Addr} {v : Value} (h : w.cell? a = some v) : a.block < w.heap.size := by
  unfold World.cell? at h
  split at h
  · rename_i h1; exact (Array.getElem?_eq_some_iff.1 h1).1
  · cases h

mutual
theorem trod_dat : ∀ (T : TT) (n : Nat) (t : TypeId) (cs : List Value) (x : DataW H × List MemPlace), T.isAt P t = true → DataW.trod enc P w 0 (fun _ => true) held n t cs = some x → ∃ avs, T.fit avs ∧ avs.length = T.size ∧ AsDat w avs cs
  | .int k, n, t, cs, x, hT, h => by
    simp only [TT.isAt] at hT
    split at hT
    · rename_i k' hu
      have : k' = k := by simpa using hT
      subst this
      obtain ⟨m, rfl, _, hw⟩ := DataW.trod_int hu h
      simp only [Lit.wf, Bool.and_eq_true, decide_eq_true_eq] at hw
      exact ⟨[.i k' m], ⟨m, rfl, hw⟩, rfl, .one (.i _ _) rfl⟩
    · cases hT
  | .bool, n, t, cs, x, hT, h => by
    simp only [TT.isAt] at hT
    split at hT
    · rename_i hu
      obtain ⟨b, rfl, _⟩ := DataW.trod_bool hu h
      exact ⟨[.b b], ⟨b, rfl⟩, rfl, .one (.b _) rfl⟩
    · cases hT
  | .str, n, t, cs, x, hT, h => by
    simp only [TT.isAt] at hT
    split at hT
    · rename_i hu
      obtain ⟨s, rfl, _, hs⟩ := DataW.trod_string hu h
      exact ⟨[.s s], ⟨s, rfl, hs⟩, rfl, .one (.s _) rfl⟩
    · cases hT
  | .sl sz e, n, t, cs, x, hT, h => by
    simp only [TT.isAt] at hT
    split at hT
    · rename_i et hu
      simp only [Bool.and_eq_true, beq_iff_eq, decide_eq_true_eq] at hT
      obtain ⟨⟨⟨hc, hz⟩, hes⟩, he⟩ := hT
      rcases DataW.trod_slice hu h with ⟨rfl, _⟩ | ⟨a, len, cap, elems, rest, m, _, rfl, _, _, hlc, hm, hlen, hel, _, _⟩
      · exact ⟨[.sl .fro sz []], ⟨[], rfl, by simp, by simp⟩, rfl, .one (.sl0 sz) rfl⟩
      · have each : ∀ i, i < len → ∃ avs : List AV, e.fit avs ∧ avs.length = sz ∧ ∀ (j : Nat) c, avs[j]? = some c → ∃ u, w.cell? ((a.add (i * sz)).add j) = some u ∧ DatC (fun b => b < w.heap.size) w c u := by
          intro i hi
          have h1 := hel i hi
          rw [hc, List.getElem?_eq_getElem (by omega)] at h1
          obtain ⟨cs', h2, h3⟩ := Option.bind_eq_some_iff.1 h1
          obtain ⟨avs, g1, g2, g3, g4⟩ := trod_dat e m et cs' _ he h3
          refine ⟨avs, g1, by rw [g2, hes], fun j c hj => ?_⟩
          obtain ⟨u, hu1, hd⟩ := g4 j c hj
          have hjl := (List.getElem?_eq_some_iff.1 hj).1
          exact ⟨u, by rw [(World.cells?_some h2).2.2 j (by omega)]; exact hu1, hd⟩
        obtain ⟨xs, hxl, hxs⟩ : ∃ xs : List (List AV), xs.length = len ∧ ∀ (i : Nat) x, xs[i]? = some x → e.fit x ∧ x.length = sz ∧ ∀ (j : Nat) c, x[j]? = some c → ∃ u, w.cell? ((a.add (i * sz)).add j) = some u ∧ DatC (fun b => b < w.heap.size) w c u := by
          refine ⟨(List.range len).map fun i => if hi : i < len then Classical.choose (each i hi) else [], by simp, fun i x hx => ?_⟩
          rw [List.getElem?_map] at hx
          obtain ⟨i', hi', rfl⟩ := Option.map_eq_some_iff.1 hx
          obtain ⟨hl, hi2⟩ := List.getElem?_eq_some_iff.1 hi'
          simp at hl hi2
          subst hi2
          rw [dif_pos hl]
          exact Classical.choose_spec (each i hl)
        have hfit : ∀ x ∈ xs, e.fit x := fun x hx => by
          obtain ⟨i, hi⟩ := List.mem_iff_getElem?.1 hx
          exact (hxs i x hi).1
        refine ⟨[.sl .fro sz xs], ⟨xs, rfl, by omega, hfit⟩, rfl, .one ?_ rfl⟩
        rcases Nat.eq_zero_or_pos len with h0 | h0
        · have : xs = [] := List.eq_nil_of_length_eq_zero (by omega)
          subst this
          rw [h0]
          exact .sl1 sz a cap
        · obtain ⟨g1, g2, g3⟩ := hxs 0 _ (List.getElem?_eq_getElem (by omega))
          obtain ⟨u, hu1, _⟩ := g3 0 _ (List.getElem?_eq_getElem (by omega))
          have haa : (a.add (0 * sz)).add 0 = a := by simp [Addr.add]
          rw [haa] at hu1
          have hsp := cell_spot hu1
          have hlt := cell_lt' hu1
          obtain ⟨bk, off, sp⟩ := a
          simp only at hsp hlt
          subst hsp
          rw [← hxl]
          have hl : ∀ x ∈ xs, x.length = sz := fun x hx => by
            obtain ⟨i, hi⟩ := List.mem_iff_getElem?.1 hx
            exact (hxs i x hi).2.1
          have hcell : ∀ (k : Nat) c, xs.flatten[k]? = some c → ∃ u, w.cell? ⟨bk, off + k, none⟩ = some u ∧ DatC (fun b => b < w.heap.size) w c u := by
            intro k c hk
            have hfl := flatten_length hl
            have hk1 := (List.getElem?_eq_some_iff.1 hk).1
            have hdiv : k / sz < xs.length := by rw [Nat.div_lt_iff_lt_mul hz]; omega
            have hmod : k % sz < sz := Nat.mod_lt _ hz
            have hx := List.getElem?_eq_getElem hdiv
            obtain ⟨_, q2, q3⟩ := hxs _ _ hx
            have hj : (xs[k / sz])[k % sz]? = some ((xs[k / sz])[k % sz]'(by omega)) := List.getElem?_eq_getElem (by omega)
            have e1 := flat_get hl (k / sz) (k % sz) _ _ hx hj
            rw [show k / sz * sz + k % sz = k by rw [Nat.mul_comm]; exact Nat.div_add_mod k sz, hk] at e1
            obtain rfl := Option.some.inj e1
            obtain ⟨u, hu2, hd⟩ := q3 _ _ hj
            refine ⟨u, ?_, hd⟩
            rw [add_none, add_none, Nat.add_assoc, show k / sz * sz + k % sz = k by rw [Nat.mul_comm]; exact Nat.div_add_mod k sz] at hu2
            exact hu2
          refine .sl sz xs bk off cap (fun k => (w.cell? ⟨bk, off + k, none⟩).getD undef) hlt (by omega) hl (fun k c hk => ?_) (fun k c hk => ?_) (fun k c hk => ?_)
          · obtain ⟨u, hu2, hd⟩ := hcell k c hk
            simp [hu2]
          · obtain ⟨u, hu2, hd⟩ := hcell k c hk
            simpa [hu2] using hd.2
          · obtain ⟨u, hu2, hd⟩ := hcell k c hk
            simpa [hu2] using hd.1
    · cases hT
  | .st fs, n, t, cs, x, hT, h => by
    simp only [TT.isAt] at hT
    split at hT
    · rename_i fl hu
      simp only [Bool.and_eq_true, beq_iff_eq] at hT
      obtain ⟨xs, m, _, _, hlen, hxl, hf⟩ := DataW.trod_struct hu h
      obtain ⟨avs, g1, g2, g3⟩ := trod_datL fs m fl.toList 0 cs hT.2 (fun i f hi => by
        rw [Array.getElem?_toList] at hi
        rw [hf i f hi]
        exact ⟨_, List.getElem?_eq_getElem (by rw [hxl]; exact (Array.getElem?_eq_some_iff.1 hi).1)⟩) (by omega)
      refine ⟨avs, g1, g2, ?_, fun k c hk => ?_⟩
      · rw [g2, hlen, hT.1]
      · obtain ⟨u, hu1, hd⟩ := g3 k c hk
        exact ⟨u, by simpa using hu1, hd⟩
    · cases hT
theorem trod_datL : ∀ (fs : List TT) (n : Nat) (fl : List Field) (off : Nat) (cs : List Value), TT.isL P fs fl off = true →
    (∀ (i : Nat) f, fl[i]? = some f → ∃ x, DataW.trod enc P w 0 (fun _ => true) held n f.type ((cs.drop f.offset).take (P.cellsOf f.type)) = some x) → off + TT.sizeL fs ≤ cs.length →
    ∃ avs, TT.fitL fs avs ∧ avs.length = TT.sizeL fs ∧ ∀ (k : Nat) c, avs[k]? = some c → ∃ u, cs[off + k]? = some u ∧ DatC (fun b => b < w.heap.size) w c u
  | [], n, fl, off, cs, _, _, _ => ⟨[], rfl, rfl, by simp⟩
  | f :: fs, n, [], off, cs, hT, _, _ => by simp [TT.isL] at hT
  | f :: fs, n, d :: ds, off, cs, hT, h, hl => by
    simp only [TT.isL, Bool.and_eq_true, beq_iff_eq] at hT
    obtain ⟨⟨⟨h1, h2⟩, h3⟩, h4⟩ := hT
    simp only [TT.sizeL] at hl
    obtain ⟨x, hx⟩ := h 0 d rfl
    obtain ⟨a, a1, a2, a3, a4⟩ := trod_dat f n d.type _ x h3 hx
    obtain ⟨b, b1, b2, b3⟩ := trod_datL fs n ds (off + f.size) cs h4 (fun i g hi => h (i + 1) g (by simpa using hi)) (by omega)
    refine ⟨a ++ b, ⟨a, b, rfl, a1, b1⟩, by simp [TT.sizeL, a2, b2], fun k c hk => ?_⟩
    by_cases hlt : k < a.length
    · rw [List.getElem?_append_left hlt] at hk
      obtain ⟨u, hu, hd⟩ := a4 k c hk
      rw [List.getElem?_take, if_pos (by omega), List.getElem?_drop, h1] at hu
      exact ⟨u, hu, hd⟩
    · rw [List.getElem?_append_right (by omega)] at hk
      obtain ⟨u, hu, hd⟩ := b3 _ c hk
      exact ⟨u, by rw [← hu]; congr 1; omega, hd⟩
end
end
end Go.AM
namespace Go.AM
open Go.RowKit Go.WideShapes

/-- A law that holds over data, called. -/
theorem Pure.calls {P : Program} {f : Nat} {args : List AV} {b : Bool} (h : Pure P f args (.b b)) {w : World} {vs : Array Value} (hl : args.length = vs.size) (hv : ∀ (k : Nat) c, args[k]? = some c → Dat (fun b => b < w.heap.size) w c (vs.getD k undef)) :
    Calls P f vs w fun e w' => e = .returned (.bool b) ∧ Below w.heap.size w w' := by
  refine (h.2 w (fun _ => 0) (fun _ => none) (fun bk => bk < w.heap.size) vs (rel_empty _ _ _ fun _ h => h) (by simp) hl (fun k c hk => (hv k c hk).val (E := ⟨w, fun _ => 0, fun _ => none, fun bk => bk < w.heap.size, St.ofBoxes [], #[]⟩) _)).mono ?_
  rintro e w' ⟨v, E', rfl, rfl, I, _, _, hr⟩
  refine ⟨by cases hr; rfl, I.fr.os.1, I.fr.tape, I.fr.output, I.fr.size, fun k hk => I.fr.block k hk (by simp)⟩

def TT.wrap : TT → List AV → AV
  | .st _, avs => .agg avs
  | _, avs => avs.getD 0 .any

theorem arg_dat {H : Type} {enc : TypeId × Value → H} {P : Program} {w : World} {held : Bool} {r : Reach} {b0 : Nat} {t : TypeId} {v : Value} {d : DataW H} {p : List MemPlace} (T : TT) (hT : T.isAt P t = true) (hval : Value.okWide P w r b0 t v)
    (h : DataW.Trod enc P w 0 (fun _ => true) held t v d p) : ∃ avs, T.fit avs ∧ Dat (fun b => b < w.heap.size) w (T.wrap avs) v := by
  obtain ⟨n, hn⟩ := h
  obtain ⟨avs, h1, h2, h3⟩ := trod_dat T n t _ _ hT hn
  refine ⟨avs, h1, ?_⟩
  have one : v.cells.toList = [v] → avs.length = 1 → Dat (fun b => b < w.heap.size) w (avs.getD 0 .any) v := by
    intro hc hl
    match avs, hl with
    | [c], _ =>
      obtain ⟨u, hu, hd⟩ := h3.2 0 c rfl
      rw [hc] at hu
      obtain rfl := Option.some.inj hu
      exact hd.1
  cases T with
  | int k =>
    simp only [TT.isAt] at hT
    split at hT
    · rename_i k' hu
      obtain ⟨n, rfl⟩ := okWide_int hu hval
      exact one rfl h2
    · cases hT
  | bool =>
    simp only [TT.isAt] at hT
    split at hT
    · rename_i hu
      obtain ⟨n, rfl⟩ := okWide_bool hu hval
      exact one rfl h2
    · cases hT
  | str =>
    simp only [TT.isAt] at hT
    split at hT
    · rename_i hu
      obtain ⟨n, rfl⟩ := okWide_string hu hval
      exact one rfl h2
    · cases hT
  | sl sz e =>
    simp only [TT.isAt] at hT
    split at hT
    · rename_i et hu
      obtain ⟨a, len, cap, rfl⟩ := okWide_slice hu hval
      exact one rfl h2
    · cases hT
  | st fs =>
    simp only [TT.isAt] at hT
    split at hT
    · rename_i fl hu
      simp only [Value.okWide, hu] at hval
      obtain ⟨cs, rfl, _, _⟩ := hval
      refine .agg _ cs (by rw [h3.1]; simp [Value.cells]) fun k c hk => ?_
      obtain ⟨u, hu, hd⟩ := h3.2 k c hk
      simp only [Value.cells, Array.getElem?_toList] at hu
      rw [Array.getD_eq_getD_getElem?, hu]
      exact hd.1
    · cases hT

theorem list_of {α : Type} {g : α → List AV} : ∀ {xs : List (List AV)}, (∀ x ∈ xs, ∃ a, x = g a) → ∃ l : List α, xs = l.map g
  | [], _ => ⟨[], rfl⟩
  | x :: xs, h => by
    obtain ⟨a, rfl⟩ := h x (by simp)
    obtain ⟨l, rfl⟩ := list_of (xs := xs) fun y hy => h y (by simp [hy])
    exact ⟨a :: l, rfl⟩
end Go.AM
namespace Go.AM
open Go.Proofs Go.Sort Go.Shelf

theorem world_grown {w w' : World} (hos : SameOs w' w) (ht : w'.tape = w.tape) (ho : w'.output = w.output) (hs : w.heap.size ≤ w'.heap.size) (hb : ∀ k, k < w.heap.size → w'.heap[k]? = w.heap[k]?) :
    ∃ q os', w' = grow (w.drewN q) os' := by
  refine ⟨w'.drawn - w.drawn, w'.heap.extract w.heap.size w'.heap.size, ?_⟩
  have hheap : w'.heap = w.heap ++ w'.heap.extract w.heap.size w'.heap.size := by
    apply Array.ext
    · simp; omega
    · intro i h1 h2
      rw [Array.getElem_append]
      split
      · rename_i h
        have := hb i h
        rw [Array.getElem?_eq_getElem h1, Array.getElem?_eq_getElem h] at this
        exact Option.some.inj this
      · rw [Array.getElem_extract]
        congr 1
        omega
  have hdr : w'.drawn = w.drawn + (w'.drawn - w.drawn) := by have := hos.2; omega
  obtain ⟨h1, h2, h3, h4, h5⟩ := w'
  simp only [grow, World.drewN]
  simp only at hheap hdr ht ho
  have hos1 : h4 = w.os := hos.1
  rw [← hheap, ← hdr, ht, ho, hos1]

theorem Pure.grows {P : Program} {f : Nat} {args : List AV} {n : Int} (h : Pure P f args (.i .i64 n)) {w : World} {vs : Array Value} (hl : args.length = vs.size) (hv : ∀ (k : Nat) c, args[k]? = some c → Dat (fun b => b < w.heap.size) w c (vs.getD k undef)) :
    Calls P f vs w fun e w' => e = .returned (.int .i64 n) ∧ ∃ q os', w' = grow (w.drewN q) os' := by
  refine (h.2 w (fun _ => 0) (fun _ => none) (fun bk => bk < w.heap.size) vs (rel_empty _ _ _ fun _ h => h) (by simp) hl (fun k c hk => (hv k c hk).val (E := ⟨w, fun _ => 0, fun _ => none, fun bk => bk < w.heap.size, St.ofBoxes [], #[]⟩) _)).mono ?_
  rintro e w' ⟨v, E', rfl, rfl, I, _, _, hr⟩
  exact ⟨by cases hr; rfl, world_grown I.fr.os I.fr.tape I.fr.output I.fr.size fun k hk => I.fr.block k hk (by simp)⟩

theorem dat_atoms {Pub : Nat → Prop} {w : World} {cs : List AV} (h : ∀ c ∈ cs, c.atom = true) : Dat Pub w (.agg cs) (.agg (cs.map AV.val).toArray) := by
  refine .agg cs _ (by simp) fun k c hk => ?_
  have hlt := (List.getElem?_eq_some_iff.1 hk).1
  have e : (cs.map AV.val).toArray.getD k undef = c.val := by
    rw [Array.getD_eq_getD_getElem?]
    simp [hk]
  rw [e]
  exact (datC_val (h c (List.mem_of_getElem? hk))).1

/-- A row of atoms sorted by a comparison that is a function of data. -/
theorem lproc_sortP {α : Type} [Inhabited α] (encA : α → List AV) {P : Program} {ρ : Ren} (L : Go.Proofs.SlLaysF0.n6 P ρ) (k : Nat) (hpos : 0 < k) (aE : ∀ w, (isAgg (ρ.t 24)).run P w = .ok true w) (zE : ∀ w, (Go.sizeOf (ρ.t 24)).run P w = .ok k w) (hk : ∀ x, (encA x).length = k) (hat : ∀ x, ∀ c ∈ encA x, c.atom = true)
    (cf : α → α → Int) (hO : SWO (ltOf cf)) (hT : ∀ x y, (ltOf cf) x y = false → (ltOf cf) y x = false → x = y) (g : Nat) (eg : ∀ args w, (callFunc g args).run P w = .ok (.enter g args) w)
    (hcmp : ∀ x y : α, Pure P g [.agg (encA x), .agg (encA y)] (.i .i64 (cf x y))) (xs : List α) (hsz : xs.length < 4611686018427387904) :
    LProc P (ρ.f 6) k (xs.map encA) [.fn g [] []] ((xs.mergeSort fun x y => !(ltOf cf) y x).map encA) :=
  lproc_sort encA L k hpos aE zE hk hat cf hO hT g eg (fun x y w => (hcmp x y).grows rfl fun j c hj => by
    rcases j with _ | _ | j
    · simp at hj; subst hj; exact dat_atoms (hat x)
    · simp at hj; subst hj; exact dat_atoms (hat y)
    · simp at hj) xs hsz
end Go.AM
namespace Go.AM
open Go.Proofs
def cmpI (a b : Int) : Int := if a < b then -1 else if b < a then 1 else 0
theorem c_isNaN_int (a : Int) : Pure Tryz.prog 136 [.i .i64 a] (.b false) := by
  refine proc_of (cx Tryz.prog 6 [0, 2] [2]) 5 [.tmp 2] Tryz.func136 rfl rfl rfl rfl rfl rfl (Nat.le_refl _) rfl ?_
  refine AWp.go [0] [] fun K hK => ?_
  simp
  first | refine hK _ _ ?_ | refine ⟨by omega, hK _ _ ?_⟩ | refine ⟨by omega, by omega, hK _ _ ?_⟩
  clear hK K
  refine AWp.go [2] [] fun K hK => ?_
  simp
  first | refine hK _ _ ?_ | refine ⟨by omega, hK _ _ ?_⟩ | refine ⟨by omega, by omega, hK _ _ ?_⟩
  clear hK K
  refine AWp.ret ?_
  simp
theorem c_Compare_int (a b : Int) : Pure Tryz.prog 97 [.i .i64 a, .i .i64 b] (.i .i64 (cmpI a b)) := by
  refine proc_of (cx Tryz.prog 20 [0, 1, 4, 5, 6, 11, 12, 13, 16, 19] [4]) 18 [.tmp 4] Tryz.func97 rfl rfl rfl rfl rfl rfl (Nat.le_refl _) rfl ?_
  refine AWp.go [0, 1] [] fun K hK => ?_
  simp
  first | refine hK _ _ ?_ | refine ⟨by omega, hK _ _ ?_⟩ | refine ⟨by omega, by omega, hK _ _ ?_⟩
  clear hK K
  refine AWp.go [0, 1, 5] [] fun K hK => ?_
  simp
  refine call_pure (c_isNaN_int a) (by simp) ?_
  simp
  first | refine hK _ _ ?_ | refine ⟨by omega, hK _ _ ?_⟩ | refine ⟨by omega, by omega, hK _ _ ?_⟩
  clear hK K
  refine AWp.go [0, 1, 5, 6] [] fun K hK => ?_
  simp
  refine call_pure (c_isNaN_int b) (by simp) ?_
  simp
  first | refine hK _ _ ?_ | refine ⟨by omega, hK _ _ ?_⟩ | refine ⟨by omega, by omega, hK _ _ ?_⟩
  clear hK K
  refine AWp.seq ?_
  refine AWp.go [0, 1, 6, 11] [] fun K hK => ?_
  simp
  first | refine hK _ _ ?_ | refine ⟨by omega, hK _ _ ?_⟩ | refine ⟨by omega, by omega, hK _ _ ?_⟩
  clear hK K
  refine AWp.cond (t := false) (by first | (simp; done) | (simp; omega)) (by simp) (fun _ => ?_)
  refine AWp.skip ?_
  show AWp _ _ _ _
  refine AWp.seq ?_
  refine AWp.go [0, 1, 13] [] fun K hK => ?_
  simp
  first | refine hK _ _ ?_ | refine ⟨by omega, hK _ _ ?_⟩ | refine ⟨by omega, by omega, hK _ _ ?_⟩
  clear hK K
  refine AWp.cond (t := false) (by first | (simp; done) | (simp; omega)) (by simp) (fun _ => ?_)
  refine AWp.skip ?_
  show AWp _ _ _ _
  refine AWp.seq ?_
  refine AWp.go [0, 1, 16] [] fun K hK => ?_
  simp
  first | refine hK _ _ ?_ | refine ⟨by omega, hK _ _ ?_⟩ | refine ⟨by omega, by omega, hK _ _ ?_⟩
  clear hK K
  by_cases h1 : a < b
  · refine AWp.cond (t := true) (by first | (simp [h1]; done) | (simp [h1]; omega)) (fun _ => ?_) (by simp)
    refine AWp.go [4] [] fun K hK => ?_
    simp
    first | refine hK _ _ ?_ | refine ⟨by omega, hK _ _ ?_⟩ | refine ⟨by omega, by omega, hK _ _ ?_⟩
    clear hK K
    refine AWp.ret ?_
    simp [cmpI, h1]
  · refine AWp.cond (t := false) (by first | (simp [h1]; done) | (simp [h1]; omega)) (by simp) (fun _ => ?_)
    refine AWp.skip ?_
    show AWp _ _ _ _
    refine AWp.seq ?_
    refine AWp.go [19] [] fun K hK => ?_
    simp
    first | refine hK _ _ ?_ | refine ⟨by omega, hK _ _ ?_⟩ | refine ⟨by omega, by omega, hK _ _ ?_⟩
    clear hK K
    by_cases h2 : b < a
    · refine AWp.cond (t := true) (by first | (simp [h2]; done) | (simp [h2]; omega)) (fun _ => ?_) (by simp)
      refine AWp.go [4] [] fun K hK => ?_
      simp
      first | refine hK _ _ ?_ | refine ⟨by omega, hK _ _ ?_⟩ | refine ⟨by omega, by omega, hK _ _ ?_⟩
      clear hK K
      refine AWp.ret ?_
      simp [cmpI, h1, h2]
    · refine AWp.cond (t := false) (by first | (simp [h2]; done) | (simp [h2]; omega)) (by simp) (fun _ => ?_)
      refine AWp.skip ?_
      show AWp _ _ _ _
      refine AWp.go [4] [] fun K hK => ?_
      simp
      first | refine hK _ _ ?_ | refine ⟨by omega, hK _ _ ?_⟩ | refine ⟨by omega, by omega, hK _ _ ?_⟩
      clear hK K
      refine AWp.ret ?_
      simp [cmpI, h1, h2]
def orI : List Int → Int
  | [] => 0
  | x :: l => if x = 0 then orI l else x
theorem orI_at (l : List Int) (i : Nat) (h : i < l.length) (h0 : ∀ k (_ : k < i) (hk : k < l.length), l[k] = 0) (hn : l[i] ≠ 0) : orI l = l[i] := by
  induction l generalizing i with
  | nil => simp at h
  | cons x l ih =>
    cases i with
    | zero => simp at hn; simp [orI, hn]
    | succ i =>
      have hx : x = 0 := h0 0 (by omega) (by simp)
      rw [orI, if_pos hx]
      simp at h hn
      have := ih i h (fun k hk hk2 => h0 (k + 1) (by omega) (by simpa using hk2)) hn
      simpa using this
theorem orI_none (l : List Int) (h0 : ∀ k (hk : k < l.length), l[k] = 0) : orI l = 0 := by
  induction l with
  | nil => rfl
  | cons x l ih =>
    have hx : x = 0 := h0 0 (by simp)
    rw [orI, if_pos hx, ih fun k hk => h0 (k + 1) (by simpa using hk)]
theorem c_Or_int (l : List Int) (hlen : l.length ≤ 1000000) : Pure Tryz.prog 96 [.sl .fro 1 (intsAV l)] (.i .i64 (orI l)) := by
  refine proc_of (cx Tryz.prog 18 [0, 2, 3, 5, 6, 7, 8, 9, 14] [2]) 17 [.tmp 2] Tryz.func96 rfl rfl rfl rfl rfl rfl (Nat.le_refl _) rfl ?_
  refine AWp.go [0] [] fun K hK => ?_
  simp
  first | refine hK _ _ ?_ | refine ⟨by omega, hK _ _ ?_⟩ | refine ⟨by omega, by omega, hK _ _ ?_⟩
  clear hK K
  refine AWp.go [0, 3] [] fun K hK => ?_
  simp
  first | refine hK _ _ ?_ | refine ⟨by omega, hK _ _ ?_⟩ | refine ⟨by omega, by omega, hK _ _ ?_⟩
  clear hK K
  refine AWp.seq ?_
  refine AWp.go [3, 6, 7, 8] [] fun K hK => ?_
  simp
  first | refine hK _ _ ?_ | refine ⟨by omega, hK _ _ ?_⟩ | refine ⟨by omega, by omega, hK _ _ ?_⟩
  clear hK K
  refine AWp.block (AWp.while (fun i : Nat => [(3, .i .i64 0), (6, .sl .fro 1 (intsAV l)), (7, .i .i64 l.length), (8, .i .i64 i)]) (fun i => []) (fun i => i ≤ l.length ∧ ∀ k (_ : k < i) (hk : k < l.length), l[k] = 0) (fun i => l.length - i) [3, 6, 7, 8] [] 0 (by simp) (by simp) ?_)
  rintro i ⟨hi, hall⟩
  refine AWp.go [3, 6, 7, 8, 9] [] fun K hK => ?_
  simp
  first | refine hK _ _ ?_ | refine ⟨by omega, hK _ _ ?_⟩ | refine ⟨by omega, by omega, hK _ _ ?_⟩
  clear hK K
  refine AWp.seq ?_
  by_cases h : i < l.length
  · refine AWp.cond (t := true) (by first | (simp [h]; done) | (simp [h]; omega)) (fun _ => ?_) (by simp)
    refine AWp.skip ?_
    show AWp _ _ _ _
    refine AWp.seq ?_
    refine AWp.block ?_
    refine AWp.go [3, 5, 6, 7, 8] [] fun K hK => ?_
    simp [h]
    first | refine hK _ _ ?_ | refine ⟨by omega, hK _ _ ?_⟩ | refine ⟨by omega, by omega, hK _ _ ?_⟩
    clear hK K
    refine AWp.go [3, 5, 6, 7, 8, 14] [] fun K hK => ?_
    simp
    first | refine hK _ _ ?_ | refine ⟨by omega, hK _ _ ?_⟩ | refine ⟨by omega, by omega, hK _ _ ?_⟩
    clear hK K
    by_cases hp : l[i] = 0
    · refine AWp.cond (t := false) (by first | (simp [hp]; done) | (simp [hp]; omega)) (by simp) (fun _ => ?_)
      refine AWp.skip ?_
      show AWp _ _ _ _
      refine AWp.goLast [3, 6, 7, 8] [] fun K hK => ?_
      simp
      first | refine hK _ _ ?_ | refine ⟨by omega, hK _ _ ?_⟩ | refine ⟨by omega, by omega, hK _ _ ?_⟩
      clear hK K
      refine ⟨i + 1, ⟨by omega, fun k hk hk2 => ?_⟩, by omega, ?_⟩
      · by_cases hki : k = i
        · subst hki; exact hp
        · exact hall k (by omega) hk2
      · simp
        exact wrap64 (by omega) (by omega)
    · refine AWp.cond (t := true) (by first | (simp [hp]; done) | (simp [hp]; omega)) (fun _ => ?_) (by simp)
      refine AWp.go [2] [] fun K hK => ?_
      simp
      first | refine hK _ _ ?_ | refine ⟨by omega, hK _ _ ?_⟩ | refine ⟨by omega, by omega, hK _ _ ?_⟩
      clear hK K
      refine AWp.ret ?_
      rw [orI_at l i h hall hp]
      simp
  · refine AWp.cond (t := false) (by first | (simp [h]; done) | (simp [h]; omega)) (by simp) (fun _ => ?_)
    refine AWp.exit ?_
    show AWp _ _ _ _
    refine AWp.go [2] [] fun K hK => ?_
    simp
    first | refine hK _ _ ?_ | refine ⟨by omega, hK _ _ ?_⟩ | refine ⟨by omega, by omega, hK _ _ ?_⟩
    clear hK K
    refine AWp.ret ?_
    rw [orI_none l fun k hk => hall k (by omega) hk]
    simp
def stI (c : Cl) : Int := if c.strict then 1 else 0
theorem c_norm_strict (c : Cl) : Pure Tryz.prog 134 [.agg (clC c)] (.i .i64 (stI c)) := by
  refine proc_of (cx Tryz.prog 5 [1, 2, 4] [2]) 4 [.tmp 2] Tryz.func134 rfl rfl rfl rfl rfl rfl (Nat.le_refl _) rfl ?_
  refine AWp.go [1] [1] fun K hK => ?_
  simp [clC]
  first | refine hK _ _ ?_ | refine ⟨by omega, hK _ _ ?_⟩ | refine ⟨by omega, by omega, hK _ _ ?_⟩
  clear hK K
  refine AWp.seq ?_
  refine AWp.go [4] [] fun K hK => ?_
  simp
  first | refine hK _ _ ?_ | refine ⟨by omega, hK _ _ ?_⟩ | refine ⟨by omega, by omega, hK _ _ ?_⟩
  clear hK K
  cases hs : c.strict
  · refine AWp.cond (t := false) (by simp) (by simp) (fun _ => ?_)
    refine AWp.skip ?_
    show AWp _ _ _ _
    refine AWp.go [2] [] fun K hK => ?_
    simp
    first | refine hK _ _ ?_ | refine ⟨by omega, hK _ _ ?_⟩ | refine ⟨by omega, by omega, hK _ _ ?_⟩
    clear hK K
    refine AWp.ret ?_
    simp [stI, hs]
  · refine AWp.cond (t := true) (by simp) (fun _ => ?_) (by simp)
    refine AWp.go [2] [] fun K hK => ?_
    simp
    first | refine hK _ _ ?_ | refine ⟨by omega, hK _ _ ?_⟩ | refine ⟨by omega, by omega, hK _ _ ?_⟩
    clear hK K
    refine AWp.ret ?_
    simp [stI, hs]
def cmpCl (a b : Cl) : Int := orI [cmpI a.kind b.kind, cmpI a.a b.a, cmpI a.b b.b, cmpI a.num b.num, cmpI (stI a) (stI b)]
set_option maxRecDepth 8000 in
set_option maxHeartbeats 4000000 in
theorem c_norm_order (a b : Cl) : Pure Tryz.prog 89 [.agg (clC a), .agg (clC b)] (.i .i64 (cmpCl a b)) := by
  have g1 := c_norm_strict a
  have g2 := c_norm_strict b
  have go := c_Or_int [cmpI a.kind b.kind, cmpI a.a b.a, cmpI a.b b.b, cmpI a.num b.num, cmpI (stI a) (stI b)] (by simp)
  simp [clC] at g1 g2
  simp [intsAV] at go
  refine proc_of (cx Tryz.prog 32 [2, 3, 4] [4]) 30 [.tmp 4] Tryz.func89 rfl rfl rfl rfl rfl rfl (Nat.le_refl _) rfl ?_
  refine AWp.go [2, 3] [2, 3] fun K hK => ?_
  simp [clC]
  first | refine hK _ _ ?_ | refine ⟨by omega, hK _ _ ?_⟩ | refine ⟨by omega, by omega, hK _ _ ?_⟩
  clear hK K
  refine AWp.goD 27 (fun k => if k = 4 then .i .i64 (cmpI a.kind b.kind) else if k = 9 then .i .i64 (cmpI a.a b.a) else if k = 14 then .i .i64 (cmpI a.b b.b) else if k = 19 then .i .i64 (cmpI a.num b.num) else if k = 21 then .i .i64 (stI a) else if k = 23 then .i .i64 (stI b) else if k = 24 then .i .i64 (cmpI (stI a) (stI b)) else if k = 26 then .i .i64 (cmpCl a b) else .any) [4] [] mix (by kernel_rfl) fun K hK => ?_
  simp [c_Compare_int, g1, g2, go, cmpCl]
  first | refine hK _ _ ?_ | refine ⟨by omega, hK _ _ ?_⟩ | refine ⟨by omega, by omega, hK _ _ ?_⟩
  clear hK K
  refine AWp.ret ?_
  simp [cmpCl]
end Go.AM
namespace Go.AM
open Go.Proofs Go.Shelf Go.Sort

theorem bbeq (a b : Bool) : (a == b) = decide (a = b) := by cases a <;> cases b <;> rfl
instance : Inhabited Cl := ⟨⟨0, false, 0, 0, 0⟩⟩
theorem Cl.eq_iff (a b : Cl) : a = b ↔ a.kind = b.kind ∧ a.strict = b.strict ∧ a.a = b.a ∧ a.b = b.b ∧ a.num = b.num := by
  cases a; cases b; simp
instance : DecidableEq Cl := fun a b => decidable_of_iff _ (Cl.eq_iff a b).symm
theorem orI_cons (a b : Int) (l : List Int) : orI (cmpI a b :: l) < 0 ↔ a < b ∨ a = b ∧ orI l < 0 := by
  unfold cmpI
  rw [orI]
  by_cases h1 : a < b
  · simp [h1]
  · by_cases h2 : b < a
    · simp [h1, h2]; omega
    · have : a = b := by omega
      simp [this]
theorem ltCl (x y : Cl) : ltOf cmpCl x y = true ↔ (x.kind < y.kind ∨ x.kind = y.kind ∧ (x.a < y.a ∨ x.a = y.a ∧ (x.b < y.b ∨ x.b = y.b ∧ (x.num < y.num ∨ x.num = y.num ∧ stI x < stI y)))) := by
  have e : ltOf cmpCl x y = true ↔ cmpCl x y < 0 := by simp [ltOf]
  rw [e, cmpCl, orI_cons, orI_cons, orI_cons, orI_cons, orI_cons]
  simp [orI]
theorem swoCl : SWO (ltOf cmpCl) where
  irrefl x := by rw [Bool.eq_false_iff]; intro h; rw [ltCl] at h; omega
  trans x y z h1 h2 := by rw [ltCl] at *; omega
  ntrans x y z h1 h2 := by
    rw [Bool.eq_false_iff, ne_eq, ltCl] at *
    omega
theorem totCl (x y : Cl) (h1 : ltOf cmpCl x y = false) (h2 : ltOf cmpCl y x = false) : x = y := by
  rw [Bool.eq_false_iff, ne_eq, ltCl] at *
  have h3 : stI x = stI y := by omega
  rw [Cl.eq_iff]
  refine ⟨by omega, ?_, by omega, by omega, by omega⟩
  unfold stI at h3
  cases hx : x.strict <;> cases hy : y.strict <;> simp [hx, hy] at h3 ⊢
def sortCl (l : List Cl) : List Cl := l.mergeSort fun x y => !(ltOf cmpCl) y x
end Go.AM
namespace Go.Proofs
def Tryz.sortCl_ren : Go.Shelf.Ren := ⟨fun | 6 => 88 | 15 => 133 | 14 => 132 | 28 => 157 | 29 => 158 | 20 => 149 | 21 => 150 | 22 => 151 | 23 => 152 | 24 => 153 | 25 => 154 | 26 => 155 | 27 => 156 | 46 => 171 | 47 => 172 | 48 => 173 | 49 => 174 | 50 => 175 | 57 => 179 | n => n, fun | 22 => 23 | 24 => 58 | 25 => 109 | 3 => 3 | 39 => 121 | 0 => 0 | 53 => 156 | 55 => 158 | 4 => 4 | 46 => 150 | 45 => 149 | 50 => 88 | 5 => 5 | 9 => 9 | 66 => 167 | 70 => 171 | 76 => 175 | 77 => 176 | n => n, fun | n => n⟩
theorem Tryz.sortCl : Go.Proofs.SlLaysF0.n6 Tryz.prog Tryz.sortCl_ren := {
  mixed := by kernel_rfl,
  f6 := ⟨Tryz.f88.name, by decide, Tryz.func88.trans (congrArg some (by kernel_rfl))⟩,
  f14 := ⟨Tryz.f132.name, by decide, Tryz.func132.trans (congrArg some (by kernel_rfl))⟩,
  f15 := Tryz.func133.trans (congrArg some (by kernel_rfl)),
  f20 := ⟨Tryz.f149.name, by decide, Tryz.func149.trans (congrArg some (by kernel_rfl))⟩,
  f21 := ⟨Tryz.f150.name, by decide, Tryz.func150.trans (congrArg some (by kernel_rfl))⟩,
  f22 := ⟨Tryz.f151.name, by decide, Tryz.func151.trans (congrArg some (by kernel_rfl))⟩,
  f23 := ⟨Tryz.f152.name, by decide, Tryz.func152.trans (congrArg some (by kernel_rfl))⟩,
  f24 := ⟨Tryz.f153.name, by decide, Tryz.func153.trans (congrArg some (by kernel_rfl))⟩,
  f25 := ⟨Tryz.f154.name, by decide, Tryz.func154.trans (congrArg some (by kernel_rfl))⟩,
  f26 := ⟨Tryz.f155.name, by decide, Tryz.func155.trans (congrArg some (by kernel_rfl))⟩,
  f27 := ⟨Tryz.f156.name, by decide, Tryz.func156.trans (congrArg some (by kernel_rfl))⟩,
  f28 := Tryz.func157.trans (congrArg some (by kernel_rfl)),
  f29 := Tryz.func158.trans (congrArg some (by kernel_rfl)),
  f46 := ⟨Tryz.f171.name, by decide, Tryz.func171.trans (congrArg some (by kernel_rfl))⟩,
  f47 := Tryz.func172.trans (congrArg some (by kernel_rfl)),
  f48 := Tryz.func173.trans (congrArg some (by kernel_rfl)),
  f49 := ⟨Tryz.f174.name, by decide, Tryz.func174.trans (congrArg some (by kernel_rfl))⟩,
  f50 := ⟨Tryz.f175.name, by decide, Tryz.func175.trans (congrArg some (by kernel_rfl))⟩,
  f57 := ⟨Tryz.f179.name, by decide, Tryz.func179.trans (congrArg some (by kernel_rfl))⟩,
  t0 := Tryz.underlying0,
  a0 := Tryz.isAgg0,
  z0 := Tryz.sizeOf0,
  v0 := Tryz.zeroValue0,
  t3 := Tryz.underlying3,
  a3 := Tryz.isAgg3,
  z3 := Tryz.sizeOf3,
  v3 := Tryz.zeroValue3,
  t4 := Tryz.underlying4,
  a4 := Tryz.isAgg4,
  z4 := Tryz.sizeOf4,
  v4 := Tryz.zeroValue4,
  t5 := Tryz.underlying5,
  a5 := Tryz.isAgg5,
  z5 := Tryz.sizeOf5,
  v5 := Tryz.zeroValue5,
  t9 := Tryz.underlying9,
  a9 := Tryz.isAgg9,
  z9 := Tryz.sizeOf9,
  v9 := Tryz.zeroValue9,
  t22 := Tryz.underlying23,
  a22 := Tryz.isAgg23,
  z22 := Tryz.sizeOf23,
  v22 := Tryz.zeroValue23,
  t25 := Tryz.underlying109,
  a25 := Tryz.isAgg109,
  z25 := Tryz.sizeOf109,
  v25 := Tryz.zeroValue109,
  t39 := Tryz.underlying121,
  a39 := Tryz.isAgg121,
  z39 := Tryz.sizeOf121,
  v39 := Tryz.zeroValue121,
  t45 := Tryz.underlying149,
  a45 := Tryz.isAgg149,
  z45 := Tryz.sizeOf149,
  v45 := Tryz.zeroValue149,
  t46 := Tryz.underlying150,
  a46 := Tryz.isAgg150,
  z46 := Tryz.sizeOf150,
  v46 := Tryz.zeroValue150,
  t50 := Tryz.underlying88,
  a50 := Tryz.isAgg88,
  z50 := Tryz.sizeOf88,
  v50 := Tryz.zeroValue88,
  t53 := Tryz.underlying156,
  a53 := Tryz.isAgg156,
  z53 := Tryz.sizeOf156,
  v53 := Tryz.zeroValue156,
  t55 := Tryz.underlying158,
  a55 := Tryz.isAgg158,
  z55 := Tryz.sizeOf158,
  v55 := Tryz.zeroValue158,
  t66 := Tryz.underlying167,
  a66 := Tryz.isAgg167,
  z66 := Tryz.sizeOf167,
  v66 := Tryz.zeroValue167,
  t70 := Tryz.underlying171,
  a70 := Tryz.isAgg171,
  z70 := Tryz.sizeOf171,
  v70 := Tryz.zeroValue171,
  t76 := Tryz.underlying175,
  a76 := Tryz.isAgg175,
  z76 := Tryz.sizeOf175,
  v76 := Tryz.zeroValue175,
  t77 := Tryz.underlying176,
  a77 := Tryz.isAgg176,
  z77 := Tryz.sizeOf176,
  v77 := Tryz.zeroValue176 }
end Go.Proofs
namespace Go.AM
open Go.Proofs
theorem l_Sort_Cl (l : List Cl) (hl : l.length < 4611686018427387904) : LProc Tryz.prog 88 5 (clsAV l) [.fn 89 [] []] (clsAV (sortCl l)) :=
  lproc_sortP clC Tryz.sortCl 5 (by omega) Tryz.isAgg58 Tryz.sizeOf58 (fun _ => rfl) (fun x c hc => by simp [clC] at hc; rcases hc with rfl | rfl | rfl | rfl | rfl <;> rfl) cmpCl swoCl totCl 89 (fun args w => enters_of Tryz.func89 (by kernel_rfl) rfl args w) c_norm_order l hl
section
variable {α : Type} [DecidableEq α]
def cmpN (l : List α) : Nat → List α
  | 0 => []
  | i + 1 => match l[i]? with
    | none => cmpN l i
    | some x => if 0 < i ∧ l[i - 1]? = some x then cmpN l i else cmpN l i ++ [x]
def cmpA (l : List α) : List α := cmpN l l.length
theorem cmpN_le (l : List α) : ∀ i, (cmpN l i).length ≤ i
  | 0 => by simp [cmpN]
  | i + 1 => by
    have := cmpN_le l i
    unfold cmpN
    split
    · omega
    · split
      · omega
      · simp; omega
theorem cmpN_eq (l : List α) (k m : Nat) (hm : m = k + 1) (h : m < l.length) (he : l[m] = l[k]) : cmpN l (m + 1) = cmpN l m := by
  subst hm
  conv => lhs; unfold cmpN
  rw [List.getElem?_eq_getElem h]
  simp [List.getElem?_eq_getElem (show k < l.length by omega), he]
theorem cmpN_ne (l : List α) (k m : Nat) (hm : m = k + 1) (h : m < l.length) (he : l[m] ≠ l[k]) : cmpN l (m + 1) = cmpN l m ++ [l[m]] := by
  subst hm
  conv => lhs; unfold cmpN
  rw [List.getElem?_eq_getElem h]
  simp [List.getElem?_eq_getElem (show k < l.length by omega), Ne.symm he]
theorem cmpA_le (l : List α) : (cmpA l).length ≤ l.length := cmpN_le l l.length
theorem cmpA_one (l : List α) (h : l.length < 2) : cmpA l = l := by
  match l, h with
  | [], _ => rfl
  | [x], _ => simp [cmpA, cmpN]
end
theorem Cl_ok : EncOk clC 5 := ⟨fun _ => rfl, fun x c hc => by simp [clC] at hc; rcases hc with rfl | rfl | rfl | rfl | rfl <;> rfl⟩
theorem ClR_get (l : List Cl) (pad : List AV) (i : Nat) (h : i < l.length) : ((boxR clC l pad).drop (i * 5)).take 5 = [.i .i64 l[i].kind, .b l[i].strict, .i .i64 l[i].a, .i .i64 l[i].b, .i .i64 l[i].num] := boxR_get Cl_ok l pad i h
theorem ClR_set (l : List Cl) (pad : List AV) (i : Nat) (h : i < l.length) (x : Cl) : (boxR clC l pad).take (i * 5) ++ .i .i64 x.kind :: .b x.strict :: .i .i64 x.a :: .i .i64 x.b :: .i .i64 x.num :: (boxR clC l pad).drop (i * 5 + 5) = boxR clC (l.set i x) pad := boxR_set Cl_ok l pad i h x
theorem Cl_zero : ∀ c ∈ [AV.i .i64 0, .b false, .i .i64 0, .i .i64 0, .i .i64 0], c.calm = true := fun c hc => by simp at hc; rcases hc with rfl | rfl | rfl | rfl | rfl <;> rfl
@[simp] theorem try_eqCl : flatEq Tryz.prog 58 = some [.int .i64, .bool, .int .i64, .int .i64, .int .i64] := by kernel_rfl
set_option maxRecDepth 8000 in
set_option maxHeartbeats 1000000 in
theorem c_Compact_Cl (l : List Cl) (cap : Nat) (hc : l.length ≤ cap) (hl : l.length ≤ 1000000) (pad : List AV) (hp : pad.length = (cap - l.length) * 5) (hpad : Calm pad) : Proc Tryz.prog 1 90 [.bs 0 0 l.length cap] [(0, boxR clC l pad)] (.bs 0 0 (cmpA l).length cap) [(0, boxR clC (cmpA l) (zerosL [.i .i64 0, .b false, .i .i64 0, .i .i64 0, .i .i64 0] (l.length - (cmpA l).length) ++ pad))] := by
  have hC : ∀ l', Calm (boxR clC l' pad) := fun l' => boxR_calm Cl_ok hpad
  have hL : ∀ l', (boxR clC l' pad).length = l'.length * 5 + pad.length := fun l' => boxR_len Cl_ok l' pad
  refine proc_of (cxb Tryz.prog 61 1 [0, 2, 3, 4, 5, 8, 13, 25, 32, 44] [] [2]) 60 [.tmp 2] Tryz.func90 rfl rfl rfl rfl rfl rfl (Nat.le_refl _) rfl ?_
  refine AWp.go [0] [0] fun K hK => ?_
  simp [hC, hL]
  first | refine hK _ _ ?_ | refine ⟨by omega, hK _ _ ?_⟩ | refine ⟨by omega, by omega, hK _ _ ?_⟩
  clear hK K
  refine AWp.seq ?_
  refine AWp.go [0, 8] [0] fun K hK => ?_
  simp [hC, hL]
  first | refine hK _ _ ?_ | refine ⟨by omega, hK _ _ ?_⟩ | refine ⟨by omega, by omega, hK _ _ ?_⟩
  clear hK K
  by_cases h : 2 ≤ l.length
  · refine AWp.cond (t := false) (by first | (simp [h]; done) | (simp [h]; omega)) (by simp) (fun _ => ?_)
    refine AWp.skip ?_
    show AWp _ _ _ _
    refine AWp.seq ?_
    refine AWp.go [0, 3] [0] fun K hK => ?_
    simp [hC, hL]
    first | refine hK _ _ ?_ | refine ⟨by omega, hK _ _ ?_⟩ | refine ⟨by omega, by omega, hK _ _ ?_⟩
    clear hK K
    refine AWp.block (AWp.while (fun i : Nat => [(0, .bs 0 0 l.length cap), (3, .i .i64 (i + 1))]) (fun i => [(0, boxR clC l pad)]) (fun i => i + 1 ≤ l.length ∧ cmpN l (i + 1) = l.take (i + 1)) (fun i => l.length - i) [0, 3] [0] 0 (by exact ⟨by omega, by simp [cmpN, List.getElem?_eq_getElem (show 0 < l.length by omega)]; rw [List.take_succ_eq_append_getElem (show 0 < l.length by omega)]; simp⟩) (by simp [hC, hL]) ?_)
    intro i hi
    refine AWp.seq ?_
    refine AWp.go [0, 3, 13] [0] fun K hK => ?_
    simp [hC, hL]
    first | refine hK _ _ ?_ | refine ⟨by omega, hK _ _ ?_⟩ | refine ⟨by omega, by omega, hK _ _ ?_⟩
    clear hK K
    by_cases h : i + 1 < l.length
    · refine AWp.cond (t := true) (by first | (simp [h]; done) | (simp [h]; omega)) (fun _ => ?_) (by simp)
      have w1 : IntKind.i64.wrap ((i : Int) + 1) = i + 1 := wrap64 (by omega) (by omega)
      have w0 : IntKind.i64.wrap (i : Int) = i := wrap64 (by omega) (by omega)
      refine AWp.skip ?_
      show AWp _ _ _ _
      refine AWp.seq ?_
      refine AWp.block ?_
      refine AWp.stepD 10 (fun _ => .any) [0, 3, 25] [0] [(0, .bs 0 0 l.length cap), (3, .i .i64 (i + 1)), (25, .b (decide (l[i + 1] = l[i])))] [(0, boxR clC l pad)] mix (by kernel_rfl) ?_ ?_
      · simp [w1, w0, hC, hL, ClR_get l pad (i + 1) h, ClR_get l pad i (by omega)]
        refine ⟨by omega, by omega, by omega, by omega, ?_⟩
        simp [Cl.eq_iff, bbeq]
      by_cases he : l[i + 1] = l[i]
      · refine AWp.cond (t := true) (by first | (simp [he]; done) | (simp [he]; omega)) (fun _ => ?_) (by simp)
        have hc0 : cmpN l (i + 2) = l.take (i + 1) := by rw [cmpN_eq l i (i + 1) rfl h he, hi.2]
        refine AWp.step [0, 3, 4] [0] [(0, .bs 0 0 l.length cap), (3, .i .i64 (i + 1)), (4, .bs 0 ((i + 1) * 5) (l.length - (i + 1)) (cap - (i + 1)))] [(0, boxR clC l pad)] ?_ ?_
        · simp [w1, w0, hC, hL]
          omega
        refine AWp.seq ?_
        refine AWp.go [0, 3, 4, 5] [0] fun K hK => ?_
        simp [hC, hL]
        first | refine hK _ _ ?_ | refine ⟨by omega, hK _ _ ?_⟩ | refine ⟨by omega, by omega, hK _ _ ?_⟩
        clear hK K
        refine AWp.block (AWp.while (fun p : Nat × List Cl => [(0, .bs 0 0 l.length cap), (3, .i .i64 (cmpN l (i + 2 + p.1)).length), (4, .bs 0 ((i + 1) * 5) (l.length - (i + 1)) (cap - (i + 1))), (5, .i .i64 (p.1 + 1))]) (fun p => [(0, boxR clC p.2 pad)]) (fun p => p.2.length = l.length ∧ i + 2 + p.1 ≤ l.length ∧ (cmpN l (i + 2 + p.1)).length ≤ i + 1 + p.1 ∧ p.2.take (cmpN l (i + 2 + p.1)).length = cmpN l (i + 2 + p.1) ∧ ∀ k, i + 1 + p.1 ≤ k → p.2[k]? = l[k]?) (fun p => l.length - p.1) [0, 3, 4, 5] [0] (0, l) (by exact ⟨rfl, by dsimp only; omega, by simp [hc0]; omega, by simp [hc0], fun _ _ => rfl⟩) (by simp [hc0, hC]; omega) ?_)
        rintro ⟨j, c⟩ ⟨hcl, hj2, hk3, hj3, hj4⟩
        dsimp only at hcl hj2 hk3 hj3 hj4
        try dsimp only
        refine AWp.seq ?_
        refine AWp.go [0, 3, 4, 5, 32] [0] fun K hK => ?_
        simp [hC, hL]
        first | refine hK _ _ ?_ | refine ⟨by omega, hK _ _ ?_⟩ | refine ⟨by omega, by omega, hK _ _ ?_⟩
        clear hK K
        by_cases h3 : i + 2 + j < l.length
        · refine AWp.cond (t := true) (by first | (simp [h3]; done) | (simp [h3]; omega)) (fun _ => ?_) (by simp)
          have v1 : IntKind.i64.wrap ((j : Int) + 1) = j + 1 := wrap64 (by omega) (by omega)
          have v0 : IntKind.i64.wrap (j : Int) = j := wrap64 (by omega) (by omega)
          have v2 : IntKind.i64.wrap ((j : Int) + 1 + 1) = j + 1 + 1 := wrap64 (by omega) (by omega)
          have hle := cmpN_le l (i + 2 + j)
          have v3 : IntKind.i64.wrap (((cmpN l (i + 2 + j)).length : Int) + 1) = (cmpN l (i + 2 + j)).length + 1 := wrap64 (by omega) (by omega)
          have q1 : c[i + 2 + j]'(by omega) = l[i + 2 + j] := by have := hj4 (i + 2 + j) (by omega); rw [List.getElem?_eq_getElem (by omega), List.getElem?_eq_getElem (by omega)] at this; exact Option.some.inj this
          have q2 : c[i + 1 + j]'(by omega) = l[i + 1 + j] := by have := hj4 (i + 1 + j) (by omega); rw [List.getElem?_eq_getElem (by omega), List.getElem?_eq_getElem (by omega)] at this; exact Option.some.inj this
          have g1 := ClR_get c pad (i + 2 + j) (by omega)
          rw [q1] at g1
          have e5 : i + 1 + (j + 1) = i + 2 + j := by omega
          have g2 := ClR_get c pad (i + 1 + j) (by omega)
          rw [q2] at g2
          refine AWp.skip ?_
          show AWp _ _ _ _
          refine AWp.seq ?_
          refine AWp.block ?_
          refine AWp.stepD 10 (fun _ => .any) [0, 3, 4, 5, 44] [0] [(0, .bs 0 0 l.length cap), (3, .i .i64 (cmpN l (i + 2 + j)).length), (4, .bs 0 ((i + 1) * 5) (l.length - (i + 1)) (cap - (i + 1))), (5, .i .i64 (j + 1)), (44, .b (!decide (l[i + 2 + j] = l[i + 1 + j])))] [(0, boxR clC c pad)] mix (by kernel_rfl) ?_ ?_
          · simp [hC, hL, v1, v0, ← Nat.add_mul, e5, g1, g2]
            refine ⟨by omega, by omega, by omega, by omega, ?_⟩
            simp [Cl.eq_iff, bbeq]
          by_cases he2 : l[i + 2 + j] = l[i + 1 + j]
          · refine AWp.cond (t := false) (by first | (simp [he2]; done) | (simp [he2]; omega)) (by simp) (fun _ => ?_)
            refine AWp.skip ?_
            show AWp _ _ _ _
            refine AWp.goLast [0, 3, 4, 5] [0] fun K hK => ?_
            simp [hC, hL]
            first | refine hK _ _ ?_ | refine ⟨by omega, hK _ _ ?_⟩ | refine ⟨by omega, by omega, hK _ _ ?_⟩
            clear hK K
            have hcn : cmpN l (i + 2 + j + 1) = cmpN l (i + 2 + j) := cmpN_eq l (i + 1 + j) (i + 2 + j) (by omega) h3 he2
            refine ⟨(j + 1, c), ⟨hcl, by dsimp only; omega, ?_, ?_, ?_⟩, by dsimp only; omega, ?_⟩
            · dsimp only; rw [show i + 2 + (j + 1) = i + 2 + j + 1 by omega, hcn]; omega
            · dsimp only; rw [show i + 2 + (j + 1) = i + 2 + j + 1 by omega, hcn]; exact hj3
            · intro k hk
              exact hj4 k (by dsimp only at hk; omega)
            · simp [hC, v2, show i + 2 + (j + 1) = i + 2 + j + 1 by omega, hcn]
          · refine AWp.cond (t := true) (by first | (simp [he2]; done) | (simp [he2]; omega)) (fun _ => ?_) (by simp)
            refine AWp.step [0, 3, 4, 5] [0] [(0, .bs 0 0 l.length cap), (3, .i .i64 (cmpN l (i + 2 + j)).length), (4, .bs 0 ((i + 1) * 5) (l.length - (i + 1)) (cap - (i + 1))), (5, .i .i64 (j + 1))] [(0, boxR clC (c.set (cmpN l (i + 2 + j)).length l[i + 2 + j]) pad)] ?_ ?_
            · have hs := ClR_set c pad (cmpN l (i + 2 + j)).length (by omega) l[i + 2 + j]
              simp [hC, hL, v1, v0, ← Nat.add_mul, e5, g1, g2, hs]
              omega
            refine AWp.goLast [0, 3, 4, 5] [0] fun K hK => ?_
            simp [hC, hL]
            first | refine hK _ _ ?_ | refine ⟨by omega, hK _ _ ?_⟩ | refine ⟨by omega, by omega, hK _ _ ?_⟩
            clear hK K
            show AWp _ _ _ _
            refine AWp.goLast [0, 3, 4, 5] [0] fun K hK => ?_
            simp [hC, hL]
            first | refine hK _ _ ?_ | refine ⟨by omega, hK _ _ ?_⟩ | refine ⟨by omega, by omega, hK _ _ ?_⟩
            clear hK K
            have hcn : cmpN l (i + 2 + j + 1) = cmpN l (i + 2 + j) ++ [l[i + 2 + j]] := cmpN_ne l (i + 1 + j) (i + 2 + j) (by omega) h3 he2
            refine ⟨(j + 1, c.set (cmpN l (i + 2 + j)).length l[i + 2 + j]), ⟨by simpa using hcl, by dsimp only; omega, ?_, ?_, ?_⟩, by dsimp only; omega, ?_⟩
            · dsimp only; rw [show i + 2 + (j + 1) = i + 2 + j + 1 by omega, hcn]; simp; omega
            · dsimp only; rw [show i + 2 + (j + 1) = i + 2 + j + 1 by omega, hcn, List.length_append, List.length_singleton, List.take_succ_eq_append_getElem (by simp; omega), List.getElem_set_self, List.take_set_of_le (Nat.le_refl _), hj3]
            · intro k hk
              dsimp only at hk
              rw [List.getElem?_set_ne (by omega)]
              exact hj4 k (by omega)
            · simp [hC, v2, v3, show i + 2 + (j + 1) = i + 2 + j + 1 by omega, hcn]
        · refine AWp.cond (t := false) (by first | (simp [h3]; done) | (simp [h3]; omega)) (by simp) (fun _ => ?_)
          refine AWp.exit ?_
          show AWp _ _ _ _
          have hjn : i + 2 + j = l.length := by omega
          have hD : cmpN l (i + 2 + j) = cmpA l := by rw [hjn]; rfl
          rw [hD] at hj3 hk3
          have hcl2 := boxR_clear Cl_ok c pad (zerosL [.i .i64 0, .b false, .i .i64 0, .i .i64 0, .i .i64 0] (l.length - (cmpA l).length)) (cmpA l).length (by omega) (by rw [zerosL_length, hcl]; rfl)
          rw [hj3] at hcl2
          have hC2 : ∀ l' n, Calm (boxR clC l' (zerosL [.i .i64 0, .b false, .i .i64 0, .i .i64 0, .i .i64 0] n ++ pad)) := fun l' n => boxR_calm Cl_ok ((Calm.zeros (fun c hc => by exact Cl_zero c hc) n).append hpad)
          refine AWp.step [0, 3] [0] [(0, .bs 0 0 l.length cap), (3, .i .i64 (cmpA l).length)] [(0, boxR clC (cmpA l) (zerosL [.i .i64 0, .b false, .i .i64 0, .i .i64 0, .i .i64 0] (l.length - (cmpA l).length) ++ pad))] ?_ ?_
          · simp [hC, hL, hD, show ¬ cap = (cmpA l).length by omega, zerosL_length] at hcl2 ⊢
            simp [hcl2, hC2]
            refine ⟨by omega, by omega, (((hC c).drop _).take _).freeL⟩
          refine AWp.go [2] [0] fun K hK => ?_
          simp [hC2, hC, hL]
          refine ⟨by omega, hK _ _ ?_⟩
          clear hK K
          refine AWp.ret ?_
          simp [hC2]
          intro x hx
          simpa using (hC2 _ _).still x hx
      · refine AWp.cond (t := false) (by first | (simp [he]; done) | (simp [he]; omega)) (by simp) (fun _ => ?_)
        refine AWp.skip ?_
        show AWp _ _ _ _
        refine AWp.goLast [0, 3] [0] fun K hK => ?_
        simp [hC, hL]
        first | refine hK _ _ ?_ | refine ⟨by omega, hK _ _ ?_⟩ | refine ⟨by omega, by omega, hK _ _ ?_⟩
        clear hK K
        refine ⟨i + 1, ⟨by omega, ?_⟩, by omega, ?_⟩
        · rw [cmpN_ne l i (i + 1) rfl h he, hi.2, ← List.take_succ_eq_append_getElem h]
        · have w2 : IntKind.i64.wrap ((i : Int) + 1 + 1) = i + 1 + 1 := wrap64 (by omega) (by omega)
          simp [w2, hC]
    · refine AWp.cond (t := false) (by first | (simp [h]; done) | (simp [h]; omega)) (by simp) (fun _ => ?_)
      refine AWp.exit ?_
      show AWp _ _ _ _
      have hcd : cmpA l = l := by
        have hii : i + 1 = l.length := by omega
        rw [cmpA, ← hii, hi.2, hii, List.take_length]
      refine AWp.go [2] [0] fun K hK => ?_
      simp [hC, hL]
      first | refine hK _ _ ?_ | refine ⟨by omega, hK _ _ ?_⟩ | refine ⟨by omega, by omega, hK _ _ ?_⟩
      clear hK K
      refine AWp.ret ?_
      simp [hcd, zerosL, hC]
      intro x hx
      simpa using (hC l).still x hx
  · refine AWp.cond (t := true) (by first | (simp [h]; done) | (simp [h]; omega)) (fun _ => ?_) (by simp)
    refine AWp.go [2] [0] fun K hK => ?_
    simp [hC, hL]
    first | refine hK _ _ ?_ | refine ⟨by omega, hK _ _ ?_⟩ | refine ⟨by omega, by omega, hK _ _ ?_⟩
    clear hK K
    refine AWp.ret ?_
    have hcd : cmpA l = l := cmpA_one l (by omega)
    simp [hcd, zerosL, hC]
    intro x hx
    simpa using (hC l).still x hx
theorem Cl_data (l : List Cl) : ((clsAV l).flatten.all fun c => c.data && c.cellOk) = true := by
  rw [List.all_eq_true]
  intro c hc
  obtain ⟨y, hy, hc⟩ := List.mem_flatten.1 hc
  obtain ⟨x, _, rfl⟩ := List.mem_map.1 hy
  simp [clC] at hc
  rcases hc with rfl | rfl | rfl | rfl | rfl <;> rfl
theorem h_Compact_Cl (l : List Cl) (hl : l.length ≤ 1000000) : HProc Tryz.prog 90 5 (clsAV l) [] (clsAV (cmpA l)) := by
  refine hproc_box rfl rfl (fun z hz => ?_) (Cl_data _) (by simpa using cmpA_le l) fun cap hcap => ⟨zerosL [.i .i64 0, .b false, .i .i64 0, .i .i64 0, .i .i64 0] (l.length - (cmpA l).length) ++ List.replicate ((cap - l.length) * 5) .any, ?_, ?_⟩
  · obtain ⟨x, _, rfl⟩ := List.mem_map.1 hz; rfl
  · have h3 := cmpA_le l
    have h4 := rows_len Cl_ok (cmpA l)
    have h5 : ((clsAV (cmpA l)).flatten).length = (cmpA l).length * 5 := h4
    simp at hcap
    simp only [List.length_append, zerosL_length, List.length_replicate, h5]
    simp; omega
  · simp at hcap
    have := c_Compact_Cl l cap hcap hl (List.replicate ((cap - l.length) * 5) .any) (by simp) (Calm.replicate _ rfl)
    simpa [boxR, clsAV] using this
theorem c_insertion0_Cl (g sz : Nat) : Pure Tryz.prog 149 [.sl .fro sz [], .i .i64 0, .i .i64 0, .fn g [] []] (.tup []) := by
  refine proc_of (cx Tryz.prog 53 [0, 1, 2, 3, 8, 9, 14, 34] []) 49 [] Tryz.func149 rfl rfl rfl rfl rfl rfl (Nat.le_refl _) rfl ?_
  refine AWp.go [0, 1, 2, 3, 8] [] fun K hK => ?_
  simp
  first | refine hK _ _ ?_ | refine ⟨by omega, hK _ _ ?_⟩ | refine ⟨by omega, by omega, hK _ _ ?_⟩
  clear hK K
  refine AWp.block (AWp.while (fun i : Nat => [(0, .sl .fro sz []), (1, .i .i64 0), (2, .i .i64 0), (3, .fn g [] []), (8, .i .i64 1)]) (fun i => []) (fun i => True) (fun i => 0) [0, 1, 2, 3, 8] [] 0 (by simp) (by simp) ?_)
  intro i hi
  refine AWp.seq ?_
  refine AWp.go [0, 1, 2, 3, 8, 14] [] fun K hK => ?_
  simp
  first | refine hK _ _ ?_ | refine ⟨by omega, hK _ _ ?_⟩ | refine ⟨by omega, by omega, hK _ _ ?_⟩
  clear hK K
  refine AWp.cond (t := false) (by first | (simp; done) | (simp; omega)) (by simp) (fun _ => ?_)
  refine AWp.exit ?_
  simp
theorem c_pdq0_Cl (g sz : Nat) : Pure Tryz.prog 132 [.sl .fro sz [], .i .i64 0, .i .i64 0, .i .i64 0, .fn g [] []] (.tup []) := by
  refine proc_of (cx Tryz.prog 148 [0, 1, 2, 3, 4, 10, 11, 12, 13, 14, 15, 16, 17, 18, 19, 20, 25, 32, 39, 56, 75, 80, 97, 125] []) 143 [] Tryz.func132 rfl rfl rfl rfl rfl rfl (Nat.le_refl _) rfl ?_
  refine AWp.go [0, 1, 2, 3, 4, 10] [] fun K hK => ?_
  simp
  first | refine hK _ _ ?_ | refine ⟨by omega, hK _ _ ?_⟩ | refine ⟨by omega, by omega, hK _ _ ?_⟩
  clear hK K
  refine AWp.go [0, 1, 2, 3, 4, 10, 11] [] fun K hK => ?_
  simp
  first | refine hK _ _ ?_ | refine ⟨by omega, hK _ _ ?_⟩ | refine ⟨by omega, by omega, hK _ _ ?_⟩
  clear hK K
  refine AWp.block (AWp.while (fun i : Nat => [(0, .sl .fro sz []), (1, .i .i64 0), (2, .i .i64 0), (3, .i .i64 0), (4, .fn g [] []), (10, .b true), (11, .b true)]) (fun i => []) (fun i => True) (fun i => 0) [0, 1, 2, 3, 4, 10, 11] [] 0 (by simp) (by simp) ?_)
  intro i hi
  refine AWp.block ?_
  refine AWp.go [0, 1, 2, 3, 4, 10, 11, 12] [] fun K hK => ?_
  simp
  first | refine hK _ _ ?_ | refine ⟨by omega, hK _ _ ?_⟩ | refine ⟨by omega, by omega, hK _ _ ?_⟩
  clear hK K
  refine AWp.seq ?_
  refine AWp.go [0, 1, 2, 3, 4, 10, 11, 12, 25] [] fun K hK => ?_
  simp
  first | refine hK _ _ ?_ | refine ⟨by omega, hK _ _ ?_⟩ | refine ⟨by omega, by omega, hK _ _ ?_⟩
  clear hK K
  refine AWp.cond (t := true) (by first | (simp; done) | (simp; omega)) (fun _ => ?_) (by simp)
  refine AWp.go [] [] fun K hK => ?_
  simp
  refine call_pure (c_insertion0_Cl g sz) (by simp) ?_
  simp
  first | refine hK _ _ ?_ | refine ⟨by omega, hK _ _ ?_⟩ | refine ⟨by omega, by omega, hK _ _ ?_⟩
  clear hK K
  refine AWp.ret ?_
  simp
theorem c_SortFunc0_Cl (g sz : Nat) : Pure Tryz.prog 88 [.sl .fro sz [], .fn g [] []] (.tup []) := by
  refine proc_of (cx Tryz.prog 14 [0, 1, 4] []) 12 [] Tryz.func88 rfl rfl rfl rfl rfl rfl (Nat.le_refl _) rfl ?_
  refine AWp.go [0, 1, 4] [] fun K hK => ?_
  simp
  first | refine hK _ _ ?_ | refine ⟨by omega, hK _ _ ?_⟩ | refine ⟨by omega, by omega, hK _ _ ?_⟩
  clear hK K
  refine AWp.goLast [] [] fun K hK => ?_
  simp
  refine call_pure (c_Len_0) (by simp) ?_
  simp
  refine call_pure (c_pdq0_Cl g sz) (by simp) ?_
  simp
  first | refine hK _ _ ?_ | refine ⟨by omega, hK _ _ ?_⟩ | refine ⟨by omega, by omega, hK _ _ ?_⟩
  clear hK K
  simp
end Go.AM
