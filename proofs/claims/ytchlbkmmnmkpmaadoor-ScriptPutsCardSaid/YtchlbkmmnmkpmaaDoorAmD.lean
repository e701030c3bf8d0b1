/- Regions that draw their order: operations that only put a value. No project text. -/
import Derived.Test.YtchlbkmmnmkpmaaDoorAmC
import Derived.Orders
import Derived.Test.YtchlbkmmnmkpmaaDoorAmB
import Derived.Shelf.Spec.SlicesGrow
import Derived.MapKept
set_option linter.unusedSimpArgs false
set_option linter.unusedVariables false
namespace Go.AM

/-- A value that is neither of memory nor a view. -/
def AV.inert : AV → Bool
  | .b _ | .i _ _ | .s _ | .nil | .nofn | .ptr _ _ | .ab _ _ _ _ | .mp _ | .it _ => true
  | .sl .fro _ _ => true
  | _ => false

/-- A slice literal of data, given up at once. -/
def qbs (C : Cx) (t len : Nat) (ps : List (Nat × AV)) : QR :=
  match (C.T t).map TI.kind with
  | some (.slice e) => match C.T e with
    | some y => match fillL (fun i => some (i * y.size, y.size)) (List.replicate len (y.zero.map (AV.dz noF))).flatten (ps.map fun p => (p.1, p.2.dz noF)) with
      | some cs => ⟨AV.vwsN (ps.map (·.2)) = [] ∧ len * y.size ≤ 16777216 ∧ 0 < y.size ∧ (ps.all fun p => (p.2.dz noF).data) = true ∧ AV.dataL (y.zero.map (AV.dz noF)) = true ∧ AV.dataL cs = true ∧ cs.all AV.cellOk = true, .sl .fro y.size (chunk y.size len cs)⟩
      | none => .no
    | none => .no
  | _ => .no

/-- What an operation puts that only puts a value; r: a call's result. -/
def pop (C : Cx) (r : AV) (o : Oper) (st : St) : QR :=
  match o.op with
  | .assign x => ⟨(st.rd (szOf C.T o.type) x).inert = true, st.rd (szOf C.T o.type) x⟩
  | .call ⟨.value f, args, ts⟩ => match st.rd 0 f with
    | .fn g fi ca => ⟨Pure C.P g ((fi ++ rdArgs C st args.toList ts.toList ++ ca).map AV.argz) r ∧
        (r.scalar = true ∨ (AV.vwsN (fi ++ rdArgs C st args.toList ts.toList ++ ca) = [] ∧ AV.resOkN noQ noF (fi ++ rdArgs C st args.toList ts.toList ++ ca) = true ∧ r.ptrs (fun _ => false) = true)), r⟩
    | _ => .no
  | .buildSlice t len parts => qbs C t len (parts.toList.map fun p => (p.1, st.rd (elemSz C.T t) p.2))
  | _ => match isNilCmp o.op with
    | some _ => .no
    | none => qop2 C st o.type o.op

theorem rd_congr {st st' : St} {x : Operand} (h : ∀ t, x = .tmp t → st.slots t = st'.slots t) (sz : Nat) : st.rd sz x = st'.rd sz x := by
  cases x with
  | tmp t => simp only [St.rd, h t rfl]
  | const v => rfl
  | func f => rfl
  | global g => rfl

theorem rdArgs_congr {C : Cx} {st st' : St} : ∀ (xs : List Operand) (ts : List Nat), (∀ x ∈ xs, ∀ t, x = .tmp t → st.slots t = st'.slots t) → rdArgs C st xs ts = rdArgs C st' xs ts
  | [], ts, _ => by simp [rdArgs]
  | x :: xs, [], h => by
    rw [rdArgs, rdArgs, rd_congr (h x (by simp)), rdArgs_congr xs [] fun y hy => h y (by simp [hy])]
  | x :: xs, t :: ts, h => by
    rw [rdArgs, rdArgs, rd_congr (h x (by simp)), rdArgs_congr xs ts fun y hy => h y (by simp [hy])]

theorem map_rd_congr {st st' : St} {xs : List Operand} (h : ∀ x ∈ xs, ∀ t, x = .tmp t → st.slots t = st'.slots t) : xs.map (st.rd 0) = xs.map (st'.rd 0) :=
  List.map_congr_left fun x hx => rd_congr (h x hx) 0

theorem qop_congr {T : Nat → Option TI} {st st' : St} {ty : Nat} {op : Op} (h : ∀ x ∈ op.operands, ∀ t, x = .tmp t → st.slots t = st'.slots t) (hb : st.boxes = st'.boxes) : qop T st ty op = qop T st' ty op := by
  have rd : ∀ x ∈ op.operands, ∀ sz, st.rd sz x = st'.rd sz x := fun x hx sz => rd_congr (h x hx) sz
  have mp : ∀ xs : List Operand, (∀ x ∈ xs, x ∈ op.operands) → xs.map (st.rd 0) = xs.map (st'.rd 0) := fun xs hx => map_rd_congr fun x hm => h x (hx x hm)
  cases op <;> simp only [qop] <;> simp only [Op.operands] at rd mp
  case move x => rw [rd x (by simp)]
  case pick c a b => rw [rd c (by simp), rd a (by simp), rd b (by simp)]
  case binOp op t x y z => rw [rd x (by simp), rd y (by simp)]
  case unOp op t x => rw [rd x (by simp)]
  case convert s d x => rw [rd x (by simp)]
  case fieldAddr s x f => rw [rd x (by simp)]
  case field s x f => rw [rd x (by simp)]
  case load t x => rw [rd x (by simp)]; simp only [qload, hb]
  case indexAddr t x ix => rw [rd x (by simp), rd ix (by simp)]
  case index t x ix => rw [rd x (by simp), rd ix (by simp)]
  case nilCheck x => rw [rd x (by simp)]
  case extract x k => rw [rd x (by simp)]
  case build t parts =>
    congr 1
    exact List.map_congr_left fun p hp => by
      rw [rd p.2 (by simp only [List.mem_toArray, List.mem_map]; exact ⟨p, hp, rfl⟩)]
  case slice t x lo hi mx =>
    cases mx with
    | some m =>
      cases lo with
      | some l =>
        cases hi with
        | none => rfl
        | some y => simp only; rw [rd x (by simp), rd l (by simp), rd y (by simp), rd m (by simp)]
      | none =>
        cases hi with
        | none => rfl
        | some y => simp only; rw [rd x (by simp), rd y (by simp), rd m (by simp)]
    | none =>
      simp only
      rw [rd x (by simp)]
      congr 1
      · cases lo with
        | none => rfl
        | some y => simp only [Option.map_some]; rw [rd y (by simp)]
      · cases hi with
        | none => rfl
        | some y => simp only [Option.map_some]; rw [rd y (by simp)]
  case makeFunc fn first captured =>
    cases fn <;> simp only
    rw [mp first.toList (fun x hx => by simp at hx ⊢; exact .inl hx), mp captured.toList (fun x hx => by simp at hx ⊢; exact .inr hx)]
  case call c =>
    obtain ⟨callee, args, ts⟩ := c
    have ha : args.toList.map (st.rd 0) = args.toList.map (st'.rd 0) := mp _ fun x hx => by simp [Call.operands]; exact .inr (by simpa using hx)
    cases callee with
    | value f => rfl
    | invoke r m => rfl
    | builtin b => cases b <;> simp only [ha]

theorem qop2_congr {C : Cx} {st st' : St} {ty : Nat} {op : Op} (h : ∀ x ∈ op.operands, ∀ t, x = .tmp t → st.slots t = st'.slots t) (hb : st.boxes = st'.boxes) : qop2 C st ty op = qop2 C st' ty op := by
  have hq := qop_congr (T := C.T) (ty := ty) h hb
  unfold qop2
  rw [hq]
  split
  · rename_i eq t x y hop
    obtain ⟨yt, rfl⟩ := isEql_some hop
    rw [rd_congr (h x (by simp [Op.operands])), rd_congr (h y (by simp [Op.operands]))]
  · rfl

theorem pop_congr {C : Cx} {r : AV} {o : Oper} {st st' : St} (h : ∀ x ∈ o.op.operands, ∀ t, x = .tmp t → st.slots t = st'.slots t) (hb : st.boxes = st'.boxes) : pop C r o st = pop C r o st' := by
  have hq := qop2_congr (C := C) (ty := o.type) h hb
  unfold pop
  split
  · rename_i x ho
    rw [rd_congr (h x (by simp [ho, Op.operands]))]
  · rename_i f args ts ho
    rw [rd_congr (h f (by simp [ho, Op.operands, Call.operands])), rdArgs_congr args.toList ts.toList fun x hx => h x (by simp [ho, Op.operands, Call.operands]; exact .inr (by simpa using hx))]
  · rename_i t len parts ho
    congr 1
    exact List.map_congr_left fun p hp => by
      rw [rd_congr (h p.2 (by rw [ho]; simp only [Op.operands, List.mem_toArray, List.mem_map]; exact ⟨p, by simpa using hp, rfl⟩))]
  · rw [hq]

theorem inert_assign {C : Cx} {st : St} {d : Nat} {X : AV} {K : St → Prop} (hX : X.inert = true) (hd : d < C.N) (hf : (st.slots d).free = true) (hK : K (st.put d X)) : aassign C st d X K := by
  have h1 : X.vws (.slot d []) = [] := by
    cases X with
    | sl g _ _ => cases g <;> simp_all [AV.inert, AV.vws]
    | _ => simp_all [AV.inert, AV.vws]
  have h2 : X.tr (resLeaf noF) (.slot d []) = X := by
    cases X with
    | sl g _ _ => cases g <;> simp_all [AV.inert, AV.tr, resLeaf]
    | _ => simp_all [AV.inert, AV.tr, resLeaf]
  have h3 : X.resOk noQ noF (.slot d []) = true := by
    cases X with
    | sl g _ _ => cases g <;> simp_all [AV.inert, AV.resOk, resLeafOk]
    | _ => simp_all [AV.inert, AV.resOk, resLeafOk]
  unfold aassign
  simp only [h1, hf, List.isEmpty_nil, Bool.and_self, settleQ, settleF, h2, St.settle_no]
  exact ⟨hd, h3, hK⟩

theorem pop_aop {C : Cx} {r : AV} {o : Oper} {st : St} {d : Nat} {K : St → Prop} (hnb : ∀ t len parts, o.op ≠ .buildSlice t len parts) (hd : o.dst = some d) (hok : (pop C r o st).ok) (hN : d < C.N) (hf : (st.slots d).free = true) (hK : K (st.put d (pop C r o st).v)) : aop C o st K := by
  obtain ⟨dst, op, type, pos, after, guard⟩ := o
  simp only at hd
  subst hd
  have gen : aop C ⟨some d, op, type, pos, after, guard⟩ st K = aelse C ⟨some d, op, type, pos, after, guard⟩ st d K →
      (pop C r ⟨some d, op, type, pos, after, guard⟩ st = match isNilCmp op with | some _ => .no | none => qop2 C st type op) → aop C ⟨some d, op, type, pos, after, guard⟩ st K := by
    intro h1 h2
    rw [h1]
    rw [h2] at hok hK
    unfold aelse
    cases hn : isNilCmp op with
    | some e => rw [hn] at hok; exact hok.elim
    | none =>
      rw [hn] at hok hK
      simp only
      exact ⟨hok, hN, hf, hK⟩
  cases op with
  | assign x => exact inert_assign hok hN hf hK
  | alloc t => exact hok.elim
  | box t x => exact hok.elim
  | buildSlice t n parts => exact absurd rfl (hnb t n parts)
  | makeSlice t l c => exact hok.elim
  | call c =>
    obtain ⟨callee, args, ts⟩ := c
    cases callee with
    | builtin b => cases b <;> first
        | exact hok.elim
        | exact gen rfl rfl
    | invoke x m => exact hok.elim
    | value f =>
      show acallV C st d (st.rd 0 f) (rdArgs C st args.toList ts.toList) K
      simp only [pop] at hok hK
      split at hok
      · rename_i g fi ca hfv
        rw [hfv] at hK ⊢
        simp only at hK
        refine .inl ⟨r, hok.1, hN, hf, ?_⟩
        cases hs : r.scalar with
        | true => exact hK
        | false =>
          rcases hok.2 with h | ⟨h1, h2, h3⟩
          · rw [hs] at h; cases h
          · simp only [h1, List.isEmpty_nil, settleF]
            exact ⟨h2, by rw [St.fz_no]; exact hf, h3, by rw [St.fz_no]; exact hK⟩
      · exact hok.elim
  | _ => exact gen rfl rfl

/-- The same, where an operation may be guarded. -/
def popg (C : Cx) (ops : Array Oper) (r : AV) (o : Oper) (st : St) : QR :=
  match o.guard with
  | none => pop C r o st
  | some (j, b) => match (ops[j]?).bind (·.dst) with
    | some t => match (st.slots t).gv with
      | some (some c) => if c = b then pop C r o st else ⟨True, .tup []⟩
      | some none => ⟨True, .tup []⟩
      | none => .no
    | none => .no

theorem popg_congr {C : Cx} {ops : Array Oper} {r : AV} {o : Oper} {st st' : St} (h : ∀ t ∈ o.looksAt ops, st.slots t = st'.slots t) (hb : st.boxes = st'.boxes) : popg C ops r o st = popg C ops r o st' := by
  have hp : pop C r o st = pop C r o st' := pop_congr (fun x hx t ht => h t (List.mem_append_left _ (List.mem_filterMap.2 ⟨x, by simpa using hx, by rw [ht]⟩))) hb
  unfold popg
  cases hg : o.guard with
  | none => exact hp
  | some jb =>
    obtain ⟨j, b⟩ := jb
    simp only
    cases hj : (ops[j]?).bind (·.dst) with
    | none => rfl
    | some t =>
      simp only
      have : st.slots t = st'.slots t := h t (List.mem_append_right _ (by simp [hg, hj]))
      rw [this, hp]

def aputs (C : Cx) (ops : Array Oper) (rs : Nat → AV) : Nat → List Oper → St → (St → Prop) → Prop
  | _, [], st, K => K st
  | k, o :: rest, st, K => match o.dst with
    | some d => (popg C ops (rs k) o st).ok ∧ d < C.N ∧ (st.slots d).free = true ∧ aputs C ops rs (k + 1) rest (st.put d (popg C ops (rs k) o st).v) K
    | none => False

def bindsOn (o : Oper) (j : Nat) : Bool := o.after.any fun e => e.on == j && Region.binds .any e

/-- The first m operations only put, each to a slot of its own, and each reads what others put behind them alone; the others come behind all ahead of them. -/
def drawOk (ops : Array Oper) (m : Nat) : Bool :=
  decide (m ≤ ops.size) && Region.noSelect ops && (List.range ops.size).all fun k => match ops[k]? with
    | some o => (o.after.all fun e => !Region.binds .any e || decide (e.on < k)) &&
      if k < m then
        ((List.range m).all fun j => j == k || match ops[j]? with
          | some oj => oj.dst != o.dst
          | none => true) &&
        (o.looksAt ops).all fun t => (List.range m).all fun j => match ops[j]? with
          | some oj => oj.dst != some t || (decide (j < k) && bindsOn o j)
          | none => true
      else (List.range k).all fun j => bindsOn o j
    | none => true

/-- The states of the text's order. -/
def canon (C : Cx) (ops : Array Oper) (rs : Nat → AV) (st : St) : Nat → St
  | 0 => st
  | k + 1 => match ops[k]? with
    | some o => match o.dst with
      | some d => (canon C ops rs st k).put d (popg C ops (rs k) o (canon C ops rs st k)).v
      | none => canon C ops rs st k
    | none => canon C ops rs st k

section
variable {C : Cx} {ops : Array Oper} {rs : Nat → AV} {st : St} {m : Nat}

def dstOf (ops : Array Oper) (k : Nat) : Option Nat := (ops[k]?).bind (·.dst)
def putOf (C : Cx) (ops : Array Oper) (rs : Nat → AV) (st : St) (k : Nat) : AV :=
  match ops[k]? with
  | some o => (popg C ops (rs k) o (canon C ops rs st k)).v
  | none => .any

/-- A state in which certain operations have put their values. -/
structure IsT (C : Cx) (ops : Array Oper) (rs : Nat → AV) (st : St) (m : Nat) (D : Nat → Prop) (s : St) : Prop where
  put : ∀ j t, j < m → D j → dstOf ops j = some t → s.slots t = putOf C ops rs st j
  old : ∀ t, (∀ j, j < m → D j → dstOf ops j ≠ some t) → s.slots t = st.slots t
  boxes : s.boxes = st.boxes

theorem isT_put {D : Nat → Prop} {s : St} (h : IsT C ops rs st m D s) {k d : Nat} (hk : k < m) (hd : dstOf ops k = some d) (hne : ∀ j, j < m → j ≠ k → dstOf ops j ≠ some d) :
    IsT C ops rs st m (fun j => D j ∨ j = k) (s.put d (putOf C ops rs st k)) := by
  refine ⟨fun j t hj hD hjt => ?_, fun t ht => ?_, h.boxes⟩
  · show (if t = d then _ else s.slots t) = _
    by_cases htd : t = d
    · subst htd
      have : j = k := Classical.byContradiction fun hjk => hne j hj hjk hjt
      subst this
      rw [if_pos rfl]
    · rw [if_neg htd]
      rcases hD with hD | rfl
      · exact h.put j t hj hD hjt
      · rw [hjt] at hd; exact absurd (Option.some.inj hd) htd
  · show (if t = d then _ else s.slots t) = _
    have htd : t ≠ d := fun e => ht k hk (.inr rfl) (by rw [e]; exact hd)
    rw [if_neg htd]
    exact h.old t fun j hj hD => ht j hj (.inl hD)

theorem isT_unique {D : Nat → Prop} {s s' : St} (h : IsT C ops rs st m D s) (h' : IsT C ops rs st m D s') : s = s' := by
  refine St.ext' (fun t => ?_) (fun id => by rw [h.boxes, h'.boxes])
  by_cases ht : ∃ j, j < m ∧ D j ∧ dstOf ops j = some t
  · obtain ⟨j, hj, hD, hjt⟩ := ht
    rw [h.put j t hj hD hjt, h'.put j t hj hD hjt]
  · have : ∀ j, j < m → D j → dstOf ops j ≠ some t := fun j hj hD he => ht ⟨j, hj, hD, he⟩
    rw [h.old t this, h'.old t this]

theorem isT_congr {D D' : Nat → Prop} {s : St} (h : IsT C ops rs st m D s) (hD : ∀ j, j < m → (D j ↔ D' j)) : IsT C ops rs st m D' s :=
  ⟨fun j t hj hd => h.put j t hj ((hD j hj).2 hd), fun t ht => h.old t fun j hj hd => ht j hj ((hD j hj).1 hd), h.boxes⟩

theorem canon_isT (hdst : ∀ k, k < m → ∃ o d, ops[k]? = some o ∧ o.dst = some d) (hne : ∀ j k d, j < m → k < m → j ≠ k → dstOf ops k = some d → dstOf ops j ≠ some d) :
    ∀ k, k ≤ m → IsT C ops rs st m (fun j => j < k) (canon C ops rs st k)
  | 0, _ => ⟨fun j t _ h => absurd h (by omega), fun t _ => rfl, rfl⟩
  | k + 1, hk => by
    obtain ⟨o, d, ho, hd⟩ := hdst k (by omega)
    have hdk : dstOf ops k = some d := by simp [dstOf, ho, hd]
    have h := isT_put (canon_isT hdst hne k (by omega)) (k := k) (d := d) (by omega) hdk (fun j hj hjk => hne j k d hj (by omega) hjk hdk)
    have e : canon C ops rs st (k + 1) = (canon C ops rs st k).put d (putOf C ops rs st k) := by simp [canon, putOf, ho, hd]
    rw [e]
    exact isT_congr h fun j hj => by omega
end

section
variable {C : Cx} {S : Start} {ops : Array Oper} {R : Exit → Act → World → Prop}

/-- The value of a guard, in the model. -/
theorem yielded_of {E : Env} (I : Inv C.N S E) {a : Act} (ha : a.tmps = E.tm) {j t : Nat} {c : Bool} (hj : (ops[j]?).bind (·.dst) = some t) (hc : E.st.slots t = .b c) : yielded ops a.tmps j = some c := by
  have hval := I.rel.slots t
  rw [hc] at hval
  have hv : a.tmps.getD t undef = .bool c := by
    rw [ha]
    generalize E.tm.getD t undef = v at hval
    cases hval; rfl
  have ht : t < a.tmps.size := by
    rcases Nat.lt_or_ge t a.tmps.size with h1 | h1
    · exact h1
    · rw [Array.getD_eq_getD_getElem?, Array.getElem?_eq_none h1] at hv
      simp [undef] at hv
  have hg2 : a.tmps[t]? = some (.bool c) := by
    rw [Array.getElem?_eq_getElem ht]
    rw [Array.getD_eq_getD_getElem?, Array.getElem?_eq_getElem ht] at hv
    exact congrArg some hv
  unfold yielded
  simp [hj, hg2]

theorem aops_head {E : Env} (I : Inv C.N S E) (hbase : S.k ≤ C.base) {a : Act} (ha : a.tmps = E.tm) (hd : a.defers = []) {i : Nat} {o : Oper} {rest : List Oper} {K : St → Prop} (ho : ops[i]? = some o) (h : aops C ops (o :: rest) E.st K)
    {next : Act → World → Prop} (hnext : ∀ E' a', Inv C.N S E' → a'.tmps = E'.tm → a'.defers = [] → aops C ops rest E'.st K → next a' E'.w) : wpOp C.P ops R i next a E.w := by
  have run : aop C o E.st (fun st => aops C ops rest st K) → o.wp C.P a E.w next R := fun h =>
    aop_sound I hbase ha o h fun E' a' I' ha' hd' hK => hnext E' a' I' ha' (hd'.trans hd) hK
  unfold wpOp
  simp only [ho]
  simp only [aops] at h
  cases hg : o.guard with
  | none =>
    rw [hg] at h
    have hw : Region.wanted o (yielded ops a.tmps) = true := by simp [Region.wanted, hg]
    rw [if_pos hw]
    exact .inl (run h)
  | some jb =>
    obtain ⟨j, b⟩ := jb
    rw [hg] at h
    simp only at h
    split at h
    · rename_i t d hj hd'
      split at h
      · rename_i c hc
        replace hc := AV.gv_some hc
        have hy := yielded_of I ha hj hc
        have hw : Region.wanted o (yielded ops a.tmps) = (c == b) := by
          simp only [Region.wanted, hg, hy]
          cases c <;> cases b <;> rfl
        rw [hw]
        by_cases hcb : c = b
        · rw [if_pos (by simpa using hcb)]
          rw [if_pos hcb] at h
          exact .inl (run h)
        · rw [if_neg (by simpa using hcb)]
          rw [if_neg hcb] at h
          obtain ⟨h1, h2, h3⟩ := h
          have I' := I.putq d (.tup []) undef h1 (fun π sz xs => free_noOwn π h2) rfl val_undef
          refine hnext { E with st := E.st.put d (.tup []), tm := E.tm.setIfInBounds d undef } _ I' ?_ ?_ h3
          · rw [hd']; show a.tmps.setIfInBounds d undef = _; rw [ha]
          · rw [hd']; exact hd
      · rename_i hc
        replace hc := AV.gv_none hc
        have hy := yielded_off I ha hj hc
        have hw : Region.wanted o (yielded ops a.tmps) = false := by
          simp only [Region.wanted, hg, hy]
          rfl
        rw [hw, if_neg (by decide)]
        obtain ⟨h1, h2, h3⟩ := h
        have I' := I.putq d (.tup []) undef h1 (fun π sz xs => free_noOwn π h2) rfl val_undef
        refine hnext { E with st := E.st.put d (.tup []), tm := E.tm.setIfInBounds d undef } _ I' ?_ ?_ h3
        · rw [hd']; show a.tmps.setIfInBounds d undef = _; rw [ha]
        · rw [hd']; exact hd
      · exact h.elim
    · exact h.elim

theorem Leans.fz_id {SP : Place → Prop} {SB : Nat → Prop} {F : Place → Bool} (hF : ∀ q, SP q → F q = false) {p : Place} {x : AV} (h : Leans SP SB p x) : x.tr (fzLeaf F) p = x := by
  have lst : ∀ (l : List AV) (k : Nat) (p : Place), (∀ (j : Nat) (c : AV), l[j]? = some c → c.tr (fzLeaf F) (p.sub (k + j)) = c) → AV.trL (fzLeaf F) p k l = l := by
    intro l
    induction l with
    | nil => intros; rfl
    | cons x l ih =>
      intro k p h
      rw [AV.trL, show AV.tr (fzLeaf F) (p.sub k) x = x from h 0 x rfl, ih (k + 1) p fun j c hc => by rw [show k + 1 + j = k + (j + 1) by omega]; exact h (j + 1) c (by simpa using hc)]
  have lsn : ∀ (l : List AV), (∀ c ∈ l, c.tr (fzLeaf F) .no = c) → AV.trN (fzLeaf F) l = l := by
    intro l
    induction l with
    | nil => intros; rfl
    | cons x l ih =>
      intro h
      rw [AV.trN, h x (by simp), ih fun c hc => h c (by simp [hc])]
  induction h with
  | pt p g ix cells off hq =>
    rw [AV.tr_leaf rfl]
    cases g <;> first | rfl | skip
    rename_i q ex
    simp [fzLeaf, hF q (hq q ex rfl)]
  | sl p g sz xs hq hp =>
    rw [AV.tr_leaf rfl]
    cases g <;> first | rfl | skip
    · simp [fzLeaf, hF p (hp rfl)]
    · rename_i q ex
      simp [fzLeaf, hF q (hq q ex rfl)]
  | fn p f fi ca _ _ h1 h2 =>
    rw [AV.tr, lsn fi h1, lsn ca h2]
  | agg p cs _ ih =>
    rw [AV.tr, lst cs 0 p fun j c hc => by rw [Nat.zero_add]; exact ih j c hc]
  | tup p cs _ ih =>
    rw [AV.tr, lst cs 0 p fun j c hc => by rw [Nat.zero_add]; exact ih j c hc]
  | _ => rfl

/-- What a slot has been given of its own is given up at once. -/
theorem Inv.putFro {N : Nat} {S : Start} {E E' : Env} (I : Inv N S E) (I' : Inv N S E') {d sz : Nat} {xs : List (List AV)} (hf : (E.st.slots d).free = true) (hst : E'.st = E.st.put d (.sl .own sz xs)) :
    ∃ E2, E2.w = E'.w ∧ E2.tm = E'.tm ∧ Inv N S E2 ∧ E2.st = E.st.put d (.sl .fro sz xs) := by
  refine ⟨E'.fz (isSlotOf d), rfl, rfl, I'.fz (isSlotOf d) fun _ => rfl, ?_⟩
  show E'.st.fz (isSlotOf d) = _
  rw [hst]
  have hq : ∀ q sz xs, E.st.abs q = .sl .own sz xs → isSlotOf d q = false := by
    intro q sz xs h
    cases q with
    | slot t π =>
      simp only [isSlotOf, beq_eq_false_iff_ne, ne_eq]
      rintro rfl
      exact absurd h (free_noOwn π hf)
    | _ => rfl
  refine St.ext' (fun t => ?_) (fun id => ?_)
  · show ((if t = d then _ else E.st.slots t) : AV).tr (fzLeaf (isSlotOf d)) (.slot t []) = if t = d then _ else E.st.slots t
    by_cases htd : t = d
    · rw [if_pos htd, if_pos htd, AV.tr_leaf rfl]
      simp [fzLeaf, isSlotOf, htd]
    · rw [if_neg htd, if_neg htd]
      exact (I.rel.leansSlot (SP := fun q => isSlotOf d q = false) hq rfl t).fz_id fun q h => h
  · show (E.st.boxes id).map (AV.trC (fzLeaf (isSlotOf d)) id 0) = E.st.boxes id
    cases hb : E.st.boxes id with
    | none => rfl
    | some cs =>
      show some _ = some cs
      congr 1
      have key : ∀ (l : List AV) (k : Nat), (∀ (j : Nat) (c : AV), l[j]? = some c → c.tr (fzLeaf (isSlotOf d)) (.cell id (k + j)) = c) → AV.trC (fzLeaf (isSlotOf d)) id k l = l := by
        intro l
        induction l with
        | nil => intros; rfl
        | cons x l ih =>
          intro k h
          rw [AV.trC, show AV.tr (fzLeaf (isSlotOf d)) (.cell id k) x = x from h 0 x rfl, ih (k + 1) fun j c hc => by rw [show k + 1 + j = k + (j + 1) by omega]; exact h (j + 1) c (by simpa using hc)]
      exact key cs 0 fun j c hc => by
        rw [Nat.zero_add]
        exact (I.rel.leansCell (SP := fun q => isSlotOf d q = false) hq rfl hb hc).fz_id fun q h => h

theorem wp_popBuild {E : Env} (I : Inv C.N S E) {a : Act} (ha : a.tmps = E.tm) {o : Oper} {r : AV} {d t len : Nat} {parts : Array (Nat × Operand)} (ho : o.op = .buildSlice t len parts) (hd : o.dst = some d) (hok : (pop C r o E.st).ok) (hN : d < C.N) (hf : (E.st.slots d).free = true)
    {next : Act → World → Prop} (hnext : ∀ E' a', Inv C.N S E' → a'.tmps = E'.tm → a'.defers = a.defers → E'.st = E.st.put d (pop C r o E.st).v → next a' E'.w) : o.wp C.P a E.w next R := by
  have e : pop C r o E.st = qbs C t len (parts.toList.map fun p => (p.1, E.st.rd (elemSz C.T t) p.2)) := by unfold pop; rw [ho]
  rw [e] at hok hnext
  unfold qbs at hok hnext
  generalize hps : (parts.toList.map fun p => (p.1, E.st.rd (elemSz C.T t) p.2)) = ps at hok hnext
  split at hok
  · rename_i e hk
    rw [hk] at hnext
    simp only at hnext
    split at hok
    · rename_i y hy
      rw [hy] at hnext
      simp only at hnext
      split at hok
      · rename_i cs hcs
        rw [hcs] at hnext
        simp only at hnext
        obtain ⟨h1, h2, h3, h4, h5, h6, h7⟩ := hok
        refine wp_buildSlice (K := fun s => s = E.st.put d (.sl .own y.size (chunk y.size len cs))) (sz := elemSz C.T t) I ha ?_ hd ho ?_
        · intro E' a' I' ha' hd' hK
          obtain ⟨E2, g1, g2, g3, g4⟩ := I.putFro I' hf hK
          rw [← g1]
          exact hnext E2 a' g3 (by rw [g2]; exact ha') hd' g4
        · unfold abuildSlice
          rw [hk]
          simp only
          rw [hy]
          simp only
          rw [hps, h1]
          simp only [List.isEmpty_nil, settleF]
          have hn : (fun _ => false : Place → Bool) = noF := rfl
          rw [hcs]
          exact ⟨hN, hf, h2, h3, h4, h5, h6, h7, by rw [St.fz_no]⟩
      · exact hok.elim
    · exact hok.elim
  · exact hok.elim

/-- An operation that only puts. -/
theorem pop_head {E : Env} (I : Inv C.N S E) (hbase : S.k ≤ C.base) {a : Act} (ha : a.tmps = E.tm) (hd : a.defers = []) {i d : Nat} {o : Oper} {r : AV} (ho : ops[i]? = some o) (hdst : o.dst = some d) (hok : (popg C ops r o E.st).ok) (hN : d < C.N)
    (hf : (E.st.slots d).free = true) {next : Act → World → Prop} (hnext : ∀ E' a', Inv C.N S E' → a'.tmps = E'.tm → a'.defers = [] → E'.st = E.st.put d (popg C ops r o E.st).v → next a' E'.w) : wpOp C.P ops R i next a E.w := by
  unfold wpOp
  simp only [ho]
  have run : popg C ops r o E.st = pop C r o E.st → o.wp C.P a E.w next R := fun he => by
    rw [he] at hok hnext
    by_cases hb : ∃ t len parts, o.op = .buildSlice t len parts
    · obtain ⟨t, len, parts, hb⟩ := hb
      exact wp_popBuild I ha hb hdst hok hN hf fun E' a' I' ha' hd' hK => hnext E' a' I' ha' (hd'.trans hd) hK
    · exact aop_sound (K := fun s => s = E.st.put d (pop C r o E.st).v) I hbase ha o (pop_aop (fun t len parts h => hb ⟨t, len, parts, h⟩) hdst hok hN hf rfl) fun E' a' I' ha' hd' hK => hnext E' a' I' ha' (hd'.trans hd) hK
  unfold popg at hok hnext run
  cases hg : o.guard with
  | none =>
    have hw : Region.wanted o (yielded ops a.tmps) = true := by simp [Region.wanted, hg]
    rw [if_pos hw]
    exact .inl (run (by rw [hg]))
  | some jb =>
    obtain ⟨j, b⟩ := jb
    rw [hg] at hok hnext run
    simp only at hok hnext run
    cases hj : (ops[j]?).bind (·.dst) with
    | none => rw [hj] at hok; exact hok.elim
    | some t =>
      rw [hj] at hok hnext run
      simp only at hok hnext run
      split at hok
      · rename_i c hc
        replace hc := AV.gv_some hc
        have hy := yielded_of I ha hj hc
        have hw : Region.wanted o (yielded ops a.tmps) = (c == b) := by
          simp only [Region.wanted, hg, hy]
          cases c <;> cases b <;> rfl
        rw [hw]
        rw [hc] at hnext run
        simp only [AV.gv_b] at hnext run
        by_cases hcb : c = b
        · rw [if_pos (by simpa using hcb)]
          rw [if_pos hcb] at run
          exact .inl (run rfl)
        · rw [if_neg (by simpa using hcb)]
          rw [if_neg hcb] at hnext
          have I' := I.putq d (.tup []) undef hN (fun π sz xs => free_noOwn π hf) rfl val_undef
          refine hnext { E with st := E.st.put d (.tup []), tm := E.tm.setIfInBounds d undef } _ I' ?_ ?_ rfl
          · rw [hdst]; show a.tmps.setIfInBounds d undef = _; rw [ha]
          · rw [hdst]; exact hd
      · rename_i hc
        replace hc := AV.gv_none hc
        have hy := yielded_off I ha hj hc
        have hw : Region.wanted o (yielded ops a.tmps) = false := by
          simp only [Region.wanted, hg, hy]
          rfl
        rw [hc] at hnext
        simp only [AV.gv_off] at hnext
        rw [hw, if_neg (by decide)]
        have I' := I.putq d (.tup []) undef hN (fun π sz xs => free_noOwn π hf) rfl val_undef
        refine hnext { E with st := E.st.put d (.tup []), tm := E.tm.setIfInBounds d undef } _ I' ?_ ?_ rfl
        · rw [hdst]; show a.tmps.setIfInBounds d undef = _; rw [ha]
        · rw [hdst]; exact hd
      · exact hok.elim
end

theorem bindsOn_iff {o : Oper} {j : Nat} : bindsOn o j = true ↔ ∃ e ∈ o.after, e.on = j ∧ Region.binds .any e = true := by
  unfold bindsOn
  rw [Array.any_eq_true']
  constructor
  · rintro ⟨e, he, h⟩
    simp only [Bool.and_eq_true, beq_iff_eq] at h
    exact ⟨e, he, h⟩
  · rintro ⟨e, he, h1, h2⟩
    exact ⟨e, he, by simp [h1, h2]⟩

structure DrawOk (ops : Array Oper) (m : Nat) : Prop where
  le : m ≤ ops.size
  back : ∀ (k : Nat) o, ops[k]? = some o → ∀ e ∈ o.after, Region.binds .any e = true → e.on < k
  dst : ∀ (k j : Nat) o oj, k < m → j < m → j ≠ k → ops[k]? = some o → ops[j]? = some oj → oj.dst ≠ o.dst
  look : ∀ (k j : Nat) o oj t, k < m → j < m → ops[k]? = some o → ops[j]? = some oj → t ∈ o.looksAt ops → oj.dst = some t → j < k ∧ bindsOn o j = true
  tail : ∀ (k : Nat) o, m ≤ k → ops[k]? = some o → ∀ j, j < k → bindsOn o j = true

theorem drawOk_spec {ops : Array Oper} {m : Nat} (h : drawOk ops m = true) : DrawOk ops m := by
  simp only [drawOk, Bool.and_eq_true, decide_eq_true_eq, List.all_eq_true, List.mem_range] at h
  obtain ⟨⟨h1, _⟩, h3⟩ := h
  have get : ∀ (k : Nat) o, ops[k]? = some o → k < ops.size := fun k o ho => (Array.getElem?_eq_some_iff.1 ho).1
  have at' : ∀ (k : Nat) o, ops[k]? = some o → _ := fun k o ho => by
    have := h3 k (get k o ho)
    rw [ho] at this
    exact this
  refine ⟨h1, fun k o ho e he hb => ?_, fun k j o oj hk hj hjk ho hoj => ?_, fun k j o oj t hk hj ho hoj ht hd => ?_, fun k o hk ho j hj => ?_⟩
  · have := at' k o ho
    simp only [Bool.and_eq_true] at this
    have h4 := Array.all_eq_true_iff_forall_mem.1 this.1 e he
    simpa [hb] using h4
  · have := at' k o ho
    simp only [Bool.and_eq_true, hk, if_true, List.all_eq_true, List.mem_range] at this
    have h4 := this.2.1 j hj
    rw [hoj] at h4
    simpa [hjk] using h4
  · have := at' k o ho
    simp only [Bool.and_eq_true, hk, if_true, List.all_eq_true, List.mem_range] at this
    have h4 := this.2.2 t ht j hj
    rw [hoj] at h4
    simpa [hd] using h4
  · have := at' k o ho
    have hk' : ¬ k < m := by omega
    simp only [Bool.and_eq_true, hk', if_false, List.all_eq_true, List.mem_range] at this
    exact this.2 j hj

section
variable {C : Cx} {S : Start} {ops : Array Oper} {R : Exit → Act → World → Prop} {m : Nat}

/-- Behind the first m operations there is but one order. -/
theorem draw_tail (D : DrawOk ops m) (hbase : S.k ≤ C.base) {K : St → Prop} (hR : ∀ E a, Inv C.N S E → a.tmps = E.tm → a.defers = [] → K E.st → R .normal a E.w) :
    ∀ (fuel k : Nat) (listed : Array Bool) (E : Env) (a : Act), k ≤ ops.size → ops.size ≤ k + fuel → m ≤ k → listed.size = ops.size → (∀ j, j < ops.size → listed.getD j true = decide (j < k)) → Inv C.N S E → a.tmps = E.tm → a.defers = [] →
      aops C ops (ops.toList.drop k) E.st K → wpAny C.P .any ops R fuel listed a E.w := by
  intro fuel
  have fin : ∀ (fuel k : Nat) (listed : Array Bool) (E : Env) (a : Act), k = ops.size → (∀ j, j < ops.size → listed.getD j true = decide (j < k)) → Inv C.N S E → a.tmps = E.tm → a.defers = [] → aops C ops (ops.toList.drop k) E.st K → wpAny C.P .any ops R fuel listed a E.w := by
    intro fuel k listed E a hk hl I ha hd h
    subst hk
    refine wpAny_done ?_ ?_ fuel
    · apply List.eq_nil_iff_forall_not_mem.2
      intro j hj
      obtain ⟨h1, o, ho, _⟩ := mem_ready.1 hj
      have hlt := (Array.getElem?_eq_some_iff.1 ho).1
      rw [hl j hlt] at h1
      simp [hlt] at h1
    · rw [List.drop_eq_nil_of_le (by simp)] at h
      exact hR E a I ha hd h
  induction fuel with
  | zero =>
    intro k listed E a hk hk2 hm hs hl I ha hd h
    exact fin 0 k listed E a (by omega) hl I ha hd h
  | succ fuel ih =>
    intro k listed E a hk hk2 hm hs hl I ha hd h
    by_cases hke : k = ops.size
    · exact fin _ k listed E a hke hl I ha hd h
    have hlt : k < ops.size := by omega
    have ho : ops[k]? = some ops[k] := Array.getElem?_eq_getElem hlt
    have hgf : ∀ j, j < ops.size → listed.getD j false = decide (j < k) := fun j hj => by
      have h1 := hl j hj
      have hjs : j < listed.size := by omega
      rw [Array.getD_eq_getD_getElem?, Array.getElem?_eq_getElem hjs] at h1 ⊢
      exact h1
    have hkr : k ∈ Region.ready .any ops listed := by
      refine mem_ready.2 ⟨by rw [hl k hlt]; simp, _, ho, fun e he hb => ?_⟩
      have := D.back k _ ho e he hb
      rw [hgf e.on (by omega)]; simpa using this
    refine ⟨fun h0 => by rw [h0] at hkr; simp at hkr, fun i hi => ?_⟩
    have hik : i = k := by
      obtain ⟨h1, o, hoi, h2⟩ := mem_ready.1 hi
      have hil := (Array.getElem?_eq_some_iff.1 hoi).1
      rw [hl i hil] at h1
      have h1 : ¬ i < k := by simpa using h1
      refine Classical.byContradiction fun hne => ?_
      obtain ⟨e, he, h3, h4⟩ := bindsOn_iff.1 (D.tail i o (by omega) hoi k (by omega))
      have := h2 e he h4
      rw [h3, hgf k hlt] at this
      simp at this
    subst hik
    have hdrop : ops.toList.drop i = ops[i] :: ops.toList.drop (i + 1) := by
      rw [List.drop_eq_getElem_cons (by simpa using hlt)]; simp
    rw [hdrop] at h
    refine aops_head I hbase ha hd ho h fun E' a' I' ha' hd' h' => ?_
    refine ih (i + 1) _ E' a' (by omega) (by omega) (by omega) (by simpa using hs) (fun j hj => ?_) I' ha' hd' h'
    by_cases hji : i = j
    · subst hji
      rw [Array.getD_eq_getD_getElem?, Array.getElem?_setIfInBounds_self_of_lt (by omega)]
      simp
    · rw [getD_set_ne true hji, hl j hj]
      have : (j < i) ↔ (j < i + 1) := by omega
      simp [this]

theorem countP_lt {p p' : Nat → Bool} : ∀ (l : List Nat), (∀ j ∈ l, p' j = true → p j = true) → (∃ i ∈ l, p i = true ∧ p' i = false) → l.countP p' < l.countP p
  | [], _, h => by obtain ⟨i, hi, _⟩ := h; simp at hi
  | x :: l, hle, h => by
    rw [List.countP_cons, List.countP_cons]
    have hle' : l.countP p' ≤ l.countP p := List.countP_mono_left fun j hj h => hle j (by simp [hj]) h
    obtain ⟨i, hi, h1, h2⟩ := h
    rcases List.mem_cons.1 hi with hx | hx
    · subst hx
      simp only [h1, h2, if_true, Bool.false_eq_true, if_false]
      omega
    · have := countP_lt l (fun j hj => hle j (by simp [hj])) ⟨i, hx, h1, h2⟩
      have hx0 := hle x (by simp)
      cases hp' : p' x with
      | true => rw [hx0 hp']; simp only [if_true]; omega
      | false => cases p x <;> simp only [Bool.false_eq_true, if_false, if_true] <;> omega

/-- The first m operations put their values in any order. -/
theorem draw_puts (D : DrawOk ops m) (hbase : S.k ≤ C.base) {rs : Nat → AV} {st : St} {K : St → Prop} (hR : ∀ E a, Inv C.N S E → a.tmps = E.tm → a.defers = [] → K E.st → R .normal a E.w)
    (hcan : ∀ j, j < m → ∃ o d, ops[j]? = some o ∧ o.dst = some d ∧ (popg C ops (rs j) o (canon C ops rs st j)).ok ∧ d < C.N ∧ ((canon C ops rs st j).slots d).free = true) (hfin : aops C ops (ops.toList.drop m) (canon C ops rs st m) K) :
    ∀ (fuel : Nat) (listed : Array Bool) (E : Env) (a : Act), (List.range m).countP (fun j => !listed.getD j true) + (ops.size - m) ≤ fuel → listed.size = ops.size → (∀ j, m ≤ j → j < ops.size → listed.getD j true = false) →
      IsT C ops rs st m (fun j => listed.getD j true = true) E.st → Inv C.N S E → a.tmps = E.tm → a.defers = [] → wpAny C.P .any ops R fuel listed a E.w := by
  have hdst : ∀ k, k < m → ∃ o d, ops[k]? = some o ∧ o.dst = some d := fun k hk => by
    obtain ⟨o, d, h1, h2, _⟩ := hcan k hk; exact ⟨o, d, h1, h2⟩
  have hne : ∀ j k d, j < m → k < m → j ≠ k → dstOf ops k = some d → dstOf ops j ≠ some d := by
    intro j k d hj hk hjk hd he
    obtain ⟨oj, dj, h1, h2⟩ := hdst j hj
    obtain ⟨ok, dk, h3, h4⟩ := hdst k hk
    refine D.dst k j ok oj hk hj hjk h3 h1 ?_
    simp only [dstOf, h1, h3, Option.bind_some] at hd he
    rw [hd, he]
  have hisT := fun k hk => canon_isT (C := C) (rs := rs) (st := st) hdst hne k hk
  have hle := D.le
  intro fuel
  induction fuel with
  | zero =>
    intro listed E a hf hs htail hT I ha hd
    have hall : ∀ j, j < m → listed.getD j true = true := fun j hj => by
      have h0 : (List.range m).countP (fun j => !listed.getD j true) = 0 := by omega
      rw [List.countP_eq_zero] at h0
      simpa using h0 j (List.mem_range.2 hj)
    have hst : E.st = canon C ops rs st m := isT_unique (isT_congr hT (D' := fun j => j < m) fun j hj => ⟨fun _ => hj, fun _ => hall j hj⟩) (hisT m (Nat.le_refl m))
    refine draw_tail D hbase hR 0 m listed E a hle (by omega) (Nat.le_refl m) hs (fun j hj => ?_) I ha hd (by rw [hst]; exact hfin)
    by_cases hjm : j < m
    · rw [hall j hjm]; simp [hjm]
    · rw [htail j (by omega) hj]; simp [hjm]
  | succ fuel ih =>
    intro listed E a hf hs htail hT I ha hd
    by_cases hall : ∀ j, j < m → listed.getD j true = true
    · have hst : E.st = canon C ops rs st m := isT_unique (isT_congr hT (D' := fun j => j < m) fun j hj => ⟨fun _ => hj, fun _ => hall j hj⟩) (hisT m (Nat.le_refl m))
      refine draw_tail D hbase hR (fuel + 1) m listed E a hle (by omega) (Nat.le_refl m) hs (fun j hj => ?_) I ha hd (by rw [hst]; exact hfin)
      by_cases hjm : j < m
      · rw [hall j hjm]; simp [hjm]
      · rw [htail j (by omega) hj]; simp [hjm]
    · have hgf : ∀ j, j < ops.size → listed.getD j false = listed.getD j true := fun j hj => by
        have hjs : j < listed.size := by omega
        rw [Array.getD_eq_getD_getElem?, Array.getD_eq_getD_getElem?, Array.getElem?_eq_getElem hjs]; rfl
      have hex : ∃ j, j < m ∧ listed.getD j true = false := by
        refine Classical.byContradiction fun hn => hall fun j hj => ?_
        cases hb : listed.getD j true with
        | true => rfl
        | false => exact absurd ⟨j, hj, hb⟩ hn
      refine ⟨fun h0 => ?_, fun i hi => ?_⟩
      · exfalso
        have least : ∃ j, (j < m ∧ listed.getD j true = false) ∧ ∀ i, i < j → listed.getD i true = true := by
          obtain ⟨j, hj⟩ := hex
          induction j using Nat.strongRecOn with
          | _ j ihj =>
            by_cases hall2 : ∀ i, i < j → listed.getD i true = true
            · exact ⟨j, hj, hall2⟩
            · have : ∃ i, i < j ∧ listed.getD i true = false := by
                refine Classical.byContradiction fun hn => hall2 fun i hi => ?_
                cases hb : listed.getD i true with
                | true => rfl
                | false => exact absurd ⟨i, hi, hb⟩ hn
              obtain ⟨i, hi, hb⟩ := this
              exact ihj i hi ⟨by omega, hb⟩
        obtain ⟨j, ⟨hj1, hj2⟩, hj3⟩ := least
        obtain ⟨o, d, ho, _⟩ := hdst j hj1
        have hr : j ∈ Region.ready .any ops listed := by
          refine mem_ready.2 ⟨hj2, o, ho, fun e he hb => ?_⟩
          have h1 := D.back j o ho e he hb
          rw [hgf e.on (by omega)]; exact hj3 _ h1
        rw [h0] at hr; simp at hr
      · obtain ⟨h1, o, ho, h2⟩ := mem_ready.1 hi
        have hil := (Array.getElem?_eq_some_iff.1 ho).1
        have him : i < m := by
          refine Classical.byContradiction fun hn => ?_
          obtain ⟨j, hj1, hj2⟩ := hex
          obtain ⟨e, he, h3, h4⟩ := bindsOn_iff.1 (D.tail i o (by omega) ho j (by omega))
          have := h2 e he h4
          rw [h3, hgf j (by omega), hj2] at this; cases this
        obtain ⟨o', d, ho', hod, hok, hdN, hfree⟩ := hcan i him
        rw [ho] at ho'; cases ho'
        have hdi : dstOf ops i = some d := by simp [dstOf, ho, hod]
        have hTi := hisT i (by omega)
        have hslot : ∀ t ∈ o.looksAt ops, E.st.slots t = (canon C ops rs st i).slots t := by
          intro t ht
          by_cases hj : ∃ j, j < m ∧ dstOf ops j = some t
          · obtain ⟨j, hj, hjt⟩ := hj
            obtain ⟨oj, hoj, hdj⟩ := Option.bind_eq_some_iff.1 hjt
            obtain ⟨hji, hb⟩ := D.look i j o oj t him hj ho hoj ht hdj
            obtain ⟨e, he, h3, h4⟩ := bindsOn_iff.1 hb
            have hlj := h2 e he h4
            rw [h3, hgf j (by omega)] at hlj
            rw [hT.put j t hj hlj hjt, hTi.put j t hj hji hjt]
          · have hn : ∀ j, j < m → dstOf ops j ≠ some t := fun j hj' he => hj ⟨j, hj', he⟩
            rw [hT.old t fun j hj _ => hn j hj, hTi.old t fun j hj _ => hn j hj]
        have hpeq : popg C ops (rs i) o E.st = popg C ops (rs i) o (canon C ops rs st i) := popg_congr hslot (hT.boxes.trans hTi.boxes.symm)
        have hd1 : ∀ j, j < m → j ≠ i → dstOf ops j ≠ some d := fun j hj hji => hne j i d hj him hji hdi
        have hdE : E.st.slots d = (canon C ops rs st i).slots d := by
          rw [hT.old d (fun j hj hl => hd1 j hj fun e => by subst e; rw [h1] at hl; cases hl), hTi.old d (fun j hj hl => hd1 j hj (by omega))]
        have hput : putOf C ops rs st i = (popg C ops (rs i) o (canon C ops rs st i)).v := by simp [putOf, ho]
        refine pop_head I hbase ha hd ho hod (by rw [hpeq]; exact hok) hdN (by rw [hdE]; exact hfree) fun E' a' I' ha' hd' hst' => ?_
        have hset : ∀ j, j ≠ i → (listed.setIfInBounds i true).getD j true = listed.getD j true := fun j hj => getD_set_ne true (Ne.symm hj)
        have hseti : (listed.setIfInBounds i true).getD i true = true := by
          rw [Array.getD_eq_getD_getElem?, Array.getElem?_setIfInBounds_self_of_lt (by omega)]; rfl
        refine ih _ E' a' ?_ (by simpa using hs) (fun j hj hjl => by rw [hset j (by omega)]; exact htail j hj hjl) ?_ I' ha' hd'
        · have := countP_lt (p := fun j => !listed.getD j true) (p' := fun j => !(listed.setIfInBounds i true).getD j true) (List.range m) (fun j _ h => by
            by_cases hji : j = i
            · subst hji; rw [hseti] at h; cases h
            · rw [hset j hji] at h; exact h) ⟨i, List.mem_range.2 him, by rw [h1]; rfl, by rw [hseti]; rfl⟩
          omega
        · rw [hst', hpeq, ← hput]
          refine isT_congr (isT_put hT him hdi fun j hj hji => hd1 j hj hji) fun j hj => ?_
          by_cases hji : j = i
          · subst hji; simp [hseti]
          · rw [hset j hji]; simp [hji]
end

theorem aputs_get {C : Cx} {ops : Array Oper} {rs : Nat → AV} {st : St} {m : Nat} {K : St → Prop} (hm : m ≤ ops.size) : ∀ (l : List Oper) (k : Nat), k ≤ m → l = (ops.toList.take m).drop k → aputs C ops rs k l (canon C ops rs st k) K →
    (∀ j, k ≤ j → j < m → ∃ o d, ops[j]? = some o ∧ o.dst = some d ∧ (popg C ops (rs j) o (canon C ops rs st j)).ok ∧ d < C.N ∧ ((canon C ops rs st j).slots d).free = true) ∧ K (canon C ops rs st m)
  | [], k, hk, hl, h => by
    have : m ≤ k := by
      have := congrArg List.length hl
      simp at this; omega
    have hkm : k = m := by omega
    subst hkm
    exact ⟨fun j h1 h2 => absurd h1 (by omega), h⟩
  | o :: rest, k, hk, hl, h => by
    have hlt : k < m := by
      have := congrArg List.length hl
      simp at this; omega
    have ho : ops[k]? = some o := by
      have := congrArg (·[0]?) hl
      simp only [List.getElem?_cons_zero, List.getElem?_drop, Nat.add_zero, List.getElem?_take, hlt, if_true] at this
      rw [← Array.getElem?_toList]; exact this.symm
    have hrest : rest = (ops.toList.take m).drop (k + 1) := by
      have := congrArg List.tail hl
      simpa [List.tail_drop] using this
    rw [aputs] at h
    split at h
    · rename_i d hd
      obtain ⟨h1, h2, h3, h4⟩ := h
      have e : canon C ops rs st (k + 1) = (canon C ops rs st k).put d (popg C ops (rs k) o (canon C ops rs st k)).v := by simp [canon, ho, hd]
      rw [← e] at h4
      obtain ⟨g1, g2⟩ := aputs_get hm rest (k + 1) (by omega) hrest h4
      refine ⟨fun j hj1 hj2 => ?_, g2⟩
      by_cases hjk : j = k
      · subst hjk; exact ⟨o, d, ho, hd, h1, h2, h3⟩
      · exact g1 j (by omega) hj2
    · exact h.elim

theorem Inv.drawn {N : Nat} {S : Start} {E : Env} (I : Inv N S E) (n : Nat) (hn : E.w.drawn ≤ n) : Inv N S { E with w := { E.w with drawn := n } } := by
  have hst : Stays (fun _ => True) (fun _ => True) E { E with w := { E.w with drawn := n } } := ⟨fun bk h => ⟨h, rfl⟩, fun bk q _ h => ⟨h, rfl⟩, fun _ _ => rfl, fun q u sz xs _ _ h => by cases q <;> exact h, fun q sz xs _ h => h⟩
  have hle : ∀ p x v, Val E p x v → Val { E with w := { E.w with drawn := n } } p x v := fun p x v hv => hv.mono hst (hv.leans (fun _ _ _ _ => trivial) trivial fun _ _ _ _ => trivial)
  refine ⟨⟨I.rel.size, fun t => hle _ _ _ (I.rel.slots t), fun id cs h => ?_, I.rel.pub, I.rel.own, I.rel.abs, I.rel.gl.mono fun bk hp => ⟨hp, rfl⟩⟩, ⟨⟨I.fr.os.1, fun h => Nat.le_trans (I.fr.os.2 h) hn⟩, I.fr.tape, I.fr.output, I.fr.size, I.fr.block, I.fr.own, I.fr.pub0, I.fr.pub1, I.fr.beta⟩⟩
  obtain ⟨g1, arr, T, g2, g3, g4⟩ := I.rel.boxes id cs h
  exact ⟨g1, arr, T, g2, g3, fun j c hj => hle _ _ _ (g4 j c hj)⟩

section
variable {C : Cx} {Q : Exit → St → Prop} {st : St}

/-- A region that draws its order. -/
theorem AWp.draw (m : Nat) (rs : Nat → AV) {id : Nat} {ops : Array Oper} (hmix : C.P.follows .mixedOrders = true) (hok : drawOk ops m = true) (h : aputs C ops rs 0 (ops.toList.take m) st fun s => aops C ops (ops.toList.drop m) s (Q .normal)) : AWp C (.region id ops true) st Q := by
  intro S E a hb I ha hd he
  have D := drawOk_spec hok
  obtain ⟨hcan, hfin⟩ := aputs_get D.le _ 0 (by omega) (by simp) h
  refine wp_region_any hmix ?_
  have hf : ∀ j, j < ops.size → (Array.replicate ops.size false).getD j true = false := fun j hj => by simp [hj]
  refine draw_puts (E := { E with w := { E.w with drawn := E.w.drawn + 1 } }) (st := st) D hb (K := Q .normal) (R := APost C S Q) (fun E a I ha hd h => ⟨E, rfl, I, ha, hd, h⟩) (fun j hj => hcan j (by omega) hj) hfin ops.size (Array.replicate ops.size false) a ?_ (by simp) (fun j _ hj => hf j hj) ?_ (I.drawn _ (Nat.le_succ _)) ha hd
  · have h1 : (List.range m).countP (fun j => !(Array.replicate ops.size false).getD j true) ≤ (List.range m).length := List.countP_le_length
    rw [List.length_range] at h1
    have := D.le
    omega
  · refine ⟨fun j t hj hD _ => ?_, fun t _ => by rw [← he], by rw [← he]⟩
    rw [hf j (Nat.lt_of_lt_of_le hj D.le)] at hD; cases hD

theorem AWp.goD (m : Nat) (rs : Nat → AV) (ks kb : List Nat) {id : Nat} {ops : Array Oper} {y : Code} (hmix : C.P.follows .mixedOrders = true) (hok : drawOk ops m = true)
    (h : ∀ K : St → Prop, (∀ l bx, AWp C y (St.of l bx) Q → K (St.of l bx)) → aputs C ops rs 0 (ops.toList.take m) st fun s => aops C ops (ops.toList.drop m) s fun s => K (St.of (seeS ks kb s ks) (seeB ks kb s kb))) : AWp C (.seq (.region id ops true) y) st Q := by
  refine AWp.seq (AWp.post (fun _ => (ks, kb)) ((AWp.draw (Q := fun e s => thenQ (fun s => AWp C y (s.clean ks kb) Q) (fun _ _ => False) e s) m rs hmix hok ?_).mono ?_))
  · have := h (fun s => AWp C y s Q) fun _ _ h => h
    simp only [← St.clean_eq] at this
    exact this
  · intro e s hs
    cases e with
    | normal => exact hs
    | _ => exact hs.elim

theorem AWp.stepD (m : Nat) (rs : Nat → AV) (ks kb : List Nat) (l : List (Nat × AV)) (bx : Boxes) {id : Nat} {ops : Array Oper} {y : Code} (hmix : C.P.follows .mixedOrders = true) (hok : drawOk ops m = true)
    (h : aputs C ops rs 0 (ops.toList.take m) st fun s => aops C ops (ops.toList.drop m) s fun s => s.sees ks kb l bx) (h2 : AWp C y (St.of l bx) Q) : AWp C (.seq (.region id ops true) y) st Q := by
  refine AWp.seq (AWp.postFit (AWp.post (fun _ => (ks, kb)) ((AWp.draw (Q := fun e s => thenQ (fun s => s.sees ks kb l bx) (fun _ _ => False) e s) m rs hmix hok h).mono ?_)))
  intro e s hs
  cases e with
  | normal => exact ⟨_, St.sees_fits hs, h2⟩
  | _ => exact hs.elim
end
end Go.AM
namespace Go.AM

attribute [simp] pop popg AV.inert qbs
@[simp] theorem aputs_nil {C : Cx} {ops : Array Oper} {rs : Nat → AV} {k : Nat} {st : St} {K : St → Prop} : aputs C ops rs k [] st K = K st := rfl
@[simp] theorem aputs_cons {C : Cx} {ops : Array Oper} {rs : Nat → AV} {k d : Nat} {op type pos after guard} {rest : List Oper} {st : St} {K : St → Prop} : aputs C ops rs k (⟨some d, op, type, pos, after, guard⟩ :: rest) st K =
    ((popg C ops (rs k) ⟨some d, op, type, pos, after, guard⟩ st).ok ∧ d < C.N ∧ (st.slots d).free = true ∧ aputs C ops rs (k + 1) rest (st.put d (popg C ops (rs k) ⟨some d, op, type, pos, after, guard⟩ st).v) K) := rfl
@[congr] theorem aputs_congr {C : Cx} {ops : Array Oper} {rs : Nat → AV} {k k' : Nat} {l l' : List Oper} {st st' : St} {K : St → Prop} (h0 : k = k') (h1 : l = l') (h2 : st = st') : aputs C ops rs k l st K = aputs C ops rs k' l' st' K := by
  subst_vars; rfl
@[simp] theorem int_beq (a b : Int) : (a == b) = decide (a = b) := by cases h : decide (a = b) <;> simp_all
@[simp] theorem int_bne (a b : Int) : (a != b) = !decide (a = b) := by simp [bne]
end Go.AM
namespace Go.AM
open Go.Proofs
abbrev cx (P : Program) (N : Nat) (kept res : List Nat) : Cx := ⟨P, N, kept, [], res, 0⟩
abbrev cxb (P : Program) (N k : Nat) (kept keptB res : List Nat) : Cx := ⟨P, N, kept, keptB, res, k⟩
theorem mix : Tryd.prog.follows .mixedOrders = true := by kernel_rfl

def bytesAV (l : List Int) : List (List AV) := l.map fun n => [.i .u8 n]
@[simp] theorem bytesAV_length (l : List Int) : (bytesAV l).length = l.length := by simp [bytesAV]
@[simp] theorem bytesAV_getElem (l : List Int) (i : Nat) (h : i < (bytesAV l).length) : (bytesAV l)[i] = [.i .u8 (l[i]'(by simpa using h))] := by simp [bytesAV]
theorem wrap64 {x : Int} (h1 : -9223372036854775808 ≤ x) (h2 : x < 9223372036854775808) : IntKind.i64.wrap x = x := by
  unfold IntKind.wrap
  simp [IntKind.bits, IntKind.signed]
  omega

end Go.AM
namespace Go.AM

/-- What a computation hands back does not hang on the world. -/
def Ind {α : Type} (P : Program) (s : Sem α) : Prop := (∃ x, ∀ w, s.run P w = .ok x w) ∨ (∀ w x w', s.run P w ≠ .ok x w')

section
variable {P : Program}

theorem Ind.pure {α : Type} (x : α) : Ind P (Pure.pure x : Sem α) := .inl ⟨x, fun _ => rfl⟩
theorem Ind.halt {α : Type} (h : Halt) : Ind P (.halt h : Sem α) := .inr fun w x w' e => by cases e
theorem Ind.stuck {α : Type} (h : String) : Ind P (Go.stuck h : Sem α) := Ind.halt _
theorem Ind.unsupported {α : Type} (h : Unsupported) : Ind P (Go.unsupported h : Sem α) := Ind.halt _
theorem Ind.program : Ind P Go.program := .inl ⟨P, fun _ => rfl⟩
theorem Ind.bind {α β : Type} {s : Sem α} {f : α → Sem β} (h1 : Ind P s) (h2 : ∀ x, Ind P (f x)) : Ind P (s >>= f) := by
  rcases h1 with ⟨x, hx⟩ | h1
  · rcases h2 x with ⟨y, hy⟩ | h2
    · exact .inl ⟨y, fun w => by simp [hx, hy]⟩
    · exact .inr fun w y w' => by simp [hx, h2]
  · refine .inr fun w y w' => ?_
    rw [Sem.run_bind]
    generalize hr : s.run P w = r
    cases r with
    | ok x w1 => exact absurd hr (h1 w x w1)
    | halt _ _ => simp [Result.andThen]
theorem Ind.underlying (t : TypeId) : Ind P (Go.underlying t) := by
  unfold Go.underlying
  refine Ind.program.bind fun p => ?_
  split
  · exact .pure _
  · exact .stuck _
theorem Ind.goPanic {α : Type} (v : Value) : Ind P (Go.goPanic v : Sem α) := Ind.halt _
theorem nok_bind {α β : Type} {s : Sem α} {f : α → Sem β} (h : ∀ x w y w', (f x).run P w ≠ .ok y w') : ∀ w y w', (s >>= f).run P w ≠ .ok y w' := by
  intro w y w'
  rw [Sem.run_bind]
  cases hr : s.run P w with
  | ok x w1 => simpa [Result.andThen] using h x w1 y w'
  | halt _ _ => simp [Result.andThen]
theorem nok_panic {α : Type} (v : Value) : ∀ w y w', (Go.goPanic v : Sem α).run P w ≠ .ok y w' := fun _ _ _ e => by cases e
theorem nok_rt {α : Type} (e : RuntimeError) : ∀ w y w', (Go.runtimePanic e : Sem α).run P w ≠ .ok y w' := by
  unfold Go.runtimePanic
  refine nok_bind fun p => ?_
  dsimp only
  split <;> first | exact nok_panic _ | exact nok_bind fun _ => nok_bind fun _ => nok_panic _ | exact nok_bind fun _ => nok_panic _
theorem Ind.runtimePanic {α : Type} (e : RuntimeError) : Ind P (Go.runtimePanic e : Sem α) := .inr (nok_rt e)
theorem Ind.asBool (v : Value) : Ind P (Go.asBool v) := by
  unfold Go.asBool
  split <;> first | exact .pure _ | exact .stuck _
theorem Ind.asAgg (v : Value) : Ind P (Go.asAgg v) := by
  unfold Go.asAgg
  split <;> first | exact .pure _ | exact .stuck _
theorem Ind.sizeOf (t : TypeId) : Ind P (Go.sizeOf t) := by
  unfold Go.sizeOf
  refine Ind.bind ?_ fun _ => .pure _
  unfold Go.typeInfo
  refine Ind.program.bind fun p => ?_
  split
  · exact .pure _
  · exact .stuck _
theorem Ind.isAgg (t : TypeId) : Ind P (Go.isAgg t) := by
  unfold Go.isAgg
  refine (Ind.underlying t).bind fun p => ?_
  repeat (first | exact .pure _ | exact .stuck _ | exact .unsupported _ | split)
theorem Ind.part (t : TypeId) (arr : Array Value) (off : Nat) : Ind P (Go.part t arr off) := by
  unfold Go.part
  repeat (first | exact .pure _ | exact .stuck _ | exact .unsupported _ | refine (Ind.isAgg _).bind fun _ => ?_ | refine (Ind.sizeOf _).bind fun _ => ?_ | split)
theorem Ind.field (t : TypeId) (x : Value) (f : Nat) : Ind P (Instr.field t x f) := by
  unfold Instr.field
  refine (Ind.underlying t).bind fun d => ?_
  split
  · split
    · exact (Ind.asAgg x).bind fun _ => .part _ _ _
    · exact .stuck _
  · exact .stuck _
theorem Ind.extract (x : Value) (k : Nat) : Ind P (Instr.extract x k) := by
  unfold Instr.extract
  repeat (first | exact .pure _ | exact .stuck _ | split)
theorem Ind.asIntOf (v : Value) : Ind P (Go.asIntOf v) := by
  unfold Go.asIntOf
  split <;> first | exact .pure _ | exact .stuck _ | exact .unsupported _
theorem Ind.boundsPanic {α : Type} (k : IntKind) (i : Int) (n : Nat) (c : BoundsCode) : Ind P (Go.boundsPanic k i n c : Sem α) := by
  refine .inr ?_
  unfold Go.boundsPanic
  dsimp only
  split
  · exact nok_bind fun _ => nok_rt _
  · exact nok_bind fun _ => nok_rt _
theorem Ind.sliceBound (x : Value) (y : Nat) (c : BoundsCode) : Ind P (Instr.sliceBound x y c) := by
  unfold Instr.sliceBound
  refine (Ind.asIntOf _).bind fun p => ?_
  split
  split
  · exact .pure _
  · exact .boundsPanic _ _ _ _
theorem Ind.sliceBounds (b : Bool) (len cap : Nat) (lo hi mx : Option Value) : Ind P (Instr.sliceBounds b len cap lo hi mx) := by
  unfold Instr.sliceBounds
  cases mx <;> cases hi <;> cases lo <;> dsimp only <;>
    repeat (first | exact .pure _ | exact .stuck _ | refine (Ind.sliceBound _ _ _).bind fun _ => ?_ | refine (Ind.pure _).bind fun _ => ?_ | refine (Ind.stuck _).bind fun _ => ?_)
theorem Ind.intOp (op : BinOp) (k : IntKind) (a b : Int) : Ind P (Op.intArith op k a b) ∧ Ind P (Op.intDiv op k a b) ∧ Ind P (Op.intBits op k a b) ∧ Ind P (Op.intCmp op a b) := by
  refine ⟨?_, ?_, ?_, ?_⟩
  · unfold Op.intArith; split <;> first | exact .pure _ | exact .stuck _
  · unfold Op.intDiv; split
    · exact .runtimePanic _
    · split <;> first | exact .pure _ | exact .stuck _
  · unfold Op.intBits; dsimp only; split <;> first | exact .pure _ | exact .stuck _
  · unfold Op.intCmp; split <;> first | exact .pure _ | exact .stuck _
theorem Ind.shift (op : BinOp) (k k' : IntKind) (a b : Int) : Ind P (Op.shift op k a k' b) := by
  unfold Op.shift; split
  · exact .runtimePanic _
  · dsimp only; split <;> first | exact .pure _ | exact .stuck _
theorem Ind.stringOp (op : BinOp) (a b : ByteArray) : Ind P (Op.stringOp op a b) := by
  unfold Op.stringOp; dsimp only; split <;> (try split) <;> first | exact .pure _ | exact .stuck _ | exact .unsupported _
theorem Ind.binInt (op : BinOp) (t : TypeId) (k k' : IntKind) (a b : Int) : Ind P (Go.binOp op t (.int k a) (.int k' b)) := by
  have h := Ind.intOp (P := P) op k a b
  unfold Go.binOp
  cases op <;> simp only <;> (try split) <;> first | exact .stuck _ | exact .shift _ _ _ _ _ | exact h.1 | exact h.2.1 | exact h.2.2.1 | exact h.2.2.2
theorem Ind.binStr (op : BinOp) (t : TypeId) (a b : ByteArray) : Ind P (Go.binOp op t (.string a) (.string b)) := by
  unfold Go.binOp
  cases op <;> simp only <;> exact .stringOp _ _ _
theorem Ind.unary (op : UnOp) (x : Value) : Ind P (Op.unary op x) := by
  unfold Op.unary
  split <;> first | exact .pure _ | exact .stuck _ | exact .unsupported _ | exact (Ind.intOp _ _ _ _).1 | exact (Ind.intOp _ _ _ _).2.2.1
theorem Ind.slice (t : TypeId) (x : Value) (lo hi mx : Option Value) (hx : (∃ a n c, x = .slice a n c) ∨ ∃ s, x = .string s) : Ind P (Instr.sliceAt t x lo hi mx) := by
  unfold Instr.sliceAt
  refine (Ind.underlying t).bind fun d => ?_
  split
  · rcases hx with ⟨a, n, c, rfl⟩ | ⟨s, rfl⟩ <;> exact .inr (by
      intro w y w'
      rw [Sem.run_bind]
      simp [Instr.sureAddr, Go.stuck, Result.andThen])
  · unfold Instr.slice
    refine (Ind.underlying t).bind fun d => ?_
    split
    · dsimp only
      split
      · exact Ind.bind (.stuck _) fun _ => (Ind.sliceBounds _ _ _ _ _ _).bind fun _ => .pure _
      · exact (Ind.sliceBounds _ _ _ _ _ _).bind fun _ => .pure _
    · exact (Ind.sliceBounds _ _ _ _ _ _).bind fun _ => (Ind.sizeOf _).bind fun _ => .pure _
    · refine .inr fun w y w' => ?_
      rcases hx with ⟨a, n, c, rfl⟩ | ⟨s, rfl⟩ <;> simp [Go.asAddr, Go.stuck, Sem.run, Result.andThen]
    · exact .stuck _
end

/-- An operation whose value hangs on its operands alone. -/
def indAt (C : Cx) (o : Oper) (st : St) : Prop :=
  match o.op with
  | .move _ | .assign _ | .pick _ _ _ | .field _ _ _ | .extract _ _ | .unOp _ _ _ | .makeFunc _ _ _ => True
  | .nilCheck x => match st.rd 0 x with
    | .ptr _ _ | .pt _ _ _ _ => True
    | _ => False
  | .binOp _ _ x y _ => match st.rd 0 x, st.rd 0 y with
    | .i _ _, .i _ _ => True
    | .s _, .s _ => True
    | _, _ => False
  | .slice _ x _ _ _ => match st.rd 0 x with
    | .sl _ _ _ | .bs _ _ _ _ | .s _ => True
    | _ => False
  | .fieldAddr s _ f => match fieldOf C.T s f with
    | some (_, n, _) => n ≠ 0
    | none => False
  | _ => False

theorem Ind.v {P : Program} {s : Sem Value} (h : Ind P s) : Ind P (do Pure.pure (Go.Next.value (← s)) : Sem Go.Next) ∧ ∀ w x w', (do Pure.pure (Go.Next.value (← s)) : Sem Go.Next).run P w = .ok x w' → ∃ v, x = .value v := by
  refine ⟨h.bind fun _ => .pure _, fun w x w' he => ?_⟩
  rw [Sem.run_bind] at he
  cases hr : s.run P w with
  | ok y w1 =>
    rw [hr] at he
    simp only [Result.andThen] at he
    cases he
    exact ⟨y, rfl⟩
  | halt _ _ => rw [hr] at he; simp [Result.andThen] at he

theorem indAt_spec {C : Cx} {S : Start} {E : Env} (I : Inv C.N S E) {a : Act} (ha : a.tmps = E.tm) {o : Oper} (h : indAt C o E.st) :
    Ind C.P (execOp a.eval o) ∧ ∀ w x w', (execOp a.eval o).run C.P w = .ok x w' → ∃ v, x = .value v := by
  have pu : ∀ v : Value, Ind C.P (Pure.pure (Go.Next.value v) : Sem Go.Next) ∧ ∀ w x w', (Pure.pure (Go.Next.value v) : Sem Go.Next).run C.P w = .ok x w' → ∃ v, x = .value v :=
    fun v => ⟨.pure _, fun w x w' he => by cases he; exact ⟨v, rfl⟩⟩
  have rd := fun x => I.rel.rd ha 0 x .no
  obtain ⟨dst, op, type, pos, after, guard⟩ := o
  unfold indAt at h
  cases op <;> simp only at h <;> try exact h.elim
  case move x => exact pu _
  case assign x => exact pu _
  case pick c x y =>
    refine ⟨(Ind.asBool _).bind fun _ => .pure _, fun w z w' he => ?_⟩
    simp only [execOp, Sem.run_bind] at he
    cases hr : (Go.asBool (a.eval c)).run C.P w with
    | ok y w1 =>
      rw [hr] at he
      simp only [Result.andThen] at he
      cases he
      exact ⟨_, rfl⟩
    | halt _ _ => rw [hr] at he; simp [Result.andThen] at he
  case unOp op t x => exact Ind.v (.unary _ _)
  case field t x f => exact Ind.v (.field _ _ _)
  case extract x k => exact Ind.v (.extract _ _)
  case makeFunc fn fi ca => exact Ind.v (.pure _)
  case nilCheck x =>
    have hx := rd x
    unfold execOp
    simp only
    generalize a.eval x = v at hx
    split at h
    · rename_i hx0; rw [hx0] at hx
      cases hx; exact pu _
    · rename_i hx0; rw [hx0] at hx
      cases hx; exact pu _
    · exact h.elim
  case binOp op t x y pos =>
    have hx := rd x
    have hy := rd y
    unfold execOp
    split at h
    · rename_i k n k' n' hx0 hy0
      rw [hx0] at hx; rw [hy0] at hy
      simp only
      rw [val_int rfl hx, val_int rfl hy]
      refine Ind.v (Ind.bind ?_ fun _ => .binInt _ _ _ _ _ _)
      unfold eqGuard
      dsimp only
      repeat (first | exact .pure _ | split)
    · rename_i b b' hx0 hy0
      rw [hx0] at hx; rw [hy0] at hy
      simp only
      rw [val_str rfl hx, val_str rfl hy]
      refine Ind.v (Ind.bind ?_ fun _ => .binStr _ _ _ _)
      unfold eqGuard
      dsimp only
      repeat (first | exact .pure _ | split)
    · exact h.elim
  case slice t x lo hi mx =>
    have hx := rd x
    unfold execOp
    simp only
    split at h
    · rename_i hx0; rw [hx0] at hx
      generalize a.eval x = v at hx
      refine Ind.v (.slice _ _ _ _ _ (.inl ?_))
      cases hx <;> exact ⟨_, _, _, rfl⟩
    · rename_i hx0; rw [hx0] at hx
      generalize a.eval x = v at hx
      refine Ind.v (.slice _ _ _ _ _ (.inl ?_))
      cases hx; exact ⟨_, _, _, rfl⟩
    · rename_i hx0; rw [hx0] at hx
      generalize a.eval x = v at hx
      refine Ind.v (.slice _ _ _ _ _ (.inr ?_))
      cases hx; exact ⟨_, rfl⟩
    · exact h.elim
  case fieldAddr s x f =>
    unfold execOp
    simp only
    split at h
    · rename_i o n g hf
      obtain ⟨z, oz, fl, fd, y, oy, h1, h2, rfl, rfl, rfl⟩ := fieldOf_ok hf
      refine Ind.v ?_
      by_cases hv : ∃ ad, a.eval x = .pointer (some ad)
      · obtain ⟨ad, hv⟩ := hv
        rw [hv]
        exact .inl ⟨.pointer (some (ad.add fd.offset)), fun w => by simp [Instr.fieldAt, oz.underlying, h1, h2, Instr.sureAddr, fieldPlace, oy.sizeOf, h]⟩
      · refine .inr fun w y w' => ?_
        simp only [Instr.fieldAt, Sem.run_bind, oz.underlying, h1, Result.andThen_ok, h2]
        have : Instr.sureAddr (a.eval x) = (Go.stuck "an address expected (no nilCheck in front?)" : Sem Addr) := by
          generalize a.eval x = v at hv
          cases v with
          | pointer p => cases p with
            | none => rfl
            | some ad => exact absurd ⟨ad, rfl⟩ hv
          | _ => rfl
        simp [this, Go.stuck, Result.andThen]
    · exact h.elim

/-- A tree of orders. -/
inductive Ot where
  | fin
  | stop
  | take (i : Nat) (sub : Ot)
  | alt (i : Nat) (sub rest : Ot)

def Ot.heads : Ot → List Nat
  | .alt i _ rest => i :: rest.heads
  | _ => []

def Ot.cover (ops : Array Oper) (listed : Array Bool) : Ot → Bool
  | .fin => (Region.ready .any ops listed).isEmpty
  | .stop => false
  | .take i _ => Region.free .any ops listed i && (Region.ready .any ops listed).contains i
  | .alt i s r => !(Region.ready .any ops listed).isEmpty && (Region.ready .any ops listed).all fun j => (Ot.alt i s r).heads.contains j

def Ot.ok (ops : Array Oper) : Ot → Nat → Array Bool → Bool
  | .fin, _, _ => true
  | .stop, _, _ => true
  | .take i sub, n, listed => match n with
    | 0 => false
    | n + 1 => sub.cover ops (listed.setIfInBounds i true) && sub.ok ops n (listed.setIfInBounds i true)
  | .alt i sub rest, n, listed => match n with
    | 0 => false
    | n + 1 => decide (i < ops.size) && sub.cover ops (listed.setIfInBounds i true) && sub.ok ops n (listed.setIfInBounds i true) && rest.ok ops (n + 1) listed

def Ot.okAll (ops : Array Oper) (tr : Ot) : Bool := Region.noSelect ops && tr.cover ops (Array.replicate ops.size false) && tr.ok ops ops.size (Array.replicate ops.size false)

/-- The same, where an operation may be guarded. -/
def indG (C : Cx) (ops : Array Oper) (o : Oper) (st : St) : Prop :=
  match o.guard with
  | none => indAt C o st
  | some (j, b) => match (ops[j]?).bind (·.dst) with
    | some t => match (st.slots t).gv with
      | some (some c) => c = b → indAt C o st
      | some none => True
      | none => False
    | none => False

def opAt (l : List Oper) (i : Nat) (f : Oper → Prop) : Prop := match l[i]? with
  | some o => f o
  | none => False

/-- A region, walked along a tree of its orders. -/
def atree (C : Cx) (ops : Array Oper) (l : List Oper) : Ot → St → (St → Prop) → Prop
  | .fin, st, K => K st
  | .stop, _, _ => True
  | .take i sub, st, K => opAt l i fun o => indG C ops o st ∧ aops C ops [o] st fun s => atree C ops l sub s K
  | .alt i sub rest, st, K => opAt l i fun o => (aops C ops [o] st fun s => atree C ops l sub s K) ∧ atree C ops l rest st K

theorem wpOp_yields {P : Program} {ops : Array Oper} {Q : Exit → Act → World → Prop} (hQ : ∀ e a w, Q e a w → e = .normal) {i : Nat} {o : Oper} (ho : ops[i]? = some o) {a : Act} {w : World} {K : Act → World → Prop}
    (hi : Region.wanted o (yielded ops a.tmps) = true → Ind P (execOp a.eval o) ∧ ∀ w x w', (execOp a.eval o).run P w = .ok x w' → ∃ v, x = .value v) (h : wpOp P ops Q i K a w) : ∃ v, Yields P ops o v a ∧ K (a.put o.dst v) w := by
  have hL : ¬ LetsOut Q := fun ⟨a, w, h⟩ => by have := hQ _ _ _ h; cases this
  unfold wpOp at h
  simp only [ho] at h
  split at h
  · rename_i hw
    replace hi := hi hw
    rcases h with h | ⟨_, h⟩
    · unfold Oper.wp at h
      rcases hi.1 with ⟨x, hx⟩ | hn
      · obtain ⟨v, rfl⟩ := hi.2 w x w (hx w)
        rw [hx w] at h
        exact ⟨v, .inl ⟨hw, hx⟩, h⟩
      · exfalso
        cases hr : (execOp a.eval o).run P w with
        | ok x w1 => exact hn _ _ _ hr
        | halt e w1 =>
          rw [hr] at h
          cases e <;> simp only [Oper.upon] at h
          have := hQ _ _ _ h; cases this
    · exact absurd h hL
  · rename_i hw
    exact ⟨undef, .inr ⟨by simpa using hw, rfl⟩, h⟩

theorem indG_spec {C : Cx} {S : Start} {ops : Array Oper} {E : Env} (I : Inv C.N S E) {a : Act} (ha : a.tmps = E.tm) {o : Oper} (h : indG C ops o E.st) (hw : Region.wanted o (yielded ops a.tmps) = true) : indAt C o E.st := by
  unfold indG at h
  split at h
  · exact h
  · rename_i j b hg
    split at h
    · rename_i t ht
      split at h
      · rename_i c hc
        replace hc := AV.gv_some hc
        have hy := yielded_of I ha ht hc
        simp only [Region.wanted, hg, hy] at hw
        refine h ?_
        cases c <;> cases b <;> first | rfl | (exact absurd hw (by decide))
      · rename_i hc
        replace hc := AV.gv_none hc
        have hy := yielded_off I ha ht hc
        simp only [Region.wanted, hg, hy] at hw
        exact absurd hw (by cases b <;> decide)
      · exact h.elim
    · exact h.elim

section
variable {C : Cx} {S : Start} {ops : Array Oper} {Q : Exit → Act → World → Prop}

theorem atree_sound (hs : Region.noSelect ops = true) (hbase : S.k ≤ C.base) (hQ : ∀ e a w, Q e a w → e = .normal) {K : St → Prop} (hR : ∀ E a, Inv C.N S E → a.tmps = E.tm → a.defers = [] → K E.st → Q .normal a E.w) : ∀ (tr : Ot),
    (∀ (n : Nat) (listed : Array Bool) (E : Env) (a : Act), tr.cover ops listed = true → tr.ok ops n listed = true → Inv C.N S E → a.tmps = E.tm → a.defers = [] → atree C ops ops.toList tr E.st K → wpAny C.P .any ops Q n listed a E.w) ∧
    (∀ (n : Nat) (listed : Array Bool) (E : Env) (a : Act) (i : Nat), i ∈ tr.heads → tr.ok ops (n + 1) listed = true → Inv C.N S E → a.tmps = E.tm → a.defers = [] → atree C ops ops.toList tr E.st K →
      wpOp C.P ops Q i (wpAny C.P .any ops Q n (listed.setIfInBounds i true)) a E.w)
  | .fin => ⟨fun n listed E a hc _ I ha hd h => wpAny_done (by simpa [Ot.cover] using hc) (hR E a I ha hd h) n, fun n listed E a i hi => by simp [Ot.heads] at hi⟩
  | .stop => ⟨fun n listed E a hc => by simp [Ot.cover] at hc, fun n listed E a i hi => by simp [Ot.heads] at hi⟩
  | .take i sub => by
    refine ⟨fun n listed E a hc hok I ha hd h => ?_, fun n listed E a i hi => by simp [Ot.heads] at hi⟩
    simp only [Ot.cover, Bool.and_eq_true] at hc
    cases n with
    | zero => simp [Ot.ok] at hok
    | succ n =>
    simp only [Ot.ok, Bool.and_eq_true] at hok
    simp only [atree, opAt] at h
    split at h
    · rename_i o ho
      rw [Array.getElem?_toList] at ho
      have h1 := aops_head (R := Q) (next := wpAny C.P .any ops Q n (listed.setIfInBounds i true)) I hbase ha hd ho h.2 fun E' a' I' ha' hd' h' => (atree_sound hs hbase hQ hR sub).1 n _ E' a' hok.1 hok.2 I' ha' hd' h'
      obtain ⟨v, hy, hk⟩ := wpOp_yields hQ ho (fun hw => indAt_spec I ha (indG_spec I ha h.1 hw)) h1
      exact wpAny_take ho hs hc.1 hc.2 (fun c a w hq => by have := hQ _ _ _ hq; cases this) hy hk
    · exact h.elim
  | .alt i sub rest => by
    have heads : ∀ (n : Nat) (listed : Array Bool) (E : Env) (a : Act) (j : Nat), j ∈ (Ot.alt i sub rest).heads → (Ot.alt i sub rest).ok ops (n + 1) listed = true → Inv C.N S E → a.tmps = E.tm → a.defers = [] → atree C ops ops.toList (.alt i sub rest) E.st K →
        wpOp C.P ops Q j (wpAny C.P .any ops Q n (listed.setIfInBounds j true)) a E.w := by
      intro n listed E a j hj hok I ha hd h
      simp only [Ot.ok, Bool.and_eq_true] at hok
      simp only [atree, opAt] at h
      split at h
      · rename_i o ho
        rw [Array.getElem?_toList] at ho
        rcases List.mem_cons.1 hj with rfl | hj
        · exact aops_head I hbase ha hd ho h.1 fun E' a' I' ha' hd' h' => (atree_sound hs hbase hQ hR sub).1 n _ E' a' hok.1.1.2 hok.1.2 I' ha' hd' h'
        · exact (atree_sound hs hbase hQ hR rest).2 n listed E a j hj hok.2 I ha hd h.2
      · exact h.elim
    refine ⟨fun n listed E a hc hok I ha hd h => ?_, heads⟩
    simp only [Ot.cover, Bool.and_eq_true, List.all_eq_true] at hc
    cases n with
    | zero => simp [Ot.ok] at hok
    | succ n =>
    refine ⟨fun h0 => by simp [h0] at hc, fun j hj => heads n listed E a j (by simpa using hc.2 j hj) hok I ha hd h⟩
end

theorem Oper.upon_monoQ {P : Program} {o : Oper} {a : Act} {K : Act → World → Prop} {Q Q' : Exit → Act → World → Prop} (h : ∀ e a w, Q e a w → Q' e a w) : ∀ r, o.upon P a K Q r → o.upon P a K Q' r := by
  intro r hr
  cases r with
  | ok n w =>
    cases n <;> simp only [Oper.upon] at hr ⊢ <;> try exact hr
    exact hr.mono fun e w he => by cases e <;> first | exact he | exact h _ _ _ he | exact (let ⟨a, w, h1⟩ := he; ⟨a, w, h _ _ _ h1⟩)
  | halt e w => cases e <;> simp only [Oper.upon] at hr ⊢; exact h _ _ _ hr

theorem wpOp_monoQ {P : Program} {ops : Array Oper} {i : Nat} {a : Act} {w : World} {K : Act → World → Prop} {Q Q' : Exit → Act → World → Prop} (h : ∀ e a w, Q e a w → Q' e a w) (hh : wpOp P ops Q i K a w) : wpOp P ops Q' i K a w := by
  unfold wpOp at hh ⊢
  split
  · rename_i ho; simpa only [ho] using hh
  · rename_i o ho
    simp only [ho] at hh
    split
    · rename_i hw
      rw [if_pos hw] at hh
      rcases hh with hh | ⟨h1, a, w, h2⟩
      · exact .inl (Oper.upon_monoQ h _ hh)
      · exact .inr ⟨h1, a, w, h _ _ _ h2⟩
    · rename_i hw
      rwa [if_neg hw] at hh

theorem wpAny_monoQ {P : Program} {ops : Array Oper} {md} {Q Q' : Exit → Act → World → Prop} (h : ∀ e a w, Q e a w → Q' e a w) : ∀ (n : Nat) (listed : Array Bool) (a : Act) (w : World), wpAny P md ops Q n listed a w → wpAny P md ops Q' n listed a w
  | 0, _, _, _, hh => ⟨hh.1, h _ _ _ hh.2⟩
  | n + 1, _, _, _, hh => ⟨fun h0 => h _ _ _ (hh.1 h0), fun i hi => wpOp_mono (fun a w => wpAny_monoQ h n _ a w) (wpOp_monoQ h (hh.2 i hi))⟩

section
variable {C : Cx} {Q : Exit → St → Prop} {st : St}

theorem AWp.tree (tr : Ot) {id : Nat} {ops : Array Oper} (hmix : C.P.follows .mixedOrders = true) (hok : tr.okAll ops = true) (h : atree C ops ops.toList tr st (Q .normal)) : AWp C (.region id ops true) st Q := by
  intro S E a hb I ha hd he
  simp only [Ot.okAll, Bool.and_eq_true] at hok
  refine wp_region_any hmix (wpAny_monoQ (Q := fun e a w => e = .normal ∧ APost C S Q e a w) (fun e a w h => h.2) _ _ _ _ ?_)
  refine (atree_sound (Q := fun e a w => e = .normal ∧ APost C S Q e a w) (K := Q .normal) hok.1.1 hb (fun e a w h => h.1) (fun E a I ha hd h => ⟨rfl, E, rfl, I, ha, hd, h⟩) tr).1 ops.size _ { E with w := { E.w with drawn := E.w.drawn + 1 } } a hok.1.2 hok.2 (I.drawn _ (Nat.le_succ _)) ha hd ?_
  show atree C ops ops.toList tr E.st (Q .normal)
  rw [he]; exact h

end

@[congr] theorem atree_congr {C : Cx} {ops : Array Oper} {l l' : List Oper} {tr : Ot} {st st' : St} {K : St → Prop} (h1 : l = l') (h2 : st = st') : atree C ops l tr st K = atree C ops l' tr st' K := by
  subst_vars; rfl
section
variable {C : Cx} {ops : Array Oper} {l : List Oper} {st : St} {K : St → Prop} {i : Nat} {sub rest : Ot}
@[simp] theorem atree_fin : atree C ops l .fin st K = K st := rfl
@[simp] theorem atree_stop : atree C ops l .stop st K = True := rfl
theorem atree.tk (h : ∀ K' : St → Prop, (∀ m bx, atree C ops l sub (St.of m bx) K → K' (St.of m bx)) → opAt l i fun o => indG C ops o st ∧ aops C ops [o] st K') : atree C ops l (.take i sub) st K := h (fun s => atree C ops l sub s K) fun _ _ h => h
theorem atree.al (h : ∀ K' : St → Prop, (∀ m bx, atree C ops l sub (St.of m bx) K → K' (St.of m bx)) → opAt l i fun o => aops C ops [o] st K') (h2 : atree C ops l rest st K) : atree C ops l (.alt i sub rest) st K := by
  have h1 := h (fun s => atree C ops l sub s K) fun _ _ h => h
  simp only [opAt] at h1
  simp only [atree, opAt]
  split
  · rename_i o ho; rw [ho] at h1; exact ⟨h1, h2⟩
  · rename_i ho; rw [ho] at h1; exact h1
theorem atree.a1 (h : ∀ K' : St → Prop, (∀ m bx, atree C ops l sub (St.of m bx) K → K' (St.of m bx)) → opAt l i fun o => aops C ops [o] st K') : atree C ops l (.alt i sub .stop) st K := atree.al h trivial
@[simp] theorem opAt_zero {o : Oper} {f : Oper → Prop} : opAt (o :: l) 0 f = f o := rfl
@[simp] theorem opAt_succ {o : Oper} {f : Oper → Prop} : opAt (o :: l) (i + 1) f = opAt l i f := by simp [opAt]
@[congr] theorem opAt_congr {l' : List Oper} {f : Oper → Prop} (h : l = l') : opAt l i f = opAt l' i f := by rw [h]
end
attribute [simp] indAt indG
end Go.AM
namespace Go.AM
section
variable {C : Cx} {Q : Exit → St → Prop} {st : St}

/-- Ways that join in one state. -/
theorem AWp.mid (ks kb : List Nat) (l : List (Nat × AV)) (bx : Boxes) {x y : Code} (h1 : AWp C x st (thenQ (fun s => s.sees ks kb l bx) Q)) (h2 : AWp C y (St.of l bx) Q) : AWp C (.seq x y) st Q := by
  intro S E a hb I ha hd he
  refine wp_seq (wp_mono (h1 S E a hb I ha hd he) ?_)
  rintro e a w ⟨E1, rfl, g1, g2, g3, g4⟩
  cases e with
  | normal =>
    obtain ⟨E2, k1, k2, k3, k4⟩ := g1.clean ks kb
    have := h2 S { E2 with st := St.of l bx } a hb (k3.fits (by rw [k4]; exact St.sees_fits g4)) (by rw [g2, k2]) g3 rfl
    rw [← k1]
    exact this
  | _ => exact ⟨E1, rfl, g1, g2, g3, g4⟩

def fzs (ts : List Nat) : Place → Bool
  | .slot t _ => ts.contains t
  | _ => false

end
attribute [simp] fzs

theorem aops_append {C : Cx} {ops : Array Oper} (l m : List Oper) (st : St) (K : St → Prop) : aops C ops (l ++ m) st K = aops C ops l st fun s => aops C ops m s K := by
  induction l generalizing st with
  | nil => rfl
  | cons o l ih =>
    have e : (fun s => aops C ops (l ++ m) s K) = fun s => aops C ops l s fun s => aops C ops m s K := funext ih
    simp only [List.cons_append, aops, e, ih]

/-- A region in parts. -/
theorem aops.part (n : Nat) {C : Cx} {ops : Array Oper} {l : List Oper} {st : St} {K : St → Prop} (h : ∀ K' : St → Prop, (∀ m bx, aops C ops (l.drop n) (St.of m bx) K → K' (St.of m bx)) → aops C ops (l.take n) st K') : aops C ops l st K := by
  have h1 := h (fun s => aops C ops (l.drop n) s K) fun _ _ h => h
  rw [← aops_append, List.take_append_drop] at h1
  exact h1
end Go.AM
namespace Go.AM
section
variable {C : Cx} {Q : Exit → St → Prop} {st : St}
theorem AWp.lastD (m : Nat) (rs : Nat → AV) (ks kb : List Nat) (l : List (Nat × AV)) (bx : Boxes) {id : Nat} {ops : Array Oper} (hmix : C.P.follows .mixedOrders = true) (hok : drawOk ops m = true)
    (h : aputs C ops rs 0 (ops.toList.take m) st fun s => aops C ops (ops.toList.drop m) s fun s => s.sees ks kb l bx) (h2 : Q .normal (St.of l bx)) : AWp C (.region id ops true) st Q := by
  refine AWp.postFit (AWp.post (fun _ => (ks, kb)) ((AWp.draw (Q := fun e s => thenQ (fun s => s.sees ks kb l bx) (fun _ _ => False) e s) m rs hmix hok h).mono ?_))
  intro e s hs
  cases e with
  | normal => exact ⟨_, St.sees_fits hs, h2⟩
  | _ => exact hs.elim

end
end Go.AM
namespace Go.AM
def fzc (ts : List (Nat × Nat)) : Place → Bool
  | .cell id j => ts.contains (id, j)
  | _ => false
attribute [simp] fzc
section
variable {C : Cx} {Q : Exit → St → Prop} {st : St}
end
end Go.AM
namespace Go.AM

end Go.AM
namespace Go.AM

/-- A cell that no mark touches. -/
def AV.calm : AV → Bool
  | .any | .b _ | .i _ _ | .s _ | .nil | .nofn | .ab _ _ _ _ | .mp _ | .it _ => true
  | .sl .fro _ _ => true
  | _ => false
def Calm (cs : List AV) : Prop := ∀ c ∈ cs, c.calm = true

theorem Calm.append {a b : List AV} (h1 : Calm a) (h2 : Calm b) : Calm (a ++ b) := fun c hc => by
  rcases List.mem_append.1 hc with h | h
  · exact h1 c h
  · exact h2 c h
theorem Calm.take {a : List AV} (h : Calm a) (n : Nat) : Calm (a.take n) := fun c hc => h c (List.mem_of_mem_take hc)
theorem Calm.drop {a : List AV} (h : Calm a) (n : Nat) : Calm (a.drop n) := fun c hc => h c (List.mem_of_mem_drop hc)
theorem Calm.replicate (n : Nat) {x : AV} (hx : x.calm = true) : Calm (List.replicate n x) := fun c hc => by rw [List.eq_of_mem_replicate hc]; exact hx

theorem tr_calm {h : Place → AV → AV} (hl : ∀ p x, x.calm = true → h p x = x) {x : AV} (hx : x.calm = true) (p : Place) : x.tr h p = x := by
  cases x <;> first | exact hl _ _ hx | (simp [AV.calm] at hx; done)
theorem trC_calm {h : Place → AV → AV} (hl : ∀ p x, x.calm = true → h p x = x) (id : Nat) : ∀ (k : Nat) (cs : List AV), Calm cs → AV.trC h id k cs = cs
  | _, [], _ => rfl
  | k, x :: xs, hc => by rw [AV.trC, tr_calm hl (hc x (by simp)), trC_calm hl id (k + 1) xs fun c h => hc c (by simp [h])]

theorem take_calm (Q) (p : Place) (x : AV) (hx : x.calm = true) : takeLeaf Q p x = x := by
  cases x <;> first | rfl | (simp [AV.calm] at hx; done) | skip
  rename_i g sz xs; cases g <;> first | rfl | (simp [AV.calm] at hx; done)
theorem fz_calm (F) (p : Place) (x : AV) (hx : x.calm = true) : fzLeaf F p x = x := by
  cases x <;> first | rfl | (simp [AV.calm] at hx; done) | skip
  rename_i g sz xs; cases g <;> first | rfl | (simp [AV.calm] at hx; done)
theorem view_calm (p : Place) (x : AV) (hx : x.calm = true) : viewLeaf p x = x := by
  cases x <;> first | rfl | (simp [AV.calm] at hx; done) | skip
  rename_i g sz xs; cases g <;> first | rfl | (simp [AV.calm] at hx; done)
theorem kill_calm (b) (p : Place) (x : AV) (hx : x.calm = true) : killBLeaf b p x = x := by
  cases x <;> first | rfl | (simp [AV.calm] at hx; done)

@[simp] theorem trC_take {Q id k cs} (h : Calm cs) : AV.trC (takeLeaf Q) id k cs = cs := trC_calm (take_calm Q) id k cs h
@[simp] theorem trC_fz {F id k cs} (h : Calm cs) : AV.trC (fzLeaf F) id k cs = cs := trC_calm (fz_calm F) id k cs h
@[simp] theorem trC_view {id k cs} (h : Calm cs) : AV.trC viewLeaf id k cs = cs := trC_calm view_calm id k cs h
@[simp] theorem trC_killB {b id k cs} (h : Calm cs) : AV.trC (killBLeaf b) id k cs = cs := trC_calm (kill_calm b) id k cs h
attribute [simp] AV.fitsL_refl

/-- Rows of elements, encoded alike, and what lies behind them. -/
def boxR {α : Type} (enc : α → List AV) (l : List α) (pad : List AV) : List AV := (l.map enc).flatten ++ pad

structure EncOk {α : Type} (enc : α → List AV) (k : Nat) : Prop where
  len : ∀ x, (enc x).length = k
  calm : ∀ x, Calm (enc x)

section
variable {α : Type} {enc : α → List AV} {k : Nat} (hk : EncOk enc k)
include hk
end
end Go.AM
namespace Go.AM
theorem Calm.zeros {zero : List AV} (h : Calm zero) : ∀ n, Calm (zerosL zero n)
  | 0 => fun c hc => by simp [zerosL] at hc
  | n + 1 => h.append (Calm.zeros h n)
end Go.AM
namespace Go.AM
theorem Calm.freeL {cs : List AV} (h : Calm cs) : AV.freeL cs = true := by
  rw [AV.freeL_iff]
  intro x hx
  have := h x hx
  cases x <;> first | rfl | (simp [AV.calm] at this; done) | skip
  rename_i g sz xs; cases g <;> first | rfl | (simp [AV.calm] at this; done)
end Go.AM
namespace Go.AM
@[simp] theorem wrap_i0 : IntKind.i64.wrap 0 = 0 := by decide
@[simp] theorem wrap_i1 : IntKind.i64.wrap 1 = 1 := by decide
@[simp] theorem wrap_u0 : IntKind.u64.wrap 0 = 0 := by decide
@[simp] theorem wrap_b0 : IntKind.u8.wrap 0 = 0 := by decide
end Go.AM
namespace Go.AM

end Go.AM
namespace Go.AM
open Go.Proofs Go.Shelf Go.RowKit Go.Lib
end Go.AM
namespace Go.AM
/-- Rows of rows. -/
def rowsL (sz : Nat) (ls : List (List (List AV))) : List (List AV) := ls.map fun l => [.sl .fro sz l]
@[simp] theorem rowsL_length (sz ls) : (rowsL sz ls).length = ls.length := by simp [rowsL]
@[simp] theorem rowsL_getElem (sz) (ls : List (List (List AV))) (i : Nat) (h : i < (rowsL sz ls).length) : (rowsL sz ls)[i] = [.sl .fro sz (ls[i]'(by simpa using h))] := by simp [rowsL]
def lenTo {α : Type} (ls : List (List α)) (i : Nat) : Nat := (ls.take i).flatten.length
end Go.AM
namespace Go.AM
section
variable {C : Cx} {Q : Exit → St → Prop} {st : St}
theorem AWp.lastT (tr : Ot) (ks kb : List Nat) (l : List (Nat × AV)) (bx : Boxes) {id : Nat} {ops : Array Oper} (hmix : C.P.follows .mixedOrders = true) (hok : tr.okAll ops = true)
    (h : atree C ops ops.toList tr st fun s => s.sees ks kb l bx) (h2 : Q .normal (St.of l bx)) : AWp C (.region id ops true) st Q := by
  refine AWp.postFit (AWp.post (fun _ => (ks, kb)) ((AWp.tree (Q := fun e s => thenQ (fun s => s.sees ks kb l bx) (fun _ _ => False) e s) tr hmix hok h).mono ?_))
  intro e s hs
  cases e with
  | normal => exact ⟨_, St.sees_fits hs, h2⟩
  | _ => exact hs.elim
end
end Go.AM
namespace Go.AM
theorem ren_calm (f : Nat → Option Nat) {x : AV} (hx : x.calm = true) : x.ren f = x := by
  cases x <;> first | rfl | (simp [AV.calm] at hx; done)
@[simp] theorem map_ren_calm {f : Nat → Option Nat} {cs : List AV} (h : Calm cs) : cs.map (AV.ren f) = cs := by
  have : cs.map (AV.ren f) = cs.map id := List.map_congr_left fun c hc => ren_calm f (h c hc)
  rw [this, List.map_id]
end Go.AM
namespace Go.AM
/-- A result whose new rows are given up. -/
theorem Pure.fro {P : Program} {f : Nat} {args : List AV} {r : AV} (h : Pure P f args r) : Pure P f args (r.tr (fzLeaf (isSlotOf 0)) (.slot 0 [])) := by
  refine ⟨h.1, fun w β ω Pub vs R hω hl hv => ?_⟩
  refine (h.2 w β ω Pub vs R hω hl hv).mono ?_
  rintro e w' ⟨v, E', rfl, rfl, I, hst, ho, hr⟩
  have I2 := I.fz (isSlotOf 0) fun _ => rfl
  refine ⟨v, E'.fz (isSlotOf 0), rfl, rfl, I2, ?_, fun bk q hq => ?_, ?_⟩
  · show E'.st.fz (isSlotOf 0) = _
    rw [hst]
    rfl
  · have h' : (E'.fz (isSlotOf 0)).ω bk = some q := hq
    simp only [Env.fz] at h'
    split at h'
    · rename_i q' hq'
      split at h'
      · cases h'
      · cases h'; exact ho bk q hq'
    · cases h'
  · exact hr.fz _
end Go.AM
namespace Go.AM

def rowQ (t id : Nat) (p : Place) : Option Place := if p = .slot t [] then some (.box id) else none

/-- A slot's own row becomes a box. -/
def St.unown (st : St) (t id sz : Nat) (xs : List (List AV)) (cap : Nat) : St :=
  (((st.take (rowQ t id)).killB id).put t (.bs id 0 xs.length cap)).setBox id (some (xs.flatten ++ List.replicate ((cap - xs.length) * sz) .any))

theorem abs_killB (st : St) (id : Nat) (q : Place) (sz : Nat) (xs : List (List AV)) : st.abs q = .sl .own sz xs ↔ (st.killB id).abs q = .sl .own sz xs := by
  have aux : ∀ (p : Place) (x : AV) sz xs, x = .sl .own sz xs ↔ x.tr (killBLeaf id) p = .sl .own sz xs := by
    intro p x sz xs
    cases x with
    | agg cs => simp [AV.tr]
    | tup cs => simp [AV.tr]
    | fn f fi ca => simp [AV.tr]
    | ptr i off => simp only [AV.tr, killBLeaf]; split <;> simp
    | bs i off n cap => simp only [AV.tr, killBLeaf]; split <;> simp
    | _ => simp [AV.tr, killBLeaf]
  unfold St.killB
  rw [St.abs_tr (fun _ => rfl) (killBLeaf_leaf id)]
  cases q with
  | slot t π => exact aux _ _ _ _
  | cell i off => exact aux _ _ _ _
  | _ => simp [St.abs]

theorem abs_take (st : St) (Q : Place → Option Place) (q : Place) (sz : Nat) (xs : List (List AV)) (h : (st.take Q).abs q = .sl .own sz xs) : st.abs q = .sl .own sz xs ∧ Q q = none := by
  have aux : ∀ (p : Place) (x : AV), x.tr (takeLeaf Q) p = .sl .own sz xs → x = .sl .own sz xs ∧ Q p = none := by
    intro p x h
    cases x with
    | agg cs => simp [AV.tr] at h
    | tup cs => simp [AV.tr] at h
    | fn f fi ca => simp [AV.tr] at h
    | sl g s ys =>
      rw [AV.tr_leaf rfl] at h
      cases g with
      | own =>
        simp only [takeLeaf] at h
        split at h
        · cases h
        · rename_i hq
          exact ⟨h, by simpa using hq⟩
      | vw q ex =>
        simp only [takeLeaf] at h
        split at h <;> cases h
      | _ => simp [takeLeaf] at h
    | pt g ix cells off =>
      rw [AV.tr_leaf rfl] at h
      cases g with
      | vw q ex =>
        simp only [takeLeaf] at h
        split at h <;> cases h
      | _ => simp [takeLeaf] at h
    | _ => simp [AV.tr, takeLeaf] at h
  unfold St.take at h
  rw [St.abs_tr (fun _ => rfl) (takeLeaf_leaf Q)] at h
  cases q with
  | slot t π => exact aux _ _ h
  | cell i off => exact aux _ _ h
  | _ => simp [St.abs] at h

theorem Rel.unown {N : Nat} {E : Env} (R : Rel N E) {t id bk sz cap : Nat} {xs : List (List AV)} {arr : Array Value} {T : TypeId} (htN : t < N) (ht : E.st.slots t = .sl .own sz xs) (hω : E.ω bk = some (.slot t [])) (hg : E.w.heap[bk]? = some (.cells arr T (0, 0)))
    (ha : arr.size = cap * sz) (hc : xs.length ≤ cap) (hrow : Row E.Pub E.w bk 0 sz xs) (hown0 : ∀ j sz xs, E.st.abs (.cell id j) ≠ .sl .own sz xs) (htm : E.tm.getD t undef = .slice (some ⟨bk, 0, none⟩) xs.length cap) (hid2 : parkM ≤ id → bk + parkM = id) :
    Rel N ⟨E.w, (fun i => if i = id then bk else E.β i), (E.take (rowQ t id)).ω, E.Pub, E.st.unown t id sz xs cap, E.tm⟩ := by
  let E1 := E.take (rowQ t id)
  let E' : Env := ⟨E.w, (fun i => if i = id then bk else E.β i), (E.take (rowQ t id)).ω, E.Pub, E.st.unown t id sz xs cap, E.tm⟩
  have R1 : Rel N E1 := R.take (rowQ t id) fun _ => by simp [rowQ]
  have R2 := R1.killB id
  have hown1 : ∀ j sz xs, E1.st.abs (.cell id j) ≠ .sl .own sz xs := fun j sz xs h => hown0 j sz xs (abs_take E.st _ _ _ _ h).1
  have hq : ∀ q sz xs, E1.st.abs q = .sl .own sz xs → rootNe t q ∧ (∀ j, q ≠ .cell id j) ∧ q ≠ .box id := by
    intro q sz' xs' h
    refine ⟨?_, fun j e => hown1 j sz' xs' (e ▸ h), fun e => by subst e; simp [St.abs] at h⟩
    obtain ⟨h1, h2⟩ := abs_take E.st _ _ _ _ h
    cases q with
    | slot t' π =>
      show t' ≠ t
      rintro rfl
      cases π with
      | nil => simp [rowQ] at h2
      | cons k π =>
        simp only [St.abs, ht, AV.at] at h1
        cases h1
    | _ => trivial
  have hno : rootNe t Place.no ∧ (∀ j, Place.no ≠ .cell id j) ∧ Place.no ≠ .box id := ⟨trivial, by simp, by simp⟩
  have hst : Stays (fun q => rootNe t q ∧ (∀ j, q ≠ .cell id j) ∧ q ≠ .box id) (fun i => i ≠ id) { E1 with st := E1.st.killB id } E' := by
    refine ⟨fun bk h => ⟨h, rfl⟩, fun bk q _ h => ⟨h, rfl⟩, fun i hi => by show (if i = id then bk else E.β i) = E.β i; rw [if_neg hi], ?_, ?_⟩
    · intro q u sz xs hr hab hc
      cases q with
      | slot t π => exact hc
      | cell i off =>
        have hi : i ≠ id := fun e => hr.2.1 off (by rw [e])
        show E.w.cell? ⟨if i = id then bk else E.β i, off, none⟩ = some u
        rw [if_neg hi]; exact hc
      | box _ => simp [Env.con] at hc
      | no => simp [Env.con] at hc
    · intro q sz xs hr hab
      cases q with
      | slot t' π =>
        have hne : t' ≠ t := hr.1
        show ((if t' = t then _ else ((E.st.take (rowQ t id)).killB id).slots t') : AV).at π = _
        rw [if_neg hne]; exact hab
      | cell i off =>
        have hi : i ≠ id := fun e => hr.2.1 off (by rw [e])
        show ((((E.st.unown t id _ _ cap).boxes i).getD []).getD off .any) = _
        simp only [St.unown, St.setBox, hi, if_false]; exact hab
      | box _ => simp [St.abs] at hab
      | no => simp [St.abs] at hab
  refine { size := R.size, slots := fun t' => ?_, boxes := fun i csi h => ?_, pub := R1.pub, own := R1.own, abs := fun i h hm => ?_, gl := R.gl }
  · show Val E' (.slot t' []) (if t' = t then _ else ((E.st.take (rowQ t id)).killB id).slots t') (E.tm.getD t' undef)
    by_cases he : t' = t
    · subst he
      rw [if_pos rfl, htm]
      have := Val.bs (E := E') (.slot t' []) id 0 xs.length cap
      have hb : E'.β id = bk := by show (if id = id then bk else _) = bk; rw [if_pos rfl]
      rw [hb] at this
      exact this
    · rw [if_neg he]
      exact (R2.slots t').mono hst (R1.leansSlot hq hno t').killB
  · by_cases hi : i = id
    · subst hi
      have hcs : csi = xs.flatten ++ List.replicate ((cap - xs.length) * sz) .any := by
        have h' : (E.st.unown t i sz xs cap).boxes i = some csi := h
        simp only [St.unown, St.setBox, if_true] at h'
        exact (Option.some.inj h').symm
      have hb : E'.β i = bk := by show (if i = i then bk else _) = bk; rw [if_pos rfl]
      subst hcs
      have hfl := flatten_length hrow.1
      refine ⟨?_, arr, T, by rw [hb]; exact hg, ?_, fun j c hj => ?_⟩
      · rw [hb]
        show (match E.ω bk with | some q => some ((rowQ t i q).getD q) | none => none) = _
        rw [hω]
        simp [rowQ]
      · rw [ha, List.length_append, hfl, List.length_replicate, ← Nat.add_mul]
        congr 1; omega
      · by_cases hlt : j < xs.flatten.length
        · rw [List.getElem?_append_left hlt] at hj
          obtain ⟨u, hu, hd⟩ := hrow.2 j c hj
          have hja : j < arr.size := by
            rw [ha]
            rw [hfl] at hlt
            exact Nat.lt_of_lt_of_le hlt (Nat.mul_le_mul_right _ hc)
          have hue : arr.getD j undef = u := by
            simp [World.cell?, hg] at hu
            rw [Array.getD_eq_getD_getElem?]
            rw [hu]; rfl
          rw [hue]
          exact Dat.val (E := E') hd.1 _
        · rw [List.getElem?_append_right (by omega), List.getElem?_replicate] at hj
          split at hj
          · cases hj; exact .any _ _
          · cases hj
    · have h' : ((E.st.take (rowQ t id)).killB id).boxes i = some csi := by
        have h'' : (E.st.unown t id sz xs cap).boxes i = some csi := h
        simp only [St.unown, St.setBox, hi, if_false] at h''
        exact h''
      obtain ⟨h1, arr0, T0, h2, h3, h4⟩ := R2.boxes i csi h'
      have hbi : E'.β i = E.β i := by show (if i = id then bk else E.β i) = E.β i; rw [if_neg hi]
      refine ⟨by rw [hbi]; exact h1, arr0, T0, by rw [hbi]; exact h2, h3, fun j c hj => ?_⟩
      have h5 := h4 j c hj
      simp only [St.killB, St.tr, Option.map_eq_some_iff] at h'
      obtain ⟨cs0, hb0, rfl⟩ := h'
      rw [AV.trC_get] at hj
      obtain ⟨c0, hc0, rfl⟩ := Option.map_eq_some_iff.1 hj
      have := (R1.leansCell hq hno (show E1.st.boxes i = some cs0 from hb0) hc0).killB (id := id)
      simp only [Nat.zero_add] at this h5 ⊢
      exact h5.mono hst this
  · by_cases hi : i = id
    · subst hi
      show (if i = i then bk else _) + parkM = i
      rw [if_pos rfl]; exact hid2 hm
    · show (if i = id then bk else E.β i) + parkM = i
      rw [if_neg hi]
      refine R2.abs i ?_ hm
      have h' : ((E.st.unown t id sz xs cap).boxes i).isSome = true := h
      simp only [St.unown, St.setBox, hi, if_false] at h'
      exact h'
end Go.AM
namespace Go.AM
/-- A box's row becomes a slot's own. -/
def St.reown (st : St) (d id sz : Nat) (ys : List (List AV)) : St := ((st.killB id).setBox id none).put d (.sl .own sz ys)

theorem Rel.reown {N : Nat} {E : Env} (R : Rel N E) {d id sz cap : Nat} {ys : List (List AV)} {pad : List AV} (hsz : 0 < sz) (hs : E.st.slots d = .bs id 0 ys.length cap) (hb : E.st.boxes id = some (ys.flatten ++ pad)) (hlen : (ys.flatten ++ pad).length = cap * sz)
    (hy : ∀ y ∈ ys, y.length = sz) (hdat : (ys.flatten.all fun c => c.data && c.cellOk) = true) (hfr : AV.freeL (ys.flatten ++ pad) = true) :
    Rel N ⟨E.w, E.β, (fun bk => if E.ω bk = some (.box id) then some (.slot d []) else E.ω bk), E.Pub, E.st.reown d id sz ys, E.tm⟩ := by
  let E' : Env := ⟨E.w, E.β, (fun bk => if E.ω bk = some (.box id) then some (.slot d []) else E.ω bk), E.Pub, E.st.reown d id sz ys, E.tm⟩
  have R2 := R.killB id
  have hq : ∀ q sz xs, E.st.abs q = .sl .own sz xs → rootNe d q ∧ (∀ j, q ≠ .cell id j) ∧ q ≠ .box id := by
    intro q sz' xs' h
    refine ⟨?_, fun j e => ?_, fun e => by subst e; simp [St.abs] at h⟩
    · cases q with
      | slot t' π =>
        show t' ≠ d
        rintro rfl
        cases π with
        | nil =>
          simp only [St.abs, hs] at h
          cases h
        | cons k π =>
          simp only [St.abs, hs, AV.at] at h
          cases h
      | _ => trivial
    · subst e
      simp only [St.abs, hb, Option.getD_some, List.getD_eq_getElem?_getD] at h
      cases hj : (ys.flatten ++ pad)[j]? with
      | none => rw [hj] at h; cases h
      | some c =>
        rw [hj] at h
        have := AV.freeL_get hfr hj
        simp only [Option.getD_some] at h
        rw [h] at this
        simp [AV.free] at this
  have hno : rootNe d Place.no ∧ (∀ j, Place.no ≠ .cell id j) ∧ Place.no ≠ .box id := ⟨trivial, by simp, by simp⟩
  have hst : Stays (fun q => rootNe d q ∧ (∀ j, q ≠ .cell id j) ∧ q ≠ .box id) (fun i => i ≠ id) { E with st := E.st.killB id } E' := by
    refine ⟨fun bk h => ⟨h, rfl⟩, fun bk q hq h => ⟨?_, rfl⟩, fun i hi => rfl, ?_, ?_⟩
    · show (if E.ω bk = some (.box id) then some (Place.slot d []) else E.ω bk) = some q
      have h' : E.ω bk = some q := h
      rw [h', if_neg (by simp [hq.2.2])]
    · intro q u sz xs hr hab hc
      cases q <;> exact hc
    · intro q sz xs hr hab
      cases q with
      | slot t' π =>
        have hne : t' ≠ d := hr.1
        show ((if t' = d then _ else (E.st.killB id).slots t') : AV).at π = _
        rw [if_neg hne]; exact hab
      | cell i off =>
        have hi : i ≠ id := fun e => hr.2.1 off (by rw [e])
        show ((((E.st.reown d id _ ys).boxes i).getD []).getD off .any) = _
        simp only [St.reown, St.put, St.setBox, hi, if_false]; exact hab
      | box _ => simp [St.abs] at hab
      | no => simp [St.abs] at hab
  obtain ⟨g1, arr, T, g2, g3, g4⟩ := R.boxes id _ hb
  refine { size := R.size, slots := fun t' => ?_, boxes := fun i csi h => ?_, pub := fun bk h => ⟨(R.pub bk h).1, ?_⟩, own := fun bk q h => ?_, abs := fun i h hm => ?_, gl := R.gl }
  · show Val E' (.slot t' []) (if t' = d then _ else (E.st.killB id).slots t') (E.tm.getD t' undef)
    by_cases he : t' = d
    · subst he
      rw [if_pos rfl]
      have hv := R.slots t'
      rw [hs] at hv
      generalize E.tm.getD t' undef = v at hv
      cases hv
      have hfl := flatten_length hy
      have hcap : ys.length ≤ cap := by
        rw [List.length_append, hfl] at hlen
        exact Nat.le_of_mul_le_mul_right (by omega : ys.length * sz ≤ cap * sz) hsz
      refine .sl _ .own sz ys (E.β id) 0 cap hcap ⟨hy, fun j c hj => ?_⟩ ⟨?_, arr, T, g2, rfl, by rw [g3]; exact hlen⟩ trivial
      · have hlt := (List.getElem?_eq_some_iff.1 hj).1
        have hvc := g4 j c (by rw [List.getElem?_append_left hlt]; exact hj)
        have hja : j < arr.size := by rw [g3, List.length_append]; omega
        rw [List.all_eq_true] at hdat
        have hcc := hdat c (List.mem_of_getElem? hj)
        simp only [Bool.and_eq_true] at hcc
        rw [Array.getD_eq_getD_getElem?, Array.getElem?_eq_getElem hja] at hvc
        refine ⟨arr[j], ?_, hvc.dat hcc.1, oneCell_dat (hvc.dat hcc.1) hcc.2⟩
        show E.w.cell? _ = _
        simp [World.cell?, g2, hja]
      · show (if E.ω (E.β id) = some (.box id) then some (Place.slot t' []) else E.ω (E.β id)) = _
        rw [if_pos g1]
    · rw [if_neg he]
      exact (R2.slots t').mono hst (R.leansSlot hq hno t').killB
  · by_cases hi : i = id
    · subst hi
      have h' : (E.st.reown d i sz ys).boxes i = some csi := h
      simp only [St.reown, St.put, St.setBox, if_true] at h'
      cases h'
    · have h' : (E.st.killB id).boxes i = some csi := by
        have h'' : (E.st.reown d id sz ys).boxes i = some csi := h
        simp only [St.reown, St.put, St.setBox, hi, if_false] at h''
        exact h''
      obtain ⟨h1, arr0, T0, h2, h3, h4⟩ := R2.boxes i csi h'
      refine ⟨?_, arr0, T0, h2, h3, fun j c hj => ?_⟩
      · show (if E.ω (E.β i) = some (.box id) then some (Place.slot d []) else E.ω (E.β i)) = _
        have h1' : E.ω (E.β i) = some (.box i) := h1
        rw [h1', if_neg (by simp [hi])]
      · have h5 := h4 j c hj
        simp only [St.killB, St.tr, Option.map_eq_some_iff] at h'
        obtain ⟨cs0, hb0, rfl⟩ := h'
        rw [AV.trC_get] at hj
        obtain ⟨c0, hc0, rfl⟩ := Option.map_eq_some_iff.1 hj
        have := (R.leansCell hq hno hb0 hc0).killB (id := id)
        simp only [Nat.zero_add] at this h5 ⊢
        exact h5.mono hst this
  · show (if E.ω bk = some (.box id) then some (Place.slot d []) else E.ω bk) = none
    rw [(R.pub bk h).2, if_neg (by simp)]
  · have h' : (if E.ω bk = some (.box id) then some (Place.slot d []) else E.ω bk) = some q := h
    split at h'
    · rename_i h2; exact R.own bk _ h2
    · exact R.own bk q h'
  · by_cases hi : i = id
    · subst hi
      have h' : ((E.st.reown d i sz ys).boxes i).isSome = true := h
      simp [St.reown, St.put, St.setBox] at h'
    · have h' : ((E.st.reown d id sz ys).boxes i).isSome = true := h
      simp only [St.reown, St.put, St.setBox, hi, if_false] at h'
      exact R2.abs i h' hm

theorem Inv.unown {N : Nat} {S : Start} {E : Env} (I : Inv N S E) {t id sz : Nat} {xs : List (List AV)} (htN : t < N) (ht : E.st.slots t = .sl .own sz xs) (hne : xs ≠ []) (hid : E.st.boxes id = none) (hk : S.k ≤ id) (hp : id < parkM) :
    ∃ cap E', xs.length ≤ cap ∧ E'.w = E.w ∧ E'.tm = E.tm ∧ Inv N S E' ∧ E'.st = E.st.unown t id sz xs cap := by
  have hv := I.rel.slots t
  rw [ht] at hv
  generalize hvv : E.tm.getD t undef = v at hv
  cases hv with
  | sl0 => exact absurd rfl hne
  | sl _ _ _ _ bk off cap hc hr hg ha =>
    obtain ⟨h1, arr, T, h2, h3, h4⟩ := hg
    subst h3
    have R' := I.rel.unown (id := id) htN ht h1 h2 h4 hc hr (fun j sz xs h => by simp [St.abs, hid] at h) hvv (fun h => by omega)
    refine ⟨cap, ⟨E.w, (fun i => if i = id then bk else E.β i), (E.take (rowQ t id)).ω, E.Pub, E.st.unown t id sz xs cap, E.tm⟩, hc, rfl, rfl, ⟨R', ⟨I.fr.os, I.fr.tape, I.fr.output, I.fr.size, I.fr.block, fun k q h => ?_, I.fr.pub0, I.fr.pub1, fun i hi => ?_⟩⟩, rfl⟩
    · have h' : (match E.ω k with | some q => some ((rowQ t id q).getD q) | none => none) = some q := h
      split at h'
      · rename_i q' hq'; exact I.fr.own k q' hq'
      · cases h'
    · show (if i = id then bk else E.β i) = _
      rw [if_neg (by omega)]
      exact I.fr.beta i hi

theorem Inv.reown {N : Nat} {S : Start} {E : Env} (I : Inv N S E) {d id sz cap : Nat} {ys : List (List AV)} {pad : List AV} (hsz : 0 < sz) (hs : E.st.slots d = .bs id 0 ys.length cap) (hb : E.st.boxes id = some (ys.flatten ++ pad)) (hlen : (ys.flatten ++ pad).length = cap * sz)
    (hy : ∀ y ∈ ys, y.length = sz) (hdat : (ys.flatten.all fun c => c.data && c.cellOk) = true) (hfr : AV.freeL (ys.flatten ++ pad) = true) :
    ∃ E', E'.w = E.w ∧ E'.tm = E.tm ∧ Inv N S E' ∧ E'.st = E.st.reown d id sz ys := by
  refine ⟨⟨E.w, E.β, (fun bk => if E.ω bk = some (.box id) then some (.slot d []) else E.ω bk), E.Pub, E.st.reown d id sz ys, E.tm⟩, rfl, rfl, ⟨I.rel.reown hsz hs hb hlen hy hdat hfr, ⟨I.fr.os, I.fr.tape, I.fr.output, I.fr.size, I.fr.block, fun k q h => ?_, I.fr.pub0, I.fr.pub1, I.fr.beta⟩⟩, rfl⟩
  have h' : (if E.ω k = some (.box id) then some (Place.slot d []) else E.ω k) = some q := h
  split at h'
  · rename_i h2; exact I.fr.own k _ h2
  · exact I.fr.own k q h'

/-- Operations of a region from one on, as they turn a state; ghost steps may stand between them. -/
def SOps (C : Cx) (ops : Array Oper) (k : Nat) (l : List Oper) (st : St) (K : St → Prop) : Prop :=
  ∀ (S : Start) (E : Env) (a : Act), S.k ≤ C.base → Inv C.N S E → a.tmps = E.tm → a.defers = [] → E.st = st → ∀ R : Exit → Act → World → Prop,
    (∀ E a, Inv C.N S E → a.tmps = E.tm → a.defers = [] → K E.st → R .normal a E.w) → wpOps C.P ops R (List.range' k l.length) a E.w

section
variable {C : Cx} {Q : Exit → St → Prop} {st : St}
theorem SOps.nil {ops : Array Oper} {k : Nat} {K : St → Prop} (h : K st) : SOps C ops k [] st K := by
  intro S E a hb I ha hd he R hR
  exact hR E a I ha hd (by rw [he]; exact h)

theorem aops_soundQ {S : Start} (hbase : S.k ≤ C.base) {ops : Array Oper} {K : St → Prop} {R : Exit → Act → World → Prop} : ∀ (l r : List Oper) (k : Nat), ops.toList.drop k = l ++ r →
    (∀ E a, Inv C.N S E → a.tmps = E.tm → a.defers = [] → K E.st → wpOps C.P ops R (List.range' (k + l.length) r.length) a E.w) →
    ∀ (E : Env) (a : Act), Inv C.N S E → a.tmps = E.tm → a.defers = [] → aops C ops l E.st K → wpOps C.P ops R (List.range' k (l ++ r).length) a E.w := by
  intro l
  induction l with
  | nil => intro r k _ hR E a I ha hd h; exact hR E a I ha hd h
  | cons o l ih =>
    intro r k hl hR E a I ha hd h
    have ho : ops[k]? = some o := by
      rw [← Array.getElem?_toList]
      have := congrArg (·[0]?) hl
      simpa [List.getElem?_drop] using this
    have hrest : ops.toList.drop (k + 1) = l ++ r := by
      have := congrArg List.tail hl
      simpa [List.tail_drop] using this
    rw [List.cons_append, List.length_cons, List.range'_succ]
    simp only [wpOps]
    have := aops_head (C := C) (ops := ops) (R := R) (next := wpOps C.P ops R (List.range' (k + 1) (l ++ r).length)) I hbase ha hd ho h fun E' a' I' ha' hd' h' =>
      ih r (k + 1) hrest (fun E a I ha hd hK => by rw [show k + 1 + l.length = k + (o :: l).length by simp; omega]; exact hR E a I ha hd hK) E' a' I' ha' hd' h'
    exact this

theorem SOps.cut (n : Nat) {ops : Array Oper} {k : Nat} {l : List Oper} {K : St → Prop} (hl : ops.toList.drop k = l) (h : ∀ K' : St → Prop, (∀ m bx, SOps C ops (k + (l.take n).length) (l.drop n) (St.of m bx) K → K' (St.of m bx)) → aops C ops (l.take n) st K') : SOps C ops k l st K := by
  intro S E a hb I ha hd he R hR
  have h1 := h (fun s => SOps C ops (k + (l.take n).length) (l.drop n) s K) fun _ _ h => h
  have := aops_soundQ (C := C) hb (ops := ops) (K := fun s => SOps C ops (k + (l.take n).length) (l.drop n) s K) (R := R) (l.take n) (l.drop n) k (by rw [List.take_append_drop]; exact hl)
    (fun E a I ha hd hK => hK S E a hb I ha hd rfl R hR) E a I ha hd (by rw [he]; exact h1)
  rwa [List.take_append_drop] at this

theorem SOps.unown (t id : Nat) {sz : Nat} {xs : List (List AV)} {ops : Array Oper} {k : Nat} {l : List Oper} {K : St → Prop} (ht : st.slots t = .sl .own sz xs) (hN : t < C.N) (hne : xs ≠ []) (hid : st.boxes id = none) (hb : C.base ≤ id ∧ id < 1000000)
    (h : ∀ cap, xs.length ≤ cap → SOps C ops k l (st.unown t id sz xs cap) K) : SOps C ops k l st K := by
  intro S E a hbs I ha hd he R hR
  subst he
  obtain ⟨cap, E', h1, h2, h3, h4, h5⟩ := I.unown hN ht hne hid (Nat.le_trans hbs hb.1) hb.2
  have := h cap h1 S E' a hbs h4 (by rw [ha, h3]) hd h5 R hR
  rwa [h2] at this

theorem SOps.reown (d id cap : Nat) {sz : Nat} (ys : List (List AV)) (pad : List AV) {ops : Array Oper} {k : Nat} {l : List Oper} {K : St → Prop} (hsz : 0 < sz) (hs : st.slots d = .bs id 0 ys.length cap) (hbx : st.boxes id = some (ys.flatten ++ pad)) (hlen : (ys.flatten ++ pad).length = cap * sz)
    (hy : ∀ y ∈ ys, y.length = sz) (hdat : (ys.flatten.all fun c => c.data && c.cellOk) = true) (hfr : AV.freeL (ys.flatten ++ pad) = true) (h : SOps C ops k l (st.reown d id sz ys) K) : SOps C ops k l st K := by
  intro S E a hbs I ha hd he R hR
  subst he
  obtain ⟨E', h2, h3, h4, h5⟩ := I.reown hsz hs hbx hlen hy hdat hfr
  have := h S E' a hbs h4 (by rw [ha, h3]) hd h5 R hR
  rwa [h2] at this

theorem AWp.sregion {id : Nat} {ops : Array Oper} (h : SOps C ops 0 ops.toList st (Q .normal)) : AWp C (.region id ops false) st Q := by
  intro S E a hb I ha hd he
  refine wp_region ?_
  have := h S E a hb I ha hd he (APost C S Q) (fun E a I ha hd h => ⟨E, rfl, I, ha, hd, h⟩)
  rw [List.range_eq_range']
  simpa using this

/-- A region with ghost steps between its operations. -/
theorem AWp.goS (ks kb : List Nat) {id : Nat} {ops : Array Oper} {y : Code} (h : ∀ K : St → Prop, (∀ l bx, AWp C y (St.of l bx) Q → K (St.of l bx)) → SOps C ops 0 ops.toList st fun s => K (St.of (seeS ks kb s ks) (seeB ks kb s kb))) : AWp C (.seq (.region id ops false) y) st Q := by
  refine AWp.seq (AWp.post (fun _ => (ks, kb)) ((AWp.sregion (Q := fun e s => thenQ (fun s => AWp C y (s.clean ks kb) Q) (fun _ _ => False) e s) ?_).mono ?_))
  · have := h (fun s => AWp C y s Q) fun _ _ h => h
    simp only [← St.clean_eq] at this
    exact this
  · intro e s hs
    cases e with
    | normal => exact hs
    | _ => exact hs.elim

theorem AWp.unown (t id : Nat) {sz : Nat} {xs : List (List AV)} {c : Code} (ht : st.slots t = .sl .own sz xs) (hN : t < C.N) (hne : xs ≠ []) (hid : st.boxes id = none) (hb : C.base ≤ id ∧ id < 1000000) (h : ∀ cap, xs.length ≤ cap → AWp C c (st.unown t id sz xs cap) Q) : AWp C c st Q := by
  intro S E a hbs I ha hd he
  subst he
  obtain ⟨cap, E', h1, h2, h3, h4, h5⟩ := I.unown hN ht hne hid (Nat.le_trans hbs hb.1) hb.2
  have := h cap h1 S E' a hbs h4 (by rw [ha, h3]) hd h5
  rwa [h2] at this

theorem AWp.reown (d id cap : Nat) {sz : Nat} (ys : List (List AV)) (pad : List AV) {c : Code} (hsz : 0 < sz) (hs : st.slots d = .bs id 0 ys.length cap) (hbx : st.boxes id = some (ys.flatten ++ pad)) (hlen : (ys.flatten ++ pad).length = cap * sz)
    (hy : ∀ y ∈ ys, y.length = sz) (hdat : (ys.flatten.all fun c => c.data && c.cellOk) = true) (hfr : AV.freeL (ys.flatten ++ pad) = true) (h : AWp C c (st.reown d id sz ys) Q) : AWp C c st Q := by
  intro S E a hbs I ha hd he
  subst he
  obtain ⟨E', h2, h3, h4, h5⟩ := I.reown hsz hs hbx hlen hy hdat hfr
  have := h S E' a hbs h4 (by rw [ha, h3]) hd h5
  rwa [h2] at this
end
attribute [simp] St.unown St.reown rowQ
end Go.AM
namespace Go.AM
@[simp] theorem St.of_setNone {m : List (Nat × AV)} {bx : Boxes} {id : Nat} : (St.of m bx).setBox id none = (St.of m bx).dropB [id] := by
  refine St.ext' (fun t => rfl) (fun i => ?_)
  show (if i = id then none else (St.of m bx).boxes i) = if [id].contains i then none else (St.of m bx).boxes i
  by_cases h : i = id
  · subst h; simp
  · simp [h]
end Go.AM
namespace Go.AM

/-- Rows of data, all of one length. -/
def Rows (k : Nat) (R : List (List AV)) : Prop := ∀ r ∈ R, r.length = k ∧ Calm r ∧ allDat r = true

def boxF (R : List (List AV)) (pad : List AV) : List AV := R.flatten ++ pad
theorem Rows.nil {k} : Rows k [] := fun _ h => by simp at h
theorem Rows.append {k R1 R2} (h1 : Rows k R1) (h2 : Rows k R2) : Rows k (R1 ++ R2) := fun r h => by
  rcases List.mem_append.1 h with h | h
  · exact h1 r h
  · exact h2 r h
theorem Rows.cons {k r R} (h1 : Rows k [r]) (h2 : Rows k R) : Rows k (r :: R) := Rows.append (R1 := [r]) h1 h2
theorem Rows.take {k R} (h : Rows k R) (n : Nat) : Rows k (R.take n) := fun r hr => h r (List.mem_of_mem_take hr)
theorem Rows.drop {k R} (h : Rows k R) (n : Nat) : Rows k (R.drop n) := fun r hr => h r (List.mem_of_mem_drop hr)
theorem Rows.rep {k r} (h : Rows k [r]) (n : Nat) : Rows k (List.replicate n r) := fun x hx => by rw [List.eq_of_mem_replicate hx]; exact h r (by simp)

section
variable {k : Nat} {R Y : List (List AV)} {pad : List AV}
end
end Go.AM
namespace Go.AM

/-- A slot's own row is parked: the slot keeps its header alone. -/
def St.park (st : St) (t b sz : Nat) (xs : List (List AV)) (cap : Nat) : St :=
  (((st.take (rowQ t (1000000 + b))).killB (1000000 + b)).put t (.ab b 0 xs.length cap)).setBox (1000000 + b) (some (xs.flatten ++ List.replicate ((cap - xs.length) * sz) .any))

theorem Rel.park {N : Nat} {E : Env} (R : Rel N E) {t bk sz cap : Nat} {xs : List (List AV)} {arr : Array Value} {T : TypeId} (htN : t < N) (ht : E.st.slots t = .sl .own sz xs) (hω : E.ω bk = some (.slot t [])) (hg : E.w.heap[bk]? = some (.cells arr T (0, 0)))
    (ha : arr.size = cap * sz) (hc : xs.length ≤ cap) (hrow : Row E.Pub E.w bk 0 sz xs) (hown0 : ∀ j sz xs, E.st.abs (.cell (1000000 + bk) j) ≠ .sl .own sz xs) (htm : E.tm.getD t undef = .slice (some ⟨bk, 0, none⟩) xs.length cap) :
    Rel N ⟨E.w, (fun i => if i = 1000000 + bk then bk else E.β i), (E.take (rowQ t (1000000 + bk))).ω, E.Pub, E.st.park t bk sz xs cap, E.tm⟩ := by
  have R1 := R.unown (id := 1000000 + bk) htN ht hω hg ha hc hrow hown0 htm (fun _ => by unfold parkM; omega)
  have hno : NoOwn ((E.st.unown t (1000000 + bk) sz xs cap).slots t) := by
    intro π sz' xs' h
    have h2 : (E.st.unown t (1000000 + bk) sz xs cap).slots t = .bs (1000000 + bk) 0 xs.length cap := by simp [St.unown, St.put, St.setBox]
    rw [h2] at h
    cases π <;> simp [AV.at] at h
  have R2 := R1.putq t (.ab bk 0 xs.length cap) (.slice (some ⟨bk, 0, none⟩) xs.length cap) htN hno rfl (.ab _ _ _ _ _)
  have e1 : E.tm.setIfInBounds t (.slice (some ⟨bk, 0, none⟩) xs.length cap) = E.tm := tm_set_same _ _ _ htm
  have e2 : (E.st.unown t (1000000 + bk) sz xs cap).put t (.ab bk 0 xs.length cap) = E.st.park t bk sz xs cap := by
    refine St.ext' (fun t' => ?_) (fun i => rfl)
    show (if t' = t then _ else if t' = t then _ else _) = if t' = t then _ else _
    split <;> rfl
  rw [← e2]
  have R3 : Rel N ⟨E.w, (fun i => if i = 1000000 + bk then bk else E.β i), (E.take (rowQ t (1000000 + bk))).ω, E.Pub, (E.st.unown t (1000000 + bk) sz xs cap).put t (.ab bk 0 xs.length cap), E.tm.setIfInBounds t (.slice (some ⟨bk, 0, none⟩) xs.length cap)⟩ := R2
  rw [e1] at R3
  exact R3

theorem Inv.park {N : Nat} {S : Start} {E : Env} (I : Inv N S E) {t sz : Nat} {xs : List (List AV)} (htN : t < N) (ht : E.st.slots t = .sl .own sz xs) (hne : xs ≠ []) (hid : ∀ A, 1000000 ≤ A → E.st.boxes A = none) (hk : S.k ≤ 1000000) :
    ∃ b cap E', xs.length ≤ cap ∧ E'.w = E.w ∧ E'.tm = E.tm ∧ Inv N S E' ∧ E'.st = E.st.park t b sz xs cap := by
  have hv := I.rel.slots t
  rw [ht] at hv
  generalize hvv : E.tm.getD t undef = v at hv
  cases hv with
  | sl0 => exact absurd rfl hne
  | sl _ _ _ _ bk off cap hc hr hg ha =>
    obtain ⟨h1, arr, T, h2, h3, h4⟩ := hg
    subst h3
    have R' := I.rel.park htN ht h1 h2 h4 hc hr (fun j sz xs h => by simp [St.abs, hid (1000000 + bk) (by omega)] at h) hvv
    refine ⟨bk, cap, ⟨E.w, (fun i => if i = 1000000 + bk then bk else E.β i), (E.take (rowQ t (1000000 + bk))).ω, E.Pub, E.st.park t bk sz xs cap, E.tm⟩, hc, rfl, rfl, ⟨R', ⟨I.fr.os, I.fr.tape, I.fr.output, I.fr.size, I.fr.block, fun k q h => ?_, I.fr.pub0, I.fr.pub1, fun i hi => ?_⟩⟩, rfl⟩
    · have h' : (match E.ω k with | some q => some ((rowQ t (1000000 + bk) q).getD q) | none => none) = some q := h
      split at h'
      · rename_i q' hq'; exact I.fr.own k q' hq'
      · cases h'
    · show (if i = 1000000 + bk then bk else E.β i) = _
      rw [if_neg (by omega)]
      exact I.fr.beta i hi

/-- A parked row is claimed: it gets a box's name, and the slot that bears its header reads the box. -/
def St.claim (st : St) (t b id n cap : Nat) (cs : List AV) : St := ((((st.killB (1000000 + b)).setBox (1000000 + b) none).killB id).put t (.bs id 0 n cap)).setBox id (some cs)

theorem Val.calm {E E' : Env} (hw : E'.w = E.w) (hP : E'.Pub = E.Pub) {p p' : Place} {x : AV} {v : Value} (h : Val E p x v) (hx : x.calm = true) : Val E' p' x v := by
  cases h with
  | any => exact .any _ _
  | b => exact .b _ _
  | i => exact .i _ _ _
  | s => exact .s _ _
  | nil => exact .nil _
  | nofn => exact .nofn _
  | ab => exact .ab _ _ _ _ _
  | mp => exact .mp _ _
  | it => exact .it _ _
  | ptr => simp [AV.calm] at hx
  | bs => simp [AV.calm] at hx
  | pt => simp [AV.calm] at hx
  | fn => simp [AV.calm] at hx
  | agg => simp [AV.calm] at hx
  | tup => simp [AV.calm] at hx
  | sl1 => exact .sl1 _ _ _ _
  | sl2 => simp [AV.calm] at hx
  | sl0 _ g => cases g <;> first | (simp [AV.calm] at hx; done) | exact .sl0 _ _ _ (by simp) trivial
  | sl _ g sz xs bk off cap hc hr hg hat =>
    cases g <;> first | (simp [AV.calm] at hx; done) | skip
    refine .sl _ .fro sz xs bk off cap hc ?_ ?_ trivial
    · rw [hw, hP]; exact hr
    · show E'.Pub bk
      rw [hP]; exact hg

theorem Rel.claim {N : Nat} {E : Env} (R : Rel N E) {t b id n cap : Nat} {cs : List AV} (htN : t < N) (ht : E.st.slots t = .ab b 0 n cap) (hb : E.st.boxes (1000000 + b) = some cs) (hcc : Calm cs) (hid : E.st.boxes id = none) (hidM : id < 1000000) :
    Rel N ⟨E.w, (fun i => if i = id then b else E.β i), (fun bk => if E.ω bk = some (.box (1000000 + b)) then some (.box id) else E.ω bk), E.Pub, E.st.claim t b id n cap cs, E.tm⟩ := by
  have hf := hcc.freeL
  let A := 1000000 + b
  let E' : Env := ⟨E.w, (fun i => if i = id then b else E.β i), (fun bk => if E.ω bk = some (.box (1000000 + b)) then some (.box id) else E.ω bk), E.Pub, E.st.claim t b id n cap cs, E.tm⟩
  have hne : id ≠ A := by show id ≠ 1000000 + b; omega
  have hβ : E.β A = b := by have := R.abs A (by rw [show E.st.boxes A = some cs from hb]; rfl) (by show 1000000 ≤ 1000000 + b; omega); unfold parkM at this; have h2 : A = 1000000 + b := rfl; omega
  have htv : E.tm.getD t undef = .slice (some ⟨b, 0, none⟩) n cap := by
    have := R.slots t
    rw [ht] at this
    generalize E.tm.getD t undef = v at this
    cases this; rfl
  have R2 : Rel N { E with st := (E.st.killB A).killB id } := (R.killB A).killB id
  have hq : ∀ q sz xs, E.st.abs q = .sl .own sz xs → rootNe t q ∧ (∀ j, q ≠ .cell A j) ∧ (∀ j, q ≠ .cell id j) ∧ q ≠ .box A ∧ q ≠ .box id := by
    intro q sz xs h
    refine ⟨?_, fun j e => ?_, fun j e => ?_, fun e => by subst e; simp [St.abs] at h, fun e => by subst e; simp [St.abs] at h⟩
    · cases q with
      | slot t' π =>
        show t' ≠ t
        rintro rfl
        simp only [St.abs, ht] at h
        cases π <;> simp [AV.at] at h
      | _ => trivial
    · subst e
      simp only [St.abs, show E.st.boxes A = some cs from hb, Option.getD_some, List.getD_eq_getElem?_getD] at h
      cases hj : cs[j]? with
      | none => rw [hj] at h; cases h
      | some c =>
        rw [hj] at h
        have := AV.freeL_get hf hj
        simp only [Option.getD_some] at h
        rw [h] at this
        simp [AV.free] at this
    · subst e
      simp [St.abs, hid] at h
  have hno : rootNe t Place.no ∧ (∀ j, Place.no ≠ .cell A j) ∧ (∀ j, Place.no ≠ .cell id j) ∧ Place.no ≠ .box A ∧ Place.no ≠ .box id := ⟨trivial, by simp, by simp, by simp, by simp⟩
  have habs2 : ∀ q sz xs, E.st.abs q = .sl .own sz xs ↔ ((E.st.killB A).killB id).abs q = .sl .own sz xs := fun q sz xs => (abs_killB E.st A q sz xs).trans (abs_killB _ id q sz xs)
  have hst : Stays (fun q => rootNe t q ∧ (∀ j, q ≠ .cell A j) ∧ (∀ j, q ≠ .cell id j) ∧ q ≠ .box A ∧ q ≠ .box id) (fun i => i ≠ id) { E with st := (E.st.killB A).killB id } E' := by
    refine ⟨fun bk h => ⟨h, rfl⟩, fun bk q hq h => ⟨?_, rfl⟩, fun i hi => by show (if i = id then b else E.β i) = E.β i; rw [if_neg hi], ?_, ?_⟩
    · show (if E.ω bk = some (.box (1000000 + b)) then some (Place.box id) else E.ω bk) = some q
      have h' : E.ω bk = some q := h
      rw [h', if_neg (by intro e; exact hq.2.2.2.1 (Option.some.inj e))]
    · intro q u sz xs hr hab hc
      cases q with
      | slot t π => exact hc
      | cell i off =>
        have hi : i ≠ id := fun e => hr.2.2.1 off (by rw [e])
        show E.w.cell? ⟨if i = id then b else E.β i, off, none⟩ = some u
        rw [if_neg hi]; exact hc
      | box _ => simp [Env.con] at hc
      | no => simp [Env.con] at hc
    · intro q sz xs hr hab
      cases q with
      | slot t' π =>
        have hne' : t' ≠ t := hr.1
        show ((if t' = t then _ else ((E.st.killB A).killB id).slots t') : AV).at π = _
        rw [if_neg hne']; exact hab
      | cell i off =>
        have hi : i ≠ id := fun e => hr.2.2.1 off (by rw [e])
        have hiA : i ≠ A := fun e => hr.2.1 off (by rw [e])
        have hiA' : i ≠ 1000000 + b := hiA
        show ((((E.st.claim t b id n cap cs).boxes i).getD []).getD off .any) = _
        have : (E.st.claim t b id n cap cs).boxes i = ((E.st.killB A).killB id).boxes i := by
          simp only [St.claim, St.setBox, St.put, St.killB, St.tr, hi, hiA', if_false]
          rfl
        rw [this]; exact hab
      | box _ => simp [St.abs] at hab
      | no => simp [St.abs] at hab
  have hleanS : ∀ t', Leans (fun q => rootNe t q ∧ (∀ j, q ≠ .cell A j) ∧ (∀ j, q ≠ .cell id j) ∧ q ≠ .box A ∧ q ≠ .box id) (fun i => i ≠ id) (.slot t' []) (((E.st.killB A).killB id).slots t') := fun t' =>
    ((R.killB A).leansSlot (fun q sz xs h => hq q sz xs ((abs_killB E.st A q sz xs).2 h)) hno t').killB
  refine { size := R.size, slots := fun t' => ?_, boxes := fun i csi h => ?_, pub := fun bk h => ⟨(R.pub bk h).1, ?_⟩, own := fun bk q h => ?_, abs := fun i h hm => ?_, gl := R.gl }
  · show Val E' (.slot t' []) (if t' = t then _ else ((E.st.killB A).killB id).slots t') (E.tm.getD t' undef)
    by_cases he : t' = t
    · subst he
      rw [if_pos rfl, htv]
      have := Val.bs (E := E') (.slot t' []) id 0 n cap
      have hb : E'.β id = b := by show (if id = id then b else _) = b; rw [if_pos rfl]
      rw [hb] at this
      exact this
    · rw [if_neg he]
      exact (R2.slots t').mono hst (hleanS t')
  · by_cases hi : i = id
    · subst hi
      have h' : (E.st.claim t b i n cap cs).boxes i = some csi := h
      simp only [St.claim, St.setBox, if_true] at h'
      obtain rfl := Option.some.inj h'
      obtain ⟨g1, arr, T, g2, g3, g4⟩ := R.boxes A cs hb
      rw [hβ] at g1 g2
      have hbi : E'.β i = b := by show (if i = i then b else _) = b; rw [if_pos rfl]
      refine ⟨?_, arr, T, by rw [hbi]; exact g2, g3, fun j c hj => ?_⟩
      · rw [hbi]
        show (if E.ω b = some (.box (1000000 + b)) then some (Place.box i) else E.ω b) = _
        rw [if_pos g1]
      · exact Val.calm (E := E) (E' := E') rfl rfl (g4 j c hj) (hcc c (List.mem_of_getElem? hj))
    · by_cases hiA : i = 1000000 + b
      · subst hiA
        have h' : (E.st.claim t b id n cap cs).boxes (1000000 + b) = some csi := h
        simp [St.claim, St.setBox, St.put, St.killB, St.tr, hi] at h'
      · have h' : ((E.st.killB A).killB id).boxes i = some csi := by
          have h'' : (E.st.claim t b id n cap cs).boxes i = some csi := h
          simp only [St.claim, St.setBox, St.put, St.killB, St.tr, hi, hiA, if_false] at h''
          exact h''
        obtain ⟨h1, arr0, T0, h2, h3, h4⟩ := R2.boxes i csi h'
        have hbi : E'.β i = E.β i := by show (if i = id then b else E.β i) = E.β i; rw [if_neg hi]
        refine ⟨?_, arr0, T0, by rw [hbi]; exact h2, h3, fun j c hj => ?_⟩
        · rw [hbi]
          show (if E.ω (E.β i) = some (.box (1000000 + b)) then some (Place.box id) else E.ω (E.β i)) = _
          have h1' : E.ω (E.β i) = some (.box i) := h1
          rw [h1', if_neg (by simp [hiA])]
        · have h5 := h4 j c hj
          simp only [St.killB, St.tr, Option.map_eq_some_iff] at h'
          obtain ⟨cs1, ⟨cs0, hb0, rfl⟩, rfl⟩ := h'
          rw [AV.trC_get, Option.map_eq_some_iff] at hj
          obtain ⟨c1, hc1, rfl⟩ := hj
          have hb1 : (E.st.killB A).boxes i = some (AV.trC (killBLeaf A) i 0 cs0) := by simp [St.killB, St.tr, hb0]
          have := ((R.killB A).leansCell (fun q sz xs h => hq q sz xs ((abs_killB E.st A q sz xs).2 h)) hno hb1 hc1).killB (id := id)
          simp only [Nat.zero_add] at this h5 ⊢
          exact h5.mono hst this
  · show (if E.ω bk = some (.box (1000000 + b)) then some (Place.box id) else E.ω bk) = none
    rw [(R.pub bk h).2, if_neg (by simp)]
  · have h' : (if E.ω bk = some (.box (1000000 + b)) then some (Place.box id) else E.ω bk) = some q := h
    split at h'
    · rename_i h2; exact R.own bk _ h2
    · exact R.own bk q h'
  · have hi : i ≠ id := by unfold parkM at hm; omega
    have hiA : i ≠ 1000000 + b := by
      rintro rfl
      have h' : ((E.st.claim t b id n cap cs).boxes (1000000 + b)).isSome = true := h
      simp [St.claim, St.setBox, St.put, St.killB, St.tr, hi] at h'
    show (if i = id then b else E.β i) + parkM = i
    rw [if_neg hi]
    refine R2.abs i ?_ hm
    have h' : ((E.st.claim t b id n cap cs).boxes i).isSome = true := h
    simp only [St.claim, St.setBox, St.put, St.killB, St.tr, hi, hiA, if_false] at h'
    exact h'

theorem Inv.claim {N : Nat} {S : Start} {E : Env} (I : Inv N S E) {t b id n cap : Nat} {cs : List AV} (htN : t < N) (ht : E.st.slots t = .ab b 0 n cap) (hb : E.st.boxes (1000000 + b) = some cs) (hcc : Calm cs) (hid : E.st.boxes id = none) (hk : S.k ≤ id) (hidM : id < 1000000) :
    ∃ E', E'.w = E.w ∧ E'.tm = E.tm ∧ Inv N S E' ∧ E'.st = E.st.claim t b id n cap cs := by
  refine ⟨⟨E.w, (fun i => if i = id then b else E.β i), (fun bk => if E.ω bk = some (.box (1000000 + b)) then some (.box id) else E.ω bk), E.Pub, E.st.claim t b id n cap cs, E.tm⟩, rfl, rfl, ⟨I.rel.claim htN ht hb hcc hid hidM, ⟨I.fr.os, I.fr.tape, I.fr.output, I.fr.size, I.fr.block, fun k q h => ?_, I.fr.pub0, I.fr.pub1, fun i hi => ?_⟩⟩, rfl⟩
  · have h' : (if E.ω k = some (.box (1000000 + b)) then some (Place.box id) else E.ω k) = some q := h
    split at h'
    · rename_i h2; exact I.fr.own k _ h2
    · exact I.fr.own k q h'
  · show (if i = id then b else E.β i) = _
    rw [if_neg (by omega)]
    exact I.fr.beta i hi

section
variable {C : Cx} {Q : Exit → St → Prop} {st : St}
theorem AWp.park (t : Nat) {sz : Nat} {xs : List (List AV)} {c : Code} (ht : st.slots t = .sl .own sz xs) (hN : t < C.N) (hne : xs ≠ []) (hid : ∀ A, 1000000 ≤ A → st.boxes A = none) (hb : C.base ≤ 1000000) (h : ∀ b cap, xs.length ≤ cap → AWp C c (st.park t b sz xs cap) Q) : AWp C c st Q := by
  intro S E a hbs I ha hd he
  subst he
  obtain ⟨b, cap, E', h1, h2, h3, h4, h5⟩ := I.park hN ht hne hid (Nat.le_trans hbs hb)
  have := h b cap h1 S E' a hbs h4 (by rw [ha, h3]) hd h5
  rwa [h2] at this
theorem SOps.park (t : Nat) {sz : Nat} {xs : List (List AV)} {ops : Array Oper} {k : Nat} {l : List Oper} {K : St → Prop} (ht : st.slots t = .sl .own sz xs) (hN : t < C.N) (hne : xs ≠ []) (hid : ∀ A, 1000000 ≤ A → st.boxes A = none) (hb : C.base ≤ 1000000)
    (h : ∀ b cap, xs.length ≤ cap → SOps C ops k l (st.park t b sz xs cap) K) : SOps C ops k l st K := by
  intro S E a hbs I ha hd he R hR
  subst he
  obtain ⟨b, cap, E', h1, h2, h3, h4, h5⟩ := I.park hN ht hne hid (Nat.le_trans hbs hb)
  have := h b cap h1 S E' a hbs h4 (by rw [ha, h3]) hd h5 R hR
  rwa [h2] at this
theorem SOps.claim (t b id : Nat) {n cap : Nat} {cs : List AV} {ops : Array Oper} {k : Nat} {l : List Oper} {K : St → Prop} (ht : st.slots t = .ab b 0 n cap) (hbx : st.boxes (1000000 + b) = some cs) (hcc : Calm cs) (hN : t < C.N) (hid : st.boxes id = none) (hb : C.base ≤ id ∧ id < 1000000)
    (h : SOps C ops k l (st.claim t b id n cap cs) K) : SOps C ops k l st K := by
  intro S E a hbs I ha hd he R hR
  subst he
  obtain ⟨E', h2, h3, h4, h5⟩ := I.claim hN ht hbx hcc hid (Nat.le_trans hbs hb.1) hb.2
  have := h S E' a hbs h4 (by rw [ha, h3]) hd h5 R hR
  rwa [h2] at this
theorem AWp.claim (t b id : Nat) {n cap : Nat} {cs : List AV} {c : Code} (ht : st.slots t = .ab b 0 n cap) (hbx : st.boxes (1000000 + b) = some cs) (hcc : Calm cs) (hN : t < C.N) (hid : st.boxes id = none) (hb : C.base ≤ id ∧ id < 1000000)
    (h : AWp C c (st.claim t b id n cap cs) Q) : AWp C c st Q := by
  intro S E a hbs I ha hd he
  subst he
  obtain ⟨E', h2, h3, h4, h5⟩ := I.claim hN ht hbx hcc hid (Nat.le_trans hbs hb.1) hb.2
  have := h S E' a hbs h4 (by rw [ha, h3]) hd h5
  rwa [h2] at this
end
attribute [simp] St.park St.claim
end Go.AM
namespace Go.AM

/-- A map type, and which values are its keys. -/
structure MapLaw where
  t : TypeId
  kt : TypeId
  et : TypeId
  good : Value → Prop

/-- How a map type's keys are found. -/
structure MapLaw.Ok (M : MapLaw) (P : Program) : Prop where
  und : P.underlying M.t = some (.map M.kt M.et)
  chk : ∀ em w k, M.good k → (Instr.checkKey em 10000 M.kt k).run P w = .ok () w
  find : ∀ w k (es : Array MapEntry), M.good k → (∀ x ∈ es.toList, M.good x.key) →
    (∃ j e, es[j]? = some e ∧ e.key = k ∧ (Instr.findKey M.kt k es.toList).run P w = .ok (some (j, e.val)) w) ∨ ((∀ x ∈ es.toList, x.key ≠ k) ∧ (Instr.findKey M.kt k es.toList).run P w = .ok none w)
  stay : ∀ w k, M.good k → (Instr.keyThatStays k k).run P w = .ok k w
  zero : ∀ w, (zeroValue M.et).run P w = .ok (.bool false) w

/-- What a function has beside: a map (its block, its keys), or a reader of a text (its block, the text, where it stands). -/
inductive Aux where
  | map (b : Nat) (ks : List Value)
  | it (b : Nat) (s : ByteArray) (pos : Nat)
abbrev MS : Type := Option Aux

def Aux.blk : Aux → Nat
  | .map b _ => b
  | .it b _ _ => b
def Aux.holds (M : MapLaw) (o : Option Obj) : Aux → Prop
  | .map _ ks => ∃ es clock, o = some (.map es clock) ∧ (∀ x ∈ es.toList, M.good x.key ∧ x.val = .bool true) ∧ ∀ v, v ∈ ks ↔ ∃ x ∈ es.toList, x.key = v
  | .it _ s pos => o = some (.stringIter s pos)
theorem Aux.holds_some {M : MapLaw} {o : Option Obj} {x : Aux} (h : x.holds M o) : ∃ y, o = some y := by
  cases x with
  | map b ks => obtain ⟨es, clock, h, _⟩ := h; exact ⟨_, h⟩
  | it b s pos => exact ⟨_, h⟩

def MapAt (M : MapLaw) (S : Start) (E : Env) : MS → Prop
  | none => True
  | some x => x.holds M E.w.heap[x.blk]? ∧ S.w0.heap.size ≤ x.blk ∧ E.ω x.blk = none ∧ ¬ E.Pub x.blk

def Env.again (E : Env) (k : Nat) : Start := ⟨E.w, fun bk => E.ω bk ≠ none, E.Pub, E.β, k⟩

theorem Inv.again {N : Nat} {S : Start} {E : Env} (I : Inv N S E) : Inv N (E.again S.k) E :=
  ⟨I.rel, ⟨SameOs.refl _, rfl, rfl, Nat.le_refl _, fun _ _ _ => rfl, fun k q h => .inr (by show E.ω k ≠ none; rw [h]; simp), fun _ h => h, fun _ h => .inl h, fun _ _ => rfl⟩⟩

theorem Inv.join {N : Nat} {S : Start} {E E' : Env} (I : Inv N S E) (I' : Inv N (E.again S.k) E') : Inv N S E' := by
  refine ⟨I'.rel, ⟨I'.fr.os.trans I.fr.os, I'.fr.tape.trans I.fr.tape, I'.fr.output.trans I.fr.output, Nat.le_trans I.fr.size I'.fr.size, fun k hk hn => ?_, fun k q h => ?_, fun bk h => I'.fr.pub0 bk (I.fr.pub0 bk h), fun bk h => ?_, fun id h => (I'.fr.beta id h).trans (I.fr.beta id h)⟩⟩
  · have h1 : ¬ (E.again S.k).own0 k := fun h => by
      have h : E.ω k ≠ none := h
      cases hq : E.ω k with
      | none => exact h hq
      | some q =>
        rcases I.fr.own k q hq with h2 | h2
        · omega
        · exact hn h2
    exact (I'.fr.block k (Nat.lt_of_lt_of_le hk I.fr.size) h1).trans (I.fr.block k hk hn)
  · rcases I'.fr.own k q h with h1 | h1
    · exact .inl (Nat.le_trans I.fr.size h1)
    · have h1 : E.ω k ≠ none := h1
      cases hq : E.ω k with
      | none => exact absurd hq h1
      | some q => exact I.fr.own k q hq
  · rcases I'.fr.pub1 bk h with h1 | h1 | h1
    · exact I.fr.pub1 bk h1
    · exact .inr (.inl (Nat.le_trans I.fr.size h1))
    · have h1 : E.ω bk ≠ none := h1
      cases hq : E.ω bk with
      | none => exact absurd hq h1
      | some q =>
        rcases I.fr.own bk q hq with h2 | h2
        · exact .inr (.inl h2)
        · exact .inr (.inr h2)

theorem MapAt.keep {M : MapLaw} {N : Nat} {S : Start} {E E' : Env} {m : MS} (h : MapAt M S E m) (I' : Inv N (E.again S.k) E') : MapAt M S E' m := by
  cases m with
  | none => trivial
  | some x =>
    obtain ⟨h1, h4, h5, h6⟩ := h
    obtain ⟨y, hy⟩ := Aux.holds_some h1
    have hlt : x.blk < E.w.heap.size := (Array.getElem?_eq_some_iff.1 hy).1
    have hno : ¬ (E.again S.k).own0 x.blk := fun h => (show E.ω x.blk ≠ none from h) h5
    refine ⟨by rw [I'.fr.block x.blk hlt hno]; exact h1, h4, ?_, fun hp => ?_⟩
    · cases hq : E'.ω x.blk with
      | none => rfl
      | some q =>
        rcases I'.fr.own x.blk q hq with h | h
        · exact absurd hlt (Nat.not_lt.2 h)
        · exact absurd h hno
    · rcases I'.fr.pub1 x.blk hp with h | h | h
      · exact h6 h
      · exact absurd hlt (Nat.not_lt.2 h)
      · exact hno h

/-- Another world, in which all that is owned or never turns is as it was. -/
theorem Inv.other {N : Nat} {S : Start} {E : Env} (I : Inv N S E) (w' : World) (ho : SameOs w' E.w ∧ w'.tape = E.w.tape ∧ w'.output = E.w.output) (hsz : E.w.heap.size ≤ w'.heap.size)
    (hb : ∀ k, E.Pub k ∨ E.ω k ≠ none → w'.heap[k]? = E.w.heap[k]?) (hold : ∀ k, k < S.w0.heap.size → ¬ S.own0 k → w'.heap[k]? = E.w.heap[k]?) : Inv N S { E with w := w' } := by
  have hst : Stays (fun _ => True) (fun _ => True) E { E with w := w' } := by
    refine ⟨fun bk h => ⟨h, hb bk (.inl h)⟩, fun bk q _ h => ⟨h, hb bk (.inr (by rw [h]; simp))⟩, fun _ _ => rfl, fun q u sz xs _ ha h => ?_, fun _ _ _ _ h => h⟩
    cases q with
    | slot t p => exact h
    | cell id off =>
      have hbx : ∃ cs, E.st.boxes id = some cs := by
        cases hc : E.st.boxes id with
        | none => simp [St.abs, hc] at ha
        | some cs => exact ⟨cs, rfl⟩
      obtain ⟨cs, hcs⟩ := hbx
      have h1 := (I.rel.boxes id cs hcs).1
      show w'.cell? _ = _
      rw [cell_same (hb (E.β id) (.inr (by rw [h1]; simp)))]
      exact h
    | box id => cases h
    | no => cases h
  have hle : ∀ {p x v}, Val E p x v → Val { E with w := w' } p x v := fun hv => hv.mono hst (hv.leans (fun _ _ _ _ => trivial) trivial fun _ _ _ _ => trivial)
  refine ⟨{ size := I.rel.size, slots := fun t => hle (I.rel.slots t), boxes := fun id cs h => ?_, pub := fun bk h => ⟨Nat.lt_of_lt_of_le (I.rel.pub bk h).1 hsz, (I.rel.pub bk h).2⟩, own := fun bk q h => Nat.lt_of_lt_of_le (I.rel.own bk q h) hsz, abs := I.rel.abs, gl := I.rel.gl.mono hst.pub },
    ⟨ho.1.trans I.fr.os, ho.2.1.trans I.fr.tape, ho.2.2.trans I.fr.output, Nat.le_trans I.fr.size hsz, fun k hk hn => (hold k hk hn).trans (I.fr.block k hk hn), I.fr.own, I.fr.pub0, I.fr.pub1, I.fr.beta⟩⟩
  obtain ⟨h1, arr, T, h2, h3, h4⟩ := I.rel.boxes id cs h
  exact ⟨h1, arr, T, (hb _ (.inr (by rw [h1]; simp))).trans h2, h3, fun j c hj => hle (h4 j c hj)⟩

/-- Code beside a map of the function's own. -/
structure AWpM (M : MapLaw) (C : Cx) (c : Code) (st : St) (m : MS) (Q : Exit → St → MS → Prop) : Prop where
  run : ∀ (S : Start) (E : Env) (a : Act), S.k ≤ C.base → Inv C.N S E → a.tmps = E.tm → a.defers = [] → E.st = st → MapAt M S E m →
    c.wp C.P (fun e a w => ∃ E m, E.w = w ∧ Inv C.N S E ∧ a.tmps = E.tm ∧ a.defers = [] ∧ MapAt M S E m ∧ Q e E.st m) a E.w

section
variable {M : MapLaw} {C : Cx} {st : St} {m : MS} {Q : Exit → St → MS → Prop}

theorem AWpM.frame {c : Code} (h : AWp C c st fun e s => Q e s m) : AWpM M C c st m Q := by
  refine ⟨fun S E a hb I ha hd he hm => ?_⟩
  refine wp_mono (h (E.again S.k) E a hb I.again ha hd he) ?_
  rintro e a w ⟨E1, rfl, h2, h3, h4, h5⟩
  exact ⟨E1, m, rfl, I.join h2, h3, h4, hm.keep h2, h5⟩

theorem AWpM.toAWp {c : Code} {R : Exit → St → Prop} (h : AWpM M C c st none fun e s _ => R e s) : AWp C c st R := by
  intro S E a hb I ha hd he
  refine wp_mono (h.run S E a hb I ha hd he trivial) ?_
  rintro e a w ⟨E1, m, rfl, h2, h3, h4, _, h5⟩
  exact ⟨E1, rfl, h2, h3, h4, h5⟩

theorem AWpM.mono {c : Code} {Q' : Exit → St → MS → Prop} (h : AWpM M C c st m Q) (hq : ∀ e s m, Q e s m → Q' e s m) : AWpM M C c st m Q' := by
  refine ⟨fun S E a hb I ha hd he hm => ?_⟩
  exact wp_mono (h.run S E a hb I ha hd he hm) fun e a w ⟨E', m', h1, h2, h3, h4, h5, h6⟩ => ⟨E', m', h1, h2, h3, h4, h5, hq e _ _ h6⟩

theorem AWpM.clean (ks kb : List Nat) {c : Code} (h : AWpM M C c (st.clean ks kb) m Q) : AWpM M C c st m Q := by
  refine ⟨fun S E a hb I ha hd he hm => ?_⟩
  obtain ⟨E', h1, h2, h3, h4⟩ := I.again.clean ks kb
  have := h.run S E' a hb (I.join h3) (by rw [ha, h2]) hd (by rw [h4, he]) (hm.keep h3)
  rwa [h1] at this

theorem AWpM.skip (h : Q .normal st m) : AWpM M C .skip st m Q := .frame (.skip h)
theorem AWpM.exit {id : Nat} (h : Q (.exit id) st m) : AWpM M C (.exit id) st m Q := .frame (.exit h)
theorem AWpM.ret (h : Q .ret st m) : AWpM M C .ret st m Q := .frame (.ret h)

def thenM (R : St → MS → Prop) (Q : Exit → St → MS → Prop) : Exit → St → MS → Prop
  | .normal, s, m => R s m
  | e, s, m => Q e s m

theorem AWpM.seq {x y : Code} (h : AWpM M C x st m (thenM (fun s m => AWpM M C y s m Q) Q)) : AWpM M C (.seq x y) st m Q := by
  refine ⟨fun S E a hb I ha hd he hm => ?_⟩
  refine wp_seq (wp_mono (h.run S E a hb I ha hd he hm) ?_)
  rintro e a w ⟨E1, m1, rfl, h2, h3, h4, h5, h6⟩
  cases e with
  | normal => exact h6.run S E1 a hb h2 h3 h4 rfl h5
  | _ => exact ⟨E1, m1, rfl, h2, h3, h4, h5, h6⟩

theorem AWpM.cond {c : Operand} {x y : Code} {t : Bool} (hc : st.rd 0 c = .b t) (h1 : t = true → AWpM M C x st m Q) (h2 : t = false → AWpM M C y st m Q) : AWpM M C (.cond c x y) st m Q := by
  refine ⟨fun S E a hb I ha hd he hm => ?_⟩
  have hv := I.rel.rd ha 0 c .no
  rw [he, hc] at hv
  have hv' : a.eval c = .bool t := by
    generalize a.eval c = v at hv
    cases hv; rfl
  exact wp_cond_split hv' (fun h => (h1 h).run S E a hb I ha hd he hm) (fun h => (h2 h).run S E a hb I ha hd he hm)

def blockM (id : Nat) (Q : Exit → St → MS → Prop) : Exit → St → MS → Prop
  | .exit id', s, m => if id' = id then Q .normal s m else Q (.exit id') s m
  | e, s, m => Q e s m

theorem AWpM.block {id : Nat} {c : Code} (h : AWpM M C c st m (blockM id Q)) : AWpM M C (.block id c) st m Q := by
  refine ⟨fun S E a hb I ha hd he hm => ?_⟩
  refine wp_block (wp_mono (h.run S E a hb I ha hd he hm) ?_)
  rintro e a w ⟨E1, m1, rfl, h2, h3, h4, h5, h6⟩
  cases e with
  | exit id' =>
    simp only [Exit.inBlock]
    simp only [blockM] at h6
    split
    · rename_i hh; rw [if_pos hh] at h6; exact ⟨E1, m1, rfl, h2, h3, h4, h5, h6⟩
    · rename_i hh; rw [if_neg hh] at h6; exact ⟨E1, m1, rfl, h2, h3, h4, h5, h6⟩
  | _ => exact ⟨E1, m1, rfl, h2, h3, h4, h5, h6⟩

theorem AWpM.while {ι : Type} (l : ι → List (Nat × AV)) (bx : ι → Boxes) (ms : ι → MS) (inv : ι → Prop) (μ : ι → Nat) (ks kb : List Nat) {c : Code} (i0 : ι) (h0 : inv i0) (hst : st.sees ks kb (l i0) (bx i0) ∧ m = ms i0)
    (round : ∀ i, inv i → AWpM M C c (St.of (l i) (bx i)) (ms i) (thenM (fun s m => ∃ i', inv i' ∧ μ i' < μ i ∧ s.sees ks kb (l i') (bx i') ∧ m = ms i') Q)) : AWpM M C (.loop c) st m Q := by
  refine ⟨fun S E a hb I ha hd he hm => ?_⟩
  have start : ∃ E', E'.w = E.w ∧ Inv C.N S E' ∧ a.tmps = E'.tm ∧ E'.st = St.of (l i0) (bx i0) ∧ MapAt M S E' (ms i0) := by
    obtain ⟨E1, k1, k2, k3, k4⟩ := I.again.clean ks kb
    have I1 := I.join k3
    have I2 := k3.fits (st' := St.of (l i0) (bx i0)) (by rw [k4, he]; exact St.sees_fits hst.1)
    exact ⟨{ E1 with st := St.of (l i0) (bx i0) }, k1, I.join I2, by rw [ha, k2], rfl, by rw [← hst.2]; exact hm.keep I2⟩
  obtain ⟨E0, e1, e2, e3, e4, e5⟩ := start
  rw [← e1]
  refine wp_loop_by (fun i a w => inv i ∧ ∃ E, E.w = w ∧ Inv C.N S E ∧ a.tmps = E.tm ∧ a.defers = [] ∧ E.st = St.of (l i) (bx i) ∧ MapAt M S E (ms i)) μ ?_ (i0 := i0) ⟨h0, E0, rfl, e2, e3, hd, e4, e5⟩
  rintro i a w ⟨hi, E, rfl, I, ha, hd, he, hm⟩
  refine wp_mono ((round i hi).run S E a hb I ha hd he hm) ?_
  rintro e a w ⟨E1, m1, rfl, h2, h3, h4, h5, h6⟩
  cases e with
  | normal =>
    obtain ⟨i', g1, g2, g3, rfl⟩ := h6
    obtain ⟨E2, k1, k2, k3, k4⟩ := h2.again.clean ks kb
    have I2 := k3.fits (st' := St.of (l i') (bx i')) (by rw [k4]; exact St.sees_fits g3)
    exact ⟨i', ⟨g1, { E2 with st := St.of (l i') (bx i') }, k1, h2.join I2, by rw [h3, k2], h4, rfl, h5.keep I2⟩, g2⟩
  | _ => exact ⟨E1, m1, rfl, h2, h3, h4, h5, h6⟩

theorem AWpM.seqF {x y : Code} (h : AWp C x st (thenQ (fun s => AWpM M C y s m Q) fun _ _ => False)) : AWpM M C (.seq x y) st m Q :=
  AWpM.seq (AWpM.frame (h.mono fun e s hs => by cases e <;> first | exact hs | exact hs.elim))

theorem AWpM.go (ks kb : List Nat) {id : Nat} {ops : Array Oper} {y : Code} (h : ∀ K : St → Prop, (∀ l bx, AWpM M C y (St.of l bx) m Q → K (St.of l bx)) → aops C ops ops.toList st fun s => K (St.of (seeS ks kb s ks) (seeB ks kb s kb))) : AWpM M C (.seq (.region id ops false) y) st m Q := by
  refine AWpM.seqF (AWp.post (fun _ => (ks, kb)) ((AWp.region (Q := fun e s => thenQ (fun s => AWpM M C y (s.clean ks kb) m Q) (fun _ _ => False) e s) ?_).mono ?_))
  · have := h (fun s => AWpM M C y s m Q) fun _ _ h => h
    simp only [← St.clean_eq] at this
    exact this
  · intro e s hs
    cases e with
    | normal => exact hs
    | _ => exact hs.elim

theorem AWpM.goLast (ks kb : List Nat) {id : Nat} {ops : Array Oper} (h : ∀ K : St → Prop, (∀ l bx, Q .normal (St.of l bx) m → K (St.of l bx)) → aops C ops ops.toList st fun s => K (St.of (seeS ks kb s ks) (seeB ks kb s kb))) : AWpM M C (.region id ops false) st m Q :=
  .frame (AWp.goLast ks kb h)

theorem AWpM.step (ks kb : List Nat) (l : List (Nat × AV)) (bx : Boxes) {id : Nat} {ops : Array Oper} {y : Code} (h : aops C ops ops.toList st fun s => s.sees ks kb l bx) (h2 : AWpM M C y (St.of l bx) m Q) : AWpM M C (.seq (.region id ops false) y) st m Q :=
  AWpM.seqF (AWp.last ks kb l bx h h2)

theorem AWpM.last (ks kb : List Nat) (l : List (Nat × AV)) (bx : Boxes) {id : Nat} {ops : Array Oper} (h : aops C ops ops.toList st fun s => s.sees ks kb l bx) (h2 : Q .normal (St.of l bx) m) : AWpM M C (.region id ops false) st m Q :=
  .frame (AWp.last ks kb l bx h h2)

/-- Operations of a region beside a map. -/
def SOpsM (M : MapLaw) (C : Cx) (ops : Array Oper) (k : Nat) (l : List Oper) (st : St) (m : MS) (K : St → MS → Prop) : Prop :=
  ∀ (S : Start) (E : Env) (a : Act), S.k ≤ C.base → Inv C.N S E → a.tmps = E.tm → a.defers = [] → E.st = st → MapAt M S E m → ∀ R : Exit → Act → World → Prop,
    (∀ E a m, Inv C.N S E → a.tmps = E.tm → a.defers = [] → MapAt M S E m → K E.st m → R .normal a E.w) → wpOps C.P ops R (List.range' k l.length) a E.w

theorem SOpsM.nil {ops : Array Oper} {k : Nat} {K : St → MS → Prop} (h : K st m) : SOpsM M C ops k [] st m K := by
  intro S E a hb I ha hd he hm R hR
  exact hR E a m I ha hd hm (by rw [he]; exact h)

theorem SOpsM.cut (n : Nat) {ops : Array Oper} {k : Nat} {l : List Oper} {K : St → MS → Prop} (hl : ops.toList.drop k = l) (h : ∀ K' : St → Prop, (∀ s bx, SOpsM M C ops (k + (l.take n).length) (l.drop n) (St.of s bx) m K → K' (St.of s bx)) → aops C ops (l.take n) st K') : SOpsM M C ops k l st m K := by
  intro S E a hb I ha hd he hm R hR
  have h1 := h (fun s => SOpsM M C ops (k + (l.take n).length) (l.drop n) s m K) fun _ _ h => h
  have := aops_soundQ (C := C) (S := E.again S.k) hb (ops := ops) (K := fun s => SOpsM M C ops (k + (l.take n).length) (l.drop n) s m K) (R := R) (l.take n) (l.drop n) k (by rw [List.take_append_drop]; exact hl)
    (fun E' a' I' ha' hd' hK => hK S E' a' hb (I.join I') ha' hd' rfl (hm.keep I') R hR) E a I.again ha hd (by rw [he]; exact h1)
  rwa [List.take_append_drop] at this

theorem AWpM.sregion {id : Nat} {ops : Array Oper} (h : SOpsM M C ops 0 ops.toList st m (Q .normal)) : AWpM M C (.region id ops false) st m Q := by
  refine ⟨fun S E a hb I ha hd he hm => ?_⟩
  refine wp_region ?_
  have := h S E a hb I ha hd he hm (fun e a w => ∃ E m, E.w = w ∧ Inv C.N S E ∧ a.tmps = E.tm ∧ a.defers = [] ∧ MapAt M S E m ∧ Q e E.st m) (fun E a m I ha hd hm h => ⟨E, m, rfl, I, ha, hd, hm, h⟩)
  rw [List.range_eq_range']
  simpa using this

theorem AWpM.goS (ks kb : List Nat) {id : Nat} {ops : Array Oper} {y : Code} (h : ∀ K : St → MS → Prop, (∀ l bx m, AWpM M C y (St.of l bx) m Q → K (St.of l bx) m) → SOpsM M C ops 0 ops.toList st m fun s m => K (St.of (seeS ks kb s ks) (seeB ks kb s kb)) m) : AWpM M C (.seq (.region id ops false) y) st m Q := by
  refine AWpM.seq ((AWpM.sregion (Q := fun e s m => thenM (fun s m => AWpM M C y (s.clean ks kb) m Q) (fun _ _ _ => False) e s m) ?_).mono ?_)
  · have := h (fun s m => AWpM M C y s m Q) fun _ _ _ h => h
    simp only [← St.clean_eq] at this
    exact this
  · intro e s m hs
    cases e with
    | normal => exact AWpM.clean ks kb hs
    | _ => exact hs.elim

attribute [simp] thenM blockM
end
end Go.AM
namespace Go.AM

def litA : List AV → Option Value
  | [.i k n, .i k' n'] => some (.agg #[.int k n, .int k' n'])
  | _ => none
theorem litA_some {cs : List AV} {u : Value} (h : litA cs = some u) : ∃ k n k' n', cs = [.i k n, .i k' n'] ∧ u = .agg #[.int k n, .int k' n'] := by
  unfold litA at h
  split at h
  · rename_i k n k' n'
    exact ⟨k, n, k', n', rfl, (Option.some.inj h).symm⟩
  · cases h
/-- A value that is plain data: which one it is. -/
def AV.lit : AV → Option Value
  | .b x => some (.bool x)
  | .i k n => some (.int k n)
  | .s x => some (.string x)
  | .agg cs => litA cs
  | _ => none
theorem val_lit {E : Env} {p : Place} {x : AV} {v u : Value} (h : Val E p x v) (hl : x.lit = some u) : v = u := by
  cases h <;> simp [AV.lit] at hl
  case b => exact hl
  case i => exact hl
  case s => exact hl
  case agg cs arr hs hc =>
    obtain ⟨k, n, k', n', rfl, rfl⟩ := litA_some hl
    have h2 : arr.size = 2 := by simpa using hs.symm
    have e0 := hc 0 _ rfl
    have e1 := hc 1 _ rfl
    obtain ⟨l⟩ := arr
    match l, h2 with
    | [a, b], _ =>
      have ha : a = .int k n := by
        have e0 : Val E (p.sub 0) (.i k n) a := e0
        cases e0; rfl
      have hb : b = .int k' n' := by
        have e1 : Val E (p.sub 1) (.i k' n') b := e1
        cases e1; rfl
      rw [ha, hb]

theorem yielded_on {N : Nat} {S : Start} {ops : Array Oper} {E : Env} (I : Inv N S E) {a : Act} (ha : a.tmps = E.tm) {j t : Nat} {c : Bool} (hj : (ops[j]?).bind (·.dst) = some t) (hc : E.st.slots t = .b c) : yielded ops a.tmps j = some c := by
  have hval := I.rel.slots t
  rw [hc] at hval
  have hv : a.tmps.getD t undef = .bool c := by
    rw [ha]
    generalize E.tm.getD t undef = v at hval
    cases hval; rfl
  have ht : t < a.tmps.size := by
    rcases Nat.lt_or_ge t a.tmps.size with h1 | h1
    · exact h1
    · rw [Array.getD_eq_getD_getElem?, Array.getElem?_eq_none h1] at hv
      simp [undef] at hv
  have hg2 : a.tmps[t]? = some (.bool c) := by
    rw [Array.getElem?_eq_getElem ht]
    rw [Array.getD_eq_getD_getElem?, Array.getElem?_eq_getElem ht] at hv
    exact congrArg some hv
  unfold yielded
  simp [hj, hg2]

/-- Is an operation asked? -/
def asked (ops : Array Oper) (st : St) (o : Oper) (c : Bool) : Prop := match o.guard with
  | none => c = true
  | some (j, b) => match (ops[j]?).bind (·.dst) with
    | some t => match (st.slots t).gv with
      | some (some x) => c = (x == b)
      | some none => c = false
      | none => False
    | none => False

theorem asked_wanted {N : Nat} {S : Start} {ops : Array Oper} {E : Env} (I : Inv N S E) {a : Act} (ha : a.tmps = E.tm) {o : Oper} {c : Bool} (h : asked ops E.st o c) : Region.wanted o (yielded ops a.tmps) = c := by
  unfold asked at h
  split at h
  · rename_i hg
    subst h
    simp [Region.wanted, hg]
  · rename_i j b hg
    split at h
    · rename_i t hj
      split at h
      · rename_i x hc
        have hy := yielded_on I ha hj (AV.gv_some hc)
        subst h
        simp only [Region.wanted, hg, hy]
        cases x <;> cases b <;> rfl
      · rename_i hc
        have hy := yielded_off I ha hj (AV.gv_none hc)
        subst h
        simp only [Region.wanted, hg, hy]
        rfl
      · exact h.elim
    · exact h.elim

section
variable {M : MapLaw} {C : Cx} {st : St} {ops : Array Oper} {k : Nat} {o : Oper} {l : List Oper} {K : St → MS → Prop}

theorem mact_put {a : Act} {d : Nat} {v : Value} : (a.put (some d) v).tmps = a.tmps.setIfInBounds d v ∧ (a.put (some d) v).defers = a.defers := ⟨rfl, rfl⟩

/-- An operation that was not asked. -/
theorem SOpsM.off {m : MS} {d : Nat} (hops : ops[k]? = some o) (hd : o.dst = some d) (hg : asked ops st o false) (hN : d < C.N) (hf : (st.slots d).free = true) (h : SOpsM M C ops (k + 1) l (st.put d (.tup [])) m K) : SOpsM M C ops k (o :: l) st m K := by
  intro S E a hb I ha hdf he hm R hR
  subst he
  have hw := asked_wanted I ha hg
  have I' := I.putq d (.tup []) undef hN (fun π sz xs => free_noOwn π hf) rfl val_undef
  have J' := I.again.putq d (.tup []) undef hN (fun π sz xs => free_noOwn π hf) rfl val_undef
  simp only [List.length_cons, List.range'_succ, wpOps, hops, hw]
  simp only [Bool.false_eq_true, if_false]
  refine h S _ _ hb I' ?_ ?_ rfl (hm.keep J') R hR
  · rw [hd, mact_put.1, ha]
  · rw [hd, mact_put.2, hdf]

/-- A map is made. -/
theorem SOpsM.make {d : Nat} (hops : ops[k]? = some o) (ho : o.op = .makeMap M.t none) (hd : o.dst = some d) (hg : asked ops st o true) (hN : d < C.N) (hf : (st.slots d).free = true) (h : ∀ b, SOpsM M C ops (k + 1) l (st.put d (.mp b)) (some (.map b [])) K) : SOpsM M C ops k (o :: l) st none K := by
  intro S E a hb I ha hdf he hm R hR
  subst he
  have hw := asked_wanted I ha hg
  have hget : ∀ j, j < E.w.heap.size → (E.w.alloc (.map #[] 0)).heap[j]? = E.w.heap[j]? := fun j hj => by
    show (E.w.heap.push _)[j]? = _
    rw [Array.getElem?_push, if_neg (by omega)]
  have hsz : (E.w.alloc (.map #[] 0)).heap.size = E.w.heap.size + 1 := by
    show (E.w.heap.push _).size = _
    rw [Array.size_push]
  have I1 := I.other (E.w.alloc (.map #[] 0)) ⟨⟨rfl, fun _ => Nat.le_refl _⟩, rfl, rfl⟩ (by omega) (fun j hj => hget j (by
    rcases hj with h | h
    · exact (I.rel.pub j h).1
    · cases hq : E.ω j with
      | none => exact absurd hq h
      | some q => exact I.rel.own j q hq)) (fun j hj _ => hget j (Nat.lt_of_lt_of_le hj I.fr.size))
  have I2 := I1.putq d (.mp E.w.heap.size) (.map (some E.w.heap.size)) hN (fun π sz xs => free_noOwn π hf) rfl (.mp _ _)
  simp only [List.length_cons, List.range'_succ, wpOps, hops, hw, if_true]
  refine .inl ?_
  unfold Oper.wp
  have hx : (execOp a.eval o).run C.P E.w = .ok (.value (.map (some E.w.heap.size))) (E.w.alloc (.map #[] 0)) := by
    unfold execOp
    rw [ho]
    have hmk : (Instr.makeMap M.t none).run C.P E.w = .ok (.map (some E.w.heap.size)) (E.w.alloc (.map #[] 0)) := rfl
    simp only [Option.map_none, Sem.run_bind, hmk, Result.andThen_ok, Sem.run_pure]
  rw [hx, Oper.upon_value]
  refine h E.w.heap.size S _ _ hb I2 ?_ ?_ rfl ⟨⟨#[], 0, ?_, by simp, by simp⟩, I.fr.size, ?_, fun hp => ?_⟩ R hR
  · rw [hd, mact_put.1, ha]
  · rw [hd, mact_put.2, hdf]
  · show (E.w.heap.push _)[E.w.heap.size]? = _
    rw [Array.getElem?_push, if_pos rfl]
  · show E.ω E.w.heap.size = none
    cases hq : E.ω E.w.heap.size with
    | none => rfl
    | some q => exact absurd (I.rel.own _ q hq) (Nat.lt_irrefl _)
  · exact Nat.lt_irrefl _ (I.rel.pub _ hp).1

/-- A map is asked. -/
theorem SOpsM.look {d b sz : Nat} {ks : List Value} {xo ko : Operand} {kv : Value} {r : Bool} (hM : M.Ok C.P) (hops : ops[k]? = some o) (ho : o.op = .lookup M.t xo ko false) (hd : o.dst = some d) (hg : asked ops st o true) (hx : st.rd 0 xo = .mp b) (hk : (st.rd sz ko).lit = some kv) (hgood : M.good kv)
    (hr : r = true ↔ kv ∈ ks) (hN : d < C.N) (hf : (st.slots d).free = true) (h : SOpsM M C ops (k + 1) l (st.put d (.b r)) (some (.map b ks)) K) : SOpsM M C ops k (o :: l) st (some (.map b ks)) K := by
  intro S E a hb I ha hdf he hm R hR
  subst he
  have hw := asked_wanted I ha hg
  have hxv : a.eval xo = .map (some b) := by
    have hv := I.rel.rd ha 0 xo .no
    rw [hx] at hv
    generalize a.eval xo = v at hv
    cases hv; rfl
  have hkv : a.eval ko = kv := val_lit (I.rel.rd ha sz ko .no) hk
  have I' := I.putq d (.b r) (.bool r) hN (fun π sz xs => free_noOwn π hf) rfl (.b _ _)
  have J' := I.again.putq d (.b r) (.bool r) hN (fun π sz xs => free_noOwn π hf) rfl (.b _ _)
  obtain ⟨⟨es, clock, e1, e2, e3⟩, e4, e5, e6⟩ := id hm
  simp only [Aux.blk] at e1 e4 e5 e6
  simp only [List.length_cons, List.range'_succ, wpOps, hops, hw, if_true]
  refine .inl ?_
  unfold Oper.wp
  have hrun : (Instr.lookup M.t (.map (some b)) kv false).run C.P E.w = .ok (.bool r) E.w := by
    rcases hM.find E.w kv es hgood (fun x hx => (e2 x hx).1) with ⟨j, e, f1, f2, f3⟩ | ⟨f1, f2⟩
    · have hem : e ∈ es.toList := by
        have : es.toList[j]? = some e := by simpa using f1
        exact List.mem_of_getElem? this
      have hrt : r = true := hr.2 ((e3 kv).2 ⟨e, hem, f2⟩)
      simp only [Instr.lookup, Sem.run_bind, run_underlying hM.und, Result.andThen_ok, MapKept.run_getObj_map e1, Sem.run_pure, hM.chk _ E.w kv hgood, f3, (e2 e hem).2, hrt]
      rfl
    · have hrf : r = false := by
        cases r with
        | false => rfl
        | true =>
          obtain ⟨x, hx, hxk⟩ := (e3 kv).1 (hr.1 rfl)
          exact absurd hxk (f1 x hx)
      simp only [Instr.lookup, Sem.run_bind, run_underlying hM.und, Result.andThen_ok, MapKept.run_getObj_map e1, Sem.run_pure, hM.chk _ E.w kv hgood, f2, hM.zero, hrf]
      rfl
  have hx2 : (execOp a.eval o).run C.P E.w = .ok (.value (.bool r)) E.w := by
    unfold execOp
    rw [ho]
    simp only [Sem.run_bind, hxv, hkv, hrun, Result.andThen_ok, Sem.run_pure]
  rw [hx2, Oper.upon_value]
  refine h S _ _ hb I' ?_ ?_ rfl (hm.keep J') R hR
  · rw [hd, mact_put.1, ha]
  · rw [hd, mact_put.2, hdf]

/-- A map is told of a key. -/
theorem SOpsM.tell {b sz : Nat} {ks : List Value} {xo ko vo : Operand} {kv : Value} (hM : M.Ok C.P) (hops : ops[k]? = some o) (ho : o.op = .mapUpdate M.t xo ko vo) (hd : o.dst = none) (hg : asked ops st o true) (hx : st.rd 0 xo = .mp b) (hk : (st.rd sz ko).lit = some kv) (hgood : M.good kv)
    (hv : st.rd 0 vo = .b true) (h : SOpsM M C ops (k + 1) l st (some (.map b (kv :: ks))) K) : SOpsM M C ops k (o :: l) st (some (.map b ks)) K := by
  intro S E a hb I ha hdf he hm R hR
  subst he
  have hw := asked_wanted I ha hg
  have hxv : a.eval xo = .map (some b) := by
    have hv := I.rel.rd ha 0 xo .no
    rw [hx] at hv
    generalize a.eval xo = v at hv
    cases hv; rfl
  have hkv : a.eval ko = kv := val_lit (I.rel.rd ha sz ko .no) hk
  have hvv : a.eval vo = .bool true := by
    have hv2 := I.rel.rd ha 0 vo .no
    rw [hv] at hv2
    generalize a.eval vo = v at hv2
    cases hv2; rfl
  obtain ⟨⟨es, clock, e1, e2, e3⟩, e4, e5, e6⟩ := id hm
  simp only [Aux.blk] at e1 e4 e5 e6
  have hlt : b < E.w.heap.size := (Array.getElem?_eq_some_iff.1 e1).1
  simp only [List.length_cons, List.range'_succ, wpOps, hops, hw, if_true]
  refine .inl ?_
  unfold Oper.wp
  have hrun : ∃ es' clock', (Instr.mapUpdate M.t (.map (some b)) kv (.bool true)).run C.P E.w = .ok () { E.w with heap := E.w.heap.setIfInBounds b (.map es' clock') } ∧
      (∀ x ∈ es'.toList, M.good x.key ∧ x.val = .bool true) ∧ ∀ v, v ∈ kv :: ks ↔ ∃ x ∈ es'.toList, x.key = v := by
    rcases hM.find E.w kv es hgood (fun x hx => (e2 x hx).1) with ⟨j, e, f1, f2, f3⟩ | ⟨f1, f2⟩
    · have hj : j < es.size := (Array.getElem?_eq_some_iff.1 f1).1
      have hem : e ∈ es.toList := by
        have : es.toList[j]? = some e := by simpa using f1
        exact List.mem_of_getElem? this
      refine ⟨es.modify j fun e => { e with key := kv, val := .bool true }, clock, ?_, fun x hx => ?_, fun v => ?_⟩
      · simp only [Instr.mapUpdate, Sem.run_bind, run_underlying hM.und, Result.andThen_ok, MapKept.run_getObj_map e1, hM.chk _ E.w kv hgood, f3, f1, Option.map_some, Option.getD_some, f2, hM.stay E.w kv hgood, MapKept.run_setObj_map _ e1]
      · rw [Array.toList_modify] at hx
        obtain ⟨i, hi, rfl⟩ := List.mem_iff_getElem.1 hx
        rw [List.getElem_modify]
        split
        · exact ⟨hgood, rfl⟩
        · exact e2 _ (List.getElem_mem _)
      · have hkin : kv ∈ ks := (e3 kv).2 ⟨e, hem, f2⟩
        rw [List.mem_cons]
        constructor
        · intro hv
          have hv' : v ∈ ks := by
            rcases hv with rfl | hv
            · exact hkin
            · exact hv
          obtain ⟨x, hx, hxv⟩ := (e3 v).1 hv'
          obtain ⟨i, hi, rfl⟩ := List.mem_iff_getElem.1 hx
          rw [Array.toList_modify]
          refine ⟨(es.toList.modify j fun e => { e with key := kv, val := .bool true })[i]'(by rw [List.length_modify]; exact hi), List.getElem_mem _, ?_⟩
          rw [List.getElem_modify]
          split
          · rename_i hij
            subst hij
            have : es.toList[j] = e := by
              have h1 : es.toList[j]? = some e := by simpa using f1
              rw [List.getElem?_eq_getElem hi] at h1
              exact Option.some.inj h1
            rw [← hxv, this, f2]
          · exact hxv
        · rintro ⟨x, hx, hxv⟩
          rw [Array.toList_modify] at hx
          obtain ⟨i, hi, rfl⟩ := List.mem_iff_getElem.1 hx
          rw [List.getElem_modify] at hxv
          split at hxv
          · exact .inl hxv.symm
          · exact .inr ((e3 v).2 ⟨_, List.getElem_mem _, hxv⟩)
    · refine ⟨es.push { key := kv, val := .bool true, born := clock }, clock + 1, ?_, fun x hx => ?_, fun v => ?_⟩
      · simp only [Instr.mapUpdate, Sem.run_bind, run_underlying hM.und, Result.andThen_ok, MapKept.run_getObj_map e1, hM.chk _ E.w kv hgood, f2, MapKept.run_setObj_map _ e1]
      · rw [Array.toList_push, List.mem_append, List.mem_singleton] at hx
        rcases hx with hx | rfl
        · exact e2 x hx
        · exact ⟨hgood, rfl⟩
      · rw [List.mem_cons, Array.toList_push, e3 v]
        constructor
        · rintro (rfl | ⟨x, hx, hxv⟩)
          · exact ⟨_, List.mem_append_right _ (List.mem_singleton.2 rfl), rfl⟩
          · exact ⟨x, List.mem_append_left _ hx, hxv⟩
        · rintro ⟨x, hx, hxv⟩
          rcases List.mem_append.1 hx with hx | hx
          · exact .inr ⟨x, hx, hxv⟩
          · rw [List.mem_singleton] at hx; subst hx; exact .inl hxv.symm
  obtain ⟨es', clock', g1, g2, g3⟩ := hrun
  have hx2 : (execOp a.eval o).run C.P E.w = .ok .skip { E.w with heap := E.w.heap.setIfInBounds b (.map es' clock') } := by
    unfold execOp
    rw [ho]
    simp only [Sem.run_bind, hxv, hkv, hvv, g1, Result.andThen_ok, Sem.run_pure]
  rw [hx2, Oper.upon_skip]
  have hne : ∀ j, j ≠ b → (E.w.heap.setIfInBounds b (.map es' clock'))[j]? = E.w.heap[j]? := fun j hj => by simp [Ne.symm hj]
  have I1 := I.other { E.w with heap := E.w.heap.setIfInBounds b (.map es' clock') } ⟨⟨rfl, fun _ => Nat.le_refl _⟩, rfl, rfl⟩ (by simp) (fun j hj => hne j fun he => by
    subst he
    rcases hj with h | h
    · exact e6 h
    · exact h e5) (fun j hj _ => hne j (by omega))
  refine h S _ _ hb I1 ?_ ?_ rfl ⟨⟨es', clock', ?_, g2, g3⟩, e4, e5, e6⟩ R hR
  · rw [hd]; exact ha
  · rw [hd]; exact hdf
  · show (E.w.heap.setIfInBounds b (.map es' clock'))[b]? = _
    simp [hlt]

/-- A reader of a text is made. -/
theorem SOpsM.read {d sz : Nat} {ty : TypeId} {xo : Operand} {s : ByteArray} (hu : C.P.underlying ty = some .string) (hops : ops[k]? = some o) (ho : o.op = .range ty xo) (hd : o.dst = some d) (hg : asked ops st o true) (hx : st.rd sz xo = .s s) (hN : d < C.N) (hf : (st.slots d).free = true)
    (h : ∀ b, SOpsM M C ops (k + 1) l (st.put d (.it b)) (some (.it b s 0)) K) : SOpsM M C ops k (o :: l) st none K := by
  intro S E a hb I ha hdf he hm R hR
  subst he
  have hw := asked_wanted I ha hg
  have hxv : a.eval xo = .string s := by
    have hv := I.rel.rd ha sz xo .no
    rw [hx] at hv
    generalize a.eval xo = v at hv
    cases hv; rfl
  have hget : ∀ j, j < E.w.heap.size → (E.w.alloc (.stringIter s 0)).heap[j]? = E.w.heap[j]? := fun j hj => by
    show (E.w.heap.push _)[j]? = _
    rw [Array.getElem?_push, if_neg (by omega)]
  have hsz : (E.w.alloc (.stringIter s 0)).heap.size = E.w.heap.size + 1 := by
    show (E.w.heap.push _).size = _
    rw [Array.size_push]
  have I1 := I.other (E.w.alloc (.stringIter s 0)) ⟨⟨rfl, fun _ => Nat.le_refl _⟩, rfl, rfl⟩ (by omega) (fun j hj => hget j (by
    rcases hj with h | h
    · exact (I.rel.pub j h).1
    · cases hq : E.ω j with
      | none => exact absurd hq h
      | some q => exact I.rel.own j q hq)) (fun j hj _ => hget j (Nat.lt_of_lt_of_le hj I.fr.size))
  have I2 := I1.putq d (.it E.w.heap.size) (.pointer (some ⟨E.w.heap.size, 0, none⟩)) hN (fun π sz xs => free_noOwn π hf) rfl (.it _ _)
  simp only [List.length_cons, List.range'_succ, wpOps, hops, hw, if_true]
  refine .inl ?_
  unfold Oper.wp
  have hrun : (Instr.range ty (.string s)).run C.P E.w = .ok (.pointer (some ⟨E.w.heap.size, 0, none⟩)) (E.w.alloc (.stringIter s 0)) := by
    unfold Instr.range
    simp only [Sem.run_bind, run_underlying hu, Result.andThen_ok, Sem.run_pure]
    rfl
  have hx2 : (execOp a.eval o).run C.P E.w = .ok (.value (.pointer (some ⟨E.w.heap.size, 0, none⟩))) (E.w.alloc (.stringIter s 0)) := by
    unfold execOp
    rw [ho]
    simp only [Sem.run_bind, hxv, hrun, Result.andThen_ok, Sem.run_pure]
  rw [hx2, Oper.upon_value]
  refine h E.w.heap.size S _ _ hb I2 ?_ ?_ rfl ⟨?_, I.fr.size, ?_, fun hp => ?_⟩ R hR
  · rw [hd, mact_put.1, ha]
  · rw [hd, mact_put.2, hdf]
  · show (E.w.heap.push _)[E.w.heap.size]? = _
    rw [Array.getElem?_push, if_pos rfl]
  · show E.ω E.w.heap.size = none
    cases hq : E.ω E.w.heap.size with
    | none => rfl
    | some q => exact absurd (I.rel.own _ q hq) (Nat.lt_irrefl _)
  · exact Nat.lt_irrefl _ (I.rel.pub _ hp).1

/-- A reader of a text goes on. -/
theorem SOpsM.next {d b pos : Nat} {xo : Operand} {s : ByteArray} (hops : ops[k]? = some o) (ho : o.op = .next xo true) (hd : o.dst = some d) (hg : asked ops st o true) (hx : st.rd 0 xo = .it b) (hN : d < C.N) (hf : (st.slots d).free = true)
    (h1 : pos < s.size → SOpsM M C ops (k + 1) l (st.put d (.tup [.b true, .i .i64 pos, .i .i32 (Utf8.decode s pos).1])) (some (.it b s (pos + (Utf8.decode s pos).2))) K)
    (h2 : ¬ pos < s.size → SOpsM M C ops (k + 1) l (st.put d (.tup [.b false])) (some (.it b s pos)) K) : SOpsM M C ops k (o :: l) st (some (.it b s pos)) K := by
  intro S E a hb I ha hdf he hm R hR
  subst he
  have hw := asked_wanted I ha hg
  have hxv : a.eval xo = .pointer (some ⟨b, 0, none⟩) := by
    have hv := I.rel.rd ha 0 xo .no
    rw [hx] at hv
    generalize a.eval xo = v at hv
    cases hv; rfl
  obtain ⟨e1, e4, e5, e6⟩ := id hm
  simp only [Aux.blk, Aux.holds] at e1 e4 e5 e6
  have hlt : b < E.w.heap.size := (Array.getElem?_eq_some_iff.1 e1).1
  have hgo : (getObj b).run C.P E.w = .ok (.stringIter s pos) E.w := by simp [getObj, Sem.run, e1]
  simp only [List.length_cons, List.range'_succ, wpOps, hops, hw, if_true]
  refine .inl ?_
  unfold Oper.wp
  by_cases hp : pos < s.size
  · have hso : ∀ o', (setObj b o').run C.P E.w = .ok () { E.w with heap := E.w.heap.setIfInBounds b o' } := fun o' => by simp [setObj, Sem.run, e1]
    have hrun : (Instr.next (.pointer (some ⟨b, 0, none⟩)) true o.type).run C.P E.w = .ok (.tuple #[.bool true, goInt pos, .int .i32 (Utf8.decode s pos).1]) { E.w with heap := E.w.heap.setIfInBounds b (.stringIter s (pos + (Utf8.decode s pos).2)) } := by
      unfold Instr.next
      simp only [Sem.run_bind, hgo, Result.andThen_ok, hp, if_true, hso, Sem.run_pure]
    have hx2 : (execOp a.eval o).run C.P E.w = .ok (.value (.tuple #[.bool true, goInt pos, .int .i32 (Utf8.decode s pos).1])) { E.w with heap := E.w.heap.setIfInBounds b (.stringIter s (pos + (Utf8.decode s pos).2)) } := by
      unfold execOp
      rw [ho]
      simp only [Sem.run_bind, hxv, hrun, Result.andThen_ok, Sem.run_pure]
    rw [hx2, Oper.upon_value]
    have hne : ∀ j, j ≠ b → (E.w.heap.setIfInBounds b (.stringIter s (pos + (Utf8.decode s pos).2)))[j]? = E.w.heap[j]? := fun j hj => by simp [Ne.symm hj]
    have I1 := I.other { E.w with heap := E.w.heap.setIfInBounds b (.stringIter s (pos + (Utf8.decode s pos).2)) } ⟨⟨rfl, fun _ => Nat.le_refl _⟩, rfl, rfl⟩ (by simp) (fun j hj => hne j fun he => by
      subst he
      rcases hj with h | h
      · exact e6 h
      · exact h e5) (fun j hj _ => hne j (by omega))
    have I2 := I1.putq d (.tup [.b true, .i .i64 pos, .i .i32 (Utf8.decode s pos).1]) (.tuple #[.bool true, goInt pos, .int .i32 (Utf8.decode s pos).1]) hN (fun π sz xs => free_noOwn π hf) rfl (.tup _ _ _ rfl fun i c hc => by
      match i, hc with
      | 0, hc => cases hc; exact .b _ _
      | 1, hc => cases hc; exact .i _ _ _
      | 2, hc => cases hc; exact .i _ _ _
      | i + 3, hc => simp at hc)
    refine h1 hp S _ _ hb I2 ?_ ?_ rfl ⟨?_, e4, e5, e6⟩ R hR
    · rw [hd, mact_put.1, ha]
    · rw [hd, mact_put.2, hdf]
    · show (E.w.heap.setIfInBounds b _)[b]? = _
      simp [hlt]
  · have hrun : (Instr.next (.pointer (some ⟨b, 0, none⟩)) true o.type).run C.P E.w = .ok (.tuple #[.bool false]) E.w := by
      unfold Instr.next
      simp only [Sem.run_bind, hgo, Result.andThen_ok, hp, if_false, Sem.run_pure]
    have hx2 : (execOp a.eval o).run C.P E.w = .ok (.value (.tuple #[.bool false])) E.w := by
      unfold execOp
      rw [ho]
      simp only [Sem.run_bind, hxv, hrun, Result.andThen_ok, Sem.run_pure]
    rw [hx2, Oper.upon_value]
    have hv : ∀ {E : Env} {p}, Val E p (.tup [.b false]) (.tuple #[.bool false]) := fun {E p} => .tup _ _ _ rfl fun i c hc => by
      match i, hc with
      | 0, hc => cases hc; exact .b _ _
      | i + 1, hc => simp at hc
    have I2 := I.putq d (.tup [.b false]) (.tuple #[.bool false]) hN (fun π sz xs => free_noOwn π hf) rfl hv
    have J2 := I.again.putq d (.tup [.b false]) (.tuple #[.bool false]) hN (fun π sz xs => free_noOwn π hf) rfl hv
    refine h2 hp S _ _ hb I2 ?_ ?_ rfl (hm.keep J2) R hR
    · rw [hd, mact_put.1, ha]
    · rw [hd, mact_put.2, hdf]
end

end Go.AM
namespace Go.AM
open Go.Proofs

def inN (n : Int) : Bool := decide (0 ≤ n) && decide (n ≤ 1048576)
theorem c_ref33_in (n : Int) : Pure Tryd.prog 29 [.i .i64 n] (.b (inN n)) := by
  refine proc_of (cx Tryd.prog 9 [0, 2] [2]) 8 [.tmp 2] Tryd.func29 rfl rfl rfl rfl rfl rfl (Nat.le_refl _) rfl ?_
  refine AWp.go [0] [] fun K hK => ?_
  simp
  first | refine hK _ _ ?_ | refine ⟨by omega, hK _ _ ?_⟩ | refine ⟨by omega, by omega, hK _ _ ?_⟩
  clear hK K
  refine AWp.step [2] [] [(2, .b (inN n))] [] ?_ ?_
  · by_cases q : 0 ≤ n <;> simp [q, inN]
  refine AWp.ret ?_
  simp
def digV (n : Int) : Int := if 97 ≤ n then IntKind.u8.wrap (n - 87) else IntKind.u8.wrap (n - 48)
def strsAV (l : List ByteArray) : List (List AV) := l.map fun s => [.s s]
@[simp] theorem strsAV_length (l : List ByteArray) : (strsAV l).length = l.length := by simp [strsAV]
@[simp] theorem strsAV_getElem (l : List ByteArray) (i : Nat) (h : i < (strsAV l).length) : (strsAV l)[i] = [.s (l[i]'(by simpa using h))] := by simp [strsAV]
end Go.AM
namespace Go.AM

/-- An operation comes behind another one, by way of others. -/
inductive Aft (ops : Array Oper) : Nat → Nat → Prop
  | one {k j o} : ops[k]? = some o → bindsOn o j = true → Aft ops k j
  | more {k i j o} : ops[k]? = some o → bindsOn o i = true → Aft ops i j → Aft ops k j

def domOf (ds : List Nat) (o : Oper) : Nat := o.after.toList.foldl (fun acc e => if Region.binds .any e then acc ||| (2 ^ e.on) ||| (ds.getD e.on 0) else acc) 0
def domsTo : List Oper → List Nat → List Nat
  | [], ds => ds
  | o :: l, ds => domsTo l (ds ++ [domOf ds o])

theorem domOf_spec (ds : List Nat) (o : Oper) (j : Nat) (h : (domOf ds o).testBit j = true) : ∃ e ∈ o.after, Region.binds .any e = true ∧ (e.on = j ∨ (ds.getD e.on 0).testBit j = true) := by
  have key : ∀ (l : List Edge) (acc : Nat), (l.foldl (fun acc e => if Region.binds .any e then acc ||| (2 ^ e.on) ||| (ds.getD e.on 0) else acc) acc).testBit j = true → acc.testBit j = true ∨ ∃ e ∈ l, Region.binds .any e = true ∧ (e.on = j ∨ (ds.getD e.on 0).testBit j = true) := by
    intro l
    induction l with
    | nil => intro acc h; exact .inl h
    | cons e l ih =>
      intro acc h
      rw [List.foldl_cons] at h
      rcases ih _ h with h1 | ⟨e', he', h1⟩
      · split at h1
        · rename_i hb
          rw [Nat.testBit_or, Nat.testBit_or, Nat.testBit_two_pow] at h1
          simp only [Bool.or_eq_true, decide_eq_true_eq] at h1
          rcases h1 with (h1 | h1) | h1
          · exact .inl h1
          · exact .inr ⟨e, by simp, hb, .inl h1⟩
          · exact .inr ⟨e, by simp, hb, .inr h1⟩
        · exact .inl h1
      · exact .inr ⟨e', by simp [he'], h1⟩
  rcases key _ _ h with h1 | ⟨e, he, h1⟩
  · simp at h1
  · exact ⟨e, by simpa using he, h1⟩

theorem domsTo_spec (ops : Array Oper) : ∀ (l : List Oper) (ds : List Nat) (pre : List Oper), ops.toList = pre ++ l → ds.length = pre.length → (∀ k j, (ds.getD k 0).testBit j = true → Aft ops k j) → ∀ k j, ((domsTo l ds).getD k 0).testBit j = true → Aft ops k j
  | [], ds, pre, _, _, h => h
  | o :: l, ds, pre, ho, hl, h => by
    refine domsTo_spec ops l (ds ++ [domOf ds o]) (pre ++ [o]) (by rw [ho]; simp) (by simp [hl]) fun k j hk => ?_
    rw [List.getD_eq_getElem?_getD] at hk
    by_cases hkl : k < ds.length
    · rw [List.getElem?_append_left hkl, ← List.getD_eq_getElem?_getD] at hk
      exact h k j hk
    · by_cases hke : k = ds.length
      · subst hke
        rw [List.getElem?_append_right (Nat.le_refl _)] at hk
        simp at hk
        obtain ⟨e, he, hb, h2⟩ := domOf_spec ds o j hk
        have hok : ops[ds.length]? = some o := by
          rw [← Array.getElem?_toList, ho, hl, List.getElem?_append_right (Nat.le_refl _)]; simp
        have hbo : bindsOn o e.on = true := bindsOn_iff.2 ⟨e, he, rfl, hb⟩
        rcases h2 with rfl | h2
        · exact .one hok hbo
        · exact .more hok hbo (h _ _ h2)
      · rw [List.getElem?_eq_none (by simp; omega)] at hk
        simp at hk

/-- The first m operations put, each to a slot of its own, and each reads what others put behind them alone; the others come behind all ahead of them. -/
def drawOkA (ops : Array Oper) (m : Nat) : Bool :=
  let D := domsTo ops.toList []
  decide (m ≤ ops.size) && (List.range ops.size).all fun k => match ops[k]? with
    | some o => (o.after.all fun e => !Region.binds .any e || decide (e.on < k)) &&
      if k < m then
        ((List.range m).all fun j => j == k || match ops[j]? with
          | some oj => oj.dst != o.dst
          | none => true) &&
        (o.looksAt ops).all fun t => (List.range m).all fun j => match ops[j]? with
          | some oj => oj.dst != some t || (decide (j < k) && (D.getD k 0).testBit j)
          | none => true
      else (List.range k).all fun j => (D.getD k 0).testBit j
    | none => true

structure DrawA (ops : Array Oper) (m : Nat) : Prop where
  le : m ≤ ops.size
  back : ∀ (k : Nat) o, ops[k]? = some o → ∀ e ∈ o.after, Region.binds .any e = true → e.on < k
  dst : ∀ (k j : Nat) o oj, k < m → j < m → j ≠ k → ops[k]? = some o → ops[j]? = some oj → oj.dst ≠ o.dst
  look : ∀ (k j : Nat) o oj t, k < m → j < m → ops[k]? = some o → ops[j]? = some oj → t ∈ o.looksAt ops → oj.dst = some t → j < k ∧ Aft ops k j
  tail : ∀ (k : Nat) o, m ≤ k → ops[k]? = some o → ∀ j, j < k → Aft ops k j

theorem drawOkA_spec {ops : Array Oper} {m : Nat} (h : drawOkA ops m = true) : DrawA ops m := by
  have hR := domsTo_spec ops ops.toList [] [] rfl rfl (fun k j h => by simp at h)
  simp only [drawOkA, Bool.and_eq_true, decide_eq_true_eq, List.all_eq_true, List.mem_range] at h
  obtain ⟨h1, h3⟩ := h
  have get : ∀ (k : Nat) o, ops[k]? = some o → k < ops.size := fun k o ho => (Array.getElem?_eq_some_iff.1 ho).1
  have at' : ∀ (k : Nat) o, ops[k]? = some o → _ := fun k o ho => by
    have := h3 k (get k o ho)
    rw [ho] at this
    exact this
  refine ⟨h1, fun k o ho e he hb => ?_, fun k j o oj hk hj hjk ho hoj => ?_, fun k j o oj t hk hj ho hoj ht hd => ?_, fun k o hk ho j hj => ?_⟩
  · have := at' k o ho
    simp only [Bool.and_eq_true] at this
    have h4 := Array.all_eq_true_iff_forall_mem.1 this.1 e he
    simpa [hb] using h4
  · have := at' k o ho
    simp only [Bool.and_eq_true, hk, if_true, List.all_eq_true, List.mem_range] at this
    have h4 := this.2.1 j hj
    rw [hoj] at h4
    simpa [hjk] using h4
  · have := at' k o ho
    simp only [Bool.and_eq_true, hk, if_true, List.all_eq_true, List.mem_range] at this
    have h4 := this.2.2 t ht j hj
    rw [hoj] at h4
    have h5 : j < k ∧ ((domsTo ops.toList []).getD k 0).testBit j = true := by simpa [hd] using h4
    exact ⟨h5.1, hR k j h5.2⟩
  · have := at' k o ho
    have hk' : ¬ k < m := by omega
    simp only [Bool.and_eq_true, hk', if_false, List.all_eq_true, List.mem_range] at this
    exact hR k j (this.2 j hj)

theorem Aft.lt {ops : Array Oper} {m k j : Nat} (D : DrawA ops m) (h : Aft ops k j) : j < k := by
  induction h with
  | one ho hb =>
    obtain ⟨e, he, h1, h2⟩ := bindsOn_iff.1 hb
    have := D.back _ _ ho e he h2
    omega
  | more ho hb _ ih =>
    obtain ⟨e, he, h1, h2⟩ := bindsOn_iff.1 hb
    have := D.back _ _ ho e he h2
    omega

/-- What has been done is closed under 'comes behind'. -/
def ClosedL (ops : Array Oper) (listed : Array Bool) : Prop := ∀ i j, listed.getD i false = true → Aft ops i j → listed.getD j false = true

/-- What may be done now comes behind what has been done alone. -/
theorem ready_reach {ops : Array Oper} {listed : Array Bool} (hc : ClosedL ops listed) {i : Nat} (hi : i ∈ Region.ready .any ops listed) {j : Nat} (h : Aft ops i j) : listed.getD j false = true := by
  obtain ⟨h1, o, ho, h2⟩ := mem_ready.1 hi
  cases h with
  | one ho' hb =>
    rw [ho] at ho'; cases ho'
    obtain ⟨e, he, h3, h4⟩ := bindsOn_iff.1 hb
    have := h2 e he h4
    rwa [h3] at this
  | more ho' hb hr =>
    rw [ho] at ho'; cases ho'
    obtain ⟨e, he, h3, h4⟩ := bindsOn_iff.1 hb
    have := h2 e he h4
    rw [h3] at this
    exact hc _ _ this hr

theorem closed_add {ops : Array Oper} {listed : Array Bool} (hc : ClosedL ops listed) {i : Nat} (hi : i ∈ Region.ready .any ops listed) (hs : i < listed.size) : ClosedL ops (listed.setIfInBounds i true) := by
  intro a b ha hr
  have mono : ∀ x, listed.getD x false = true → (listed.setIfInBounds i true).getD x false = true := fun x hx => by
    by_cases hxi : i = x
    · subst hxi
      rw [Array.getD_eq_getD_getElem?, Array.getElem?_setIfInBounds_self_of_lt hs]; rfl
    · rw [getD_set_ne false hxi]; exact hx
  by_cases hai : i = a
  · subst hai
    exact mono b (ready_reach hc hi hr)
  · rw [getD_set_ne false hai] at ha
    exact mono b (hc a b ha hr)
end Go.AM
