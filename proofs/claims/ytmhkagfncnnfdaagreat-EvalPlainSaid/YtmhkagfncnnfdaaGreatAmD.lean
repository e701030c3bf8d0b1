/- Regions that draw their order: operations that only put a value. No project text. -/
import Derived.Test.YtmhkagfncnnfdaaGreatAmC
import Derived.Orders
import Derived.Test.YtmhkagfncnnfdaaGreatAmB
import Derived.Shelf.SlSortCmp.NoneTotal
import Derived.Shelf.Spec.SlicesGrow
import Derived.Shelf.Small.Strs
import Derived.MapKept
set_option linter.unusedSimpArgs false
set_option linter.unusedVariables false
namespace Go.AM

/-- A value that is neither of memory nor a view. -/
def AV.inert : AV → Bool
  | .b _ | .i _ _ | .s _ | .nil | .nofn | .ptr _ _ | .ab _ _ _ _ | .mp _ | .it _ => true
  | .sl .fro _ _ => true
  | _ => false

/-- A slice literal of data, given up at once. -/
def qbs (C : Cx) (t len : Nat) (ps : List (Nat × AV)) : QR :=
  match (C.T t).map TI.kind with
  | some (.slice e) => match C.T e with
    | some y => match fillL (fun i => some (i * y.size, y.size)) (List.replicate len (y.zero.map (AV.dz noF))).flatten (ps.map fun p => (p.1, p.2.dz noF)) with
      | some cs => ⟨AV.vwsN (ps.map (·.2)) = [] ∧ len * y.size ≤ 16777216 ∧ 0 < y.size ∧ (ps.all fun p => (p.2.dz noF).data) = true ∧ AV.dataL (y.zero.map (AV.dz noF)) = true ∧ AV.dataL cs = true ∧ cs.all AV.cellOk = true, .sl .fro y.size (chunk y.size len cs)⟩
      | none => .no
    | none => .no
  | _ => .no

/-- What an operation puts that only puts a value; r: a call's result. -/
def pop (C : Cx) (r : AV) (o : Oper) (st : St) : QR :=
  match o.op with
  | .assign x => ⟨(st.rd (szOf C.T o.type) x).inert = true, st.rd (szOf C.T o.type) x⟩
  | .call ⟨.value f, args, ts⟩ => match st.rd 0 f with
    | .fn g fi ca => ⟨Pure C.P g ((fi ++ rdArgs C st args.toList ts.toList ++ ca).map AV.argz) r ∧
        (r.scalar = true ∨ (AV.vwsN (fi ++ rdArgs C st args.toList ts.toList ++ ca) = [] ∧ AV.resOkN noQ noF (fi ++ rdArgs C st args.toList ts.toList ++ ca) = true ∧ r.ptrs (fun _ => false) = true)), r⟩
    | _ => .no
  | .buildSlice t len parts => qbs C t len (parts.toList.map fun p => (p.1, st.rd (elemSz C.T t) p.2))
  | _ => match isNilCmp o.op with
    | some _ => .no
    | none => qop2 C st o.type o.op

theorem rd_congr {st st' : St} {x : Operand} (h : ∀ t, x = .tmp t → st.slots t = st'.slots t) (sz : Nat) : st.rd sz x = st'.rd sz x := by
  cases x with
  | tmp t => simp only [St.rd, h t rfl]
  | const v => rfl
  | func f => rfl
  | global g => rfl

theorem rdArgs_congr {C : Cx} {st st' : St} : ∀ (xs : List Operand) (ts : List Nat), (∀ x ∈ xs, ∀ t, x = .tmp t → st.slots t = st'.slots t) → rdArgs C st xs ts = rdArgs C st' xs ts
  | [], ts, _ => by simp [rdArgs]
  | x :: xs, [], h => by
    rw [rdArgs, rdArgs, rd_congr (h x (by simp)), rdArgs_congr xs [] fun y hy => h y (by simp [hy])]
  | x :: xs, t :: ts, h => by
    rw [rdArgs, rdArgs, rd_congr (h x (by simp)), rdArgs_congr xs ts fun y hy => h y (by simp [hy])]

theorem map_rd_congr {st st' : St} {xs : List Operand} (h : ∀ x ∈ xs, ∀ t, x = .tmp t → st.slots t = st'.slots t) : xs.map (st.rd 0) = xs.map (st'.rd 0) :=
  List.map_congr_left fun x hx => rd_congr (h x hx) 0

theorem qop_congr {T : Nat → Option TI} {st st' : St} {ty : Nat} {op : Op} (h : ∀ x ∈ op.operands, ∀ t, x = .tmp t → st.slots t = st'.slots t) (hb : st.boxes = st'.boxes) : qop T st ty op = qop T st' ty op := by
  have rd : ∀ x ∈ op.operands, ∀ sz, st.rd sz x = st'.rd sz x := fun x hx sz => rd_congr (h x hx) sz
  have mp : ∀ xs : List Operand, (∀ x ∈ xs, x ∈ op.operands) → xs.map (st.rd 0) = xs.map (st'.rd 0) := fun xs hx => map_rd_congr fun x hm => h x (hx x hm)
  cases op <;> simp only [qop] <;> simp only [Op.operands] at rd mp
  case move x => rw [rd x (by simp)]
  case pick c a b => rw [rd c (by simp), rd a (by simp), rd b (by simp)]
  case binOp op t x y z => rw [rd x (by simp), rd y (by simp)]
  case unOp op t x => rw [rd x (by simp)]
  case convert s d x => rw [rd x (by simp)]
  case fieldAddr s x f => rw [rd x (by simp)]
  case field s x f => rw [rd x (by simp)]
  case load t x => rw [rd x (by simp)]; simp only [qload, hb]
  case indexAddr t x ix => rw [rd x (by simp), rd ix (by simp)]
  case index t x ix => rw [rd x (by simp), rd ix (by simp)]
  case nilCheck x => rw [rd x (by simp)]
  case extract x k => rw [rd x (by simp)]
  case build t parts =>
    congr 1
    exact List.map_congr_left fun p hp => by
      rw [rd p.2 (by simp only [List.mem_toArray, List.mem_map]; exact ⟨p, hp, rfl⟩)]
  case slice t x lo hi mx =>
    cases mx with
    | some m =>
      cases lo with
      | some l =>
        cases hi with
        | none => rfl
        | some y => simp only; rw [rd x (by simp), rd l (by simp), rd y (by simp), rd m (by simp)]
      | none =>
        cases hi with
        | none => rfl
        | some y => simp only; rw [rd x (by simp), rd y (by simp), rd m (by simp)]
    | none =>
      simp only
      rw [rd x (by simp)]
      congr 1
      · cases lo with
        | none => rfl
        | some y => simp only [Option.map_some]; rw [rd y (by simp)]
      · cases hi with
        | none => rfl
        | some y => simp only [Option.map_some]; rw [rd y (by simp)]
  case makeFunc fn first captured =>
    cases fn <;> simp only
    rw [mp first.toList (fun x hx => by simp at hx ⊢; exact .inl hx), mp captured.toList (fun x hx => by simp at hx ⊢; exact .inr hx)]
  case call c =>
    obtain ⟨callee, args, ts⟩ := c
    have ha : args.toList.map (st.rd 0) = args.toList.map (st'.rd 0) := mp _ fun x hx => by simp [Call.operands]; exact .inr (by simpa using hx)
    cases callee with
    | value f => rfl
    | invoke r m => rfl
    | builtin b => cases b <;> simp only [ha]

theorem qop2_congr {C : Cx} {st st' : St} {ty : Nat} {op : Op} (h : ∀ x ∈ op.operands, ∀ t, x = .tmp t → st.slots t = st'.slots t) (hb : st.boxes = st'.boxes) : qop2 C st ty op = qop2 C st' ty op := by
  have hq := qop_congr (T := C.T) (ty := ty) h hb
  unfold qop2
  rw [hq]
  split
  · rename_i eq t x y hop
    obtain ⟨yt, rfl⟩ := isEql_some hop
    rw [rd_congr (h x (by simp [Op.operands])), rd_congr (h y (by simp [Op.operands]))]
  · rfl

theorem pop_congr {C : Cx} {r : AV} {o : Oper} {st st' : St} (h : ∀ x ∈ o.op.operands, ∀ t, x = .tmp t → st.slots t = st'.slots t) (hb : st.boxes = st'.boxes) : pop C r o st = pop C r o st' := by
  have hq := qop2_congr (C := C) (ty := o.type) h hb
  unfold pop
  split
  · rename_i x ho
    rw [rd_congr (h x (by simp [ho, Op.operands]))]
  · rename_i f args ts ho
    rw [rd_congr (h f (by simp [ho, Op.operands, Call.operands])), rdArgs_congr args.toList ts.toList fun x hx => h x (by simp [ho, Op.operands, Call.operands]; exact .inr (by simpa using hx))]
  · rename_i t len parts ho
    congr 1
    exact List.map_congr_left fun p hp => by
      rw [rd_congr (h p.2 (by rw [ho]; simp only [Op.operands, List.mem_toArray, List.mem_map]; exact ⟨p, by simpa using hp, rfl⟩))]
  · rw [hq]

theorem inert_assign {C : Cx} {st : St} {d : Nat} {X : AV} {K : St → Prop} (hX : X.inert = true) (hd : d < C.N) (hf : (st.slots d).free = true) (hK : K (st.put d X)) : aassign C st d X K := by
  have h1 : X.vws (.slot d []) = [] := by
    cases X with
    | sl g _ _ => cases g <;> simp_all [AV.inert, AV.vws]
    | _ => simp_all [AV.inert, AV.vws]
  have h2 : X.tr (resLeaf noF) (.slot d []) = X := by
    cases X with
    | sl g _ _ => cases g <;> simp_all [AV.inert, AV.tr, resLeaf]
    | _ => simp_all [AV.inert, AV.tr, resLeaf]
  have h3 : X.resOk noQ noF (.slot d []) = true := by
    cases X with
    | sl g _ _ => cases g <;> simp_all [AV.inert, AV.resOk, resLeafOk]
    | _ => simp_all [AV.inert, AV.resOk, resLeafOk]
  unfold aassign
  simp only [h1, hf, List.isEmpty_nil, Bool.and_self, settleQ, settleF, h2, St.settle_no]
  exact ⟨hd, h3, hK⟩

theorem pop_aop {C : Cx} {r : AV} {o : Oper} {st : St} {d : Nat} {K : St → Prop} (hnb : ∀ t len parts, o.op ≠ .buildSlice t len parts) (hd : o.dst = some d) (hok : (pop C r o st).ok) (hN : d < C.N) (hf : (st.slots d).free = true) (hK : K (st.put d (pop C r o st).v)) : aop C o st K := by
  obtain ⟨dst, op, type, pos, after, guard⟩ := o
  simp only at hd
  subst hd
  have gen : aop C ⟨some d, op, type, pos, after, guard⟩ st K = aelse C ⟨some d, op, type, pos, after, guard⟩ st d K →
      (pop C r ⟨some d, op, type, pos, after, guard⟩ st = match isNilCmp op with | some _ => .no | none => qop2 C st type op) → aop C ⟨some d, op, type, pos, after, guard⟩ st K := by
    intro h1 h2
    rw [h1]
    rw [h2] at hok hK
    unfold aelse
    cases hn : isNilCmp op with
    | some e => rw [hn] at hok; exact hok.elim
    | none =>
      rw [hn] at hok hK
      simp only
      exact ⟨hok, hN, hf, hK⟩
  cases op with
  | assign x => exact inert_assign hok hN hf hK
  | alloc t => exact hok.elim
  | box t x => exact hok.elim
  | buildSlice t n parts => exact absurd rfl (hnb t n parts)
  | makeSlice t l c => exact hok.elim
  | call c =>
    obtain ⟨callee, args, ts⟩ := c
    cases callee with
    | builtin b => cases b <;> first
        | exact hok.elim
        | exact gen rfl rfl
    | invoke x m => exact hok.elim
    | value f =>
      show acallV C st d (st.rd 0 f) (rdArgs C st args.toList ts.toList) K
      simp only [pop] at hok hK
      split at hok
      · rename_i g fi ca hfv
        rw [hfv] at hK ⊢
        simp only at hK
        refine .inl ⟨r, hok.1, hN, hf, ?_⟩
        cases hs : r.scalar with
        | true => exact hK
        | false =>
          rcases hok.2 with h | ⟨h1, h2, h3⟩
          · rw [hs] at h; cases h
          · simp only [h1, List.isEmpty_nil, settleF]
            exact ⟨h2, by rw [St.fz_no]; exact hf, h3, by rw [St.fz_no]; exact hK⟩
      · exact hok.elim
  | _ => exact gen rfl rfl

/-- The same, where an operation may be guarded. -/
def popg (C : Cx) (ops : Array Oper) (r : AV) (o : Oper) (st : St) : QR :=
  match o.guard with
  | none => pop C r o st
  | some (j, b) => match (ops[j]?).bind (·.dst) with
    | some t => match (st.slots t).gv with
      | some (some c) => if c = b then pop C r o st else ⟨True, .tup []⟩
      | some none => ⟨True, .tup []⟩
      | none => .no
    | none => .no

theorem popg_congr {C : Cx} {ops : Array Oper} {r : AV} {o : Oper} {st st' : St} (h : ∀ t ∈ o.looksAt ops, st.slots t = st'.slots t) (hb : st.boxes = st'.boxes) : popg C ops r o st = popg C ops r o st' := by
  have hp : pop C r o st = pop C r o st' := pop_congr (fun x hx t ht => h t (List.mem_append_left _ (List.mem_filterMap.2 ⟨x, by simpa using hx, by rw [ht]⟩))) hb
  unfold popg
  cases hg : o.guard with
  | none => exact hp
  | some jb =>
    obtain ⟨j, b⟩ := jb
    simp only
    cases hj : (ops[j]?).bind (·.dst) with
    | none => rfl
    | some t =>
      simp only
      have : st.slots t = st'.slots t := h t (List.mem_append_right _ (by simp [hg, hj]))
      rw [this, hp]

def aputs (C : Cx) (ops : Array Oper) (rs : Nat → AV) : Nat → List Oper → St → (St → Prop) → Prop
  | _, [], st, K => K st
  | k, o :: rest, st, K => match o.dst with
    | some d => (popg C ops (rs k) o st).ok ∧ d < C.N ∧ (st.slots d).free = true ∧ aputs C ops rs (k + 1) rest (st.put d (popg C ops (rs k) o st).v) K
    | none => False

def bindsOn (o : Oper) (j : Nat) : Bool := o.after.any fun e => e.on == j && Region.binds .any e

/-- The first m operations only put, each to a slot of its own, and each reads what others put behind them alone; the others come behind all ahead of them. -/
def drawOk (ops : Array Oper) (m : Nat) : Bool :=
  decide (m ≤ ops.size) && Region.noSelect ops && (List.range ops.size).all fun k => match ops[k]? with
    | some o => (o.after.all fun e => !Region.binds .any e || decide (e.on < k)) &&
      if k < m then
        ((List.range m).all fun j => j == k || match ops[j]? with
          | some oj => oj.dst != o.dst
          | none => true) &&
        (o.looksAt ops).all fun t => (List.range m).all fun j => match ops[j]? with
          | some oj => oj.dst != some t || (decide (j < k) && bindsOn o j)
          | none => true
      else (List.range k).all fun j => bindsOn o j
    | none => true

/-- The states of the text's order. -/
def canon (C : Cx) (ops : Array Oper) (rs : Nat → AV) (st : St) : Nat → St
  | 0 => st
  | k + 1 => match ops[k]? with
    | some o => match o.dst with
      | some d => (canon C ops rs st k).put d (popg C ops (rs k) o (canon C ops rs st k)).v
      | none => canon C ops rs st k
    | none => canon C ops rs st k

section
variable {C : Cx} {ops : Array Oper} {rs : Nat → AV} {st : St} {m : Nat}

def dstOf (ops : Array Oper) (k : Nat) : Option Nat := (ops[k]?).bind (·.dst)
def putOf (C : Cx) (ops : Array Oper) (rs : Nat → AV) (st : St) (k : Nat) : AV :=
  match ops[k]? with
  | some o => (popg C ops (rs k) o (canon C ops rs st k)).v
  | none => .any

/-- A state in which certain operations have put their values. -/
structure IsT (C : Cx) (ops : Array Oper) (rs : Nat → AV) (st : St) (m : Nat) (D : Nat → Prop) (s : St) : Prop where
  put : ∀ j t, j < m → D j → dstOf ops j = some t → s.slots t = putOf C ops rs st j
  old : ∀ t, (∀ j, j < m → D j → dstOf ops j ≠ some t) → s.slots t = st.slots t
  boxes : s.boxes = st.boxes

theorem isT_put {D : Nat → Prop} {s : St} (h : IsT C ops rs st m D s) {k d : Nat} (hk : k < m) (hd : dstOf ops k = some d) (hne : ∀ j, j < m → j ≠ k → dstOf ops j ≠ some d) :
    IsT C ops rs st m (fun j => D j ∨ j = k) (s.put d (putOf C ops rs st k)) := by
  refine ⟨fun j t hj hD hjt => ?_, fun t ht => ?_, h.boxes⟩
  · show (if t = d then _ else s.slots t) = _
    by_cases htd : t = d
    · subst htd
      have : j = k := Classical.byContradiction fun hjk => hne j hj hjk hjt
      subst this
      rw [if_pos rfl]
    · rw [if_neg htd]
      rcases hD with hD | rfl
      · exact h.put j t hj hD hjt
      · rw [hjt] at hd; exact absurd (Option.some.inj hd) htd
  · show (if t = d then _ else s.slots t) = _
    have htd : t ≠ d := fun e => ht k hk (.inr rfl) (by rw [e]; exact hd)
    rw [if_neg htd]
    exact h.old t fun j hj hD => ht j hj (.inl hD)

theorem isT_unique {D : Nat → Prop} {s s' : St} (h : IsT C ops rs st m D s) (h' : IsT C ops rs st m D s') : s = s' := by
  refine St.ext' (fun t => ?_) (fun id => by rw [h.boxes, h'.boxes])
  by_cases ht : ∃ j, j < m ∧ D j ∧ dstOf ops j = some t
  · obtain ⟨j, hj, hD, hjt⟩ := ht
    rw [h.put j t hj hD hjt, h'.put j t hj hD hjt]
  · have : ∀ j, j < m → D j → dstOf ops j ≠ some t := fun j hj hD he => ht ⟨j, hj, hD, he⟩
    rw [h.old t this, h'.old t this]

theorem isT_congr {D D' : Nat → Prop} {s : St} (h : IsT C ops rs st m D s) (hD : ∀ j, j < m → (D j ↔ D' j)) : IsT C ops rs st m D' s :=
  ⟨fun j t hj hd => h.put j t hj ((hD j hj).2 hd), fun t ht => h.old t fun j hj hd => ht j hj ((hD j hj).1 hd), h.boxes⟩

theorem canon_isT (hdst : ∀ k, k < m → ∃ o d, ops[k]? = some o ∧ o.dst = some d) (hne : ∀ j k d, j < m → k < m → j ≠ k → dstOf ops k = some d → dstOf ops j ≠ some d) :
    ∀ k, k ≤ m → IsT C ops rs st m (fun j => j < k) (canon C ops rs st k)
  | 0, _ => ⟨fun j t _ h => absurd h (by omega), fun t _ => rfl, rfl⟩
  | k + 1, hk => by
    obtain ⟨o, d, ho, hd⟩ := hdst k (by omega)
    have hdk : dstOf ops k = some d := by simp [dstOf, ho, hd]
    have h := isT_put (canon_isT hdst hne k (by omega)) (k := k) (d := d) (by omega) hdk (fun j hj hjk => hne j k d hj (by omega) hjk hdk)
    have e : canon C ops rs st (k + 1) = (canon C ops rs st k).put d (putOf C ops rs st k) := by simp [canon, putOf, ho, hd]
    rw [e]
    exact isT_congr h fun j hj => by omega
end

section
variable {C : Cx} {S : Start} {ops : Array Oper} {R : Exit → Act → World → Prop}

/-- The value of a guard, in the model. -/
theorem yielded_of {E : Env} (I : Inv C.N S E) {a : Act} (ha : a.tmps = E.tm) {j t : Nat} {c : Bool} (hj : (ops[j]?).bind (·.dst) = some t) (hc : E.st.slots t = .b c) : yielded ops a.tmps j = some c := by
  have hval := I.rel.slots t
  rw [hc] at hval
  have hv : a.tmps.getD t undef = .bool c := by
    rw [ha]
    generalize E.tm.getD t undef = v at hval
    cases hval; rfl
  have ht : t < a.tmps.size := by
    rcases Nat.lt_or_ge t a.tmps.size with h1 | h1
    · exact h1
    · rw [Array.getD_eq_getD_getElem?, Array.getElem?_eq_none h1] at hv
      simp [undef] at hv
  have hg2 : a.tmps[t]? = some (.bool c) := by
    rw [Array.getElem?_eq_getElem ht]
    rw [Array.getD_eq_getD_getElem?, Array.getElem?_eq_getElem ht] at hv
    exact congrArg some hv
  unfold yielded
  simp [hj, hg2]

theorem aops_head {E : Env} (I : Inv C.N S E) (hbase : S.k ≤ C.base) {a : Act} (ha : a.tmps = E.tm) (hd : a.defers = []) {i : Nat} {o : Oper} {rest : List Oper} {K : St → Prop} (ho : ops[i]? = some o) (h : aops C ops (o :: rest) E.st K)
    {next : Act → World → Prop} (hnext : ∀ E' a', Inv C.N S E' → a'.tmps = E'.tm → a'.defers = [] → aops C ops rest E'.st K → next a' E'.w) : wpOp C.P ops R i next a E.w := by
  have run : aop C o E.st (fun st => aops C ops rest st K) → o.wp C.P a E.w next R := fun h =>
    aop_sound I hbase ha o h fun E' a' I' ha' hd' hK => hnext E' a' I' ha' (hd'.trans hd) hK
  unfold wpOp
  simp only [ho]
  simp only [aops] at h
  cases hg : o.guard with
  | none =>
    rw [hg] at h
    have hw : Region.wanted o (yielded ops a.tmps) = true := by simp [Region.wanted, hg]
    rw [if_pos hw]
    exact .inl (run h)
  | some jb =>
    obtain ⟨j, b⟩ := jb
    rw [hg] at h
    simp only at h
    split at h
    · rename_i t d hj hd'
      split at h
      · rename_i c hc
        replace hc := AV.gv_some hc
        have hy := yielded_of I ha hj hc
        have hw : Region.wanted o (yielded ops a.tmps) = (c == b) := by
          simp only [Region.wanted, hg, hy]
          cases c <;> cases b <;> rfl
        rw [hw]
        by_cases hcb : c = b
        · rw [if_pos (by simpa using hcb)]
          rw [if_pos hcb] at h
          exact .inl (run h)
        · rw [if_neg (by simpa using hcb)]
          rw [if_neg hcb] at h
          obtain ⟨h1, h2, h3⟩ := h
          have I' := I.putq d (.tup []) undef h1 (fun π sz xs => free_noOwn π h2) rfl val_undef
          refine hnext { E with st := E.st.put d (.tup []), tm := E.tm.setIfInBounds d undef } _ I' ?_ ?_ h3
          · rw [hd']; show a.tmps.setIfInBounds d undef = _; rw [ha]
          · rw [hd']; exact hd
      · rename_i hc
        replace hc := AV.gv_none hc
        have hy := yielded_off I ha hj hc
        have hw : Region.wanted o (yielded ops a.tmps) = false := by
          simp only [Region.wanted, hg, hy]
          rfl
        rw [hw, if_neg (by decide)]
        obtain ⟨h1, h2, h3⟩ := h
        have I' := I.putq d (.tup []) undef h1 (fun π sz xs => free_noOwn π h2) rfl val_undef
        refine hnext { E with st := E.st.put d (.tup []), tm := E.tm.setIfInBounds d undef } _ I' ?_ ?_ h3
        · rw [hd']; show a.tmps.setIfInBounds d undef = _; rw [ha]
        · rw [hd']; exact hd
      · exact h.elim
    · exact h.elim

theorem Leans.fz_id {SP : Place → Prop} {SB : Nat → Prop} {F : Place → Bool} (hF : ∀ q, SP q → F q = false) {p : Place} {x : AV} (h : Leans SP SB p x) : x.tr (fzLeaf F) p = x := by
  have lst : ∀ (l : List AV) (k : Nat) (p : Place), (∀ (j : Nat) (c : AV), l[j]? = some c → c.tr (fzLeaf F) (p.sub (k + j)) = c) → AV.trL (fzLeaf F) p k l = l := by
    intro l
    induction l with
    | nil => intros; rfl
    | cons x l ih =>
      intro k p h
      rw [AV.trL, show AV.tr (fzLeaf F) (p.sub k) x = x from h 0 x rfl, ih (k + 1) p fun j c hc => by rw [show k + 1 + j = k + (j + 1) by omega]; exact h (j + 1) c (by simpa using hc)]
  have lsn : ∀ (l : List AV), (∀ c ∈ l, c.tr (fzLeaf F) .no = c) → AV.trN (fzLeaf F) l = l := by
    intro l
    induction l with
    | nil => intros; rfl
    | cons x l ih =>
      intro h
      rw [AV.trN, h x (by simp), ih fun c hc => h c (by simp [hc])]
  induction h with
  | pt p g ix cells off hq =>
    rw [AV.tr_leaf rfl]
    cases g <;> first | rfl | skip
    rename_i q ex
    simp [fzLeaf, hF q (hq q ex rfl)]
  | sl p g sz xs hq hp =>
    rw [AV.tr_leaf rfl]
    cases g <;> first | rfl | skip
    · simp [fzLeaf, hF p (hp rfl)]
    · rename_i q ex
      simp [fzLeaf, hF q (hq q ex rfl)]
  | fn p f fi ca _ _ h1 h2 =>
    rw [AV.tr, lsn fi h1, lsn ca h2]
  | agg p cs _ ih =>
    rw [AV.tr, lst cs 0 p fun j c hc => by rw [Nat.zero_add]; exact ih j c hc]
  | tup p cs _ ih =>
    rw [AV.tr, lst cs 0 p fun j c hc => by rw [Nat.zero_add]; exact ih j c hc]
  | _ => rfl

/-- What a slot has been given of its own is given up at once. -/
theorem Inv.putFro {N : Nat} {S : Start} {E E' : Env} (I : Inv N S E) (I' : Inv N S E') {d sz : Nat} {xs : List (List AV)} (hf : (E.st.slots d).free = true) (hst : E'.st = E.st.put d (.sl .own sz xs)) :
    ∃ E2, E2.w = E'.w ∧ E2.tm = E'.tm ∧ Inv N S E2 ∧ E2.st = E.st.put d (.sl .fro sz xs) := by
  refine ⟨E'.fz (isSlotOf d), rfl, rfl, I'.fz (isSlotOf d) fun _ => rfl, ?_⟩
  show E'.st.fz (isSlotOf d) = _
  rw [hst]
  have hq : ∀ q sz xs, E.st.abs q = .sl .own sz xs → isSlotOf d q = false := by
    intro q sz xs h
    cases q with
    | slot t π =>
      simp only [isSlotOf, beq_eq_false_iff_ne, ne_eq]
      rintro rfl
      exact absurd h (free_noOwn π hf)
    | _ => rfl
  refine St.ext' (fun t => ?_) (fun id => ?_)
  · show ((if t = d then _ else E.st.slots t) : AV).tr (fzLeaf (isSlotOf d)) (.slot t []) = if t = d then _ else E.st.slots t
    by_cases htd : t = d
    · rw [if_pos htd, if_pos htd, AV.tr_leaf rfl]
      simp [fzLeaf, isSlotOf, htd]
    · rw [if_neg htd, if_neg htd]
      exact (I.rel.leansSlot (SP := fun q => isSlotOf d q = false) hq rfl t).fz_id fun q h => h
  · show (E.st.boxes id).map (AV.trC (fzLeaf (isSlotOf d)) id 0) = E.st.boxes id
    cases hb : E.st.boxes id with
    | none => rfl
    | some cs =>
      show some _ = some cs
      congr 1
      have key : ∀ (l : List AV) (k : Nat), (∀ (j : Nat) (c : AV), l[j]? = some c → c.tr (fzLeaf (isSlotOf d)) (.cell id (k + j)) = c) → AV.trC (fzLeaf (isSlotOf d)) id k l = l := by
        intro l
        induction l with
        | nil => intros; rfl
        | cons x l ih =>
          intro k h
          rw [AV.trC, show AV.tr (fzLeaf (isSlotOf d)) (.cell id k) x = x from h 0 x rfl, ih (k + 1) fun j c hc => by rw [show k + 1 + j = k + (j + 1) by omega]; exact h (j + 1) c (by simpa using hc)]
      exact key cs 0 fun j c hc => by
        rw [Nat.zero_add]
        exact (I.rel.leansCell (SP := fun q => isSlotOf d q = false) hq rfl hb hc).fz_id fun q h => h

theorem wp_popBuild {E : Env} (I : Inv C.N S E) {a : Act} (ha : a.tmps = E.tm) {o : Oper} {r : AV} {d t len : Nat} {parts : Array (Nat × Operand)} (ho : o.op = .buildSlice t len parts) (hd : o.dst = some d) (hok : (pop C r o E.st).ok) (hN : d < C.N) (hf : (E.st.slots d).free = true)
    {next : Act → World → Prop} (hnext : ∀ E' a', Inv C.N S E' → a'.tmps = E'.tm → a'.defers = a.defers → E'.st = E.st.put d (pop C r o E.st).v → next a' E'.w) : o.wp C.P a E.w next R := by
  have e : pop C r o E.st = qbs C t len (parts.toList.map fun p => (p.1, E.st.rd (elemSz C.T t) p.2)) := by unfold pop; rw [ho]
  rw [e] at hok hnext
  unfold qbs at hok hnext
  generalize hps : (parts.toList.map fun p => (p.1, E.st.rd (elemSz C.T t) p.2)) = ps at hok hnext
  split at hok
  · rename_i e hk
    rw [hk] at hnext
    simp only at hnext
    split at hok
    · rename_i y hy
      rw [hy] at hnext
      simp only at hnext
      split at hok
      · rename_i cs hcs
        rw [hcs] at hnext
        simp only at hnext
        obtain ⟨h1, h2, h3, h4, h5, h6, h7⟩ := hok
        refine wp_buildSlice (K := fun s => s = E.st.put d (.sl .own y.size (chunk y.size len cs))) (sz := elemSz C.T t) I ha ?_ hd ho ?_
        · intro E' a' I' ha' hd' hK
          obtain ⟨E2, g1, g2, g3, g4⟩ := I.putFro I' hf hK
          rw [← g1]
          exact hnext E2 a' g3 (by rw [g2]; exact ha') hd' g4
        · unfold abuildSlice
          rw [hk]
          simp only
          rw [hy]
          simp only
          rw [hps, h1]
          simp only [List.isEmpty_nil, settleF]
          have hn : (fun _ => false : Place → Bool) = noF := rfl
          rw [hcs]
          exact ⟨hN, hf, h2, h3, h4, h5, h6, h7, by rw [St.fz_no]⟩
      · exact hok.elim
    · exact hok.elim
  · exact hok.elim

/-- An operation that only puts. -/
theorem pop_head {E : Env} (I : Inv C.N S E) (hbase : S.k ≤ C.base) {a : Act} (ha : a.tmps = E.tm) (hd : a.defers = []) {i d : Nat} {o : Oper} {r : AV} (ho : ops[i]? = some o) (hdst : o.dst = some d) (hok : (popg C ops r o E.st).ok) (hN : d < C.N)
    (hf : (E.st.slots d).free = true) {next : Act → World → Prop} (hnext : ∀ E' a', Inv C.N S E' → a'.tmps = E'.tm → a'.defers = [] → E'.st = E.st.put d (popg C ops r o E.st).v → next a' E'.w) : wpOp C.P ops R i next a E.w := by
  unfold wpOp
  simp only [ho]
  have run : popg C ops r o E.st = pop C r o E.st → o.wp C.P a E.w next R := fun he => by
    rw [he] at hok hnext
    by_cases hb : ∃ t len parts, o.op = .buildSlice t len parts
    · obtain ⟨t, len, parts, hb⟩ := hb
      exact wp_popBuild I ha hb hdst hok hN hf fun E' a' I' ha' hd' hK => hnext E' a' I' ha' (hd'.trans hd) hK
    · exact aop_sound (K := fun s => s = E.st.put d (pop C r o E.st).v) I hbase ha o (pop_aop (fun t len parts h => hb ⟨t, len, parts, h⟩) hdst hok hN hf rfl) fun E' a' I' ha' hd' hK => hnext E' a' I' ha' (hd'.trans hd) hK
  unfold popg at hok hnext run
  cases hg : o.guard with
  | none =>
    have hw : Region.wanted o (yielded ops a.tmps) = true := by simp [Region.wanted, hg]
    rw [if_pos hw]
    exact .inl (run (by rw [hg]))
  | some jb =>
    obtain ⟨j, b⟩ := jb
    rw [hg] at hok hnext run
    simp only at hok hnext run
    cases hj : (ops[j]?).bind (·.dst) with
    | none => rw [hj] at hok; exact hok.elim
    | some t =>
      rw [hj] at hok hnext run
      simp only at hok hnext run
      split at hok
      · rename_i c hc
        replace hc := AV.gv_some hc
        have hy := yielded_of I ha hj hc
        have hw : Region.wanted o (yielded ops a.tmps) = (c == b) := by
          simp only [Region.wanted, hg, hy]
          cases c <;> cases b <;> rfl
        rw [hw]
        rw [hc] at hnext run
        simp only [AV.gv_b] at hnext run
        by_cases hcb : c = b
        · rw [if_pos (by simpa using hcb)]
          rw [if_pos hcb] at run
          exact .inl (run rfl)
        · rw [if_neg (by simpa using hcb)]
          rw [if_neg hcb] at hnext
          have I' := I.putq d (.tup []) undef hN (fun π sz xs => free_noOwn π hf) rfl val_undef
          refine hnext { E with st := E.st.put d (.tup []), tm := E.tm.setIfInBounds d undef } _ I' ?_ ?_ rfl
          · rw [hdst]; show a.tmps.setIfInBounds d undef = _; rw [ha]
          · rw [hdst]; exact hd
      · rename_i hc
        replace hc := AV.gv_none hc
        have hy := yielded_off I ha hj hc
        have hw : Region.wanted o (yielded ops a.tmps) = false := by
          simp only [Region.wanted, hg, hy]
          rfl
        rw [hc] at hnext
        simp only [AV.gv_off] at hnext
        rw [hw, if_neg (by decide)]
        have I' := I.putq d (.tup []) undef hN (fun π sz xs => free_noOwn π hf) rfl val_undef
        refine hnext { E with st := E.st.put d (.tup []), tm := E.tm.setIfInBounds d undef } _ I' ?_ ?_ rfl
        · rw [hdst]; show a.tmps.setIfInBounds d undef = _; rw [ha]
        · rw [hdst]; exact hd
      · exact hok.elim
end

theorem bindsOn_iff {o : Oper} {j : Nat} : bindsOn o j = true ↔ ∃ e ∈ o.after, e.on = j ∧ Region.binds .any e = true := by
  unfold bindsOn
  rw [Array.any_eq_true']
  constructor
  · rintro ⟨e, he, h⟩
    simp only [Bool.and_eq_true, beq_iff_eq] at h
    exact ⟨e, he, h⟩
  · rintro ⟨e, he, h1, h2⟩
    exact ⟨e, he, by simp [h1, h2]⟩

structure DrawOk (ops : Array Oper) (m : Nat) : Prop where
  le : m ≤ ops.size
  back : ∀ (k : Nat) o, ops[k]? = some o → ∀ e ∈ o.after, Region.binds .any e = true → e.on < k
  dst : ∀ (k j : Nat) o oj, k < m → j < m → j ≠ k → ops[k]? = some o → ops[j]? = some oj → oj.dst ≠ o.dst
  look : ∀ (k j : Nat) o oj t, k < m → j < m → ops[k]? = some o → ops[j]? = some oj → t ∈ o.looksAt ops → oj.dst = some t → j < k ∧ bindsOn o j = true
  tail : ∀ (k : Nat) o, m ≤ k → ops[k]? = some o → ∀ j, j < k → bindsOn o j = true

theorem drawOk_spec {ops : Array Oper} {m : Nat} (h : drawOk ops m = true) : DrawOk ops m := by
  simp only [drawOk, Bool.and_eq_true, decide_eq_true_eq, List.all_eq_true, List.mem_range] at h
  obtain ⟨⟨h1, _⟩, h3⟩ := h
  have get : ∀ (k : Nat) o, ops[k]? = some o → k < ops.size := fun k o ho => (Array.getElem?_eq_some_iff.1 ho).1
  have at' : ∀ (k : Nat) o, ops[k]? = some o → _ := fun k o ho => by
    have := h3 k (get k o ho)
    rw [ho] at this
    exact this
  refine ⟨h1, fun k o ho e he hb => ?_, fun k j o oj hk hj hjk ho hoj => ?_, fun k j o oj t hk hj ho hoj ht hd => ?_, fun k o hk ho j hj => ?_⟩
  · have := at' k o ho
    simp only [Bool.and_eq_true] at this
    have h4 := Array.all_eq_true_iff_forall_mem.1 this.1 e he
    simpa [hb] using h4
  · have := at' k o ho
    simp only [Bool.and_eq_true, hk, if_true, List.all_eq_true, List.mem_range] at this
    have h4 := this.2.1 j hj
    rw [hoj] at h4
    simpa [hjk] using h4
  · have := at' k o ho
    simp only [Bool.and_eq_true, hk, if_true, List.all_eq_true, List.mem_range] at this
    have h4 := this.2.2 t ht j hj
    rw [hoj] at h4
    simpa [hd] using h4
  · have := at' k o ho
    have hk' : ¬ k < m := by omega
    simp only [Bool.and_eq_true, hk', if_false, List.all_eq_true, List.mem_range] at this
    exact this.2 j hj

section
variable {C : Cx} {S : Start} {ops : Array Oper} {R : Exit → Act → World → Prop} {m : Nat}

/-- Behind the first m operations there is but one order. -/
theorem draw_tail (D : DrawOk ops m) (hbase : S.k ≤ C.base) {K : St → Prop} (hR : ∀ E a, Inv C.N S E → a.tmps = E.tm → a.defers = [] → K E.st → R .normal a E.w) :
    ∀ (fuel k : Nat) (listed : Array Bool) (E : Env) (a : Act), k ≤ ops.size → ops.size ≤ k + fuel → m ≤ k → listed.size = ops.size → (∀ j, j < ops.size → listed.getD j true = decide (j < k)) → Inv C.N S E → a.tmps = E.tm → a.defers = [] →
      aops C ops (ops.toList.drop k) E.st K → wpAny C.P .any ops R fuel listed a E.w := by
  intro fuel
  have fin : ∀ (fuel k : Nat) (listed : Array Bool) (E : Env) (a : Act), k = ops.size → (∀ j, j < ops.size → listed.getD j true = decide (j < k)) → Inv C.N S E → a.tmps = E.tm → a.defers = [] → aops C ops (ops.toList.drop k) E.st K → wpAny C.P .any ops R fuel listed a E.w := by
    intro fuel k listed E a hk hl I ha hd h
    subst hk
    refine wpAny_done ?_ ?_ fuel
    · apply List.eq_nil_iff_forall_not_mem.2
      intro j hj
      obtain ⟨h1, o, ho, _⟩ := mem_ready.1 hj
      have hlt := (Array.getElem?_eq_some_iff.1 ho).1
      rw [hl j hlt] at h1
      simp [hlt] at h1
    · rw [List.drop_eq_nil_of_le (by simp)] at h
      exact hR E a I ha hd h
  induction fuel with
  | zero =>
    intro k listed E a hk hk2 hm hs hl I ha hd h
    exact fin 0 k listed E a (by omega) hl I ha hd h
  | succ fuel ih =>
    intro k listed E a hk hk2 hm hs hl I ha hd h
    by_cases hke : k = ops.size
    · exact fin _ k listed E a hke hl I ha hd h
    have hlt : k < ops.size := by omega
    have ho : ops[k]? = some ops[k] := Array.getElem?_eq_getElem hlt
    have hgf : ∀ j, j < ops.size → listed.getD j false = decide (j < k) := fun j hj => by
      have h1 := hl j hj
      have hjs : j < listed.size := by omega
      rw [Array.getD_eq_getD_getElem?, Array.getElem?_eq_getElem hjs] at h1 ⊢
      exact h1
    have hkr : k ∈ Region.ready .any ops listed := by
      refine mem_ready.2 ⟨by rw [hl k hlt]; simp, _, ho, fun e he hb => ?_⟩
      have := D.back k _ ho e he hb
      rw [hgf e.on (by omega)]; simpa using this
    refine ⟨fun h0 => by rw [h0] at hkr; simp at hkr, fun i hi => ?_⟩
    have hik : i = k := by
      obtain ⟨h1, o, hoi, h2⟩ := mem_ready.1 hi
      have hil := (Array.getElem?_eq_some_iff.1 hoi).1
      rw [hl i hil] at h1
      have h1 : ¬ i < k := by simpa using h1
      refine Classical.byContradiction fun hne => ?_
      obtain ⟨e, he, h3, h4⟩ := bindsOn_iff.1 (D.tail i o (by omega) hoi k (by omega))
      have := h2 e he h4
      rw [h3, hgf k hlt] at this
      simp at this
    subst hik
    have hdrop : ops.toList.drop i = ops[i] :: ops.toList.drop (i + 1) := by
      rw [List.drop_eq_getElem_cons (by simpa using hlt)]; simp
    rw [hdrop] at h
    refine aops_head I hbase ha hd ho h fun E' a' I' ha' hd' h' => ?_
    refine ih (i + 1) _ E' a' (by omega) (by omega) (by omega) (by simpa using hs) (fun j hj => ?_) I' ha' hd' h'
    by_cases hji : i = j
    · subst hji
      rw [Array.getD_eq_getD_getElem?, Array.getElem?_setIfInBounds_self_of_lt (by omega)]
      simp
    · rw [getD_set_ne true hji, hl j hj]
      have : (j < i) ↔ (j < i + 1) := by omega
      simp [this]

theorem countP_lt {p p' : Nat → Bool} : ∀ (l : List Nat), (∀ j ∈ l, p' j = true → p j = true) → (∃ i ∈ l, p i = true ∧ p' i = false) → l.countP p' < l.countP p
  | [], _, h => by obtain ⟨i, hi, _⟩ := h; simp at hi
  | x :: l, hle, h => by
    rw [List.countP_cons, List.countP_cons]
    have hle' : l.countP p' ≤ l.countP p := List.countP_mono_left fun j hj h => hle j (by simp [hj]) h
    obtain ⟨i, hi, h1, h2⟩ := h
    rcases List.mem_cons.1 hi with hx | hx
    · subst hx
      simp only [h1, h2, if_true, Bool.false_eq_true, if_false]
      omega
    · have := countP_lt l (fun j hj => hle j (by simp [hj])) ⟨i, hx, h1, h2⟩
      have hx0 := hle x (by simp)
      cases hp' : p' x with
      | true => rw [hx0 hp']; simp only [if_true]; omega
      | false => cases p x <;> simp only [Bool.false_eq_true, if_false, if_true] <;> omega

/-- The first m operations put their values in any order. -/
theorem draw_puts (D : DrawOk ops m) (hbase : S.k ≤ C.base) {rs : Nat → AV} {st : St} {K : St → Prop} (hR : ∀ E a, Inv C.N S E → a.tmps = E.tm → a.defers = [] → K E.st → R .normal a E.w)
    (hcan : ∀ j, j < m → ∃ o d, ops[j]? = some o ∧ o.dst = some d ∧ (popg C ops (rs j) o (canon C ops rs st j)).ok ∧ d < C.N ∧ ((canon C ops rs st j).slots d).free = true) (hfin : aops C ops (ops.toList.drop m) (canon C ops rs st m) K) :
    ∀ (fuel : Nat) (listed : Array Bool) (E : Env) (a : Act), (List.range m).countP (fun j => !listed.getD j true) + (ops.size - m) ≤ fuel → listed.size = ops.size → (∀ j, m ≤ j → j < ops.size → listed.getD j true = false) →
      IsT C ops rs st m (fun j => listed.getD j true = true) E.st → Inv C.N S E → a.tmps = E.tm → a.defers = [] → wpAny C.P .any ops R fuel listed a E.w := by
  have hdst : ∀ k, k < m → ∃ o d, ops[k]? = some o ∧ o.dst = some d := fun k hk => by
    obtain ⟨o, d, h1, h2, _⟩ := hcan k hk; exact ⟨o, d, h1, h2⟩
  have hne : ∀ j k d, j < m → k < m → j ≠ k → dstOf ops k = some d → dstOf ops j ≠ some d := by
    intro j k d hj hk hjk hd he
    obtain ⟨oj, dj, h1, h2⟩ := hdst j hj
    obtain ⟨ok, dk, h3, h4⟩ := hdst k hk
    refine D.dst k j ok oj hk hj hjk h3 h1 ?_
    simp only [dstOf, h1, h3, Option.bind_some] at hd he
    rw [hd, he]
  have hisT := fun k hk => canon_isT (C := C) (rs := rs) (st := st) hdst hne k hk
  have hle := D.le
  intro fuel
  induction fuel with
  | zero =>
    intro listed E a hf hs htail hT I ha hd
    have hall : ∀ j, j < m → listed.getD j true = true := fun j hj => by
      have h0 : (List.range m).countP (fun j => !listed.getD j true) = 0 := by omega
      rw [List.countP_eq_zero] at h0
      simpa using h0 j (List.mem_range.2 hj)
    have hst : E.st = canon C ops rs st m := isT_unique (isT_congr hT (D' := fun j => j < m) fun j hj => ⟨fun _ => hj, fun _ => hall j hj⟩) (hisT m (Nat.le_refl m))
    refine draw_tail D hbase hR 0 m listed E a hle (by omega) (Nat.le_refl m) hs (fun j hj => ?_) I ha hd (by rw [hst]; exact hfin)
    by_cases hjm : j < m
    · rw [hall j hjm]; simp [hjm]
    · rw [htail j (by omega) hj]; simp [hjm]
  | succ fuel ih =>
    intro listed E a hf hs htail hT I ha hd
    by_cases hall : ∀ j, j < m → listed.getD j true = true
    · have hst : E.st = canon C ops rs st m := isT_unique (isT_congr hT (D' := fun j => j < m) fun j hj => ⟨fun _ => hj, fun _ => hall j hj⟩) (hisT m (Nat.le_refl m))
      refine draw_tail D hbase hR (fuel + 1) m listed E a hle (by omega) (Nat.le_refl m) hs (fun j hj => ?_) I ha hd (by rw [hst]; exact hfin)
      by_cases hjm : j < m
      · rw [hall j hjm]; simp [hjm]
      · rw [htail j (by omega) hj]; simp [hjm]
    · have hgf : ∀ j, j < ops.size → listed.getD j false = listed.getD j true := fun j hj => by
        have hjs : j < listed.size := by omega
        rw [Array.getD_eq_getD_getElem?, Array.getD_eq_getD_getElem?, Array.getElem?_eq_getElem hjs]; rfl
      have hex : ∃ j, j < m ∧ listed.getD j true = false := by
        refine Classical.byContradiction fun hn => hall fun j hj => ?_
        cases hb : listed.getD j true with
        | true => rfl
        | false => exact absurd ⟨j, hj, hb⟩ hn
      refine ⟨fun h0 => ?_, fun i hi => ?_⟩
      · exfalso
        have least : ∃ j, (j < m ∧ listed.getD j true = false) ∧ ∀ i, i < j → listed.getD i true = true := by
          obtain ⟨j, hj⟩ := hex
          induction j using Nat.strongRecOn with
          | _ j ihj =>
            by_cases hall2 : ∀ i, i < j → listed.getD i true = true
            · exact ⟨j, hj, hall2⟩
            · have : ∃ i, i < j ∧ listed.getD i true = false := by
                refine Classical.byContradiction fun hn => hall2 fun i hi => ?_
                cases hb : listed.getD i true with
                | true => rfl
                | false => exact absurd ⟨i, hi, hb⟩ hn
              obtain ⟨i, hi, hb⟩ := this
              exact ihj i hi ⟨by omega, hb⟩
        obtain ⟨j, ⟨hj1, hj2⟩, hj3⟩ := least
        obtain ⟨o, d, ho, _⟩ := hdst j hj1
        have hr : j ∈ Region.ready .any ops listed := by
          refine mem_ready.2 ⟨hj2, o, ho, fun e he hb => ?_⟩
          have h1 := D.back j o ho e he hb
          rw [hgf e.on (by omega)]; exact hj3 _ h1
        rw [h0] at hr; simp at hr
      · obtain ⟨h1, o, ho, h2⟩ := mem_ready.1 hi
        have hil := (Array.getElem?_eq_some_iff.1 ho).1
        have him : i < m := by
          refine Classical.byContradiction fun hn => ?_
          obtain ⟨j, hj1, hj2⟩ := hex
          obtain ⟨e, he, h3, h4⟩ := bindsOn_iff.1 (D.tail i o (by omega) ho j (by omega))
          have := h2 e he h4
          rw [h3, hgf j (by omega), hj2] at this; cases this
        obtain ⟨o', d, ho', hod, hok, hdN, hfree⟩ := hcan i him
        rw [ho] at ho'; cases ho'
        have hdi : dstOf ops i = some d := by simp [dstOf, ho, hod]
        have hTi := hisT i (by omega)
        have hslot : ∀ t ∈ o.looksAt ops, E.st.slots t = (canon C ops rs st i).slots t := by
          intro t ht
          by_cases hj : ∃ j, j < m ∧ dstOf ops j = some t
          · obtain ⟨j, hj, hjt⟩ := hj
            obtain ⟨oj, hoj, hdj⟩ := Option.bind_eq_some_iff.1 hjt
            obtain ⟨hji, hb⟩ := D.look i j o oj t him hj ho hoj ht hdj
            obtain ⟨e, he, h3, h4⟩ := bindsOn_iff.1 hb
            have hlj := h2 e he h4
            rw [h3, hgf j (by omega)] at hlj
            rw [hT.put j t hj hlj hjt, hTi.put j t hj hji hjt]
          · have hn : ∀ j, j < m → dstOf ops j ≠ some t := fun j hj' he => hj ⟨j, hj', he⟩
            rw [hT.old t fun j hj _ => hn j hj, hTi.old t fun j hj _ => hn j hj]
        have hpeq : popg C ops (rs i) o E.st = popg C ops (rs i) o (canon C ops rs st i) := popg_congr hslot (hT.boxes.trans hTi.boxes.symm)
        have hd1 : ∀ j, j < m → j ≠ i → dstOf ops j ≠ some d := fun j hj hji => hne j i d hj him hji hdi
        have hdE : E.st.slots d = (canon C ops rs st i).slots d := by
          rw [hT.old d (fun j hj hl => hd1 j hj fun e => by subst e; rw [h1] at hl; cases hl), hTi.old d (fun j hj hl => hd1 j hj (by omega))]
        have hput : putOf C ops rs st i = (popg C ops (rs i) o (canon C ops rs st i)).v := by simp [putOf, ho]
        refine pop_head I hbase ha hd ho hod (by rw [hpeq]; exact hok) hdN (by rw [hdE]; exact hfree) fun E' a' I' ha' hd' hst' => ?_
        have hset : ∀ j, j ≠ i → (listed.setIfInBounds i true).getD j true = listed.getD j true := fun j hj => getD_set_ne true (Ne.symm hj)
        have hseti : (listed.setIfInBounds i true).getD i true = true := by
          rw [Array.getD_eq_getD_getElem?, Array.getElem?_setIfInBounds_self_of_lt (by omega)]; rfl
        refine ih _ E' a' ?_ (by simpa using hs) (fun j hj hjl => by rw [hset j (by omega)]; exact htail j hj hjl) ?_ I' ha' hd'
        · have := countP_lt (p := fun j => !listed.getD j true) (p' := fun j => !(listed.setIfInBounds i true).getD j true) (List.range m) (fun j _ h => by
            by_cases hji : j = i
            · subst hji; rw [hseti] at h; cases h
            · rw [hset j hji] at h; exact h) ⟨i, List.mem_range.2 him, by rw [h1]; rfl, by rw [hseti]; rfl⟩
          omega
        · rw [hst', hpeq, ← hput]
          refine isT_congr (isT_put hT him hdi fun j hj hji => hd1 j hj hji) fun j hj => ?_
          by_cases hji : j = i
          · subst hji; simp [hseti]
          · rw [hset j hji]; simp [hji]
end

theorem aputs_get {C : Cx} {ops : Array Oper} {rs : Nat → AV} {st : St} {m : Nat} {K : St → Prop} (hm : m ≤ ops.size) : ∀ (l : List Oper) (k : Nat), k ≤ m → l = (ops.toList.take m).drop k → aputs C ops rs k l (canon C ops rs st k) K →
    (∀ j, k ≤ j → j < m → ∃ o d, ops[j]? = some o ∧ o.dst = some d ∧ (popg C ops (rs j) o (canon C ops rs st j)).ok ∧ d < C.N ∧ ((canon C ops rs st j).slots d).free = true) ∧ K (canon C ops rs st m)
  | [], k, hk, hl, h => by
    have : m ≤ k := by
      have := congrArg List.length hl
      simp at this; omega
    have hkm : k = m := by omega
    subst hkm
    exact ⟨fun j h1 h2 => absurd h1 (by omega), h⟩
  | o :: rest, k, hk, hl, h => by
    have hlt : k < m := by
      have := congrArg List.length hl
      simp at this; omega
    have ho : ops[k]? = some o := by
      have := congrArg (·[0]?) hl
      simp only [List.getElem?_cons_zero, List.getElem?_drop, Nat.add_zero, List.getElem?_take, hlt, if_true] at this
      rw [← Array.getElem?_toList]; exact this.symm
    have hrest : rest = (ops.toList.take m).drop (k + 1) := by
      have := congrArg List.tail hl
      simpa [List.tail_drop] using this
    rw [aputs] at h
    split at h
    · rename_i d hd
      obtain ⟨h1, h2, h3, h4⟩ := h
      have e : canon C ops rs st (k + 1) = (canon C ops rs st k).put d (popg C ops (rs k) o (canon C ops rs st k)).v := by simp [canon, ho, hd]
      rw [← e] at h4
      obtain ⟨g1, g2⟩ := aputs_get hm rest (k + 1) (by omega) hrest h4
      refine ⟨fun j hj1 hj2 => ?_, g2⟩
      by_cases hjk : j = k
      · subst hjk; exact ⟨o, d, ho, hd, h1, h2, h3⟩
      · exact g1 j (by omega) hj2
    · exact h.elim

theorem Inv.drawn {N : Nat} {S : Start} {E : Env} (I : Inv N S E) (n : Nat) (hn : E.w.drawn ≤ n) : Inv N S { E with w := { E.w with drawn := n } } := by
  have hst : Stays (fun _ => True) (fun _ => True) E { E with w := { E.w with drawn := n } } := ⟨fun bk h => ⟨h, rfl⟩, fun bk q _ h => ⟨h, rfl⟩, fun _ _ => rfl, fun q u sz xs _ _ h => by cases q <;> exact h, fun q sz xs _ h => h⟩
  have hle : ∀ p x v, Val E p x v → Val { E with w := { E.w with drawn := n } } p x v := fun p x v hv => hv.mono hst (hv.leans (fun _ _ _ _ => trivial) trivial fun _ _ _ _ => trivial)
  refine ⟨⟨I.rel.size, fun t => hle _ _ _ (I.rel.slots t), fun id cs h => ?_, I.rel.pub, I.rel.own, I.rel.abs⟩, ⟨⟨I.fr.os.1, Nat.le_trans I.fr.os.2 hn⟩, I.fr.tape, I.fr.output, I.fr.size, I.fr.block, I.fr.own, I.fr.pub0, I.fr.pub1, I.fr.beta⟩⟩
  obtain ⟨g1, arr, T, g2, g3, g4⟩ := I.rel.boxes id cs h
  exact ⟨g1, arr, T, g2, g3, fun j c hj => hle _ _ _ (g4 j c hj)⟩

section
variable {C : Cx} {Q : Exit → St → Prop} {st : St}

/-- A region that draws its order. -/
theorem AWp.draw (m : Nat) (rs : Nat → AV) {id : Nat} {ops : Array Oper} (hmix : C.P.follows .mixedOrders = true) (hok : drawOk ops m = true) (h : aputs C ops rs 0 (ops.toList.take m) st fun s => aops C ops (ops.toList.drop m) s (Q .normal)) : AWp C (.region id ops true) st Q := by
  intro S E a hb I ha hd he
  have D := drawOk_spec hok
  obtain ⟨hcan, hfin⟩ := aputs_get D.le _ 0 (by omega) (by simp) h
  refine wp_region_any hmix ?_
  have hf : ∀ j, j < ops.size → (Array.replicate ops.size false).getD j true = false := fun j hj => by simp [hj]
  refine draw_puts (E := { E with w := { E.w with drawn := E.w.drawn + 1 } }) (st := st) D hb (K := Q .normal) (R := APost C S Q) (fun E a I ha hd h => ⟨E, rfl, I, ha, hd, h⟩) (fun j hj => hcan j (by omega) hj) hfin ops.size (Array.replicate ops.size false) a ?_ (by simp) (fun j _ hj => hf j hj) ?_ (I.drawn _ (Nat.le_succ _)) ha hd
  · have h1 : (List.range m).countP (fun j => !(Array.replicate ops.size false).getD j true) ≤ (List.range m).length := List.countP_le_length
    rw [List.length_range] at h1
    have := D.le
    omega
  · refine ⟨fun j t hj hD _ => ?_, fun t _ => by rw [← he], by rw [← he]⟩
    rw [hf j (Nat.lt_of_lt_of_le hj D.le)] at hD; cases hD

theorem AWp.goD (m : Nat) (rs : Nat → AV) (ks kb : List Nat) {id : Nat} {ops : Array Oper} {y : Code} (hmix : C.P.follows .mixedOrders = true) (hok : drawOk ops m = true)
    (h : ∀ K : St → Prop, (∀ l bx, AWp C y (St.of l bx) Q → K (St.of l bx)) → aputs C ops rs 0 (ops.toList.take m) st fun s => aops C ops (ops.toList.drop m) s fun s => K (St.of (seeS ks kb s ks) (seeB ks kb s kb))) : AWp C (.seq (.region id ops true) y) st Q := by
  refine AWp.seq (AWp.post (fun _ => (ks, kb)) ((AWp.draw (Q := fun e s => thenQ (fun s => AWp C y (s.clean ks kb) Q) (fun _ _ => False) e s) m rs hmix hok ?_).mono ?_))
  · have := h (fun s => AWp C y s Q) fun _ _ h => h
    simp only [← St.clean_eq] at this
    exact this
  · intro e s hs
    cases e with
    | normal => exact hs
    | _ => exact hs.elim

theorem AWp.stepD (m : Nat) (rs : Nat → AV) (ks kb : List Nat) (l : List (Nat × AV)) (bx : Boxes) {id : Nat} {ops : Array Oper} {y : Code} (hmix : C.P.follows .mixedOrders = true) (hok : drawOk ops m = true)
    (h : aputs C ops rs 0 (ops.toList.take m) st fun s => aops C ops (ops.toList.drop m) s fun s => s.sees ks kb l bx) (h2 : AWp C y (St.of l bx) Q) : AWp C (.seq (.region id ops true) y) st Q := by
  refine AWp.seq (AWp.postFit (AWp.post (fun _ => (ks, kb)) ((AWp.draw (Q := fun e s => thenQ (fun s => s.sees ks kb l bx) (fun _ _ => False) e s) m rs hmix hok h).mono ?_)))
  intro e s hs
  cases e with
  | normal => exact ⟨_, St.sees_fits hs, h2⟩
  | _ => exact hs.elim
end
end Go.AM
namespace Go.AM

attribute [simp] pop popg AV.inert qbs
@[simp] theorem aputs_nil {C : Cx} {ops : Array Oper} {rs : Nat → AV} {k : Nat} {st : St} {K : St → Prop} : aputs C ops rs k [] st K = K st := rfl
@[simp] theorem aputs_cons {C : Cx} {ops : Array Oper} {rs : Nat → AV} {k d : Nat} {op type pos after guard} {rest : List Oper} {st : St} {K : St → Prop} : aputs C ops rs k (⟨some d, op, type, pos, after, guard⟩ :: rest) st K =
    ((popg C ops (rs k) ⟨some d, op, type, pos, after, guard⟩ st).ok ∧ d < C.N ∧ (st.slots d).free = true ∧ aputs C ops rs (k + 1) rest (st.put d (popg C ops (rs k) ⟨some d, op, type, pos, after, guard⟩ st).v) K) := rfl
@[congr] theorem aputs_congr {C : Cx} {ops : Array Oper} {rs : Nat → AV} {k k' : Nat} {l l' : List Oper} {st st' : St} {K : St → Prop} (h0 : k = k') (h1 : l = l') (h2 : st = st') : aputs C ops rs k l st K = aputs C ops rs k' l' st' K := by
  subst_vars; rfl
@[simp] theorem int_beq (a b : Int) : (a == b) = decide (a = b) := by cases h : decide (a = b) <;> simp_all
@[simp] theorem int_bne (a b : Int) : (a != b) = !decide (a = b) := by simp [bne]
end Go.AM
namespace Go.AM
open Go.Proofs
abbrev cx (P : Program) (N : Nat) (kept res : List Nat) : Cx := ⟨P, N, kept, [], res, 0⟩
abbrev cxb (P : Program) (N k : Nat) (kept keptB res : List Nat) : Cx := ⟨P, N, kept, keptB, res, k⟩
theorem mix : Tryz.prog.follows .mixedOrders = true := by kernel_rfl

def bytesAV (l : List Int) : List (List AV) := l.map fun n => [.i .u8 n]
@[simp] theorem bytesAV_length (l : List Int) : (bytesAV l).length = l.length := by simp [bytesAV]
@[simp] theorem bytesAV_getElem (l : List Int) (i : Nat) (h : i < (bytesAV l).length) : (bytesAV l)[i] = [.i .u8 (l[i]'(by simpa using h))] := by simp [bytesAV]
theorem wrap64 {x : Int} (h1 : -9223372036854775808 ≤ x) (h2 : x < 9223372036854775808) : IntKind.i64.wrap x = x := by
  unfold IntKind.wrap
  simp [IntKind.bits, IntKind.signed]
  omega

end Go.AM
namespace Go.AM

/-- What a computation hands back does not hang on the world. -/
def Ind {α : Type} (P : Program) (s : Sem α) : Prop := (∃ x, ∀ w, s.run P w = .ok x w) ∨ (∀ w x w', s.run P w ≠ .ok x w')

section
variable {P : Program}

theorem Ind.pure {α : Type} (x : α) : Ind P (Pure.pure x : Sem α) := .inl ⟨x, fun _ => rfl⟩
theorem Ind.halt {α : Type} (h : Halt) : Ind P (.halt h : Sem α) := .inr fun w x w' e => by cases e
theorem Ind.stuck {α : Type} (h : String) : Ind P (Go.stuck h : Sem α) := Ind.halt _
theorem Ind.unsupported {α : Type} (h : Unsupported) : Ind P (Go.unsupported h : Sem α) := Ind.halt _
theorem Ind.program : Ind P Go.program := .inl ⟨P, fun _ => rfl⟩
theorem Ind.bind {α β : Type} {s : Sem α} {f : α → Sem β} (h1 : Ind P s) (h2 : ∀ x, Ind P (f x)) : Ind P (s >>= f) := by
  rcases h1 with ⟨x, hx⟩ | h1
  · rcases h2 x with ⟨y, hy⟩ | h2
    · exact .inl ⟨y, fun w => by simp [hx, hy]⟩
    · exact .inr fun w y w' => by simp [hx, h2]
  · refine .inr fun w y w' => ?_
    rw [Sem.run_bind]
    generalize hr : s.run P w = r
    cases r with
    | ok x w1 => exact absurd hr (h1 w x w1)
    | halt _ _ => simp [Result.andThen]
theorem Ind.underlying (t : TypeId) : Ind P (Go.underlying t) := by
  unfold Go.underlying
  refine Ind.program.bind fun p => ?_
  split
  · exact .pure _
  · exact .stuck _
theorem Ind.goPanic {α : Type} (v : Value) : Ind P (Go.goPanic v : Sem α) := Ind.halt _
theorem nok_bind {α β : Type} {s : Sem α} {f : α → Sem β} (h : ∀ x w y w', (f x).run P w ≠ .ok y w') : ∀ w y w', (s >>= f).run P w ≠ .ok y w' := by
  intro w y w'
  rw [Sem.run_bind]
  cases hr : s.run P w with
  | ok x w1 => simpa [Result.andThen] using h x w1 y w'
  | halt _ _ => simp [Result.andThen]
theorem nok_panic {α : Type} (v : Value) : ∀ w y w', (Go.goPanic v : Sem α).run P w ≠ .ok y w' := fun _ _ _ e => by cases e
theorem nok_rt {α : Type} (e : RuntimeError) : ∀ w y w', (Go.runtimePanic e : Sem α).run P w ≠ .ok y w' := by
  unfold Go.runtimePanic
  refine nok_bind fun p => ?_
  dsimp only
  split <;> first | exact nok_panic _ | exact nok_bind fun _ => nok_bind fun _ => nok_panic _ | exact nok_bind fun _ => nok_panic _
theorem Ind.runtimePanic {α : Type} (e : RuntimeError) : Ind P (Go.runtimePanic e : Sem α) := .inr (nok_rt e)
theorem Ind.asBool (v : Value) : Ind P (Go.asBool v) := by
  unfold Go.asBool
  split <;> first | exact .pure _ | exact .stuck _
theorem Ind.asAgg (v : Value) : Ind P (Go.asAgg v) := by
  unfold Go.asAgg
  split <;> first | exact .pure _ | exact .stuck _
theorem Ind.sizeOf (t : TypeId) : Ind P (Go.sizeOf t) := by
  unfold Go.sizeOf
  refine Ind.bind ?_ fun _ => .pure _
  unfold Go.typeInfo
  refine Ind.program.bind fun p => ?_
  split
  · exact .pure _
  · exact .stuck _
theorem Ind.isAgg (t : TypeId) : Ind P (Go.isAgg t) := by
  unfold Go.isAgg
  refine (Ind.underlying t).bind fun p => ?_
  repeat (first | exact .pure _ | exact .stuck _ | exact .unsupported _ | split)
theorem Ind.part (t : TypeId) (arr : Array Value) (off : Nat) : Ind P (Go.part t arr off) := by
  unfold Go.part
  repeat (first | exact .pure _ | exact .stuck _ | exact .unsupported _ | refine (Ind.isAgg _).bind fun _ => ?_ | refine (Ind.sizeOf _).bind fun _ => ?_ | split)
theorem Ind.field (t : TypeId) (x : Value) (f : Nat) : Ind P (Instr.field t x f) := by
  unfold Instr.field
  refine (Ind.underlying t).bind fun d => ?_
  split
  · split
    · exact (Ind.asAgg x).bind fun _ => .part _ _ _
    · exact .stuck _
  · exact .stuck _
theorem Ind.extract (x : Value) (k : Nat) : Ind P (Instr.extract x k) := by
  unfold Instr.extract
  repeat (first | exact .pure _ | exact .stuck _ | split)
theorem Ind.asIntOf (v : Value) : Ind P (Go.asIntOf v) := by
  unfold Go.asIntOf
  split <;> first | exact .pure _ | exact .stuck _ | exact .unsupported _
theorem Ind.boundsPanic {α : Type} (k : IntKind) (i : Int) (n : Nat) (c : BoundsCode) : Ind P (Go.boundsPanic k i n c : Sem α) := by
  refine .inr ?_
  unfold Go.boundsPanic
  dsimp only
  split
  · exact nok_bind fun _ => nok_rt _
  · exact nok_bind fun _ => nok_rt _
theorem Ind.sliceBound (x : Value) (y : Nat) (c : BoundsCode) : Ind P (Instr.sliceBound x y c) := by
  unfold Instr.sliceBound
  refine (Ind.asIntOf _).bind fun p => ?_
  split
  split
  · exact .pure _
  · exact .boundsPanic _ _ _ _
theorem Ind.sliceBounds (b : Bool) (len cap : Nat) (lo hi mx : Option Value) : Ind P (Instr.sliceBounds b len cap lo hi mx) := by
  unfold Instr.sliceBounds
  cases mx <;> cases hi <;> cases lo <;> dsimp only <;>
    repeat (first | exact .pure _ | exact .stuck _ | refine (Ind.sliceBound _ _ _).bind fun _ => ?_ | refine (Ind.pure _).bind fun _ => ?_ | refine (Ind.stuck _).bind fun _ => ?_)
theorem Ind.intOp (op : BinOp) (k : IntKind) (a b : Int) : Ind P (Op.intArith op k a b) ∧ Ind P (Op.intDiv op k a b) ∧ Ind P (Op.intBits op k a b) ∧ Ind P (Op.intCmp op a b) := by
  refine ⟨?_, ?_, ?_, ?_⟩
  · unfold Op.intArith; split <;> first | exact .pure _ | exact .stuck _
  · unfold Op.intDiv; split
    · exact .runtimePanic _
    · split <;> first | exact .pure _ | exact .stuck _
  · unfold Op.intBits; dsimp only; split <;> first | exact .pure _ | exact .stuck _
  · unfold Op.intCmp; split <;> first | exact .pure _ | exact .stuck _
theorem Ind.shift (op : BinOp) (k k' : IntKind) (a b : Int) : Ind P (Op.shift op k a k' b) := by
  unfold Op.shift; split
  · exact .runtimePanic _
  · dsimp only; split <;> first | exact .pure _ | exact .stuck _
theorem Ind.stringOp (op : BinOp) (a b : ByteArray) : Ind P (Op.stringOp op a b) := by
  unfold Op.stringOp; dsimp only; split <;> (try split) <;> first | exact .pure _ | exact .stuck _ | exact .unsupported _
theorem Ind.binInt (op : BinOp) (t : TypeId) (k k' : IntKind) (a b : Int) : Ind P (Go.binOp op t (.int k a) (.int k' b)) := by
  have h := Ind.intOp (P := P) op k a b
  unfold Go.binOp
  cases op <;> simp only <;> (try split) <;> first | exact .stuck _ | exact .shift _ _ _ _ _ | exact h.1 | exact h.2.1 | exact h.2.2.1 | exact h.2.2.2
theorem Ind.binStr (op : BinOp) (t : TypeId) (a b : ByteArray) : Ind P (Go.binOp op t (.string a) (.string b)) := by
  unfold Go.binOp
  cases op <;> simp only <;> exact .stringOp _ _ _
theorem Ind.unary (op : UnOp) (x : Value) : Ind P (Op.unary op x) := by
  unfold Op.unary
  split <;> first | exact .pure _ | exact .stuck _ | exact .unsupported _ | exact (Ind.intOp _ _ _ _).1 | exact (Ind.intOp _ _ _ _).2.2.1
theorem Ind.slice (t : TypeId) (x : Value) (lo hi mx : Option Value) (hx : (∃ a n c, x = .slice a n c) ∨ ∃ s, x = .string s) : Ind P (Instr.sliceAt t x lo hi mx) := by
  unfold Instr.sliceAt
  refine (Ind.underlying t).bind fun d => ?_
  split
  · rcases hx with ⟨a, n, c, rfl⟩ | ⟨s, rfl⟩ <;> exact .inr (by
      intro w y w'
      rw [Sem.run_bind]
      simp [Instr.sureAddr, Go.stuck, Result.andThen])
  · unfold Instr.slice
    refine (Ind.underlying t).bind fun d => ?_
    split
    · dsimp only
      split
      · exact Ind.bind (.stuck _) fun _ => (Ind.sliceBounds _ _ _ _ _ _).bind fun _ => .pure _
      · exact (Ind.sliceBounds _ _ _ _ _ _).bind fun _ => .pure _
    · exact (Ind.sliceBounds _ _ _ _ _ _).bind fun _ => (Ind.sizeOf _).bind fun _ => .pure _
    · refine .inr fun w y w' => ?_
      rcases hx with ⟨a, n, c, rfl⟩ | ⟨s, rfl⟩ <;> simp [Go.asAddr, Go.stuck, Sem.run, Result.andThen]
    · exact .stuck _
end

/-- An operation whose value hangs on its operands alone. -/
def indAt (C : Cx) (o : Oper) (st : St) : Prop :=
  match o.op with
  | .move _ | .assign _ | .pick _ _ _ | .field _ _ _ | .extract _ _ | .unOp _ _ _ | .makeFunc _ _ _ => True
  | .nilCheck x => match st.rd 0 x with
    | .ptr _ _ | .pt _ _ _ _ => True
    | _ => False
  | .binOp _ _ x y _ => match st.rd 0 x, st.rd 0 y with
    | .i _ _, .i _ _ => True
    | .s _, .s _ => True
    | _, _ => False
  | .slice _ x _ _ _ => match st.rd 0 x with
    | .sl _ _ _ | .bs _ _ _ _ | .s _ => True
    | _ => False
  | .fieldAddr s _ f => match fieldOf C.T s f with
    | some (_, n, _) => n ≠ 0
    | none => False
  | _ => False

theorem Ind.v {P : Program} {s : Sem Value} (h : Ind P s) : Ind P (do Pure.pure (Go.Next.value (← s)) : Sem Go.Next) ∧ ∀ w x w', (do Pure.pure (Go.Next.value (← s)) : Sem Go.Next).run P w = .ok x w' → ∃ v, x = .value v := by
  refine ⟨h.bind fun _ => .pure _, fun w x w' he => ?_⟩
  rw [Sem.run_bind] at he
  cases hr : s.run P w with
  | ok y w1 =>
    rw [hr] at he
    simp only [Result.andThen] at he
    cases he
    exact ⟨y, rfl⟩
  | halt _ _ => rw [hr] at he; simp [Result.andThen] at he

theorem indAt_spec {C : Cx} {S : Start} {E : Env} (I : Inv C.N S E) {a : Act} (ha : a.tmps = E.tm) {o : Oper} (h : indAt C o E.st) :
    Ind C.P (execOp a.eval o) ∧ ∀ w x w', (execOp a.eval o).run C.P w = .ok x w' → ∃ v, x = .value v := by
  have pu : ∀ v : Value, Ind C.P (Pure.pure (Go.Next.value v) : Sem Go.Next) ∧ ∀ w x w', (Pure.pure (Go.Next.value v) : Sem Go.Next).run C.P w = .ok x w' → ∃ v, x = .value v :=
    fun v => ⟨.pure _, fun w x w' he => by cases he; exact ⟨v, rfl⟩⟩
  have rd := fun x => I.rel.rd ha 0 x .no
  obtain ⟨dst, op, type, pos, after, guard⟩ := o
  unfold indAt at h
  cases op <;> simp only at h <;> try exact h.elim
  case move x => exact pu _
  case assign x => exact pu _
  case pick c x y =>
    refine ⟨(Ind.asBool _).bind fun _ => .pure _, fun w z w' he => ?_⟩
    simp only [execOp, Sem.run_bind] at he
    cases hr : (Go.asBool (a.eval c)).run C.P w with
    | ok y w1 =>
      rw [hr] at he
      simp only [Result.andThen] at he
      cases he
      exact ⟨_, rfl⟩
    | halt _ _ => rw [hr] at he; simp [Result.andThen] at he
  case unOp op t x => exact Ind.v (.unary _ _)
  case field t x f => exact Ind.v (.field _ _ _)
  case extract x k => exact Ind.v (.extract _ _)
  case makeFunc fn fi ca => exact Ind.v (.pure _)
  case nilCheck x =>
    have hx := rd x
    unfold execOp
    simp only
    generalize a.eval x = v at hx
    split at h
    · rename_i hx0; rw [hx0] at hx
      cases hx; exact pu _
    · rename_i hx0; rw [hx0] at hx
      cases hx; exact pu _
    · exact h.elim
  case binOp op t x y pos =>
    have hx := rd x
    have hy := rd y
    unfold execOp
    split at h
    · rename_i k n k' n' hx0 hy0
      rw [hx0] at hx; rw [hy0] at hy
      simp only
      rw [val_int rfl hx, val_int rfl hy]
      refine Ind.v (Ind.bind ?_ fun _ => .binInt _ _ _ _ _ _)
      unfold eqGuard
      dsimp only
      repeat (first | exact .pure _ | split)
    · rename_i b b' hx0 hy0
      rw [hx0] at hx; rw [hy0] at hy
      simp only
      rw [val_str rfl hx, val_str rfl hy]
      refine Ind.v (Ind.bind ?_ fun _ => .binStr _ _ _ _)
      unfold eqGuard
      dsimp only
      repeat (first | exact .pure _ | split)
    · exact h.elim
  case slice t x lo hi mx =>
    have hx := rd x
    unfold execOp
    simp only
    split at h
    · rename_i hx0; rw [hx0] at hx
      generalize a.eval x = v at hx
      refine Ind.v (.slice _ _ _ _ _ (.inl ?_))
      cases hx <;> exact ⟨_, _, _, rfl⟩
    · rename_i hx0; rw [hx0] at hx
      generalize a.eval x = v at hx
      refine Ind.v (.slice _ _ _ _ _ (.inl ?_))
      cases hx; exact ⟨_, _, _, rfl⟩
    · rename_i hx0; rw [hx0] at hx
      generalize a.eval x = v at hx
      refine Ind.v (.slice _ _ _ _ _ (.inr ?_))
      cases hx; exact ⟨_, rfl⟩
    · exact h.elim
  case fieldAddr s x f =>
    unfold execOp
    simp only
    split at h
    · rename_i o n g hf
      obtain ⟨z, oz, fl, fd, y, oy, h1, h2, rfl, rfl, rfl⟩ := fieldOf_ok hf
      refine Ind.v ?_
      by_cases hv : ∃ ad, a.eval x = .pointer (some ad)
      · obtain ⟨ad, hv⟩ := hv
        rw [hv]
        exact .inl ⟨.pointer (some (ad.add fd.offset)), fun w => by simp [Instr.fieldAt, oz.underlying, h1, h2, Instr.sureAddr, fieldPlace, oy.sizeOf, h]⟩
      · refine .inr fun w y w' => ?_
        simp only [Instr.fieldAt, Sem.run_bind, oz.underlying, h1, Result.andThen_ok, h2]
        have : Instr.sureAddr (a.eval x) = (Go.stuck "an address expected (no nilCheck in front?)" : Sem Addr) := by
          generalize a.eval x = v at hv
          cases v with
          | pointer p => cases p with
            | none => rfl
            | some ad => exact absurd ⟨ad, rfl⟩ hv
          | _ => rfl
        simp [this, Go.stuck, Result.andThen]
    · exact h.elim

/-- A tree of orders. -/
inductive Ot where
  | fin
  | stop
  | take (i : Nat) (sub : Ot)
  | alt (i : Nat) (sub rest : Ot)

def Ot.heads : Ot → List Nat
  | .alt i _ rest => i :: rest.heads
  | _ => []

def Ot.cover (ops : Array Oper) (listed : Array Bool) : Ot → Bool
  | .fin => (Region.ready .any ops listed).isEmpty
  | .stop => false
  | .take i _ => Region.free .any ops listed i && (Region.ready .any ops listed).contains i
  | .alt i s r => !(Region.ready .any ops listed).isEmpty && (Region.ready .any ops listed).all fun j => (Ot.alt i s r).heads.contains j

def Ot.ok (ops : Array Oper) : Ot → Nat → Array Bool → Bool
  | .fin, _, _ => true
  | .stop, _, _ => true
  | .take i sub, n, listed => match n with
    | 0 => false
    | n + 1 => sub.cover ops (listed.setIfInBounds i true) && sub.ok ops n (listed.setIfInBounds i true)
  | .alt i sub rest, n, listed => match n with
    | 0 => false
    | n + 1 => decide (i < ops.size) && sub.cover ops (listed.setIfInBounds i true) && sub.ok ops n (listed.setIfInBounds i true) && rest.ok ops (n + 1) listed

def Ot.okAll (ops : Array Oper) (tr : Ot) : Bool := Region.noSelect ops && tr.cover ops (Array.replicate ops.size false) && tr.ok ops ops.size (Array.replicate ops.size false)

/-- The same, where an operation may be guarded. -/
def indG (C : Cx) (ops : Array Oper) (o : Oper) (st : St) : Prop :=
  match o.guard with
  | none => indAt C o st
  | some (j, b) => match (ops[j]?).bind (·.dst) with
    | some t => match (st.slots t).gv with
      | some (some c) => c = b → indAt C o st
      | some none => True
      | none => False
    | none => False

def opAt (l : List Oper) (i : Nat) (f : Oper → Prop) : Prop := match l[i]? with
  | some o => f o
  | none => False

/-- A region, walked along a tree of its orders. -/
def atree (C : Cx) (ops : Array Oper) (l : List Oper) : Ot → St → (St → Prop) → Prop
  | .fin, st, K => K st
  | .stop, _, _ => True
  | .take i sub, st, K => opAt l i fun o => indG C ops o st ∧ aops C ops [o] st fun s => atree C ops l sub s K
  | .alt i sub rest, st, K => opAt l i fun o => (aops C ops [o] st fun s => atree C ops l sub s K) ∧ atree C ops l rest st K

theorem wpOp_yields {P : Program} {ops : Array Oper} {Q : Exit → Act → World → Prop} (hQ : ∀ e a w, Q e a w → e = .normal) {i : Nat} {o : Oper} (ho : ops[i]? = some o) {a : Act} {w : World} {K : Act → World → Prop}
    (hi : Region.wanted o (yielded ops a.tmps) = true → Ind P (execOp a.eval o) ∧ ∀ w x w', (execOp a.eval o).run P w = .ok x w' → ∃ v, x = .value v) (h : wpOp P ops Q i K a w) : ∃ v, Yields P ops o v a ∧ K (a.put o.dst v) w := by
  have hL : ¬ LetsOut Q := fun ⟨a, w, h⟩ => by have := hQ _ _ _ h; cases this
  unfold wpOp at h
  simp only [ho] at h
  split at h
  · rename_i hw
    replace hi := hi hw
    rcases h with h | ⟨_, h⟩
    · unfold Oper.wp at h
      rcases hi.1 with ⟨x, hx⟩ | hn
      · obtain ⟨v, rfl⟩ := hi.2 w x w (hx w)
        rw [hx w] at h
        exact ⟨v, .inl ⟨hw, hx⟩, h⟩
      · exfalso
        cases hr : (execOp a.eval o).run P w with
        | ok x w1 => exact hn _ _ _ hr
        | halt e w1 =>
          rw [hr] at h
          cases e <;> simp only [Oper.upon] at h
          have := hQ _ _ _ h; cases this
    · exact absurd h hL
  · rename_i hw
    exact ⟨undef, .inr ⟨by simpa using hw, rfl⟩, h⟩

theorem indG_spec {C : Cx} {S : Start} {ops : Array Oper} {E : Env} (I : Inv C.N S E) {a : Act} (ha : a.tmps = E.tm) {o : Oper} (h : indG C ops o E.st) (hw : Region.wanted o (yielded ops a.tmps) = true) : indAt C o E.st := by
  unfold indG at h
  split at h
  · exact h
  · rename_i j b hg
    split at h
    · rename_i t ht
      split at h
      · rename_i c hc
        replace hc := AV.gv_some hc
        have hy := yielded_of I ha ht hc
        simp only [Region.wanted, hg, hy] at hw
        refine h ?_
        cases c <;> cases b <;> first | rfl | (exact absurd hw (by decide))
      · rename_i hc
        replace hc := AV.gv_none hc
        have hy := yielded_off I ha ht hc
        simp only [Region.wanted, hg, hy] at hw
        exact absurd hw (by cases b <;> decide)
      · exact h.elim
    · exact h.elim

section
variable {C : Cx} {S : Start} {ops : Array Oper} {Q : Exit → Act → World → Prop}

theorem atree_sound (hs : Region.noSelect ops = true) (hbase : S.k ≤ C.base) (hQ : ∀ e a w, Q e a w → e = .normal) {K : St → Prop} (hR : ∀ E a, Inv C.N S E → a.tmps = E.tm → a.defers = [] → K E.st → Q .normal a E.w) : ∀ (tr : Ot),
    (∀ (n : Nat) (listed : Array Bool) (E : Env) (a : Act), tr.cover ops listed = true → tr.ok ops n listed = true → Inv C.N S E → a.tmps = E.tm → a.defers = [] → atree C ops ops.toList tr E.st K → wpAny C.P .any ops Q n listed a E.w) ∧
    (∀ (n : Nat) (listed : Array Bool) (E : Env) (a : Act) (i : Nat), i ∈ tr.heads → tr.ok ops (n + 1) listed = true → Inv C.N S E → a.tmps = E.tm → a.defers = [] → atree C ops ops.toList tr E.st K →
      wpOp C.P ops Q i (wpAny C.P .any ops Q n (listed.setIfInBounds i true)) a E.w)
  | .fin => ⟨fun n listed E a hc _ I ha hd h => wpAny_done (by simpa [Ot.cover] using hc) (hR E a I ha hd h) n, fun n listed E a i hi => by simp [Ot.heads] at hi⟩
  | .stop => ⟨fun n listed E a hc => by simp [Ot.cover] at hc, fun n listed E a i hi => by simp [Ot.heads] at hi⟩
  | .take i sub => by
    refine ⟨fun n listed E a hc hok I ha hd h => ?_, fun n listed E a i hi => by simp [Ot.heads] at hi⟩
    simp only [Ot.cover, Bool.and_eq_true] at hc
    cases n with
    | zero => simp [Ot.ok] at hok
    | succ n =>
    simp only [Ot.ok, Bool.and_eq_true] at hok
    simp only [atree, opAt] at h
    split at h
    · rename_i o ho
      rw [Array.getElem?_toList] at ho
      have h1 := aops_head (R := Q) (next := wpAny C.P .any ops Q n (listed.setIfInBounds i true)) I hbase ha hd ho h.2 fun E' a' I' ha' hd' h' => (atree_sound hs hbase hQ hR sub).1 n _ E' a' hok.1 hok.2 I' ha' hd' h'
      obtain ⟨v, hy, hk⟩ := wpOp_yields hQ ho (fun hw => indAt_spec I ha (indG_spec I ha h.1 hw)) h1
      exact wpAny_take ho hs hc.1 hc.2 (fun c a w hq => by have := hQ _ _ _ hq; cases this) hy hk
    · exact h.elim
  | .alt i sub rest => by
    have heads : ∀ (n : Nat) (listed : Array Bool) (E : Env) (a : Act) (j : Nat), j ∈ (Ot.alt i sub rest).heads → (Ot.alt i sub rest).ok ops (n + 1) listed = true → Inv C.N S E → a.tmps = E.tm → a.defers = [] → atree C ops ops.toList (.alt i sub rest) E.st K →
        wpOp C.P ops Q j (wpAny C.P .any ops Q n (listed.setIfInBounds j true)) a E.w := by
      intro n listed E a j hj hok I ha hd h
      simp only [Ot.ok, Bool.and_eq_true] at hok
      simp only [atree, opAt] at h
      split at h
      · rename_i o ho
        rw [Array.getElem?_toList] at ho
        rcases List.mem_cons.1 hj with rfl | hj
        · exact aops_head I hbase ha hd ho h.1 fun E' a' I' ha' hd' h' => (atree_sound hs hbase hQ hR sub).1 n _ E' a' hok.1.1.2 hok.1.2 I' ha' hd' h'
        · exact (atree_sound hs hbase hQ hR rest).2 n listed E a j hj hok.2 I ha hd h.2
      · exact h.elim
    refine ⟨fun n listed E a hc hok I ha hd h => ?_, heads⟩
    simp only [Ot.cover, Bool.and_eq_true, List.all_eq_true] at hc
    cases n with
    | zero => simp [Ot.ok] at hok
    | succ n =>
    refine ⟨fun h0 => by simp [h0] at hc, fun j hj => heads n listed E a j (by simpa using hc.2 j hj) hok I ha hd h⟩
end

theorem Oper.upon_monoQ {P : Program} {o : Oper} {a : Act} {K : Act → World → Prop} {Q Q' : Exit → Act → World → Prop} (h : ∀ e a w, Q e a w → Q' e a w) : ∀ r, o.upon P a K Q r → o.upon P a K Q' r := by
  intro r hr
  cases r with
  | ok n w =>
    cases n <;> simp only [Oper.upon] at hr ⊢ <;> try exact hr
    exact hr.mono fun e w he => by cases e <;> first | exact he | exact h _ _ _ he | exact (let ⟨a, w, h1⟩ := he; ⟨a, w, h _ _ _ h1⟩)
  | halt e w => cases e <;> simp only [Oper.upon] at hr ⊢; exact h _ _ _ hr

theorem wpOp_monoQ {P : Program} {ops : Array Oper} {i : Nat} {a : Act} {w : World} {K : Act → World → Prop} {Q Q' : Exit → Act → World → Prop} (h : ∀ e a w, Q e a w → Q' e a w) (hh : wpOp P ops Q i K a w) : wpOp P ops Q' i K a w := by
  unfold wpOp at hh ⊢
  split
  · rename_i ho; simpa only [ho] using hh
  · rename_i o ho
    simp only [ho] at hh
    split
    · rename_i hw
      rw [if_pos hw] at hh
      rcases hh with hh | ⟨h1, a, w, h2⟩
      · exact .inl (Oper.upon_monoQ h _ hh)
      · exact .inr ⟨h1, a, w, h _ _ _ h2⟩
    · rename_i hw
      rwa [if_neg hw] at hh

theorem wpAny_monoQ {P : Program} {ops : Array Oper} {md} {Q Q' : Exit → Act → World → Prop} (h : ∀ e a w, Q e a w → Q' e a w) : ∀ (n : Nat) (listed : Array Bool) (a : Act) (w : World), wpAny P md ops Q n listed a w → wpAny P md ops Q' n listed a w
  | 0, _, _, _, hh => ⟨hh.1, h _ _ _ hh.2⟩
  | n + 1, _, _, _, hh => ⟨fun h0 => h _ _ _ (hh.1 h0), fun i hi => wpOp_mono (fun a w => wpAny_monoQ h n _ a w) (wpOp_monoQ h (hh.2 i hi))⟩

section
variable {C : Cx} {Q : Exit → St → Prop} {st : St}

theorem AWp.tree (tr : Ot) {id : Nat} {ops : Array Oper} (hmix : C.P.follows .mixedOrders = true) (hok : tr.okAll ops = true) (h : atree C ops ops.toList tr st (Q .normal)) : AWp C (.region id ops true) st Q := by
  intro S E a hb I ha hd he
  simp only [Ot.okAll, Bool.and_eq_true] at hok
  refine wp_region_any hmix (wpAny_monoQ (Q := fun e a w => e = .normal ∧ APost C S Q e a w) (fun e a w h => h.2) _ _ _ _ ?_)
  refine (atree_sound (Q := fun e a w => e = .normal ∧ APost C S Q e a w) (K := Q .normal) hok.1.1 hb (fun e a w h => h.1) (fun E a I ha hd h => ⟨rfl, E, rfl, I, ha, hd, h⟩) tr).1 ops.size _ { E with w := { E.w with drawn := E.w.drawn + 1 } } a hok.1.2 hok.2 (I.drawn _ (Nat.le_succ _)) ha hd ?_
  show atree C ops ops.toList tr E.st (Q .normal)
  rw [he]; exact h

theorem AWp.stepT (tr : Ot) (ks kb : List Nat) (l : List (Nat × AV)) (bx : Boxes) {id : Nat} {ops : Array Oper} {y : Code} (hmix : C.P.follows .mixedOrders = true) (hok : tr.okAll ops = true)
    (h : atree C ops ops.toList tr st fun s => s.sees ks kb l bx) (h2 : AWp C y (St.of l bx) Q) : AWp C (.seq (.region id ops true) y) st Q := by
  refine AWp.seq (AWp.postFit (AWp.post (fun _ => (ks, kb)) ((AWp.tree (Q := fun e s => thenQ (fun s => s.sees ks kb l bx) (fun _ _ => False) e s) tr hmix hok h).mono ?_)))
  intro e s hs
  cases e with
  | normal => exact ⟨_, St.sees_fits hs, h2⟩
  | _ => exact hs.elim
end

@[congr] theorem atree_congr {C : Cx} {ops : Array Oper} {l l' : List Oper} {tr : Ot} {st st' : St} {K : St → Prop} (h1 : l = l') (h2 : st = st') : atree C ops l tr st K = atree C ops l' tr st' K := by
  subst_vars; rfl
section
variable {C : Cx} {ops : Array Oper} {l : List Oper} {st : St} {K : St → Prop} {i : Nat} {sub rest : Ot}
@[simp] theorem atree_fin : atree C ops l .fin st K = K st := rfl
@[simp] theorem atree_stop : atree C ops l .stop st K = True := rfl
theorem atree.tk (h : ∀ K' : St → Prop, (∀ m bx, atree C ops l sub (St.of m bx) K → K' (St.of m bx)) → opAt l i fun o => indG C ops o st ∧ aops C ops [o] st K') : atree C ops l (.take i sub) st K := h (fun s => atree C ops l sub s K) fun _ _ h => h
theorem atree.al (h : ∀ K' : St → Prop, (∀ m bx, atree C ops l sub (St.of m bx) K → K' (St.of m bx)) → opAt l i fun o => aops C ops [o] st K') (h2 : atree C ops l rest st K) : atree C ops l (.alt i sub rest) st K := by
  have h1 := h (fun s => atree C ops l sub s K) fun _ _ h => h
  simp only [opAt] at h1
  simp only [atree, opAt]
  split
  · rename_i o ho; rw [ho] at h1; exact ⟨h1, h2⟩
  · rename_i ho; rw [ho] at h1; exact h1
theorem atree.a1 (h : ∀ K' : St → Prop, (∀ m bx, atree C ops l sub (St.of m bx) K → K' (St.of m bx)) → opAt l i fun o => aops C ops [o] st K') : atree C ops l (.alt i sub .stop) st K := atree.al h trivial
@[simp] theorem opAt_zero {o : Oper} {f : Oper → Prop} : opAt (o :: l) 0 f = f o := rfl
@[simp] theorem opAt_succ {o : Oper} {f : Oper → Prop} : opAt (o :: l) (i + 1) f = opAt l i f := by simp [opAt]
@[congr] theorem opAt_congr {l' : List Oper} {f : Oper → Prop} (h : l = l') : opAt l i f = opAt l' i f := by rw [h]
end
attribute [simp] indAt indG
end Go.AM
namespace Go.AM
section
variable {C : Cx} {Q : Exit → St → Prop} {st : St}

/-- Ways that join in one state. -/
theorem AWp.mid (ks kb : List Nat) (l : List (Nat × AV)) (bx : Boxes) {x y : Code} (h1 : AWp C x st (thenQ (fun s => s.sees ks kb l bx) Q)) (h2 : AWp C y (St.of l bx) Q) : AWp C (.seq x y) st Q := by
  intro S E a hb I ha hd he
  refine wp_seq (wp_mono (h1 S E a hb I ha hd he) ?_)
  rintro e a w ⟨E1, rfl, g1, g2, g3, g4⟩
  cases e with
  | normal =>
    obtain ⟨E2, k1, k2, k3, k4⟩ := g1.clean ks kb
    have := h2 S { E2 with st := St.of l bx } a hb (k3.fits (by rw [k4]; exact St.sees_fits g4)) (by rw [g2, k2]) g3 rfl
    rw [← k1]
    exact this
  | _ => exact ⟨E1, rfl, g1, g2, g3, g4⟩

def fzs (ts : List Nat) : Place → Bool
  | .slot t _ => ts.contains t
  | _ => false

/-- What certain slots own is given up. -/
theorem AWp.frz (ts : List Nat) {c : Code} (h : AWp C c (st.fz (fzs ts)) Q) : AWp C c st Q := by
  intro S E a hb I ha hd he
  exact h S (E.fz (fzs ts)) a hb (I.fz (fzs ts) fun _ => rfl) ha hd (by show E.st.fz _ = _; rw [he])

end
attribute [simp] fzs

theorem aops_append {C : Cx} {ops : Array Oper} (l m : List Oper) (st : St) (K : St → Prop) : aops C ops (l ++ m) st K = aops C ops l st fun s => aops C ops m s K := by
  induction l generalizing st with
  | nil => rfl
  | cons o l ih =>
    have e : (fun s => aops C ops (l ++ m) s K) = fun s => aops C ops l s fun s => aops C ops m s K := funext ih
    simp only [List.cons_append, aops, e, ih]

/-- A region in parts. -/
theorem aops.part (n : Nat) {C : Cx} {ops : Array Oper} {l : List Oper} {st : St} {K : St → Prop} (h : ∀ K' : St → Prop, (∀ m bx, aops C ops (l.drop n) (St.of m bx) K → K' (St.of m bx)) → aops C ops (l.take n) st K') : aops C ops l st K := by
  have h1 := h (fun s => aops C ops (l.drop n) s K) fun _ _ h => h
  rw [← aops_append, List.take_append_drop] at h1
  exact h1
end Go.AM
namespace Go.AM

section
variable {P : Program} {N : Nat} {S : Start} {E : Env}

end

section
variable {C : Cx} {Q : Exit → St → Prop} {st : St}

end
end Go.AM
namespace Go.AM
open Go.Proofs

def intsAV (l : List Int) : List (List AV) := l.map fun n => [.i .i64 n]
@[simp] theorem intsAV_length (l : List Int) : (intsAV l).length = l.length := by simp [intsAV]
@[simp] theorem intsAV_getElem (l : List Int) (i : Nat) (h : i < (intsAV l).length) : (intsAV l)[i] = [.i .i64 (l[i]'(by simpa using h))] := by simp [intsAV]
/-- The first place at which something holds; -1: none. -/
def idxI {α : Type} (p : α → Bool) (l : List α) : Int := match l.findIdx? p with
  | some i => i
  | none => -1

theorem idxI_ge {α : Type} (p : α → Bool) (l : List α) : decide (0 ≤ idxI p l) = l.any p := by
  unfold idxI
  cases h : l.findIdx? p with
  | none =>
    rw [List.findIdx?_eq_none_iff] at h
    have : l.any p = false := by
      rw [List.any_eq_false]
      intro x hx
      simpa using h x hx
    rw [this]; rfl
  | some i =>
    have : l.any p = true := by
      rw [List.findIdx?_eq_some_iff_getElem] at h
      obtain ⟨hi, hp, _⟩ := h
      rw [List.any_eq_true]
      exact ⟨_, List.getElem_mem hi, hp⟩
    rw [this]
    simp

theorem idxI_at {α : Type} (p : α → Bool) (l : List α) (i : Nat) (hi : i < l.length) (h0 : ∀ k (hk : k < i), p (l[k]'(by omega)) = false) (h1 : p l[i] = true) : idxI p l = i := by
  unfold idxI
  have : l.findIdx? p = some i := by
    rw [List.findIdx?_eq_some_iff_getElem]
    exact ⟨hi, h1, fun j hj => by simpa using h0 j hj⟩
  rw [this]

theorem idxI_none {α : Type} (p : α → Bool) (l : List α) (h0 : ∀ k (hk : k < l.length), p l[k] = false) : idxI p l = -1 := by
  unfold idxI
  have : l.findIdx? p = none := by
    rw [List.findIdx?_eq_none_iff]
    intro x hx
    obtain ⟨k, hk, rfl⟩ := List.mem_iff_getElem.1 hx
    exact h0 k hk
  rw [this]

def badN (n : Int) : Bool := decide (n < 0) || decide (1048576 < n)
def clockOk (c : List Int) : Bool := decide (c.length ≤ 5) && !c.any badN

end Go.AM
namespace Go.AM
open Go.Proofs

theorem five {l : List Int} (h : l.length = 5) : ∃ a b c d e, l = [a, b, c, d, e] := by
  match l, h with
  | [a, b, c, d, e], _ => exact ⟨a, b, c, d, e, rfl⟩

def ofL (c : List Int) : List Int := if clockOk c then c ++ List.replicate (5 - c.length) 0 else [0, 0, 0, 0, 0]
def cellsI (l : List Int) : List AV := l.map fun n => .i .i64 n

theorem ofL_length (c : List Int) : (ofL c).length = 5 := by
  unfold ofL
  split
  · rename_i h
    simp [clockOk] at h
    simp
    omega
  · rfl

end Go.AM
namespace Go.AM
open Go.Proofs

def plainN (f : List Int) : Nat → Nat
  | 0 => 0
  | n + 1 => if f.getD n 0 = 0 then plainN f n else n + 1
def plainL (f : List Int) : List Int := f.take (plainN f 5)

theorem plainN_le (f : List Int) : ∀ n, plainN f n ≤ n
  | 0 => Nat.le_refl _
  | n + 1 => by
    unfold plainN
    split
    · have := plainN_le f n; omega
    · omega

end Go.AM
namespace Go.AM
open Go.Proofs

def getC (c : List Int) (rep : Int) : Int := if 1 ≤ rep ∧ rep ≤ 5 then (ofL c).getD (rep - 1).toNat 0 else 0

def setC (c : List Int) (rep n : Int) : List Int := if (1 ≤ rep ∧ rep ≤ 5) ∧ 0 ≤ n ∧ n ≤ 1048576 then plainL ((ofL c).set (rep - 1).toNat n) else []
def setE (rep n : Int) : Int := if (1 ≤ rep ∧ rep ≤ 5) ∧ 0 ≤ n ∧ n ≤ 1048576 then 0 else 1

end Go.AM
namespace Go.AM

theorem box_start {w : World} {Pub : Nat → Prop} {bk cap sz : Nat} {T : TypeId} {cells : Array Value} {xs : List (List AV)} (hg : w.heap[bk]? = some (.cells cells T (0, 0))) (hcs : cells.size = cap * sz) (hcap : xs.length ≤ cap) (hrow : Row Pub w bk 0 sz xs)
    (hpub : ∀ b, Pub b → b < w.heap.size ∧ b ≠ bk) :
    Rel 0 ⟨w, fun _ => bk, fun b => if b = bk then some (.box 0) else none, Pub, St.ofBoxes [(0, xs.flatten ++ List.replicate ((cap - xs.length) * sz) .any)], #[]⟩ := by
  have hfl := flatten_length hrow.1
  refine ⟨rfl, fun t => .any _ _, fun id cs h => ?_, fun b hb => ⟨(hpub b hb).1, if_neg (hpub b hb).2⟩, fun b q h => ?_, fun id h hm => by
    have h' : (List.lookup id [(0, xs.flatten ++ List.replicate ((cap - xs.length) * sz) AV.any)]).isSome = true := h
    rw [List.lookup_cons] at h'
    split at h'
    · rename_i hid
      simp at hid
      unfold parkM at hm
      omega
    · simp at h'⟩
  · have h' : List.lookup id [(0, xs.flatten ++ List.replicate ((cap - xs.length) * sz) AV.any)] = some cs := h
    rw [List.lookup_cons] at h'
    split at h'
    · rename_i hid
      have hid' : id = 0 := by simpa using hid
      subst hid'
      obtain rfl := Option.some.inj h'
      refine ⟨if_pos rfl, cells, T, hg, ?_, fun j c hj => ?_⟩
      · rw [List.length_append, hfl, List.length_replicate, ← Nat.add_mul, hcs]; congr 1; omega
      · by_cases hlt : j < xs.flatten.length
        · rw [List.getElem?_append_left hlt] at hj
          obtain ⟨u, hu, hd⟩ := hrow.2 j c hj
          have : cells.getD j undef = u := by
            simp only [World.cell?, hg, Nat.zero_add] at hu
            rw [Array.getD_eq_getD_getElem?]
            simpa using congrArg (fun o => o.getD undef) hu
          rw [this]
          exact hd.1.val (E := ⟨w, fun _ => bk, fun b => if b = bk then some (.box 0) else none, Pub, St.ofBoxes [(0, xs.flatten ++ List.replicate ((cap - xs.length) * sz) .any)], #[]⟩) _
        · rw [List.getElem?_append_right (by omega)] at hj
          obtain rfl := List.eq_of_mem_replicate (List.mem_of_getElem? hj)
          exact .any _ _
    · simp at h'
  · have h' : (if b = bk then some (Place.box 0) else none) = some q := h
    split at h'
    · rename_i e; subst e
      have := (Array.getElem?_eq_some_iff.1 hg).1
      exact this
    · cases h'

theorem box_args {w : World} {β : Nat → Nat} {Pub : Nat → Prop} {bk : Nat} {st : St} {ω : Nat → Option Place} {n cap : Nat} {rest : List AV} {vs : Array Value} (hr : (rest.all fun c => c.tidy && c.free) = true) (hr2 : rest.map (AV.ren fun _ => none) = rest)
    (hl : rest.length = vs.size) (hv : ∀ (k : Nat) c, rest[k]? = some c → Val ⟨w, β, fun _ => none, Pub, St.ofBoxes [], #[]⟩ .no c (vs.getD k undef)) :
    (AV.bs 0 0 n cap :: rest).length = (#[Value.slice (some ⟨bk, 0, none⟩) n cap] ++ vs).size ∧ ∀ (k : Nat) c, (AV.bs 0 0 n cap :: rest)[k]? = some c → Val ⟨w, fun _ => bk, ω, Pub, st, #[]⟩ .no c ((#[Value.slice (some ⟨bk, 0, none⟩) n cap] ++ vs).getD k undef) := by
  refine ⟨by simp [hl]; omega, fun k c hk => ?_⟩
  cases k with
  | zero =>
    obtain rfl := Option.some.inj hk
    have : (#[Value.slice (some ⟨bk, 0, none⟩) n cap] ++ vs).getD 0 undef = .slice (some ⟨bk, 0, none⟩) n cap := by
      rw [Array.getD_eq_getD_getElem?, Array.getElem?_append_left (by simp)]; rfl
    rw [this]
    exact .bs (E := ⟨w, fun _ => bk, ω, Pub, st, #[]⟩) _ 0 0 n cap
  | succ k =>
    have hk' : rest[k]? = some c := by simpa using hk
    have hc : c.ren (fun _ => none) = c := by
      have h1 : (rest.map (AV.ren fun _ => none))[k]? = some (c.ren fun _ => none) := by rw [List.getElem?_map, hk']; rfl
      rw [hr2, hk'] at h1
      exact (Option.some.inj h1).symm
    rw [List.all_eq_true] at hr
    have hcc := hr c (List.mem_of_getElem? hk')
    simp only [Bool.and_eq_true] at hcc
    have : (#[Value.slice (some ⟨bk, 0, none⟩) n cap] ++ vs).getD (k + 1) undef = vs.getD k undef := by
      rw [Array.getD_eq_getD_getElem?, Array.getElem?_append_right (by simp), Array.getD_eq_getD_getElem?]; rfl
    rw [this]
    have h2 := Val.renFree (E := ⟨w, β, fun _ => none, Pub, St.ofBoxes [], #[]⟩) (E' := ⟨w, fun _ => bk, ω, Pub, st, #[]⟩) (ρ := fun _ => none) (fun b h => ⟨h, rfl⟩) (fun _ _ h => by cases h) (hv k c hk') hcc.1 hcc.2 .no .no
    unfold AV.ren at hc
    rw [hc] at h2
    exact h2

/-- What the box's block holds when the function is left. -/
theorem box_end {w : World} {Pub : Nat → Prop} {bk cap sz : Nat} {zs : List (List AV)} {pad : List AV} {E' : Env} (hzl : ∀ z ∈ zs, z.length = sz) (hzd : (zs.flatten.all fun c => c.data && c.cellOk) = true) (hlen : (zs.flatten ++ pad).length = cap * sz)
    (hI : Inv 0 ⟨w, fun b => (if b = bk then some (Place.box 0) else none) ≠ none, Pub, fun _ => bk, 1⟩ E') (hst : E'.st = St.ofBoxes [(0, zs.flatten ++ pad)]) :
    E'.β 0 = bk ∧ ∃ cells' T', cells'.size = cap * sz ∧ E'.w.heap[bk]? = some (.cells cells' T' (0, 0)) ∧ (∀ b, b < w.heap.size → b ≠ bk → E'.w.heap[b]? = w.heap[b]?) ∧ w.heap.size ≤ E'.w.heap.size ∧ SameOs E'.w w ∧ E'.w.tape = w.tape ∧ E'.w.output = w.output ∧
      (∀ b, Pub b → E'.Pub b) ∧ (∀ b, E'.Pub b → Pub b ∨ w.heap.size ≤ b ∧ b < E'.w.heap.size) ∧ Row E'.Pub E'.w bk 0 sz zs := by
  have hβ : E'.β 0 = bk := hI.fr.beta 0 (by show (0 : Nat) < 1; omega)
  obtain ⟨hω, arr, T', ha, hasz, hac⟩ := hI.rel.boxes 0 (zs.flatten ++ pad) (by rw [hst]; rfl)
  rw [hβ] at hω ha
  refine ⟨hβ, arr, T', by rw [hasz, hlen], ha, fun b hb hne => hI.fr.block b hb (by simp [hne]), hI.fr.size, hI.fr.os, hI.fr.tape, hI.fr.output, hI.fr.pub0, fun b hb => ?_, hzl, fun k c hk => ?_⟩
  · rcases hI.fr.pub1 b hb with h | h | h
    · exact .inl h
    · exact .inr ⟨h, (hI.rel.pub b hb).1⟩
    · have hbb : b = bk := by
        by_cases e : b = bk
        · exact e
        · exact absurd (if_neg e) h
      have h2 := (hI.rel.pub b hb).2
      rw [hbb, hω] at h2
      cases h2
  · have hlt := (List.getElem?_eq_some_iff.1 hk).1
    have hv := hac k c (by rw [List.getElem?_append_left hlt]; exact hk)
    have hka : k < arr.size := by rw [hasz, List.length_append]; omega
    rw [List.all_eq_true] at hzd
    have hcc := hzd c (List.mem_of_getElem? hk)
    simp only [Bool.and_eq_true] at hcc
    rw [Array.getD_eq_getD_getElem?, Array.getElem?_eq_getElem hka] at hv
    refine ⟨arr[k], ?_, hv.dat hcc.1, oneCell_dat (hv.dat hcc.1) hcc.2⟩
    simp [World.cell?, ha, hka]

theorem hproc_box {P : Program} {f sz : Nat} {xs zs : List (List AV)} {rest : List AV} (hr : (rest.all fun c => c.tidy && c.free) = true) (hr2 : rest.map (AV.ren fun _ => none) = rest) (hzl : ∀ z ∈ zs, z.length = sz) (hzd : (zs.flatten.all fun c => c.data && c.cellOk) = true)
    (hle : zs.length ≤ xs.length) (h : ∀ cap, xs.length ≤ cap → ∃ pad : List AV, (zs.flatten ++ pad).length = cap * sz ∧
      Proc P 1 f (.bs 0 0 xs.length cap :: rest) [(0, xs.flatten ++ List.replicate ((cap - xs.length) * sz) .any)] (.bs 0 0 zs.length cap) [(0, zs.flatten ++ pad)]) : HProc P f sz xs rest zs := by
  refine ⟨(h xs.length (Nat.le_refl _)).elim fun _ h => h.2.1, fun w β Pub bk cap T cells vs hg hcs hcap hrow hpub hl hv => ?_⟩
  obtain ⟨pad, hlen, hP⟩ := h cap hcap
  obtain ⟨a1, a2⟩ := box_args (bk := bk) (n := xs.length) (cap := cap) (st := St.ofBoxes [(0, xs.flatten ++ List.replicate ((cap - xs.length) * sz) .any)]) (ω := fun b => if b = bk then some (.box 0) else none) hr hr2 hl hv
  refine (hP.2 w (fun _ => bk) (fun b => if b = bk then some (.box 0) else none) Pub _ (box_start hg hcs hcap hrow hpub) (fun b q hq => ?_) a1 a2).mono ?_
  · split at hq
    · cases hq; simp [inBx]
    · cases hq
  · rintro e w' ⟨v, E', rfl, rfl, hI, hst, _, hr⟩
    obtain ⟨hβ, cells', T', h1, h2, h3, h4, h5, h6, h7, h8, h9, h10⟩ := box_end (cap := cap) hzl hzd hlen hI hst
    cases hr
    rw [hβ]
    exact ⟨cells', T', E'.Pub, rfl, by omega, h1, h2, h3, h4, h5, h6, h7, h8, h9, h10⟩

end Go.AM
namespace Go.AM
open Go.Proofs Go.Shelf Go.Sort

def AV.val : AV → Value
  | .b x => .bool x
  | .i k n => .int k n
  | .s x => .string x
  | .nil => .pointer none
  | .nofn => .nilFunc
  | _ => undef

theorem Dat.val_eq {Pub : Nat → Prop} {w : World} {c : AV} {u : Value} (h : Dat Pub w c u) (ha : c.atom = true) : u = c.val := by
  cases h <;> first | rfl | (simp [AV.atom] at ha; done)

theorem datC_val {Pub : Nat → Prop} {w : World} {c : AV} (ha : c.atom = true) : DatC Pub w c c.val := by
  cases c <;> first | (simp [AV.atom] at ha; done) | exact ⟨by constructor, rfl⟩

theorem toArr_get (L : List AV) (j : Nat) (h : j < L.length) : (L.map AV.val).toArray[j]! = L[j].val := by
  rw [getElem!_pos _ j (by simpa using h)]
  simp
theorem toArr_size (L : List AV) : (L.map AV.val).toArray.size = L.length := by simp

section
variable {α : Type} [Inhabited α] (encA : α → List AV)

def encV (x : α) : List Value := (encA x).map AV.val

theorem flatK_eq {k : Nat} (hk : ∀ x, (encA x).length = k) (hpos : 0 < k) (xs : List α) : flatK (encV encA) k xs.toArray = ((xs.map encA).flatten.map AV.val).toArray := by
  have hl : ∀ x ∈ xs.map encA, x.length = k := fun x hx => by
    obtain ⟨y, _, rfl⟩ := List.mem_map.1 hx
    exact hk y
  have hfl := flatten_length hl
  refine ext_get! (by rw [toArr_size, size_flatK, hfl, List.length_map, List.size_toArray]) fun t ht => ?_
  have ht' : t < xs.length * k := by simpa using ht
  have hdiv : t / k < xs.length := (Nat.div_lt_iff_lt_mul hpos).2 ht'
  have hmod : t % k < k := Nat.mod_lt _ hpos
  rw [get_flatK _ _ _ t (by simpa using ht')]
  have hix : (xs.map encA)[t / k]? = some (encA xs[t / k]) := by rw [List.getElem?_map, List.getElem?_eq_getElem hdiv]; rfl
  have hc : (encA xs[t / k])[t % k]? = some ((encA xs[t / k])[t % k]'(by rw [hk]; exact hmod)) := List.getElem?_eq_getElem _
  have hg := flat_get hl (t / k) (t % k) _ _ hix hc
  rw [Nat.div_add_mod'] at hg
  have htl : t < (xs.map encA).flatten.length := by rw [hfl, List.length_map]; exact ht'
  rw [List.getElem?_eq_getElem htl] at hg
  rw [toArr_get _ t htl, Option.some.inj hg]
  have h2 : (xs.toArray[t / k]! : α) = xs[t / k] := by
    rw [getElem!_pos _ _ (by simpa using hdiv)]
    simp
  rw [h2]
  unfold encV
  rw [getElem!_pos _ _ (by rw [List.length_map, hk]; exact hmod)]
  simp

theorem row_holds {Pub : Nat → Prop} {w : World} {bk k : Nat} {T : TypeId} {cells : Array Value} (hk : ∀ x, (encA x).length = k) (hpos : 0 < k) (hat : ∀ x, ∀ c ∈ encA x, c.atom = true) {xs : List α} (hg : w.heap[bk]? = some (.cells cells T (0, 0))) (hrow : Row Pub w bk 0 k (xs.map encA)) :
    HoldsK (encV encA) k w bk 0 xs.toArray := by
  unfold HoldsK
  rw [flatK_eq encA hk hpos]
  intro j hj
  have hj' : j < (xs.map encA).flatten.length := by rwa [toArr_size] at hj
  obtain ⟨u, hu, hd⟩ := hrow.2 j _ (List.getElem?_eq_getElem hj')
  refine ⟨?_, by simp [World.frozen?, hg]⟩
  rw [hu]
  have hm : (xs.map encA).flatten[j] ∈ (xs.map encA).flatten := List.getElem_mem _
  obtain ⟨l, hl, hc⟩ := List.mem_flatten.1 hm
  obtain ⟨x, _, rfl⟩ := List.mem_map.1 hl
  rw [hd.1.val_eq (hat x _ hc), toArr_get _ j hj']
  rfl

theorem holds_row {Pub : Nat → Prop} {w : World} {bk k : Nat} (hk : ∀ x, (encA x).length = k) (hpos : 0 < k) (hat : ∀ x, ∀ c ∈ encA x, c.atom = true) {xs : List α} (h : HoldsK (encV encA) k w bk 0 xs.toArray) : Row Pub w bk 0 k (xs.map encA) := by
  unfold HoldsK at h
  rw [flatK_eq encA hk hpos] at h
  refine ⟨fun x hx => ?_, fun j c hj => ?_⟩
  · obtain ⟨y, _, rfl⟩ := List.mem_map.1 hx
    exact hk y
  · have hj' := (List.getElem?_eq_some_iff.1 hj).1
    have h1 := (h j (by rw [toArr_size]; exact hj')).1
    have hm := List.mem_of_getElem? hj
    obtain ⟨l, hl, hc⟩ := List.mem_flatten.1 hm
    obtain ⟨x, _, rfl⟩ := List.mem_map.1 hl
    refine ⟨c.val, ?_, datC_val (hat x c hc)⟩
    rw [List.getElem?_eq_getElem hj'] at hj
    rw [h1, toArr_get _ j hj', Option.some.inj hj]
    rfl

theorem putRowK_block {w : World} {bk k : Nat} {T : TypeId} {cells : Array Value} {d : Array α} {enc : α → List Value} (hg : w.heap[bk]? = some (.cells cells T (0, 0))) :
    ∃ cells', cells'.size = cells.size ∧ (putRowK enc k w bk 0 d).heap[bk]? = some (.cells cells' T (0, 0)) := by
  refine ⟨putCells id 0 (flatK enc k d) cells, by simp [putCells], ?_⟩
  unfold putRowK putRow mapBlock
  simp only [Array.getElem?_modify, if_true, hg, Option.map_some]
  rfl

theorem putRowK_other {w : World} {bk k : Nat} {d : Array α} {enc : α → List Value} {b : Nat} (hb : b ≠ bk) : (putRowK enc k w bk 0 d).heap[b]? = w.heap[b]? := by
  unfold putRowK putRow mapBlock
  simp only [Array.getElem?_modify, if_neg (Ne.symm hb)]

theorem putRowK_size {w : World} {bk k : Nat} {d : Array α} {enc : α → List Value} : (putRowK enc k w bk 0 d).heap.size = w.heap.size := by
  unfold putRowK putRow mapBlock
  simp

theorem lproc_sort {P : Program} {ρ : Ren} (L : SlLaysF0.n6 P ρ) (k : Nat) (hpos : 0 < k) (aE : ∀ w, (isAgg (ρ.t 24)).run P w = .ok true w) (zE : ∀ w, (Go.sizeOf (ρ.t 24)).run P w = .ok k w) (hk : ∀ x, (encA x).length = k) (hat : ∀ x, ∀ c ∈ encA x, c.atom = true)
    (cf : α → α → Int) (hO : SWO (ltOf cf)) (hT : ∀ x y, (ltOf cf) x y = false → (ltOf cf) y x = false → x = y) (g : Nat) (eg : ∀ args w, (callFunc g args).run P w = .ok (.enter g args) w)
    (hcmp : ∀ (x y : α) (w : World), Calls P g #[.agg (encV encA x).toArray, .agg (encV encA y).toArray] w fun e w' => e = .returned (.int .i64 (cf x y)) ∧ ∃ q os', w' = grow (w.drewN q) os') (xs : List α) (hsz : xs.length < 4611686018427387904) :
    LProc P (ρ.f 6) k (xs.map encA) [.fn g [] []] ((xs.mergeSort fun x y => !(ltOf cf) y x).map encA) := by
  obtain ⟨nm, hnm, hfn⟩ := L.f6
  refine ⟨⟨_, _, hfn, rfl, hnm⟩, fun w β Pub bk cap T cells vs hg hcs hcap hrow hpub hl hv => ?_⟩
  have hvs : vs = #[.func (.func g) #[] #[]] := by
    have h0 := hv 0 _ rfl
    have hs : vs.size = 1 := by rw [← hl]; rfl
    have e0 : vs.getD 0 undef = .func (.func g) #[] #[] := by
      generalize vs.getD 0 undef = v at h0
      cases h0 with
      | fn _ _ _ _ fi' ca' l1 l2 _ _ =>
        rw [Array.eq_empty_of_size_eq_zero l1.symm, Array.eq_empty_of_size_eq_zero l2.symm]
    apply Array.ext
    · rw [hs]; rfl
    · intro j hj hj2
      rw [Array.getD_eq_getD_getElem?, Array.getElem?_eq_getElem (by omega)] at e0
      rcases j with _ | j
      · exact e0
      · rw [hs] at hj; omega
  subst hvs
  have hbk : bk < w.heap.size := (Array.getElem?_eq_some_iff.1 hg).1
  have hH := row_holds encA hk hpos hat hg hrow
  have h1 : ∀ x, ∀ v ∈ encV encA x, v.oneCell' = true := fun x v hv => by
    obtain ⟨c, hc, rfl⟩ := List.mem_map.1 hv
    exact (datC_val (Pub := Pub) (w := w) (hat x c hc)).2
  have hkV : ∀ x, (encV encA x).length = k := fun x => by unfold encV; rw [List.length_map, hk]
  have hc := AnyQ.slices_SortFunc_total L k aE zE (encV encA) hkV h1 cf hO g #[] bk 0 cap xs.toArray w eg (fun m os dk _ x y => by
    rw [Array.append_empty]
    exact hcmp x y _) hH hbk (by simpa using hsz) hT
  have hlen : (xs.map encA).length = xs.toArray.size := by simp
  rw [hlen]
  refine hc.mono ?_
  rintro e w' ⟨rfl, n, os, rfl⟩
  have hg2 : (Sort.ahead w n).heap[bk]? = some (.cells cells T (0, 0)) := hg
  obtain ⟨cells', hc1, hc2⟩ := putRowK_block (enc := encV encA) (k := k) (d := (xs.mergeSort fun x y => !(ltOf cf) y x).toArray) hg2
  have hH2 : HoldsK (encV encA) k (sortWorldK (encV encA) k w bk 0 n (xs.mergeSort fun x y => !(ltOf cf) y x).toArray os) bk 0 (xs.mergeSort fun x y => !(ltOf cf) y x).toArray := holdsK_sortWorldK_c _ k w bk 0 xs.toArray _ n os hH hbk (by simp [List.length_mergeSort])
  have hlt : ∀ b, b < w.heap.size → b < (putRowK (encV encA) k (Sort.ahead w n) bk 0 (xs.mergeSort fun x y => !(ltOf cf) y x).toArray).heap.size := fun b hb => by rw [putRowK_size]; exact hb
  have hgr : ∀ b, b < w.heap.size → (sortWorldK (encV encA) k w bk 0 n (xs.mergeSort fun x y => !(ltOf cf) y x).toArray os).heap[b]? = (putRowK (encV encA) k (Sort.ahead w n) bk 0 (xs.mergeSort fun x y => !(ltOf cf) y x).toArray).heap[b]? := fun b hb => by
    unfold sortWorldK grow
    exact Array.getElem?_append_left (hlt b hb)
  refine ⟨cells', T, Pub, rfl, by simp [List.length_mergeSort], by rw [hc1]; exact hcs, ?_, fun b hb hne => ?_, size_sortWorldK_c _ k w bk 0 n _ os, ⟨rfl, Nat.le_add_right _ _⟩, rfl, rfl, fun _ h => h, fun _ h => .inl h, holds_row encA hk hpos hat hH2⟩
  · show (sortWorldK _ _ _ _ _ _ _ _).heap[bk]? = _
    rw [hgr bk hbk]; exact hc2
  · show (sortWorldK _ _ _ _ _ _ _ _).heap[b]? = _
    rw [hgr b hb, putRowK_other hne]
    rfl
end
end Go.AM
namespace Go.Proofs
end Go.Proofs

namespace Go.AM
open Go.Proofs Go.Shelf Go.Sort Go.RowKit Go.Lib

abbrev Dot := Int × Int
def ltD (a b : Dot) : Bool := decide (a.1 < b.1) || (decide (a.1 = b.1) && decide (a.2 < b.2))
def cmpD (a b : Dot) : Int := if ltD a b then -1 else if ltD b a then 1 else 0
def dotV (d : Dot) : Value := .agg #[.int .i64 d.1, .int .i64 d.2]

def dotC (d : Dot) : List AV := [.i .i64 d.1, .i .i64 d.2]
def dotsAV (l : List Dot) : List (List AV) := l.map dotC
def sortD (l : List Dot) : List Dot := l.mergeSort fun x y => !ltD y x

end Go.AM
namespace Go.AM
section
variable {C : Cx} {Q : Exit → St → Prop} {st : St}
end
end Go.AM
namespace Go.AM
def fzc (ts : List (Nat × Nat)) : Place → Bool
  | .cell id j => ts.contains (id, j)
  | _ => false
attribute [simp] fzc
section
variable {C : Cx} {Q : Exit → St → Prop} {st : St}
/-- What certain boxes' cells own is given up. -/
theorem AWp.frzc (ts : List (Nat × Nat)) {c : Code} (h : AWp C c (st.fz (fzc ts)) Q) : AWp C c st Q := by
  intro S E a hb I ha hd he
  exact h S (E.fz (fzc ts)) a hb (I.fz (fzc ts) fun _ => rfl) ha hd (by show E.st.fz _ = _; rw [he])
end
end Go.AM
namespace Go.AM
open Go.Proofs

@[simp] theorem dotsAV_length (l : List Dot) : (dotsAV l).length = l.length := by simp [dotsAV]
@[simp] theorem dotsAV_getElem (l : List Dot) (i : Nat) (h : i < (dotsAV l).length) : (dotsAV l)[i] = [.i .i64 (l[i]'(by simpa using h)).1, .i .i64 (l[i]'(by simpa using h)).2] := by simp [dotsAV, dotC]
def mayD (d : Dot) : Bool := decide (1 ≤ d.1) && decide (d.1 ≤ 5) && decide (1 ≤ d.2) && decide (d.2 ≤ 1048576)






end Go.AM
namespace Go.AM
open Go.Proofs

end Go.AM
namespace Go.AM
open Go.Proofs

theorem all_of {α : Type} {p : α → Bool} {l : List α} (h : ∀ k (hk : k < l.length), p l[k] = true) : l.all p = true := by
  rw [List.all_eq_true]
  intro x hx
  obtain ⟨k, hk, rfl⟩ := List.mem_iff_getElem.1 hx
  exact h k hk
theorem all_not {α : Type} {p : α → Bool} {l : List α} {i : Nat} (hi : i < l.length) (h : p l[i] = false) : l.all p = false := by
  rw [List.all_eq_false]
  exact ⟨_, List.getElem_mem hi, by simp [h]⟩
end Go.AM
namespace Go.AM
open Go.Proofs

@[simp] theorem intsAV_append (a b : List Int) : intsAV (a ++ b) = intsAV a ++ intsAV b := by simp [intsAV]
@[simp] theorem intsAV_nil : intsAV [] = [] := rfl
@[simp] theorem intsAV_cons (x : Int) (l : List Int) : intsAV (x :: l) = [.i .i64 x] :: intsAV l := rfl

def refP (f : List Int) : Nat → List Int
  | 0 => []
  | k + 1 => if 0 < f.getD k 0 then (refP f k ++ List.replicate (k - (refP f k).length) 0) ++ [f.getD k 0] else refP f k

theorem getC_at (c : List Int) (i : Nat) (h : i < 5) : getC c (i + 1) = (ofL c).getD i 0 := by
  unfold getC
  rw [if_pos (by omega)]
  congr 1
  omega



def sumC (c : List Int) : Int := getC c 1 + getC c 2 + getC c 3 + getC c 4 + getC c 5
def sumTo (c : List Int) : Nat → Int
  | 0 => 0
  | k + 1 => sumTo c k + getC c (k + 1)
end Go.AM
namespace Go.AM
open Go.Proofs

@[simp] theorem dotsAV_append (a b : List Dot) : dotsAV (a ++ b) = dotsAV a ++ dotsAV b := by simp [dotsAV]
@[simp] theorem dotsAV_nil : dotsAV [] = [] := rfl
@[simp] theorem dotsAV_cons (x : Dot) (l : List Dot) : dotsAV (x :: l) = [.i .i64 x.1, .i .i64 x.2] :: dotsAV l := rfl
/-- Dots in order, with one more. -/
def putD (l : List Dot) (d : Dot) : List Dot := match l with
  | [] => [d]
  | x :: l => if ltD x d then x :: putD l d else if x = d then x :: l else d :: x :: l

end Go.AM
namespace Go.AM
open Go.Proofs

def ordD (l : List Dot) : List Dot := l.foldl putD []
structure Seen where
  upto : List Int
  more : List Dot
  deriving DecidableEq
def seenC (s : Seen) : List AV := [.sl .fro 1 (intsAV s.upto), .sl .fro 2 (dotsAV s.more)]

/-- May the i-th dot beside stand there? -/
def moreOk (u : List Int) (l : List Dot) (i : Nat) : Bool := match l[i]? with
  | some d => mayD d && decide (getC u d.1 + 1 < d.2) && (!decide (0 < i) || ltD (l.getD (i - 1) (0, 0)) d)
  | none => false
def seenOk (s : Seen) : Bool := clockOk s.upto && decide (plainL (ofL s.upto) = s.upto) && decide (s.more.length ≤ 1000) && (List.range s.more.length).all (moreOk s.upto s.more)

theorem range_all {n : Nat} {p : Nat → Bool} (h : ∀ k, k < n → p k = true) : (List.range n).all p = true := by
  rw [List.all_eq_true]
  intro x hx
  exact h x (by simpa using hx)
theorem range_not {n : Nat} {p : Nat → Bool} {i : Nat} (hi : i < n) (h : p i = false) : (List.range n).all p = false := by
  rw [List.all_eq_false]
  exact ⟨i, by simpa using hi, by simp [h]⟩

end Go.AM
namespace Go.AM
open Go.Proofs

def hasD (s : Seen) (d : Dot) : Bool := mayD d && (decide (d.2 ≤ getC s.upto d.1) || decide (d ∈ s.more))


/-- One round of adding: a dot that comes next is told by the number. -/
def addStep (s : Seen) (x : Dot) : Seen :=
  if x.2 = getC s.upto x.1 + 1 then ⟨plainL (ofL ((List.range 5).map fun k : Nat => if (k : Int) + 1 = x.1 then x.2 else getC s.upto (k + 1))), s.more⟩ else ⟨s.upto, s.more ++ [x]⟩
def addD (s : Seen) (d : Dot) : Seen := if hasD s d then s else (putD s.more d).foldl addStep ⟨s.upto, []⟩
def addTo (u : List Int) (l : List Dot) (i : Nat) : Seen := (l.take i).foldl addStep ⟨u, []⟩
end Go.AM
namespace Go.AM

/-- A cell that no mark touches. -/
def AV.calm : AV → Bool
  | .any | .b _ | .i _ _ | .s _ | .nil | .nofn | .ab _ _ _ _ | .mp _ | .it _ => true
  | .sl .fro _ _ => true
  | _ => false
def Calm (cs : List AV) : Prop := ∀ c ∈ cs, c.calm = true

theorem Calm.append {a b : List AV} (h1 : Calm a) (h2 : Calm b) : Calm (a ++ b) := fun c hc => by
  rcases List.mem_append.1 hc with h | h
  · exact h1 c h
  · exact h2 c h
theorem Calm.take {a : List AV} (h : Calm a) (n : Nat) : Calm (a.take n) := fun c hc => h c (List.mem_of_mem_take hc)
theorem Calm.drop {a : List AV} (h : Calm a) (n : Nat) : Calm (a.drop n) := fun c hc => h c (List.mem_of_mem_drop hc)
theorem Calm.replicate (n : Nat) {x : AV} (hx : x.calm = true) : Calm (List.replicate n x) := fun c hc => by rw [List.eq_of_mem_replicate hc]; exact hx

theorem tr_calm {h : Place → AV → AV} (hl : ∀ p x, x.calm = true → h p x = x) {x : AV} (hx : x.calm = true) (p : Place) : x.tr h p = x := by
  cases x <;> first | exact hl _ _ hx | (simp [AV.calm] at hx; done)
theorem trC_calm {h : Place → AV → AV} (hl : ∀ p x, x.calm = true → h p x = x) (id : Nat) : ∀ (k : Nat) (cs : List AV), Calm cs → AV.trC h id k cs = cs
  | _, [], _ => rfl
  | k, x :: xs, hc => by rw [AV.trC, tr_calm hl (hc x (by simp)), trC_calm hl id (k + 1) xs fun c h => hc c (by simp [h])]

theorem take_calm (Q) (p : Place) (x : AV) (hx : x.calm = true) : takeLeaf Q p x = x := by
  cases x <;> first | rfl | (simp [AV.calm] at hx; done) | skip
  rename_i g sz xs; cases g <;> first | rfl | (simp [AV.calm] at hx; done)
theorem fz_calm (F) (p : Place) (x : AV) (hx : x.calm = true) : fzLeaf F p x = x := by
  cases x <;> first | rfl | (simp [AV.calm] at hx; done) | skip
  rename_i g sz xs; cases g <;> first | rfl | (simp [AV.calm] at hx; done)
theorem view_calm (p : Place) (x : AV) (hx : x.calm = true) : viewLeaf p x = x := by
  cases x <;> first | rfl | (simp [AV.calm] at hx; done) | skip
  rename_i g sz xs; cases g <;> first | rfl | (simp [AV.calm] at hx; done)
theorem kill_calm (b) (p : Place) (x : AV) (hx : x.calm = true) : killBLeaf b p x = x := by
  cases x <;> first | rfl | (simp [AV.calm] at hx; done)

@[simp] theorem trC_take {Q id k cs} (h : Calm cs) : AV.trC (takeLeaf Q) id k cs = cs := trC_calm (take_calm Q) id k cs h
@[simp] theorem trC_fz {F id k cs} (h : Calm cs) : AV.trC (fzLeaf F) id k cs = cs := trC_calm (fz_calm F) id k cs h
@[simp] theorem trC_view {id k cs} (h : Calm cs) : AV.trC viewLeaf id k cs = cs := trC_calm view_calm id k cs h
@[simp] theorem trC_killB {b id k cs} (h : Calm cs) : AV.trC (killBLeaf b) id k cs = cs := trC_calm (kill_calm b) id k cs h
attribute [simp] AV.fitsL_refl

/-- Rows of elements, encoded alike, and what lies behind them. -/
def boxR {α : Type} (enc : α → List AV) (l : List α) (pad : List AV) : List AV := (l.map enc).flatten ++ pad

structure EncOk {α : Type} (enc : α → List AV) (k : Nat) : Prop where
  len : ∀ x, (enc x).length = k
  calm : ∀ x, Calm (enc x)

section
variable {α : Type} {enc : α → List AV} {k : Nat} (hk : EncOk enc k)
include hk
theorem rows_len (l : List α) : (l.map enc).flatten.length = l.length * k := by
  induction l with
  | nil => simp
  | cons x l ih => simp [hk.len, Nat.add_mul] at ih ⊢; omega
theorem boxR_len (l : List α) (pad : List AV) : (boxR enc l pad).length = l.length * k + pad.length := by
  unfold boxR
  rw [List.length_append, rows_len hk]
theorem boxR_calm {l : List α} {pad : List AV} (hp : Calm pad) : Calm (boxR enc l pad) := by
  refine Calm.append (fun c hc => ?_) hp
  obtain ⟨y, hy, hc⟩ := List.mem_flatten.1 hc
  obtain ⟨x, _, rfl⟩ := List.mem_map.1 hy
  exact hk.calm x c hc
theorem boxR_cut (l : List α) (pad : List AV) (i : Nat) (h : i < l.length) : boxR enc l pad = ((l.take i).map enc).flatten ++ (enc l[i] ++ (((l.drop (i + 1)).map enc).flatten ++ pad)) ∧ ((l.take i).map enc).flatten.length = i * k := by
  have e : l = l.take i ++ l[i] :: l.drop (i + 1) := by rw [List.getElem_cons_drop, List.take_append_drop]
  refine ⟨?_, by rw [rows_len hk, List.length_take, Nat.min_eq_left (by omega)]⟩
  unfold boxR
  have e2 : l.map enc = (l.take i).map enc ++ enc l[i] :: (l.drop (i + 1)).map enc := by
    rw [← List.map_cons, ← List.map_append, ← e]
  rw [e2, List.flatten_append, List.flatten_cons, List.append_assoc, List.append_assoc]
theorem boxR_get (l : List α) (pad : List AV) (i : Nat) (h : i < l.length) : ((boxR enc l pad).drop (i * k)).take k = enc l[i] := by
  obtain ⟨e, e3⟩ := boxR_cut hk l pad i h
  rw [e, ← e3, List.drop_left]
  have := hk.len l[i]
  rw [← this, List.take_left]
theorem boxR_set (l : List α) (pad : List AV) (i : Nat) (h : i < l.length) (x : α) : (boxR enc l pad).take (i * k) ++ (enc x ++ (boxR enc l pad).drop (i * k + k)) = boxR enc (l.set i x) pad := by
  obtain ⟨e, e3⟩ := boxR_cut hk l pad i h
  have e4 : l.set i x = l.take i ++ x :: l.drop (i + 1) := by rw [List.set_eq_take_append_cons_drop, if_pos h]
  rw [e]
  have hd : (((l.take i).map enc).flatten ++ (enc l[i] ++ (((l.drop (i + 1)).map enc).flatten ++ pad))).drop (i * k + k) = ((l.drop (i + 1)).map enc).flatten ++ pad := by
    rw [← List.append_assoc, List.drop_left' (by rw [List.length_append, e3, hk.len])]
  rw [hd, ← e3, List.take_left, e4]
  unfold boxR
  rw [List.map_append, List.map_cons, List.flatten_append, List.flatten_cons, List.append_assoc, List.append_assoc]
theorem boxR_clear (l : List α) (pad zs : List AV) (i : Nat) (h : i ≤ l.length) (hz : zs.length = (l.length - i) * k) : (boxR enc l pad).take (i * k) ++ (zs ++ (boxR enc l pad).drop (i * k + zs.length)) = boxR enc (l.take i) (zs ++ pad) := by
  have e : l.map enc = (l.take i).map enc ++ (l.drop i).map enc := by rw [← List.map_append, List.take_append_drop]
  have e3 : ((l.take i).map enc).flatten.length = i * k := by rw [rows_len hk, List.length_take, Nat.min_eq_left h]
  have hd : (boxR enc l pad).drop (i * k + zs.length) = pad := by
    unfold boxR
    refine List.drop_left' ?_
    rw [rows_len hk, hz, ← Nat.add_mul]
    congr 1; omega
  have ht : (boxR enc l pad).take (i * k) = ((l.take i).map enc).flatten := by
    unfold boxR
    rw [e, List.flatten_append, List.append_assoc, ← e3, List.take_left]
  rw [hd, ht]
  rfl
end
end Go.AM
namespace Go.AM
theorem Calm.still {cs : List AV} (h : Calm cs) : ∀ x ∈ cs, x.still = true := by
  intro x hx
  have := h x hx
  cases x <;> first | rfl | (simp [AV.calm] at this; done) | skip
  rename_i g sz xs; cases g <;> first | rfl | (simp [AV.calm] at this; done)
theorem Calm.zeros {zero : List AV} (h : Calm zero) : ∀ n, Calm (zerosL zero n)
  | 0 => fun c hc => by simp [zerosL] at hc
  | n + 1 => h.append (Calm.zeros h n)
end Go.AM
namespace Go.AM
theorem Calm.freeL {cs : List AV} (h : Calm cs) : AV.freeL cs = true := by
  rw [AV.freeL_iff]
  intro x hx
  have := h x hx
  cases x <;> first | rfl | (simp [AV.calm] at this; done) | skip
  rename_i g sz xs; cases g <;> first | rfl | (simp [AV.calm] at this; done)
end Go.AM
namespace Go.AM
@[simp] theorem wrap_i0 : IntKind.i64.wrap 0 = 0 := by decide
@[simp] theorem wrap_i1 : IntKind.i64.wrap 1 = 1 := by decide
@[simp] theorem wrap_u0 : IntKind.u64.wrap 0 = 0 := by decide
@[simp] theorem wrap_b0 : IntKind.u8.wrap 0 = 0 := by decide
end Go.AM
namespace Go.AM
open Go.Proofs

def compN (l : List Dot) : Nat → List Dot
  | 0 => []
  | i + 1 => match l[i]? with
    | none => compN l i
    | some x => if 0 < i ∧ l[i - 1]? = some x then compN l i else compN l i ++ [x]
def compD (l : List Dot) : List Dot := compN l l.length
set_option maxRecDepth 40000 in
theorem c_Len64_0 : Pure Tryz.prog 158 [.i .u64 0] (.i .i64 0) := by
  refine proc_of (cx Tryz.prog 25 [0, 2, 4, 8, 14] [2]) 24 [.tmp 2] Tryz.func158 rfl rfl rfl rfl rfl rfl (Nat.le_refl _) rfl ?_
  refine AWp.go [0, 2] [] fun K hK => ?_
  simp
  first | refine hK _ _ ?_ | refine ⟨by omega, hK _ _ ?_⟩ | refine ⟨by omega, by omega, hK _ _ ?_⟩
  clear hK K
  refine AWp.seq ?_
  refine AWp.go [0, 2, 4] [] fun K hK => ?_
  simp
  first | refine hK _ _ ?_ | refine ⟨by omega, hK _ _ ?_⟩ | refine ⟨by omega, by omega, hK _ _ ?_⟩
  clear hK K
  refine AWp.cond (t := false) (by first | (simp; done) | (simp; omega)) (by simp) (fun _ => ?_)
  refine AWp.skip ?_
  show AWp _ _ _ _
  refine AWp.seq ?_
  refine AWp.go [0, 2, 8] [] fun K hK => ?_
  simp
  first | refine hK _ _ ?_ | refine ⟨by omega, hK _ _ ?_⟩ | refine ⟨by omega, by omega, hK _ _ ?_⟩
  clear hK K
  refine AWp.cond (t := false) (by first | (simp; done) | (simp; omega)) (by simp) (fun _ => ?_)
  refine AWp.skip ?_
  show AWp _ _ _ _
  refine AWp.seq ?_
  refine AWp.go [0, 2, 14] [] fun K hK => ?_
  simp
  first | refine hK _ _ ?_ | refine ⟨by omega, hK _ _ ?_⟩ | refine ⟨by omega, by omega, hK _ _ ?_⟩
  clear hK K
  refine AWp.cond (t := false) (by first | (simp; done) | (simp; omega)) (by simp) (fun _ => ?_)
  refine AWp.skip ?_
  show AWp _ _ _ _
  refine AWp.go [2] [] fun K hK => ?_
  simp
  refine ⟨by decide, hK _ _ ?_⟩
  clear hK K
  refine AWp.ret ?_
  simp

theorem c_Len_0 : Pure Tryz.prog 133 [.i .u64 0] (.i .i64 0) := by
  refine proc_of (cx Tryz.prog 8 [0, 2] [2]) 7 [.tmp 2] Tryz.func133 rfl rfl rfl rfl rfl rfl (Nat.le_refl _) rfl ?_
  refine AWp.go [0] [] fun K hK => ?_
  simp
  first | refine hK _ _ ?_ | refine ⟨by omega, hK _ _ ?_⟩ | refine ⟨by omega, by omega, hK _ _ ?_⟩
  clear hK K
  refine AWp.seq ?_
  refine AWp.cond (t := false) (by first | (simp; done) | (simp; omega)) (by simp) (fun _ => ?_)
  refine AWp.skip ?_
  show AWp _ _ _ _
  refine AWp.go [2] [] fun K hK => ?_
  simp
  refine call_pure (c_Len64_0) (by simp) ?_
  simp
  first | refine hK _ _ ?_ | refine ⟨by omega, hK _ _ ?_⟩ | refine ⟨by omega, by omega, hK _ _ ?_⟩
  clear hK K
  refine AWp.ret ?_
  simp



end Go.AM
namespace Go.AM

theorem pure_new0 {P : Program} {f sz : Nat} {args : List AV} (hf : ∃ fn c, P.funcs[f]? = some fn ∧ fn.body = some c ∧ (fn.name == "runtime.NumGoroutine") = false)
    (h : ∀ (w : World) (E : Env) (vs : Array Value), args.length = vs.size → (∀ (k : Nat) c, args[k]? = some c → Val E .no c (vs.getD k undef)) →
      Calls P f vs w fun e w' => ∃ cap cells T, e = .returned (.slice (some ⟨w.heap.size, 0, none⟩) 0 cap) ∧ w' = w.drew.alloc (.cells cells T) ∧ cells.size = cap * sz) : Pure P f args (.sl .own sz []) := by
  refine ⟨hf, fun w β ω Pub vs R hω hl hv => ?_⟩
  refine (h w _ vs hl hv).mono ?_
  rintro e w' ⟨cap, cells, T, rfl, rfl, hcs⟩
  have hω0 : ∀ bk, ω bk = none := fun bk => by
    cases hq : ω bk with
    | none => rfl
    | some q => have := hω bk q hq; cases q <;> simp [inBx] at this
  have hh : ∀ bk, bk < w.heap.size → (w.drew.alloc (.cells cells T)).heap[bk]? = w.heap[bk]? := fun bk hb => by
    show (w.heap.push _)[bk]? = _
    rw [Array.getElem?_push, if_neg (by omega)]
  have hn : (w.drew.alloc (.cells cells T)).heap[w.heap.size]? = some (.cells cells T (0, 0)) := by
    show (w.heap.push _)[w.heap.size]? = _
    rw [Array.getElem?_push, if_pos rfl]
  have hs : (w.drew.alloc (.cells cells T)).heap.size = w.heap.size + 1 := by
    show (w.heap.push _).size = _
    simp
  have hpl : ∀ bk, Pub bk → bk < w.heap.size := fun bk h => (R.pub bk h).1
  refine ⟨_, ⟨w.drew.alloc (.cells cells T), β, fun bk => if bk = w.heap.size then some (.slot 0 []) else none, Pub, St.ofBoxes [], #[]⟩, rfl, rfl, ⟨⟨rfl, fun t => .any _ _, fun id cs h => (by cases h), fun bk h => ⟨?_, ?_⟩, fun bk q h => ?_, fun id h => by cases h⟩, ⟨⟨rfl, Nat.le_succ _⟩, rfl, rfl, ?_, fun k hk _ => hh k hk, fun k q h => ?_, fun _ h => h, fun _ h => .inl h, fun _ _ => rfl⟩⟩, rfl, fun bk q h => ?_, ?_⟩
  · show bk < (w.drew.alloc _).heap.size
    rw [hs]; have := hpl bk h; omega
  · have := hpl bk h
    show (if bk = w.heap.size then some (Place.slot 0 []) else none) = none
    rw [if_neg (by omega)]
  · show bk < (w.drew.alloc _).heap.size
    rw [hs]
    have h' : (if bk = w.heap.size then some (Place.slot 0 []) else none) = some q := h
    split at h'
    · omega
    · cases h'
  · show w.heap.size ≤ (w.drew.alloc _).heap.size
    rw [hs]; omega
  · left
    have h' : (if k = w.heap.size then some (Place.slot 0 []) else none) = some q := h
    split at h'
    · show w.heap.size ≤ k; omega
    · cases h'
  · right
    have h' : (if bk = w.heap.size then some (Place.slot 0 []) else none) = some q := h
    split at h'
    · exact ⟨[], (Option.some.inj h').symm⟩
    · cases h'
  · refine .sl _ .own sz [] w.heap.size 0 cap (Nat.zero_le _) ⟨fun x hx => by simp at hx, fun k c hk => by simp at hk⟩ ⟨?_, cells, T, hn, rfl, hcs⟩ trivial
    show (if w.heap.size = w.heap.size then some (Place.slot 0 []) else none) = _
    rw [if_pos rfl]
end Go.AM
namespace Go.AM
open Go.Proofs Go.Shelf Go.RowKit Go.Lib
theorem pure_grow {P : Program} {ρ : Ren} (L : Lays8.n4 P ρ) {y : TI} (hy : ti P (ρ.t 25) = some y) (hs : 0 < y.size) (n : Nat) (h0 : 0 < n) (hb : n * y.bytes ≤ 140737488355328) (hn : n ≤ 4611686018427387904) :
    Pure P (ρ.f 4) [.sl .nl y.size [], .i .i64 n] (.sl .own y.size []) := by
  obtain ⟨oy⟩ := ti_ok hy
  obtain ⟨nm, h1, h2⟩ := L.f4
  refine pure_new0 ⟨_, _, h2, rfl, h1⟩ fun w E vs hl hv => ?_
  have hvs : vs = #[.slice none 0 0, .int .i64 n] := by
    have e0 := hv 0 _ rfl
    have e1 := hv 1 _ rfl
    have e2 : vs.getD 0 undef = .slice none 0 0 := by
      generalize vs.getD 0 undef = v at e0
      cases e0 with
      | sl0 => rfl
      | sl _ _ _ _ _ _ _ _ _ hg => exact hg.elim
    have e3 : vs.getD 1 undef = .int .i64 n := by
      generalize vs.getD 1 undef = v at e1
      cases e1; rfl
    have hsz : vs.size = 2 := hl.symm
    apply Array.ext
    · rw [hsz]; rfl
    · intro j hj hj2
      rw [hsz] at hj
      match j, hj with
      | 0, _ => rw [Array.getD_eq_getD_getElem?, Array.getElem?_eq_getElem (by omega)] at e2; exact e2
      | 1, _ => rw [Array.getD_eq_getD_getElem?, Array.getElem?_eq_getElem (by omega)] at e3; exact e3
  subst hvs
  have := Any8.slices_Grow_grow L oy.i oy.z oy.info oy.zero (by rw [oy.size]; exact hs) none 0 0 n [] w (Nat.le_refl _) (by omega) (by rw [oy.bytes, Nat.zero_add]; exact hb) (by omega) (by simp) (fun _ => rfl) (fun a h => by cases h)
  refine this.mono ?_
  rintro e w' ⟨rfl, rfl⟩
  refine ⟨_, _, _, rfl, rfl, ?_⟩
  have hg : n ≤ grownCap w (0 + n) 0 (ρ.t 25) := by have := grownCap_ge w (0 + n) 0 (ρ.t 25); omega
  simp only [Array.size_append, size_zeroCells, oy.zcs]
  simp only [List.size_toArray, List.length_nil, Nat.zero_add, Nat.sub_zero] at *
  rw [← Nat.add_mul]
  congr 1; omega
end Go.AM
namespace Go.AM
/-- Rows of rows. -/
def rowsL (sz : Nat) (ls : List (List (List AV))) : List (List AV) := ls.map fun l => [.sl .fro sz l]
@[simp] theorem rowsL_length (sz ls) : (rowsL sz ls).length = ls.length := by simp [rowsL]
@[simp] theorem rowsL_getElem (sz) (ls : List (List (List AV))) (i : Nat) (h : i < (rowsL sz ls).length) : (rowsL sz ls)[i] = [.sl .fro sz (ls[i]'(by simpa using h))] := by simp [rowsL]
def lenTo {α : Type} (ls : List (List α)) (i : Nat) : Nat := (ls.take i).flatten.length
theorem lenTo_succ {α : Type} (ls : List (List α)) (i : Nat) (h : i < ls.length) : lenTo ls (i + 1) = lenTo ls i + ls[i].length := by
  unfold lenTo
  rw [List.take_succ_eq_append_getElem h, List.flatten_append, List.length_append]
  simp only [List.flatten_cons, List.flatten_nil, List.append_nil]
theorem lenTo_le {α : Type} (ls : List (List α)) (i : Nat) : lenTo ls i ≤ ls.flatten.length := by
  unfold lenTo
  conv => rhs; rw [← List.take_append_drop i ls, List.flatten_append, List.length_append]
  omega
end Go.AM
namespace Go.AM
section
variable {C : Cx} {Q : Exit → St → Prop} {st : St}
end
end Go.AM
namespace Go.AM
theorem ren_calm (f : Nat → Option Nat) {x : AV} (hx : x.calm = true) : x.ren f = x := by
  cases x <;> first | rfl | (simp [AV.calm] at hx; done)
@[simp] theorem map_ren_calm {f : Nat → Option Nat} {cs : List AV} (h : Calm cs) : cs.map (AV.ren f) = cs := by
  have : cs.map (AV.ren f) = cs.map id := List.map_congr_left fun c hc => ren_calm f (h c hc)
  rw [this, List.map_id]
end Go.AM
namespace Go.AM
/-- A result whose new rows are given up. -/
theorem Pure.fro {P : Program} {f : Nat} {args : List AV} {r : AV} (h : Pure P f args r) : Pure P f args (r.tr (fzLeaf (isSlotOf 0)) (.slot 0 [])) := by
  refine ⟨h.1, fun w β ω Pub vs R hω hl hv => ?_⟩
  refine (h.2 w β ω Pub vs R hω hl hv).mono ?_
  rintro e w' ⟨v, E', rfl, rfl, I, hst, ho, hr⟩
  have I2 := I.fz (isSlotOf 0) fun _ => rfl
  refine ⟨v, E'.fz (isSlotOf 0), rfl, rfl, I2, ?_, fun bk q hq => ?_, ?_⟩
  · show E'.st.fz (isSlotOf 0) = _
    rw [hst]
    rfl
  · have h' : (E'.fz (isSlotOf 0)).ω bk = some q := hq
    simp only [Env.fz] at h'
    split at h'
    · rename_i q' hq'
      split at h'
      · cases h'
      · cases h'; exact ho bk q hq'
    · cases h'
  · exact hr.fz _
end Go.AM
namespace Go.AM
open Go.Proofs

end Go.AM
namespace Go.AM
open Go.Proofs

def ordP (l : List Dot) : List Dot := compD (sortD l)

end Go.AM
namespace Go.AM
open Go.Proofs


/-- One round of settling. -/
def setStep (s : Seen) (d : Dot) : Seen :=
  if d.2 ≤ getC s.upto d.1 then s else if d.2 = getC s.upto d.1 + 1 then ⟨setC s.upto d.1 d.2, s.more⟩ else ⟨s.upto, s.more ++ [d]⟩
def setTo (u : List Int) (l : List Dot) (i : Nat) : Seen := ((ordP l).take i).foldl setStep ⟨plainL (ofL u), []⟩
theorem plainL_len5 (f : List Int) : (plainL f).length ≤ 5 := by
  have := plainN_le f 5
  simp [plainL]; omega
def settled (u : List Int) (l : List Dot) : Seen := setTo u l (ordP l).length
def fullE (s : Seen) : Int := if s.more.length ≤ 1000 then 0 else 6
def fullS (s : Seen) : Seen := if s.more.length ≤ 1000 then s else ⟨[], []⟩

end Go.AM
namespace Go.AM

def rowQ (t id : Nat) (p : Place) : Option Place := if p = .slot t [] then some (.box id) else none

/-- A slot's own row becomes a box. -/
def St.unown (st : St) (t id sz : Nat) (xs : List (List AV)) (cap : Nat) : St :=
  (((st.take (rowQ t id)).killB id).put t (.bs id 0 xs.length cap)).setBox id (some (xs.flatten ++ List.replicate ((cap - xs.length) * sz) .any))

theorem abs_killB (st : St) (id : Nat) (q : Place) (sz : Nat) (xs : List (List AV)) : st.abs q = .sl .own sz xs ↔ (st.killB id).abs q = .sl .own sz xs := by
  have aux : ∀ (p : Place) (x : AV) sz xs, x = .sl .own sz xs ↔ x.tr (killBLeaf id) p = .sl .own sz xs := by
    intro p x sz xs
    cases x with
    | agg cs => simp [AV.tr]
    | tup cs => simp [AV.tr]
    | fn f fi ca => simp [AV.tr]
    | ptr i off => simp only [AV.tr, killBLeaf]; split <;> simp
    | bs i off n cap => simp only [AV.tr, killBLeaf]; split <;> simp
    | _ => simp [AV.tr, killBLeaf]
  unfold St.killB
  rw [St.abs_tr (fun _ => rfl) (killBLeaf_leaf id)]
  cases q with
  | slot t π => exact aux _ _ _ _
  | cell i off => exact aux _ _ _ _
  | _ => simp [St.abs]

theorem abs_take (st : St) (Q : Place → Option Place) (q : Place) (sz : Nat) (xs : List (List AV)) (h : (st.take Q).abs q = .sl .own sz xs) : st.abs q = .sl .own sz xs ∧ Q q = none := by
  have aux : ∀ (p : Place) (x : AV), x.tr (takeLeaf Q) p = .sl .own sz xs → x = .sl .own sz xs ∧ Q p = none := by
    intro p x h
    cases x with
    | agg cs => simp [AV.tr] at h
    | tup cs => simp [AV.tr] at h
    | fn f fi ca => simp [AV.tr] at h
    | sl g s ys =>
      rw [AV.tr_leaf rfl] at h
      cases g with
      | own =>
        simp only [takeLeaf] at h
        split at h
        · cases h
        · rename_i hq
          exact ⟨h, by simpa using hq⟩
      | vw q ex =>
        simp only [takeLeaf] at h
        split at h <;> cases h
      | _ => simp [takeLeaf] at h
    | pt g ix cells off =>
      rw [AV.tr_leaf rfl] at h
      cases g with
      | vw q ex =>
        simp only [takeLeaf] at h
        split at h <;> cases h
      | _ => simp [takeLeaf] at h
    | _ => simp [AV.tr, takeLeaf] at h
  unfold St.take at h
  rw [St.abs_tr (fun _ => rfl) (takeLeaf_leaf Q)] at h
  cases q with
  | slot t π => exact aux _ _ h
  | cell i off => exact aux _ _ h
  | _ => simp [St.abs] at h

theorem Rel.unown {N : Nat} {E : Env} (R : Rel N E) {t id bk sz cap : Nat} {xs : List (List AV)} {arr : Array Value} {T : TypeId} (htN : t < N) (ht : E.st.slots t = .sl .own sz xs) (hω : E.ω bk = some (.slot t [])) (hg : E.w.heap[bk]? = some (.cells arr T (0, 0)))
    (ha : arr.size = cap * sz) (hc : xs.length ≤ cap) (hrow : Row E.Pub E.w bk 0 sz xs) (hown0 : ∀ j sz xs, E.st.abs (.cell id j) ≠ .sl .own sz xs) (htm : E.tm.getD t undef = .slice (some ⟨bk, 0, none⟩) xs.length cap) (hid2 : parkM ≤ id → bk + parkM = id) :
    Rel N ⟨E.w, (fun i => if i = id then bk else E.β i), (E.take (rowQ t id)).ω, E.Pub, E.st.unown t id sz xs cap, E.tm⟩ := by
  let E1 := E.take (rowQ t id)
  let E' : Env := ⟨E.w, (fun i => if i = id then bk else E.β i), (E.take (rowQ t id)).ω, E.Pub, E.st.unown t id sz xs cap, E.tm⟩
  have R1 : Rel N E1 := R.take (rowQ t id) fun _ => by simp [rowQ]
  have R2 := R1.killB id
  have hown1 : ∀ j sz xs, E1.st.abs (.cell id j) ≠ .sl .own sz xs := fun j sz xs h => hown0 j sz xs (abs_take E.st _ _ _ _ h).1
  have hq : ∀ q sz xs, E1.st.abs q = .sl .own sz xs → rootNe t q ∧ (∀ j, q ≠ .cell id j) ∧ q ≠ .box id := by
    intro q sz' xs' h
    refine ⟨?_, fun j e => hown1 j sz' xs' (e ▸ h), fun e => by subst e; simp [St.abs] at h⟩
    obtain ⟨h1, h2⟩ := abs_take E.st _ _ _ _ h
    cases q with
    | slot t' π =>
      show t' ≠ t
      rintro rfl
      cases π with
      | nil => simp [rowQ] at h2
      | cons k π =>
        simp only [St.abs, ht, AV.at] at h1
        cases h1
    | _ => trivial
  have hno : rootNe t Place.no ∧ (∀ j, Place.no ≠ .cell id j) ∧ Place.no ≠ .box id := ⟨trivial, by simp, by simp⟩
  have hst : Stays (fun q => rootNe t q ∧ (∀ j, q ≠ .cell id j) ∧ q ≠ .box id) (fun i => i ≠ id) { E1 with st := E1.st.killB id } E' := by
    refine ⟨fun bk h => ⟨h, rfl⟩, fun bk q _ h => ⟨h, rfl⟩, fun i hi => by show (if i = id then bk else E.β i) = E.β i; rw [if_neg hi], ?_, ?_⟩
    · intro q u sz xs hr hab hc
      cases q with
      | slot t π => exact hc
      | cell i off =>
        have hi : i ≠ id := fun e => hr.2.1 off (by rw [e])
        show E.w.cell? ⟨if i = id then bk else E.β i, off, none⟩ = some u
        rw [if_neg hi]; exact hc
      | box _ => simp [Env.con] at hc
      | no => simp [Env.con] at hc
    · intro q sz xs hr hab
      cases q with
      | slot t' π =>
        have hne : t' ≠ t := hr.1
        show ((if t' = t then _ else ((E.st.take (rowQ t id)).killB id).slots t') : AV).at π = _
        rw [if_neg hne]; exact hab
      | cell i off =>
        have hi : i ≠ id := fun e => hr.2.1 off (by rw [e])
        show ((((E.st.unown t id _ _ cap).boxes i).getD []).getD off .any) = _
        simp only [St.unown, St.setBox, hi, if_false]; exact hab
      | box _ => simp [St.abs] at hab
      | no => simp [St.abs] at hab
  refine { size := R.size, slots := fun t' => ?_, boxes := fun i csi h => ?_, pub := R1.pub, own := R1.own, abs := fun i h hm => ?_ }
  · show Val E' (.slot t' []) (if t' = t then _ else ((E.st.take (rowQ t id)).killB id).slots t') (E.tm.getD t' undef)
    by_cases he : t' = t
    · subst he
      rw [if_pos rfl, htm]
      have := Val.bs (E := E') (.slot t' []) id 0 xs.length cap
      have hb : E'.β id = bk := by show (if id = id then bk else _) = bk; rw [if_pos rfl]
      rw [hb] at this
      exact this
    · rw [if_neg he]
      exact (R2.slots t').mono hst (R1.leansSlot hq hno t').killB
  · by_cases hi : i = id
    · subst hi
      have hcs : csi = xs.flatten ++ List.replicate ((cap - xs.length) * sz) .any := by
        have h' : (E.st.unown t i sz xs cap).boxes i = some csi := h
        simp only [St.unown, St.setBox, if_true] at h'
        exact (Option.some.inj h').symm
      have hb : E'.β i = bk := by show (if i = i then bk else _) = bk; rw [if_pos rfl]
      subst hcs
      have hfl := flatten_length hrow.1
      refine ⟨?_, arr, T, by rw [hb]; exact hg, ?_, fun j c hj => ?_⟩
      · rw [hb]
        show (match E.ω bk with | some q => some ((rowQ t i q).getD q) | none => none) = _
        rw [hω]
        simp [rowQ]
      · rw [ha, List.length_append, hfl, List.length_replicate, ← Nat.add_mul]
        congr 1; omega
      · by_cases hlt : j < xs.flatten.length
        · rw [List.getElem?_append_left hlt] at hj
          obtain ⟨u, hu, hd⟩ := hrow.2 j c hj
          have hja : j < arr.size := by
            rw [ha]
            rw [hfl] at hlt
            exact Nat.lt_of_lt_of_le hlt (Nat.mul_le_mul_right _ hc)
          have hue : arr.getD j undef = u := by
            simp [World.cell?, hg] at hu
            rw [Array.getD_eq_getD_getElem?]
            rw [hu]; rfl
          rw [hue]
          exact Dat.val (E := E') hd.1 _
        · rw [List.getElem?_append_right (by omega), List.getElem?_replicate] at hj
          split at hj
          · cases hj; exact .any _ _
          · cases hj
    · have h' : ((E.st.take (rowQ t id)).killB id).boxes i = some csi := by
        have h'' : (E.st.unown t id sz xs cap).boxes i = some csi := h
        simp only [St.unown, St.setBox, hi, if_false] at h''
        exact h''
      obtain ⟨h1, arr0, T0, h2, h3, h4⟩ := R2.boxes i csi h'
      have hbi : E'.β i = E.β i := by show (if i = id then bk else E.β i) = E.β i; rw [if_neg hi]
      refine ⟨by rw [hbi]; exact h1, arr0, T0, by rw [hbi]; exact h2, h3, fun j c hj => ?_⟩
      have h5 := h4 j c hj
      simp only [St.killB, St.tr, Option.map_eq_some_iff] at h'
      obtain ⟨cs0, hb0, rfl⟩ := h'
      rw [AV.trC_get] at hj
      obtain ⟨c0, hc0, rfl⟩ := Option.map_eq_some_iff.1 hj
      have := (R1.leansCell hq hno (show E1.st.boxes i = some cs0 from hb0) hc0).killB (id := id)
      simp only [Nat.zero_add] at this h5 ⊢
      exact h5.mono hst this
  · by_cases hi : i = id
    · subst hi
      show (if i = i then bk else _) + parkM = i
      rw [if_pos rfl]; exact hid2 hm
    · show (if i = id then bk else E.β i) + parkM = i
      rw [if_neg hi]
      refine R2.abs i ?_ hm
      have h' : ((E.st.unown t id sz xs cap).boxes i).isSome = true := h
      simp only [St.unown, St.setBox, hi, if_false] at h'
      exact h'
end Go.AM
namespace Go.AM
/-- A box's row becomes a slot's own. -/
def St.reown (st : St) (d id sz : Nat) (ys : List (List AV)) : St := ((st.killB id).setBox id none).put d (.sl .own sz ys)

theorem Rel.reown {N : Nat} {E : Env} (R : Rel N E) {d id sz cap : Nat} {ys : List (List AV)} {pad : List AV} (hsz : 0 < sz) (hs : E.st.slots d = .bs id 0 ys.length cap) (hb : E.st.boxes id = some (ys.flatten ++ pad)) (hlen : (ys.flatten ++ pad).length = cap * sz)
    (hy : ∀ y ∈ ys, y.length = sz) (hdat : (ys.flatten.all fun c => c.data && c.cellOk) = true) (hfr : AV.freeL (ys.flatten ++ pad) = true) :
    Rel N ⟨E.w, E.β, (fun bk => if E.ω bk = some (.box id) then some (.slot d []) else E.ω bk), E.Pub, E.st.reown d id sz ys, E.tm⟩ := by
  let E' : Env := ⟨E.w, E.β, (fun bk => if E.ω bk = some (.box id) then some (.slot d []) else E.ω bk), E.Pub, E.st.reown d id sz ys, E.tm⟩
  have R2 := R.killB id
  have hq : ∀ q sz xs, E.st.abs q = .sl .own sz xs → rootNe d q ∧ (∀ j, q ≠ .cell id j) ∧ q ≠ .box id := by
    intro q sz' xs' h
    refine ⟨?_, fun j e => ?_, fun e => by subst e; simp [St.abs] at h⟩
    · cases q with
      | slot t' π =>
        show t' ≠ d
        rintro rfl
        cases π with
        | nil =>
          simp only [St.abs, hs] at h
          cases h
        | cons k π =>
          simp only [St.abs, hs, AV.at] at h
          cases h
      | _ => trivial
    · subst e
      simp only [St.abs, hb, Option.getD_some, List.getD_eq_getElem?_getD] at h
      cases hj : (ys.flatten ++ pad)[j]? with
      | none => rw [hj] at h; cases h
      | some c =>
        rw [hj] at h
        have := AV.freeL_get hfr hj
        simp only [Option.getD_some] at h
        rw [h] at this
        simp [AV.free] at this
  have hno : rootNe d Place.no ∧ (∀ j, Place.no ≠ .cell id j) ∧ Place.no ≠ .box id := ⟨trivial, by simp, by simp⟩
  have hst : Stays (fun q => rootNe d q ∧ (∀ j, q ≠ .cell id j) ∧ q ≠ .box id) (fun i => i ≠ id) { E with st := E.st.killB id } E' := by
    refine ⟨fun bk h => ⟨h, rfl⟩, fun bk q hq h => ⟨?_, rfl⟩, fun i hi => rfl, ?_, ?_⟩
    · show (if E.ω bk = some (.box id) then some (Place.slot d []) else E.ω bk) = some q
      have h' : E.ω bk = some q := h
      rw [h', if_neg (by simp [hq.2.2])]
    · intro q u sz xs hr hab hc
      cases q <;> exact hc
    · intro q sz xs hr hab
      cases q with
      | slot t' π =>
        have hne : t' ≠ d := hr.1
        show ((if t' = d then _ else (E.st.killB id).slots t') : AV).at π = _
        rw [if_neg hne]; exact hab
      | cell i off =>
        have hi : i ≠ id := fun e => hr.2.1 off (by rw [e])
        show ((((E.st.reown d id _ ys).boxes i).getD []).getD off .any) = _
        simp only [St.reown, St.put, St.setBox, hi, if_false]; exact hab
      | box _ => simp [St.abs] at hab
      | no => simp [St.abs] at hab
  obtain ⟨g1, arr, T, g2, g3, g4⟩ := R.boxes id _ hb
  refine { size := R.size, slots := fun t' => ?_, boxes := fun i csi h => ?_, pub := fun bk h => ⟨(R.pub bk h).1, ?_⟩, own := fun bk q h => ?_, abs := fun i h hm => ?_ }
  · show Val E' (.slot t' []) (if t' = d then _ else (E.st.killB id).slots t') (E.tm.getD t' undef)
    by_cases he : t' = d
    · subst he
      rw [if_pos rfl]
      have hv := R.slots t'
      rw [hs] at hv
      generalize E.tm.getD t' undef = v at hv
      cases hv
      have hfl := flatten_length hy
      have hcap : ys.length ≤ cap := by
        rw [List.length_append, hfl] at hlen
        exact Nat.le_of_mul_le_mul_right (by omega : ys.length * sz ≤ cap * sz) hsz
      refine .sl _ .own sz ys (E.β id) 0 cap hcap ⟨hy, fun j c hj => ?_⟩ ⟨?_, arr, T, g2, rfl, by rw [g3]; exact hlen⟩ trivial
      · have hlt := (List.getElem?_eq_some_iff.1 hj).1
        have hvc := g4 j c (by rw [List.getElem?_append_left hlt]; exact hj)
        have hja : j < arr.size := by rw [g3, List.length_append]; omega
        rw [List.all_eq_true] at hdat
        have hcc := hdat c (List.mem_of_getElem? hj)
        simp only [Bool.and_eq_true] at hcc
        rw [Array.getD_eq_getD_getElem?, Array.getElem?_eq_getElem hja] at hvc
        refine ⟨arr[j], ?_, hvc.dat hcc.1, oneCell_dat (hvc.dat hcc.1) hcc.2⟩
        show E.w.cell? _ = _
        simp [World.cell?, g2, hja]
      · show (if E.ω (E.β id) = some (.box id) then some (Place.slot t' []) else E.ω (E.β id)) = _
        rw [if_pos g1]
    · rw [if_neg he]
      exact (R2.slots t').mono hst (R.leansSlot hq hno t').killB
  · by_cases hi : i = id
    · subst hi
      have h' : (E.st.reown d i sz ys).boxes i = some csi := h
      simp only [St.reown, St.put, St.setBox, if_true] at h'
      cases h'
    · have h' : (E.st.killB id).boxes i = some csi := by
        have h'' : (E.st.reown d id sz ys).boxes i = some csi := h
        simp only [St.reown, St.put, St.setBox, hi, if_false] at h''
        exact h''
      obtain ⟨h1, arr0, T0, h2, h3, h4⟩ := R2.boxes i csi h'
      refine ⟨?_, arr0, T0, h2, h3, fun j c hj => ?_⟩
      · show (if E.ω (E.β i) = some (.box id) then some (Place.slot d []) else E.ω (E.β i)) = _
        have h1' : E.ω (E.β i) = some (.box i) := h1
        rw [h1', if_neg (by simp [hi])]
      · have h5 := h4 j c hj
        simp only [St.killB, St.tr, Option.map_eq_some_iff] at h'
        obtain ⟨cs0, hb0, rfl⟩ := h'
        rw [AV.trC_get] at hj
        obtain ⟨c0, hc0, rfl⟩ := Option.map_eq_some_iff.1 hj
        have := (R.leansCell hq hno hb0 hc0).killB (id := id)
        simp only [Nat.zero_add] at this h5 ⊢
        exact h5.mono hst this
  · show (if E.ω bk = some (.box id) then some (Place.slot d []) else E.ω bk) = none
    rw [(R.pub bk h).2, if_neg (by simp)]
  · have h' : (if E.ω bk = some (.box id) then some (Place.slot d []) else E.ω bk) = some q := h
    split at h'
    · rename_i h2; exact R.own bk _ h2
    · exact R.own bk q h'
  · by_cases hi : i = id
    · subst hi
      have h' : ((E.st.reown d i sz ys).boxes i).isSome = true := h
      simp [St.reown, St.put, St.setBox] at h'
    · have h' : ((E.st.reown d id sz ys).boxes i).isSome = true := h
      simp only [St.reown, St.put, St.setBox, hi, if_false] at h'
      exact R2.abs i h' hm

theorem Inv.unown {N : Nat} {S : Start} {E : Env} (I : Inv N S E) {t id sz : Nat} {xs : List (List AV)} (htN : t < N) (ht : E.st.slots t = .sl .own sz xs) (hne : xs ≠ []) (hid : E.st.boxes id = none) (hk : S.k ≤ id) (hp : id < parkM) :
    ∃ cap E', xs.length ≤ cap ∧ E'.w = E.w ∧ E'.tm = E.tm ∧ Inv N S E' ∧ E'.st = E.st.unown t id sz xs cap := by
  have hv := I.rel.slots t
  rw [ht] at hv
  generalize hvv : E.tm.getD t undef = v at hv
  cases hv with
  | sl0 => exact absurd rfl hne
  | sl _ _ _ _ bk off cap hc hr hg ha =>
    obtain ⟨h1, arr, T, h2, h3, h4⟩ := hg
    subst h3
    have R' := I.rel.unown (id := id) htN ht h1 h2 h4 hc hr (fun j sz xs h => by simp [St.abs, hid] at h) hvv (fun h => by omega)
    refine ⟨cap, ⟨E.w, (fun i => if i = id then bk else E.β i), (E.take (rowQ t id)).ω, E.Pub, E.st.unown t id sz xs cap, E.tm⟩, hc, rfl, rfl, ⟨R', ⟨I.fr.os, I.fr.tape, I.fr.output, I.fr.size, I.fr.block, fun k q h => ?_, I.fr.pub0, I.fr.pub1, fun i hi => ?_⟩⟩, rfl⟩
    · have h' : (match E.ω k with | some q => some ((rowQ t id q).getD q) | none => none) = some q := h
      split at h'
      · rename_i q' hq'; exact I.fr.own k q' hq'
      · cases h'
    · show (if i = id then bk else E.β i) = _
      rw [if_neg (by omega)]
      exact I.fr.beta i hi

theorem Inv.reown {N : Nat} {S : Start} {E : Env} (I : Inv N S E) {d id sz cap : Nat} {ys : List (List AV)} {pad : List AV} (hsz : 0 < sz) (hs : E.st.slots d = .bs id 0 ys.length cap) (hb : E.st.boxes id = some (ys.flatten ++ pad)) (hlen : (ys.flatten ++ pad).length = cap * sz)
    (hy : ∀ y ∈ ys, y.length = sz) (hdat : (ys.flatten.all fun c => c.data && c.cellOk) = true) (hfr : AV.freeL (ys.flatten ++ pad) = true) :
    ∃ E', E'.w = E.w ∧ E'.tm = E.tm ∧ Inv N S E' ∧ E'.st = E.st.reown d id sz ys := by
  refine ⟨⟨E.w, E.β, (fun bk => if E.ω bk = some (.box id) then some (.slot d []) else E.ω bk), E.Pub, E.st.reown d id sz ys, E.tm⟩, rfl, rfl, ⟨I.rel.reown hsz hs hb hlen hy hdat hfr, ⟨I.fr.os, I.fr.tape, I.fr.output, I.fr.size, I.fr.block, fun k q h => ?_, I.fr.pub0, I.fr.pub1, I.fr.beta⟩⟩, rfl⟩
  have h' : (if E.ω k = some (.box id) then some (Place.slot d []) else E.ω k) = some q := h
  split at h'
  · rename_i h2; exact I.fr.own k _ h2
  · exact I.fr.own k q h'

/-- Operations of a region from one on, as they turn a state; ghost steps may stand between them. -/
def SOps (C : Cx) (ops : Array Oper) (k : Nat) (l : List Oper) (st : St) (K : St → Prop) : Prop :=
  ∀ (S : Start) (E : Env) (a : Act), S.k ≤ C.base → Inv C.N S E → a.tmps = E.tm → a.defers = [] → E.st = st → ∀ R : Exit → Act → World → Prop,
    (∀ E a, Inv C.N S E → a.tmps = E.tm → a.defers = [] → K E.st → R .normal a E.w) → wpOps C.P ops R (List.range' k l.length) a E.w

section
variable {C : Cx} {Q : Exit → St → Prop} {st : St}
theorem SOps.nil {ops : Array Oper} {k : Nat} {K : St → Prop} (h : K st) : SOps C ops k [] st K := by
  intro S E a hb I ha hd he R hR
  exact hR E a I ha hd (by rw [he]; exact h)

theorem aops_soundQ {S : Start} (hbase : S.k ≤ C.base) {ops : Array Oper} {K : St → Prop} {R : Exit → Act → World → Prop} : ∀ (l r : List Oper) (k : Nat), ops.toList.drop k = l ++ r →
    (∀ E a, Inv C.N S E → a.tmps = E.tm → a.defers = [] → K E.st → wpOps C.P ops R (List.range' (k + l.length) r.length) a E.w) →
    ∀ (E : Env) (a : Act), Inv C.N S E → a.tmps = E.tm → a.defers = [] → aops C ops l E.st K → wpOps C.P ops R (List.range' k (l ++ r).length) a E.w := by
  intro l
  induction l with
  | nil => intro r k _ hR E a I ha hd h; exact hR E a I ha hd h
  | cons o l ih =>
    intro r k hl hR E a I ha hd h
    have ho : ops[k]? = some o := by
      rw [← Array.getElem?_toList]
      have := congrArg (·[0]?) hl
      simpa [List.getElem?_drop] using this
    have hrest : ops.toList.drop (k + 1) = l ++ r := by
      have := congrArg List.tail hl
      simpa [List.tail_drop] using this
    rw [List.cons_append, List.length_cons, List.range'_succ]
    simp only [wpOps]
    have := aops_head (C := C) (ops := ops) (R := R) (next := wpOps C.P ops R (List.range' (k + 1) (l ++ r).length)) I hbase ha hd ho h fun E' a' I' ha' hd' h' =>
      ih r (k + 1) hrest (fun E a I ha hd hK => by rw [show k + 1 + l.length = k + (o :: l).length by simp; omega]; exact hR E a I ha hd hK) E' a' I' ha' hd' h'
    exact this

theorem SOps.cut (n : Nat) {ops : Array Oper} {k : Nat} {l : List Oper} {K : St → Prop} (hl : ops.toList.drop k = l) (h : ∀ K' : St → Prop, (∀ m bx, SOps C ops (k + (l.take n).length) (l.drop n) (St.of m bx) K → K' (St.of m bx)) → aops C ops (l.take n) st K') : SOps C ops k l st K := by
  intro S E a hb I ha hd he R hR
  have h1 := h (fun s => SOps C ops (k + (l.take n).length) (l.drop n) s K) fun _ _ h => h
  have := aops_soundQ (C := C) hb (ops := ops) (K := fun s => SOps C ops (k + (l.take n).length) (l.drop n) s K) (R := R) (l.take n) (l.drop n) k (by rw [List.take_append_drop]; exact hl)
    (fun E a I ha hd hK => hK S E a hb I ha hd rfl R hR) E a I ha hd (by rw [he]; exact h1)
  rwa [List.take_append_drop] at this

theorem SOps.unown (t id : Nat) {sz : Nat} {xs : List (List AV)} {ops : Array Oper} {k : Nat} {l : List Oper} {K : St → Prop} (ht : st.slots t = .sl .own sz xs) (hN : t < C.N) (hne : xs ≠ []) (hid : st.boxes id = none) (hb : C.base ≤ id ∧ id < 1000000)
    (h : ∀ cap, xs.length ≤ cap → SOps C ops k l (st.unown t id sz xs cap) K) : SOps C ops k l st K := by
  intro S E a hbs I ha hd he R hR
  subst he
  obtain ⟨cap, E', h1, h2, h3, h4, h5⟩ := I.unown hN ht hne hid (Nat.le_trans hbs hb.1) hb.2
  have := h cap h1 S E' a hbs h4 (by rw [ha, h3]) hd h5 R hR
  rwa [h2] at this

theorem SOps.reown (d id cap : Nat) {sz : Nat} (ys : List (List AV)) (pad : List AV) {ops : Array Oper} {k : Nat} {l : List Oper} {K : St → Prop} (hsz : 0 < sz) (hs : st.slots d = .bs id 0 ys.length cap) (hbx : st.boxes id = some (ys.flatten ++ pad)) (hlen : (ys.flatten ++ pad).length = cap * sz)
    (hy : ∀ y ∈ ys, y.length = sz) (hdat : (ys.flatten.all fun c => c.data && c.cellOk) = true) (hfr : AV.freeL (ys.flatten ++ pad) = true) (h : SOps C ops k l (st.reown d id sz ys) K) : SOps C ops k l st K := by
  intro S E a hbs I ha hd he R hR
  subst he
  obtain ⟨E', h2, h3, h4, h5⟩ := I.reown hsz hs hbx hlen hy hdat hfr
  have := h S E' a hbs h4 (by rw [ha, h3]) hd h5 R hR
  rwa [h2] at this

theorem AWp.sregion {id : Nat} {ops : Array Oper} (h : SOps C ops 0 ops.toList st (Q .normal)) : AWp C (.region id ops false) st Q := by
  intro S E a hb I ha hd he
  refine wp_region ?_
  have := h S E a hb I ha hd he (APost C S Q) (fun E a I ha hd h => ⟨E, rfl, I, ha, hd, h⟩)
  rw [List.range_eq_range']
  simpa using this

/-- A region with ghost steps between its operations. -/
theorem AWp.goS (ks kb : List Nat) {id : Nat} {ops : Array Oper} {y : Code} (h : ∀ K : St → Prop, (∀ l bx, AWp C y (St.of l bx) Q → K (St.of l bx)) → SOps C ops 0 ops.toList st fun s => K (St.of (seeS ks kb s ks) (seeB ks kb s kb))) : AWp C (.seq (.region id ops false) y) st Q := by
  refine AWp.seq (AWp.post (fun _ => (ks, kb)) ((AWp.sregion (Q := fun e s => thenQ (fun s => AWp C y (s.clean ks kb) Q) (fun _ _ => False) e s) ?_).mono ?_))
  · have := h (fun s => AWp C y s Q) fun _ _ h => h
    simp only [← St.clean_eq] at this
    exact this
  · intro e s hs
    cases e with
    | normal => exact hs
    | _ => exact hs.elim

theorem AWp.unown (t id : Nat) {sz : Nat} {xs : List (List AV)} {c : Code} (ht : st.slots t = .sl .own sz xs) (hN : t < C.N) (hne : xs ≠ []) (hid : st.boxes id = none) (hb : C.base ≤ id ∧ id < 1000000) (h : ∀ cap, xs.length ≤ cap → AWp C c (st.unown t id sz xs cap) Q) : AWp C c st Q := by
  intro S E a hbs I ha hd he
  subst he
  obtain ⟨cap, E', h1, h2, h3, h4, h5⟩ := I.unown hN ht hne hid (Nat.le_trans hbs hb.1) hb.2
  have := h cap h1 S E' a hbs h4 (by rw [ha, h3]) hd h5
  rwa [h2] at this

theorem AWp.reown (d id cap : Nat) {sz : Nat} (ys : List (List AV)) (pad : List AV) {c : Code} (hsz : 0 < sz) (hs : st.slots d = .bs id 0 ys.length cap) (hbx : st.boxes id = some (ys.flatten ++ pad)) (hlen : (ys.flatten ++ pad).length = cap * sz)
    (hy : ∀ y ∈ ys, y.length = sz) (hdat : (ys.flatten.all fun c => c.data && c.cellOk) = true) (hfr : AV.freeL (ys.flatten ++ pad) = true) (h : AWp C c (st.reown d id sz ys) Q) : AWp C c st Q := by
  intro S E a hbs I ha hd he
  subst he
  obtain ⟨E', h2, h3, h4, h5⟩ := I.reown hsz hs hbx hlen hy hdat hfr
  have := h S E' a hbs h4 (by rw [ha, h3]) hd h5
  rwa [h2] at this
end
attribute [simp] St.unown St.reown rowQ
end Go.AM
namespace Go.AM
@[simp] theorem St.of_setNone {m : List (Nat × AV)} {bx : Boxes} {id : Nat} : (St.of m bx).setBox id none = (St.of m bx).dropB [id] := by
  refine St.ext' (fun t => rfl) (fun i => ?_)
  show (if i = id then none else (St.of m bx).boxes i) = if [id].contains i then none else (St.of m bx).boxes i
  by_cases h : i = id
  · subst h; simp
  · simp [h]
end Go.AM
namespace Go.AM
open Go.Proofs

/-- The dots that a clock has not. -/
def leftD (l : List Dot) (c : List Int) : List Dot := l.filter fun d => !decide (d.2 ≤ getC c d.1)

end Go.AM
namespace Go.AM

/-! ### clocks -/
def okN (n : Int) : Prop := 0 ≤ n ∧ n ≤ 1048576

theorem clockOk_iff (c : List Int) : clockOk c = true ↔ c.length ≤ 5 ∧ ∀ n ∈ c, okN n := by
  simp only [clockOk, Bool.and_eq_true, decide_eq_true_eq, Bool.not_eq_true', List.any_eq_false]
  refine and_congr Iff.rfl ⟨fun h n hn => ?_, fun h n hn => ?_⟩
  · have := h n hn
    simp [badN] at this
    exact this
  · have := h n hn
    simp [badN, okN] at this ⊢
    exact this

theorem plainN_zero (f : List Int) : ∀ n k, plainN f n ≤ k → k < n → f.getD k 0 = 0
  | 0, k, _, h => by omega
  | n + 1, k, h1, h2 => by
    unfold plainN at h1
    split at h1
    · rename_i h0
      by_cases hk : k = n
      · rw [hk]; exact h0
      · exact plainN_zero f n k h1 (by omega)
    · omega

theorem ofL_plainL {f : List Int} (hf : f.length = 5) (hok : ∀ n ∈ f, okN n) : clockOk (plainL f) = true ∧ ofL (plainL f) = f := by
  have h5 := plainN_le f 5
  have hc : clockOk (plainL f) = true := by
    rw [clockOk_iff]
    refine ⟨plainL_len5 f, fun n hn => hok n (List.mem_of_mem_take hn)⟩
  refine ⟨hc, ?_⟩
  unfold ofL
  rw [if_pos hc]
  have hl : (plainL f).length = plainN f 5 := by unfold plainL; rw [List.length_take]; omega
  apply List.ext_getElem
  · rw [List.length_append, hl, List.length_replicate, hf]; omega
  · intro i h1 h2
    by_cases hi : i < plainN f 5
    · rw [List.getElem_append_left (by omega)]
      simp [plainL]
    · rw [List.getElem_append_right (by omega), List.getElem_replicate]
      have := plainN_zero f 5 i (by omega) (by omega)
      rw [List.getD_eq_getElem?_getD, List.getElem?_eq_getElem h2] at this
      exact this.symm

theorem ofL_ok (c : List Int) : (ofL c).length = 5 ∧ ∀ n ∈ ofL c, okN n := by
  refine ⟨ofL_length c, fun n hn => ?_⟩
  unfold ofL at hn
  split at hn
  · rename_i h
    rw [clockOk_iff] at h
    rcases List.mem_append.1 hn with h1 | h1
    · exact h.2 n h1
    · rw [List.eq_of_mem_replicate h1]; exact ⟨by omega, by omega⟩
  · simp at hn; subst hn; exact ⟨by omega, by omega⟩

/-- Two lists of five are the same if they are at each place. -/
theorem five_ext {f g : List Int} (hf : f.length = 5) (hg : g.length = 5) (h : ∀ k, k < 5 → f.getD k 0 = g.getD k 0) : f = g := by
  apply List.ext_getElem (by omega)
  intro i h1 h2
  have := h i (by omega)
  rw [List.getD_eq_getElem?_getD, List.getD_eq_getElem?_getD, List.getElem?_eq_getElem h1, List.getElem?_eq_getElem h2] at this
  exact this

/-- A plain clock. -/
def Pl (u : List Int) : Prop := clockOk u = true ∧ plainL (ofL u) = u

theorem Pl.plain {f : List Int} (hf : f.length = 5) (hok : ∀ n ∈ f, okN n) : Pl (plainL f) := by
  obtain ⟨h1, h2⟩ := ofL_plainL hf hok
  exact ⟨h1, by rw [h2]⟩
theorem Pl.of (c : List Int) : Pl (plainL (ofL c)) := Pl.plain (ofL_ok c).1 (ofL_ok c).2

theorem Pl.ext {u v : List Int} (hu : Pl u) (hv : Pl v) (h : ∀ rep, 1 ≤ rep → rep ≤ 5 → getC u rep = getC v rep) : u = v := by
  rw [← hu.2, ← hv.2]
  congr 1
  refine five_ext (ofL_length u) (ofL_length v) fun k hk => ?_
  have := h (k + 1) (by omega) (by omega)
  rwa [getC_at u k hk, getC_at v k hk] at this

/-! ### order -/
def LT (a b : Dot) : Prop := a.1 < b.1 ∨ a.1 = b.1 ∧ a.2 < b.2
theorem LT.trans {a b c : Dot} (h1 : LT a b) (h2 : LT b c) : LT a c := by unfold LT at *; omega
theorem LT.irrefl (a : Dot) : ¬ LT a a := by unfold LT; omega
theorem LT.tri (a b : Dot) : LT a b ∨ a = b ∨ LT b a := by
  unfold LT
  rcases a with ⟨a1, a2⟩
  rcases b with ⟨b1, b2⟩
  simp only [Prod.mk.injEq]
  omega
abbrev Sorted (l : List Dot) : Prop := l.Pairwise LT

theorem Sorted.ext : ∀ {l m : List Dot}, Sorted l → Sorted m → (∀ d, d ∈ l ↔ d ∈ m) → l = m
  | [], [], _, _, _ => rfl
  | [], y :: m, _, _, h => by have := (h y).2 (by simp); simp at this
  | x :: l, [], _, _, h => by have := (h x).1 (by simp); simp at this
  | x :: l, y :: m, h1, h2, h => by
    rw [Sorted, List.pairwise_cons] at h1 h2
    have hxy : x = y := by
      rcases LT.tri x y with h3 | h3 | h3
      · exfalso
        rcases List.mem_cons.1 ((h x).1 (by simp)) with h4 | h4
        · subst h4; exact LT.irrefl _ h3
        · exact LT.irrefl _ ((h2.1 x h4).trans h3)
      · exact h3
      · exfalso
        rcases List.mem_cons.1 ((h y).2 (by simp)) with h4 | h4
        · subst h4; exact LT.irrefl _ h3
        · exact LT.irrefl _ ((h1.1 y h4).trans h3)
    subst hxy
    congr 1
    refine Sorted.ext h1.2 h2.2 fun d => ⟨fun hd => ?_, fun hd => ?_⟩
    · rcases List.mem_cons.1 ((h d).1 (by simp [hd])) with h4 | h4
      · subst h4; exact absurd (h1.1 d hd) (LT.irrefl _)
      · exact h4
    · rcases List.mem_cons.1 ((h d).2 (by simp [hd])) with h4 | h4
      · subst h4; exact absurd (h2.1 d hd) (LT.irrefl _)
      · exact h4

def LE (a b : Dot) : Prop := ¬ LT b a
end Go.AM
namespace Go.AM
open Go.Proofs

structure Entry where
  key : ByteArray
  live : List Dot
  dead : List Dot
def entC (e : Entry) : List AV := [.s e.key, .sl .fro 2 (dotsAV e.live), .sl .fro 2 (dotsAV e.dead)]
def entsAV (l : List Entry) : List (List AV) := l.map entC
@[simp] theorem entsAV_length (l : List Entry) : (entsAV l).length = l.length := by simp [entsAV]
@[simp] theorem entsAV_getElem (l : List Entry) (i : Nat) (h : i < (entsAV l).length) : (entsAV l)[i] = [.s (l[i]'(by simpa using h)).key, .sl .fro 2 (dotsAV (l[i]'(by simpa using h)).live), .sl .fro 2 (dotsAV (l[i]'(by simpa using h)).dead)] := by simp [entsAV, entC]

def eqK (a b : ByteArray) : Bool := a.toList == b.toList
def ltK (a b : ByteArray) : Bool := Op.bytesLess a.toList b.toList
def leK (a b : ByteArray) : Bool := ltK a b || eqK a b
def keyOk (k : ByteArray) : Bool := !eqK k ByteArray.empty && decide ((k.size : Int) ≤ 32)


/-- May the i-th dot stand there? -/
def rowOk (l : List Dot) (i : Nat) : Bool := match l[i]? with
  | some d => mayD d && (!decide (0 < i) || ltD (l.getD (i - 1) (0, 0)) d)
  | none => false
def rowsB (l : List Dot) : Bool := (List.range l.length).all (rowOk l)


/-- The document's rows. -/
def rowsR (l : List Dot) : Bool := l.all mayD && decide (ordD l = l)
theorem Sorted.of_adj {l : List Dot} (h : ∀ i (hi : i + 1 < l.length), LT (l[i]'(by omega)) l[i + 1]) : Sorted l := by
  induction l with
  | nil => exact List.Pairwise.nil
  | cons a l ih =>
    have hl : Sorted l := ih fun i hi => h (i + 1) (by simpa using hi)
    refine List.Pairwise.cons (fun b hb => ?_) hl
    match l, hl, hb, h with
    | c :: m, hl, hb, h =>
      have h0 : LT a c := by simpa using h 0 (by simp)
      rcases List.mem_cons.1 hb with rfl | hb
      · exact h0
      · exact h0.trans (List.rel_of_pairwise_cons hl hb)
def lightE (e : Entry) : Bool := !decide ((100 : Int) < e.key.size) && !decide ((30 : Int) < e.live.length) && !decide ((30 : Int) < e.dead.length)
def lightB (s : List Entry) : Bool := s.all lightE && decide (s.length ≤ 30)


def Fine (s : List Entry) : Prop := s.length ≤ 1000000 ∧ ∀ e ∈ s, e.live.length ≤ 1000000 ∧ e.dead.length ≤ 1000000
/-- May an entry stand behind a key? -/
def entOk (p : ByteArray) (e : Entry) : Bool := keyOk e.key && !leK e.key p && !decide ((e.live.length : Int) + e.dead.length = 0) && rowsB e.live && rowsB e.dead
def prevK (s : List Entry) (i : Nat) : ByteArray := if i = 0 then ByteArray.empty else match s[i - 1]? with
  | some e => e.key
  | none => ByteArray.empty
def entAt (s : List Entry) (i : Nat) : Bool := match s[i]? with
  | some e => entOk (prevK s i) e
  | none => false
def setOk (s : List Entry) : Bool := decide ((s.length : Int) ≤ 4000) && (List.range s.length).all (entAt s)
end Go.AM
namespace Go.AM
open Go.Proofs
def sameE (a b : Entry) : Bool := eqK a.key b.key && decide (a.live = b.live) && decide (a.dead = b.dead)
def sameB (a b : List Entry) : Bool := decide (a.length = b.length) && (List.range a.length).all fun i => match a[i]?, b[i]? with
  | some x, some y => sameE x y
  | _, _ => false


def emptyE (k : ByteArray) : Entry := ⟨k, [], []⟩
def getE (s : List Entry) (k : ByteArray) : Entry := (s.find? fun e => eqK e.key k).getD (emptyE k)

end Go.AM
namespace Go.AM

end Go.AM
namespace Go.AM
open Go.Proofs Go.Shelf Go.RowKit Go.Lib
end Go.AM
namespace Go.Proofs
def Tryz.cmpS_ren : Go.Shelf.Ren := ⟨fun | 106 => 64 | 213 => 117 | 265 => 141 | n => n, fun | 3 => 3 | 9 => 9 | n => n, fun | n => n⟩
end Go.Proofs
namespace Go.AM
open Go.Proofs
def cmpK (a b : ByteArray) : Int := Lib.compareBytes a.data.toList b.data.toList
def bsF (p : Nat → Bool) (lo hi : Nat) : Nat := if lo < hi then (if p ((lo + hi) / 2) then bsF p ((lo + hi) / 2 + 1) hi else bsF p lo ((lo + hi) / 2)) else lo
termination_by hi - lo
decreasing_by all_goals omega
theorem bsF_done (p : Nat → Bool) (n : Nat) : bsF p n n = n := by rw [bsF, if_neg (Nat.lt_irrefl n)]
theorem mid_wrap {lo hi m : Nat} (h : lo + hi ≤ 4611686018427387904) (hm : m = (lo + hi) / 2) : IntKind.i64.wrap ((IntKind.u64.wrap ((lo : Int) + hi)).fdiv (2 ^ min 1 IntKind.u64.bits)) = m := by
  have w1 : IntKind.u64.wrap ((lo : Int) + hi) = lo + hi := by
    unfold IntKind.wrap
    simp [IntKind.bits, IntKind.signed]
    omega
  have e1 : (2 : Int) ^ min 1 IntKind.u64.bits = 2 := rfl
  rw [w1, e1, Int.fdiv_eq_ediv_of_nonneg _ (by omega), show ((lo : Int) + hi) / 2 = (m : Int) by omega]
  exact wrap64 (by omega) (by omega)
def less (s : List Entry) (k : ByteArray) (i : Nat) : Bool := match s[i]? with
  | some e => decide (cmpK e.key k < 0)
  | none => false
def place (s : List Entry) (k : ByteArray) : Nat := bsF (less s k) 0 s.length
def there (s : List Entry) (k : ByteArray) : Bool := match s[place s k]? with
  | some e => decide (cmpK e.key k = 0)
  | none => false


def atE (s : List Entry) (k : ByteArray) : Entry := if there s k then s.getD (place s k) (emptyE k) else emptyE k
end Go.AM
namespace Go.AM

/-- Rows of data, all of one length. -/
def Rows (k : Nat) (R : List (List AV)) : Prop := ∀ r ∈ R, r.length = k ∧ Calm r ∧ allDat r = true

def boxF (R : List (List AV)) (pad : List AV) : List AV := R.flatten ++ pad
theorem Rows.nil {k} : Rows k [] := fun _ h => by simp at h
theorem Rows.append {k R1 R2} (h1 : Rows k R1) (h2 : Rows k R2) : Rows k (R1 ++ R2) := fun r h => by
  rcases List.mem_append.1 h with h | h
  · exact h1 r h
  · exact h2 r h
theorem Rows.cons {k r R} (h1 : Rows k [r]) (h2 : Rows k R) : Rows k (r :: R) := Rows.append (R1 := [r]) h1 h2
theorem Rows.take {k R} (h : Rows k R) (n : Nat) : Rows k (R.take n) := fun r hr => h r (List.mem_of_mem_take hr)
theorem Rows.drop {k R} (h : Rows k R) (n : Nat) : Rows k (R.drop n) := fun r hr => h r (List.mem_of_mem_drop hr)
section
variable {k : Nat} {R Y : List (List AV)} {pad : List AV}
end
end Go.AM
namespace Go.AM

/-- A slot's own row is parked: the slot keeps its header alone. -/
def St.park (st : St) (t b sz : Nat) (xs : List (List AV)) (cap : Nat) : St :=
  (((st.take (rowQ t (1000000 + b))).killB (1000000 + b)).put t (.ab b 0 xs.length cap)).setBox (1000000 + b) (some (xs.flatten ++ List.replicate ((cap - xs.length) * sz) .any))

theorem Rel.park {N : Nat} {E : Env} (R : Rel N E) {t bk sz cap : Nat} {xs : List (List AV)} {arr : Array Value} {T : TypeId} (htN : t < N) (ht : E.st.slots t = .sl .own sz xs) (hω : E.ω bk = some (.slot t [])) (hg : E.w.heap[bk]? = some (.cells arr T (0, 0)))
    (ha : arr.size = cap * sz) (hc : xs.length ≤ cap) (hrow : Row E.Pub E.w bk 0 sz xs) (hown0 : ∀ j sz xs, E.st.abs (.cell (1000000 + bk) j) ≠ .sl .own sz xs) (htm : E.tm.getD t undef = .slice (some ⟨bk, 0, none⟩) xs.length cap) :
    Rel N ⟨E.w, (fun i => if i = 1000000 + bk then bk else E.β i), (E.take (rowQ t (1000000 + bk))).ω, E.Pub, E.st.park t bk sz xs cap, E.tm⟩ := by
  have R1 := R.unown (id := 1000000 + bk) htN ht hω hg ha hc hrow hown0 htm (fun _ => by unfold parkM; omega)
  have hno : NoOwn ((E.st.unown t (1000000 + bk) sz xs cap).slots t) := by
    intro π sz' xs' h
    have h2 : (E.st.unown t (1000000 + bk) sz xs cap).slots t = .bs (1000000 + bk) 0 xs.length cap := by simp [St.unown, St.put, St.setBox]
    rw [h2] at h
    cases π <;> simp [AV.at] at h
  have R2 := R1.putq t (.ab bk 0 xs.length cap) (.slice (some ⟨bk, 0, none⟩) xs.length cap) htN hno rfl (.ab _ _ _ _ _)
  have e1 : E.tm.setIfInBounds t (.slice (some ⟨bk, 0, none⟩) xs.length cap) = E.tm := tm_set_same _ _ _ htm
  have e2 : (E.st.unown t (1000000 + bk) sz xs cap).put t (.ab bk 0 xs.length cap) = E.st.park t bk sz xs cap := by
    refine St.ext' (fun t' => ?_) (fun i => rfl)
    show (if t' = t then _ else if t' = t then _ else _) = if t' = t then _ else _
    split <;> rfl
  rw [← e2]
  have R3 : Rel N ⟨E.w, (fun i => if i = 1000000 + bk then bk else E.β i), (E.take (rowQ t (1000000 + bk))).ω, E.Pub, (E.st.unown t (1000000 + bk) sz xs cap).put t (.ab bk 0 xs.length cap), E.tm.setIfInBounds t (.slice (some ⟨bk, 0, none⟩) xs.length cap)⟩ := R2
  rw [e1] at R3
  exact R3

theorem Inv.park {N : Nat} {S : Start} {E : Env} (I : Inv N S E) {t sz : Nat} {xs : List (List AV)} (htN : t < N) (ht : E.st.slots t = .sl .own sz xs) (hne : xs ≠ []) (hid : ∀ A, 1000000 ≤ A → E.st.boxes A = none) (hk : S.k ≤ 1000000) :
    ∃ b cap E', xs.length ≤ cap ∧ E'.w = E.w ∧ E'.tm = E.tm ∧ Inv N S E' ∧ E'.st = E.st.park t b sz xs cap := by
  have hv := I.rel.slots t
  rw [ht] at hv
  generalize hvv : E.tm.getD t undef = v at hv
  cases hv with
  | sl0 => exact absurd rfl hne
  | sl _ _ _ _ bk off cap hc hr hg ha =>
    obtain ⟨h1, arr, T, h2, h3, h4⟩ := hg
    subst h3
    have R' := I.rel.park htN ht h1 h2 h4 hc hr (fun j sz xs h => by simp [St.abs, hid (1000000 + bk) (by omega)] at h) hvv
    refine ⟨bk, cap, ⟨E.w, (fun i => if i = 1000000 + bk then bk else E.β i), (E.take (rowQ t (1000000 + bk))).ω, E.Pub, E.st.park t bk sz xs cap, E.tm⟩, hc, rfl, rfl, ⟨R', ⟨I.fr.os, I.fr.tape, I.fr.output, I.fr.size, I.fr.block, fun k q h => ?_, I.fr.pub0, I.fr.pub1, fun i hi => ?_⟩⟩, rfl⟩
    · have h' : (match E.ω k with | some q => some ((rowQ t (1000000 + bk) q).getD q) | none => none) = some q := h
      split at h'
      · rename_i q' hq'; exact I.fr.own k q' hq'
      · cases h'
    · show (if i = 1000000 + bk then bk else E.β i) = _
      rw [if_neg (by omega)]
      exact I.fr.beta i hi

/-- A parked row is claimed: it gets a box's name, and the slot that bears its header reads the box. -/
def St.claim (st : St) (t b id n cap : Nat) (cs : List AV) : St := ((((st.killB (1000000 + b)).setBox (1000000 + b) none).killB id).put t (.bs id 0 n cap)).setBox id (some cs)

theorem Val.calm {E E' : Env} (hw : E'.w = E.w) (hP : E'.Pub = E.Pub) {p p' : Place} {x : AV} {v : Value} (h : Val E p x v) (hx : x.calm = true) : Val E' p' x v := by
  cases h with
  | any => exact .any _ _
  | b => exact .b _ _
  | i => exact .i _ _ _
  | s => exact .s _ _
  | nil => exact .nil _
  | nofn => exact .nofn _
  | ab => exact .ab _ _ _ _ _
  | mp => exact .mp _ _
  | it => exact .it _ _
  | ptr => simp [AV.calm] at hx
  | bs => simp [AV.calm] at hx
  | pt => simp [AV.calm] at hx
  | fn => simp [AV.calm] at hx
  | agg => simp [AV.calm] at hx
  | tup => simp [AV.calm] at hx
  | sl1 => exact .sl1 _ _ _ _
  | sl2 => simp [AV.calm] at hx
  | sl0 _ g => cases g <;> first | (simp [AV.calm] at hx; done) | exact .sl0 _ _ _ (by simp) trivial
  | sl _ g sz xs bk off cap hc hr hg hat =>
    cases g <;> first | (simp [AV.calm] at hx; done) | skip
    refine .sl _ .fro sz xs bk off cap hc ?_ ?_ trivial
    · rw [hw, hP]; exact hr
    · show E'.Pub bk
      rw [hP]; exact hg

theorem Rel.claim {N : Nat} {E : Env} (R : Rel N E) {t b id n cap : Nat} {cs : List AV} (htN : t < N) (ht : E.st.slots t = .ab b 0 n cap) (hb : E.st.boxes (1000000 + b) = some cs) (hcc : Calm cs) (hid : E.st.boxes id = none) (hidM : id < 1000000) :
    Rel N ⟨E.w, (fun i => if i = id then b else E.β i), (fun bk => if E.ω bk = some (.box (1000000 + b)) then some (.box id) else E.ω bk), E.Pub, E.st.claim t b id n cap cs, E.tm⟩ := by
  have hf := hcc.freeL
  let A := 1000000 + b
  let E' : Env := ⟨E.w, (fun i => if i = id then b else E.β i), (fun bk => if E.ω bk = some (.box (1000000 + b)) then some (.box id) else E.ω bk), E.Pub, E.st.claim t b id n cap cs, E.tm⟩
  have hne : id ≠ A := by show id ≠ 1000000 + b; omega
  have hβ : E.β A = b := by have := R.abs A (by rw [show E.st.boxes A = some cs from hb]; rfl) (by show 1000000 ≤ 1000000 + b; omega); unfold parkM at this; have h2 : A = 1000000 + b := rfl; omega
  have htv : E.tm.getD t undef = .slice (some ⟨b, 0, none⟩) n cap := by
    have := R.slots t
    rw [ht] at this
    generalize E.tm.getD t undef = v at this
    cases this; rfl
  have R2 : Rel N { E with st := (E.st.killB A).killB id } := (R.killB A).killB id
  have hq : ∀ q sz xs, E.st.abs q = .sl .own sz xs → rootNe t q ∧ (∀ j, q ≠ .cell A j) ∧ (∀ j, q ≠ .cell id j) ∧ q ≠ .box A ∧ q ≠ .box id := by
    intro q sz xs h
    refine ⟨?_, fun j e => ?_, fun j e => ?_, fun e => by subst e; simp [St.abs] at h, fun e => by subst e; simp [St.abs] at h⟩
    · cases q with
      | slot t' π =>
        show t' ≠ t
        rintro rfl
        simp only [St.abs, ht] at h
        cases π <;> simp [AV.at] at h
      | _ => trivial
    · subst e
      simp only [St.abs, show E.st.boxes A = some cs from hb, Option.getD_some, List.getD_eq_getElem?_getD] at h
      cases hj : cs[j]? with
      | none => rw [hj] at h; cases h
      | some c =>
        rw [hj] at h
        have := AV.freeL_get hf hj
        simp only [Option.getD_some] at h
        rw [h] at this
        simp [AV.free] at this
    · subst e
      simp [St.abs, hid] at h
  have hno : rootNe t Place.no ∧ (∀ j, Place.no ≠ .cell A j) ∧ (∀ j, Place.no ≠ .cell id j) ∧ Place.no ≠ .box A ∧ Place.no ≠ .box id := ⟨trivial, by simp, by simp, by simp, by simp⟩
  have habs2 : ∀ q sz xs, E.st.abs q = .sl .own sz xs ↔ ((E.st.killB A).killB id).abs q = .sl .own sz xs := fun q sz xs => (abs_killB E.st A q sz xs).trans (abs_killB _ id q sz xs)
  have hst : Stays (fun q => rootNe t q ∧ (∀ j, q ≠ .cell A j) ∧ (∀ j, q ≠ .cell id j) ∧ q ≠ .box A ∧ q ≠ .box id) (fun i => i ≠ id) { E with st := (E.st.killB A).killB id } E' := by
    refine ⟨fun bk h => ⟨h, rfl⟩, fun bk q hq h => ⟨?_, rfl⟩, fun i hi => by show (if i = id then b else E.β i) = E.β i; rw [if_neg hi], ?_, ?_⟩
    · show (if E.ω bk = some (.box (1000000 + b)) then some (Place.box id) else E.ω bk) = some q
      have h' : E.ω bk = some q := h
      rw [h', if_neg (by intro e; exact hq.2.2.2.1 (Option.some.inj e))]
    · intro q u sz xs hr hab hc
      cases q with
      | slot t π => exact hc
      | cell i off =>
        have hi : i ≠ id := fun e => hr.2.2.1 off (by rw [e])
        show E.w.cell? ⟨if i = id then b else E.β i, off, none⟩ = some u
        rw [if_neg hi]; exact hc
      | box _ => simp [Env.con] at hc
      | no => simp [Env.con] at hc
    · intro q sz xs hr hab
      cases q with
      | slot t' π =>
        have hne' : t' ≠ t := hr.1
        show ((if t' = t then _ else ((E.st.killB A).killB id).slots t') : AV).at π = _
        rw [if_neg hne']; exact hab
      | cell i off =>
        have hi : i ≠ id := fun e => hr.2.2.1 off (by rw [e])
        have hiA : i ≠ A := fun e => hr.2.1 off (by rw [e])
        have hiA' : i ≠ 1000000 + b := hiA
        show ((((E.st.claim t b id n cap cs).boxes i).getD []).getD off .any) = _
        have : (E.st.claim t b id n cap cs).boxes i = ((E.st.killB A).killB id).boxes i := by
          simp only [St.claim, St.setBox, St.put, St.killB, St.tr, hi, hiA', if_false]
          rfl
        rw [this]; exact hab
      | box _ => simp [St.abs] at hab
      | no => simp [St.abs] at hab
  have hleanS : ∀ t', Leans (fun q => rootNe t q ∧ (∀ j, q ≠ .cell A j) ∧ (∀ j, q ≠ .cell id j) ∧ q ≠ .box A ∧ q ≠ .box id) (fun i => i ≠ id) (.slot t' []) (((E.st.killB A).killB id).slots t') := fun t' =>
    ((R.killB A).leansSlot (fun q sz xs h => hq q sz xs ((abs_killB E.st A q sz xs).2 h)) hno t').killB
  refine { size := R.size, slots := fun t' => ?_, boxes := fun i csi h => ?_, pub := fun bk h => ⟨(R.pub bk h).1, ?_⟩, own := fun bk q h => ?_, abs := fun i h hm => ?_ }
  · show Val E' (.slot t' []) (if t' = t then _ else ((E.st.killB A).killB id).slots t') (E.tm.getD t' undef)
    by_cases he : t' = t
    · subst he
      rw [if_pos rfl, htv]
      have := Val.bs (E := E') (.slot t' []) id 0 n cap
      have hb : E'.β id = b := by show (if id = id then b else _) = b; rw [if_pos rfl]
      rw [hb] at this
      exact this
    · rw [if_neg he]
      exact (R2.slots t').mono hst (hleanS t')
  · by_cases hi : i = id
    · subst hi
      have h' : (E.st.claim t b i n cap cs).boxes i = some csi := h
      simp only [St.claim, St.setBox, if_true] at h'
      obtain rfl := Option.some.inj h'
      obtain ⟨g1, arr, T, g2, g3, g4⟩ := R.boxes A cs hb
      rw [hβ] at g1 g2
      have hbi : E'.β i = b := by show (if i = i then b else _) = b; rw [if_pos rfl]
      refine ⟨?_, arr, T, by rw [hbi]; exact g2, g3, fun j c hj => ?_⟩
      · rw [hbi]
        show (if E.ω b = some (.box (1000000 + b)) then some (Place.box i) else E.ω b) = _
        rw [if_pos g1]
      · exact Val.calm (E := E) (E' := E') rfl rfl (g4 j c hj) (hcc c (List.mem_of_getElem? hj))
    · by_cases hiA : i = 1000000 + b
      · subst hiA
        have h' : (E.st.claim t b id n cap cs).boxes (1000000 + b) = some csi := h
        simp [St.claim, St.setBox, St.put, St.killB, St.tr, hi] at h'
      · have h' : ((E.st.killB A).killB id).boxes i = some csi := by
          have h'' : (E.st.claim t b id n cap cs).boxes i = some csi := h
          simp only [St.claim, St.setBox, St.put, St.killB, St.tr, hi, hiA, if_false] at h''
          exact h''
        obtain ⟨h1, arr0, T0, h2, h3, h4⟩ := R2.boxes i csi h'
        have hbi : E'.β i = E.β i := by show (if i = id then b else E.β i) = E.β i; rw [if_neg hi]
        refine ⟨?_, arr0, T0, by rw [hbi]; exact h2, h3, fun j c hj => ?_⟩
        · rw [hbi]
          show (if E.ω (E.β i) = some (.box (1000000 + b)) then some (Place.box id) else E.ω (E.β i)) = _
          have h1' : E.ω (E.β i) = some (.box i) := h1
          rw [h1', if_neg (by simp [hiA])]
        · have h5 := h4 j c hj
          simp only [St.killB, St.tr, Option.map_eq_some_iff] at h'
          obtain ⟨cs1, ⟨cs0, hb0, rfl⟩, rfl⟩ := h'
          rw [AV.trC_get, Option.map_eq_some_iff] at hj
          obtain ⟨c1, hc1, rfl⟩ := hj
          have hb1 : (E.st.killB A).boxes i = some (AV.trC (killBLeaf A) i 0 cs0) := by simp [St.killB, St.tr, hb0]
          have := ((R.killB A).leansCell (fun q sz xs h => hq q sz xs ((abs_killB E.st A q sz xs).2 h)) hno hb1 hc1).killB (id := id)
          simp only [Nat.zero_add] at this h5 ⊢
          exact h5.mono hst this
  · show (if E.ω bk = some (.box (1000000 + b)) then some (Place.box id) else E.ω bk) = none
    rw [(R.pub bk h).2, if_neg (by simp)]
  · have h' : (if E.ω bk = some (.box (1000000 + b)) then some (Place.box id) else E.ω bk) = some q := h
    split at h'
    · rename_i h2; exact R.own bk _ h2
    · exact R.own bk q h'
  · have hi : i ≠ id := by unfold parkM at hm; omega
    have hiA : i ≠ 1000000 + b := by
      rintro rfl
      have h' : ((E.st.claim t b id n cap cs).boxes (1000000 + b)).isSome = true := h
      simp [St.claim, St.setBox, St.put, St.killB, St.tr, hi] at h'
    show (if i = id then b else E.β i) + parkM = i
    rw [if_neg hi]
    refine R2.abs i ?_ hm
    have h' : ((E.st.claim t b id n cap cs).boxes i).isSome = true := h
    simp only [St.claim, St.setBox, St.put, St.killB, St.tr, hi, hiA, if_false] at h'
    exact h'

theorem Inv.claim {N : Nat} {S : Start} {E : Env} (I : Inv N S E) {t b id n cap : Nat} {cs : List AV} (htN : t < N) (ht : E.st.slots t = .ab b 0 n cap) (hb : E.st.boxes (1000000 + b) = some cs) (hcc : Calm cs) (hid : E.st.boxes id = none) (hk : S.k ≤ id) (hidM : id < 1000000) :
    ∃ E', E'.w = E.w ∧ E'.tm = E.tm ∧ Inv N S E' ∧ E'.st = E.st.claim t b id n cap cs := by
  refine ⟨⟨E.w, (fun i => if i = id then b else E.β i), (fun bk => if E.ω bk = some (.box (1000000 + b)) then some (.box id) else E.ω bk), E.Pub, E.st.claim t b id n cap cs, E.tm⟩, rfl, rfl, ⟨I.rel.claim htN ht hb hcc hid hidM, ⟨I.fr.os, I.fr.tape, I.fr.output, I.fr.size, I.fr.block, fun k q h => ?_, I.fr.pub0, I.fr.pub1, fun i hi => ?_⟩⟩, rfl⟩
  · have h' : (if E.ω k = some (.box (1000000 + b)) then some (Place.box id) else E.ω k) = some q := h
    split at h'
    · rename_i h2; exact I.fr.own k _ h2
    · exact I.fr.own k q h'
  · show (if i = id then b else E.β i) = _
    rw [if_neg (by omega)]
    exact I.fr.beta i hi

section
variable {C : Cx} {Q : Exit → St → Prop} {st : St}
theorem AWp.park (t : Nat) {sz : Nat} {xs : List (List AV)} {c : Code} (ht : st.slots t = .sl .own sz xs) (hN : t < C.N) (hne : xs ≠ []) (hid : ∀ A, 1000000 ≤ A → st.boxes A = none) (hb : C.base ≤ 1000000) (h : ∀ b cap, xs.length ≤ cap → AWp C c (st.park t b sz xs cap) Q) : AWp C c st Q := by
  intro S E a hbs I ha hd he
  subst he
  obtain ⟨b, cap, E', h1, h2, h3, h4, h5⟩ := I.park hN ht hne hid (Nat.le_trans hbs hb)
  have := h b cap h1 S E' a hbs h4 (by rw [ha, h3]) hd h5
  rwa [h2] at this
theorem SOps.park (t : Nat) {sz : Nat} {xs : List (List AV)} {ops : Array Oper} {k : Nat} {l : List Oper} {K : St → Prop} (ht : st.slots t = .sl .own sz xs) (hN : t < C.N) (hne : xs ≠ []) (hid : ∀ A, 1000000 ≤ A → st.boxes A = none) (hb : C.base ≤ 1000000)
    (h : ∀ b cap, xs.length ≤ cap → SOps C ops k l (st.park t b sz xs cap) K) : SOps C ops k l st K := by
  intro S E a hbs I ha hd he R hR
  subst he
  obtain ⟨b, cap, E', h1, h2, h3, h4, h5⟩ := I.park hN ht hne hid (Nat.le_trans hbs hb)
  have := h b cap h1 S E' a hbs h4 (by rw [ha, h3]) hd h5 R hR
  rwa [h2] at this
theorem SOps.claim (t b id : Nat) {n cap : Nat} {cs : List AV} {ops : Array Oper} {k : Nat} {l : List Oper} {K : St → Prop} (ht : st.slots t = .ab b 0 n cap) (hbx : st.boxes (1000000 + b) = some cs) (hcc : Calm cs) (hN : t < C.N) (hid : st.boxes id = none) (hb : C.base ≤ id ∧ id < 1000000)
    (h : SOps C ops k l (st.claim t b id n cap cs) K) : SOps C ops k l st K := by
  intro S E a hbs I ha hd he R hR
  subst he
  obtain ⟨E', h2, h3, h4, h5⟩ := I.claim hN ht hbx hcc hid (Nat.le_trans hbs hb.1) hb.2
  have := h S E' a hbs h4 (by rw [ha, h3]) hd h5 R hR
  rwa [h2] at this
theorem AWp.claim (t b id : Nat) {n cap : Nat} {cs : List AV} {c : Code} (ht : st.slots t = .ab b 0 n cap) (hbx : st.boxes (1000000 + b) = some cs) (hcc : Calm cs) (hN : t < C.N) (hid : st.boxes id = none) (hb : C.base ≤ id ∧ id < 1000000)
    (h : AWp C c (st.claim t b id n cap cs) Q) : AWp C c st Q := by
  intro S E a hbs I ha hd he
  subst he
  obtain ⟨E', h2, h3, h4, h5⟩ := I.claim hN ht hbx hcc hid (Nat.le_trans hbs hb.1) hb.2
  have := h S E' a hbs h4 (by rw [ha, h3]) hd h5
  rwa [h2] at this
end
attribute [simp] St.park St.claim
end Go.AM
namespace Go.AM

/-- A map type, and which values are its keys. -/
structure MapLaw where
  t : TypeId
  kt : TypeId
  et : TypeId
  good : Value → Prop

/-- How a map type's keys are found. -/
structure MapLaw.Ok (M : MapLaw) (P : Program) : Prop where
  und : P.underlying M.t = some (.map M.kt M.et)
  chk : ∀ em w k, M.good k → (Instr.checkKey em 10000 M.kt k).run P w = .ok () w
  find : ∀ w k (es : Array MapEntry), M.good k → (∀ x ∈ es.toList, M.good x.key) →
    (∃ j e, es[j]? = some e ∧ e.key = k ∧ (Instr.findKey M.kt k es.toList).run P w = .ok (some (j, e.val)) w) ∨ ((∀ x ∈ es.toList, x.key ≠ k) ∧ (Instr.findKey M.kt k es.toList).run P w = .ok none w)
  stay : ∀ w k, M.good k → (Instr.keyThatStays k k).run P w = .ok k w
  zero : ∀ w, (zeroValue M.et).run P w = .ok (.bool false) w

/-- What a function has beside: a map (its block, its keys), or a reader of a text (its block, the text, where it stands). -/
inductive Aux where
  | map (b : Nat) (ks : List Value)
  | it (b : Nat) (s : ByteArray) (pos : Nat)
abbrev MS : Type := Option Aux

def Aux.blk : Aux → Nat
  | .map b _ => b
  | .it b _ _ => b
def Aux.holds (M : MapLaw) (o : Option Obj) : Aux → Prop
  | .map _ ks => ∃ es clock, o = some (.map es clock) ∧ (∀ x ∈ es.toList, M.good x.key ∧ x.val = .bool true) ∧ ∀ v, v ∈ ks ↔ ∃ x ∈ es.toList, x.key = v
  | .it _ s pos => o = some (.stringIter s pos)
theorem Aux.holds_some {M : MapLaw} {o : Option Obj} {x : Aux} (h : x.holds M o) : ∃ y, o = some y := by
  cases x with
  | map b ks => obtain ⟨es, clock, h, _⟩ := h; exact ⟨_, h⟩
  | it b s pos => exact ⟨_, h⟩

def MapAt (M : MapLaw) (S : Start) (E : Env) : MS → Prop
  | none => True
  | some x => x.holds M E.w.heap[x.blk]? ∧ S.w0.heap.size ≤ x.blk ∧ E.ω x.blk = none ∧ ¬ E.Pub x.blk

def Env.again (E : Env) (k : Nat) : Start := ⟨E.w, fun bk => E.ω bk ≠ none, E.Pub, E.β, k⟩

theorem Inv.again {N : Nat} {S : Start} {E : Env} (I : Inv N S E) : Inv N (E.again S.k) E :=
  ⟨I.rel, ⟨SameOs.refl _, rfl, rfl, Nat.le_refl _, fun _ _ _ => rfl, fun k q h => .inr (by show E.ω k ≠ none; rw [h]; simp), fun _ h => h, fun _ h => .inl h, fun _ _ => rfl⟩⟩

theorem Inv.join {N : Nat} {S : Start} {E E' : Env} (I : Inv N S E) (I' : Inv N (E.again S.k) E') : Inv N S E' := by
  refine ⟨I'.rel, ⟨I'.fr.os.trans I.fr.os, I'.fr.tape.trans I.fr.tape, I'.fr.output.trans I.fr.output, Nat.le_trans I.fr.size I'.fr.size, fun k hk hn => ?_, fun k q h => ?_, fun bk h => I'.fr.pub0 bk (I.fr.pub0 bk h), fun bk h => ?_, fun id h => (I'.fr.beta id h).trans (I.fr.beta id h)⟩⟩
  · have h1 : ¬ (E.again S.k).own0 k := fun h => by
      have h : E.ω k ≠ none := h
      cases hq : E.ω k with
      | none => exact h hq
      | some q =>
        rcases I.fr.own k q hq with h2 | h2
        · omega
        · exact hn h2
    exact (I'.fr.block k (Nat.lt_of_lt_of_le hk I.fr.size) h1).trans (I.fr.block k hk hn)
  · rcases I'.fr.own k q h with h1 | h1
    · exact .inl (Nat.le_trans I.fr.size h1)
    · have h1 : E.ω k ≠ none := h1
      cases hq : E.ω k with
      | none => exact absurd hq h1
      | some q => exact I.fr.own k q hq
  · rcases I'.fr.pub1 bk h with h1 | h1 | h1
    · exact I.fr.pub1 bk h1
    · exact .inr (.inl (Nat.le_trans I.fr.size h1))
    · have h1 : E.ω bk ≠ none := h1
      cases hq : E.ω bk with
      | none => exact absurd hq h1
      | some q =>
        rcases I.fr.own bk q hq with h2 | h2
        · exact .inr (.inl h2)
        · exact .inr (.inr h2)

theorem MapAt.keep {M : MapLaw} {N : Nat} {S : Start} {E E' : Env} {m : MS} (h : MapAt M S E m) (I' : Inv N (E.again S.k) E') : MapAt M S E' m := by
  cases m with
  | none => trivial
  | some x =>
    obtain ⟨h1, h4, h5, h6⟩ := h
    obtain ⟨y, hy⟩ := Aux.holds_some h1
    have hlt : x.blk < E.w.heap.size := (Array.getElem?_eq_some_iff.1 hy).1
    have hno : ¬ (E.again S.k).own0 x.blk := fun h => (show E.ω x.blk ≠ none from h) h5
    refine ⟨by rw [I'.fr.block x.blk hlt hno]; exact h1, h4, ?_, fun hp => ?_⟩
    · cases hq : E'.ω x.blk with
      | none => rfl
      | some q =>
        rcases I'.fr.own x.blk q hq with h | h
        · exact absurd hlt (Nat.not_lt.2 h)
        · exact absurd h hno
    · rcases I'.fr.pub1 x.blk hp with h | h | h
      · exact h6 h
      · exact absurd hlt (Nat.not_lt.2 h)
      · exact hno h

/-- Another world, in which all that is owned or never turns is as it was. -/
theorem Inv.other {N : Nat} {S : Start} {E : Env} (I : Inv N S E) (w' : World) (ho : SameOs w' E.w ∧ w'.tape = E.w.tape ∧ w'.output = E.w.output) (hsz : E.w.heap.size ≤ w'.heap.size)
    (hb : ∀ k, E.Pub k ∨ E.ω k ≠ none → w'.heap[k]? = E.w.heap[k]?) (hold : ∀ k, k < S.w0.heap.size → ¬ S.own0 k → w'.heap[k]? = E.w.heap[k]?) : Inv N S { E with w := w' } := by
  have hst : Stays (fun _ => True) (fun _ => True) E { E with w := w' } := by
    refine ⟨fun bk h => ⟨h, hb bk (.inl h)⟩, fun bk q _ h => ⟨h, hb bk (.inr (by rw [h]; simp))⟩, fun _ _ => rfl, fun q u sz xs _ ha h => ?_, fun _ _ _ _ h => h⟩
    cases q with
    | slot t p => exact h
    | cell id off =>
      have hbx : ∃ cs, E.st.boxes id = some cs := by
        cases hc : E.st.boxes id with
        | none => simp [St.abs, hc] at ha
        | some cs => exact ⟨cs, rfl⟩
      obtain ⟨cs, hcs⟩ := hbx
      have h1 := (I.rel.boxes id cs hcs).1
      show w'.cell? _ = _
      rw [cell_same (hb (E.β id) (.inr (by rw [h1]; simp)))]
      exact h
    | box id => cases h
    | no => cases h
  have hle : ∀ {p x v}, Val E p x v → Val { E with w := w' } p x v := fun hv => hv.mono hst (hv.leans (fun _ _ _ _ => trivial) trivial fun _ _ _ _ => trivial)
  refine ⟨{ size := I.rel.size, slots := fun t => hle (I.rel.slots t), boxes := fun id cs h => ?_, pub := fun bk h => ⟨Nat.lt_of_lt_of_le (I.rel.pub bk h).1 hsz, (I.rel.pub bk h).2⟩, own := fun bk q h => Nat.lt_of_lt_of_le (I.rel.own bk q h) hsz, abs := I.rel.abs },
    ⟨ho.1.trans I.fr.os, ho.2.1.trans I.fr.tape, ho.2.2.trans I.fr.output, Nat.le_trans I.fr.size hsz, fun k hk hn => (hold k hk hn).trans (I.fr.block k hk hn), I.fr.own, I.fr.pub0, I.fr.pub1, I.fr.beta⟩⟩
  obtain ⟨h1, arr, T, h2, h3, h4⟩ := I.rel.boxes id cs h
  exact ⟨h1, arr, T, (hb _ (.inr (by rw [h1]; simp))).trans h2, h3, fun j c hj => hle (h4 j c hj)⟩

/-- Code beside a map of the function's own. -/
structure AWpM (M : MapLaw) (C : Cx) (c : Code) (st : St) (m : MS) (Q : Exit → St → MS → Prop) : Prop where
  run : ∀ (S : Start) (E : Env) (a : Act), S.k ≤ C.base → Inv C.N S E → a.tmps = E.tm → a.defers = [] → E.st = st → MapAt M S E m →
    c.wp C.P (fun e a w => ∃ E m, E.w = w ∧ Inv C.N S E ∧ a.tmps = E.tm ∧ a.defers = [] ∧ MapAt M S E m ∧ Q e E.st m) a E.w

section
variable {M : MapLaw} {C : Cx} {st : St} {m : MS} {Q : Exit → St → MS → Prop}

theorem AWpM.frame {c : Code} (h : AWp C c st fun e s => Q e s m) : AWpM M C c st m Q := by
  refine ⟨fun S E a hb I ha hd he hm => ?_⟩
  refine wp_mono (h (E.again S.k) E a hb I.again ha hd he) ?_
  rintro e a w ⟨E1, rfl, h2, h3, h4, h5⟩
  exact ⟨E1, m, rfl, I.join h2, h3, h4, hm.keep h2, h5⟩

theorem AWpM.toAWp {c : Code} {R : Exit → St → Prop} (h : AWpM M C c st none fun e s _ => R e s) : AWp C c st R := by
  intro S E a hb I ha hd he
  refine wp_mono (h.run S E a hb I ha hd he trivial) ?_
  rintro e a w ⟨E1, m, rfl, h2, h3, h4, _, h5⟩
  exact ⟨E1, rfl, h2, h3, h4, h5⟩

theorem AWpM.mono {c : Code} {Q' : Exit → St → MS → Prop} (h : AWpM M C c st m Q) (hq : ∀ e s m, Q e s m → Q' e s m) : AWpM M C c st m Q' := by
  refine ⟨fun S E a hb I ha hd he hm => ?_⟩
  exact wp_mono (h.run S E a hb I ha hd he hm) fun e a w ⟨E', m', h1, h2, h3, h4, h5, h6⟩ => ⟨E', m', h1, h2, h3, h4, h5, hq e _ _ h6⟩

theorem AWpM.clean (ks kb : List Nat) {c : Code} (h : AWpM M C c (st.clean ks kb) m Q) : AWpM M C c st m Q := by
  refine ⟨fun S E a hb I ha hd he hm => ?_⟩
  obtain ⟨E', h1, h2, h3, h4⟩ := I.again.clean ks kb
  have := h.run S E' a hb (I.join h3) (by rw [ha, h2]) hd (by rw [h4, he]) (hm.keep h3)
  rwa [h1] at this

theorem AWpM.skip (h : Q .normal st m) : AWpM M C .skip st m Q := .frame (.skip h)
theorem AWpM.exit {id : Nat} (h : Q (.exit id) st m) : AWpM M C (.exit id) st m Q := .frame (.exit h)
theorem AWpM.ret (h : Q .ret st m) : AWpM M C .ret st m Q := .frame (.ret h)

def thenM (R : St → MS → Prop) (Q : Exit → St → MS → Prop) : Exit → St → MS → Prop
  | .normal, s, m => R s m
  | e, s, m => Q e s m

theorem AWpM.seq {x y : Code} (h : AWpM M C x st m (thenM (fun s m => AWpM M C y s m Q) Q)) : AWpM M C (.seq x y) st m Q := by
  refine ⟨fun S E a hb I ha hd he hm => ?_⟩
  refine wp_seq (wp_mono (h.run S E a hb I ha hd he hm) ?_)
  rintro e a w ⟨E1, m1, rfl, h2, h3, h4, h5, h6⟩
  cases e with
  | normal => exact h6.run S E1 a hb h2 h3 h4 rfl h5
  | _ => exact ⟨E1, m1, rfl, h2, h3, h4, h5, h6⟩

theorem AWpM.cond {c : Operand} {x y : Code} {t : Bool} (hc : st.rd 0 c = .b t) (h1 : t = true → AWpM M C x st m Q) (h2 : t = false → AWpM M C y st m Q) : AWpM M C (.cond c x y) st m Q := by
  refine ⟨fun S E a hb I ha hd he hm => ?_⟩
  have hv := I.rel.rd ha 0 c .no
  rw [he, hc] at hv
  have hv' : a.eval c = .bool t := by
    generalize a.eval c = v at hv
    cases hv; rfl
  exact wp_cond_split hv' (fun h => (h1 h).run S E a hb I ha hd he hm) (fun h => (h2 h).run S E a hb I ha hd he hm)

def blockM (id : Nat) (Q : Exit → St → MS → Prop) : Exit → St → MS → Prop
  | .exit id', s, m => if id' = id then Q .normal s m else Q (.exit id') s m
  | e, s, m => Q e s m

theorem AWpM.block {id : Nat} {c : Code} (h : AWpM M C c st m (blockM id Q)) : AWpM M C (.block id c) st m Q := by
  refine ⟨fun S E a hb I ha hd he hm => ?_⟩
  refine wp_block (wp_mono (h.run S E a hb I ha hd he hm) ?_)
  rintro e a w ⟨E1, m1, rfl, h2, h3, h4, h5, h6⟩
  cases e with
  | exit id' =>
    simp only [Exit.inBlock]
    simp only [blockM] at h6
    split
    · rename_i hh; rw [if_pos hh] at h6; exact ⟨E1, m1, rfl, h2, h3, h4, h5, h6⟩
    · rename_i hh; rw [if_neg hh] at h6; exact ⟨E1, m1, rfl, h2, h3, h4, h5, h6⟩
  | _ => exact ⟨E1, m1, rfl, h2, h3, h4, h5, h6⟩

theorem AWpM.while {ι : Type} (l : ι → List (Nat × AV)) (bx : ι → Boxes) (ms : ι → MS) (inv : ι → Prop) (μ : ι → Nat) (ks kb : List Nat) {c : Code} (i0 : ι) (h0 : inv i0) (hst : st.sees ks kb (l i0) (bx i0) ∧ m = ms i0)
    (round : ∀ i, inv i → AWpM M C c (St.of (l i) (bx i)) (ms i) (thenM (fun s m => ∃ i', inv i' ∧ μ i' < μ i ∧ s.sees ks kb (l i') (bx i') ∧ m = ms i') Q)) : AWpM M C (.loop c) st m Q := by
  refine ⟨fun S E a hb I ha hd he hm => ?_⟩
  have start : ∃ E', E'.w = E.w ∧ Inv C.N S E' ∧ a.tmps = E'.tm ∧ E'.st = St.of (l i0) (bx i0) ∧ MapAt M S E' (ms i0) := by
    obtain ⟨E1, k1, k2, k3, k4⟩ := I.again.clean ks kb
    have I1 := I.join k3
    have I2 := k3.fits (st' := St.of (l i0) (bx i0)) (by rw [k4, he]; exact St.sees_fits hst.1)
    exact ⟨{ E1 with st := St.of (l i0) (bx i0) }, k1, I.join I2, by rw [ha, k2], rfl, by rw [← hst.2]; exact hm.keep I2⟩
  obtain ⟨E0, e1, e2, e3, e4, e5⟩ := start
  rw [← e1]
  refine wp_loop_by (fun i a w => inv i ∧ ∃ E, E.w = w ∧ Inv C.N S E ∧ a.tmps = E.tm ∧ a.defers = [] ∧ E.st = St.of (l i) (bx i) ∧ MapAt M S E (ms i)) μ ?_ (i0 := i0) ⟨h0, E0, rfl, e2, e3, hd, e4, e5⟩
  rintro i a w ⟨hi, E, rfl, I, ha, hd, he, hm⟩
  refine wp_mono ((round i hi).run S E a hb I ha hd he hm) ?_
  rintro e a w ⟨E1, m1, rfl, h2, h3, h4, h5, h6⟩
  cases e with
  | normal =>
    obtain ⟨i', g1, g2, g3, rfl⟩ := h6
    obtain ⟨E2, k1, k2, k3, k4⟩ := h2.again.clean ks kb
    have I2 := k3.fits (st' := St.of (l i') (bx i')) (by rw [k4]; exact St.sees_fits g3)
    exact ⟨i', ⟨g1, { E2 with st := St.of (l i') (bx i') }, k1, h2.join I2, by rw [h3, k2], h4, rfl, h5.keep I2⟩, g2⟩
  | _ => exact ⟨E1, m1, rfl, h2, h3, h4, h5, h6⟩

theorem AWpM.seqF {x y : Code} (h : AWp C x st (thenQ (fun s => AWpM M C y s m Q) fun _ _ => False)) : AWpM M C (.seq x y) st m Q :=
  AWpM.seq (AWpM.frame (h.mono fun e s hs => by cases e <;> first | exact hs | exact hs.elim))

theorem AWpM.go (ks kb : List Nat) {id : Nat} {ops : Array Oper} {y : Code} (h : ∀ K : St → Prop, (∀ l bx, AWpM M C y (St.of l bx) m Q → K (St.of l bx)) → aops C ops ops.toList st fun s => K (St.of (seeS ks kb s ks) (seeB ks kb s kb))) : AWpM M C (.seq (.region id ops false) y) st m Q := by
  refine AWpM.seqF (AWp.post (fun _ => (ks, kb)) ((AWp.region (Q := fun e s => thenQ (fun s => AWpM M C y (s.clean ks kb) m Q) (fun _ _ => False) e s) ?_).mono ?_))
  · have := h (fun s => AWpM M C y s m Q) fun _ _ h => h
    simp only [← St.clean_eq] at this
    exact this
  · intro e s hs
    cases e with
    | normal => exact hs
    | _ => exact hs.elim

theorem AWpM.goLast (ks kb : List Nat) {id : Nat} {ops : Array Oper} (h : ∀ K : St → Prop, (∀ l bx, Q .normal (St.of l bx) m → K (St.of l bx)) → aops C ops ops.toList st fun s => K (St.of (seeS ks kb s ks) (seeB ks kb s kb))) : AWpM M C (.region id ops false) st m Q :=
  .frame (AWp.goLast ks kb h)

theorem AWpM.step (ks kb : List Nat) (l : List (Nat × AV)) (bx : Boxes) {id : Nat} {ops : Array Oper} {y : Code} (h : aops C ops ops.toList st fun s => s.sees ks kb l bx) (h2 : AWpM M C y (St.of l bx) m Q) : AWpM M C (.seq (.region id ops false) y) st m Q :=
  AWpM.seqF (AWp.last ks kb l bx h h2)

theorem AWpM.last (ks kb : List Nat) (l : List (Nat × AV)) (bx : Boxes) {id : Nat} {ops : Array Oper} (h : aops C ops ops.toList st fun s => s.sees ks kb l bx) (h2 : Q .normal (St.of l bx) m) : AWpM M C (.region id ops false) st m Q :=
  .frame (AWp.last ks kb l bx h h2)

/-- Operations of a region beside a map. -/
def SOpsM (M : MapLaw) (C : Cx) (ops : Array Oper) (k : Nat) (l : List Oper) (st : St) (m : MS) (K : St → MS → Prop) : Prop :=
  ∀ (S : Start) (E : Env) (a : Act), S.k ≤ C.base → Inv C.N S E → a.tmps = E.tm → a.defers = [] → E.st = st → MapAt M S E m → ∀ R : Exit → Act → World → Prop,
    (∀ E a m, Inv C.N S E → a.tmps = E.tm → a.defers = [] → MapAt M S E m → K E.st m → R .normal a E.w) → wpOps C.P ops R (List.range' k l.length) a E.w

theorem SOpsM.nil {ops : Array Oper} {k : Nat} {K : St → MS → Prop} (h : K st m) : SOpsM M C ops k [] st m K := by
  intro S E a hb I ha hd he hm R hR
  exact hR E a m I ha hd hm (by rw [he]; exact h)

theorem SOpsM.cut (n : Nat) {ops : Array Oper} {k : Nat} {l : List Oper} {K : St → MS → Prop} (hl : ops.toList.drop k = l) (h : ∀ K' : St → Prop, (∀ s bx, SOpsM M C ops (k + (l.take n).length) (l.drop n) (St.of s bx) m K → K' (St.of s bx)) → aops C ops (l.take n) st K') : SOpsM M C ops k l st m K := by
  intro S E a hb I ha hd he hm R hR
  have h1 := h (fun s => SOpsM M C ops (k + (l.take n).length) (l.drop n) s m K) fun _ _ h => h
  have := aops_soundQ (C := C) (S := E.again S.k) hb (ops := ops) (K := fun s => SOpsM M C ops (k + (l.take n).length) (l.drop n) s m K) (R := R) (l.take n) (l.drop n) k (by rw [List.take_append_drop]; exact hl)
    (fun E' a' I' ha' hd' hK => hK S E' a' hb (I.join I') ha' hd' rfl (hm.keep I') R hR) E a I.again ha hd (by rw [he]; exact h1)
  rwa [List.take_append_drop] at this

theorem AWpM.sregion {id : Nat} {ops : Array Oper} (h : SOpsM M C ops 0 ops.toList st m (Q .normal)) : AWpM M C (.region id ops false) st m Q := by
  refine ⟨fun S E a hb I ha hd he hm => ?_⟩
  refine wp_region ?_
  have := h S E a hb I ha hd he hm (fun e a w => ∃ E m, E.w = w ∧ Inv C.N S E ∧ a.tmps = E.tm ∧ a.defers = [] ∧ MapAt M S E m ∧ Q e E.st m) (fun E a m I ha hd hm h => ⟨E, m, rfl, I, ha, hd, hm, h⟩)
  rw [List.range_eq_range']
  simpa using this

theorem AWpM.goS (ks kb : List Nat) {id : Nat} {ops : Array Oper} {y : Code} (h : ∀ K : St → MS → Prop, (∀ l bx m, AWpM M C y (St.of l bx) m Q → K (St.of l bx) m) → SOpsM M C ops 0 ops.toList st m fun s m => K (St.of (seeS ks kb s ks) (seeB ks kb s kb)) m) : AWpM M C (.seq (.region id ops false) y) st m Q := by
  refine AWpM.seq ((AWpM.sregion (Q := fun e s m => thenM (fun s m => AWpM M C y (s.clean ks kb) m Q) (fun _ _ _ => False) e s m) ?_).mono ?_)
  · have := h (fun s m => AWpM M C y s m Q) fun _ _ _ h => h
    simp only [← St.clean_eq] at this
    exact this
  · intro e s m hs
    cases e with
    | normal => exact AWpM.clean ks kb hs
    | _ => exact hs.elim

theorem AWpM.goSLast (ks kb : List Nat) {id : Nat} {ops : Array Oper} (h : ∀ K : St → MS → Prop, (∀ s m, Q .normal s m → K s m) → SOpsM M C ops 0 ops.toList st m fun s m => K s m) : AWpM M C (.region id ops false) st m Q :=
  AWpM.sregion (h (Q .normal) fun _ _ h => h)
attribute [simp] thenM blockM
end
end Go.AM
