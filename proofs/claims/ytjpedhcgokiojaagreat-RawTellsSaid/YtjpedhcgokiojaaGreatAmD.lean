/- Regions that draw their order: operations that only put a value. No project text. -/
import Derived.Test.YtjpedhcgokiojaaGreatAmC
import Derived.Orders
import Derived.Test.YtjpedhcgokiojaaGreatAmB
import Derived.Shelf.SlSortCmp.NoneTotal
import Derived.Shelf.Spec.SlicesGrow
set_option linter.unusedSimpArgs false
set_option linter.unusedVariables false
namespace Go.AM
def AV.inert : AV → Bool
 | .b _ | .i _ _ | .s _ | .nil | .nofn | .ptr _ _ | .ab _ _ _ _ | .mp _ | .it _ => true
 | .sl .fro _ _ => true
 | _ => false
def qbs (C : Cx) (t len : Nat) (ps : List (Nat × AV)) : QR :=
 match (C.T t).map TI.kind with
 | some (.slice e) => match C.T e with
  | some y => match fillL (fun i => some (i * y.size, y.size)) (List.replicate len (y.zero.map (AV.dz noF))).flatten (ps.map fun p => (p.1, p.2.dz noF)) with
   | some cs => ⟨AV.vwsN (ps.map (·.2)) = [] ∧ len * y.size ≤ 16777216 ∧ 0 < y.size ∧ (ps.all fun p => (p.2.dz noF).data) = true ∧ AV.dataL (y.zero.map (AV.dz noF)) = true ∧ AV.dataL cs = true ∧ cs.all AV.cellOk = true, .sl .fro y.size (chunk y.size len cs)⟩
   | none => .no
  | none => .no
 | _ => .no
def qmk (C : Cx) (t : Nat) (l c : AV) : QR :=
 match (C.T t).map TI.kind, l, c with
 | some (.slice e), .i _ l, .i _ c => match C.T e with
  | some y => ⟨0 ≤ l ∧ l ≤ c ∧ c * y.bytes ≤ 140737488355328 ∧ 0 < y.bytes ∧ AV.dataL (y.zero.map (AV.dz noF)) = true ∧ (y.zero.map (AV.dz noF)).all AV.cellOk = true, .sl .fro y.size (List.replicate l.toNat (y.zero.map (AV.dz noF)))⟩
  | none => .no
 | _, _, _ => .no
def pop (C : Cx) (r : AV) (o : Oper) (st : St) : QR :=
 match o.op with
 | .assign x => ⟨(st.rd (szOf C.T o.type) x).inert = true, st.rd (szOf C.T o.type) x⟩
 | .call ⟨.value f, args, ts⟩ => match st.rd 0 f with
  | .fn g fi ca => ⟨Pure C.P g ((fi ++ rdArgs C st args.toList ts.toList ++ ca).map AV.argz) r ∧
    (r.scalar = true ∨ (AV.vwsN (fi ++ rdArgs C st args.toList ts.toList ++ ca) = [] ∧ AV.resOkN noQ noF (fi ++ rdArgs C st args.toList ts.toList ++ ca) = true ∧ r.ptrs (fun _ => false) = true)), r⟩
  | _ => .no
 | .buildSlice t len parts => qbs C t len (parts.toList.map fun p => (p.1, st.rd (elemSz C.T t) p.2))
 | .makeSlice t l c => qmk C t (st.rd 0 l) (st.rd 0 c)
 | _ => match isNilCmp o.op with
  | some _ => .no
  | none => qcnv C st o.op (qop2 C st o.type o.op)
theorem rd_congr {st st' : St} {x : Operand} (h : ∀ t, x = .tmp t → st.slots t = st'.slots t) (sz : Nat) : st.rd sz x = st'.rd sz x := by
 cases x with
 | tmp t => simp only [St.rd, h t rfl]
 | const v => rfl
 | func f => rfl
 | global g => rfl
theorem rdArgs_congr {C : Cx} {st st' : St} : ∀ (xs : List Operand) (ts : List Nat), (∀ x ∈ xs, ∀ t, x = .tmp t → st.slots t = st'.slots t) → rdArgs C st xs ts = rdArgs C st' xs ts
 | [], ts, _ => by simp [rdArgs]
 | x :: xs, [], h => by
  rw [rdArgs, rdArgs, rd_congr (h x (by simp)), rdArgs_congr xs [] fun y hy => h y (by simp [hy])]
 | x :: xs, t :: ts, h => by
  rw [rdArgs, rdArgs, rd_congr (h x (by simp)), rdArgs_congr xs ts fun y hy => h y (by simp [hy])]
theorem map_rd_congr {st st' : St} {xs : List Operand} (h : ∀ x ∈ xs, ∀ t, x = .tmp t → st.slots t = st'.slots t) : xs.map (st.rd 0) = xs.map (st'.rd 0) :=
 List.map_congr_left fun x hx => rd_congr (h x hx) 0
theorem qop_congr {T : Nat → Option TI} {st st' : St} {ty : Nat} {op : Op} (h : ∀ x ∈ op.operands, ∀ t, x = .tmp t → st.slots t = st'.slots t) (hb : st.boxes = st'.boxes) : qop T st ty op = qop T st' ty op := by
 have rd : ∀ x ∈ op.operands, ∀ sz, st.rd sz x = st'.rd sz x := fun x hx sz => rd_congr (h x hx) sz
 have mp : ∀ xs : List Operand, (∀ x ∈ xs, x ∈ op.operands) → xs.map (st.rd 0) = xs.map (st'.rd 0) := fun xs hx => map_rd_congr fun x hm => h x (hx x hm)
 cases op <;> simp only [qop] <;> simp only [Op.operands] at rd mp
 case move x => rw [rd x (by simp)]
 case pick c a b => rw [rd c (by simp), rd a (by simp), rd b (by simp)]
 case binOp op t x y z => rw [rd x (by simp), rd y (by simp)]
 case unOp op t x => rw [rd x (by simp)]
 case convert s d x => rw [rd x (by simp)]
 case fieldAddr s x f => rw [rd x (by simp)]
 case field s x f => rw [rd x (by simp)]
 case load t x => rw [rd x (by simp)]; simp only [qload, hb]
 case indexAddr t x ix => rw [rd x (by simp), rd ix (by simp)]
 case index t x ix => rw [rd x (by simp), rd ix (by simp)]
 case nilCheck x => rw [rd x (by simp)]
 case extract x k => rw [rd x (by simp)]
 case build t parts =>
  congr 1
  exact List.map_congr_left fun p hp => by
   rw [rd p.2 (by simp only [List.mem_toArray, List.mem_map]; exact ⟨p, hp, rfl⟩)]
 case slice t x lo hi mx =>
  cases mx with
  | some m =>
   cases lo with
   | some l =>
    cases hi with
    | none => rfl
    | some y => simp only; rw [rd x (by simp), rd l (by simp), rd y (by simp), rd m (by simp)]
   | none =>
    cases hi with
    | none => rfl
    | some y => simp only; rw [rd x (by simp), rd y (by simp), rd m (by simp)]
  | none =>
   simp only
   rw [rd x (by simp)]
   congr 1
   ·cases lo with
    | none => rfl
    | some y => simp only [Option.map_some]; rw [rd y (by simp)]
   ·cases hi with
    | none => rfl
    | some y => simp only [Option.map_some]; rw [rd y (by simp)]
 case makeFunc fn first captured =>
  cases fn <;> simp only
  rw [mp first.toList (fun x hx => by simp at hx ⊢; exact .inl hx), mp captured.toList (fun x hx => by simp at hx ⊢; exact .inr hx)]
 case call c =>
  obtain ⟨callee, args, ts⟩ := c
  have ha : args.toList.map (st.rd 0) = args.toList.map (st'.rd 0) := mp _ fun x hx => by simp [Call.operands]; exact .inr (by simpa using hx)
  cases callee with
  | value f => rfl
  | invoke r m => rfl
  | builtin b => cases b <;> simp only [ha]
theorem qop2_congr {C : Cx} {st st' : St} {ty : Nat} {op : Op} (h : ∀ x ∈ op.operands, ∀ t, x = .tmp t → st.slots t = st'.slots t) (hb : st.boxes = st'.boxes) : qop2 C st ty op = qop2 C st' ty op := by
 have hq := qop_congr (T := C.T) (ty := ty) h hb
 unfold qop2
 rw [hq]
 split
 ·rename_i eq t x y hop
  obtain ⟨yt, rfl⟩ := isEql_some hop
  rw [rd_congr (h x (by simp [Op.operands])), rd_congr (h y (by simp [Op.operands]))]
 ·rfl
theorem qcnv_congr {C : Cx} {st st' : St} {op : Op} {q : QR} (h : ∀ x ∈ op.operands, ∀ t, x = .tmp t → st.slots t = st'.slots t) : qcnv C st op q = qcnv C st' op q := by
 unfold qcnv
 split
 ·rename_i s t x
  rw [rd_congr (h x (by simp [Op.operands]))]
 ·rfl
theorem qcnv_acnv {C : Cx} {o : Oper} {st : St} {d : Nat} {K : St → Prop} (hok : (qcnv C st o.op (qop2 C st o.type o.op)).ok) (hN : d < C.N) (hf : (st.slots d).free = true) (hK : K (st.put d (qcnv C st o.op (qop2 C st o.type o.op)).v)) : acnv C o st d K := by
 cases ho : o.op with
 | convert s t x =>
  unfold acnv
  rw [ho] at hok hK
  simp only [ho]
  unfold qcnv at hok hK
  simp only at hok hK
  split
  ·rename_i e b hk hx
   simp only [hk, hx] at hok hK
   exact ⟨hok, hN, hf, hK⟩
  ·rename_i hne
   split at hok
   ·rename_i e b hk hx; exact absurd hx (hne e b hk)
   ·split at hK
    ·rename_i e b hk hx; exact absurd hx (hne e b hk)
    ·unfold aquiet
     rw [ho]
     exact ⟨hok, hN, hf, hK⟩
 | _ =>
  unfold acnv
  rw [ho] at hok hK
  simp only [ho]
  unfold aquiet
  rw [ho]
  exact ⟨hok, hN, hf, hK⟩
theorem pop_congr {C : Cx} {r : AV} {o : Oper} {st st' : St} (h : ∀ x ∈ o.op.operands, ∀ t, x = .tmp t → st.slots t = st'.slots t) (hb : st.boxes = st'.boxes) : pop C r o st = pop C r o st' := by
 have hq := qop2_congr (C := C) (ty := o.type) h hb
 unfold pop
 split
 ·rename_i x ho
  rw [rd_congr (h x (by simp [ho, Op.operands]))]
 ·rename_i f args ts ho
  rw [rd_congr (h f (by simp [ho, Op.operands, Call.operands])), rdArgs_congr args.toList ts.toList fun x hx => h x (by simp [ho, Op.operands, Call.operands]; exact .inr (by simpa using hx))]
 ·rename_i t len parts ho
  congr 1
  exact List.map_congr_left fun p hp => by
   rw [rd_congr (h p.2 (by rw [ho]; simp only [Op.operands, List.mem_toArray, List.mem_map]; exact ⟨p, by simpa using hp, rfl⟩))]
 ·rename_i t l c ho
  rw [rd_congr (h l (by simp [ho, Op.operands])), rd_congr (h c (by simp [ho, Op.operands]))]
 ·rw [hq, qcnv_congr h]
theorem inert_assign {C : Cx} {st : St} {d : Nat} {X : AV} {K : St → Prop} (hX : X.inert = true) (hd : d < C.N) (hf : (st.slots d).free = true) (hK : K (st.put d X)) : aassign C st d X K := by
 have h1 : X.vws (.slot d []) = [] := by
  cases X with
  | sl g _ _ => cases g <;> simp_all [AV.inert, AV.vws]
  | _ => simp_all [AV.inert, AV.vws]
 have h2 : X.tr (resLeaf noF) (.slot d []) = X := by
  cases X with
  | sl g _ _ => cases g <;> simp_all [AV.inert, AV.tr, resLeaf]
  | _ => simp_all [AV.inert, AV.tr, resLeaf]
 have h3 : X.resOk noQ noF (.slot d []) = true := by
  cases X with
  | sl g _ _ => cases g <;> simp_all [AV.inert, AV.resOk, resLeafOk]
  | _ => simp_all [AV.inert, AV.resOk, resLeafOk]
 unfold aassign
 simp only [h1, hf, List.isEmpty_nil, Bool.and_self, settleQ, settleF, h2, St.settle_no]
 exact ⟨hd, h3, hK⟩
theorem pop_aop {C : Cx} {r : AV} {o : Oper} {st : St} {d : Nat} {K : St → Prop} (hnb : ∀ t len parts, o.op ≠ .buildSlice t len parts) (hnm : ∀ t l c, o.op ≠ .makeSlice t l c) (hd : o.dst = some d) (hok : (pop C r o st).ok) (hN : d < C.N) (hf : (st.slots d).free = true) (hK : K (st.put d (pop C r o st).v)) : aop C o st K := by
 obtain ⟨dst, op, type, pos, after, guard⟩ := o
 simp only at hd
 subst hd
 have gen : aop C ⟨some d, op, type, pos, after, guard⟩ st K = aelse C ⟨some d, op, type, pos, after, guard⟩ st d K →
   (pop C r ⟨some d, op, type, pos, after, guard⟩ st = match isNilCmp op with | some _ => .no | none => qcnv C st op (qop2 C st type op)) → aop C ⟨some d, op, type, pos, after, guard⟩ st K := by
  intro h1 h2
  rw [h1]
  rw [h2] at hok hK
  unfold aelse
  cases hn : isNilCmp op with
  | some e => rw [hn] at hok; exact hok.elim
  | none =>
   rw [hn] at hok hK
   simp only
   exact qcnv_acnv (o := ⟨some d, op, type, pos, after, guard⟩) hok hN hf hK
 cases op with
 | assign x => exact inert_assign hok hN hf hK
 | alloc t => exact hok.elim
 | box t x => exact hok.elim
 | buildSlice t n parts => exact absurd rfl (hnb t n parts)
 | makeSlice t l c => exact absurd rfl (hnm t l c)
 | call c =>
  obtain ⟨callee, args, ts⟩ := c
  cases callee with
  | builtin b => cases b <;> first
    | exact hok.elim
    | exact gen rfl rfl
  | invoke x m => exact hok.elim
  | value f =>
   show acallV C st d (st.rd 0 f) (rdArgs C st args.toList ts.toList) K
   simp only [pop] at hok hK
   split at hok
   ·rename_i g fi ca hfv
    rw [hfv] at hK ⊢
    simp only at hK
    refine .inl ⟨r, hok.1, hN, hf, ?_⟩
    cases hs : r.scalar with
    | true => exact hK
    | false =>
     rcases hok.2 with h | ⟨h1, h2, h3⟩
     ·rw [hs] at h; cases h
     ·simp only [h1, List.isEmpty_nil, settleF]
      exact ⟨h2, by rw [St.fz_no]; exact hf, h3, by rw [St.fz_no]; exact hK⟩
   ·exact hok.elim
 | _ => exact gen rfl rfl
def popg (C : Cx) (ops : Array Oper) (r : AV) (o : Oper) (st : St) : QR :=
 match o.guard with
 | none => pop C r o st
 | some (j, b) => match (ops[j]?).bind (·.dst) with
  | some t => match (st.slots t).gv with
   | some (some c) => if c = b then pop C r o st else ⟨True, .tup []⟩
   | some none => ⟨True, .tup []⟩
   | none => .no
  | none => .no
theorem popg_congr {C : Cx} {ops : Array Oper} {r : AV} {o : Oper} {st st' : St} (h : ∀ t ∈ o.looksAt ops, st.slots t = st'.slots t) (hb : st.boxes = st'.boxes) : popg C ops r o st = popg C ops r o st' := by
 have hp : pop C r o st = pop C r o st' := pop_congr (fun x hx t ht => h t (List.mem_append_left _ (List.mem_filterMap.2 ⟨x, by simpa using hx, by rw [ht]⟩))) hb
 unfold popg
 cases hg : o.guard with
 | none => exact hp
 | some jb =>
  obtain ⟨j, b⟩ := jb
  simp only
  cases hj : (ops[j]?).bind (·.dst) with
  | none => rfl
  | some t =>
   simp only
   have : st.slots t = st'.slots t := h t (List.mem_append_right _ (by simp [hg, hj]))
   rw [this, hp]
def aputs (C : Cx) (ops : Array Oper) (rs : Nat → AV) : Nat → List Oper → St → (St → Prop) → Prop
 | _, [], st, K => K st
 | k, o :: rest, st, K => match o.dst with
  | some d => (popg C ops (rs k) o st).ok ∧ d < C.N ∧ (st.slots d).free = true ∧ aputs C ops rs (k + 1) rest (st.put d (popg C ops (rs k) o st).v) K
  | none => False
def bindsOn (o : Oper) (j : Nat) : Bool := o.after.any fun e => e.on == j && Region.binds .any e
def drawOk (ops : Array Oper) (m : Nat) : Bool :=
 decide (m ≤ ops.size) && Region.noSelect ops && (List.range ops.size).all fun k => match ops[k]? with
  | some o => (o.after.all fun e => !Region.binds .any e || decide (e.on < k)) &&
   if k < m then
    ((List.range m).all fun j => j == k || match ops[j]? with
     | some oj => oj.dst != o.dst
     | none => true) &&
    (o.looksAt ops).all fun t => (List.range m).all fun j => match ops[j]? with
     | some oj => oj.dst != some t || (decide (j < k) && bindsOn o j)
     | none => true
   else (List.range k).all fun j => bindsOn o j
  | none => true
def canon (C : Cx) (ops : Array Oper) (rs : Nat → AV) (st : St) : Nat → St
 | 0 => st
 | k + 1 => match ops[k]? with
  | some o => match o.dst with
   | some d => (canon C ops rs st k).put d (popg C ops (rs k) o (canon C ops rs st k)).v
   | none => canon C ops rs st k
  | none => canon C ops rs st k
section
variable {C : Cx} {ops : Array Oper} {rs : Nat → AV} {st : St} {m : Nat}
def dstOf (ops : Array Oper) (k : Nat) : Option Nat := (ops[k]?).bind (·.dst)
def putOf (C : Cx) (ops : Array Oper) (rs : Nat → AV) (st : St) (k : Nat) : AV :=
 match ops[k]? with
 | some o => (popg C ops (rs k) o (canon C ops rs st k)).v
 | none => .any
structure IsT (C : Cx) (ops : Array Oper) (rs : Nat → AV) (st : St) (m : Nat) (D : Nat → Prop) (s : St) : Prop where
 put : ∀ j t, j < m → D j → dstOf ops j = some t → s.slots t = putOf C ops rs st j
 old : ∀ t, (∀ j, j < m → D j → dstOf ops j ≠ some t) → s.slots t = st.slots t
 boxes : s.boxes = st.boxes
theorem isT_put {D : Nat → Prop} {s : St} (h : IsT C ops rs st m D s) {k d : Nat} (hk : k < m) (hd : dstOf ops k = some d) (hne : ∀ j, j < m → j ≠ k → dstOf ops j ≠ some d) :
  IsT C ops rs st m (fun j => D j ∨ j = k) (s.put d (putOf C ops rs st k)) := by
 refine ⟨fun j t hj hD hjt => ?_, fun t ht => ?_, h.boxes⟩
 ·show (if t = d then _ else s.slots t) = _
  by_cases htd : t = d
  ·subst htd
   have : j = k := Classical.byContradiction fun hjk => hne j hj hjk hjt
   subst this
   rw [if_pos rfl]
  ·rw [if_neg htd]
   rcases hD with hD | rfl
   ·exact h.put j t hj hD hjt
   ·rw [hjt] at hd; exact absurd (Option.some.inj hd) htd
 ·show (if t = d then _ else s.slots t) = _
  have htd : t ≠ d := fun e => ht k hk (.inr rfl) (by rw [e]; exact hd)
  rw [if_neg htd]
  exact h.old t fun j hj hD => ht j hj (.inl hD)
theorem isT_unique {D : Nat → Prop} {s s' : St} (h : IsT C ops rs st m D s) (h' : IsT C ops rs st m D s') : s = s' := by
 refine St.ext' (fun t => ?_) (fun id => by rw [h.boxes, h'.boxes])
 by_cases ht : ∃ j, j < m ∧ D j ∧ dstOf ops j = some t
 ·obtain ⟨j, hj, hD, hjt⟩ := ht
  rw [h.put j t hj hD hjt, h'.put j t hj hD hjt]
 ·have : ∀ j, j < m → D j → dstOf ops j ≠ some t := fun j hj hD he => ht ⟨j, hj, hD, he⟩
  rw [h.old t this, h'.old t this]
theorem isT_congr {D D' : Nat → Prop} {s : St} (h : IsT C ops rs st m D s) (hD : ∀ j, j < m → (D j ↔ D' j)) : IsT C ops rs st m D' s :=
 ⟨fun j t hj hd => h.put j t hj ((hD j hj).2 hd), fun t ht => h.old t fun j hj hd => ht j hj ((hD j hj).1 hd), h.boxes⟩
theorem canon_isT (hdst : ∀ k, k < m → ∃ o d, ops[k]? = some o ∧ o.dst = some d) (hne : ∀ j k d, j < m → k < m → j ≠ k → dstOf ops k = some d → dstOf ops j ≠ some d) :
  ∀ k, k ≤ m → IsT C ops rs st m (fun j => j < k) (canon C ops rs st k)
 | 0, _ => ⟨fun j t _ h => absurd h (by omega), fun t _ => rfl, rfl⟩
 | k + 1, hk => by
  obtain ⟨o, d, ho, hd⟩ := hdst k (by omega)
  have hdk : dstOf ops k = some d := by simp [dstOf, ho, hd]
  have h := isT_put (canon_isT hdst hne k (by omega)) (k := k) (d := d) (by omega) hdk (fun j hj hjk => hne j k d hj (by omega) hjk hdk)
  have e : canon C ops rs st (k + 1) = (canon C ops rs st k).put d (putOf C ops rs st k) := by simp [canon, putOf, ho, hd]
  rw [e]
  exact isT_congr h fun j hj => by omega
end
section
variable {C : Cx} {S : Start} {ops : Array Oper} {R : Exit → Act → World → Prop}
theorem yielded_of {E : Env} (I : Inv C.N S E) {a : Act} (ha : a.tmps = E.tm) {j t : Nat} {c : Bool} (hj : (ops[j]?).bind (·.dst) = some t) (hc : E.st.slots t = .b c) : yielded ops a.tmps j = some c := by
 have hval := I.rel.slots t
 rw [hc] at hval
 have hv : a.tmps.getD t undef = .bool c := by
  rw [ha]
  generalize E.tm.getD t undef = v at hval
  cases hval; rfl
 have ht : t < a.tmps.size := by
  rcases Nat.lt_or_ge t a.tmps.size with h1 | h1
  ·exact h1
  ·rw [Array.getD_eq_getD_getElem?, Array.getElem?_eq_none h1] at hv
   simp [undef] at hv
 have hg2 : a.tmps[t]? = some (.bool c) := by
  rw [Array.getElem?_eq_getElem ht]
  rw [Array.getD_eq_getD_getElem?, Array.getElem?_eq_getElem ht] at hv
  exact congrArg some hv
 unfold yielded
 simp [hj, hg2]
theorem aops_head {E : Env} (I : Inv C.N S E) (hbase : S.k ≤ C.base) {a : Act} (ha : a.tmps = E.tm) (hd : a.defers = []) {i : Nat} {o : Oper} {rest : List Oper} {K : St → Prop} (ho : ops[i]? = some o) (h : aops C ops (o :: rest) E.st K)
  {next : Act → World → Prop} (hnext : ∀ E' a', Inv C.N S E' → a'.tmps = E'.tm → a'.defers = [] → aops C ops rest E'.st K → next a' E'.w) : wpOp C.P ops R i next a E.w := by
 have run : aop C o E.st (fun st => aops C ops rest st K) → o.wp C.P a E.w next R := fun h =>
  aop_sound I hbase ha o h fun E' a' I' ha' hd' hK => hnext E' a' I' ha' (hd'.trans hd) hK
 unfold wpOp
 simp only [ho]
 simp only [aops] at h
 cases hg : o.guard with
 | none =>
  rw [hg] at h
  have hw : Region.wanted o (yielded ops a.tmps) = true := by simp [Region.wanted, hg]
  rw [if_pos hw]
  exact .inl (run h)
 | some jb =>
  obtain ⟨j, b⟩ := jb
  rw [hg] at h
  simp only at h
  split at h
  ·rename_i t d hj hd'
   split at h
   ·rename_i c hc
    replace hc := AV.gv_some hc
    have hy := yielded_of I ha hj hc
    have hw : Region.wanted o (yielded ops a.tmps) = (c == b) := by
     simp only [Region.wanted, hg, hy]
     cases c <;> cases b <;> rfl
    rw [hw]
    by_cases hcb : c = b
    ·rw [if_pos (by simpa using hcb)]
     rw [if_pos hcb] at h
     exact .inl (run h)
    ·rw [if_neg (by simpa using hcb)]
     rw [if_neg hcb] at h
     obtain ⟨h1, h2, h3⟩ := h
     have I' := I.putq d (.tup []) undef h1 (fun π sz xs => free_noOwn π h2) rfl val_undef
     refine hnext { E with st := E.st.put d (.tup []), tm := E.tm.setIfInBounds d undef } _ I' ?_ ?_ h3
     ·rw [hd']; show a.tmps.setIfInBounds d undef = _; rw [ha]
     ·rw [hd']; exact hd
   ·rename_i hc
    replace hc := AV.gv_none hc
    have hy := yielded_off I ha hj hc
    have hw : Region.wanted o (yielded ops a.tmps) = false := by
     simp only [Region.wanted, hg, hy]
     rfl
    rw [hw, if_neg (by decide)]
    obtain ⟨h1, h2, h3⟩ := h
    have I' := I.putq d (.tup []) undef h1 (fun π sz xs => free_noOwn π h2) rfl val_undef
    refine hnext { E with st := E.st.put d (.tup []), tm := E.tm.setIfInBounds d undef } _ I' ?_ ?_ h3
    ·rw [hd']; show a.tmps.setIfInBounds d undef = _; rw [ha]
    ·rw [hd']; exact hd
   ·exact h.elim
  ·exact h.elim
theorem Leans.fz_id {SP : Place → Prop} {SB : Nat → Prop} {F : Place → Bool} (hF : ∀ q, SP q → F q = false) {p : Place} {x : AV} (h : Leans SP SB p x) : x.tr (fzLeaf F) p = x := by
 have lst : ∀ (l : List AV) (k : Nat) (p : Place), (∀ (j : Nat) (c : AV), l[j]? = some c → c.tr (fzLeaf F) (p.sub (k + j)) = c) → AV.trL (fzLeaf F) p k l = l := by
  intro l
  induction l with
  | nil => intros; rfl
  | cons x l ih =>
   intro k p h
   rw [AV.trL, show AV.tr (fzLeaf F) (p.sub k) x = x from h 0 x rfl, ih (k + 1) p fun j c hc => by rw [show k + 1 + j = k + (j + 1) by omega]; exact h (j + 1) c (by simpa using hc)]
 have lsn : ∀ (l : List AV), (∀ c ∈ l, c.tr (fzLeaf F) .no = c) → AV.trN (fzLeaf F) l = l := by
  intro l
  induction l with
  | nil => intros; rfl
  | cons x l ih =>
   intro h
   rw [AV.trN, h x (by simp), ih fun c hc => h c (by simp [hc])]
 induction h with
 | pt p g ix cells off hq =>
  rw [AV.tr_leaf rfl]
  cases g <;> first | rfl | skip
  rename_i q ex
  simp [fzLeaf, hF q (hq q ex rfl)]
 | sl p g sz xs hq hp =>
  rw [AV.tr_leaf rfl]
  cases g <;> first | rfl | skip
  ·simp [fzLeaf, hF p (hp rfl)]
  ·rename_i q ex
   simp [fzLeaf, hF q (hq q ex rfl)]
 | fn p f fi ca _ _ h1 h2 =>
  rw [AV.tr, lsn fi h1, lsn ca h2]
 | agg p cs _ ih =>
  rw [AV.tr, lst cs 0 p fun j c hc => by rw [Nat.zero_add]; exact ih j c hc]
 | tup p cs _ ih =>
  rw [AV.tr, lst cs 0 p fun j c hc => by rw [Nat.zero_add]; exact ih j c hc]
 | _ => rfl
theorem Inv.putFro {N : Nat} {S : Start} {E E' : Env} (I : Inv N S E) (I' : Inv N S E') {d sz : Nat} {xs : List (List AV)} (hf : (E.st.slots d).free = true) (hst : E'.st = E.st.put d (.sl .own sz xs)) :
  ∃ E2, E2.w = E'.w ∧ E2.tm = E'.tm ∧ Inv N S E2 ∧ E2.st = E.st.put d (.sl .fro sz xs) := by
 refine ⟨E'.fz (isSlotOf d), rfl, rfl, I'.fz (isSlotOf d) fun _ => rfl, ?_⟩
 show E'.st.fz (isSlotOf d) = _
 rw [hst]
 have hq : ∀ q sz xs, E.st.abs q = .sl .own sz xs → isSlotOf d q = false := by
  intro q sz xs h
  cases q with
  | slot t π =>
   simp only [isSlotOf, beq_eq_false_iff_ne, ne_eq]
   rintro rfl
   exact absurd h (free_noOwn π hf)
  | _ => rfl
 refine St.ext' (fun t => ?_) (fun id => ?_)
 ·show ((if t = d then _ else E.st.slots t) : AV).tr (fzLeaf (isSlotOf d)) (.slot t []) = if t = d then _ else E.st.slots t
  by_cases htd : t = d
  ·rw [if_pos htd, if_pos htd, AV.tr_leaf rfl]
   simp [fzLeaf, isSlotOf, htd]
  ·rw [if_neg htd, if_neg htd]
   exact (I.rel.leansSlot (SP := fun q => isSlotOf d q = false) hq rfl t).fz_id fun q h => h
 ·show (E.st.boxes id).map (AV.trC (fzLeaf (isSlotOf d)) id 0) = E.st.boxes id
  cases hb : E.st.boxes id with
  | none => rfl
  | some cs =>
   show some _ = some cs
   congr 1
   have key : ∀ (l : List AV) (k : Nat), (∀ (j : Nat) (c : AV), l[j]? = some c → c.tr (fzLeaf (isSlotOf d)) (.cell id (k + j)) = c) → AV.trC (fzLeaf (isSlotOf d)) id k l = l := by
    intro l
    induction l with
    | nil => intros; rfl
    | cons x l ih =>
     intro k h
     rw [AV.trC, show AV.tr (fzLeaf (isSlotOf d)) (.cell id k) x = x from h 0 x rfl, ih (k + 1) fun j c hc => by rw [show k + 1 + j = k + (j + 1) by omega]; exact h (j + 1) c (by simpa using hc)]
   exact key cs 0 fun j c hc => by
    rw [Nat.zero_add]
    exact (I.rel.leansCell (SP := fun q => isSlotOf d q = false) hq rfl hb hc).fz_id fun q h => h
theorem wp_popBuild {E : Env} (I : Inv C.N S E) {a : Act} (ha : a.tmps = E.tm) {o : Oper} {r : AV} {d t len : Nat} {parts : Array (Nat × Operand)} (ho : o.op = .buildSlice t len parts) (hd : o.dst = some d) (hok : (pop C r o E.st).ok) (hN : d < C.N) (hf : (E.st.slots d).free = true)
  {next : Act → World → Prop} (hnext : ∀ E' a', Inv C.N S E' → a'.tmps = E'.tm → a'.defers = a.defers → E'.st = E.st.put d (pop C r o E.st).v → next a' E'.w) : o.wp C.P a E.w next R := by
 have e : pop C r o E.st = qbs C t len (parts.toList.map fun p => (p.1, E.st.rd (elemSz C.T t) p.2)) := by unfold pop; rw [ho]
 rw [e] at hok hnext
 unfold qbs at hok hnext
 generalize hps : (parts.toList.map fun p => (p.1, E.st.rd (elemSz C.T t) p.2)) = ps at hok hnext
 split at hok
 ·rename_i e hk
  rw [hk] at hnext
  simp only at hnext
  split at hok
  ·rename_i y hy
   rw [hy] at hnext
   simp only at hnext
   split at hok
   ·rename_i cs hcs
    rw [hcs] at hnext
    simp only at hnext
    obtain ⟨h1, h2, h3, h4, h5, h6, h7⟩ := hok
    refine wp_buildSlice (K := fun s => s = E.st.put d (.sl .own y.size (chunk y.size len cs))) (sz := elemSz C.T t) I ha ?_ hd ho ?_
    ·intro E' a' I' ha' hd' hK
     obtain ⟨E2, g1, g2, g3, g4⟩ := I.putFro I' hf hK
     rw [← g1]
     exact hnext E2 a' g3 (by rw [g2]; exact ha') hd' g4
    ·unfold abuildSlice
     rw [hk]
     simp only
     rw [hy]
     simp only
     rw [hps, h1]
     simp only [List.isEmpty_nil, settleF]
     have hn : (fun _ => false : Place → Bool) = noF := rfl
     rw [hcs]
     exact ⟨hN, hf, h2, h3, h4, h5, h6, h7, by rw [St.fz_no]⟩
   ·exact hok.elim
  ·exact hok.elim
 ·exact hok.elim
theorem wp_popMake {E : Env} (I : Inv C.N S E) {a : Act} (ha : a.tmps = E.tm) {o : Oper} {r : AV} {d t : Nat} {l c : Operand} (ho : o.op = .makeSlice t l c) (hd : o.dst = some d) (hok : (pop C r o E.st).ok) (hN : d < C.N) (hf : (E.st.slots d).free = true)
  {next : Act → World → Prop} (hnext : ∀ E' a', Inv C.N S E' → a'.tmps = E'.tm → a'.defers = a.defers → E'.st = E.st.put d (pop C r o E.st).v → next a' E'.w) : o.wp C.P a E.w next R := by
 have e : pop C r o E.st = qmk C t (E.st.rd 0 l) (E.st.rd 0 c) := by unfold pop; rw [ho]
 rw [e] at hok hnext
 unfold qmk at hok hnext
 split at hok
 ·rename_i e k1 n k2 m hk hl hc
  rw [hk, hl, hc] at hnext
  simp only at hnext
  split at hok
  ·rename_i y hy
   rw [hy] at hnext
   simp only at hnext
   obtain ⟨h1, h2, h3, h4, h5, h6⟩ := hok
   refine wp_makeSlice (K := fun s => s = E.st.put d (.sl .own y.size (List.replicate n.toNat (y.zero.map (AV.dz noF))))) I ha ?_ hd ho ?_
   ·intro E' a' I' ha' hd' hK
    obtain ⟨E2, g1, g2, g3, g4⟩ := I.putFro I' hf hK
    rw [← g1]
    exact hnext E2 a' g3 (by rw [g2]; exact ha') hd' g4
   ·unfold amakeSlice
    rw [hk, hl, hc]
    simp only
    rw [hy]
    exact ⟨hN, hf, h1, h2, h3, h4, h5, h6, rfl⟩
  ·exact hok.elim
 ·exact hok.elim
theorem pop_head {E : Env} (I : Inv C.N S E) (hbase : S.k ≤ C.base) {a : Act} (ha : a.tmps = E.tm) (hd : a.defers = []) {i d : Nat} {o : Oper} {r : AV} (ho : ops[i]? = some o) (hdst : o.dst = some d) (hok : (popg C ops r o E.st).ok) (hN : d < C.N)
  (hf : (E.st.slots d).free = true) {next : Act → World → Prop} (hnext : ∀ E' a', Inv C.N S E' → a'.tmps = E'.tm → a'.defers = [] → E'.st = E.st.put d (popg C ops r o E.st).v → next a' E'.w) : wpOp C.P ops R i next a E.w := by
 unfold wpOp
 simp only [ho]
 have run : popg C ops r o E.st = pop C r o E.st → o.wp C.P a E.w next R := fun he => by
  rw [he] at hok hnext
  by_cases hb : ∃ t len parts, o.op = .buildSlice t len parts
  ·obtain ⟨t, len, parts, hb⟩ := hb
   exact wp_popBuild I ha hb hdst hok hN hf fun E' a' I' ha' hd' hK => hnext E' a' I' ha' (hd'.trans hd) hK
  ·by_cases hm : ∃ t l c, o.op = .makeSlice t l c
   ·obtain ⟨t, l, c, hm⟩ := hm
    exact wp_popMake I ha hm hdst hok hN hf fun E' a' I' ha' hd' hK => hnext E' a' I' ha' (hd'.trans hd) hK
   ·exact aop_sound (K := fun s => s = E.st.put d (pop C r o E.st).v) I hbase ha o (pop_aop (fun t len parts h => hb ⟨t, len, parts, h⟩) (fun t l c h => hm ⟨t, l, c, h⟩) hdst hok hN hf rfl) fun E' a' I' ha' hd' hK => hnext E' a' I' ha' (hd'.trans hd) hK
 unfold popg at hok hnext run
 cases hg : o.guard with
 | none =>
  have hw : Region.wanted o (yielded ops a.tmps) = true := by simp [Region.wanted, hg]
  rw [if_pos hw]
  exact .inl (run (by rw [hg]))
 | some jb =>
  obtain ⟨j, b⟩ := jb
  rw [hg] at hok hnext run
  simp only at hok hnext run
  cases hj : (ops[j]?).bind (·.dst) with
  | none => rw [hj] at hok; exact hok.elim
  | some t =>
   rw [hj] at hok hnext run
   simp only at hok hnext run
   split at hok
   ·rename_i c hc
    replace hc := AV.gv_some hc
    have hy := yielded_of I ha hj hc
    have hw : Region.wanted o (yielded ops a.tmps) = (c == b) := by
     simp only [Region.wanted, hg, hy]
     cases c <;> cases b <;> rfl
    rw [hw]
    rw [hc] at hnext run
    simp only [AV.gv_b] at hnext run
    by_cases hcb : c = b
    ·rw [if_pos (by simpa using hcb)]
     rw [if_pos hcb] at run
     exact .inl (run rfl)
    ·rw [if_neg (by simpa using hcb)]
     rw [if_neg hcb] at hnext
     have I' := I.putq d (.tup []) undef hN (fun π sz xs => free_noOwn π hf) rfl val_undef
     refine hnext { E with st := E.st.put d (.tup []), tm := E.tm.setIfInBounds d undef } _ I' ?_ ?_ rfl
     ·rw [hdst]; show a.tmps.setIfInBounds d undef = _; rw [ha]
     ·rw [hdst]; exact hd
   ·rename_i hc
    replace hc := AV.gv_none hc
    have hy := yielded_off I ha hj hc
    have hw : Region.wanted o (yielded ops a.tmps) = false := by
     simp only [Region.wanted, hg, hy]
     rfl
    rw [hc] at hnext
    simp only [AV.gv_off] at hnext
    rw [hw, if_neg (by decide)]
    have I' := I.putq d (.tup []) undef hN (fun π sz xs => free_noOwn π hf) rfl val_undef
    refine hnext { E with st := E.st.put d (.tup []), tm := E.tm.setIfInBounds d undef } _ I' ?_ ?_ rfl
    ·rw [hdst]; show a.tmps.setIfInBounds d undef = _; rw [ha]
    ·rw [hdst]; exact hd
   ·exact hok.elim
end
theorem bindsOn_iff {o : Oper} {j : Nat} : bindsOn o j = true ↔ ∃ e ∈ o.after, e.on = j ∧ Region.binds .any e = true := by
 unfold bindsOn
 rw [Array.any_eq_true']
 constructor
 ·rintro ⟨e, he, h⟩
  simp only [Bool.and_eq_true, beq_iff_eq] at h
  exact ⟨e, he, h⟩
 ·rintro ⟨e, he, h1, h2⟩
  exact ⟨e, he, by simp [h1, h2]⟩
structure DrawOk (ops : Array Oper) (m : Nat) : Prop where
 le : m ≤ ops.size
 back : ∀ (k : Nat) o, ops[k]? = some o → ∀ e ∈ o.after, Region.binds .any e = true → e.on < k
 dst : ∀ (k j : Nat) o oj, k < m → j < m → j ≠ k → ops[k]? = some o → ops[j]? = some oj → oj.dst ≠ o.dst
 look : ∀ (k j : Nat) o oj t, k < m → j < m → ops[k]? = some o → ops[j]? = some oj → t ∈ o.looksAt ops → oj.dst = some t → j < k ∧ bindsOn o j = true
 tail : ∀ (k : Nat) o, m ≤ k → ops[k]? = some o → ∀ j, j < k → bindsOn o j = true
theorem drawOk_spec {ops : Array Oper} {m : Nat} (h : drawOk ops m = true) : DrawOk ops m := by
 simp only [drawOk, Bool.and_eq_true, decide_eq_true_eq, List.all_eq_true, List.mem_range] at h
 obtain ⟨⟨h1, _⟩, h3⟩ := h
 have get : ∀ (k : Nat) o, ops[k]? = some o → k < ops.size := fun k o ho => (Array.getElem?_eq_some_iff.1 ho).1
 have at' : ∀ (k : Nat) o, ops[k]? = some o → _ := fun k o ho => by
  have := h3 k (get k o ho)
  rw [ho] at this
  exact this
 refine ⟨h1, fun k o ho e he hb => ?_, fun k j o oj hk hj hjk ho hoj => ?_, fun k j o oj t hk hj ho hoj ht hd => ?_, fun k o hk ho j hj => ?_⟩
 ·have := at' k o ho
  simp only [Bool.and_eq_true] at this
  have h4 := Array.all_eq_true_iff_forall_mem.1 this.1 e he
  simpa [hb] using h4
 ·have := at' k o ho
  simp only [Bool.and_eq_true, hk, if_true, List.all_eq_true, List.mem_range] at this
  have h4 := this.2.1 j hj
  rw [hoj] at h4
  simpa [hjk] using h4
 ·have := at' k o ho
  simp only [Bool.and_eq_true, hk, if_true, List.all_eq_true, List.mem_range] at this
  have h4 := this.2.2 t ht j hj
  rw [hoj] at h4
  simpa [hd] using h4
 ·have := at' k o ho
  have hk' : ¬ k < m := by omega
  simp only [Bool.and_eq_true, hk', if_false, List.all_eq_true, List.mem_range] at this
  exact this.2 j hj
section
variable {C : Cx} {S : Start} {ops : Array Oper} {R : Exit → Act → World → Prop} {m : Nat}
theorem draw_tail (D : DrawOk ops m) (hbase : S.k ≤ C.base) {K : St → Prop} (hR : ∀ E a, Inv C.N S E → a.tmps = E.tm → a.defers = [] → K E.st → R .normal a E.w) :
  ∀ (fuel k : Nat) (listed : Array Bool) (E : Env) (a : Act), k ≤ ops.size → ops.size ≤ k + fuel → m ≤ k → listed.size = ops.size → (∀ j, j < ops.size → listed.getD j true = decide (j < k)) → Inv C.N S E → a.tmps = E.tm → a.defers = [] →
   aops C ops (ops.toList.drop k) E.st K → wpAny C.P .any ops R fuel listed a E.w := by
 intro fuel
 have fin : ∀ (fuel k : Nat) (listed : Array Bool) (E : Env) (a : Act), k = ops.size → (∀ j, j < ops.size → listed.getD j true = decide (j < k)) → Inv C.N S E → a.tmps = E.tm → a.defers = [] → aops C ops (ops.toList.drop k) E.st K → wpAny C.P .any ops R fuel listed a E.w := by
  intro fuel k listed E a hk hl I ha hd h
  subst hk
  refine wpAny_done ?_ ?_ fuel
  ·apply List.eq_nil_iff_forall_not_mem.2
   intro j hj
   obtain ⟨h1, o, ho, _⟩ := mem_ready.1 hj
   have hlt := (Array.getElem?_eq_some_iff.1 ho).1
   rw [hl j hlt] at h1
   simp [hlt] at h1
  ·rw [List.drop_eq_nil_of_le (by simp)] at h
   exact hR E a I ha hd h
 induction fuel with
 | zero =>
  intro k listed E a hk hk2 hm hs hl I ha hd h
  exact fin 0 k listed E a (by omega) hl I ha hd h
 | succ fuel ih =>
  intro k listed E a hk hk2 hm hs hl I ha hd h
  by_cases hke : k = ops.size
  ·exact fin _ k listed E a hke hl I ha hd h
  have hlt : k < ops.size := by omega
  have ho : ops[k]? = some ops[k] := Array.getElem?_eq_getElem hlt
  have hgf : ∀ j, j < ops.size → listed.getD j false = decide (j < k) := fun j hj => by
   have h1 := hl j hj
   have hjs : j < listed.size := by omega
   rw [Array.getD_eq_getD_getElem?, Array.getElem?_eq_getElem hjs] at h1 ⊢
   exact h1
  have hkr : k ∈ Region.ready .any ops listed := by
   refine mem_ready.2 ⟨by rw [hl k hlt]; simp, _, ho, fun e he hb => ?_⟩
   have := D.back k _ ho e he hb
   rw [hgf e.on (by omega)]; simpa using this
  refine ⟨fun h0 => by rw [h0] at hkr; simp at hkr, fun i hi => ?_⟩
  have hik : i = k := by
   obtain ⟨h1, o, hoi, h2⟩ := mem_ready.1 hi
   have hil := (Array.getElem?_eq_some_iff.1 hoi).1
   rw [hl i hil] at h1
   have h1 : ¬ i < k := by simpa using h1
   refine Classical.byContradiction fun hne => ?_
   obtain ⟨e, he, h3, h4⟩ := bindsOn_iff.1 (D.tail i o (by omega) hoi k (by omega))
   have := h2 e he h4
   rw [h3, hgf k hlt] at this
   simp at this
  subst hik
  have hdrop : ops.toList.drop i = ops[i] :: ops.toList.drop (i + 1) := by
   rw [List.drop_eq_getElem_cons (by simpa using hlt)]; simp
  rw [hdrop] at h
  refine aops_head I hbase ha hd ho h fun E' a' I' ha' hd' h' => ?_
  refine ih (i + 1) _ E' a' (by omega) (by omega) (by omega) (by simpa using hs) (fun j hj => ?_) I' ha' hd' h'
  by_cases hji : i = j
  ·subst hji
   rw [Array.getD_eq_getD_getElem?, Array.getElem?_setIfInBounds_self_of_lt (by omega)]
   simp
  ·rw [getD_set_ne true hji, hl j hj]
   have : (j < i) ↔ (j < i + 1) := by omega
   simp [this]
theorem countP_lt {p p' : Nat → Bool} : ∀ (l : List Nat), (∀ j ∈ l, p' j = true → p j = true) → (∃ i ∈ l, p i = true ∧ p' i = false) → l.countP p' < l.countP p
 | [], _, h => by obtain ⟨i, hi, _⟩ := h; simp at hi
 | x :: l, hle, h => by
  rw [List.countP_cons, List.countP_cons]
  have hle' : l.countP p' ≤ l.countP p := List.countP_mono_left fun j hj h => hle j (by simp [hj]) h
  obtain ⟨i, hi, h1, h2⟩ := h
  rcases List.mem_cons.1 hi with hx | hx
  ·subst hx
   simp only [h1, h2, if_true, Bool.false_eq_true, if_false]
   omega
  ·have := countP_lt l (fun j hj => hle j (by simp [hj])) ⟨i, hx, h1, h2⟩
   have hx0 := hle x (by simp)
   cases hp' : p' x with
   | true => rw [hx0 hp']; simp only [if_true]; omega
   | false => cases p x <;> simp only [Bool.false_eq_true, if_false, if_true] <;> omega
theorem draw_puts (D : DrawOk ops m) (hbase : S.k ≤ C.base) {rs : Nat → AV} {st : St} {K : St → Prop} (hR : ∀ E a, Inv C.N S E → a.tmps = E.tm → a.defers = [] → K E.st → R .normal a E.w)
  (hcan : ∀ j, j < m → ∃ o d, ops[j]? = some o ∧ o.dst = some d ∧ (popg C ops (rs j) o (canon C ops rs st j)).ok ∧ d < C.N ∧ ((canon C ops rs st j).slots d).free = true) (hfin : aops C ops (ops.toList.drop m) (canon C ops rs st m) K) :
  ∀ (fuel : Nat) (listed : Array Bool) (E : Env) (a : Act), (List.range m).countP (fun j => !listed.getD j true) + (ops.size - m) ≤ fuel → listed.size = ops.size → (∀ j, m ≤ j → j < ops.size → listed.getD j true = false) →
   IsT C ops rs st m (fun j => listed.getD j true = true) E.st → Inv C.N S E → a.tmps = E.tm → a.defers = [] → wpAny C.P .any ops R fuel listed a E.w := by
 have hdst : ∀ k, k < m → ∃ o d, ops[k]? = some o ∧ o.dst = some d := fun k hk => by
  obtain ⟨o, d, h1, h2, _⟩ := hcan k hk; exact ⟨o, d, h1, h2⟩
 have hne : ∀ j k d, j < m → k < m → j ≠ k → dstOf ops k = some d → dstOf ops j ≠ some d := by
  intro j k d hj hk hjk hd he
  obtain ⟨oj, dj, h1, h2⟩ := hdst j hj
  obtain ⟨ok, dk, h3, h4⟩ := hdst k hk
  refine D.dst k j ok oj hk hj hjk h3 h1 ?_
  simp only [dstOf, h1, h3, Option.bind_some] at hd he
  rw [hd, he]
 have hisT := fun k hk => canon_isT (C := C) (rs := rs) (st := st) hdst hne k hk
 have hle := D.le
 intro fuel
 induction fuel with
 | zero =>
  intro listed E a hf hs htail hT I ha hd
  have hall : ∀ j, j < m → listed.getD j true = true := fun j hj => by
   have h0 : (List.range m).countP (fun j => !listed.getD j true) = 0 := by omega
   rw [List.countP_eq_zero] at h0
   simpa using h0 j (List.mem_range.2 hj)
  have hst : E.st = canon C ops rs st m := isT_unique (isT_congr hT (D' := fun j => j < m) fun j hj => ⟨fun _ => hj, fun _ => hall j hj⟩) (hisT m (Nat.le_refl m))
  refine draw_tail D hbase hR 0 m listed E a hle (by omega) (Nat.le_refl m) hs (fun j hj => ?_) I ha hd (by rw [hst]; exact hfin)
  by_cases hjm : j < m
  ·rw [hall j hjm]; simp [hjm]
  ·rw [htail j (by omega) hj]; simp [hjm]
 | succ fuel ih =>
  intro listed E a hf hs htail hT I ha hd
  by_cases hall : ∀ j, j < m → listed.getD j true = true
  ·have hst : E.st = canon C ops rs st m := isT_unique (isT_congr hT (D' := fun j => j < m) fun j hj => ⟨fun _ => hj, fun _ => hall j hj⟩) (hisT m (Nat.le_refl m))
   refine draw_tail D hbase hR (fuel + 1) m listed E a hle (by omega) (Nat.le_refl m) hs (fun j hj => ?_) I ha hd (by rw [hst]; exact hfin)
   by_cases hjm : j < m
   ·rw [hall j hjm]; simp [hjm]
   ·rw [htail j (by omega) hj]; simp [hjm]
  ·have hgf : ∀ j, j < ops.size → listed.getD j false = listed.getD j true := fun j hj => by
    have hjs : j < listed.size := by omega
    rw [Array.getD_eq_getD_getElem?, Array.getD_eq_getD_getElem?, Array.getElem?_eq_getElem hjs]; rfl
   have hex : ∃ j, j < m ∧ listed.getD j true = false := by
    refine Classical.byContradiction fun hn => hall fun j hj => ?_
    cases hb : listed.getD j true with
    | true => rfl
    | false => exact absurd ⟨j, hj, hb⟩ hn
   refine ⟨fun h0 => ?_, fun i hi => ?_⟩
   ·exfalso
    have least : ∃ j, (j < m ∧ listed.getD j true = false) ∧ ∀ i, i < j → listed.getD i true = true := by
     obtain ⟨j, hj⟩ := hex
     induction j using Nat.strongRecOn with
     | _ j ihj =>
      by_cases hall2 : ∀ i, i < j → listed.getD i true = true
      ·exact ⟨j, hj, hall2⟩
      ·have : ∃ i, i < j ∧ listed.getD i true = false := by
        refine Classical.byContradiction fun hn => hall2 fun i hi => ?_
        cases hb : listed.getD i true with
        | true => rfl
        | false => exact absurd ⟨i, hi, hb⟩ hn
       obtain ⟨i, hi, hb⟩ := this
       exact ihj i hi ⟨by omega, hb⟩
    obtain ⟨j, ⟨hj1, hj2⟩, hj3⟩ := least
    obtain ⟨o, d, ho, _⟩ := hdst j hj1
    have hr : j ∈ Region.ready .any ops listed := by
     refine mem_ready.2 ⟨hj2, o, ho, fun e he hb => ?_⟩
     have h1 := D.back j o ho e he hb
     rw [hgf e.on (by omega)]; exact hj3 _ h1
    rw [h0] at hr; simp at hr
   ·obtain ⟨h1, o, ho, h2⟩ := mem_ready.1 hi
    have hil := (Array.getElem?_eq_some_iff.1 ho).1
    have him : i < m := by
     refine Classical.byContradiction fun hn => ?_
     obtain ⟨j, hj1, hj2⟩ := hex
     obtain ⟨e, he, h3, h4⟩ := bindsOn_iff.1 (D.tail i o (by omega) ho j (by omega))
     have := h2 e he h4
     rw [h3, hgf j (by omega), hj2] at this; cases this
    obtain ⟨o', d, ho', hod, hok, hdN, hfree⟩ := hcan i him
    rw [ho] at ho'; cases ho'
    have hdi : dstOf ops i = some d := by simp [dstOf, ho, hod]
    have hTi := hisT i (by omega)
    have hslot : ∀ t ∈ o.looksAt ops, E.st.slots t = (canon C ops rs st i).slots t := by
     intro t ht
     by_cases hj : ∃ j, j < m ∧ dstOf ops j = some t
     ·obtain ⟨j, hj, hjt⟩ := hj
      obtain ⟨oj, hoj, hdj⟩ := Option.bind_eq_some_iff.1 hjt
      obtain ⟨hji, hb⟩ := D.look i j o oj t him hj ho hoj ht hdj
      obtain ⟨e, he, h3, h4⟩ := bindsOn_iff.1 hb
      have hlj := h2 e he h4
      rw [h3, hgf j (by omega)] at hlj
      rw [hT.put j t hj hlj hjt, hTi.put j t hj hji hjt]
     ·have hn : ∀ j, j < m → dstOf ops j ≠ some t := fun j hj' he => hj ⟨j, hj', he⟩
      rw [hT.old t fun j hj _ => hn j hj, hTi.old t fun j hj _ => hn j hj]
    have hpeq : popg C ops (rs i) o E.st = popg C ops (rs i) o (canon C ops rs st i) := popg_congr hslot (hT.boxes.trans hTi.boxes.symm)
    have hd1 : ∀ j, j < m → j ≠ i → dstOf ops j ≠ some d := fun j hj hji => hne j i d hj him hji hdi
    have hdE : E.st.slots d = (canon C ops rs st i).slots d := by
     rw [hT.old d (fun j hj hl => hd1 j hj fun e => by subst e; rw [h1] at hl; cases hl), hTi.old d (fun j hj hl => hd1 j hj (by omega))]
    have hput : putOf C ops rs st i = (popg C ops (rs i) o (canon C ops rs st i)).v := by simp [putOf, ho]
    refine pop_head I hbase ha hd ho hod (by rw [hpeq]; exact hok) hdN (by rw [hdE]; exact hfree) fun E' a' I' ha' hd' hst' => ?_
    have hset : ∀ j, j ≠ i → (listed.setIfInBounds i true).getD j true = listed.getD j true := fun j hj => getD_set_ne true (Ne.symm hj)
    have hseti : (listed.setIfInBounds i true).getD i true = true := by
     rw [Array.getD_eq_getD_getElem?, Array.getElem?_setIfInBounds_self_of_lt (by omega)]; rfl
    refine ih _ E' a' ?_ (by simpa using hs) (fun j hj hjl => by rw [hset j (by omega)]; exact htail j hj hjl) ?_ I' ha' hd'
    ·have := countP_lt (p := fun j => !listed.getD j true) (p' := fun j => !(listed.setIfInBounds i true).getD j true) (List.range m) (fun j _ h => by
      by_cases hji : j = i
      ·subst hji; rw [hseti] at h; cases h
      ·rw [hset j hji] at h; exact h) ⟨i, List.mem_range.2 him, by rw [h1]; rfl, by rw [hseti]; rfl⟩
     omega
    ·rw [hst', hpeq, ← hput]
     refine isT_congr (isT_put hT him hdi fun j hj hji => hd1 j hj hji) fun j hj => ?_
     by_cases hji : j = i
     ·subst hji; simp [hseti]
     ·rw [hset j hji]; simp [hji]
end
theorem aputs_get {C : Cx} {ops : Array Oper} {rs : Nat → AV} {st : St} {m : Nat} {K : St → Prop} (hm : m ≤ ops.size) : ∀ (l : List Oper) (k : Nat), k ≤ m → l = (ops.toList.take m).drop k → aputs C ops rs k l (canon C ops rs st k) K →
  (∀ j, k ≤ j → j < m → ∃ o d, ops[j]? = some o ∧ o.dst = some d ∧ (popg C ops (rs j) o (canon C ops rs st j)).ok ∧ d < C.N ∧ ((canon C ops rs st j).slots d).free = true) ∧ K (canon C ops rs st m)
 | [], k, hk, hl, h => by
  have : m ≤ k := by
   have := congrArg List.length hl
   simp at this; omega
  have hkm : k = m := by omega
  subst hkm
  exact ⟨fun j h1 h2 => absurd h1 (by omega), h⟩
 | o :: rest, k, hk, hl, h => by
  have hlt : k < m := by
   have := congrArg List.length hl
   simp at this; omega
  have ho : ops[k]? = some o := by
   have := congrArg (·[0]?) hl
   simp only [List.getElem?_cons_zero, List.getElem?_drop, Nat.add_zero, List.getElem?_take, hlt, if_true] at this
   rw [← Array.getElem?_toList]; exact this.symm
  have hrest : rest = (ops.toList.take m).drop (k + 1) := by
   have := congrArg List.tail hl
   simpa [List.tail_drop] using this
  rw [aputs] at h
  split at h
  ·rename_i d hd
   obtain ⟨h1, h2, h3, h4⟩ := h
   have e : canon C ops rs st (k + 1) = (canon C ops rs st k).put d (popg C ops (rs k) o (canon C ops rs st k)).v := by simp [canon, ho, hd]
   rw [← e] at h4
   obtain ⟨g1, g2⟩ := aputs_get hm rest (k + 1) (by omega) hrest h4
   refine ⟨fun j hj1 hj2 => ?_, g2⟩
   by_cases hjk : j = k
   ·subst hjk; exact ⟨o, d, ho, hd, h1, h2, h3⟩
   ·exact g1 j (by omega) hj2
  ·exact h.elim
theorem Inv.drawn {N : Nat} {S : Start} {E : Env} (I : Inv N S E) (n : Nat) (hn : E.w.drawn ≤ n) : Inv N S { E with w := { E.w with drawn := n } } := by
 have hst : Stays (fun _ => True) (fun _ => True) E { E with w := { E.w with drawn := n } } := ⟨fun bk h => ⟨h, rfl⟩, fun bk q _ h => ⟨h, rfl⟩, fun _ _ => rfl, fun q u sz xs _ _ h => by cases q <;> exact h, fun q sz xs _ h => h⟩
 have hle : ∀ p x v, Val E p x v → Val { E with w := { E.w with drawn := n } } p x v := fun p x v hv => hv.mono hst (hv.leans (fun _ _ _ _ => trivial) trivial fun _ _ _ _ => trivial)
 refine ⟨⟨I.rel.size, fun t => hle _ _ _ (I.rel.slots t), fun id cs h => ?_, I.rel.pub, I.rel.own, I.rel.abs, I.rel.gl.mono fun bk hp => ⟨hp, rfl⟩⟩, ⟨⟨I.fr.os.1, fun h => Nat.le_trans (I.fr.os.2 h) hn⟩, I.fr.tape, I.fr.output, I.fr.size, I.fr.block, I.fr.own, I.fr.pub0, I.fr.pub1, I.fr.beta⟩⟩
 obtain ⟨g1, arr, T, g2, g3, g4⟩ := I.rel.boxes id cs h
 exact ⟨g1, arr, T, g2, g3, fun j c hj => hle _ _ _ (g4 j c hj)⟩
section
variable {C : Cx} {Q : Exit → St → Prop} {st : St}
theorem AWp.draw (m : Nat) (rs : Nat → AV) {id : Nat} {ops : Array Oper} (hmix : C.P.follows .mixedOrders = true) (hok : drawOk ops m = true) (h : aputs C ops rs 0 (ops.toList.take m) st fun s => aops C ops (ops.toList.drop m) s (Q .normal)) : AWp C (.region id ops true) st Q := by
 intro S E a hb I ha hd he
 have D := drawOk_spec hok
 obtain ⟨hcan, hfin⟩ := aputs_get D.le _ 0 (by omega) (by simp) h
 refine wp_region_any hmix ?_
 have hf : ∀ j, j < ops.size → (Array.replicate ops.size false).getD j true = false := fun j hj => by simp [hj]
 refine draw_puts (E := { E with w := { E.w with drawn := E.w.drawn + 1 } }) (st := st) D hb (K := Q .normal) (R := APost C S Q) (fun E a I ha hd h => ⟨E, rfl, I, ha, hd, h⟩) (fun j hj => hcan j (by omega) hj) hfin ops.size (Array.replicate ops.size false) a ?_ (by simp) (fun j _ hj => hf j hj) ?_ (I.drawn _ (Nat.le_succ _)) ha hd
 ·have h1 : (List.range m).countP (fun j => !(Array.replicate ops.size false).getD j true) ≤ (List.range m).length := List.countP_le_length
  rw [List.length_range] at h1
  have := D.le
  omega
 ·refine ⟨fun j t hj hD _ => ?_, fun t _ => by rw [← he], by rw [← he]⟩
  rw [hf j (Nat.lt_of_lt_of_le hj D.le)] at hD; cases hD
theorem AWp.gLD (m : Nat) (rs : Nat → AV) (ks kb : List Nat) {id : Nat} {ops : Array Oper} (hmix : C.P.follows .mixedOrders = true) (hok : drawOk ops m = true)
  (h : aputs C ops rs 0 (ops.toList.take m) st fun s => aops C ops (ops.toList.drop m) s fun s => @Kl ⟨Q⟩ (St.of (seeS ks kb s ks) (seeB ks kb s kb))) : AWp C (.region id ops true) st Q := by
 refine AWp.post (fun _ => (ks, kb)) ((AWp.draw (Q := fun e s => thenQ (fun s => Q .normal (s.clean ks kb)) (fun _ _ => False) e s) m rs hmix hok ?_).mono ?_)
 ·simp only [← St.clean_eq] at h
  exact h
 ·intro e s hs
  cases e with
  | normal => exact hs
  | _ => exact hs.elim
theorem AWp.gD (m : Nat) (rs : Nat → AV) (ks kb : List Nat) {id : Nat} {ops : Array Oper} {y : Code} (hmix : C.P.follows .mixedOrders = true) (hok : drawOk ops m = true)
  (h : aputs C ops rs 0 (ops.toList.take m) st fun s => aops C ops (ops.toList.drop m) s fun s => @Kn ⟨fun s => AWp C y s Q⟩ (St.of (seeS ks kb s ks) (seeB ks kb s kb))) : AWp C (.seq (.region id ops true) y) st Q := AWp.seq (AWp.gLD m rs ks kb hmix hok h)
theorem AWp.goD (m : Nat) (rs : Nat → AV) (ks kb : List Nat) {id : Nat} {ops : Array Oper} {y : Code} (hmix : C.P.follows .mixedOrders = true) (hok : drawOk ops m = true)
  (h : ∀ K : St → Prop, (∀ l bx, AWp C y (St.of l bx) Q → K (St.of l bx)) → aputs C ops rs 0 (ops.toList.take m) st fun s => aops C ops (ops.toList.drop m) s fun s => K (St.of (seeS ks kb s ks) (seeB ks kb s kb))) : AWp C (.seq (.region id ops true) y) st Q := AWp.gD m rs ks kb hmix hok (h _ fun _ _ h => h)
theorem AWp.lastD (m : Nat) (rs : Nat → AV) (ks kb : List Nat) (l : List (Nat × AV)) (bx : Boxes) {id : Nat} {ops : Array Oper} (hmix : C.P.follows .mixedOrders = true) (hok : drawOk ops m = true)
  (h : aputs C ops rs 0 (ops.toList.take m) st fun s => aops C ops (ops.toList.drop m) s fun s => s.sees ks kb l bx) (h2 : Q .normal (St.of l bx)) : AWp C (.region id ops true) st Q := by
 refine AWp.postFit (AWp.post (fun _ => (ks, kb)) ((AWp.draw (Q := fun e s => thenQ (fun s => s.sees ks kb l bx) (fun _ _ => False) e s) m rs hmix hok h).mono ?_))
 intro e s hs
 cases e with
 | normal => exact ⟨_, St.sees_fits hs, h2⟩
 | _ => exact hs.elim
theorem AWp.stepD (m : Nat) (rs : Nat → AV) (ks kb : List Nat) (l : List (Nat × AV)) (bx : Boxes) {id : Nat} {ops : Array Oper} {y : Code} (hmix : C.P.follows .mixedOrders = true) (hok : drawOk ops m = true)
  (h : aputs C ops rs 0 (ops.toList.take m) st fun s => aops C ops (ops.toList.drop m) s fun s => s.sees ks kb l bx) (h2 : AWp C y (St.of l bx) Q) : AWp C (.seq (.region id ops true) y) st Q := AWp.seq (AWp.lastD m rs ks kb l bx hmix hok h h2)
end
end Go.AM
namespace Go.AM
attribute [simp] pop popg AV.inert qbs qmk
@[simp] theorem aputs_nil {C : Cx} {ops : Array Oper} {rs : Nat → AV} {k : Nat} {st : St} {K : St → Prop} : aputs C ops rs k [] st K = K st := rfl
@[simp] theorem aputs_cons {C : Cx} {ops : Array Oper} {rs : Nat → AV} {k d : Nat} {op type pos after guard} {rest : List Oper} {st : St} {K : St → Prop} : aputs C ops rs k (⟨some d, op, type, pos, after, guard⟩ :: rest) st K =
  ((popg C ops (rs k) ⟨some d, op, type, pos, after, guard⟩ st).ok ∧ d < C.N ∧ (st.slots d).free = true ∧ aputs C ops rs (k + 1) rest (st.put d (popg C ops (rs k) ⟨some d, op, type, pos, after, guard⟩ st).v) K) := rfl
@[congr] theorem aputs_congr {C : Cx} {ops : Array Oper} {rs : Nat → AV} {k k' : Nat} {l l' : List Oper} {st st' : St} {K : St → Prop} (h0 : k = k') (h1 : l = l') (h2 : st = st') : aputs C ops rs k l st K = aputs C ops rs k' l' st' K := by
 subst_vars; rfl
@[simp] theorem int_beq (a b : Int) : (a == b) = decide (a = b) := by cases h : decide (a = b) <;> simp_all
@[simp] theorem int_bne (a b : Int) : (a != b) = !decide (a = b) := by simp [bne]
end Go.AM
namespace Go.AM
open Go.Proofs
abbrev cx (P : Program) (N : Nat) (kept res : List Nat) : Cx := ⟨P, N, kept, [], res, 0⟩
abbrev cxb (P : Program) (N k : Nat) (kept keptB res : List Nat) : Cx := ⟨P, N, kept, keptB, res, k⟩
theorem mix : Tryz.prog.follows .mixedOrders = true := by kernel_rfl
def bytesAV (l : List Int) : List (List AV) := l.map fun n => [.i .u8 n]
@[simp] theorem bytesAV_length (l : List Int) : (bytesAV l).length = l.length := by simp [bytesAV]
@[simp] theorem bytesAV_getElem (l : List Int) (i : Nat) (h : i < (bytesAV l).length) : (bytesAV l)[i] = [.i .u8 (l[i]'(by simpa using h))] := by simp [bytesAV]
theorem bytesAV_get (l : List Int) (i : Nat) (h : i < l.length) : (bytesAV l)[i]? = some [.i .u8 l[i]] := by simp [bytesAV, h]
theorem wrap64 {x : Int} (h1 : -9223372036854775808 ≤ x) (h2 : x < 9223372036854775808) : IntKind.i64.wrap x = x := by
 unfold IntKind.wrap
 simp [IntKind.bits, IntKind.signed]
 omega
end Go.AM
namespace Go.AM
def Ind {α : Type} (P : Program) (s : Sem α) : Prop := (∃ x, ∀ w, s.run P w = .ok x w) ∨ (∀ w x w', s.run P w ≠ .ok x w')
section
variable {P : Program}
theorem Ind.pure {α : Type} (x : α) : Ind P (Pure.pure x : Sem α) := .inl ⟨x, fun _ => rfl⟩
theorem Ind.halt {α : Type} (h : Halt) : Ind P (.halt h : Sem α) := .inr fun w x w' e => by cases e
theorem Ind.stuck {α : Type} (h : String) : Ind P (Go.stuck h : Sem α) := Ind.halt _
theorem Ind.unsupported {α : Type} (h : Unsupported) : Ind P (Go.unsupported h : Sem α) := Ind.halt _
theorem Ind.program : Ind P Go.program := .inl ⟨P, fun _ => rfl⟩
theorem Ind.bind {α β : Type} {s : Sem α} {f : α → Sem β} (h1 : Ind P s) (h2 : ∀ x, Ind P (f x)) : Ind P (s >>= f) := by
 rcases h1 with ⟨x, hx⟩ | h1
 ·rcases h2 x with ⟨y, hy⟩ | h2
  ·exact .inl ⟨y, fun w => by simp [hx, hy]⟩
  ·exact .inr fun w y w' => by simp [hx, h2]
 ·refine .inr fun w y w' => ?_
  rw [Sem.run_bind]
  generalize hr : s.run P w = r
  cases r with
  | ok x w1 => exact absurd hr (h1 w x w1)
  | halt _ _ => simp [Result.andThen]
theorem Ind.underlying (t : TypeId) : Ind P (Go.underlying t) := by
 unfold Go.underlying
 refine Ind.program.bind fun p => ?_
 split
 ·exact .pure _
 ·exact .stuck _
theorem Ind.goPanic {α : Type} (v : Value) : Ind P (Go.goPanic v : Sem α) := Ind.halt _
theorem nok_bind {α β : Type} {s : Sem α} {f : α → Sem β} (h : ∀ x w y w', (f x).run P w ≠ .ok y w') : ∀ w y w', (s >>= f).run P w ≠ .ok y w' := by
 intro w y w'
 rw [Sem.run_bind]
 cases hr : s.run P w with
 | ok x w1 => simpa [Result.andThen] using h x w1 y w'
 | halt _ _ => simp [Result.andThen]
theorem nok_panic {α : Type} (v : Value) : ∀ w y w', (Go.goPanic v : Sem α).run P w ≠ .ok y w' := fun _ _ _ e => by cases e
theorem nok_rt {α : Type} (e : RuntimeError) : ∀ w y w', (Go.runtimePanic e : Sem α).run P w ≠ .ok y w' := by
 unfold Go.runtimePanic
 refine nok_bind fun p => ?_
 dsimp only
 split <;> first | exact nok_panic _ | exact nok_bind fun _ => nok_bind fun _ => nok_panic _ | exact nok_bind fun _ => nok_panic _
theorem Ind.runtimePanic {α : Type} (e : RuntimeError) : Ind P (Go.runtimePanic e : Sem α) := .inr (nok_rt e)
theorem Ind.asBool (v : Value) : Ind P (Go.asBool v) := by
 unfold Go.asBool
 split <;> first | exact .pure _ | exact .stuck _
theorem Ind.asAgg (v : Value) : Ind P (Go.asAgg v) := by
 unfold Go.asAgg
 split <;> first | exact .pure _ | exact .stuck _
theorem Ind.sizeOf (t : TypeId) : Ind P (Go.sizeOf t) := by
 unfold Go.sizeOf
 refine Ind.bind ?_ fun _ => .pure _
 unfold Go.typeInfo
 refine Ind.program.bind fun p => ?_
 split
 ·exact .pure _
 ·exact .stuck _
theorem Ind.isAgg (t : TypeId) : Ind P (Go.isAgg t) := by
 unfold Go.isAgg
 refine (Ind.underlying t).bind fun p => ?_
 repeat (first | exact .pure _ | exact .stuck _ | exact .unsupported _ | split)
theorem Ind.part (t : TypeId) (arr : Array Value) (off : Nat) : Ind P (Go.part t arr off) := by
 unfold Go.part
 repeat (first | exact .pure _ | exact .stuck _ | exact .unsupported _ | refine (Ind.isAgg _).bind fun _ => ?_ | refine (Ind.sizeOf _).bind fun _ => ?_ | split)
theorem Ind.field (t : TypeId) (x : Value) (f : Nat) : Ind P (Instr.field t x f) := by
 unfold Instr.field
 refine (Ind.underlying t).bind fun d => ?_
 split
 ·split
  ·exact (Ind.asAgg x).bind fun _ => .part _ _ _
  ·exact .stuck _
 ·exact .stuck _
theorem Ind.extract (x : Value) (k : Nat) : Ind P (Instr.extract x k) := by
 unfold Instr.extract
 repeat (first | exact .pure _ | exact .stuck _ | split)
theorem Ind.asIntOf (v : Value) : Ind P (Go.asIntOf v) := by
 unfold Go.asIntOf
 split <;> first | exact .pure _ | exact .stuck _ | exact .unsupported _
theorem Ind.boundsPanic {α : Type} (k : IntKind) (i : Int) (n : Nat) (c : BoundsCode) : Ind P (Go.boundsPanic k i n c : Sem α) := by
 refine .inr ?_
 unfold Go.boundsPanic
 dsimp only
 split
 ·exact nok_bind fun _ => nok_rt _
 ·exact nok_bind fun _ => nok_rt _
theorem Ind.sliceBound (x : Value) (y : Nat) (c : BoundsCode) : Ind P (Instr.sliceBound x y c) := by
 unfold Instr.sliceBound
 refine (Ind.asIntOf _).bind fun p => ?_
 split
 split
 ·exact .pure _
 ·exact .boundsPanic _ _ _ _
theorem Ind.sliceBounds (b : Bool) (len cap : Nat) (lo hi mx : Option Value) : Ind P (Instr.sliceBounds b len cap lo hi mx) := by
 unfold Instr.sliceBounds
 cases mx <;> cases hi <;> cases lo <;> dsimp only <;>
  repeat (first | exact .pure _ | exact .stuck _ | refine (Ind.sliceBound _ _ _).bind fun _ => ?_ | refine (Ind.pure _).bind fun _ => ?_ | refine (Ind.stuck _).bind fun _ => ?_)
theorem Ind.intOp (op : BinOp) (k : IntKind) (a b : Int) : Ind P (Op.intArith op k a b) ∧ Ind P (Op.intDiv op k a b) ∧ Ind P (Op.intBits op k a b) ∧ Ind P (Op.intCmp op a b) := by
 refine ⟨?_, ?_, ?_, ?_⟩
 ·unfold Op.intArith; split <;> first | exact .pure _ | exact .stuck _
 ·unfold Op.intDiv; split
  ·exact .runtimePanic _
  ·split <;> first | exact .pure _ | exact .stuck _
 ·unfold Op.intBits; dsimp only; split <;> first | exact .pure _ | exact .stuck _
 ·unfold Op.intCmp; split <;> first | exact .pure _ | exact .stuck _
theorem Ind.shift (op : BinOp) (k k' : IntKind) (a b : Int) : Ind P (Op.shift op k a k' b) := by
 unfold Op.shift; split
 ·exact .runtimePanic _
 ·dsimp only; split <;> first | exact .pure _ | exact .stuck _
theorem Ind.stringOp (op : BinOp) (a b : ByteArray) : Ind P (Op.stringOp op a b) := by
 unfold Op.stringOp; dsimp only; split <;> (try split) <;> first | exact .pure _ | exact .stuck _ | exact .unsupported _
theorem Ind.binInt (op : BinOp) (t : TypeId) (k k' : IntKind) (a b : Int) : Ind P (Go.binOp op t (.int k a) (.int k' b)) := by
 have h := Ind.intOp (P := P) op k a b
 unfold Go.binOp
 cases op <;> simp only <;> (try split) <;> first | exact .stuck _ | exact .shift _ _ _ _ _ | exact h.1 | exact h.2.1 | exact h.2.2.1 | exact h.2.2.2
theorem Ind.binStr (op : BinOp) (t : TypeId) (a b : ByteArray) : Ind P (Go.binOp op t (.string a) (.string b)) := by
 unfold Go.binOp
 cases op <;> simp only <;> exact .stringOp _ _ _
theorem Ind.unary (op : UnOp) (x : Value) : Ind P (Op.unary op x) := by
 unfold Op.unary
 split <;> first | exact .pure _ | exact .stuck _ | exact .unsupported _ | exact (Ind.intOp _ _ _ _).1 | exact (Ind.intOp _ _ _ _).2.2.1
theorem Ind.slice (t : TypeId) (x : Value) (lo hi mx : Option Value) (hx : (∃ a n c, x = .slice a n c) ∨ ∃ s, x = .string s) : Ind P (Instr.sliceAt t x lo hi mx) := by
 unfold Instr.sliceAt
 refine (Ind.underlying t).bind fun d => ?_
 split
 ·rcases hx with ⟨a, n, c, rfl⟩ | ⟨s, rfl⟩ <;> exact .inr (by
   intro w y w'
   rw [Sem.run_bind]
   simp [Instr.sureAddr, Go.stuck, Result.andThen])
 ·unfold Instr.slice
  refine (Ind.underlying t).bind fun d => ?_
  split
  ·dsimp only
   split
   ·exact Ind.bind (.stuck _) fun _ => (Ind.sliceBounds _ _ _ _ _ _).bind fun _ => .pure _
   ·exact (Ind.sliceBounds _ _ _ _ _ _).bind fun _ => .pure _
  ·exact (Ind.sliceBounds _ _ _ _ _ _).bind fun _ => (Ind.sizeOf _).bind fun _ => .pure _
  ·refine .inr fun w y w' => ?_
   rcases hx with ⟨a, n, c, rfl⟩ | ⟨s, rfl⟩ <;> simp [Go.asAddr, Go.stuck, Sem.run, Result.andThen]
  ·exact .stuck _
end
def indAt (C : Cx) (o : Oper) (st : St) : Prop :=
 match o.op with
 | .move _ | .assign _ | .pick _ _ _ | .field _ _ _ | .extract _ _ | .unOp _ _ _ | .makeFunc _ _ _ => True
 | .nilCheck x => match st.rd 0 x with
  | .ptr _ _ | .pt _ _ _ _ => True
  | _ => False
 | .binOp _ _ x y _ => match st.rd 0 x, st.rd 0 y with
  | .i _ _, .i _ _ => True
  | .s _, .s _ => True
  | _, _ => False
 | .slice _ x _ _ _ => match st.rd 0 x with
  | .sl _ _ _ | .bs _ _ _ _ | .s _ => True
  | _ => False
 | .fieldAddr s _ f => match fieldOf C.T s f with
  | some (_, n, _) => n ≠ 0
  | none => False
 | _ => False
theorem Ind.v {P : Program} {s : Sem Value} (h : Ind P s) : Ind P (do Pure.pure (Go.Next.value (← s)) : Sem Go.Next) ∧ ∀ w x w', (do Pure.pure (Go.Next.value (← s)) : Sem Go.Next).run P w = .ok x w' → ∃ v, x = .value v := by
 refine ⟨h.bind fun _ => .pure _, fun w x w' he => ?_⟩
 rw [Sem.run_bind] at he
 cases hr : s.run P w with
 | ok y w1 =>
  rw [hr] at he
  simp only [Result.andThen] at he
  cases he
  exact ⟨y, rfl⟩
 | halt _ _ => rw [hr] at he; simp [Result.andThen] at he
theorem indAt_spec {C : Cx} {S : Start} {E : Env} (I : Inv C.N S E) {a : Act} (ha : a.tmps = E.tm) {o : Oper} (h : indAt C o E.st) :
  Ind C.P (execOp a.eval o) ∧ ∀ w x w', (execOp a.eval o).run C.P w = .ok x w' → ∃ v, x = .value v := by
 have pu : ∀ v : Value, Ind C.P (Pure.pure (Go.Next.value v) : Sem Go.Next) ∧ ∀ w x w', (Pure.pure (Go.Next.value v) : Sem Go.Next).run C.P w = .ok x w' → ∃ v, x = .value v :=
  fun v => ⟨.pure _, fun w x w' he => by cases he; exact ⟨v, rfl⟩⟩
 have rd := fun x => I.rel.rd ha 0 x .no
 obtain ⟨dst, op, type, pos, after, guard⟩ := o
 unfold indAt at h
 cases op <;> simp only at h <;> try exact h.elim
 case move x => exact pu _
 case assign x => exact pu _
 case pick c x y =>
  refine ⟨(Ind.asBool _).bind fun _ => .pure _, fun w z w' he => ?_⟩
  simp only [execOp, Sem.run_bind] at he
  cases hr : (Go.asBool (a.eval c)).run C.P w with
  | ok y w1 =>
   rw [hr] at he
   simp only [Result.andThen] at he
   cases he
   exact ⟨_, rfl⟩
  | halt _ _ => rw [hr] at he; simp [Result.andThen] at he
 case unOp op t x => exact Ind.v (.unary _ _)
 case field t x f => exact Ind.v (.field _ _ _)
 case extract x k => exact Ind.v (.extract _ _)
 case makeFunc fn fi ca => exact Ind.v (.pure _)
 case nilCheck x =>
  have hx := rd x
  unfold execOp
  simp only
  generalize a.eval x = v at hx
  split at h
  ·rename_i hx0; rw [hx0] at hx
   cases hx; exact pu _
  ·rename_i hx0; rw [hx0] at hx
   cases hx; exact pu _
  ·exact h.elim
 case binOp op t x y pos =>
  have hx := rd x
  have hy := rd y
  unfold execOp
  split at h
  ·rename_i k n k' n' hx0 hy0
   rw [hx0] at hx; rw [hy0] at hy
   simp only
   rw [val_int rfl hx, val_int rfl hy]
   refine Ind.v (Ind.bind ?_ fun _ => .binInt _ _ _ _ _ _)
   unfold eqGuard
   dsimp only
   repeat (first | exact .pure _ | split)
  ·rename_i b b' hx0 hy0
   rw [hx0] at hx; rw [hy0] at hy
   simp only
   rw [val_str rfl hx, val_str rfl hy]
   refine Ind.v (Ind.bind ?_ fun _ => .binStr _ _ _ _)
   unfold eqGuard
   dsimp only
   repeat (first | exact .pure _ | split)
  ·exact h.elim
 case slice t x lo hi mx =>
  have hx := rd x
  unfold execOp
  simp only
  split at h
  ·rename_i hx0; rw [hx0] at hx
   generalize a.eval x = v at hx
   refine Ind.v (.slice _ _ _ _ _ (.inl ?_))
   cases hx <;> exact ⟨_, _, _, rfl⟩
  ·rename_i hx0; rw [hx0] at hx
   generalize a.eval x = v at hx
   refine Ind.v (.slice _ _ _ _ _ (.inl ?_))
   cases hx; exact ⟨_, _, _, rfl⟩
  ·rename_i hx0; rw [hx0] at hx
   generalize a.eval x = v at hx
   refine Ind.v (.slice _ _ _ _ _ (.inr ?_))
   cases hx; exact ⟨_, rfl⟩
  ·exact h.elim
 case fieldAddr s x f =>
  unfold execOp
  simp only
  split at h
  ·rename_i o n g hf
   obtain ⟨z, oz, fl, fd, y, oy, h1, h2, rfl, rfl, rfl⟩ := fieldOf_ok hf
   refine Ind.v ?_
   by_cases hv : ∃ ad, a.eval x = .pointer (some ad)
   ·obtain ⟨ad, hv⟩ := hv
    rw [hv]
    exact .inl ⟨.pointer (some (ad.add fd.offset)), fun w => by simp [Instr.fieldAt, oz.underlying, h1, h2, Instr.sureAddr, fieldPlace, oy.sizeOf, h]⟩
   ·refine .inr fun w y w' => ?_
    simp only [Instr.fieldAt, Sem.run_bind, oz.underlying, h1, Result.andThen_ok, h2]
    have : Instr.sureAddr (a.eval x) = (Go.stuck "an address expected (no nilCheck in front?)" : Sem Addr) := by
     generalize a.eval x = v at hv
     cases v with
     | pointer p => cases p with
      | none => rfl
      | some ad => exact absurd ⟨ad, rfl⟩ hv
     | _ => rfl
    simp [this, Go.stuck, Result.andThen]
  ·exact h.elim
inductive Ot where
 | fin
 | stop
 | take (i : Nat) (sub : Ot)
 | alt (i : Nat) (sub rest : Ot)
def Ot.heads : Ot → List Nat
 | .alt i _ rest => i :: rest.heads
 | _ => []
def Ot.cover (ops : Array Oper) (listed : Array Bool) : Ot → Bool
 | .fin => (Region.ready .any ops listed).isEmpty
 | .stop => false
 | .take i _ => Region.free .any ops listed i && (Region.ready .any ops listed).contains i
 | .alt i s r => !(Region.ready .any ops listed).isEmpty && (Region.ready .any ops listed).all fun j => (Ot.alt i s r).heads.contains j
def Ot.ok (ops : Array Oper) : Ot → Nat → Array Bool → Bool
 | .fin, _, _ => true
 | .stop, _, _ => true
 | .take i sub, n, listed => match n with
  | 0 => false
  | n + 1 => sub.cover ops (listed.setIfInBounds i true) && sub.ok ops n (listed.setIfInBounds i true)
 | .alt i sub rest, n, listed => match n with
  | 0 => false
  | n + 1 => decide (i < ops.size) && sub.cover ops (listed.setIfInBounds i true) && sub.ok ops n (listed.setIfInBounds i true) && rest.ok ops (n + 1) listed
def Ot.okAll (ops : Array Oper) (tr : Ot) : Bool := Region.noSelect ops && tr.cover ops (Array.replicate ops.size false) && tr.ok ops ops.size (Array.replicate ops.size false)
def indG (C : Cx) (ops : Array Oper) (o : Oper) (st : St) : Prop :=
 match o.guard with
 | none => indAt C o st
 | some (j, b) => match (ops[j]?).bind (·.dst) with
  | some t => match (st.slots t).gv with
   | some (some c) => c = b → indAt C o st
   | some none => True
   | none => False
  | none => False
def opAt (l : List Oper) (i : Nat) (f : Oper → Prop) : Prop := match l[i]? with
 | some o => f o
 | none => False
def atree (C : Cx) (ops : Array Oper) (l : List Oper) : Ot → St → (St → Prop) → Prop
 | .fin, st, K => K st
 | .stop, _, _ => True
 | .take i sub, st, K => opAt l i fun o => indG C ops o st ∧ aops C ops [o] st fun s => atree C ops l sub s K
 | .alt i sub rest, st, K => opAt l i fun o => (aops C ops [o] st fun s => atree C ops l sub s K) ∧ atree C ops l rest st K
theorem wpOp_yields {P : Program} {ops : Array Oper} {Q : Exit → Act → World → Prop} (hQ : ∀ e a w, Q e a w → e = .normal) {i : Nat} {o : Oper} (ho : ops[i]? = some o) {a : Act} {w : World} {K : Act → World → Prop}
  (hi : Region.wanted o (yielded ops a.tmps) = true → Ind P (execOp a.eval o) ∧ ∀ w x w', (execOp a.eval o).run P w = .ok x w' → ∃ v, x = .value v) (h : wpOp P ops Q i K a w) : ∃ v, Yields P ops o v a ∧ K (a.put o.dst v) w := by
 have hL : ¬ LetsOut Q := fun ⟨a, w, h⟩ => by have := hQ _ _ _ h; cases this
 unfold wpOp at h
 simp only [ho] at h
 split at h
 ·rename_i hw
  replace hi := hi hw
  rcases h with h | ⟨_, h⟩
  ·unfold Oper.wp at h
   rcases hi.1 with ⟨x, hx⟩ | hn
   ·obtain ⟨v, rfl⟩ := hi.2 w x w (hx w)
    rw [hx w] at h
    exact ⟨v, .inl ⟨hw, hx⟩, h⟩
   ·exfalso
    cases hr : (execOp a.eval o).run P w with
    | ok x w1 => exact hn _ _ _ hr
    | halt e w1 =>
     rw [hr] at h
     cases e <;> simp only [Oper.upon] at h
     have := hQ _ _ _ h; cases this
  ·exact absurd h hL
 ·rename_i hw
  exact ⟨undef, .inr ⟨by simpa using hw, rfl⟩, h⟩
theorem indG_spec {C : Cx} {S : Start} {ops : Array Oper} {E : Env} (I : Inv C.N S E) {a : Act} (ha : a.tmps = E.tm) {o : Oper} (h : indG C ops o E.st) (hw : Region.wanted o (yielded ops a.tmps) = true) : indAt C o E.st := by
 unfold indG at h
 split at h
 ·exact h
 ·rename_i j b hg
  split at h
  ·rename_i t ht
   split at h
   ·rename_i c hc
    replace hc := AV.gv_some hc
    have hy := yielded_of I ha ht hc
    simp only [Region.wanted, hg, hy] at hw
    refine h ?_
    cases c <;> cases b <;> first | rfl | (exact absurd hw (by decide))
   ·rename_i hc
    replace hc := AV.gv_none hc
    have hy := yielded_off I ha ht hc
    simp only [Region.wanted, hg, hy] at hw
    exact absurd hw (by cases b <;> decide)
   ·exact h.elim
  ·exact h.elim
section
variable {C : Cx} {S : Start} {ops : Array Oper} {Q : Exit → Act → World → Prop}
theorem atree_sound (hs : Region.noSelect ops = true) (hbase : S.k ≤ C.base) (hQ : ∀ e a w, Q e a w → e = .normal) {K : St → Prop} (hR : ∀ E a, Inv C.N S E → a.tmps = E.tm → a.defers = [] → K E.st → Q .normal a E.w) : ∀ (tr : Ot),
  (∀ (n : Nat) (listed : Array Bool) (E : Env) (a : Act), tr.cover ops listed = true → tr.ok ops n listed = true → Inv C.N S E → a.tmps = E.tm → a.defers = [] → atree C ops ops.toList tr E.st K → wpAny C.P .any ops Q n listed a E.w) ∧
  (∀ (n : Nat) (listed : Array Bool) (E : Env) (a : Act) (i : Nat), i ∈ tr.heads → tr.ok ops (n + 1) listed = true → Inv C.N S E → a.tmps = E.tm → a.defers = [] → atree C ops ops.toList tr E.st K →
   wpOp C.P ops Q i (wpAny C.P .any ops Q n (listed.setIfInBounds i true)) a E.w)
 | .fin => ⟨fun n listed E a hc _ I ha hd h => wpAny_done (by simpa [Ot.cover] using hc) (hR E a I ha hd h) n, fun n listed E a i hi => by simp [Ot.heads] at hi⟩
 | .stop => ⟨fun n listed E a hc => by simp [Ot.cover] at hc, fun n listed E a i hi => by simp [Ot.heads] at hi⟩
 | .take i sub => by
  refine ⟨fun n listed E a hc hok I ha hd h => ?_, fun n listed E a i hi => by simp [Ot.heads] at hi⟩
  simp only [Ot.cover, Bool.and_eq_true] at hc
  cases n with
  | zero => simp [Ot.ok] at hok
  | succ n =>
  simp only [Ot.ok, Bool.and_eq_true] at hok
  simp only [atree, opAt] at h
  split at h
  ·rename_i o ho
   rw [Array.getElem?_toList] at ho
   have h1 := aops_head (R := Q) (next := wpAny C.P .any ops Q n (listed.setIfInBounds i true)) I hbase ha hd ho h.2 fun E' a' I' ha' hd' h' => (atree_sound hs hbase hQ hR sub).1 n _ E' a' hok.1 hok.2 I' ha' hd' h'
   obtain ⟨v, hy, hk⟩ := wpOp_yields hQ ho (fun hw => indAt_spec I ha (indG_spec I ha h.1 hw)) h1
   exact wpAny_take ho hs hc.1 hc.2 (fun c a w hq => by have := hQ _ _ _ hq; cases this) hy hk
  ·exact h.elim
 | .alt i sub rest => by
  have heads : ∀ (n : Nat) (listed : Array Bool) (E : Env) (a : Act) (j : Nat), j ∈ (Ot.alt i sub rest).heads → (Ot.alt i sub rest).ok ops (n + 1) listed = true → Inv C.N S E → a.tmps = E.tm → a.defers = [] → atree C ops ops.toList (.alt i sub rest) E.st K →
    wpOp C.P ops Q j (wpAny C.P .any ops Q n (listed.setIfInBounds j true)) a E.w := by
   intro n listed E a j hj hok I ha hd h
   simp only [Ot.ok, Bool.and_eq_true] at hok
   simp only [atree, opAt] at h
   split at h
   ·rename_i o ho
    rw [Array.getElem?_toList] at ho
    rcases List.mem_cons.1 hj with rfl | hj
    ·exact aops_head I hbase ha hd ho h.1 fun E' a' I' ha' hd' h' => (atree_sound hs hbase hQ hR sub).1 n _ E' a' hok.1.1.2 hok.1.2 I' ha' hd' h'
    ·exact (atree_sound hs hbase hQ hR rest).2 n listed E a j hj hok.2 I ha hd h.2
   ·exact h.elim
  refine ⟨fun n listed E a hc hok I ha hd h => ?_, heads⟩
  simp only [Ot.cover, Bool.and_eq_true, List.all_eq_true] at hc
  cases n with
  | zero => simp [Ot.ok] at hok
  | succ n =>
  refine ⟨fun h0 => by simp [h0] at hc, fun j hj => heads n listed E a j (by simpa using hc.2 j hj) hok I ha hd h⟩
end
theorem Oper.upon_monoQ {P : Program} {o : Oper} {a : Act} {K : Act → World → Prop} {Q Q' : Exit → Act → World → Prop} (h : ∀ e a w, Q e a w → Q' e a w) : ∀ r, o.upon P a K Q r → o.upon P a K Q' r := by
 intro r hr
 cases r with
 | ok n w =>
  cases n <;> simp only [Oper.upon] at hr ⊢ <;> try exact hr
  exact hr.mono fun e w he => by cases e <;> first | exact he | exact h _ _ _ he | exact (let ⟨a, w, h1⟩ := he; ⟨a, w, h _ _ _ h1⟩)
 | halt e w => cases e <;> simp only [Oper.upon] at hr ⊢; exact h _ _ _ hr
theorem wpOp_monoQ {P : Program} {ops : Array Oper} {i : Nat} {a : Act} {w : World} {K : Act → World → Prop} {Q Q' : Exit → Act → World → Prop} (h : ∀ e a w, Q e a w → Q' e a w) (hh : wpOp P ops Q i K a w) : wpOp P ops Q' i K a w := by
 unfold wpOp at hh ⊢
 split
 ·rename_i ho; simpa only [ho] using hh
 ·rename_i o ho
  simp only [ho] at hh
  split
  ·rename_i hw
   rw [if_pos hw] at hh
   rcases hh with hh | ⟨h1, a, w, h2⟩
   ·exact .inl (Oper.upon_monoQ h _ hh)
   ·exact .inr ⟨h1, a, w, h _ _ _ h2⟩
  ·rename_i hw
   rwa [if_neg hw] at hh
theorem wpAny_monoQ {P : Program} {ops : Array Oper} {md} {Q Q' : Exit → Act → World → Prop} (h : ∀ e a w, Q e a w → Q' e a w) : ∀ (n : Nat) (listed : Array Bool) (a : Act) (w : World), wpAny P md ops Q n listed a w → wpAny P md ops Q' n listed a w
 | 0, _, _, _, hh => ⟨hh.1, h _ _ _ hh.2⟩
 | n + 1, _, _, _, hh => ⟨fun h0 => h _ _ _ (hh.1 h0), fun i hi => wpOp_mono (fun a w => wpAny_monoQ h n _ a w) (wpOp_monoQ h (hh.2 i hi))⟩
section
variable {C : Cx} {Q : Exit → St → Prop} {st : St}
theorem AWp.tree (tr : Ot) {id : Nat} {ops : Array Oper} (hmix : C.P.follows .mixedOrders = true) (hok : tr.okAll ops = true) (h : atree C ops ops.toList tr st (Q .normal)) : AWp C (.region id ops true) st Q := by
 intro S E a hb I ha hd he
 simp only [Ot.okAll, Bool.and_eq_true] at hok
 refine wp_region_any hmix (wpAny_monoQ (Q := fun e a w => e = .normal ∧ APost C S Q e a w) (fun e a w h => h.2) _ _ _ _ ?_)
 refine (atree_sound (Q := fun e a w => e = .normal ∧ APost C S Q e a w) (K := Q .normal) hok.1.1 hb (fun e a w h => h.1) (fun E a I ha hd h => ⟨rfl, E, rfl, I, ha, hd, h⟩) tr).1 ops.size _ { E with w := { E.w with drawn := E.w.drawn + 1 } } a hok.1.2 hok.2 (I.drawn _ (Nat.le_succ _)) ha hd ?_
 show atree C ops ops.toList tr E.st (Q .normal)
 rw [he]; exact h
theorem AWp.gLT (tr : Ot) (ks kb : List Nat) {id : Nat} {ops : Array Oper} (hmix : C.P.follows .mixedOrders = true) (hok : tr.okAll ops = true)
  (h : atree C ops ops.toList tr st fun s => @Kl ⟨Q⟩ (St.of (seeS ks kb s ks) (seeB ks kb s kb))) : AWp C (.region id ops true) st Q := by
 refine AWp.post (fun _ => (ks, kb)) ((AWp.tree (Q := fun e s => thenQ (fun s => Q .normal (s.clean ks kb)) (fun _ _ => False) e s) tr hmix hok ?_).mono ?_)
 ·simp only [← St.clean_eq] at h
  exact h
 ·intro e s hs
  cases e with
  | normal => exact hs
  | _ => exact hs.elim
theorem AWp.gT (tr : Ot) (ks kb : List Nat) {id : Nat} {ops : Array Oper} {y : Code} (hmix : C.P.follows .mixedOrders = true) (hok : tr.okAll ops = true)
  (h : atree C ops ops.toList tr st fun s => @Kn ⟨fun s => AWp C y s Q⟩ (St.of (seeS ks kb s ks) (seeB ks kb s kb))) : AWp C (.seq (.region id ops true) y) st Q := AWp.seq (AWp.gLT tr ks kb hmix hok h)
theorem AWp.lastT (tr : Ot) (ks kb : List Nat) (l : List (Nat × AV)) (bx : Boxes) {id : Nat} {ops : Array Oper} (hmix : C.P.follows .mixedOrders = true) (hok : tr.okAll ops = true)
  (h : atree C ops ops.toList tr st fun s => s.sees ks kb l bx) (h2 : Q .normal (St.of l bx)) : AWp C (.region id ops true) st Q := by
 refine AWp.postFit (AWp.post (fun _ => (ks, kb)) ((AWp.tree (Q := fun e s => thenQ (fun s => s.sees ks kb l bx) (fun _ _ => False) e s) tr hmix hok h).mono ?_))
 intro e s hs
 cases e with
 | normal => exact ⟨_, St.sees_fits hs, h2⟩
 | _ => exact hs.elim
theorem AWp.stepT (tr : Ot) (ks kb : List Nat) (l : List (Nat × AV)) (bx : Boxes) {id : Nat} {ops : Array Oper} {y : Code} (hmix : C.P.follows .mixedOrders = true) (hok : tr.okAll ops = true)
  (h : atree C ops ops.toList tr st fun s => s.sees ks kb l bx) (h2 : AWp C y (St.of l bx) Q) : AWp C (.seq (.region id ops true) y) st Q := AWp.seq (AWp.lastT tr ks kb l bx hmix hok h h2)
end
@[congr] theorem atree_congr {C : Cx} {ops : Array Oper} {l l' : List Oper} {tr : Ot} {st st' : St} {K : St → Prop} (h1 : l = l') (h2 : st = st') : atree C ops l tr st K = atree C ops l' tr st' K := by
 subst_vars; rfl
section
variable {C : Cx} {ops : Array Oper} {l : List Oper} {st : St} {K : St → Prop} {i : Nat} {sub rest : Ot}
@[simp] theorem atree_fin : atree C ops l .fin st K = K st := rfl
@[simp] theorem atree_stop : atree C ops l .stop st K = True := rfl
theorem atree.tk (h : ∀ K' : St → Prop, (∀ m bx, atree C ops l sub (St.of m bx) K → K' (St.of m bx)) → opAt l i fun o => indG C ops o st ∧ aops C ops [o] st K') : atree C ops l (.take i sub) st K := h (fun s => atree C ops l sub s K) fun _ _ h => h
theorem atree.f (h : K st) : atree C ops l .fin st K := h
theorem atree.t (h : opAt l i fun o => indG C ops o st ∧ aops C ops [o] st (@Kn ⟨fun s => atree C ops l sub s K⟩)) : atree C ops l (.take i sub) st K := h
theorem atree.b (h1 : opAt l i fun o => aops C ops [o] st (@Kn ⟨fun s => atree C ops l sub s K⟩)) (h2 : atree C ops l rest st K) : atree C ops l (.alt i sub rest) st K := by
 simp only [opAt] at h1
 simp only [atree, opAt]
 split
 ·rename_i o ho; rw [ho] at h1; exact ⟨h1, h2⟩
 ·rename_i ho; rw [ho] at h1; exact h1
theorem atree.a (h : opAt l i fun o => aops C ops [o] st (@Kn ⟨fun s => atree C ops l sub s K⟩)) : atree C ops l (.alt i sub .stop) st K := atree.b h trivial
theorem atree.al (h : ∀ K' : St → Prop, (∀ m bx, atree C ops l sub (St.of m bx) K → K' (St.of m bx)) → opAt l i fun o => aops C ops [o] st K') (h2 : atree C ops l rest st K) : atree C ops l (.alt i sub rest) st K := atree.b (h _ fun _ _ h => h) h2
theorem atree.a1 (h : ∀ K' : St → Prop, (∀ m bx, atree C ops l sub (St.of m bx) K → K' (St.of m bx)) → opAt l i fun o => aops C ops [o] st K') : atree C ops l (.alt i sub .stop) st K := atree.al h trivial
@[simp] theorem opAt_zero {o : Oper} {f : Oper → Prop} : opAt (o :: l) 0 f = f o := rfl
@[simp] theorem opAt_succ {o : Oper} {f : Oper → Prop} : opAt (o :: l) (i + 1) f = opAt l i f := by simp [opAt]
@[congr] theorem opAt_congr {l' : List Oper} {f : Oper → Prop} (h : l = l') : opAt l i f = opAt l' i f := by rw [h]
end
attribute [simp] indAt indG
end Go.AM
namespace Go.AM
section
variable {C : Cx} {Q : Exit → St → Prop} {st : St}
theorem AWp.mid (ks kb : List Nat) (l : List (Nat × AV)) (bx : Boxes) {x y : Code} (h1 : AWp C x st (thenQ (fun s => s.sees ks kb l bx) Q)) (h2 : AWp C y (St.of l bx) Q) : AWp C (.seq x y) st Q := by
 intro S E a hb I ha hd he
 refine wp_seq (wp_mono (h1 S E a hb I ha hd he) ?_)
 rintro e a w ⟨E1, rfl, g1, g2, g3, g4⟩
 cases e with
 | normal =>
  obtain ⟨E2, k1, k2, k3, k4⟩ := g1.clean ks kb
  have := h2 S { E2 with st := St.of l bx } a hb (k3.fits (by rw [k4]; exact St.sees_fits g4)) (by rw [g2, k2]) g3 rfl
  rw [← k1]
  exact this
 | _ => exact ⟨E1, rfl, g1, g2, g3, g4⟩
def fzs (ts : List Nat) : Place → Bool
 | .slot t _ => ts.contains t
 | _ => false
theorem AWp.frz (ts : List Nat) {c : Code} (h : AWp C c (st.fz (fzs ts)) Q) : AWp C c st Q := by
 intro S E a hb I ha hd he
 exact h S (E.fz (fzs ts)) a hb (I.fz (fzs ts) fun _ => rfl) ha hd (by show E.st.fz _ = _; rw [he])
end
attribute [simp] fzs
end Go.AM
namespace Go.AM
section
variable {P : Program} {N : Nat} {S : Start} {E : Env}
theorem Inv.copyBox (I : Inv N S E) {id : Nat} {cs ds : List AV} {news : List Value} {arr : Array Value} {T : TypeId} (hb : E.st.boxes id = some cs) (hat : cs.all AV.atom = true) (hds : ds.all AV.atom = true) (hle : ds.length ≤ cs.length)
  (hn : news.length = ds.length) (hv : ∀ (k : Nat) c, ds[k]? = some c → ∃ u, news[k]? = some u ∧ Dat E.Pub E.w c u) (ha : E.w.heap[E.β id]? = some (.cells arr T (0, 0))) (hsz : arr.size = cs.length) :
  Inv N S { E with w := E.w.setRow (E.β id) (news ++ arr.toList.drop news.length).toArray, st := E.st.setBox id (some (ds ++ cs.drop ds.length)) } := by
 obtain ⟨hω, arr0, T0, h1, h2, h3⟩ := I.rel.boxes id cs hb
 rw [ha] at h1
 cases h1
 have hset := setRow_heap E.w (E.β id) arr (news ++ arr.toList.drop news.length).toArray T (0, 0) ha
 have hoth : ∀ k, k ≠ E.β id → (E.w.setRow (E.β id) (news ++ arr.toList.drop news.length).toArray).heap[k]? = E.w.heap[k]? := fun k hk => setRow_other E.w (E.β id) k _ hk
 have hatom : ∀ (j : Nat) c, cs[j]? = some c → c.atom = true := fun j c h => by
  rw [List.all_eq_true] at hat
  exact hat c (List.mem_of_getElem? h)
 obtain ⟨_, hR⟩ := I.rel.setBox (fun _ => False) (fun _ _ _ _ h => h) (fun _ h => h) (fun h => h) (E.w.setRow (E.β id) (news ++ arr.toList.drop news.length).toArray) E.ω E.Pub id (fun j => j < ds.length) cs (ds ++ cs.drop ds.length)
  arr (news ++ arr.toList.drop news.length).toArray T T hb ha (fun bk _ hne _ => hoth bk hne) hset (by simp; omega) (by simp; omega)
  (fun j c hj _ sz xs he => by have := hatom j c hj; rw [he] at this; simp [AV.atom] at this)
  (fun j hj => by
   refine ⟨?_, ?_⟩
   ·rw [List.getElem?_append_right (by omega), List.getElem?_drop]; congr 1; omega
   ·rw [← Array.getElem?_toList]
    show (news ++ arr.toList.drop news.length)[j]? = _
    rw [List.getElem?_append_right (by omega), List.getElem?_drop, Array.getElem?_toList]; congr 1; omega)
  (fun _ _ h => h) (fun _ h => h) (fun b h => ⟨by rw [size_setRow]; exact (I.rel.pub b h).1, (I.rel.pub b h).2⟩) (fun b q h => by rw [size_setRow]; exact I.rel.own b q h)
 refine ⟨hR fun j c hj hD => ?_, ⟨I.fr.os, I.fr.tape, I.fr.output, by show S.w0.heap.size ≤ _; rw [size_setRow]; exact I.fr.size, fun k hk hn' => ?_, I.fr.own, I.fr.pub0, I.fr.pub1, I.fr.beta⟩⟩
 ·have hD' : j < ds.length := hD
  rw [List.getElem?_append_left hD'] at hj
  obtain ⟨u, hu, hd⟩ := hv j c hj
  have hat2 : c.atom = true := by
   rw [List.all_eq_true] at hds
   exact hds c (List.mem_of_getElem? hj)
  have : (news ++ arr.toList.drop news.length).toArray.getD j undef = u := by
   rw [Array.getD_eq_getD_getElem?, ← Array.getElem?_toList]
   show ((news ++ arr.toList.drop news.length)[j]?).getD undef = u
   rw [List.getElem?_append_left (by omega), hu]
   rfl
  rw [this]
  exact (hd.atom hat2).val _
 ·show (E.w.setRow (E.β id) _).heap[k]? = _
  rw [hoth k fun e => ?_]
  ·exact I.fr.block k hk hn'
  ·have := I.fr.own (E.β id) _ hω
   rcases this with h | h
   ·omega
   ·exact hn' (e ▸ h)
end
section
variable {C : Cx} {Q : Exit → St → Prop} {st : St}
theorem wpOps_run {P : Program} {ops : Array Oper} {R : Exit → Act → World → Prop} {i : Nat} {rest : List Nat} {o : Oper} {a : Act} {w w' : World} {v : Value} (ho : ops[i]? = some o) (hg : o.guard = none) (hr : (execOp a.eval o).run P w = .ok (.value v) w')
  (h : wpOps P ops R rest (a.put o.dst v) w') : wpOps P ops R (i :: rest) a w := by
 have hw : Region.wanted o (yielded ops a.tmps) = true := by simp [Region.wanted, hg]
 simp only [wpOps, ho, hw, if_true]
 left
 unfold Oper.wp
 rw [hr]
 exact h
theorem put_eval {a : Act} {d t : Nat} {v : Value} (h : d ≠ t) : (a.put (some d) v).eval (.tmp t) = a.eval (.tmp t) := by
 simp [Act.eval, Act.put, Array.getElem?_setIfInBounds_ne h]
theorem put_eval_self {a : Act} {d : Nat} {v : Value} (h : d < a.tmps.size) : (a.put (some d) v).eval (.tmp d) = v := by
 simp [Act.eval, Act.put, h]
theorem AWp.copyArr {id t t1 t2 ty1 ty2 ty3 d1 d2 d3 p s b n e sz : Nat} {q1 q2 q3 : String} {a1 a2 a3 : Array Edge} {g : Gh} {xs : List (List AV)} {cs : List AV} {y : TI} (hp : st.slots p = .ptr b 0) (hb : st.boxes b = some cs) (hs : st.slots s = .sl g sz xs) (hg : g ≠ .own)
  (hk : (C.T t).map TI.kind = some (.arr n e)) (hk1 : (C.T t1).map TI.kind = some (.slice e)) (hy : C.T e = some y) (hys : y.size = sz) (hcs : cs.length = n * sz) (hat : cs.all AV.atom = true) (hxa : (xs.all fun x => x.all AV.atom) = true) (hle : xs.length ≤ n)
  (hd : d1 < C.N ∧ d2 < C.N ∧ d3 < C.N ∧ d1 ≠ s ∧ d1 ≠ d2 ∧ d2 ≠ d3 ∧ d1 ≠ d3) (hf : (st.slots d1).free = true ∧ (st.slots d2).free = true ∧ (st.slots d3).free = true)
  (h : Q .normal ((((st.put d1 .any).put d2 .any).setBox b (some (xs.flatten ++ cs.drop xs.flatten.length))).put d3 (.i .i64 xs.length))) :
  AWp C (.region id #[⟨some d1, .slice t (.tmp p) none none none, ty1, q1, a1, none⟩, ⟨some d2, .move (.tmp s), ty2, q2, a2, none⟩, ⟨some d3, .call ⟨.builtin .copy, #[.tmp d1, .tmp d2], #[t1, t2]⟩, ty3, q3, a3, none⟩] false) st Q := by
 intro S E a hbase I ha hdf he
 obtain ⟨n1, n2, n3, n4, n5, n6, n7⟩ := hd
 obtain ⟨f1, f2, f3⟩ := hf
 subst he
 obtain ⟨z, oz, hz⟩ := kind_of_map (P := C.P) hk
 obtain ⟨z1, oz1, hz1⟩ := kind_of_map (P := C.P) hk1
 obtain ⟨oy⟩ := ti_ok (P := C.P) hy
 have hda := kind_arr (oz.kind.trans hz)
 have hds := kind_slice (oz1.kind.trans hz1)
 have hvp : a.eval (.tmp p) = .pointer (some ⟨E.β b, 0, none⟩) := by
  have := I.rel.rd ha 0 (.tmp p) .no
  simp only [St.rd, hp] at this
  generalize a.eval (.tmp p) = v at this
  cases this; rfl
 have hvs : Val E .no (.sl g sz xs) (a.eval (.tmp s)) := by
  have := I.rel.rd ha 0 (.tmp s) .no
  simp only [St.rd, hs] at this
  cases g with
  | own => exact absurd rfl hg
  | _ => exact this
 generalize hvs0 : a.eval (.tmp s) = vs at hvs
 have hsize := I.rel.size
 refine wp_region ?_
 show wpOps C.P _ _ [0, 1, 2] a E.w
 refine wpOps_run (v := .slice (some ⟨E.β b, 0, none⟩) n n) (w' := E.w) rfl rfl ?_ ?_
 ·simp [execOp, hvp, Instr.sliceAt, oz.underlying, hda, Instr.sureAddr, Instr.sliceBounds, oy.sizeOf, Addr.add]
 refine wpOps_run (v := vs) (w' := E.w) rfl rfl ?_ ?_
 ·simp [execOp, put_eval n4, hvs0]
 obtain ⟨hxl, news, hrd, hnews⟩ := appendix_reads (C := C) hvs (sz := sz) (ys := xs) rfl (by cases g <;> first | rfl | exact absurd rfl hg)
 obtain ⟨hω, arr, T, hcur, hasz, _⟩ := I.rel.boxes b cs hb
 have hfl := flatten_length hxl
 have hnl : news.length = xs.flatten.length := by rw [hrd.length, hfl]
 have hfit : xs.length * sz ≤ n * sz := Nat.mul_le_mul_right _ hle
 have hst := run_storeCells_at C.P (E.β b) 0 T news 0 arr E.w hcur (by rw [hnl, hfl, hasz, hcs]; omega) hrd.one
 simp only [Nat.add_zero, Nat.zero_add, List.take_zero, List.nil_append] at hst
 have hmin : Nat.min xs.length n = xs.length := Nat.min_eq_left hle
 refine wpOps_run (v := .int .i64 xs.length) (w' := E.w.setRow (E.β b) (news ++ arr.toList.drop news.length).toArray) rfl rfl ?_ ?_
 ·have e1 : ((a.put (some d1) (.slice (some ⟨E.β b, 0, none⟩) n n)).put (some d2) vs).eval (.tmp d1) = .slice (some ⟨E.β b, 0, none⟩) n n := by
   rw [put_eval (Ne.symm n5), put_eval_self (by rw [ha]; omega)]
  have e2 : ((a.put (some d1) (.slice (some ⟨E.β b, 0, none⟩) n n)).put (some d2) vs).eval (.tmp d2) = vs := put_eval_self (by simp [Act.put, ha]; omega)
  simp [execOp, resolve, invoke, Go.builtin, e1, e2, Builtin.copy_, oz1.underlying, hds, hrd.len, hmin, oy.sizeOf, hys, hrd.first E.w rfl, hst, goInt]
 ·have I1 := I.putq d1 .any (.slice (some ⟨E.β b, 0, none⟩) n n) n1 (fun π sz xs => free_noOwn π f1) rfl (.any _ _)
  have f2' : ((E.st.put d1 .any).slots d2).free = true := by
   show (if d2 = d1 then AV.any else E.st.slots d2).free = true
   split
   ·rfl
   ·exact f2
  have I2 := I1.putq d2 .any vs n2 (fun π sz xs => free_noOwn π f2') rfl (.any _ _)
  have hflat : xs.flatten.all AV.atom = true := by
   rw [List.all_eq_true]
   intro c hc
   obtain ⟨x, hx, hc⟩ := List.mem_flatten.1 hc
   rw [List.all_eq_true] at hxa
   have := hxa x hx
   rw [List.all_eq_true] at this
   exact this c hc
  have I3 := I2.copyBox (cs := cs) (ds := xs.flatten) (news := news) (arr := arr) (T := T) hb hat hflat (by rw [hfl, hcs]; exact hfit) hnl (fun k c hk => by
   obtain ⟨u, hu, hd⟩ := hnews k c hk
   exact ⟨u, hu, hd.1⟩) hcur hasz
  have f3' : ((((E.st.put d1 .any).put d2 .any).setBox b (some (xs.flatten ++ cs.drop xs.flatten.length))).slots d3).free = true := by
   show (if d3 = d2 then AV.any else if d3 = d1 then AV.any else E.st.slots d3).free = true
   split
   ·rfl
   ·split
    ·rfl
    ·exact f3
  have I4 := I3.putq d3 (.i .i64 xs.length) (.int .i64 xs.length) n3 (fun π sz xs => free_noOwn π f3') rfl (.i _ _ _)
  refine ⟨_, rfl, I4, ?_, ?_, h⟩
  ·simp [Act.put, ha]
  ·simp [Act.put, hdf]
theorem atom_dat {E : Env} {p : Place} {c : AV} {u : Value} (h : Val E p c u) (ha : c.atom = true) (Pub : Nat → Prop) (w : World) : Dat Pub w c u ∧ u.oneCell' = true := by
 cases h <;> first | (simp [AV.atom] at ha; done) | exact ⟨by constructor, rfl⟩
theorem AWp.callArr {id t t3 ty1 ty2 ty3 d1 d2 d3 p s b n e f : Nat} {q1 q2 q3 : String} {a1 a2 a3 : Array Edge} {ops : Array Oper} {rest : List Oper} {m : Nat} {cs : List AV} {y : TI} {r : AV}
  (hops : ops.toList = ⟨some d1, .move (.tmp s), ty1, q1, a1, none⟩ :: ⟨some d2, .slice t (.tmp p) none (some (.tmp d1)) none, ty2, q2, a2, none⟩ :: ⟨some d3, .call ⟨.value (.func f), #[.tmp d2], #[t3]⟩, ty3, q3, a3, none⟩ :: rest)
  (hP : Pure C.P f [.sl .fro 1 ((cs.take m).map fun c => [c])] r) (hr : r.flat = true) (hp : st.slots p = .ptr b 0) (hb : st.boxes b = some cs) (hs : st.slots s = .i .i64 m)
  (hk : (C.T t).map TI.kind = some (.arr n e)) (hy : C.T e = some y) (hcs : cs.length = n) (hat : cs.all AV.atom = true) (hle : m ≤ n)
  (hd : d1 < C.N ∧ d2 < C.N ∧ d3 < C.N ∧ d1 ≠ p ∧ d1 ≠ d2 ∧ d2 ≠ d3) (hf : (st.slots d1).free = true ∧ (st.slots d2).free = true ∧ (st.slots d3).free = true)
  (h : aops C ops rest (((st.put d1 (.i .i64 m)).put d2 .any).put d3 r) (Q .normal)) : AWp C (.region id ops false) st Q := by
 intro S E a hbase I ha hdf he
 obtain ⟨n1, n2, n3, n4, n5, n6⟩ := hd
 obtain ⟨f1, f2, f3⟩ := hf
 subst he
 obtain ⟨z, oz, hz⟩ := kind_of_map (P := C.P) hk
 obtain ⟨oy⟩ := ti_ok (P := C.P) hy
 have hda := kind_arr (oz.kind.trans hz)
 have hvp : a.eval (.tmp p) = .pointer (some ⟨E.β b, 0, none⟩) := by
  have := I.rel.rd ha 0 (.tmp p) .no
  simp only [St.rd, hp] at this
  generalize a.eval (.tmp p) = v at this
  cases this; rfl
 have hvs : a.eval (.tmp s) = .int .i64 m := by
  have := I.rel.rd ha 0 (.tmp s) .no
  simp only [St.rd, hs] at this
  exact val_int rfl this
 have hsize := I.rel.size
 have hsz : ops.size = rest.length + 3 := by rw [← Array.length_toList, hops]; simp
 have hop : ∀ k : Nat, ops[k]? = ops.toList[k]? := fun k => (Array.getElem?_toList ..).symm
 refine wp_region ?_
 have hrange : List.range ops.size = 0 :: 1 :: 2 :: List.range' 3 rest.length := by
  rw [hsz, List.range_eq_range']
  rfl
 rw [hrange]
 refine wpOps_run (v := .int .i64 m) (w' := E.w) (by rw [hop, hops]; rfl) rfl ?_ ?_
 ·simp [execOp, hvs]
 have e0 : (a.put (some d1) (.int .i64 m)).eval (.tmp p) = .pointer (some ⟨E.β b, 0, none⟩) := by rw [put_eval n4, hvp]
 have e1 : (a.put (some d1) (.int .i64 m)).eval (.tmp d1) = .int .i64 m := put_eval_self (by rw [ha]; omega)
 have hmn : (m : Int) ≤ n := by omega
 refine wpOps_run (v := .slice (some ⟨E.β b, 0, none⟩) m n) (w' := E.w) (by rw [hop, hops]; rfl) rfl ?_ ?_
 ·simp [execOp, e0, e1, Instr.sliceAt, oz.underlying, hda, Instr.sureAddr, Instr.sliceBounds, Instr.sliceBound, asIntOf, oy.sizeOf, Addr.add, hmn]
  intro hh
  omega
 have I1 := I.putq d1 (.i .i64 m) (.int .i64 m) n1 (fun π sz xs => free_noOwn π f1) rfl (.i _ _ _)
 have f2' : ((E.st.put d1 (.i .i64 m)).slots d2).free = true := by
  show (if d2 = d1 then AV.i .i64 m else E.st.slots d2).free = true
  split
  ·rfl
  ·exact f2
 have I2 := I1.putq d2 .any (.slice (some ⟨E.β b, 0, none⟩) m n) n2 (fun π sz xs => free_noOwn π f2') rfl (.any _ _)
 have f3' : (((E.st.put d1 (.i .i64 m)).put d2 .any).slots d3).free = true := by
  show (if d3 = d2 then AV.any else if d3 = d1 then AV.i .i64 m else E.st.slots d3).free = true
  split
  ·rfl
  ·split
   ·rfl
   ·exact f3
 obtain ⟨hω, arr, T, hcur, hasz, hcv⟩ := I.rel.boxes b cs hb
 obtain ⟨⟨fn, c, hfn, hbody, hname⟩, hcall⟩ := I2.callFlat (d := d3) (vs := #[.slice (some ⟨E.β b, 0, none⟩) m n]) hP hr n3 f3' rfl (fun k c hk => by
  cases k with
  | succ k => simp at hk
  | zero =>
   simp at hk
   subst hk
   have hlen : ((cs.take m).map fun c => [c]).length = m := by simp; omega
   have key := Val.sl (E := ⟨E.w, E.β, fun _ => none, fun bk => bk < E.w.heap.size, St.ofBoxes [], #[]⟩) .no .fro 1 ((cs.take m).map fun c => [c]) (E.β b) 0 n (by rw [hlen]; exact hle) ⟨fun x hx => ?_, fun j c hj => ?_⟩ (Array.getElem?_eq_some_iff.1 hcur).1 trivial
   ·rw [hlen] at key
    show Val ⟨E.w, E.β, fun _ => none, fun bk => bk < E.w.heap.size, St.ofBoxes [], #[]⟩ .no _ (Value.slice (some ⟨E.β b, 0, none⟩) m n)
    first | exact key | (rw [← List.map_take]; exact key)
   ·obtain ⟨c, _, rfl⟩ := List.mem_map.1 hx; rfl
   ·have hfl : ((cs.take m).map fun c => [c]).flatten = cs.take m := by
     generalize cs.take m = l
     induction l with
     | nil => rfl
     | cons c l ih => simp [ih]
    rw [hfl, List.getElem?_take] at hj
    split at hj
    ·have hv := hcv j c hj
     have hca : c.atom = true := by
      rw [List.all_eq_true] at hat
      exact hat c (List.mem_of_getElem? hj)
     have hjl : j < arr.size := by rw [hasz]; exact (List.getElem?_eq_some_iff.1 hj).1
     refine ⟨arr.getD j undef, ?_, atom_dat hv hca _ _⟩
     show E.w.cell? _ = _
     simp [World.cell?, hcur, hjl]
    ·cases hj)
 have hsz2 : 2 < ops.size := by omega
 have hsuf : wpOps C.P ops (APost C S Q) (2 :: List.range' 3 rest.length) ((a.put (some d1) (.int .i64 m)).put (some d2) (.slice (some ⟨E.β b, 0, none⟩) m n)) E.w := by
  have ho2 : ops[2]? = some ⟨some d3, .call ⟨.value (.func f), #[.tmp d2], #[t3]⟩, ty3, q3, a3, none⟩ := by rw [hop, hops]; rfl
  simp only [wpOps, ho2, Region.wanted, if_true]
  left
  unfold Oper.wp
  have e2 : ((a.put (some d1) (.int .i64 m)).put (some d2) (.slice (some ⟨E.β b, 0, none⟩) m n)).eval (.tmp d2) = .slice (some ⟨E.β b, 0, none⟩) m n := put_eval_self (by simp [Act.put, ha]; omega)
  rw [exec_call _ _ rfl (show ((a.put (some d1) (.int .i64 m)).put (some d2) (.slice (some ⟨E.β b, 0, none⟩) m n)).eval (.func f) = .func (.func f) #[] #[] from rfl)]
  simp only [callFunc, Sem.run_bind, run_program, Result.andThen_ok, hfn, hname, Bool.false_eq_true, if_false, hbody, Option.isNone_some, Sem.run_pure, Oper.upon_enter]
  have hargs : (#[] ++ #[Operand.tmp d2].map ((a.put (some d1) (.int .i64 m)).put (some d2) (.slice (some ⟨E.β b, 0, none⟩) m n)).eval ++ #[] : Array Value) = #[.slice (some ⟨E.β b, 0, none⟩) m n] := by simp [e2]
  rw [hargs]
  refine hcall.mono ?_
  rintro e w' ⟨v, E', rfl, rfl, hI, htm, hst⟩
  refine aops_sound (C := C) hbase (ops := ops) (K := Q .normal) (R := APost C S Q) (fun E a I ha hd h => ⟨E, rfl, I, ha, hd, h⟩) 3 rest (by rw [hops]; rfl) E' _ hI ?_ ?_ (by rw [hst]; exact h)
  ·rw [htm]; simp [Act.put, ha]
  ·simp [Act.put, hdf]
 exact hsuf
end
end Go.AM
namespace Go.AM
open Go.Proofs
def intsAV (l : List Int) : List (List AV) := l.map fun n => [.i .i64 n]
@[simp] theorem intsAV_length (l : List Int) : (intsAV l).length = l.length := by simp [intsAV]
@[simp] theorem intsAV_getElem (l : List Int) (i : Nat) (h : i < (intsAV l).length) : (intsAV l)[i] = [.i .i64 (l[i]'(by simpa using h))] := by simp [intsAV]
theorem intsAV_atom (l : List Int) : ((intsAV l).all fun x => x.all AV.atom) = true := by simp [intsAV, AV.atom]
theorem c165 (n : Int) : Pure Tryz.prog 175 [.i .i64 n] (.b (decide (1 ≤ n) && decide (n ≤ 5))) := by
 refine proc_of (cx Tryz.prog 9 [0, 2] [2]) 8 [.tmp 2] Tryz.func175 rfl rfl rfl rfl rfl rfl (Nat.le_refl _) rfl ?_
 refine AWp.go [0] [] fun K hK => ?_
 simp
 refine hK _ _ ?_
 refine AWp.step [2] [] [(2, .b (decide (1 ≤ n) && decide (n ≤ 5)))] [] ?_ ?_
 ·by_cases h1 : 1 ≤ n <;> by_cases h2 : n ≤ 5 <;> simp [h1, h2]
 ·refine AWp.ret ?_
  simp
theorem c162 (n : Int) : Pure Tryz.prog 162 [.i .i64 n] (.b (decide (n < 0) || decide (1048576 < n))) := by
 refine proc_of (cx Tryz.prog 9 [0, 2] [2]) 8 [.tmp 2] Tryz.func162 rfl rfl rfl rfl rfl rfl (Nat.le_refl _) rfl ?_
 refine AWp.go [0] [] fun K hK => ?_
 simp
 refine hK _ _ ?_
 refine AWp.step [2] [] [(2, .b (decide (n < 0) || decide (1048576 < n)))] [] ?_ ?_
 ·by_cases h1 : n < 0 <;> by_cases h2 : 1048576 < n <;> simp [h1, h2]
 ·refine AWp.ret ?_
  simp
/-- The first place at which something holds; -1: none. -/
def idxI {α : Type} (p : α → Bool) (l : List α) : Int := match l.findIdx? p with
 | some i => i
 | none => -1
theorem idxI_ge {α : Type} (p : α → Bool) (l : List α) : decide (0 ≤ idxI p l) = l.any p := by
 unfold idxI
 cases h : l.findIdx? p with
 | none =>
  rw [List.findIdx?_eq_none_iff] at h
  have : l.any p = false := by
   rw [List.any_eq_false]
   intro x hx
   simpa using h x hx
  rw [this]; rfl
 | some i =>
  have : l.any p = true := by
   rw [List.findIdx?_eq_some_iff_getElem] at h
   obtain ⟨hi, hp, _⟩ := h
   rw [List.any_eq_true]
   exact ⟨_, List.getElem_mem hi, hp⟩
  rw [this]
  simp
theorem idxI_at {α : Type} (p : α → Bool) (l : List α) (i : Nat) (hi : i < l.length) (h0 : ∀ k (hk : k < i), p (l[k]'(by omega)) = false) (h1 : p l[i] = true) : idxI p l = i := by
 unfold idxI
 have : l.findIdx? p = some i := by
  rw [List.findIdx?_eq_some_iff_getElem]
  exact ⟨hi, h1, fun j hj => by simpa using h0 j hj⟩
 rw [this]
theorem idxI_none {α : Type} (p : α → Bool) (l : List α) (h0 : ∀ k (hk : k < l.length), p l[k] = false) : idxI p l = -1 := by
 unfold idxI
 have : l.findIdx? p = none := by
  rw [List.findIdx?_eq_none_iff]
  intro x hx
  obtain ⟨k, hk, rfl⟩ := List.mem_iff_getElem.1 hx
  exact h0 k hk
 rw [this]
set_option maxRecDepth 8000 in
theorem c190 (l : List Int) (g : Nat) (p : Int → Bool) (hg : ∀ n, Pure Tryz.prog g [.i .i64 n] (.b (p n))) (hl : l.length ≤ 9223372036854775807) : Pure Tryz.prog 197 [.sl .fro 1 (intsAV l), .fn g [] []] (.i .i64 (idxI p l)) := by
 refine proc_of (cx Tryz.prog 19 [0, 1, 4, 5, 7, 8, 9, 16] [4]) 17 [.tmp 4] Tryz.func197 rfl rfl rfl rfl rfl rfl (Nat.le_refl _) rfl ?_
 refine AWp.go [0, 1] [] fun K hK => ?_
 simp
 refine hK _ _ (AWp.seq ?_)
 clear hK K
 refine AWp.go [0, 1, 7, 8] [] fun K hK => ?_
 simp
 refine hK _ _ ?_
 clear hK K
 refine AWp.block (AWp.while (fun i : Nat => [(0, .sl .fro 1 (intsAV l)), (1, .fn g [] []), (7, .i .i64 l.length), (8, .i .i64 i)]) (fun _ => []) (fun i => i ≤ l.length ∧ ∀ k (hk : k < i) (hk2 : k < l.length), p l[k] = false) (fun i => l.length - i) [0, 1, 7, 8] [] 0 (by simp) (by simp) ?_)
 rintro i ⟨hi, hall⟩
 refine AWp.go [0, 1, 7, 8, 9] [] fun K hK => ?_
 simp
 refine hK _ _ ?_
 clear hK K
 refine AWp.seq ?_
 by_cases h : i < l.length
 ·refine AWp.cond (t := true) (by simp [h]) (fun _ => AWp.skip ?_) (by simp)
  show AWp _ _ _ _
  refine AWp.seq (AWp.block ?_)
  refine AWp.go [0, 1, 5, 7, 8] [] fun K hK => ?_
  simp
  refine hK _ _ ?_
  clear hK K
  refine AWp.go [0, 1, 5, 7, 8, 16] [] fun K hK => ?_
  simp [h]
  refine call_pure (hg l[i]) (by simp) ?_
  simp
  refine hK _ _ ?_
  clear hK K
  cases hp : p l[i]
  ·refine AWp.cond (t := false) (by simp) (by simp) (fun _ => AWp.skip ?_)
   show AWp _ _ _ _
   refine AWp.goLast [0, 1, 7, 8] [] fun K hK => ?_
   simp
   refine hK _ _ ?_
   refine ⟨i + 1, ⟨by omega, fun k hk hk2 => ?_⟩, by omega, ?_⟩
   ·by_cases hki : k = i
    ·subst hki; exact hp
    ·exact hall k (by omega) hk2
   ·simp
    exact wrap64 (by omega) (by omega)
  ·refine AWp.cond (t := true) (by simp) (fun _ => ?_) (by simp)
   refine AWp.go [4] [] fun K hK => ?_
   simp
   refine hK _ _ (AWp.ret ?_)
   rw [idxI_at p l i h (fun k hk => hall k hk (by omega)) hp]
   simp
 ·refine AWp.cond (t := false) (by simp [h]) (by simp) (fun _ => AWp.exit ?_)
  show AWp _ _ _ _
  refine AWp.go [4] [] fun K hK => ?_
  simp
  refine hK _ _ (AWp.ret ?_)
  rw [idxI_none p l fun k hk => hall k (by omega) hk]
  simp
theorem c161 (l : List Int) (g : Nat) (p : Int → Bool) (hg : ∀ n, Pure Tryz.prog g [.i .i64 n] (.b (p n))) (hl : l.length ≤ 9223372036854775807) : Pure Tryz.prog 161 [.sl .fro 1 (intsAV l), .fn g [] []] (.b (l.any p)) := by
 refine proc_of (cx Tryz.prog 9 [0, 1, 4] [4]) 7 [.tmp 4] Tryz.func161 rfl rfl rfl rfl rfl rfl (Nat.le_refl _) rfl ?_
 refine AWp.go [0, 1] [] fun K hK => ?_
 simp
 refine hK _ _ ?_
 refine AWp.go [4] [] fun K hK => ?_
 simp
 refine call_pure (c190 l g p hg hl) (by simp) ?_
 simp
 refine hK _ _ (AWp.ret ?_)
 rw [← idxI_ge]
 simp
def badN (n : Int) : Bool := decide (n < 0) || decide (1048576 < n)
def clockOk (c : List Int) : Bool := decide (c.length ≤ 5) && !c.any badN
set_option maxRecDepth 8000 in
theorem c100 (c : List Int) (hl : c.length ≤ 9223372036854775807) : Pure Tryz.prog 95 [.sl .fro 1 (intsAV c)] (.i .i64 (if clockOk c then 0 else 1)) := by
 refine proc_of (cx Tryz.prog 10 [0, 2, 9] [2]) 9 [.tmp 2] Tryz.func95 rfl rfl rfl rfl rfl rfl (Nat.le_refl _) rfl ?_
 refine AWp.go [0] [] fun K hK => ?_
 simp
 refine hK _ _ (AWp.seq ?_)
 clear hK K
 refine AWp.step [9] [] [(9, .b (!clockOk c))] [] ?_ ?_
 ·by_cases h : c.length ≤ 5
  ·simp [show ¬ (5 : Int) < c.length by omega]
   refine call_pure (c161 c 162 badN c162 hl) (by simp) ?_
   simp [clockOk, h]
  ·simp [show (5 : Int) < c.length by omega, clockOk, h]
 cases hq : clockOk c
 ·refine AWp.cond (t := true) (by simp) (fun _ => ?_) (by simp)
  refine AWp.go [2] [] fun K hK => ?_
  simp
  refine hK _ _ (AWp.ret ?_)
  simp
 ·refine AWp.cond (t := false) (by simp) (by simp) (fun _ => AWp.skip ?_)
  show AWp _ _ _ _
  refine AWp.go [2] [] fun K hK => ?_
  simp
  refine hK _ _ (AWp.ret ?_)
  simp
end Go.AM
namespace Go.AM
open Go.Proofs
theorem c191 (xs : List (List AV)) (h : xs.length * 8 ≤ 140737488355328) : Pure Tryz.prog 200 [.sl .fro 1 xs] (.sl .own 1 xs) := by
 refine proc_of (cx Tryz.prog 8 [0, 2, 4] [2]) 7 [.tmp 2] Tryz.func200 rfl rfl rfl rfl rfl rfl (Nat.le_refl _) rfl ?_
 refine AWp.go [0] [] fun K hK => ?_
 simp
 refine hK _ _ (AWp.seq ?_)
 refine AWp.go [0, 4] [] fun K hK => ?_
 simp
 refine ⟨fun h0 => hK _ _ ?_, hK _ _ ?_⟩
 ·refine AWp.cond (t := true) (by simp) (fun _ => ?_) (by simp)
  refine AWp.go [2] [] fun K hK => ?_
  simp
  refine hK _ _ (AWp.ret ?_)
  simp [h0]
 ·refine AWp.cond (t := false) (by simp) (by simp) (fun _ => AWp.skip ?_)
  show AWp _ _ _ _
  refine AWp.go [2] [] fun K hK => ?_
  simp
  refine ⟨h, hK _ _ (AWp.ret ?_)⟩
  simp
theorem intsAV_flat (l : List Int) : (intsAV l).flatten = l.map (fun n => AV.i .i64 n) := by
 induction l with
 | nil => rfl
 | cons x l ih => simp [intsAV] at ih ⊢; exact ih
theorem five {l : List Int} (h : l.length = 5) : ∃ a b c d e, l = [a, b, c, d, e] := by
 match l, h with
 | [a, b, c, d, e], _ => exact ⟨a, b, c, d, e, rfl⟩
def ofL (c : List Int) : List Int := if clockOk c then c ++ List.replicate (5 - c.length) 0 else [0, 0, 0, 0, 0]
def cellsI (l : List Int) : List AV := l.map fun n => .i .i64 n
theorem ofL_length (c : List Int) : (ofL c).length = 5 := by
 unfold ofL
 split
 ·rename_i h
  simp [clockOk] at h
  simp
  omega
 ·rfl
set_option maxRecDepth 8000 in
theorem c163 (c : List Int) (hl : c.length ≤ 9223372036854775807) : Pure Tryz.prog 173 [.sl .fro 1 (intsAV c)] (.agg (cellsI (ofL c))) := by
 refine proc_of (cx Tryz.prog 11 [0, 2, 3, 6] [2]) 10 [.cell 2 189] Tryz.func173 rfl rfl rfl rfl rfl rfl (Nat.le_refl _) rfl ?_
 refine AWp.go [0, 2] [2] fun K hK => ?_
 simp
 refine hK _ _ ?_
 clear hK K
 refine AWp.go [0, 2, 3] [2, 3] fun K hK => ?_
 simp
 refine hK _ _ ?_
 clear hK K
 refine AWp.mid [2, 3] [2, 3] [(2, .ptr 2 0), (3, .ptr 3 0)] [(2, cellsI [0, 0, 0, 0, 0]), (3, cellsI (ofL c))] ?_ ?_
 ·refine AWp.go [0, 2, 3, 6] [2, 3] fun K hK => ?_
  simp
  refine call_pure (c100 c hl) (by simp) ?_
  simp
  refine hK _ _ ?_
  clear hK K
  cases hq : clockOk c
  ·refine AWp.cond (t := false) (by simp) (by simp) (fun _ => AWp.skip ?_)
   simp [ofL, hq, cellsI]
  ·refine AWp.cond (t := true) (by simp) (fun _ => ?_) (by simp)
   have hc5 : c.length ≤ 5 := by simp [clockOk] at hq; exact hq.1
   refine AWp.copyArr (p := 3) (b := 3) (s := 0) (n := 5) (e := 3) (sz := 1) (by simp) (by simp; rfl) (by simp; rfl) (by simp) (by simp) (by simp) (by simp; rfl) rfl rfl rfl (intsAV_atom c) (by simpa using hc5) (by simp) (by simp) ?_
   have e2 : (intsAV c).flatten ++ List.drop (intsAV c).flatten.length [AV.i .i64 0, AV.i .i64 0, AV.i .i64 0, AV.i .i64 0, AV.i .i64 0] = cellsI (ofL c) := by
    have e : [AV.i .i64 0, AV.i .i64 0, AV.i .i64 0, AV.i .i64 0, AV.i .i64 0] = (List.replicate 5 (0 : Int)).map (fun n => AV.i .i64 n) := rfl
    rw [e, intsAV_flat, List.length_map, ← List.map_drop, List.drop_replicate, ← List.map_append]
    simp [ofL, hq, cellsI]
   rw [e2]
   obtain ⟨x0, x1, x2, x3, x4, hx⟩ := five (ofL_length c)
   rw [hx]
   simp [cellsI]
 obtain ⟨x0, x1, x2, x3, x4, hx⟩ := five (ofL_length c)
 rw [hx]
 simp only [cellsI, List.map_cons, List.map_nil]
 refine AWp.go [2] [2] fun K hK => ?_
 simp
 refine hK _ _ (AWp.ret ?_)
 simp
end Go.AM
namespace Go.AM
open Go.Proofs
def plainN (f : List Int) : Nat → Nat
 | 0 => 0
 | n + 1 => if f.getD n 0 = 0 then plainN f n else n + 1
def plainL (f : List Int) : List Int := f.take (plainN f 5)
theorem plainN_le (f : List Int) : ∀ n, plainN f n ≤ n
 | 0 => Nat.le_refl _
 | n + 1 => by
  unfold plainN
  split
  ·have := plainN_le f n; omega
  ·omega
set_option maxRecDepth 8000 in
theorem c164 (f : List Int) (hf : f.length = 5) : Pure Tryz.prog 174 [.agg (cellsI f)] (.sl .own 1 (intsAV (plainL f))) := by
 obtain ⟨x0, x1, x2, x3, x4, rfl⟩ := five hf
 refine proc_of (cx Tryz.prog 18 [1, 2, 3, 12] [2]) 17 [.tmp 2] Tryz.func174 rfl rfl rfl rfl rfl rfl (Nat.le_refl _) rfl ?_
 refine AWp.go [1] [1] fun K hK => ?_
 simp [cellsI]
 refine hK _ _ ?_
 clear hK K
 refine AWp.go [1, 3] [1] fun K hK => ?_
 simp
 refine hK _ _ ?_
 clear hK K
 generalize hm : plainN [x0, x1, x2, x3, x4] 5 = m
 refine AWp.mid [1, 3] [1] [(1, .ptr 1 0), (3, .i .i64 m)] [(1, [.i .i64 x0, .i .i64 x1, .i .i64 x2, .i .i64 x3, .i .i64 x4])] (AWp.block (AWp.while (fun n : Nat => [(1, .ptr 1 0), (3, .i .i64 n)]) (fun _ => [(1, [.i .i64 x0, .i .i64 x1, .i .i64 x2, .i .i64 x3, .i .i64 x4])]) (fun n => n ≤ 5 ∧ plainN [x0, x1, x2, x3, x4] n = m) (fun n => n) [1, 3] [1] 5 (by simp [hm]) (by simp) ?_)) ?_
 focus
  rintro n ⟨hn, hnm⟩
  refine AWp.seq ?_
  have hn6 : n = 0 ∨ n = 1 ∨ n = 2 ∨ n = 3 ∨ n = 4 ∨ n = 5 := by omega
  rcases hn6 with rfl | rfl | rfl | rfl | rfl | rfl
  ·refine AWp.step [1, 3, 12] [1] [(1, .ptr 1 0), (3, .i .i64 0), (12, .b false)] [(1, [.i .i64 x0, .i .i64 x1, .i .i64 x2, .i .i64 x3, .i .i64 x4])] (by simp) ?_
   refine AWp.cond (t := false) (by simp) (by simp) (fun _ => AWp.exit ?_)
   subst hnm
   simp [plainN]
  ·by_cases hx : x0 = 0
   ·refine AWp.step [1, 3, 12] [1] [(1, .ptr 1 0), (3, .i .i64 1), (12, .b true)] [(1, [.i .i64 x0, .i .i64 x1, .i .i64 x2, .i .i64 x3, .i .i64 x4])] (by simp [hx, show IntKind.i64.wrap 0 = 0 by decide]) ?_
    refine AWp.cond (t := true) (by simp) (fun _ => AWp.skip ?_) (by simp)
    show AWp _ _ _ _
    refine AWp.block ?_
    refine AWp.goLast [1, 3] [1] fun K hK => ?_
    simp
    refine hK _ _ ?_
    refine ⟨0, ⟨by omega, ?_⟩, by omega, ?_⟩
    ·rw [← hnm]; simp [plainN, hx]
    ·simp [show IntKind.i64.wrap 0 = 0 by decide]
   ·refine AWp.step [1, 3, 12] [1] [(1, .ptr 1 0), (3, .i .i64 1), (12, .b false)] [(1, [.i .i64 x0, .i .i64 x1, .i .i64 x2, .i .i64 x3, .i .i64 x4])] (by simp [hx, show IntKind.i64.wrap 0 = 0 by decide]) ?_
    refine AWp.cond (t := false) (by simp) (by simp) (fun _ => AWp.exit ?_)
    have hmn : m = 1 := by rw [← hnm]; simp [plainN, hx]
    subst hmn
    simp
  ·by_cases hx : x1 = 0
   ·refine AWp.step [1, 3, 12] [1] [(1, .ptr 1 0), (3, .i .i64 2), (12, .b true)] [(1, [.i .i64 x0, .i .i64 x1, .i .i64 x2, .i .i64 x3, .i .i64 x4])] (by simp [hx, show IntKind.i64.wrap 1 = 1 by decide]) ?_
    refine AWp.cond (t := true) (by simp) (fun _ => AWp.skip ?_) (by simp)
    show AWp _ _ _ _
    refine AWp.block ?_
    refine AWp.goLast [1, 3] [1] fun K hK => ?_
    simp
    refine hK _ _ ?_
    refine ⟨1, ⟨by omega, ?_⟩, by omega, ?_⟩
    ·rw [← hnm]; simp [plainN, hx]
    ·simp [show IntKind.i64.wrap 1 = 1 by decide]
   ·refine AWp.step [1, 3, 12] [1] [(1, .ptr 1 0), (3, .i .i64 2), (12, .b false)] [(1, [.i .i64 x0, .i .i64 x1, .i .i64 x2, .i .i64 x3, .i .i64 x4])] (by simp [hx, show IntKind.i64.wrap 1 = 1 by decide]) ?_
    refine AWp.cond (t := false) (by simp) (by simp) (fun _ => AWp.exit ?_)
    have hmn : m = 2 := by rw [← hnm]; simp [plainN, hx]
    subst hmn
    simp
  ·by_cases hx : x2 = 0
   ·refine AWp.step [1, 3, 12] [1] [(1, .ptr 1 0), (3, .i .i64 3), (12, .b true)] [(1, [.i .i64 x0, .i .i64 x1, .i .i64 x2, .i .i64 x3, .i .i64 x4])] (by simp [hx, show IntKind.i64.wrap 2 = 2 by decide]) ?_
    refine AWp.cond (t := true) (by simp) (fun _ => AWp.skip ?_) (by simp)
    show AWp _ _ _ _
    refine AWp.block ?_
    refine AWp.goLast [1, 3] [1] fun K hK => ?_
    simp
    refine hK _ _ ?_
    refine ⟨2, ⟨by omega, ?_⟩, by omega, ?_⟩
    ·rw [← hnm]; simp [plainN, hx]
    ·simp [show IntKind.i64.wrap 2 = 2 by decide]
   ·refine AWp.step [1, 3, 12] [1] [(1, .ptr 1 0), (3, .i .i64 3), (12, .b false)] [(1, [.i .i64 x0, .i .i64 x1, .i .i64 x2, .i .i64 x3, .i .i64 x4])] (by simp [hx, show IntKind.i64.wrap 2 = 2 by decide]) ?_
    refine AWp.cond (t := false) (by simp) (by simp) (fun _ => AWp.exit ?_)
    have hmn : m = 3 := by rw [← hnm]; simp [plainN, hx]
    subst hmn
    simp
  ·by_cases hx : x3 = 0
   ·refine AWp.step [1, 3, 12] [1] [(1, .ptr 1 0), (3, .i .i64 4), (12, .b true)] [(1, [.i .i64 x0, .i .i64 x1, .i .i64 x2, .i .i64 x3, .i .i64 x4])] (by simp [hx, show IntKind.i64.wrap 3 = 3 by decide]) ?_
    refine AWp.cond (t := true) (by simp) (fun _ => AWp.skip ?_) (by simp)
    show AWp _ _ _ _
    refine AWp.block ?_
    refine AWp.goLast [1, 3] [1] fun K hK => ?_
    simp
    refine hK _ _ ?_
    refine ⟨3, ⟨by omega, ?_⟩, by omega, ?_⟩
    ·rw [← hnm]; simp [plainN, hx]
    ·simp [show IntKind.i64.wrap 3 = 3 by decide]
   ·refine AWp.step [1, 3, 12] [1] [(1, .ptr 1 0), (3, .i .i64 4), (12, .b false)] [(1, [.i .i64 x0, .i .i64 x1, .i .i64 x2, .i .i64 x3, .i .i64 x4])] (by simp [hx, show IntKind.i64.wrap 3 = 3 by decide]) ?_
    refine AWp.cond (t := false) (by simp) (by simp) (fun _ => AWp.exit ?_)
    have hmn : m = 4 := by rw [← hnm]; simp [plainN, hx]
    subst hmn
    simp
  ·by_cases hx : x4 = 0
   ·refine AWp.step [1, 3, 12] [1] [(1, .ptr 1 0), (3, .i .i64 5), (12, .b true)] [(1, [.i .i64 x0, .i .i64 x1, .i .i64 x2, .i .i64 x3, .i .i64 x4])] (by simp [hx, show IntKind.i64.wrap 4 = 4 by decide]) ?_
    refine AWp.cond (t := true) (by simp) (fun _ => AWp.skip ?_) (by simp)
    show AWp _ _ _ _
    refine AWp.block ?_
    refine AWp.goLast [1, 3] [1] fun K hK => ?_
    simp
    refine hK _ _ ?_
    refine ⟨4, ⟨by omega, ?_⟩, by omega, ?_⟩
    ·rw [← hnm]; simp [plainN, hx]
    ·simp [show IntKind.i64.wrap 4 = 4 by decide]
   ·refine AWp.step [1, 3, 12] [1] [(1, .ptr 1 0), (3, .i .i64 5), (12, .b false)] [(1, [.i .i64 x0, .i .i64 x1, .i .i64 x2, .i .i64 x3, .i .i64 x4])] (by simp [hx, show IntKind.i64.wrap 4 = 4 by decide]) ?_
    refine AWp.cond (t := false) (by simp) (by simp) (fun _ => AWp.exit ?_)
    have hmn : m = 5 := by rw [← hnm]; simp [plainN, hx]
    subst hmn
    simp
 have hm5 : m ≤ 5 := by rw [← hm]; exact plainN_le _ 5
 refine AWp.seq ?_
 have hc := c191 ((([AV.i .i64 x0, .i .i64 x1, .i .i64 x2, .i .i64 x3, .i .i64 x4] : List AV).take m).map fun c => [c]) (by simp; omega)
 have hr : (((([AV.i .i64 x0, .i .i64 x1, .i .i64 x2, .i .i64 x3, .i .i64 x4] : List AV).take m).map fun c => [c])) = intsAV (plainL [x0, x1, x2, x3, x4]) := by
  unfold plainL
  rw [hm]
  simp [intsAV, List.map_take]
 rw [hr] at hc
 refine AWp.callArr (p := 1) (b := 1) (s := 3) (n := 5) (e := 3) (f := 200) (m := m) (r := .sl .own 1 (intsAV (plainL [x0, x1, x2, x3, x4]))) (cs := [AV.i .i64 x0, .i .i64 x1, .i .i64 x2, .i .i64 x3, .i .i64 x4]) rfl (by rw [hr]; exact hc) (by simp [AV.flat, intsAV, AV.atom]) (by simp) (by simp) (by simp) (by simp) (by simp; rfl) rfl rfl hm5 (by simp) (by simp) ?_
 simp
 refine AWp.ret ?_
 simp
end Go.AM
namespace Go.AM
open Go.Proofs
theorem c101 (c : List Int) (hl : c.length ≤ 9223372036854775807) : Pure Tryz.prog 111 [.sl .fro 1 (intsAV c)] (.sl .own 1 (intsAV (plainL (ofL c)))) := by
 refine proc_of (cx Tryz.prog 6 [0, 2] [2]) 5 [.tmp 2] Tryz.func111 rfl rfl rfl rfl rfl rfl (Nat.le_refl _) rfl ?_
 refine AWp.go [0] [] fun K hK => ?_
 simp
 refine hK _ _ ?_
 clear hK K
 refine AWp.go [2] [] fun K hK => ?_
 simp
 refine call_pure (c163 c hl) (by simp) ?_
 obtain ⟨x0, x1, x2, x3, x4, hx⟩ := five (ofL_length c)
 rw [hx]
 simp [cellsI]
 refine call_pure (c164 [x0, x1, x2, x3, x4] rfl) (by simp [cellsI]) ?_
 simp
 refine hK _ _ (AWp.ret ?_)
 simp [hx]
def getC (c : List Int) (rep : Int) : Int := if 1 ≤ rep ∧ rep ≤ 5 then (ofL c).getD (rep - 1).toNat 0 else 0
set_option maxRecDepth 8000 in
theorem c102 (c : List Int) (rep : Int) (hl : c.length ≤ 9223372036854775807) : Pure Tryz.prog 112 [.sl .fro 1 (intsAV c), .i .i64 rep] (.i .i64 (getC c rep)) := by
 refine proc_of (cx Tryz.prog 15 [0, 1, 4, 5, 8] [4]) 13 [.tmp 4] Tryz.func112 rfl rfl rfl rfl rfl rfl (Nat.le_refl _) rfl ?_
 refine AWp.go [0, 1] [] fun K hK => ?_
 simp
 refine hK _ _ (AWp.seq ?_)
 clear hK K
 refine AWp.go [0, 1, 8] [] fun K hK => ?_
 simp
 refine call_pure (c165 rep) (by simp) ?_
 simp
 refine hK _ _ ?_
 clear hK K
 by_cases h : 1 ≤ rep ∧ rep ≤ 5
 ·refine AWp.cond (t := false) (by simp [h]) (by simp) (fun _ => AWp.skip ?_)
  show AWp _ _ _ _
  obtain ⟨x0, x1, x2, x3, x4, hx⟩ := five (ofL_length c)
  have hg : getC c rep = [x0, x1, x2, x3, x4].getD (rep - 1).toNat 0 := by rw [getC, if_pos h, hx]
  rw [hg]
  refine AWp.go [1, 5] [5] fun K hK => ?_
  simp
  refine call_pure (c163 c hl) (by simp) ?_
  rw [hx]
  simp [cellsI]
  refine hK _ _ ?_
  clear hK K
  have h5 : rep = 1 ∨ rep = 2 ∨ rep = 3 ∨ rep = 4 ∨ rep = 5 := by omega
  rcases h5 with rfl | rfl | rfl | rfl | rfl
  all_goals
   refine AWp.go [4] [] fun K hK => ?_
   simp [show IntKind.i64.wrap 0 = 0 by decide, show IntKind.i64.wrap 1 = 1 by decide, show IntKind.i64.wrap 2 = 2 by decide, show IntKind.i64.wrap 3 = 3 by decide, show IntKind.i64.wrap 4 = 4 by decide]
   refine hK _ _ (AWp.ret ?_)
   simp
 ·refine AWp.cond (t := true) (by simp; omega) (fun _ => ?_) (by simp)
  refine AWp.go [4] [] fun K hK => ?_
  simp
  refine hK _ _ (AWp.ret ?_)
  simp [getC, h]
def setC (c : List Int) (rep n : Int) : List Int := if (1 ≤ rep ∧ rep ≤ 5) ∧ 0 ≤ n ∧ n ≤ 1048576 then plainL ((ofL c).set (rep - 1).toNat n) else []
def setE (rep n : Int) : Int := if (1 ≤ rep ∧ rep ≤ 5) ∧ 0 ≤ n ∧ n ≤ 1048576 then 0 else 1
end Go.AM
namespace Go.AM
theorem box_start {w : World} {Pub : Nat → Prop} {bk cap sz : Nat} {T : TypeId} {cells : Array Value} {xs : List (List AV)} (hg : w.heap[bk]? = some (.cells cells T (0, 0))) (hcs : cells.size = cap * sz) (hcap : xs.length ≤ cap) (hrow : Row Pub w bk 0 sz xs)
  (hpub : ∀ b, Pub b → b < w.heap.size ∧ b ≠ bk) (hG : Gl Pub w) :
  Rel 0 ⟨w, fun _ => bk, fun b => if b = bk then some (.box 0) else none, Pub, St.ofBoxes [(0, xs.flatten ++ List.replicate ((cap - xs.length) * sz) .any)], #[]⟩ := by
 have hfl := flatten_length hrow.1
 refine ⟨rfl, fun t => .any _ _, fun id cs h => ?_, fun b hb => ⟨(hpub b hb).1, if_neg (hpub b hb).2⟩, fun b q h => ?_, fun id h hm => by
  have h' : (List.lookup id [(0, xs.flatten ++ List.replicate ((cap - xs.length) * sz) AV.any)]).isSome = true := h
  rw [List.lookup_cons] at h'
  split at h'
  ·rename_i hid
   simp at hid
   unfold parkM at hm
   omega
  ·simp at h', hG⟩
 ·have h' : List.lookup id [(0, xs.flatten ++ List.replicate ((cap - xs.length) * sz) AV.any)] = some cs := h
  rw [List.lookup_cons] at h'
  split at h'
  ·rename_i hid
   have hid' : id = 0 := by simpa using hid
   subst hid'
   obtain rfl := Option.some.inj h'
   refine ⟨if_pos rfl, cells, T, hg, ?_, fun j c hj => ?_⟩
   ·rw [List.length_append, hfl, List.length_replicate, ← Nat.add_mul, hcs]; congr 1; omega
   ·by_cases hlt : j < xs.flatten.length
    ·rw [List.getElem?_append_left hlt] at hj
     obtain ⟨u, hu, hd⟩ := hrow.2 j c hj
     have : cells.getD j undef = u := by
      simp only [World.cell?, hg, Nat.zero_add] at hu
      rw [Array.getD_eq_getD_getElem?]
      simpa using congrArg (fun o => o.getD undef) hu
     rw [this]
     exact hd.1.val (E := ⟨w, fun _ => bk, fun b => if b = bk then some (.box 0) else none, Pub, St.ofBoxes [(0, xs.flatten ++ List.replicate ((cap - xs.length) * sz) .any)], #[]⟩) _
    ·rw [List.getElem?_append_right (by omega)] at hj
     obtain rfl := List.eq_of_mem_replicate (List.mem_of_getElem? hj)
     exact .any _ _
  ·simp at h'
 ·have h' : (if b = bk then some (Place.box 0) else none) = some q := h
  split at h'
  ·rename_i e; subst e
   have := (Array.getElem?_eq_some_iff.1 hg).1
   exact this
  ·cases h'
theorem box_args {w : World} {β : Nat → Nat} {Pub : Nat → Prop} {bk : Nat} {st : St} {ω : Nat → Option Place} {n cap : Nat} {rest : List AV} {vs : Array Value} (hr : (rest.all fun c => c.tidy && c.free) = true) (hr2 : rest.map (AV.ren fun _ => none) = rest)
  (hl : rest.length = vs.size) (hv : ∀ (k : Nat) c, rest[k]? = some c → Val ⟨w, β, fun _ => none, Pub, St.ofBoxes [], #[]⟩ .no c (vs.getD k undef)) :
  (AV.bs 0 0 n cap :: rest).length = (#[Value.slice (some ⟨bk, 0, none⟩) n cap] ++ vs).size ∧ ∀ (k : Nat) c, (AV.bs 0 0 n cap :: rest)[k]? = some c → Val ⟨w, fun _ => bk, ω, Pub, st, #[]⟩ .no c ((#[Value.slice (some ⟨bk, 0, none⟩) n cap] ++ vs).getD k undef) := by
 refine ⟨by simp [hl]; omega, fun k c hk => ?_⟩
 cases k with
 | zero =>
  obtain rfl := Option.some.inj hk
  have : (#[Value.slice (some ⟨bk, 0, none⟩) n cap] ++ vs).getD 0 undef = .slice (some ⟨bk, 0, none⟩) n cap := by
   rw [Array.getD_eq_getD_getElem?, Array.getElem?_append_left (by simp)]; rfl
  rw [this]
  exact .bs (E := ⟨w, fun _ => bk, ω, Pub, st, #[]⟩) _ 0 0 n cap
 | succ k =>
  have hk' : rest[k]? = some c := by simpa using hk
  have hc : c.ren (fun _ => none) = c := by
   have h1 : (rest.map (AV.ren fun _ => none))[k]? = some (c.ren fun _ => none) := by rw [List.getElem?_map, hk']; rfl
   rw [hr2, hk'] at h1
   exact (Option.some.inj h1).symm
  rw [List.all_eq_true] at hr
  have hcc := hr c (List.mem_of_getElem? hk')
  simp only [Bool.and_eq_true] at hcc
  have : (#[Value.slice (some ⟨bk, 0, none⟩) n cap] ++ vs).getD (k + 1) undef = vs.getD k undef := by
   rw [Array.getD_eq_getD_getElem?, Array.getElem?_append_right (by simp), Array.getD_eq_getD_getElem?]; rfl
  rw [this]
  have h2 := Val.renFree (E := ⟨w, β, fun _ => none, Pub, St.ofBoxes [], #[]⟩) (E' := ⟨w, fun _ => bk, ω, Pub, st, #[]⟩) (ρ := fun _ => none) (fun b h => ⟨h, rfl⟩) (fun _ _ h => by cases h) (hv k c hk') hcc.1 hcc.2 .no .no
  unfold AV.ren at hc
  rw [hc] at h2
  exact h2
theorem box_end {w : World} {Pub : Nat → Prop} {bk cap sz : Nat} {zs : List (List AV)} {pad : List AV} {E' : Env} (hzl : ∀ z ∈ zs, z.length = sz) (hzd : (zs.flatten.all fun c => c.data && c.cellOk) = true) (hlen : (zs.flatten ++ pad).length = cap * sz)
  (hI : Inv 0 ⟨w, fun b => (if b = bk then some (Place.box 0) else none) ≠ none, Pub, fun _ => bk, 1⟩ E') (hst : E'.st = St.ofBoxes [(0, zs.flatten ++ pad)]) :
  E'.β 0 = bk ∧ ∃ cells' T', cells'.size = cap * sz ∧ E'.w.heap[bk]? = some (.cells cells' T' (0, 0)) ∧ (∀ b, b < w.heap.size → b ≠ bk → E'.w.heap[b]? = w.heap[b]?) ∧ w.heap.size ≤ E'.w.heap.size ∧ SameOs E'.w w ∧ E'.w.tape = w.tape ∧ E'.w.output = w.output ∧
   (∀ b, Pub b → E'.Pub b) ∧ (∀ b, E'.Pub b → Pub b ∨ w.heap.size ≤ b ∧ b < E'.w.heap.size) ∧ Row E'.Pub E'.w bk 0 sz zs := by
 have hβ : E'.β 0 = bk := hI.fr.beta 0 (by show (0 : Nat) < 1; omega)
 obtain ⟨hω, arr, T', ha, hasz, hac⟩ := hI.rel.boxes 0 (zs.flatten ++ pad) (by rw [hst]; rfl)
 rw [hβ] at hω ha
 refine ⟨hβ, arr, T', by rw [hasz, hlen], ha, fun b hb hne => hI.fr.block b hb (by simp [hne]), hI.fr.size, hI.fr.os, hI.fr.tape, hI.fr.output, hI.fr.pub0, fun b hb => ?_, hzl, fun k c hk => ?_⟩
 ·rcases hI.fr.pub1 b hb with h | h | h
  ·exact .inl h
  ·exact .inr ⟨h, (hI.rel.pub b hb).1⟩
  ·have hbb : b = bk := by
    by_cases e : b = bk
    ·exact e
    ·exact absurd (if_neg e) h
   have h2 := (hI.rel.pub b hb).2
   rw [hbb, hω] at h2
   cases h2
 ·have hlt := (List.getElem?_eq_some_iff.1 hk).1
  have hv := hac k c (by rw [List.getElem?_append_left hlt]; exact hk)
  have hka : k < arr.size := by rw [hasz, List.length_append]; omega
  rw [List.all_eq_true] at hzd
  have hcc := hzd c (List.mem_of_getElem? hk)
  simp only [Bool.and_eq_true] at hcc
  rw [Array.getD_eq_getD_getElem?, Array.getElem?_eq_getElem hka] at hv
  refine ⟨arr[k], ?_, hv.dat hcc.1, oneCell_dat (hv.dat hcc.1) hcc.2⟩
  simp [World.cell?, ha, hka]
theorem hproc_box {P : Program} {f sz : Nat} {xs zs : List (List AV)} {rest : List AV} (hr : (rest.all fun c => c.tidy && c.free) = true) (hr2 : rest.map (AV.ren fun _ => none) = rest) (hzl : ∀ z ∈ zs, z.length = sz) (hzd : (zs.flatten.all fun c => c.data && c.cellOk) = true)
  (hle : zs.length ≤ xs.length) (h : ∀ cap, xs.length ≤ cap → ∃ pad : List AV, (zs.flatten ++ pad).length = cap * sz ∧
   Proc P 1 f (.bs 0 0 xs.length cap :: rest) [(0, xs.flatten ++ List.replicate ((cap - xs.length) * sz) .any)] (.bs 0 0 zs.length cap) [(0, zs.flatten ++ pad)]) : HProc P f sz xs rest zs := by
 refine ⟨(h xs.length (Nat.le_refl _)).elim fun _ h => h.2.1, fun w β Pub bk cap T cells vs hg hcs hcap hrow hpub hG hl hv => ?_⟩
 obtain ⟨pad, hlen, hP⟩ := h cap hcap
 obtain ⟨a1, a2⟩ := box_args (bk := bk) (n := xs.length) (cap := cap) (st := St.ofBoxes [(0, xs.flatten ++ List.replicate ((cap - xs.length) * sz) .any)]) (ω := fun b => if b = bk then some (.box 0) else none) hr hr2 hl hv
 refine (hP.2 w (fun _ => bk) (fun b => if b = bk then some (.box 0) else none) Pub _ (box_start hg hcs hcap hrow hpub hG) (fun b q hq => ?_) a1 a2).mono ?_
 ·split at hq
  ·cases hq; simp [inBx]
  ·cases hq
 ·rintro e w' ⟨v, E', rfl, rfl, hI, hst, _, hr⟩
  obtain ⟨hβ, cells', T', h1, h2, h3, h4, h5, h6, h7, h8, h9, h10⟩ := box_end (cap := cap) hzl hzd hlen hI hst
  cases hr
  rw [hβ]
  exact ⟨cells', T', E'.Pub, rfl, by omega, h1, h2, h3, h4, h5, h6, h7, h8, h9, h10⟩
end Go.AM
namespace Go.AM
open Go.Proofs Go.Shelf Go.Sort
def AV.val : AV → Value
 | .b x => .bool x
 | .i k n => .int k n
 | .s x => .string x
 | .nil => .pointer none
 | .nofn => .nilFunc
 | _ => undef
theorem Dat.val_eq {Pub : Nat → Prop} {w : World} {c : AV} {u : Value} (h : Dat Pub w c u) (ha : c.atom = true) : u = c.val := by
 cases h <;> first | rfl | (simp [AV.atom] at ha; done)
theorem datC_val {Pub : Nat → Prop} {w : World} {c : AV} (ha : c.atom = true) : DatC Pub w c c.val := by
 cases c <;> first | (simp [AV.atom] at ha; done) | exact ⟨by constructor, rfl⟩
theorem toArr_get (L : List AV) (j : Nat) (h : j < L.length) : (L.map AV.val).toArray[j]! = L[j].val := by
 rw [getElem!_pos _ j (by simpa using h)]
 simp
theorem toArr_size (L : List AV) : (L.map AV.val).toArray.size = L.length := by simp
section
variable {α : Type} [Inhabited α] (encA : α → List AV)
def encV (x : α) : List Value := (encA x).map AV.val
theorem flatK_eq {k : Nat} (hk : ∀ x, (encA x).length = k) (hpos : 0 < k) (xs : List α) : flatK (encV encA) k xs.toArray = ((xs.map encA).flatten.map AV.val).toArray := by
 have hl : ∀ x ∈ xs.map encA, x.length = k := fun x hx => by
  obtain ⟨y, _, rfl⟩ := List.mem_map.1 hx
  exact hk y
 have hfl := flatten_length hl
 refine ext_get! (by rw [toArr_size, size_flatK, hfl, List.length_map, List.size_toArray]) fun t ht => ?_
 have ht' : t < xs.length * k := by simpa using ht
 have hdiv : t / k < xs.length := (Nat.div_lt_iff_lt_mul hpos).2 ht'
 have hmod : t % k < k := Nat.mod_lt _ hpos
 rw [get_flatK _ _ _ t (by simpa using ht')]
 have hix : (xs.map encA)[t / k]? = some (encA xs[t / k]) := by rw [List.getElem?_map, List.getElem?_eq_getElem hdiv]; rfl
 have hc : (encA xs[t / k])[t % k]? = some ((encA xs[t / k])[t % k]'(by rw [hk]; exact hmod)) := List.getElem?_eq_getElem _
 have hg := flat_get hl (t / k) (t % k) _ _ hix hc
 rw [Nat.div_add_mod'] at hg
 have htl : t < (xs.map encA).flatten.length := by rw [hfl, List.length_map]; exact ht'
 rw [List.getElem?_eq_getElem htl] at hg
 rw [toArr_get _ t htl, Option.some.inj hg]
 have h2 : (xs.toArray[t / k]! : α) = xs[t / k] := by
  rw [getElem!_pos _ _ (by simpa using hdiv)]
  simp
 rw [h2]
 unfold encV
 rw [getElem!_pos _ _ (by rw [List.length_map, hk]; exact hmod)]
 simp
theorem row_holds {Pub : Nat → Prop} {w : World} {bk k : Nat} {T : TypeId} {cells : Array Value} (hk : ∀ x, (encA x).length = k) (hpos : 0 < k) (hat : ∀ x, ∀ c ∈ encA x, c.atom = true) {xs : List α} (hg : w.heap[bk]? = some (.cells cells T (0, 0))) (hrow : Row Pub w bk 0 k (xs.map encA)) :
  HoldsK (encV encA) k w bk 0 xs.toArray := by
 unfold HoldsK
 rw [flatK_eq encA hk hpos]
 intro j hj
 have hj' : j < (xs.map encA).flatten.length := by rwa [toArr_size] at hj
 obtain ⟨u, hu, hd⟩ := hrow.2 j _ (List.getElem?_eq_getElem hj')
 refine ⟨?_, by simp [World.frozen?, hg]⟩
 rw [hu]
 have hm : (xs.map encA).flatten[j] ∈ (xs.map encA).flatten := List.getElem_mem _
 obtain ⟨l, hl, hc⟩ := List.mem_flatten.1 hm
 obtain ⟨x, _, rfl⟩ := List.mem_map.1 hl
 rw [hd.1.val_eq (hat x _ hc), toArr_get _ j hj']
 rfl
theorem holds_row {Pub : Nat → Prop} {w : World} {bk k : Nat} (hk : ∀ x, (encA x).length = k) (hpos : 0 < k) (hat : ∀ x, ∀ c ∈ encA x, c.atom = true) {xs : List α} (h : HoldsK (encV encA) k w bk 0 xs.toArray) : Row Pub w bk 0 k (xs.map encA) := by
 unfold HoldsK at h
 rw [flatK_eq encA hk hpos] at h
 refine ⟨fun x hx => ?_, fun j c hj => ?_⟩
 ·obtain ⟨y, _, rfl⟩ := List.mem_map.1 hx
  exact hk y
 ·have hj' := (List.getElem?_eq_some_iff.1 hj).1
  have h1 := (h j (by rw [toArr_size]; exact hj')).1
  have hm := List.mem_of_getElem? hj
  obtain ⟨l, hl, hc⟩ := List.mem_flatten.1 hm
  obtain ⟨x, _, rfl⟩ := List.mem_map.1 hl
  refine ⟨c.val, ?_, datC_val (hat x c hc)⟩
  rw [List.getElem?_eq_getElem hj'] at hj
  rw [h1, toArr_get _ j hj', Option.some.inj hj]
  rfl
theorem putRowK_block {w : World} {bk k : Nat} {T : TypeId} {cells : Array Value} {d : Array α} {enc : α → List Value} (hg : w.heap[bk]? = some (.cells cells T (0, 0))) :
  ∃ cells', cells'.size = cells.size ∧ (putRowK enc k w bk 0 d).heap[bk]? = some (.cells cells' T (0, 0)) := by
 refine ⟨putCells id 0 (flatK enc k d) cells, by simp [putCells], ?_⟩
 unfold putRowK putRow mapBlock
 simp only [Array.getElem?_modify, if_true, hg, Option.map_some]
 rfl
theorem putRowK_other {w : World} {bk k : Nat} {d : Array α} {enc : α → List Value} {b : Nat} (hb : b ≠ bk) : (putRowK enc k w bk 0 d).heap[b]? = w.heap[b]? := by
 unfold putRowK putRow mapBlock
 simp only [Array.getElem?_modify, if_neg (Ne.symm hb)]
theorem putRowK_size {w : World} {bk k : Nat} {d : Array α} {enc : α → List Value} : (putRowK enc k w bk 0 d).heap.size = w.heap.size := by
 unfold putRowK putRow mapBlock
 simp
theorem lproc_sort {P : Program} {ρ : Ren} (L : SlLaysF0.n6 P ρ) (k : Nat) (hpos : 0 < k) (aE : ∀ w, (isAgg (ρ.t 24)).run P w = .ok true w) (zE : ∀ w, (Go.sizeOf (ρ.t 24)).run P w = .ok k w) (hk : ∀ x, (encA x).length = k) (hat : ∀ x, ∀ c ∈ encA x, c.atom = true)
  (cf : α → α → Int) (hO : SWO (ltOf cf)) (hT : ∀ x y, (ltOf cf) x y = false → (ltOf cf) y x = false → x = y) (g : Nat) (eg : ∀ args w, (callFunc g args).run P w = .ok (.enter g args) w)
  (hcmp : ∀ (x y : α) (w : World), Calls P g #[.agg (encV encA x).toArray, .agg (encV encA y).toArray] w fun e w' => e = .returned (.int .i64 (cf x y)) ∧ ∃ q os', w' = grow (w.drewN q) os') (xs : List α) (hsz : xs.length < 4611686018427387904) :
  LProc P (ρ.f 6) k (xs.map encA) [.fn g [] []] ((xs.mergeSort fun x y => !(ltOf cf) y x).map encA) := by
 obtain ⟨nm, hnm, hfn⟩ := L.f6
 refine ⟨⟨_, _, hfn, rfl, hnm⟩, fun w β Pub bk cap T cells vs hg hcs hcap hrow hpub _ hl hv => ?_⟩
 have hvs : vs = #[.func (.func g) #[] #[]] := by
  have h0 := hv 0 _ rfl
  have hs : vs.size = 1 := by rw [← hl]; rfl
  have e0 : vs.getD 0 undef = .func (.func g) #[] #[] := by
   generalize vs.getD 0 undef = v at h0
   cases h0 with
   | fn _ _ _ _ fi' ca' l1 l2 _ _ =>
    rw [Array.eq_empty_of_size_eq_zero l1.symm, Array.eq_empty_of_size_eq_zero l2.symm]
  apply Array.ext
  ·rw [hs]; rfl
  ·intro j hj hj2
   rw [Array.getD_eq_getD_getElem?, Array.getElem?_eq_getElem (by omega)] at e0
   rcases j with _ | j
   ·exact e0
   ·rw [hs] at hj; omega
 subst hvs
 have hbk : bk < w.heap.size := (Array.getElem?_eq_some_iff.1 hg).1
 have hH := row_holds encA hk hpos hat hg hrow
 have h1 : ∀ x, ∀ v ∈ encV encA x, v.oneCell' = true := fun x v hv => by
  obtain ⟨c, hc, rfl⟩ := List.mem_map.1 hv
  exact (datC_val (Pub := Pub) (w := w) (hat x c hc)).2
 have hkV : ∀ x, (encV encA x).length = k := fun x => by unfold encV; rw [List.length_map, hk]
 have hc := AnyQ.slices_SortFunc_total L k aE zE (encV encA) hkV h1 cf hO g #[] bk 0 cap xs.toArray w eg (fun m os dk _ x y => by
  rw [Array.append_empty]
  exact hcmp x y _) hH hbk (by simpa using hsz) hT
 have hlen : (xs.map encA).length = xs.toArray.size := by simp
 rw [hlen]
 refine hc.mono ?_
 rintro e w' ⟨rfl, n, os, rfl⟩
 have hg2 : (Sort.ahead w n).heap[bk]? = some (.cells cells T (0, 0)) := hg
 obtain ⟨cells', hc1, hc2⟩ := putRowK_block (enc := encV encA) (k := k) (d := (xs.mergeSort fun x y => !(ltOf cf) y x).toArray) hg2
 have hH2 : HoldsK (encV encA) k (sortWorldK (encV encA) k w bk 0 n (xs.mergeSort fun x y => !(ltOf cf) y x).toArray os) bk 0 (xs.mergeSort fun x y => !(ltOf cf) y x).toArray := holdsK_sortWorldK_c _ k w bk 0 xs.toArray _ n os hH hbk (by simp [List.length_mergeSort])
 have hlt : ∀ b, b < w.heap.size → b < (putRowK (encV encA) k (Sort.ahead w n) bk 0 (xs.mergeSort fun x y => !(ltOf cf) y x).toArray).heap.size := fun b hb => by rw [putRowK_size]; exact hb
 have hgr : ∀ b, b < w.heap.size → (sortWorldK (encV encA) k w bk 0 n (xs.mergeSort fun x y => !(ltOf cf) y x).toArray os).heap[b]? = (putRowK (encV encA) k (Sort.ahead w n) bk 0 (xs.mergeSort fun x y => !(ltOf cf) y x).toArray).heap[b]? := fun b hb => by
  unfold sortWorldK grow
  exact Array.getElem?_append_left (hlt b hb)
 refine ⟨cells', T, Pub, rfl, by simp [List.length_mergeSort], by rw [hc1]; exact hcs, ?_, fun b hb hne => ?_, size_sortWorldK_c _ k w bk 0 n _ os, ⟨rfl, fun _ => Nat.le_add_right _ _⟩, rfl, rfl, fun _ h => h, fun _ h => .inl h, holds_row encA hk hpos hat hH2⟩
 ·show (sortWorldK _ _ _ _ _ _ _ _).heap[bk]? = _
  rw [hgr bk hbk]; exact hc2
 ·show (sortWorldK _ _ _ _ _ _ _ _).heap[b]? = _
  rw [hgr b hb, putRowK_other hne]
  rfl
end
end Go.AM
namespace Go.Proofs
def Tryz.sortDot_ren : Go.Shelf.Ren := ⟨fun | 6 => 205 | 15 => 229 | 14 => 228 | 28 => 248 | 29 => 196 | 20 => 240 | 21 => 241 | 22 => 242 | 23 => 243 | 24 => 244 | 25 => 245 | 26 => 246 | 27 => 247 | 46 => 253 | 47 => 254 | 48 => 255 | 49 => 256 | 50 => 257 | 57 => 260 | n => n, fun | 22 => 126 | 24 => 33 | 25 => 217 | 3 => 3 | 39 => 209 | 0 => 0 | 53 => 247 | 55 => 181 | 4 => 4 | 46 => 241 | 45 => 240 | 50 => 203 | 5 => 5 | 9 => 9 | 66 => 250 | 70 => 254 | 76 => 258 | 77 => 259 | n => n, fun | n => n⟩
theorem Tryz.sortDot : Go.Proofs.SlLaysF0.n6 Tryz.prog Tryz.sortDot_ren := {
 mixed := by kernel_rfl,
 f6 := ⟨Tryz.f205.name, by decide, Tryz.func205.trans (congrArg some (by kernel_rfl))⟩,
 f14 := ⟨Tryz.f228.name, by decide, Tryz.func228.trans (congrArg some (by kernel_rfl))⟩,
 f15 := Tryz.func229.trans (congrArg some (by kernel_rfl)),
 f20 := ⟨Tryz.f240.name, by decide, Tryz.func240.trans (congrArg some (by kernel_rfl))⟩,
 f21 := ⟨Tryz.f241.name, by decide, Tryz.func241.trans (congrArg some (by kernel_rfl))⟩,
 f22 := ⟨Tryz.f242.name, by decide, Tryz.func242.trans (congrArg some (by kernel_rfl))⟩,
 f23 := ⟨Tryz.f243.name, by decide, Tryz.func243.trans (congrArg some (by kernel_rfl))⟩,
 f24 := ⟨Tryz.f244.name, by decide, Tryz.func244.trans (congrArg some (by kernel_rfl))⟩,
 f25 := ⟨Tryz.f245.name, by decide, Tryz.func245.trans (congrArg some (by kernel_rfl))⟩,
 f26 := ⟨Tryz.f246.name, by decide, Tryz.func246.trans (congrArg some (by kernel_rfl))⟩,
 f27 := ⟨Tryz.f247.name, by decide, Tryz.func247.trans (congrArg some (by kernel_rfl))⟩,
 f28 := Tryz.func248.trans (congrArg some (by kernel_rfl)),
 f29 := Tryz.func196.trans (congrArg some (by kernel_rfl)),
 f46 := ⟨Tryz.f253.name, by decide, Tryz.func253.trans (congrArg some (by kernel_rfl))⟩,
 f47 := Tryz.func254.trans (congrArg some (by kernel_rfl)),
 f48 := Tryz.func255.trans (congrArg some (by kernel_rfl)),
 f49 := ⟨Tryz.f256.name, by decide, Tryz.func256.trans (congrArg some (by kernel_rfl))⟩,
 f50 := ⟨Tryz.f257.name, by decide, Tryz.func257.trans (congrArg some (by kernel_rfl))⟩,
 f57 := ⟨Tryz.f260.name, by decide, Tryz.func260.trans (congrArg some (by kernel_rfl))⟩,
 t0 := Tryz.underlying0,
 a0 := Tryz.isAgg0,
 z0 := Tryz.sizeOf0,
 v0 := Tryz.zeroValue0,
 t3 := Tryz.underlying3,
 a3 := Tryz.isAgg3,
 z3 := Tryz.sizeOf3,
 v3 := Tryz.zeroValue3,
 t4 := Tryz.underlying4,
 a4 := Tryz.isAgg4,
 z4 := Tryz.sizeOf4,
 v4 := Tryz.zeroValue4,
 t5 := Tryz.underlying5,
 a5 := Tryz.isAgg5,
 z5 := Tryz.sizeOf5,
 v5 := Tryz.zeroValue5,
 t9 := Tryz.underlying9,
 a9 := Tryz.isAgg9,
 z9 := Tryz.sizeOf9,
 v9 := Tryz.zeroValue9,
 t22 := Tryz.underlying126,
 a22 := Tryz.isAgg126,
 z22 := Tryz.sizeOf126,
 v22 := Tryz.zeroValue126,
 t25 := Tryz.underlying217,
 a25 := Tryz.isAgg217,
 z25 := Tryz.sizeOf217,
 v25 := Tryz.zeroValue217,
 t39 := Tryz.underlying209,
 a39 := Tryz.isAgg209,
 z39 := Tryz.sizeOf209,
 v39 := Tryz.zeroValue209,
 t45 := Tryz.underlying240,
 a45 := Tryz.isAgg240,
 z45 := Tryz.sizeOf240,
 v45 := Tryz.zeroValue240,
 t46 := Tryz.underlying241,
 a46 := Tryz.isAgg241,
 z46 := Tryz.sizeOf241,
 v46 := Tryz.zeroValue241,
 t50 := Tryz.underlying203,
 a50 := Tryz.isAgg203,
 z50 := Tryz.sizeOf203,
 v50 := Tryz.zeroValue203,
 t53 := Tryz.underlying247,
 a53 := Tryz.isAgg247,
 z53 := Tryz.sizeOf247,
 v53 := Tryz.zeroValue247,
 t55 := Tryz.underlying181,
 a55 := Tryz.isAgg181,
 z55 := Tryz.sizeOf181,
 v55 := Tryz.zeroValue181,
 t66 := Tryz.underlying250,
 a66 := Tryz.isAgg250,
 z66 := Tryz.sizeOf250,
 v66 := Tryz.zeroValue250,
 t70 := Tryz.underlying254,
 a70 := Tryz.isAgg254,
 z70 := Tryz.sizeOf254,
 v70 := Tryz.zeroValue254,
 t76 := Tryz.underlying258,
 a76 := Tryz.isAgg258,
 z76 := Tryz.sizeOf258,
 v76 := Tryz.zeroValue258,
 t77 := Tryz.underlying259,
 a77 := Tryz.isAgg259,
 z77 := Tryz.sizeOf259,
 v77 := Tryz.zeroValue259 }
end Go.Proofs
namespace Go.AM
open Go.Proofs Go.Shelf Go.Sort Go.RowKit Go.Lib
abbrev Dot := Int × Int
def ltD (a b : Dot) : Bool := decide (a.1 < b.1) || (decide (a.1 = b.1) && decide (a.2 < b.2))
def cmpD (a b : Dot) : Int := if ltD a b then -1 else if ltD b a then 1 else 0
def dotV (d : Dot) : Value := .agg #[.int .i64 d.1, .int .i64 d.2]
set_option maxHeartbeats 2000000 in
theorem w44 (x y : Dot) (W : World) : Calls Tryz.prog 193 #[dotV x, dotV y] W fun e w' => e = .returned (.bool (ltD x y)) ∧ ∃ q os', w' = grow (W.drewN q) os' := by
 unfold dotV
 go_enter Tryz.func193, Tryz.ntmps193
 go_wp2
 all_goals
  go_ret
  refine ⟨?_, 0, _, by rw [alloc_eq_grow, alloc_eq_grow, grow_grow]; rfl⟩
  simp [ltD, *]
theorem keep4 {W w' : World} {a b c d : Value} {T T' : TypeId} (h : ∃ q os, w' = grow (((W.alloc (.cells #[a, b] T)).alloc (.cells #[c, d] T')).drewN q) os) :
  w'.cell? ⟨W.heap.size, 0, none⟩ = some a ∧ w'.cell? ⟨W.heap.size, 1, none⟩ = some b ∧ w'.cell? ⟨W.heap.size + 1, 0, none⟩ = some c ∧ w'.cell? ⟨W.heap.size + 1, 1, none⟩ = some d := by
 obtain ⟨q, os, h⟩ := h
 have hh : ((W.alloc (.cells #[a, b] T)).alloc (.cells #[c, d] T')).heap = (W.heap.push (.cells #[a, b] T)).push (.cells #[c, d] T') := rfl
 have key : ∀ k, k < W.heap.size + 2 → w'.heap[k]? = ((W.heap.push (.cells #[a, b] T)).push (.cells #[c, d] T'))[k]? := by
  intro k hk
  rw [h]
  show (((W.heap.push (.cells #[a, b] T)).push (.cells #[c, d] T')) ++ os)[k]? = _
  rw [Array.getElem?_append_left (by simp; omega)]
 have h1 : w'.heap[W.heap.size]? = some (.cells #[a, b] T) := by
  rw [key _ (by omega)]
  simp [Array.getElem?_push]
 have h2 : w'.heap[W.heap.size + 1]? = some (.cells #[c, d] T') := by
  rw [key _ (by omega), Array.getElem?_push, if_pos (by simp)]
 simp [World.cell?, h1, h2]
theorem gr_trans {W w1 w2 : World} (h1 : ∃ q os, w1 = grow (W.drewN q) os) (h2 : ∃ q os, w2 = grow (w1.drewN q) os) : ∃ q os, w2 = grow (W.drewN q) os := by
 obtain ⟨q, os, rfl⟩ := h1
 obtain ⟨q2, os2, rfl⟩ := h2
 exact ⟨q + q2, os ++ os2, by unfold grow World.drewN; simp [Nat.add_assoc, Array.append_assoc]⟩
theorem gr_alloc2 (W : World) (o1 o2 : Obj) : ∃ q os, (W.alloc o1).alloc o2 = grow (W.drewN q) os := ⟨0, _, by rw [alloc_eq_grow, alloc_eq_grow, grow_grow]; rfl⟩
set_option maxHeartbeats 4000000 in
theorem w107 (x y : Dot) (W : World) : Calls Tryz.prog 206 #[dotV x, dotV y] W fun e w' => e = .returned (.int .i64 (cmpD x y)) ∧ ∃ q os', w' = grow (W.drewN q) os' := by
 have hc := fun x y W' => w44 x y W'
 unfold dotV at hc ⊢
 go_enter Tryz.func206, Tryz.ntmps206
 go_wp2_with (go_at_call 193; refine (hc _ _ _).mono ?_; rintro e w' ⟨rfl, hw⟩; (try obtain ⟨k1, k2, k3, k4⟩ := keep4 hw); (try generalize hr : ltD x y = r); (try generalize hr2 : ltD y x = r2))
 all_goals
  go_ret
  refine ⟨by subst_vars; simp [cmpD, *], ?_⟩
  first
   | exact gr_trans (gr_alloc2 _ _ _) hw
   | exact gr_trans (gr_alloc2 W (.cells #[.int .i64 x.1, .int .i64 x.2] 33) (.cells #[.int .i64 y.1, .int .i64 y.2] 33)) (gr_trans (by assumption) hw)
theorem ltOf_cmpD (x y : Dot) : ltOf cmpD x y = ltD x y := by
 unfold ltOf cmpD
 cases h1 : ltD x y
 ·cases h2 : ltD y x <;> simp
 ·simp
theorem swoD : SWO (ltOf cmpD) where
 irrefl x := by rw [ltOf_cmpD]; simp [ltD]
 trans x y z h1 h2 := by
  rw [ltOf_cmpD] at *
  simp [ltD] at *
  omega
 ntrans x y z h1 h2 := by
  rw [ltOf_cmpD] at *
  simp [ltD] at *
  omega
theorem totD (x y : Dot) (h1 : ltOf cmpD x y = false) (h2 : ltOf cmpD y x = false) : x = y := by
 rw [ltOf_cmpD] at *
 simp [ltD] at *
 exact Prod.ext (by omega) (by omega)
def dotC (d : Dot) : List AV := [.i .i64 d.1, .i .i64 d.2]
def dotsAV (l : List Dot) : List (List AV) := l.map dotC
def sortD (l : List Dot) : List Dot := l.mergeSort fun x y => !ltD y x
theorem l106 (l : List Dot) (hl : l.length < 4611686018427387904) : LProc Tryz.prog 205 2 (dotsAV l) [.fn 206 [] []] (dotsAV (sortD l)) := by
 have := lproc_sort dotC Tryz.sortDot 2 (by omega) Tryz.isAgg33 Tryz.sizeOf33 (fun _ => rfl) (fun x c hc => by simp [dotC] at hc; rcases hc with rfl | rfl <;> rfl) cmpD swoD totD 206 (fun args w => enters_of Tryz.func206 (by kernel_rfl) rfl args w) (fun x y w => w107 x y w) l hl
 simp only [ltOf_cmpD] at this
 exact this
end Go.AM
namespace Go.AM
section
variable {C : Cx} {Q : Exit → St → Prop} {st : St}
end
end Go.AM
namespace Go.AM
def fzc (ts : List (Nat × Nat)) : Place → Bool
 | .cell id j => ts.contains (id, j)
 | _ => false
attribute [simp] fzc
section
variable {C : Cx} {Q : Exit → St → Prop} {st : St}
theorem AWp.frzc (ts : List (Nat × Nat)) {c : Code} (h : AWp C c (st.fz (fzc ts)) Q) : AWp C c st Q := by
 intro S E a hb I ha hd he
 exact h S (E.fz (fzc ts)) a hb (I.fz (fzc ts) fun _ => rfl) ha hd (by show E.st.fz _ = _; rw [he])
end
end Go.AM
namespace Go.AM
open Go.Proofs
@[simp] theorem dotsAV_length (l : List Dot) : (dotsAV l).length = l.length := by simp [dotsAV]
@[simp] theorem dotsAV_getElem (l : List Dot) (i : Nat) (h : i < (dotsAV l).length) : (dotsAV l)[i] = [.i .i64 (l[i]'(by simpa using h)).1, .i .i64 (l[i]'(by simpa using h)).2] := by simp [dotsAV, dotC]
@[simp] theorem try_eqDot : flatEq Tryz.prog 33 = some [.int .i64, .int .i64] := by kernel_rfl
theorem c_dots_Less (a b : Dot) : Pure Tryz.prog 193 [.agg (dotC a), .agg (dotC b)] (.b (ltD a b)) := by
 refine proc_of (cx Tryz.prog 24 [2, 3, 4] [4]) 22 [.tmp 4] Tryz.func193 rfl rfl rfl rfl rfl rfl (Nat.le_refl _) rfl ?_
 refine AWp.g [2, 3] [2, 3] ?_
 simp [dotC]
 refine AWp.step [4] [] [(4, .b (ltD a b))] [] ?_ ?_
 ·by_cases h1 : a.1 < b.1 <;> by_cases h2 : a.1 = b.1 <;> by_cases h3 : a.2 < b.2 <;> simp [h1, h2, h3, ltD]
 refine AWp.ret ?_
 simp
theorem c_ref04_Less (a b : Dot) : Pure Tryz.prog 194 [.agg (dotC a), .agg (dotC b)] (.b (ltD a b)) := by
 refine proc_of (cx Tryz.prog 20 [2, 3, 4, 9] [4]) 18 [.tmp 4] Tryz.func194 rfl rfl rfl rfl rfl rfl (Nat.le_refl _) rfl ?_
 refine AWp.g [2, 3] [2, 3] ?_
 simp [dotC]
 refine AWp.seq ?_
 refine AWp.g [2, 3, 9] [2, 3] ?_
 simp
 by_cases h : a.1 = b.1
 ·refine AWp.cF (by simp [h]) ?_
  refine AWp.skip ?_
  show AWp _ _ _ _
  refine AWp.g [4] [] ?_
  simp
  refine AWp.ret ?_
  simp [ltD, h]
 ·refine AWp.cT (by simp [h]) ?_
  refine AWp.g [4] [] ?_
  simp
  refine AWp.ret ?_
  simp [ltD, h]
def mayD (d : Dot) : Bool := decide (1 ≤ d.1) && decide (d.1 ≤ 5) && decide (1 ≤ d.2) && decide (d.2 ≤ 1048576)
theorem c_dots_May (a : Dot) : Pure Tryz.prog 110 [.agg (dotC a)] (.b (mayD a)) := by
 refine proc_of (cx Tryz.prog 21 [1, 2] [2]) 20 [.tmp 2] Tryz.func110 rfl rfl rfl rfl rfl rfl (Nat.le_refl _) rfl ?_
 refine AWp.g [1] [1] ?_
 simp [dotC]
 refine AWp.step [2] [] [(2, .b (mayD a))] [] ?_ ?_
 ·by_cases h1 : 1 ≤ a.1 <;> by_cases h2 : a.1 ≤ 5 <;> by_cases h3 : 1 ≤ a.2 <;> by_cases h4 : a.2 ≤ 1048576 <;> simp [h1, h2, h3, h4, mayD]
 refine AWp.ret ?_
 simp
theorem c_ref04_May (a : Dot) : Pure Tryz.prog 44 [.agg (dotC a)] (.b (mayD a)) := by
 refine proc_of (cx Tryz.prog 21 [1, 2] [2]) 20 [.tmp 2] Tryz.func44 rfl rfl rfl rfl rfl rfl (Nat.le_refl _) rfl ?_
 refine AWp.g [1] [1] ?_
 simp [dotC]
 refine AWp.step [2] [] [(2, .b (mayD a))] [] ?_ ?_
 ·by_cases h1 : 1 ≤ a.1 <;> by_cases h2 : a.1 ≤ 5 <;> by_cases h3 : 1 ≤ a.2 <;> by_cases h4 : a.2 ≤ 1048576 <;> simp [h1, h2, h3, h4, mayD]
 refine AWp.ret ?_
 simp
theorem c_Clone_Dot (xs : List (List AV)) (h : xs.length * 16 ≤ 140737488355328) : Pure Tryz.prog 177 [.sl .fro 2 xs] (.sl .own 2 xs) := by
 refine proc_of (cx Tryz.prog 8 [0, 2, 4] [2]) 7 [.tmp 2] Tryz.func177 rfl rfl rfl rfl rfl rfl (Nat.le_refl _) rfl ?_
 refine AWp.g [0] [] ?_
 simp
 refine AWp.seq ?_
 refine AWp.g [0, 4] [] ?_
 simp
 refine ⟨fun h0 => ?_, ?_⟩
 ·refine AWp.cT (by simp) ?_
  refine AWp.g [2] [] ?_
  simp
  refine AWp.ret ?_
  simp [h0]
 ·refine AWp.cF (by simp) ?_
  refine AWp.skip ?_
  show AWp _ _ _ _
  refine AWp.g [2] [] ?_
  simp
  refine ⟨h, ?_⟩
  refine AWp.ret ?_
  simp
end Go.AM
namespace Go.AM
open Go.Proofs
set_option maxRecDepth 8000 in
theorem c_Equal_Dot (us vs : List Dot) (hlen : us.length ≤ 140737488355328) : Pure Tryz.prog 167 [.sl .fro 2 (dotsAV us), .sl .fro 2 (dotsAV vs)] (.b (decide (us = vs))) := by
 refine proc_of (cx Tryz.prog 26 [0, 1, 4, 5, 10, 12, 13, 14, 24] [4]) 24 [.tmp 4] Tryz.func167 rfl rfl rfl rfl rfl rfl (Nat.le_refl _) rfl ?_
 refine AWp.g [0, 1] [] ?_
 simp
 refine AWp.seq ?_
 refine AWp.g [0, 1, 10] [] ?_
 simp
 by_cases hl : us.length = vs.length
 ·refine AWp.cF (by simp [hl]) ?_
  refine AWp.skip ?_
  show AWp _ _ _ _
  refine AWp.seq ?_
  refine AWp.g [0, 1, 12, 13] [] ?_
  simp
  refine AWp.block (AWp.while (fun i : Nat => [(0, .sl .fro 2 (dotsAV us)), (1, .sl .fro 2 (dotsAV vs)), (12, .i .i64 us.length), (13, .i .i64 i)]) (fun i => []) (fun i => i ≤ us.length ∧ us.take i = vs.take i) (fun i => us.length - i) [0, 1, 12, 13] [] 0 (by simp) (by simp) ?_)
  intro i hi
  have hiv : i < us.length → i < vs.length := fun h => by omega
  refine AWp.g [0, 1, 12, 13, 14] [] ?_
  simp
  refine AWp.seq ?_
  by_cases h : i < us.length
  ·refine AWp.cT (by simp [h]) ?_
   refine AWp.skip ?_
   show AWp _ _ _ _
   refine AWp.seq ?_
   refine AWp.block ?_
   refine AWp.g [0, 1, 5, 12, 13] [] ?_
   simp
   refine AWp.goD 9 (fun _ => .any) [0, 1, 12, 13, 24] [] mix (by kernel_rfl) fun K hK => ?_
   simp [h, hiv h]
   refine hK _ _ ?_
   clear hK K
   by_cases he : us[i] = vs[i]'(hiv h)
   ·refine AWp.cF (by simp [Prod.ext_iff] at he ⊢; omega) ?_
    refine AWp.skip ?_
    show AWp _ _ _ _
    refine AWp.gL [0, 1, 12, 13] [] ?_
    simp
    refine ⟨i + 1, ⟨by omega, ?_⟩, by omega, ?_⟩
    ·rw [List.take_succ_eq_append_getElem h, List.take_succ_eq_append_getElem (hiv h), hi.2, he]
    ·simp
     exact wrap64 (by omega) (by omega)
   ·refine AWp.cT (by simp [Prod.ext_iff] at he ⊢; omega) ?_
    refine AWp.g [4] [] ?_
    simp
    refine AWp.ret ?_
    simp
    intro hh; subst hh; exact he rfl
  ·refine AWp.cF (by simp [h]) ?_
   refine AWp.exit ?_
   show AWp _ _ _ _
   refine AWp.g [4] [] ?_
   simp
   refine AWp.ret ?_
   have hil : i = us.length := by omega
   have := hi.2
   rw [hil, List.take_length, hl, List.take_length] at this
   simp [this]
 ·refine AWp.cT (by simp [hl]; omega) ?_
  refine AWp.g [4] [] ?_
  simp
  refine AWp.ret ?_
  simp
  intro h; subst h; exact hl rfl
set_option maxRecDepth 8000 in
theorem c_ref04_Dots (us vs : List Dot) (hlen : us.length ≤ 140737488355328) : Pure Tryz.prog 148 [.sl .fro 2 (dotsAV us), .sl .fro 2 (dotsAV vs)] (.b (decide (us = vs))) := by
 refine proc_of (cx Tryz.prog 26 [0, 1, 4, 5, 10, 14, 25] [4]) 24 [.tmp 4] Tryz.func148 rfl rfl rfl rfl rfl rfl (Nat.le_refl _) rfl ?_
 refine AWp.g [0, 1] [] ?_
 simp
 refine AWp.seq ?_
 refine AWp.g [0, 1, 10] [] ?_
 simp
 by_cases hl : us.length = vs.length
 ·refine AWp.cF (by simp [hl]) ?_
  refine AWp.skip ?_
  show AWp _ _ _ _
  refine AWp.seq ?_
  refine AWp.g [0, 1, 5] [] ?_
  simp
  refine AWp.block (AWp.while (fun i : Nat => [(0, .sl .fro 2 (dotsAV us)), (1, .sl .fro 2 (dotsAV vs)), (5, .i .i64 i)]) (fun i => []) (fun i => i ≤ us.length ∧ us.take i = vs.take i) (fun i => us.length - i) [0, 1, 5] [] 0 (by simp) (by simp) ?_)
  intro i hi
  have hiv : i < us.length → i < vs.length := fun h => by omega
  refine AWp.seq ?_
  refine AWp.g [0, 1, 5, 14] [] ?_
  simp
  by_cases h : i < us.length
  ·refine AWp.cT (by simp [h]) ?_
   refine AWp.skip ?_
   show AWp _ _ _ _
   refine AWp.seq ?_
   refine AWp.block ?_
   refine AWp.goD 9 (fun _ => .any) [0, 1, 5, 25] [] mix (by kernel_rfl) fun K hK => ?_
   simp [h, hiv h]
   refine hK _ _ ?_
   clear hK K
   by_cases he : us[i] = vs[i]'(hiv h)
   ·refine AWp.cF (by simp [Prod.ext_iff] at he ⊢; omega) ?_
    refine AWp.skip ?_
    show AWp _ _ _ _
    refine AWp.gL [0, 1, 5] [] ?_
    simp
    refine ⟨i + 1, ⟨by omega, ?_⟩, by omega, ?_⟩
    ·rw [List.take_succ_eq_append_getElem h, List.take_succ_eq_append_getElem (hiv h), hi.2, he]
    ·simp
     exact wrap64 (by omega) (by omega)
   ·refine AWp.cT (by simp [Prod.ext_iff] at he ⊢; omega) ?_
    refine AWp.g [4] [] ?_
    simp
    refine AWp.ret ?_
    simp
    intro hh; subst hh; exact he rfl
  ·refine AWp.cF (by simp [h]) ?_
   refine AWp.exit ?_
   show AWp _ _ _ _
   refine AWp.g [4] [] ?_
   simp
   refine AWp.ret ?_
   have hil : i = us.length := by omega
   have := hi.2
   rw [hil, List.take_length, hl, List.take_length] at this
   simp [this]
 ·refine AWp.cT (by simp [hl]; omega) ?_
  refine AWp.g [4] [] ?_
  simp
  refine AWp.ret ?_
  simp
  intro h; subst h; exact hl rfl
end Go.AM
namespace Go.AM
open Go.Proofs
theorem all_of {α : Type} {p : α → Bool} {l : List α} (h : ∀ k (hk : k < l.length), p l[k] = true) : l.all p = true := by
 rw [List.all_eq_true]
 intro x hx
 obtain ⟨k, hk, rfl⟩ := List.mem_iff_getElem.1 hx
 exact h k hk
theorem all_not {α : Type} {p : α → Bool} {l : List α} {i : Nat} (hi : i < l.length) (h : p l[i] = false) : l.all p = false := by
 rw [List.all_eq_false]
 exact ⟨_, List.getElem_mem hi, by simp [h]⟩
theorem any_of {α : Type} {p : α → Bool} {l : List α} {i : Nat} (hi : i < l.length) (h : p l[i] = true) : l.any p = true := by
 rw [List.any_eq_true]
 exact ⟨_, List.getElem_mem hi, h⟩
theorem any_not {α : Type} {p : α → Bool} {l : List α} (h : ∀ k (hk : k < l.length), p l[k] = false) : l.any p = false := by
 rw [List.any_eq_false]
 intro x hx
 obtain ⟨k, hk, rfl⟩ := List.mem_iff_getElem.1 hx
 simp [h k hk]
set_option maxRecDepth 8000 in
theorem c_ref04_All (l : List Dot) (hlen : l.length ≤ 140737488355328) : Pure Tryz.prog 171 [.sl .fro 2 (dotsAV l)] (.b (l.all mayD)) := by
 refine proc_of (cx Tryz.prog 16 [0, 2, 3, 7, 15] [2]) 15 [.tmp 2] Tryz.func171 rfl rfl rfl rfl rfl rfl (Nat.le_refl _) rfl ?_
 refine AWp.g [0] [] ?_
 simp
 refine AWp.seq ?_
 refine AWp.g [0, 3] [] ?_
 simp
 refine AWp.block (AWp.while (fun i : Nat => [(0, .sl .fro 2 (dotsAV l)), (3, .i .i64 i)]) (fun i => []) (fun i => i ≤ l.length ∧ ∀ k (hk : k < i) (hk2 : k < l.length), mayD l[k] = true) (fun i => l.length - i) [0, 3] [] 0 (by simp) (by simp) ?_)
 rintro i ⟨hi, hall⟩
 refine AWp.seq ?_
 refine AWp.g [0, 3, 7] [] ?_
 simp
 by_cases h : i < l.length
 ·refine AWp.cT (by simp [h]) ?_
  refine AWp.skip ?_
  show AWp _ _ _ _
  refine AWp.seq ?_
  refine AWp.block ?_
  refine AWp.g [0, 3, 15] [] ?_
  simp [h]
  refine call_pure (c_ref04_May l[i]) (by simp [dotC]) ?_
  simp [h]
  cases hp : mayD l[i]
  ·refine AWp.cT (by simp) ?_
   refine AWp.g [2] [] ?_
   simp
   refine AWp.ret ?_
   simp [all_not h hp]
  ·refine AWp.cF (by simp) ?_
   refine AWp.skip ?_
   show AWp _ _ _ _
   refine AWp.gL [0, 3] [] ?_
   simp
   refine ⟨i + 1, ⟨by omega, fun k hk hk2 => ?_⟩, by omega, ?_⟩
   ·by_cases hki : k = i
    ·subst hki; exact hp
    ·exact hall k (by omega) hk2
   ·simp
    exact wrap64 (by omega) (by omega)
 ·refine AWp.cF (by simp [h]) ?_
  refine AWp.exit ?_
  show AWp _ _ _ _
  refine AWp.g [2] [] ?_
  simp
  refine AWp.ret ?_
  rw [all_of fun k hk => hall k (by omega) hk]
  simp
set_option maxRecDepth 8000 in
theorem c_ref03_May (l : List Int) (hlen : l.length ≤ 140737488355328) : Pure Tryz.prog 33 [.sl .fro 1 (intsAV l)] (.b (clockOk l)) := by
 refine proc_of (cx Tryz.prog 25 [0, 2, 3, 7, 21] [2]) 24 [.tmp 2] Tryz.func33 rfl rfl rfl rfl rfl rfl (Nat.le_refl _) rfl ?_
 refine AWp.g [0] [] ?_
 simp
 refine AWp.seq ?_
 refine AWp.g [0, 3] [] ?_
 simp
 refine AWp.block (AWp.while (fun i : Nat => [(0, .sl .fro 1 (intsAV l)), (3, .i .i64 i)]) (fun i => []) (fun i => i ≤ l.length ∧ ∀ k (hk : k < i) (hk2 : k < l.length), badN l[k] = false) (fun i => l.length - i) [0, 3] [] 0 (by simp) (by simp) ?_)
 rintro i ⟨hi, hall⟩
 refine AWp.seq ?_
 refine AWp.g [0, 3, 7] [] ?_
 simp
 by_cases h : i < l.length
 ·refine AWp.cT (by simp [h]) ?_
  refine AWp.skip ?_
  show AWp _ _ _ _
  refine AWp.seq ?_
  refine AWp.block ?_
  refine AWp.step [0, 3, 21] [] [(0, .sl .fro 1 (intsAV l)), (3, .i .i64 i), (21, .b (badN l[i]))] [] ?_ ?_
  ·by_cases h1 : l[i] < 0 <;> simp [h, h1, badN]
  cases hp : badN l[i]
  ·refine AWp.cF (by simp) ?_
   refine AWp.skip ?_
   show AWp _ _ _ _
   refine AWp.gL [0, 3] [] ?_
   simp
   refine ⟨i + 1, ⟨by omega, fun k hk hk2 => ?_⟩, by omega, ?_⟩
   ·by_cases hki : k = i
    ·subst hki; exact hp
    ·exact hall k (by omega) hk2
   ·simp
    exact wrap64 (by omega) (by omega)
  ·refine AWp.cT (by simp) ?_
   refine AWp.g [2] [] ?_
   simp
   refine AWp.ret ?_
   simp [clockOk, any_of h hp]
 ·refine AWp.cF (by simp [h]) ?_
  refine AWp.exit ?_
  show AWp _ _ _ _
  refine AWp.g [2] [] ?_
  simp
  refine AWp.ret ?_
  rw [clockOk, any_not fun k hk => hall k (by omega) hk]
  simp
  omega
theorem clockOk_len {c : List Int} (h : clockOk c = true) : c.length ≤ 5 := by
 simp [clockOk] at h; exact h.1
theorem getC_ref (c : List Int) (rep : Int) : getC c rep = if clockOk c = true ∧ 1 ≤ rep ∧ rep ≤ c.length then c.getD (rep - 1).toNat 0 else 0 := by
 unfold getC ofL
 cases hc : clockOk c
 ·simp
  intro h1 h2
  obtain ⟨k, hk⟩ : ∃ k : Nat, rep.toNat - 1 = k := ⟨_, rfl⟩
  rw [hk]
  have : k < 5 := by omega
  match k, this with
  | 0, _ | 1, _ | 2, _ | 3, _ | 4, _ => rfl
 ·have hl := clockOk_len hc
  simp
  by_cases h1 : 1 ≤ rep
  ·by_cases h2 : rep ≤ c.length
   ·rw [if_pos ⟨h1, by omega⟩, if_pos ⟨h1, h2⟩, List.getElem?_append_left (by omega)]
   ·rw [if_neg (c := 1 ≤ rep ∧ rep ≤ c.length) (by omega)]
    split
    ·rw [List.getElem?_append_right (by omega), List.getElem?_replicate]
     split <;> rfl
    ·rfl
  ·rw [if_neg (by omega), if_neg (by omega)]
set_option maxRecDepth 8000 in
theorem c_ref03_Get (c : List Int) (rep : Int) (hlen : c.length ≤ 140737488355328) : Pure Tryz.prog 47 [.sl .fro 1 (intsAV c), .i .i64 rep] (.i .i64 (getC c rep)) := by
 refine proc_of (cx Tryz.prog 23 [0, 1, 4, 17] [4]) 21 [.tmp 4] Tryz.func47 rfl rfl rfl rfl rfl rfl (Nat.le_refl _) rfl ?_
 refine AWp.g [0, 1] [] ?_
 simp
 refine AWp.seq ?_
 refine AWp.step [0, 1, 17] [] [(0, .sl .fro 1 (intsAV c)), (1, .i .i64 rep), (17, .b (!(decide (clockOk c = true ∧ 1 ≤ rep ∧ rep ≤ c.length))))] [] ?_ ?_
 ·simp
  refine call_pure (c_ref03_May c hlen) (by simp) ?_
  cases hc : clockOk c
  ·simp
  ·by_cases h1 : rep < 1
   ·simp [h1]
   ·by_cases h2 : c.length < rep
    ·simp [h1, h2]
    ·simp [h1, h2]; omega
 by_cases h : clockOk c = true ∧ 1 ≤ rep ∧ rep ≤ c.length
 ·refine AWp.cF (by simp [h]) ?_
  refine AWp.skip ?_
  show AWp _ _ _ _
  obtain ⟨k, rfl⟩ : ∃ k : Nat, rep = (k : Int) + 1 := ⟨(rep - 1).toNat, by omega⟩
  have hk : k < c.length := by omega
  have w1 : IntKind.i64.wrap (k : Int) = k := wrap64 (by omega) (by omega)
  refine AWp.g [4] [] ?_
  simp [w1, hk]
  refine AWp.ret ?_
  rw [getC_ref, if_pos h]
  simp [hk]
 ·refine AWp.cT (by simp [h]) ?_
  refine AWp.g [4] [] ?_
  simp
  refine AWp.ret ?_
  simp [getC_ref, h]
end Go.AM
namespace Go.AM
open Go.Proofs
@[simp] theorem intsAV_append (a b : List Int) : intsAV (a ++ b) = intsAV a ++ intsAV b := by simp [intsAV]
@[simp] theorem intsAV_nil : intsAV [] = [] := rfl
@[simp] theorem intsAV_cons (x : Int) (l : List Int) : intsAV (x :: l) = [.i .i64 x] :: intsAV l := rfl
def refP (f : List Int) : Nat → List Int
 | 0 => []
 | k + 1 => if 0 < f.getD k 0 then (refP f k ++ List.replicate (k - (refP f k).length) 0) ++ [f.getD k 0] else refP f k
theorem getC_at (c : List Int) (i : Nat) (h : i < 5) : getC c (i + 1) = (ofL c).getD i 0 := by
 unfold getC
 rw [if_pos (by omega)]
 congr 1
 omega
def sumC (c : List Int) : Int := getC c 1 + getC c 2 + getC c 3 + getC c 4 + getC c 5
def sumTo (c : List Int) : Nat → Int
 | 0 => 0
 | k + 1 => sumTo c k + getC c (k + 1)
end Go.AM
namespace Go.AM
open Go.Proofs
@[simp] theorem dotsAV_append (a b : List Dot) : dotsAV (a ++ b) = dotsAV a ++ dotsAV b := by simp [dotsAV]
@[simp] theorem dotsAV_nil : dotsAV [] = [] := rfl
@[simp] theorem dotsAV_cons (x : Dot) (l : List Dot) : dotsAV (x :: l) = [.i .i64 x.1, .i .i64 x.2] :: dotsAV l := rfl
theorem dotsAV_drop (l : List Dot) (k : Nat) : (dotsAV l).drop k = dotsAV (l.drop k) := by simp [dotsAV, List.map_drop]
theorem dotsAV_take (l : List Dot) (k : Nat) : (dotsAV l).take k = dotsAV (l.take k) := by simp [dotsAV, List.map_take]
def putD (l : List Dot) (d : Dot) : List Dot := match l with
 | [] => [d]
 | x :: l => if ltD x d then x :: putD l d else if x = d then x :: l else d :: x :: l
theorem putD_at : ∀ (l : List Dot) (d : Dot) (k : Nat), k ≤ l.length → (∀ j, j < k → ∀ (hl : j < l.length), ltD l[j] d = true) → (∀ h : k < l.length, ltD l[k] d = false) →
  putD l d = if ∃ h : k < l.length, l[k] = d then l else l.take k ++ d :: l.drop k
 | [], d, k, hk, h1, h2 => by
  have : k = 0 := by simpa using hk
  subst this; simp [putD]
 | x :: l, d, 0, hk, h1, h2 => by
  have := h2 (by simp)
  simp at this
  simp [putD, this]
 | x :: l, d, k + 1, hk, h1, h2 => by
  have h0 := h1 0 (by omega) (by simp)
  simp at h0
  have ih := putD_at l d k (by simpa using hk) (fun j hj hl => h1 (j + 1) (by omega) (by simpa using hl)) (fun h => h2 (by simpa using h))
  simp only [putD, h0, if_true, ih]
  simp
  split <;> rfl
theorem putD_length (l : List Dot) (d : Dot) : (putD l d).length ≤ l.length + 1 := by
 induction l with
 | nil => simp [putD]
 | cons x l ih =>
  unfold putD
  split
  ·simp; omega
  ·split <;> simp
set_option maxRecDepth 8000 in
theorem c_ref04_Put (l : List Dot) (d : Dot) (hlen : l.length ≤ 1000000) : Pure Tryz.prog 142 [.sl .fro 2 (dotsAV l), .agg (dotC d)] (.sl .fro 2 (dotsAV (putD l d))) := by
 refine proc_of (cx Tryz.prog 48 [0, 3, 4, 5, 6, 18, 32] [4]) 46 [.tmp 4] Tryz.func142 rfl rfl rfl rfl rfl rfl (Nat.le_refl _) rfl ?_
 refine AWp.g [0, 3] [3] ?_
 simp [dotC]
 refine AWp.g [0, 3, 5] [3] ?_
 simp
 refine AWp.seq ?_
 refine AWp.block (AWp.while (fun i : Nat => [(0, .sl .fro 2 (dotsAV l)), (3, .ptr 3 0), (5, .i .i64 i)]) (fun i => [(3, [.i .i64 d.1, .i .i64 d.2])]) (fun i => i ≤ l.length ∧ ∀ k (hk : k < i) (hk2 : k < l.length), ltD l[k] d = true) (fun i => l.length - i) [0, 3, 5] [3] 0 (by simp) (by simp) ?_)
 rintro i ⟨hi, hall⟩
 refine AWp.seq ?_
 refine AWp.stepD 12 (fun k => if k = 10 then (if h : i < l.length then .b (ltD l[i] d) else .any) else .any) [0, 3, 5, 18] [3] [(0, .sl .fro 2 (dotsAV l)), (3, .ptr 3 0), (5, .i .i64 i), (18, .b (decide (∃ h : i < l.length, ltD l[i] d = true)))] [(3, [.i .i64 d.1, .i .i64 d.2])] mix (by kernel_rfl) ?_ ?_
 ·by_cases h : i < l.length
  ·simp [h, AV.scalar]
   simpa [dotC] using c_ref04_Less l[i] d
  ·simp [h]
 by_cases hp : ∃ h : i < l.length, ltD l[i] d = true
 ·refine AWp.cT (by simp [hp]) ?_
  refine AWp.skip ?_
  show AWp _ _ _ _
  refine AWp.block ?_
  obtain ⟨h, hp⟩ := hp
  refine AWp.gL [0, 3, 5] [3] ?_
  simp
  refine ⟨i + 1, ⟨by omega, fun k hk hk2 => ?_⟩, by omega, ?_⟩
  ·by_cases hki : k = i
   ·subst hki; exact hp
   ·exact hall k (by omega) hk2
  ·simp
   exact wrap64 (by omega) (by omega)
 ·refine AWp.cF (by simp [hp]) ?_
  refine AWp.exit ?_
  show AWp _ _ _ _
  refine AWp.seq ?_
  refine AWp.stepD 12 (fun _ => .any) [0, 3, 5, 32] [3] [(0, .sl .fro 2 (dotsAV l)), (3, .ptr 3 0), (5, .i .i64 i), (32, .b (decide (∃ h : i < l.length, l[i] = d)))] [(3, [.i .i64 d.1, .i .i64 d.2])] mix (by kernel_rfl) ?_ ?_
  ·by_cases h : i < l.length
   ·simp [h]
    by_cases h1 : l[i].1 = d.1 <;> by_cases h2 : l[i].2 = d.2 <;> simp [h1, h2, Prod.ext_iff]
   ·simp [h]
  by_cases he : ∃ h : i < l.length, l[i] = d
  ·refine AWp.cT (by simp [he]) ?_
   refine AWp.g [4] [] ?_
   simp
   refine AWp.ret ?_
   rw [putD_at l d i hi hall (fun h => by simpa [h] using hp), if_pos he]
   simp
  ·refine AWp.cF (by simp [he]) ?_
   have hpd : putD l d = l.take i ++ d :: l.drop i := by
    rw [putD_at l d i hi hall (fun h => by simpa [h] using hp), if_neg he]
   refine AWp.skip ?_
   show AWp _ _ _ _
   refine AWp.g [0, 3, 5, 6] [3] ?_
   simp
   refine ⟨by omega, by omega, ?_⟩
   show AWp _ _ _ _
   refine AWp.gT (.take 0 (.take 1 (.take 2 (.take 3 (.take 7 (.alt 4 (.alt 5 (.alt 6 (.alt 8 (.take 9 .fin) .stop) .stop) .stop) .stop)))))) [4] [] mix (by kernel_rfl) ?_
   refine atree.t ?_
   simp
   refine atree.t ?_
   simp
   refine atree.t ?_
   simp
   refine atree.t ?_
   simp
   refine ⟨by omega, ?_⟩
   refine atree.t ?_
   simp
   refine atree.a ?_
   simp
   refine atree.a ?_
   simp
   refine atree.a ?_
   simp
   refine ⟨by omega, ?_⟩
   refine atree.a ?_
   simp
   refine ⟨by omega, ?_⟩
   refine atree.t ?_
   simp
   refine atree.f ?_
   simp
   refine AWp.frz [4] ?_
   simp
   refine AWp.ret ?_
   simp [hpd, dotsAV_take, dotsAV_drop, dotC]
end Go.AM
namespace Go.AM
open Go.Proofs
def ordD (l : List Dot) : List Dot := l.foldl putD []
theorem ordD_take (l : List Dot) (i : Nat) (h : i < l.length) : ordD (l.take (i + 1)) = putD (ordD (l.take i)) l[i] := by
 unfold ordD
 rw [List.take_succ_eq_append_getElem h, List.foldl_append]
 rfl
theorem ordD_length (l : List Dot) : ∀ i, i ≤ l.length → (ordD (l.take i)).length ≤ i
 | 0, _ => by simp [ordD]
 | i + 1, h => by
  rw [ordD_take l i (by omega)]
  have := ordD_length l i (by omega)
  have := putD_length (ordD (l.take i)) l[i]
  omega
set_option maxRecDepth 8000 in
theorem c_ref04_Order (l : List Dot) (hlen : l.length ≤ 1000000) : Pure Tryz.prog 172 [.sl .fro 2 (dotsAV l)] (.sl .fro 2 (dotsAV (ordD l))) := by
 refine proc_of (cx Tryz.prog 19 [0, 2, 3, 4, 9] [2]) 18 [.tmp 2] Tryz.func172 rfl rfl rfl rfl rfl rfl (Nat.le_refl _) rfl ?_
 refine AWp.g [0] [] ?_
 simp
 refine AWp.g [0, 3] [] ?_
 simp
 refine AWp.seq ?_
 refine AWp.g [0, 3, 4] [] ?_
 simp
 refine AWp.frz [3] ?_
 simp
 refine AWp.block (AWp.while (fun i : Nat => [(0, .sl .fro 2 (dotsAV l)), (3, .sl .fro 2 (dotsAV (ordD (l.take i)))), (4, .i .i64 i)]) (fun i => []) (fun i => i ≤ l.length) (fun i => l.length - i) [0, 3, 4] [] 0 (by simp) (by simp [ordD]) ?_)
 intro i hi
 refine AWp.seq ?_
 refine AWp.g [0, 3, 4, 9] [] ?_
 simp
 by_cases h : i < l.length
 ·refine AWp.cT (by simp [h]) ?_
  have w1 : IntKind.i64.wrap ((i : Int) + 1) = i + 1 := wrap64 (by omega) (by omega)
  have hO := ordD_length l i hi
  refine AWp.skip ?_
  show AWp _ _ _ _
  refine AWp.seq ?_
  refine AWp.block ?_
  refine AWp.gL [0, 3, 4] [] ?_
  simp [h]
  refine call_pure (c_ref04_Put (ordD (l.take i)) l[i] (by omega)) (by simp [dotC]) ?_
  simp [h]
  show AWp _ _ _ _
  refine AWp.gL [0, 3, 4] [] ?_
  simp
  refine ⟨i + 1, by omega, by omega, ?_⟩
  simp [ordD_take l i h, w1]
 ·refine AWp.cF (by simp [h]) ?_
  refine AWp.exit ?_
  show AWp _ _ _ _
  obtain rfl : i = l.length := by omega
  refine AWp.g [2] [] ?_
  simp
  refine AWp.ret ?_
  simp
structure Seen where
 upto : List Int
 more : List Dot
 deriving DecidableEq
def seenC (s : Seen) : List AV := [.sl .fro 1 (intsAV s.upto), .sl .fro 2 (dotsAV s.more)]
def moreOk (u : List Int) (l : List Dot) (i : Nat) : Bool := match l[i]? with
 | some d => mayD d && decide (getC u d.1 + 1 < d.2) && (!decide (0 < i) || ltD (l.getD (i - 1) (0, 0)) d)
 | none => false
def seenOk (s : Seen) : Bool := clockOk s.upto && decide (plainL (ofL s.upto) = s.upto) && decide (s.more.length ≤ 1000) && (List.range s.more.length).all (moreOk s.upto s.more)
theorem range_all {n : Nat} {p : Nat → Bool} (h : ∀ k, k < n → p k = true) : (List.range n).all p = true := by
 rw [List.all_eq_true]
 intro x hx
 exact h x (by simpa using hx)
theorem range_not {n : Nat} {p : Nat → Bool} {i : Nat} (hi : i < n) (h : p i = false) : (List.range n).all p = false := by
 rw [List.all_eq_false]
 exact ⟨i, by simpa using hi, by simp [h]⟩
end Go.AM
namespace Go.AM
open Go.Proofs
def hasD (s : Seen) (d : Dot) : Bool := mayD d && (decide (d.2 ≤ getC s.upto d.1) || decide (d ∈ s.more))
def addStep (s : Seen) (x : Dot) : Seen :=
 if x.2 = getC s.upto x.1 + 1 then ⟨plainL (ofL ((List.range 5).map fun k : Nat => if (k : Int) + 1 = x.1 then x.2 else getC s.upto (k + 1))), s.more⟩ else ⟨s.upto, s.more ++ [x]⟩
def addD (s : Seen) (d : Dot) : Seen := if hasD s d then s else (putD s.more d).foldl addStep ⟨s.upto, []⟩
def addTo (u : List Int) (l : List Dot) (i : Nat) : Seen := (l.take i).foldl addStep ⟨u, []⟩
end Go.AM
namespace Go.AM
def AV.calm : AV → Bool
 | .any | .b _ | .i _ _ | .s _ | .nil | .nofn | .ab _ _ _ _ | .mp _ | .it _ => true
 | .sl .fro _ _ => true
 | _ => false
def Calm (cs : List AV) : Prop := ∀ c ∈ cs, c.calm = true
theorem Calm.append {a b : List AV} (h1 : Calm a) (h2 : Calm b) : Calm (a ++ b) := fun c hc => by
 rcases List.mem_append.1 hc with h | h
 ·exact h1 c h
 ·exact h2 c h
theorem Calm.take {a : List AV} (h : Calm a) (n : Nat) : Calm (a.take n) := fun c hc => h c (List.mem_of_mem_take hc)
theorem Calm.drop {a : List AV} (h : Calm a) (n : Nat) : Calm (a.drop n) := fun c hc => h c (List.mem_of_mem_drop hc)
theorem Calm.replicate (n : Nat) {x : AV} (hx : x.calm = true) : Calm (List.replicate n x) := fun c hc => by rw [List.eq_of_mem_replicate hc]; exact hx
theorem tr_calm {h : Place → AV → AV} (hl : ∀ p x, x.calm = true → h p x = x) {x : AV} (hx : x.calm = true) (p : Place) : x.tr h p = x := by
 cases x <;> first | exact hl _ _ hx | (simp [AV.calm] at hx; done)
theorem trC_calm {h : Place → AV → AV} (hl : ∀ p x, x.calm = true → h p x = x) (id : Nat) : ∀ (k : Nat) (cs : List AV), Calm cs → AV.trC h id k cs = cs
 | _, [], _ => rfl
 | k, x :: xs, hc => by rw [AV.trC, tr_calm hl (hc x (by simp)), trC_calm hl id (k + 1) xs fun c h => hc c (by simp [h])]
theorem take_calm (Q) (p : Place) (x : AV) (hx : x.calm = true) : takeLeaf Q p x = x := by
 cases x <;> first | rfl | (simp [AV.calm] at hx; done) | skip
 rename_i g sz xs; cases g <;> first | rfl | (simp [AV.calm] at hx; done)
theorem fz_calm (F) (p : Place) (x : AV) (hx : x.calm = true) : fzLeaf F p x = x := by
 cases x <;> first | rfl | (simp [AV.calm] at hx; done) | skip
 rename_i g sz xs; cases g <;> first | rfl | (simp [AV.calm] at hx; done)
theorem view_calm (p : Place) (x : AV) (hx : x.calm = true) : viewLeaf p x = x := by
 cases x <;> first | rfl | (simp [AV.calm] at hx; done) | skip
 rename_i g sz xs; cases g <;> first | rfl | (simp [AV.calm] at hx; done)
theorem kill_calm (b) (p : Place) (x : AV) (hx : x.calm = true) : killBLeaf b p x = x := by
 cases x <;> first | rfl | (simp [AV.calm] at hx; done)
@[simp] theorem trC_take {Q id k cs} (h : Calm cs) : AV.trC (takeLeaf Q) id k cs = cs := trC_calm (take_calm Q) id k cs h
@[simp] theorem trC_fz {F id k cs} (h : Calm cs) : AV.trC (fzLeaf F) id k cs = cs := trC_calm (fz_calm F) id k cs h
@[simp] theorem trC_view {id k cs} (h : Calm cs) : AV.trC viewLeaf id k cs = cs := trC_calm view_calm id k cs h
@[simp] theorem trC_killB {b id k cs} (h : Calm cs) : AV.trC (killBLeaf b) id k cs = cs := trC_calm (kill_calm b) id k cs h
attribute [simp] AV.fitsL_refl
def boxR {α : Type} (enc : α → List AV) (l : List α) (pad : List AV) : List AV := (l.map enc).flatten ++ pad
structure EncOk {α : Type} (enc : α → List AV) (k : Nat) : Prop where
 len : ∀ x, (enc x).length = k
 calm : ∀ x, Calm (enc x)
section
variable {α : Type} {enc : α → List AV} {k : Nat} (hk : EncOk enc k)
include hk
theorem rows_len (l : List α) : (l.map enc).flatten.length = l.length * k := by
 induction l with
 | nil => simp
 | cons x l ih => simp [hk.len, Nat.add_mul] at ih ⊢; omega
theorem boxR_len (l : List α) (pad : List AV) : (boxR enc l pad).length = l.length * k + pad.length := by
 unfold boxR
 rw [List.length_append, rows_len hk]
theorem boxR_calm {l : List α} {pad : List AV} (hp : Calm pad) : Calm (boxR enc l pad) := by
 refine Calm.append (fun c hc => ?_) hp
 obtain ⟨y, hy, hc⟩ := List.mem_flatten.1 hc
 obtain ⟨x, _, rfl⟩ := List.mem_map.1 hy
 exact hk.calm x c hc
theorem boxR_cut (l : List α) (pad : List AV) (i : Nat) (h : i < l.length) : boxR enc l pad = ((l.take i).map enc).flatten ++ (enc l[i] ++ (((l.drop (i + 1)).map enc).flatten ++ pad)) ∧ ((l.take i).map enc).flatten.length = i * k := by
 have e : l = l.take i ++ l[i] :: l.drop (i + 1) := by rw [List.getElem_cons_drop, List.take_append_drop]
 refine ⟨?_, by rw [rows_len hk, List.length_take, Nat.min_eq_left (by omega)]⟩
 unfold boxR
 have e2 : l.map enc = (l.take i).map enc ++ enc l[i] :: (l.drop (i + 1)).map enc := by
  rw [← List.map_cons, ← List.map_append, ← e]
 rw [e2, List.flatten_append, List.flatten_cons, List.append_assoc, List.append_assoc]
theorem boxR_get (l : List α) (pad : List AV) (i : Nat) (h : i < l.length) : ((boxR enc l pad).drop (i * k)).take k = enc l[i] := by
 obtain ⟨e, e3⟩ := boxR_cut hk l pad i h
 rw [e, ← e3, List.drop_left]
 have := hk.len l[i]
 rw [← this, List.take_left]
theorem boxR_set (l : List α) (pad : List AV) (i : Nat) (h : i < l.length) (x : α) : (boxR enc l pad).take (i * k) ++ (enc x ++ (boxR enc l pad).drop (i * k + k)) = boxR enc (l.set i x) pad := by
 obtain ⟨e, e3⟩ := boxR_cut hk l pad i h
 have e4 : l.set i x = l.take i ++ x :: l.drop (i + 1) := by rw [List.set_eq_take_append_cons_drop, if_pos h]
 rw [e]
 have hd : (((l.take i).map enc).flatten ++ (enc l[i] ++ (((l.drop (i + 1)).map enc).flatten ++ pad))).drop (i * k + k) = ((l.drop (i + 1)).map enc).flatten ++ pad := by
  rw [← List.append_assoc, List.drop_left' (by rw [List.length_append, e3, hk.len])]
 rw [hd, ← e3, List.take_left, e4]
 unfold boxR
 rw [List.map_append, List.map_cons, List.flatten_append, List.flatten_cons, List.append_assoc, List.append_assoc]
theorem boxR_clear (l : List α) (pad zs : List AV) (i : Nat) (h : i ≤ l.length) (hz : zs.length = (l.length - i) * k) : (boxR enc l pad).take (i * k) ++ (zs ++ (boxR enc l pad).drop (i * k + zs.length)) = boxR enc (l.take i) (zs ++ pad) := by
 have e : l.map enc = (l.take i).map enc ++ (l.drop i).map enc := by rw [← List.map_append, List.take_append_drop]
 have e3 : ((l.take i).map enc).flatten.length = i * k := by rw [rows_len hk, List.length_take, Nat.min_eq_left h]
 have hd : (boxR enc l pad).drop (i * k + zs.length) = pad := by
  unfold boxR
  refine List.drop_left' ?_
  rw [rows_len hk, hz, ← Nat.add_mul]
  congr 1; omega
 have ht : (boxR enc l pad).take (i * k) = ((l.take i).map enc).flatten := by
  unfold boxR
  rw [e, List.flatten_append, List.append_assoc, ← e3, List.take_left]
 rw [hd, ht]
 rfl
end
end Go.AM
namespace Go.AM
theorem Calm.still {cs : List AV} (h : Calm cs) : ∀ x ∈ cs, x.still = true := by
 intro x hx
 have := h x hx
 cases x <;> first | rfl | (simp [AV.calm] at this; done) | skip
 rename_i g sz xs; cases g <;> first | rfl | (simp [AV.calm] at this; done)
theorem Calm.zeros {zero : List AV} (h : Calm zero) : ∀ n, Calm (zerosL zero n)
 | 0 => fun c hc => by simp [zerosL] at hc
 | n + 1 => h.append (Calm.zeros h n)
end Go.AM
namespace Go.AM
theorem Calm.freeL {cs : List AV} (h : Calm cs) : AV.freeL cs = true := by
 rw [AV.freeL_iff]
 intro x hx
 have := h x hx
 cases x <;> first | rfl | (simp [AV.calm] at this; done) | skip
 rename_i g sz xs; cases g <;> first | rfl | (simp [AV.calm] at this; done)
end Go.AM
namespace Go.AM
@[simp] theorem wrap_i0 : IntKind.i64.wrap 0 = 0 := by decide
@[simp] theorem wrap_i1 : IntKind.i64.wrap 1 = 1 := by decide
@[simp] theorem wrap_u0 : IntKind.u64.wrap 0 = 0 := by decide
@[simp] theorem wrap_b0 : IntKind.u8.wrap 0 = 0 := by decide
end Go.AM
namespace Go.AM
open Go.Proofs
theorem dotC_ok : EncOk dotC 2 := ⟨fun _ => rfl, fun x c hc => by simp [dotC] at hc; rcases hc with rfl | rfl <;> rfl⟩
theorem dotR_get (l : List Dot) (pad : List AV) (i : Nat) (h : i < l.length) : ((boxR dotC l pad).drop (i * 2)).take 2 = [.i .i64 l[i].1, .i .i64 l[i].2] := boxR_get dotC_ok l pad i h
theorem dotR_set (l : List Dot) (pad : List AV) (i : Nat) (h : i < l.length) (x : Dot) : (boxR dotC l pad).take (i * 2) ++ .i .i64 x.1 :: .i .i64 x.2 :: (boxR dotC l pad).drop (i * 2 + 2) = boxR dotC (l.set i x) pad := boxR_set dotC_ok l pad i h x
def compN (l : List Dot) : Nat → List Dot
 | 0 => []
 | i + 1 => match l[i]? with
  | none => compN l i
  | some x => if 0 < i ∧ l[i - 1]? = some x then compN l i else compN l i ++ [x]
def compD (l : List Dot) : List Dot := compN l l.length
theorem compN_le (l : List Dot) : ∀ i, (compN l i).length ≤ i
 | 0 => by simp [compN]
 | i + 1 => by
  have := compN_le l i
  unfold compN
  split
  ·omega
  ·split
   ·omega
   ·simp; omega
theorem compN_eq (l : List Dot) (k m : Nat) (hm : m = k + 1) (h : m < l.length) (he : l[m] = l[k]) : compN l (m + 1) = compN l m := by
 subst hm
 conv => lhs; unfold compN
 rw [List.getElem?_eq_getElem h]
 simp [List.getElem?_eq_getElem (show k < l.length by omega), he]
theorem compN_ne (l : List Dot) (k m : Nat) (hm : m = k + 1) (h : m < l.length) (he : l[m] ≠ l[k]) : compN l (m + 1) = compN l m ++ [l[m]] := by
 subst hm
 conv => lhs; unfold compN
 rw [List.getElem?_eq_getElem h]
 simp [List.getElem?_eq_getElem (show k < l.length by omega), Ne.symm he]
set_option maxRecDepth 8000 in
set_option maxHeartbeats 1000000 in
theorem c_Compact_Dot (l : List Dot) (cap : Nat) (hc : l.length ≤ cap) (hl : l.length ≤ 1000000) (h2 : 2 ≤ l.length) (pad : List AV) (hp : pad.length = (cap - l.length) * 2) (hpad : Calm pad) : Proc Tryz.prog 1 207 [.bs 0 0 l.length cap] [(0, boxR dotC l pad)] (.bs 0 0 (compD l).length cap) [(0, boxR dotC (compD l) (zerosL [.i .i64 0, .i .i64 0] (l.length - (compD l).length) ++ pad))] := by
 have hC : ∀ l', Calm (boxR dotC l' pad) := fun l' => boxR_calm dotC_ok hpad
 have hL : ∀ l', (boxR dotC l' pad).length = l'.length * 2 + pad.length := fun l' => boxR_len dotC_ok l' pad
 refine proc_of (cxb Tryz.prog 61 1 [0, 2, 3, 4, 5, 8, 13, 25, 32, 44] [] [2]) 60 [.tmp 2] Tryz.func207 rfl rfl rfl rfl rfl rfl (Nat.le_refl _) rfl ?_
 refine AWp.g [0] [0] ?_
 simp [hC, hL]
 refine AWp.seq ?_
 refine AWp.g [0, 8] [0] ?_
 simp [hC, hL]
 by_cases h : 2 ≤ l.length
 ·refine AWp.cF (by simp [h]; omega) ?_
  refine AWp.skip ?_
  show AWp _ _ _ _
  refine AWp.seq ?_
  refine AWp.g [0, 3] [0] ?_
  simp [hC, hL]
  refine AWp.block (AWp.while (fun i : Nat => [(0, .bs 0 0 l.length cap), (3, .i .i64 (i + 1))]) (fun i => [(0, boxR dotC l pad)]) (fun i => i + 1 ≤ l.length ∧ compN l (i + 1) = l.take (i + 1)) (fun i => l.length - i) [0, 3] [0] 0 (by exact ⟨by omega, by simp [compN, List.getElem?_eq_getElem (show 0 < l.length by omega)]; rw [List.take_succ_eq_append_getElem (show 0 < l.length by omega)]; simp⟩) (by simp [hC, hL]) ?_)
  intro i hi
  refine AWp.seq ?_
  refine AWp.g [0, 3, 13] [0] ?_
  simp [hC, hL]
  by_cases h : i + 1 < l.length
  ·refine AWp.cT (by simp [h]; omega) ?_
   have w1 : IntKind.i64.wrap ((i : Int) + 1) = i + 1 := wrap64 (by omega) (by omega)
   have w0 : IntKind.i64.wrap (i : Int) = i := wrap64 (by omega) (by omega)
   refine AWp.skip ?_
   show AWp _ _ _ _
   refine AWp.seq ?_
   refine AWp.block ?_
   refine AWp.stepD 10 (fun _ => .any) [0, 3, 25] [0] [(0, .bs 0 0 l.length cap), (3, .i .i64 (i + 1)), (25, .b (decide (l[i + 1] = l[i])))] [(0, boxR dotC l pad)] mix (by kernel_rfl) ?_ ?_
   ·simp [w1, w0, hC, hL, dotR_get l pad (i + 1) h, dotR_get l pad i (by omega)]
    refine ⟨by omega, by omega, by omega, by omega, ?_⟩
    by_cases h1 : l[i + 1].1 = l[i].1 <;> by_cases h2 : l[i + 1].2 = l[i].2 <;> simp [h1, h2, Prod.ext_iff]
   by_cases he : l[i + 1] = l[i]
   ·refine AWp.cT (by simp [he]) ?_
    have hc0 : compN l (i + 2) = l.take (i + 1) := by rw [compN_eq l i (i + 1) rfl h he, hi.2]
    refine AWp.step [0, 3, 4] [0] [(0, .bs 0 0 l.length cap), (3, .i .i64 (i + 1)), (4, .bs 0 ((i + 1) * 2) (l.length - (i + 1)) (cap - (i + 1)))] [(0, boxR dotC l pad)] ?_ ?_
    ·simp [w1, w0, hC, hL]
     omega
    refine AWp.seq ?_
    refine AWp.g [0, 3, 4, 5] [0] ?_
    simp [hC, hL]
    refine AWp.block (AWp.while (fun p : Nat × List Dot => [(0, .bs 0 0 l.length cap), (3, .i .i64 (compN l (i + 2 + p.1)).length), (4, .bs 0 ((i + 1) * 2) (l.length - (i + 1)) (cap - (i + 1))), (5, .i .i64 (p.1 + 1))]) (fun p => [(0, boxR dotC p.2 pad)]) (fun p => p.2.length = l.length ∧ i + 2 + p.1 ≤ l.length ∧ (compN l (i + 2 + p.1)).length ≤ i + 1 + p.1 ∧ p.2.take (compN l (i + 2 + p.1)).length = compN l (i + 2 + p.1) ∧ ∀ k, i + 1 + p.1 ≤ k → p.2[k]? = l[k]?) (fun p => l.length - p.1) [0, 3, 4, 5] [0] (0, l) (by exact ⟨rfl, by dsimp only; omega, by simp [hc0]; omega, by simp [hc0], fun _ _ => rfl⟩) (by simp [hc0, hC]; omega) ?_)
    rintro ⟨j, c⟩ ⟨hcl, hj2, hk3, hj3, hj4⟩
    dsimp only at hcl hj2 hk3 hj3 hj4
    try dsimp only
    refine AWp.seq ?_
    refine AWp.g [0, 3, 4, 5, 32] [0] ?_
    simp [hC, hL]
    by_cases h3 : i + 2 + j < l.length
    ·refine AWp.cT (by simp [h3]; omega) ?_
     have v1 : IntKind.i64.wrap ((j : Int) + 1) = j + 1 := wrap64 (by omega) (by omega)
     have v0 : IntKind.i64.wrap (j : Int) = j := wrap64 (by omega) (by omega)
     have v2 : IntKind.i64.wrap ((j : Int) + 1 + 1) = j + 1 + 1 := wrap64 (by omega) (by omega)
     have hle := compN_le l (i + 2 + j)
     have v3 : IntKind.i64.wrap (((compN l (i + 2 + j)).length : Int) + 1) = (compN l (i + 2 + j)).length + 1 := wrap64 (by omega) (by omega)
     have q1 : c[i + 2 + j]'(by omega) = l[i + 2 + j] := by have := hj4 (i + 2 + j) (by omega); rw [List.getElem?_eq_getElem (by omega), List.getElem?_eq_getElem (by omega)] at this; exact Option.some.inj this
     have q2 : c[i + 1 + j]'(by omega) = l[i + 1 + j] := by have := hj4 (i + 1 + j) (by omega); rw [List.getElem?_eq_getElem (by omega), List.getElem?_eq_getElem (by omega)] at this; exact Option.some.inj this
     have g1 : ((boxR dotC c pad).drop ((i + 1 + (j + 1)) * 2)).take 2 = [.i .i64 l[i + 2 + j].1, .i .i64 l[i + 2 + j].2] := by rw [← q1, ← dotR_get c pad (i + 2 + j) (by omega)]; congr 3; omega
     have g2 : ((boxR dotC c pad).drop ((i + 1 + j) * 2)).take 2 = [.i .i64 l[i + 1 + j].1, .i .i64 l[i + 1 + j].2] := by rw [← q2, ← dotR_get c pad (i + 1 + j) (by omega)]
     refine AWp.skip ?_
     show AWp _ _ _ _
     refine AWp.seq ?_
     refine AWp.block ?_
     refine AWp.stepD 10 (fun _ => .any) [0, 3, 4, 5, 44] [0] [(0, .bs 0 0 l.length cap), (3, .i .i64 (compN l (i + 2 + j)).length), (4, .bs 0 ((i + 1) * 2) (l.length - (i + 1)) (cap - (i + 1))), (5, .i .i64 (j + 1)), (44, .b (!decide (l[i + 2 + j] = l[i + 1 + j])))] [(0, boxR dotC c pad)] mix (by kernel_rfl) ?_ ?_
     ·simp [hC, hL, v1, v0, ← Nat.add_mul, g1, g2]
      refine ⟨by omega, by omega, by omega, by omega, ?_⟩
      by_cases h1 : l[i + 2 + j].1 = l[i + 1 + j].1 <;> by_cases h2 : l[i + 2 + j].2 = l[i + 1 + j].2 <;> simp [h1, h2, Prod.ext_iff]
     by_cases he2 : l[i + 2 + j] = l[i + 1 + j]
     ·refine AWp.cF (by simp [he2]) ?_
      refine AWp.skip ?_
      show AWp _ _ _ _
      refine AWp.gL [0, 3, 4, 5] [0] ?_
      simp [hC, hL]
      have hcn : compN l (i + 2 + j + 1) = compN l (i + 2 + j) := compN_eq l (i + 1 + j) (i + 2 + j) (by omega) h3 he2
      refine ⟨(j + 1, c), ⟨hcl, by dsimp only; omega, ?_, ?_, ?_⟩, by dsimp only; omega, ?_⟩
      ·dsimp only; rw [show i + 2 + (j + 1) = i + 2 + j + 1 by omega, hcn]; omega
      ·dsimp only; rw [show i + 2 + (j + 1) = i + 2 + j + 1 by omega, hcn]; exact hj3
      ·intro k hk
       exact hj4 k (by dsimp only at hk; omega)
      ·simp [hC, v2, show i + 2 + (j + 1) = i + 2 + j + 1 by omega, hcn]
     ·refine AWp.cT (by simp [he2]) ?_
      refine AWp.step [0, 3, 4, 5] [0] [(0, .bs 0 0 l.length cap), (3, .i .i64 (compN l (i + 2 + j)).length), (4, .bs 0 ((i + 1) * 2) (l.length - (i + 1)) (cap - (i + 1))), (5, .i .i64 (j + 1))] [(0, boxR dotC (c.set (compN l (i + 2 + j)).length l[i + 2 + j]) pad)] ?_ ?_
      ·have hs := dotR_set c pad (compN l (i + 2 + j)).length (by omega) l[i + 2 + j]
       simp [hC, hL, v1, v0, ← Nat.add_mul, g1, g2, hs]
       omega
      refine AWp.gL [0, 3, 4, 5] [0] ?_
      simp [hC, hL]
      show AWp _ _ _ _
      refine AWp.gL [0, 3, 4, 5] [0] ?_
      simp [hC, hL]
      have hcn : compN l (i + 2 + j + 1) = compN l (i + 2 + j) ++ [l[i + 2 + j]] := compN_ne l (i + 1 + j) (i + 2 + j) (by omega) h3 he2
      refine ⟨(j + 1, c.set (compN l (i + 2 + j)).length l[i + 2 + j]), ⟨by simpa using hcl, by dsimp only; omega, ?_, ?_, ?_⟩, by dsimp only; omega, ?_⟩
      ·dsimp only; rw [show i + 2 + (j + 1) = i + 2 + j + 1 by omega, hcn]; simp; omega
      ·dsimp only; rw [show i + 2 + (j + 1) = i + 2 + j + 1 by omega, hcn, List.length_append, List.length_singleton, List.take_succ_eq_append_getElem (by simp; omega), List.getElem_set_self, List.take_set_of_le (Nat.le_refl _), hj3]
      ·intro k hk
       dsimp only at hk
       rw [List.getElem?_set_ne (by omega)]
       exact hj4 k (by omega)
      ·simp [hC, v2, v3, show i + 2 + (j + 1) = i + 2 + j + 1 by omega, hcn]
    ·refine AWp.cF (by simp [h3]; omega) ?_
     refine AWp.exit ?_
     show AWp _ _ _ _
     have hjn : i + 2 + j = l.length := by omega
     have hD : compN l (i + 2 + j) = compD l := by rw [hjn]; rfl
     rw [hD] at hj3 hk3
     have hcl2 := boxR_clear dotC_ok c pad (zerosL [.i .i64 0, .i .i64 0] (l.length - (compD l).length)) (compD l).length (by omega) (by rw [zerosL_length, hcl]; rfl)
     rw [hj3] at hcl2
     have hC2 : ∀ l' n, Calm (boxR dotC l' (zerosL [.i .i64 0, .i .i64 0] n ++ pad)) := fun l' n => boxR_calm dotC_ok ((Calm.zeros (fun c hc => by simp at hc; subst hc; rfl) n).append hpad)
     refine AWp.step [0, 3] [0] [(0, .bs 0 0 l.length cap), (3, .i .i64 (compD l).length)] [(0, boxR dotC (compD l) (zerosL [.i .i64 0, .i .i64 0] (l.length - (compD l).length) ++ pad))] ?_ ?_
     ·simp [hC, hL, hD, show ¬ cap = (compD l).length by omega, zerosL_length] at hcl2 ⊢
      simp [hcl2, hC2]
      refine ⟨by omega, by omega, (((hC c).drop _).take _).freeL⟩
     refine AWp.g [2] [0] ?_
     simp [hC2, hC, hL]
     refine ⟨by omega, ?_⟩
     refine AWp.ret ?_
     simp [hC2]
     intro x hx
     simpa using (hC2 _ _).still x hx
   ·refine AWp.cF (by simp [he]) ?_
    refine AWp.skip ?_
    show AWp _ _ _ _
    refine AWp.gL [0, 3] [0] ?_
    simp [hC, hL]
    refine ⟨i + 1, ⟨by omega, ?_⟩, by omega, ?_⟩
    ·rw [compN_ne l i (i + 1) rfl h he, hi.2, ← List.take_succ_eq_append_getElem h]
    ·have w2 : IntKind.i64.wrap ((i : Int) + 1 + 1) = i + 1 + 1 := wrap64 (by omega) (by omega)
     simp [w2, hC]
  ·refine AWp.cF (by simp [h]; omega) ?_
   refine AWp.exit ?_
   show AWp _ _ _ _
   have hcd : compD l = l := by
    have hii : i + 1 = l.length := by omega
    rw [compD, ← hii, hi.2, hii, List.take_length]
   refine AWp.g [2] [0] ?_
   simp [hC, hL]
   refine AWp.ret ?_
   simp [hcd, zerosL, hC]
   intro x hx
   simpa using (hC l).still x hx
 ·refine AWp.cT (by simp [h]; omega) ?_
  omega
theorem compD_le (l : List Dot) : (compD l).length ≤ l.length := compN_le l l.length
theorem dots_data (l : List Dot) : ((dotsAV l).flatten.all fun c => c.data && c.cellOk) = true := by
 rw [List.all_eq_true]
 intro c hc
 obtain ⟨y, hy, hc⟩ := List.mem_flatten.1 hc
 obtain ⟨x, _, rfl⟩ := List.mem_map.1 hy
 simp [dotC] at hc
 rcases hc with rfl | rfl <;> rfl
theorem h_Compact_Dot (l : List Dot) (hl : l.length ≤ 1000000) (h2 : 2 ≤ l.length) : HProc Tryz.prog 207 2 (dotsAV l) [] (dotsAV (compD l)) := by
 refine hproc_box rfl rfl (fun z hz => ?_) (dots_data _) (by simpa using compD_le l) fun cap hcap => ⟨zerosL [.i .i64 0, .i .i64 0] (l.length - (compD l).length) ++ List.replicate ((cap - l.length) * 2) .any, ?_, ?_⟩
 ·obtain ⟨x, _, rfl⟩ := List.mem_map.1 hz; rfl
 ·have h3 := compD_le l
  have h4 := rows_len dotC_ok (compD l)
  have h5 : ((dotsAV (compD l)).flatten).length = (compD l).length * 2 := h4
  simp at hcap
  simp only [List.length_append, zerosL_length, List.length_replicate, h5]
  simp; omega
 ·simp at hcap
  have := c_Compact_Dot l cap hcap hl h2 (List.replicate ((cap - l.length) * 2) .any) (by simp) (Calm.replicate _ rfl)
  simpa [boxR, dotsAV] using this
set_option maxRecDepth 40000 in
theorem c_Len64_0 : Pure Tryz.prog 196 [.i .u64 0] (.i .i64 0) := by
 refine proc_of (cx Tryz.prog 25 [0, 2, 4, 8, 14] [2]) 24 [.tmp 2] Tryz.func196 rfl rfl rfl rfl rfl rfl (Nat.le_refl _) rfl ?_
 refine AWp.g [0, 2] [] ?_
 simp
 refine AWp.seq ?_
 refine AWp.g [0, 2, 4] [] ?_
 simp
 refine AWp.cF (by simp) ?_
 refine AWp.skip ?_
 show AWp _ _ _ _
 refine AWp.seq ?_
 refine AWp.g [0, 2, 8] [] ?_
 simp
 refine AWp.cF (by simp) ?_
 refine AWp.skip ?_
 show AWp _ _ _ _
 refine AWp.seq ?_
 refine AWp.g [0, 2, 14] [] ?_
 simp
 refine AWp.cF (by simp) ?_
 refine AWp.skip ?_
 show AWp _ _ _ _
 refine AWp.g [2] [] ?_
 simp
 refine ⟨by decide, ?_⟩
 refine AWp.ret ?_
 simp
theorem c_Len_0 : Pure Tryz.prog 229 [.i .u64 0] (.i .i64 0) := by
 refine proc_of (cx Tryz.prog 8 [0, 2] [2]) 7 [.tmp 2] Tryz.func229 rfl rfl rfl rfl rfl rfl (Nat.le_refl _) rfl ?_
 refine AWp.g [0] [] ?_
 simp
 refine AWp.seq ?_
 refine AWp.cF (by simp) ?_
 refine AWp.skip ?_
 show AWp _ _ _ _
 refine AWp.g [2] [] ?_
 simp
 refine call_p (c_Len64_0) ?_
 simp
 refine AWp.ret ?_
 simp
theorem c_insertion_0 (g : Nat) : Pure Tryz.prog 240 [.sl .fro 2 [], .i .i64 0, .i .i64 0, .fn g [] []] (.tup []) := by
 refine proc_of (cx Tryz.prog 53 [0, 1, 2, 3, 8, 9, 14, 34] []) 49 [] Tryz.func240 rfl rfl rfl rfl rfl rfl (Nat.le_refl _) rfl ?_
 refine AWp.g [0, 1, 2, 3, 8] [] ?_
 simp
 refine AWp.block (AWp.while (fun i : Nat => [(0, .sl .fro 2 []), (1, .i .i64 0), (2, .i .i64 0), (3, .fn g [] []), (8, .i .i64 1)]) (fun i => []) (fun i => True) (fun i => 0) [0, 1, 2, 3, 8] [] 0 (by simp) (by simp) ?_)
 intro i hi
 refine AWp.seq ?_
 refine AWp.g [0, 1, 2, 3, 8, 14] [] ?_
 simp
 refine AWp.cF (by simp) ?_
 refine AWp.exit ?_
 simp
theorem c_pdq_0 (g : Nat) : Pure Tryz.prog 228 [.sl .fro 2 [], .i .i64 0, .i .i64 0, .i .i64 0, .fn g [] []] (.tup []) := by
 refine proc_of (cx Tryz.prog 148 [0, 1, 2, 3, 4, 10, 11, 12, 13, 14, 15, 16, 17, 18, 19, 20, 25, 32, 39, 56, 75, 80, 97, 125] []) 143 [] Tryz.func228 rfl rfl rfl rfl rfl rfl (Nat.le_refl _) rfl ?_
 refine AWp.g [0, 1, 2, 3, 4, 10] [] ?_
 simp
 refine AWp.g [0, 1, 2, 3, 4, 10, 11] [] ?_
 simp
 refine AWp.block (AWp.while (fun i : Nat => [(0, .sl .fro 2 []), (1, .i .i64 0), (2, .i .i64 0), (3, .i .i64 0), (4, .fn g [] []), (10, .b true), (11, .b true)]) (fun i => []) (fun i => True) (fun i => 0) [0, 1, 2, 3, 4, 10, 11] [] 0 (by simp) (by simp) ?_)
 intro i hi
 refine AWp.block ?_
 refine AWp.g [0, 1, 2, 3, 4, 10, 11, 12] [] ?_
 simp
 refine AWp.seq ?_
 refine AWp.g [0, 1, 2, 3, 4, 10, 11, 12, 25] [] ?_
 simp
 refine AWp.cT (by simp) ?_
 refine AWp.g [] [] ?_
 simp
 refine call_p (c_insertion_0 g) ?_
 simp
 refine AWp.ret ?_
 simp
theorem c_SortFunc_0 (g : Nat) : Pure Tryz.prog 205 [.sl .fro 2 [], .fn g [] []] (.tup []) := by
 refine proc_of (cx Tryz.prog 14 [0, 1, 4] []) 12 [] Tryz.func205 rfl rfl rfl rfl rfl rfl (Nat.le_refl _) rfl ?_
 refine AWp.g [0, 1, 4] [] ?_
 simp
 refine AWp.gL [] [] ?_
 simp
 refine call_p (c_Len_0) ?_
 simp
 refine call_p (c_pdq_0 g) ?_
 simp
 refine kl ?_
 simp
end Go.AM
namespace Go.AM
end Go.AM
namespace Go.AM
open Go.Proofs Go.Shelf Go.RowKit Go.Lib
end Go.AM
namespace Go.AM
def rowsL (sz : Nat) (ls : List (List (List AV))) : List (List AV) := ls.map fun l => [.sl .fro sz l]
@[simp] theorem rowsL_length (sz ls) : (rowsL sz ls).length = ls.length := by simp [rowsL]
@[simp] theorem rowsL_getElem (sz) (ls : List (List (List AV))) (i : Nat) (h : i < (rowsL sz ls).length) : (rowsL sz ls)[i] = [.sl .fro sz (ls[i]'(by simpa using h))] := by simp [rowsL]
def lenTo {α : Type} (ls : List (List α)) (i : Nat) : Nat := (ls.take i).flatten.length
end Go.AM
namespace Go.AM
theorem ren_calm (f : Nat → Option Nat) {x : AV} (hx : x.calm = true) : x.ren f = x := by
 cases x <;> first | rfl | (simp [AV.calm] at hx; done)
@[simp] theorem map_ren_calm {f : Nat → Option Nat} {cs : List AV} (h : Calm cs) : cs.map (AV.ren f) = cs := by
 have : cs.map (AV.ren f) = cs.map id := List.map_congr_left fun c hc => ren_calm f (h c hc)
 rw [this, List.map_id]
end Go.AM
namespace Go.AM
theorem Pure.fro {P : Program} {f : Nat} {args : List AV} {r : AV} (h : Pure P f args r) : Pure P f args (r.tr (fzLeaf (isSlotOf 0)) (.slot 0 [])) := by
 refine ⟨h.1, fun w β ω Pub vs R hω hl hv => ?_⟩
 refine (h.2 w β ω Pub vs R hω hl hv).mono ?_
 rintro e w' ⟨v, E', rfl, rfl, I, hst, ho, hr⟩
 have I2 := I.fz (isSlotOf 0) fun _ => rfl
 refine ⟨v, E'.fz (isSlotOf 0), rfl, rfl, I2, ?_, fun bk q hq => ?_, ?_⟩
 ·show E'.st.fz (isSlotOf 0) = _
  rw [hst]
  rfl
 ·have h' : (E'.fz (isSlotOf 0)).ω bk = some q := hq
  simp only [Env.fz] at h'
  split at h'
  ·rename_i q' hq'
   split at h'
   ·cases h'
   ·cases h'; exact ho bk q hq'
  ·cases h'
 ·exact hr.fz _
end Go.AM
namespace Go.AM
open Go.Proofs
end Go.AM
namespace Go.AM
open Go.Proofs
theorem sortD_length (l : List Dot) : (sortD l).length = l.length := by simp [sortD, List.length_mergeSort]
def ordP (l : List Dot) : List Dot := compD (sortD l)
theorem compD_one (l : List Dot) (h : l.length = 1) : compD l = l := by
 match l, h with
 | [x], _ => simp [compD, compN]
theorem c_Compact_0 (xs : List (List AV)) (h : xs.length < 2) : Pure Tryz.prog 207 [.sl .fro 2 xs] (.sl .fro 2 xs) := by
 refine proc_of (cx Tryz.prog 61 [0, 2, 3, 4, 5, 8, 13, 25, 32, 44] [2]) 60 [.tmp 2] Tryz.func207 rfl rfl rfl rfl rfl rfl (Nat.le_refl _) rfl ?_
 refine AWp.g [0] [] ?_
 simp
 refine AWp.seq ?_
 refine AWp.g [0, 8] [] ?_
 simp
 refine AWp.cT (by simp; omega) ?_
 refine AWp.g [2] [] ?_
 simp
 refine AWp.ret ?_
 simp
set_option maxRecDepth 8000 in
theorem c_dots_Order (l : List Dot) (hlen : l.length ≤ 1000000) : Pure Tryz.prog 181 [.sl .fro 2 (dotsAV l)] (.sl .fro 2 (dotsAV (ordP l))) := by
 refine proc_of (cx Tryz.prog 10 [0, 2, 3] [2]) 9 [.tmp 2] Tryz.func181 rfl rfl rfl rfl rfl rfl (Nat.le_refl _) rfl ?_
 refine AWp.g [0] [] ?_
 simp
 refine AWp.g [3] [] ?_
 simp
 refine call_p (c_Clone_Dot (dotsAV l) (by simp; omega)) ?_
 simp
 refine ?_
 have hs := sortD_length l
 by_cases h0 : l = []
 subst h0
 ·refine AWp.step [3] [] [(3, .sl .own 2 [])] [] ?_ ?_
  ·simp
   refine call_pure (c_SortFunc_0 206) (by simp) ?_
   simp
  refine AWp.go [2] [] fun K hK => ?_
  simp
  refine call_pure (c_Compact_0 [] (by simp)) (by simp) ?_
  simp
  refine hK _ _ ?_
  refine AWp.ret ?_
  simp [ordP, sortD, compD, compN]
 refine AWp.step [3] [] [(3, .sl .own 2 (dotsAV (sortD l)))] [] ?_ ?_
 ·simp
  refine call_lend (l106 l (by omega)) ⟨_, rfl, rfl, rfl⟩ (by simpa [dotsAV] using h0) (by simp) (by simp) ?_
  simp
 by_cases h1 : l.length = 1
 ·refine AWp.go [2] [] fun K hK => ?_
  simp
  refine call_pure (c_Compact_0 (dotsAV (sortD l)) (by simp; omega)) (by simp) ?_
  simp
  refine hK _ _ ?_
  refine AWp.ret ?_
  have : compD (sortD l) = sortD l := compD_one _ (by omega)
  simp [ordP, this]
 refine AWp.g [2] [] ?_
 simp
 refine call_hand (h_Compact_Dot (sortD l) (by omega) (by have := List.length_pos_iff.2 h0; omega)) ⟨_, rfl, rfl, rfl⟩ (by intro h; have := congrArg List.length h; simp [dotsAV] at this; rw [this] at hs; exact h0 (List.eq_nil_of_length_eq_zero hs.symm)) (by simp) ?_
 simp
 refine AWp.frz [2] ?_
 simp
 refine AWp.ret ?_
 simp [ordP]
theorem plainL_len (u : List Int) (h : clockOk u = true) : (plainL (ofL u)).length = u.length ↔ plainL (ofL u) = u := by
 refine ⟨fun hl => ?_, fun hl => by rw [hl]⟩
 have h5 := clockOk_len h
 unfold plainL at hl ⊢
 have e : ofL u = u ++ List.replicate (5 - u.length) 0 := by unfold ofL; rw [if_pos h]
 rw [e, List.length_take, List.length_append, List.length_replicate] at hl
 rw [e]
 have hn : plainN (u ++ List.replicate (5 - u.length) 0) 5 = u.length := by
  have := plainN_le (u ++ List.replicate (5 - u.length) 0) 5
  omega
 rw [hn, List.take_left]
end Go.AM
namespace Go.AM
open Go.Proofs
def setStep (s : Seen) (d : Dot) : Seen :=
 if d.2 ≤ getC s.upto d.1 then s else if d.2 = getC s.upto d.1 + 1 then ⟨setC s.upto d.1 d.2, s.more⟩ else ⟨s.upto, s.more ++ [d]⟩
def setTo (u : List Int) (l : List Dot) (i : Nat) : Seen := ((ordP l).take i).foldl setStep ⟨plainL (ofL u), []⟩
theorem plainL_len5 (f : List Int) : (plainL f).length ≤ 5 := by
 have := plainN_le f 5
 simp [plainL]; omega
theorem ordP_length (l : List Dot) : (ordP l).length ≤ l.length := by
 have := compD_le (sortD l)
 rw [sortD_length] at this
 exact this
def settled (u : List Int) (l : List Dot) : Seen := setTo u l (ordP l).length
def fullE (s : Seen) : Int := if s.more.length ≤ 1000 then 0 else 6
def fullS (s : Seen) : Seen := if s.more.length ≤ 1000 then s else ⟨[], []⟩
end Go.AM
