/- Regions that draw their order: the proof that values put and boxes made may come in any order. No project text. -/
import Derived.Test.YtchlbkmmnmkpmaaDoorAmD
import Derived.Shelf.Small.Strs
import Derived.Sort.Grow
import Derived.Shelf.Strings.Prefix
import Derived.Lib.ItoaNum
import Derived.Shelf.Strings.BuilderF
import Derived.Shelf.Strings.BuilderK
import Derived.Shelf.Strings.OnBuilder
import Derived.Shelf.Strconv.AtoiAll
import Derived.Shelf.Strconv.Itoa3
import Derived.Shelf.Strings.Cut
import Derived.Shelf.Strings.Split
import Derived.KernelRfl
import Derived.Test.YtchlbkmmnmkpmaaDoorProg
import Derived.WalkKit
import Derived.Lib.AtoiErrMem
set_option linter.unusedSimpArgs false
set_option linter.unusedVariables false
namespace Go.AM

theorem qop_mono {T : Nat → Option TI} {st st' : St} {ty : Nat} {op : Op} (h : ∀ x ∈ op.operands, ∀ t, x = .tmp t → st.slots t = st'.slots t) (hb : ∀ id cs, st.boxes id = some cs → st'.boxes id = some cs) (hok : (qop T st ty op).ok) : qop T st' ty op = qop T st ty op := by
  have h1 : qop T st ty op = qop T { st' with boxes := st.boxes } ty op := qop_congr h rfl
  rw [h1] at hok ⊢
  cases op with
  | load t x =>
    simp only [qop] at hok ⊢
    have e : ({ st' with boxes := st.boxes } : St).rd 0 x = st'.rd 0 x := rd_congr (fun _ _ => rfl) 0
    rw [e] at hok ⊢
    unfold qload at hok ⊢
    split
    · rename_i y id off hy hx
      rw [hy, hx] at hok
      simp only at hok ⊢
      cases hc : st.boxes id with
      | none => rw [hc] at hok; exact hok.elim
      | some cs => rw [hb id cs hc]
    · rename_i y g ix cells off hy hx
      rfl
    · rfl
  | makeFunc fn first captured => cases fn <;> rfl
  | slice t x lo hi mx => cases mx <;> cases lo <;> cases hi <;> rfl
  | call c =>
    obtain ⟨callee, args, ts⟩ := c
    cases callee with
    | value f => rfl
    | invoke r m => rfl
    | builtin b => cases b <;> rfl
  | _ => rfl

theorem qop2_mono {C : Cx} {st st' : St} {ty : Nat} {op : Op} (h : ∀ x ∈ op.operands, ∀ t, x = .tmp t → st.slots t = st'.slots t) (hb : ∀ id cs, st.boxes id = some cs → st'.boxes id = some cs) (hok : (qop2 C st ty op).ok) : qop2 C st' ty op = qop2 C st ty op := by
  unfold qop2 at hok ⊢
  split
  · rename_i eq t x y hop
    rw [hop] at hok
    obtain ⟨yt, rfl⟩ := isEql_some hop
    rw [rd_congr (h x (by simp [Op.operands])), rd_congr (h y (by simp [Op.operands]))]
    split
    · rfl
    · rename_i hs
      simp only [hs] at hok
      exact qop_mono h hb hok
  · rename_i hop
    rw [hop] at hok
    exact qop_mono h hb hok

theorem pop_mono {C : Cx} {r : AV} {o : Oper} {st st' : St} (h : ∀ x ∈ o.op.operands, ∀ t, x = .tmp t → st.slots t = st'.slots t) (hb : ∀ id cs, st.boxes id = some cs → st'.boxes id = some cs) (hok : (pop C r o st).ok) : pop C r o st' = pop C r o st := by
  unfold pop at hok ⊢
  split
  · rename_i x ho
    rw [rd_congr (h x (by simp [ho, Op.operands]))]
  · rename_i f args ts ho
    rw [rd_congr (h f (by simp [ho, Op.operands, Call.operands])), rdArgs_congr args.toList ts.toList fun x hx => h x (by simp [ho, Op.operands, Call.operands]; exact .inr (by simpa using hx))]
  · rename_i t len parts ho
    congr 1
    exact List.map_congr_left fun p hp => by
      rw [rd_congr (h p.2 (by rw [ho]; simp only [Op.operands, List.mem_toArray, List.mem_map]; exact ⟨p, by simpa using hp, rfl⟩))]
  · rename_i h1 h2 h3
    simp only at hok ⊢
    cases hn : isNilCmp o.op with
    | some e => rfl
    | none =>
      rw [hn] at hok
      simp only at hok ⊢
      exact qop2_mono h hb hok

theorem popg_mono {C : Cx} {ops : Array Oper} {r : AV} {o : Oper} {st st' : St} (h : ∀ t ∈ o.looksAt ops, st.slots t = st'.slots t) (hb : ∀ id cs, st.boxes id = some cs → st'.boxes id = some cs) (hok : (popg C ops r o st).ok) : popg C ops r o st' = popg C ops r o st := by
  have hp : (pop C r o st).ok → pop C r o st' = pop C r o st := pop_mono (fun x hx t ht => h t (List.mem_append_left _ (List.mem_filterMap.2 ⟨x, by simpa using hx, by rw [ht]⟩))) hb
  unfold popg at hok ⊢
  cases hg : o.guard with
  | none => rw [hg] at hok; exact hp hok
  | some jb =>
    obtain ⟨j, b⟩ := jb
    rw [hg] at hok
    simp only at hok ⊢
    cases hj : (ops[j]?).bind (·.dst) with
    | none => rfl
    | some t =>
      rw [hj] at hok
      simp only at hok ⊢
      have : st.slots t = st'.slots t := h t (List.mem_append_right _ (by simp [hg, hj]))
      rw [← this]
      split
      · rename_i c hc
        rw [hc] at hok
        simp only at hok
        split
        · rename_i hcb
          rw [if_pos hcb] at hok
          exact hp hok
        · rfl
      · rfl
      · rfl

/-- A new box of zeros is made: its cells. -/
def isAl (C : Cx) (o : Oper) : Option (List AV) :=
  match o.op, o.guard with
  | .alloc t, none => (C.T t).map TI.zero
  | _, _ => none
def alQ (C : Cx) (d : Nat) (z : List AV) : Place → Option Place := mkQ (isBoxOf (C.base + d) d) (AV.vwsC (C.base + d) 0 (flatA (.agg z))) (C.tk false (some d))
def alF (C : Cx) (d : Nat) (z : List AV) : Place → Bool := mkF (AV.vwsC (C.base + d) 0 (flatA (.agg z))) (C.tk false (some d))
def alZ (C : Cx) (d : Nat) (z : List AV) : List AV := AV.trC (resLeaf (alF C d z)) (C.base + d) 0 (flatA (.agg z))
def alTr (C : Cx) (d : Nat) (z : List AV) (s : St) : St := (s.settle (alQ C d z) (alF C d z)).killB (C.base + d)
def alOk (C : Cx) (d : Nat) (z : List AV) : Prop := d < C.N ∧ C.base + d < 1000000 ∧ (AV.agg z).hole = false ∧ AV.resOkC (alQ C d z) (alF C d z) (C.base + d) 0 (flatA (.agg z)) = true ∧ AV.noPtrL (C.base + d) (alZ C d z) = true
def keep (C : Cx) (d : Nat) (z : List AV) (s : St) : Prop := alTr C d z s = s
def St.noSlot (d : Nat) (s : St) : St := { s with slots := fun t => if t = d then .any else s.slots t }
/-- The same, but for the slot itself. -/
def keepF (C : Cx) (d : Nat) (z : List AV) (s : St) : Prop := alTr C d z (s.noSlot d) = s.noSlot d

theorem alTr_boxes (C : Cx) (d : Nat) (z : List AV) : ∃ g : Nat → Option (List AV) → Option (List AV), ∀ s id, (alTr C d z s).boxes id = g id (s.boxes id) :=
  ⟨fun id x => ((x.map (AV.trC (fzLeaf (alF C d z)) id 0)).map (AV.trC (takeLeaf (alQ C d z)) id 0)).map (AV.trC (killBLeaf (C.base + d)) id 0), fun _ _ => rfl⟩


/-- An empty literal. -/
def isLit (o : Oper) : Option Nat :=
  match o.op, o.guard with
  | .buildSlice t len parts, none => if len = 0 ∧ parts.size = 0 then some t else none
  | _, _ => none

/-- The slots of empty literals. -/
def litsOf : List Oper → List Nat
  | [] => []
  | o :: l => match o.dst, isLit o with
    | some d, some _ => d :: litsOf l
    | _, _ => litsOf l
theorem mem_litsOf {l : List Oper} {t : Nat} (h : t ∈ litsOf l) : ∃ o ∈ l, o.dst = some t ∧ (isLit o).isSome = true := by
  induction l with
  | nil => simp [litsOf] at h
  | cons o l ih =>
    unfold litsOf at h
    split at h
    · rename_i d x hd hl
      rcases List.mem_cons.1 h with rfl | h
      · exact ⟨o, by simp, hd, by rw [hl]; rfl⟩
      · obtain ⟨o', h1, h2⟩ := ih h
        exact ⟨o', by simp [h1], h2⟩
    · obtain ⟨o', h1, h2⟩ := ih h
      exact ⟨o', by simp [h1], h2⟩

/-- What is appended to one of these literals' slots: the slot. -/
def srcOf (L : List Nat) (o : Oper) : Option Nat :=
  match o.op, o.guard with
  | .call ⟨.builtin .append, args, _⟩, none => match args.toList with
    | [.tmp t, _] => if L.contains t then some t else none
    | _ => none
  | _, _ => none

/-- A row of a slot's own that has nothing, appended to. -/
def qapp (C : Cx) (l : List AV) (ts : List Nat) : QR := match l, ts with
  | [.sl (.vw (.slot _ []) true) sz [], x], [t, t2] => match (C.T t).map TI.kind, (C.T t2).map TI.kind, appendix x with
    | some (.slice e), some (.slice _), some (sz2, ys) => match C.T e with
      | some y => ⟨0 < y.bytes ∧ sz2 = y.size ∧ sz = y.size ∧ ys.length * y.bytes ≤ 140737488355328, .sl .own y.size ys⟩
      | none => .no
    | _, _, _ => .no
  | _, _ => .no
def qappO (C : Cx) (o : Oper) (s : St) : QR := match o.op with
  | .call ⟨.builtin .append, args, ts⟩ => qapp C (rdArgs C s args.toList ts.toList) ts.toList
  | _ => .no

/-- An operation's value. -/
def vA (C : Cx) (ops : Array Oper) (L : List Nat) (r : AV) (o : Oper) (d : Nat) (s : St) : AV := match isAl C o with
  | some _ => .ptr (C.base + d) 0
  | none => match isLit o with
    | some t => .sl .own (szOf C.T t) []
    | none => match srcOf L o with
      | some _ => (qappO C o s).v
      | none => (popg C ops r o s).v

def okA (C : Cx) (ops : Array Oper) (L : List Nat) (r : AV) (o : Oper) (d : Nat) (s : St) : Prop := match isAl C o with
  | some z => alOk C d z ∧ s.boxes (C.base + d) = none
  | none => match isLit o with
    | some t => (qbs C t 0 []).ok ∧ d < C.N ∧ (s.slots d).free = true
    | none => match srcOf L o with
      | some _ => (qappO C o s).ok ∧ d < C.N ∧ (s.slots d).free = true
      | none => (popg C ops r o s).ok ∧ d < C.N ∧ (s.slots d).free = true

def aputsA (C : Cx) (ops : Array Oper) (L : List Nat) (rs : Nat → AV) : Nat → List Oper → St → (St → Prop) → Prop
  | _, [], st, K => K st
  | k, o :: rest, st, K => match o.dst with
    | some d => okA C ops L (rs k) o d st ∧ aputsA C ops L rs (k + 1) rest (st.put d (vA C ops L (rs k) o d st)) K
    | none => False

def canonA (C : Cx) (ops : Array Oper) (L : List Nat) (rs : Nat → AV) (st : St) : Nat → St
  | 0 => st
  | k + 1 => match ops[k]? with
    | some o => match o.dst with
      | some d => (canonA C ops L rs st k).put d (vA C ops L (rs k) o d (canonA C ops L rs st k))
      | none => canonA C ops L rs st k
    | none => canonA C ops L rs st k

def putA (C : Cx) (ops : Array Oper) (L : List Nat) (rs : Nat → AV) (st : St) (k : Nat) : AV :=
  match ops[k]? with
  | some o => match o.dst with
    | some d => vA C ops L (rs k) o d (canonA C ops L rs st k)
    | none => .any
  | none => .any

/-- A literal's slot is taken from by one alone. -/
def srcOk (L : List Nat) (ops : Array Oper) (m : Nat) : Bool := (List.range m).all fun k => match ops[k]? with
  | some o => match srcOf L o with
    | some t => (List.range m).all fun j => j == k || match ops[j]? with
      | some oj => !(oj.looksAt ops).contains t
      | none => true
    | none => true
  | none => true
theorem srcOk_spec {L : List Nat} {ops : Array Oper} {m : Nat} (h : srcOk L ops m = true) {k j t : Nat} {o oj : Oper} (hk : k < m) (hj : j < m) (hjk : j ≠ k) (ho : ops[k]? = some o) (hoj : ops[j]? = some oj) (hs : srcOf L o = some t) : t ∉ oj.looksAt ops := by
  simp only [srcOk, List.all_eq_true, List.mem_range] at h
  have h1 := h k hk
  rw [ho] at h1
  simp only [hs, List.all_eq_true, List.mem_range] at h1
  have h2 := h1 j hj
  rw [hoj] at h2
  simp only [Bool.or_eq_true, beq_iff_eq, hjk, false_or, Bool.not_eq_true', List.contains_eq_mem, decide_eq_false_iff_not] at h2
  exact h2

/-- What is taken away when one appends to a slot's row. -/
def srcQ (t : Nat) (p : Place) : Option Place := if p = .slot t [] then some .no else none
def tkTr (t : Nat) (s : St) : St := s.take (srcQ t)
theorem tkTr_boxes (t : Nat) : ∃ g : Nat → Option (List AV) → Option (List AV), ∀ s id, (tkTr t s).boxes id = g id (s.boxes id) :=
  ⟨fun id x => x.map (AV.trC (takeLeaf (srcQ t)) id 0), fun _ _ => rfl⟩
def keepT (t : Nat) (s : St) : Prop := tkTr t (s.noSlot t) = s.noSlot t
def tks (L : List Nat) : List Oper → St → Prop
  | [], _ => True
  | o :: l, s => (match srcOf L o with
    | some t => keepT t s
    | none => True) ∧ tks L l s
theorem tks_get {L : List Nat} {s : St} {l : List Oper} (h : tks L l s) {o : Oper} {t : Nat} (hm : o ∈ l) (hz : srcOf L o = some t) : keepT t s := by
  induction l with
  | nil => cases hm
  | cons x l ih =>
    rcases List.mem_cons.1 hm with rfl | hm
    · have := h.1
      rw [hz] at this
      exact this
    · exact ih h.2 hm
/-- The slots that are taken from. -/
def srcs (L : List Nat) : List Oper → List Nat
  | [] => []
  | o :: l => match srcOf L o with
    | some t => t :: srcs L l
    | none => srcs L l
theorem mem_srcs {L : List Nat} {l : List Oper} {t : Nat} : t ∈ srcs L l ↔ ∃ o ∈ l, srcOf L o = some t := by
  induction l with
  | nil => simp [srcs]
  | cons o l ih =>
    unfold srcs
    cases hs : srcOf L o with
    | none => simp [ih, hs]
    | some x => simp [ih, hs, eq_comm]
def St.noSlots (ts : List Nat) (s : St) : St := { s with slots := fun t => if ts.contains t then .any else s.slots t }

/-- The boxes that operations make. -/
def newsA (C : Cx) : List Oper → Boxes
  | [] => []
  | o :: l => match o.dst, isAl C o with
    | some d, some z => (C.base + d, alZ C d z) :: newsA C l
    | _, _ => newsA C l
def keeps (C : Cx) : List Oper → St → Prop
  | [], _ => True
  | o :: l, s => (match o.dst, isAl C o with
    | some d, some z => keep C d z s
    | _, _ => True) ∧ keeps C l s

def keepsF (C : Cx) : List Oper → St → Prop
  | [], _ => True
  | o :: l, s => (match o.dst, isAl C o with
    | some d, some z => keepF C d z s
    | _, _ => True) ∧ keepsF C l s
theorem keepsF_get {C : Cx} {s : St} {l : List Oper} (h : keepsF C l s) {o : Oper} {d : Nat} {z : List AV} (hm : o ∈ l) (hd : o.dst = some d) (hz : isAl C o = some z) : keepF C d z s := by
  induction l with
  | nil => cases hm
  | cons x l ih =>
    rcases List.mem_cons.1 hm with rfl | hm
    · have := h.1
      rw [hd, hz] at this
      exact this
    · exact ih h.2 hm

theorem keeps_get {C : Cx} {s : St} {l : List Oper} (h : keeps C l s) {o : Oper} {d : Nat} {z : List AV} (hm : o ∈ l) (hd : o.dst = some d) (hz : isAl C o = some z) : keep C d z s := by
  induction l with
  | nil => cases hm
  | cons x l ih =>
    rcases List.mem_cons.1 hm with rfl | hm
    · have := h.1
      rw [hd, hz] at this
      exact this
    · exact ih h.2 hm

theorem newsA_get {C : Cx} {l : List Oper} {id : Nat} {cs : List AV} (h : (newsA C l).lookup id = some cs) : ∃ o ∈ l, ∃ d z, o.dst = some d ∧ isAl C o = some z ∧ id = C.base + d ∧ cs = alZ C d z := by
  induction l with
  | nil => simp [newsA] at h
  | cons o l ih =>
    have tail : (newsA C l).lookup id = some cs → ∃ o' ∈ o :: l, ∃ d z, o'.dst = some d ∧ isAl C o' = some z ∧ id = C.base + d ∧ cs = alZ C d z := fun h => by
      obtain ⟨o', hm, r⟩ := ih h
      exact ⟨o', by simp [hm], r⟩
    unfold newsA at h
    split at h
    · rename_i d z hd hz
      rw [List.lookup_cons] at h
      by_cases hid : id = C.base + d
      · subst hid
        simp at h
        exact ⟨o, by simp, d, z, hd, hz, rfl, h.symm⟩
      · have : (id == C.base + d) = false := by simpa using hid
        rw [this] at h
        exact tail h
    · exact tail h

theorem newsA_mem {C : Cx} {l : List Oper} {o : Oper} {d : Nat} {z : List AV} (hm : o ∈ l) (hd : o.dst = some d) (hz : isAl C o = some z) : ((newsA C l).lookup (C.base + d)).isSome = true := by
  induction l with
  | nil => cases hm
  | cons x l ih =>
    unfold newsA
    rcases List.mem_cons.1 hm with rfl | hm
    · rw [hd, hz]
      simp [List.lookup_cons]
    · have ih := ih hm
      split
      · rw [List.lookup_cons]
        split
        · rfl
        · exact ih
      · exact ih

section
variable {C : Cx} {L : List Nat} {ops : Array Oper} {rs : Nat → AV} {st : St} {m : Nat}

/-- A slot's row has been taken. -/
def Gone (L : List Nat) (ops : Array Oper) (m : Nat) (D : Nat → Prop) (t : Nat) : Prop := ∃ c o, c < m ∧ D c ∧ ops[c]? = some o ∧ srcOf L o = some t

/-- A state in which certain operations have put their values, and made their boxes. -/
structure IsA (C : Cx) (L : List Nat) (ops : Array Oper) (rs : Nat → AV) (st : St) (m : Nat) (D : Nat → Prop) (s : St) : Prop where
  put : ∀ j t, j < m → D j → dstOf ops j = some t → ¬ Gone L ops m D t → s.slots t = putA C ops L rs st j
  gone : ∀ t, Gone L ops m D t → s.slots t = .any
  old : ∀ t, (∀ j, j < m → D j → dstOf ops j ≠ some t) → ¬ Gone L ops m D t → s.slots t = st.slots t
  newb : ∀ j o d z, j < m → D j → ops[j]? = some o → o.dst = some d → isAl C o = some z → s.boxes (C.base + d) = some (alZ C d z)
  oldb : ∀ id, (∀ j o d z, j < m → D j → ops[j]? = some o → o.dst = some d → isAl C o = some z → id ≠ C.base + d) → s.boxes id = st.boxes id

theorem isA_unique {D : Nat → Prop} {s s' : St} (h : IsA C L ops rs st m D s) (h' : IsA C L ops rs st m D s') : s = s' := by
  refine St.ext' (fun t => ?_) (fun id => ?_)
  · by_cases hg : Gone L ops m D t
    · rw [h.gone t hg, h'.gone t hg]
    by_cases ht : ∃ j, j < m ∧ D j ∧ dstOf ops j = some t
    · obtain ⟨j, hj, hD, hjt⟩ := ht
      rw [h.put j t hj hD hjt hg, h'.put j t hj hD hjt hg]
    · have : ∀ j, j < m → D j → dstOf ops j ≠ some t := fun j hj hD he => ht ⟨j, hj, hD, he⟩
      rw [h.old t this hg, h'.old t this hg]
  · by_cases hb : ∃ j o d z, j < m ∧ D j ∧ ops[j]? = some o ∧ o.dst = some d ∧ isAl C o = some z ∧ id = C.base + d
    · obtain ⟨j, o, d, z, h1, h2, h3, h4, h5, rfl⟩ := hb
      rw [h.newb j o d z h1 h2 h3 h4 h5, h'.newb j o d z h1 h2 h3 h4 h5]
    · have : ∀ j o d z, j < m → D j → ops[j]? = some o → o.dst = some d → isAl C o = some z → id ≠ C.base + d := fun j o d z h1 h2 h3 h4 h5 e => hb ⟨j, o, d, z, h1, h2, h3, h4, h5, e⟩
      rw [h.oldb id this, h'.oldb id this]

theorem gone_congr {D D' : Nat → Prop} (hD : ∀ j, j < m → (D j ↔ D' j)) (t : Nat) : Gone L ops m D t ↔ Gone L ops m D' t :=
  ⟨fun ⟨c, o, h1, h2, h3⟩ => ⟨c, o, h1, (hD c h1).1 h2, h3⟩, fun ⟨c, o, h1, h2, h3⟩ => ⟨c, o, h1, (hD c h1).2 h2, h3⟩⟩

theorem isA_congr {D D' : Nat → Prop} {s : St} (h : IsA C L ops rs st m D s) (hD : ∀ j, j < m → (D j ↔ D' j)) : IsA C L ops rs st m D' s :=
  ⟨fun j t hj hd he hg => h.put j t hj ((hD j hj).2 hd) he fun g => hg ((gone_congr hD t).1 g), fun t hg => h.gone t ((gone_congr hD t).2 hg), fun t ht hg => h.old t (fun j hj hd => ht j hj ((hD j hj).1 hd)) fun g => hg ((gone_congr hD t).1 g),
   fun j o d z hj hd => h.newb j o d z hj ((hD j hj).2 hd), fun id hi => h.oldb id fun j o d z hj hd => hi j o d z hj ((hD j hj).1 hd)⟩

/-- One more has put its value; it may have taken a literal's row. -/
theorem isA_put {D : Nat → Prop} {s : St} (h : IsA C L ops rs st m D s) {k d : Nat} {o : Oper} (hk : k < m) (ho : ops[k]? = some o) (hd : o.dst = some d) (hal : isAl C o = none) (hne : ∀ j, j < m → j ≠ k → dstOf ops j ≠ some d) (hgd : ∀ c o', c < m → ops[c]? = some o' → srcOf L o' = some d → ¬ (D c ∨ c = k)) {s0 : St}
    (hs0 : (s0 = s ∧ srcOf L o = none) ∨ ∃ t, srcOf L o = some t ∧ s0 = s.put t .any) :
    IsA C L ops rs st m (fun j => D j ∨ j = k) (s0.put d (putA C ops L rs st k)) := by
  have hdk : dstOf ops k = some d := by simp [dstOf, ho, hd]
  have hb : s0.boxes = s.boxes := by rcases hs0 with ⟨rfl, _⟩ | ⟨t, _, rfl⟩ <;> rfl
  have gsub : ∀ t, Gone L ops m D t → Gone L ops m (fun j => D j ∨ j = k) t := fun t ⟨c, o', h1, h2, h3⟩ => ⟨c, o', h1, .inl h2, h3⟩
  have hgone : ∀ t, Gone L ops m (fun j => D j ∨ j = k) t → t ≠ d := fun t ⟨c, o', h1, h2, h3, h4⟩ e => by subst e; exact hgd c o' h1 h3 h4 h2
  have gcase : ∀ t, Gone L ops m (fun j => D j ∨ j = k) t → Gone L ops m D t ∨ srcOf L o = some t := fun t ⟨c, o', h1, h2, h3, h4⟩ => by
    rcases h2 with h2 | rfl
    · exact .inl ⟨c, o', h1, h2, h3, h4⟩
    · rw [ho] at h3; cases h3; exact .inr h4
  have s0at : ∀ t, ¬ Gone L ops m (fun j => D j ∨ j = k) t → s0.slots t = s.slots t := fun t hg => by
    rcases hs0 with ⟨rfl, _⟩ | ⟨x, hx, rfl⟩
    · rfl
    · show (if t = x then _ else s.slots t) = _
      rw [if_neg fun e => hg ⟨k, o, hk, .inr rfl, ho, by rw [e]; exact hx⟩]
  refine ⟨fun j t hj hD hjt hg => ?_, fun t hg => ?_, fun t ht hg => ?_, fun j o' d' z hj hD ho' hd' hz => ?_, fun id hi => ?_⟩
  · show (if t = d then _ else s0.slots t) = _
    by_cases htd : t = d
    · subst htd
      have : j = k := Classical.byContradiction fun hjk => hne j hj hjk hjt
      subst this
      rw [if_pos rfl]
    · rw [if_neg htd, s0at t hg]
      rcases hD with hD | rfl
      · exact h.put j t hj hD hjt fun g => hg (gsub t g)
      · rw [hjt] at hdk; exact absurd (Option.some.inj hdk) htd
  · show (if t = d then _ else s0.slots t) = _
    rw [if_neg (hgone t hg)]
    rcases hs0 with ⟨rfl, hn⟩ | ⟨x, hx, rfl⟩
    · rcases gcase t hg with g | g
      · exact h.gone t g
      · rw [hn] at g; cases g
    · show (if t = x then _ else s.slots t) = _
      by_cases htx : t = x
      · rw [if_pos htx]
      · rw [if_neg htx]
        rcases gcase t hg with g | g
        · exact h.gone t g
        · rw [hx] at g; exact absurd (Option.some.inj g).symm htx
  · show (if t = d then _ else s0.slots t) = _
    have htd : t ≠ d := fun e => ht k hk (.inr rfl) (by rw [e]; exact hdk)
    rw [if_neg htd, s0at t hg]
    exact h.old t (fun j hj hD => ht j hj (.inl hD)) fun g => hg (gsub t g)
  · show s0.boxes _ = _
    rw [hb]
    rcases hD with hD | rfl
    · exact h.newb j o' d' z hj hD ho' hd' hz
    · rw [ho] at ho'; cases ho'
      rw [hal] at hz; cases hz
  · show s0.boxes _ = _
    rw [hb]
    exact h.oldb id fun j o' d' z hj hD => hi j o' d' z hj (.inl hD)

/-- One more has made its box. -/
theorem isA_box {D : Nat → Prop} {s : St} (h : IsA C L ops rs st m D s) {k d : Nat} {o : Oper} {z : List AV} (hk : k < m) (ho : ops[k]? = some o) (hd : o.dst = some d) (hal : isAl C o = some z) (hsrc : srcOf L o = none) (hne : ∀ j, j < m → j ≠ k → dstOf ops j ≠ some d) (hgd : ∀ c o', c < m → ops[c]? = some o' → srcOf L o' = some d → ¬ (D c ∨ c = k)) :
    IsA C L ops rs st m (fun j => D j ∨ j = k) ((s.setBox (C.base + d) (some (alZ C d z))).put d (.ptr (C.base + d) 0)) := by
  have hdk : dstOf ops k = some d := by simp [dstOf, ho, hd]
  have hpk : putA C ops L rs st k = .ptr (C.base + d) 0 := by simp [putA, ho, hd, vA, hal]
  have geq : ∀ t, Gone L ops m (fun j => D j ∨ j = k) t → Gone L ops m D t := fun t ⟨c, o', h1, h2, h3, h4⟩ => by
    rcases h2 with h2 | rfl
    · exact ⟨c, o', h1, h2, h3, h4⟩
    · rw [ho] at h3; cases h3; rw [hsrc] at h4; cases h4
  have gsub : ∀ t, Gone L ops m D t → Gone L ops m (fun j => D j ∨ j = k) t := fun t ⟨c, o', h1, h2, h3⟩ => ⟨c, o', h1, .inl h2, h3⟩
  refine ⟨fun j t hj hD hjt hg => ?_, fun t hg => ?_, fun t ht hg => ?_, fun j o' d' z' hj hD ho' hd' hz => ?_, fun id hi => ?_⟩
  · show (if t = d then _ else s.slots t) = _
    by_cases htd : t = d
    · subst htd
      have : j = k := Classical.byContradiction fun hjk => hne j hj hjk hjt
      subst this
      rw [if_pos rfl, hpk]
    · rw [if_neg htd]
      rcases hD with hD | rfl
      · exact h.put j t hj hD hjt fun g => hg (gsub t g)
      · rw [hjt] at hdk; exact absurd (Option.some.inj hdk) htd
  · show (if t = d then _ else s.slots t) = _
    have htd : t ≠ d := fun e => by
      obtain ⟨c, o', h1, h2, h3, h4⟩ := hg
      subst e
      exact hgd c o' h1 h3 h4 h2
    rw [if_neg htd]
    exact h.gone t (geq t hg)
  · show (if t = d then _ else s.slots t) = _
    have htd : t ≠ d := fun e => ht k hk (.inr rfl) (by rw [e]; exact hdk)
    rw [if_neg htd]
    exact h.old t (fun j hj hD => ht j hj (.inl hD)) fun g => hg (gsub t g)
  · show (if C.base + d' = C.base + d then _ else s.boxes (C.base + d')) = _
    by_cases hjk : j = k
    · subst hjk
      rw [ho] at ho'; cases ho'
      rw [hd] at hd'; cases hd'
      rw [hal] at hz; cases hz
      rw [if_pos rfl]
    · have hdd : d' ≠ d := fun e => hne j hj hjk (by subst e; simp [dstOf, ho', hd'])
      have hbd : C.base + d' ≠ C.base + d := fun e => hdd (Nat.add_left_cancel e)
      rw [if_neg hbd]
      exact h.newb j o' d' z' hj (hD.resolve_right hjk) ho' hd' hz
  · have hidk := hi k o d z hk (.inr rfl) ho hd hal
    show (if id = C.base + d then _ else s.boxes id) = _
    rw [if_neg hidk]
    exact h.oldb id fun j o' d' z' hj hD => hi j o' d' z' hj (.inl hD)

/-- The slots of the text's order. -/
theorem canonA_slots (hdst : ∀ k, k < m → ∃ o d, ops[k]? = some o ∧ o.dst = some d) (hne : ∀ j k d, j < m → k < m → j ≠ k → dstOf ops k = some d → dstOf ops j ≠ some d) :
    ∀ k, k ≤ m → (canonA C ops L rs st k).boxes = st.boxes ∧ (∀ j t, j < k → dstOf ops j = some t → (canonA C ops L rs st k).slots t = putA C ops L rs st j) ∧ ∀ t, (∀ j, j < k → dstOf ops j ≠ some t) → (canonA C ops L rs st k).slots t = st.slots t
  | 0, _ => ⟨rfl, fun j t h => absurd h (by omega), fun t _ => rfl⟩
  | k + 1, hk => by
    obtain ⟨o, d, ho, hd⟩ := hdst k (by omega)
    have hdk : dstOf ops k = some d := by simp [dstOf, ho, hd]
    obtain ⟨h1, h2, h3⟩ := canonA_slots hdst hne k (by omega)
    have e : canonA C ops L rs st (k + 1) = (canonA C ops L rs st k).put d (putA C ops L rs st k) := by simp [canonA, putA, ho, hd]
    rw [e]
    refine ⟨h1, fun j t hj hjt => ?_, fun t ht => ?_⟩
    · show (if t = d then _ else (canonA C ops L rs st k).slots t) = _
      by_cases htd : t = d
      · subst htd
        have : j = k := Classical.byContradiction fun hjk => hne j k t (by omega) (by omega) hjk hdk hjt
        subst this
        rw [if_pos rfl]
      · rw [if_neg htd]
        have : j ≠ k := fun e => by subst e; rw [hjt] at hdk; exact htd (Option.some.inj hdk)
        exact h2 j t (by omega) hjt
    · show (if t = d then _ else (canonA C ops L rs st k).slots t) = _
      have htd : t ≠ d := fun e => ht k (by omega) (by rw [e]; exact hdk)
      rw [if_neg htd]
      exact h3 t fun j hj => ht j (by omega)

/-- A state in which all have put, none has taken. -/
structure AllA (C : Cx) (L : List Nat) (ops : Array Oper) (rs : Nat → AV) (st : St) (m : Nat) (s : St) : Prop where
  put : ∀ j t, j < m → dstOf ops j = some t → s.slots t = putA C ops L rs st j
  newb : ∀ j o d z, j < m → ops[j]? = some o → o.dst = some d → isAl C o = some z → s.boxes (C.base + d) = some (alZ C d z)

theorem any_tr {h : Place → AV → AV} (hl : ∀ p, h p .any = .any) (p : Place) : AV.tr h p .any = .any := by
  rw [AV.tr_leaf rfl, hl]

/-- What stays in the first and in the last state, stays in all between. -/
theorem keep_mix {D : Nat → Prop} {s fin : St} (h : IsA C L ops rs st m D s) (hf : AllA C L ops rs st m fin) {d : Nat} {z : List AV} (hnd : ∀ j, j < m → D j → dstOf ops j ≠ some d) (h1 : keep C d z st) (h2 : keepF C d z fin) : keep C d z s := by
  obtain ⟨gb, hgb⟩ := alTr_boxes C d z
  let g : Nat → AV → AV := fun t x => ((x.tr (fzLeaf (alF C d z)) (.slot t [])).tr (takeLeaf (alQ C d z)) (.slot t [])).tr (killBLeaf (C.base + d)) (.slot t [])
  have hg : ∀ s t, (alTr C d z s).slots t = g t (s.slots t) := fun _ _ => rfl
  have ga : ∀ t, g t .any = .any := fun t => by
    show ((AV.any.tr _ _).tr _ _).tr _ _ = _
    rw [any_tr (fun _ => rfl), any_tr (fun _ => rfl), any_tr (fun _ => rfl)]
  have s1 : ∀ t, g t (st.slots t) = st.slots t := fun t => by rw [← hg]; exact congrFun (congrArg St.slots h1) t
  have s2 : ∀ t, t ≠ d → g t (fin.slots t) = fin.slots t := fun t htd => by
    have h3 := congrFun (congrArg St.slots h2) t
    have e : (fin.noSlot d).slots t = fin.slots t := if_neg htd
    rw [hg, e] at h3
    exact h3
  have b1 : ∀ t, gb t (st.boxes t) = st.boxes t := fun t => by rw [← hgb]; exact congrFun (congrArg St.boxes h1) t
  have b2 : ∀ t, gb t (fin.boxes t) = fin.boxes t := fun t => by
    have h3 := congrFun (congrArg St.boxes h2) t
    rw [hgb] at h3
    exact h3
  refine St.ext' (fun t => ?_) (fun id => ?_)
  · rw [hg]
    by_cases hgn : Gone L ops m D t
    · rw [h.gone t hgn]; exact ga t
    by_cases ht : ∃ j, j < m ∧ D j ∧ dstOf ops j = some t
    · obtain ⟨j, hj, hD, hjt⟩ := ht
      rw [h.put j t hj hD hjt hgn, ← hf.put j t hj hjt]
      exact s2 t fun e => hnd j hj hD (by rw [← e]; exact hjt)
    · rw [h.old t (fun j hj hD he => ht ⟨j, hj, hD, he⟩) hgn]
      exact s1 t
  · rw [hgb]
    by_cases hb : ∃ j o d z, j < m ∧ D j ∧ ops[j]? = some o ∧ o.dst = some d ∧ isAl C o = some z ∧ id = C.base + d
    · obtain ⟨j, o, d', z', g1, g2, g3, g4, g5, rfl⟩ := hb
      rw [h.newb j o d' z' g1 g2 g3 g4 g5, ← hf.newb j o d' z' g1 g3 g4 g5]
      exact b2 _
    · rw [h.oldb id fun j o d' z' g1 g2 g3 g4 g5 e => hb ⟨j, o, d', z', g1, g2, g3, g4, g5, e⟩]
      exact b1 _

/-- The same, where a literal's row is taken. -/
theorem take_mix {D : Nat → Prop} {s fin : St} (h : IsA C L ops rs st m D s) (hf : AllA C L ops rs st m fin) {x sz : Nat} (hx : s.slots x = .sl .own sz []) (h1 : keepT x st) (h2 : keepT x fin) : s.take (srcQ x) = s.put x .any := by
  obtain ⟨gb, hgb⟩ := tkTr_boxes x
  let g : Nat → AV → AV := fun t y => y.tr (takeLeaf (srcQ x)) (.slot t [])
  have hg : ∀ s t, (tkTr x s).slots t = g t (s.slots t) := fun _ _ => rfl
  have ga : ∀ t, g t .any = .any := fun t => any_tr (fun _ => rfl) _
  have s1 : ∀ t, t ≠ x → g t (st.slots t) = st.slots t := fun t htx => by
    have h3 := congrFun (congrArg St.slots h1) t
    have e : (st.noSlot x).slots t = st.slots t := if_neg htx
    rw [hg, e] at h3
    exact h3
  have s2 : ∀ t, t ≠ x → g t (fin.slots t) = fin.slots t := fun t htx => by
    have h3 := congrFun (congrArg St.slots h2) t
    have e : (fin.noSlot x).slots t = fin.slots t := if_neg htx
    rw [hg, e] at h3
    exact h3
  have b1 : ∀ t, gb t (st.boxes t) = st.boxes t := fun t => by
    have h3 := congrFun (congrArg St.boxes h1) t
    rw [hgb] at h3
    exact h3
  have b2 : ∀ t, gb t (fin.boxes t) = fin.boxes t := fun t => by
    have h3 := congrFun (congrArg St.boxes h2) t
    rw [hgb] at h3
    exact h3
  show tkTr x s = _
  refine St.ext' (fun t => ?_) (fun id => ?_)
  · rw [hg]
    show _ = if t = x then _ else s.slots t
    by_cases htx : t = x
    · subst htx
      rw [if_pos rfl, hx]
      show AV.tr _ _ _ = _
      rw [AV.tr_leaf rfl]
      simp [takeLeaf, srcQ]
    rw [if_neg htx]
    by_cases hgn : Gone L ops m D t
    · rw [h.gone t hgn]; exact ga t
    by_cases ht : ∃ j, j < m ∧ D j ∧ dstOf ops j = some t
    · obtain ⟨j, hj, hD, hjt⟩ := ht
      rw [h.put j t hj hD hjt hgn, ← hf.put j t hj hjt]
      exact s2 t htx
    · rw [h.old t (fun j hj hD he => ht ⟨j, hj, hD, he⟩) hgn]
      exact s1 t htx
  · rw [hgb]
    show _ = s.boxes id
    by_cases hb : ∃ j o d z, j < m ∧ D j ∧ ops[j]? = some o ∧ o.dst = some d ∧ isAl C o = some z ∧ id = C.base + d
    · obtain ⟨j, o, d', z', g1, g2, g3, g4, g5, rfl⟩ := hb
      rw [h.newb j o d' z' g1 g2 g3 g4 g5, ← hf.newb j o d' z' g1 g3 g4 g5]
      exact b2 _
    · rw [h.oldb id fun j o d' z' g1 g2 g3 g4 g5 e => hb ⟨j, o, d', z', g1, g2, g3, g4, g5, e⟩]
      exact b1 _
end

section
variable {C : Cx} {L : List Nat} {S : Start} {ops : Array Oper} {R : Exit → Act → World → Prop} {m : Nat}

/-- Behind the first m operations there is but one order. -/
theorem draw_tailA (D : DrawA ops m) (hbase : S.k ≤ C.base) {K : St → Prop} (hR : ∀ E a, Inv C.N S E → a.tmps = E.tm → a.defers = [] → K E.st → R .normal a E.w) :
    ∀ (fuel k : Nat) (listed : Array Bool) (E : Env) (a : Act), k ≤ ops.size → ops.size ≤ k + fuel → m ≤ k → listed.size = ops.size → (∀ j, j < ops.size → listed.getD j true = decide (j < k)) → Inv C.N S E → a.tmps = E.tm → a.defers = [] →
      aops C ops (ops.toList.drop k) E.st K → wpAny C.P .any ops R fuel listed a E.w := by
  intro fuel
  have fin : ∀ (fuel k : Nat) (listed : Array Bool) (E : Env) (a : Act), k = ops.size → (∀ j, j < ops.size → listed.getD j true = decide (j < k)) → Inv C.N S E → a.tmps = E.tm → a.defers = [] → aops C ops (ops.toList.drop k) E.st K → wpAny C.P .any ops R fuel listed a E.w := by
    intro fuel k listed E a hk hl I ha hd h
    subst hk
    refine wpAny_done ?_ ?_ fuel
    · apply List.eq_nil_iff_forall_not_mem.2
      intro j hj
      obtain ⟨h1, o, ho, _⟩ := mem_ready.1 hj
      have hlt := (Array.getElem?_eq_some_iff.1 ho).1
      rw [hl j hlt] at h1
      simp [hlt] at h1
    · rw [List.drop_eq_nil_of_le (by simp)] at h
      exact hR E a I ha hd h
  induction fuel with
  | zero =>
    intro k listed E a hk hk2 hm hs hl I ha hd h
    exact fin 0 k listed E a (by omega) hl I ha hd h
  | succ fuel ih =>
    intro k listed E a hk hk2 hm hs hl I ha hd h
    by_cases hke : k = ops.size
    · exact fin _ k listed E a hke hl I ha hd h
    have hlt : k < ops.size := by omega
    have ho : ops[k]? = some ops[k] := Array.getElem?_eq_getElem hlt
    have hgf : ∀ j, j < ops.size → listed.getD j false = decide (j < k) := fun j hj => by
      have h1 := hl j hj
      have hjs : j < listed.size := by omega
      rw [Array.getD_eq_getD_getElem?, Array.getElem?_eq_getElem hjs] at h1 ⊢
      exact h1
    have hcl : ClosedL ops listed := fun i j hi hr => by
      have hio : i < ops.size := by
        cases hr with
        | one ho' _ => exact (Array.getElem?_eq_some_iff.1 ho').1
        | more ho' _ _ => exact (Array.getElem?_eq_some_iff.1 ho').1
      rw [hgf i hio] at hi
      have hij := hr.lt D
      have hi : i < k := by simpa using hi
      rw [hgf j (by omega)]
      simp; omega
    have hkr : k ∈ Region.ready .any ops listed := by
      refine mem_ready.2 ⟨by rw [hl k hlt]; simp, _, ho, fun e he hb => ?_⟩
      have := D.back k _ ho e he hb
      rw [hgf e.on (by omega)]; simpa using this
    refine ⟨fun h0 => by rw [h0] at hkr; simp at hkr, fun i hi => ?_⟩
    have hik : i = k := by
      obtain ⟨h1, o, hoi, h2⟩ := mem_ready.1 hi
      have hil := (Array.getElem?_eq_some_iff.1 hoi).1
      rw [hl i hil] at h1
      have h1 : ¬ i < k := by simpa using h1
      refine Classical.byContradiction fun hne => ?_
      have := ready_reach hcl hi (D.tail i o (by omega) hoi k (by omega))
      rw [hgf k hlt] at this
      simp at this
    subst hik
    have hdrop : ops.toList.drop i = ops[i] :: ops.toList.drop (i + 1) := by
      rw [List.drop_eq_getElem_cons (by simpa using hlt)]; simp
    rw [hdrop] at h
    refine aops_head I hbase ha hd ho h fun E' a' I' ha' hd' h' => ?_
    refine ih (i + 1) _ E' a' (by omega) (by omega) (by omega) (by simpa using hs) (fun j hj => ?_) I' ha' hd' h'
    by_cases hji : i = j
    · subst hji
      rw [Array.getD_eq_getD_getElem?, Array.getElem?_setIfInBounds_self_of_lt (by omega)]
      simp
    · rw [getD_set_ne true hji, hl j hj]
      have : (j < i) ↔ (j < i + 1) := by omega
      simp [this]

/-- A box is made: nothing else turns. -/
theorem al_head {E : Env} (I : Inv C.N S E) (hbase : S.k ≤ C.base) {a : Act} (ha : a.tmps = E.tm) (hd : a.defers = []) {i d : Nat} {o : Oper} {z : List AV} (ho : ops[i]? = some o) (hdst : o.dst = some d) (hal : isAl C o = some z) (hok : alOk C d z) (hk : keep C d z E.st)
    {next : Act → World → Prop} (hnext : ∀ E' a', Inv C.N S E' → a'.tmps = E'.tm → a'.defers = [] → E'.st = (E.st.setBox (C.base + d) (some (alZ C d z))).put d (.ptr (C.base + d) 0) → next a' E'.w) : wpOp C.P ops R i next a E.w := by
  unfold isAl at hal
  split at hal
  · rename_i t hop hg
    obtain ⟨y, hy, rfl⟩ := Option.map_eq_some_iff.1 hal
    unfold wpOp
    simp only [ho]
    have hw : Region.wanted o (yielded ops a.tmps) = true := by simp [Region.wanted, hg]
    rw [if_pos hw]
    refine .inl (wp_alloc (K := fun s => s = (E.st.setBox (C.base + d) (some (alZ C d y.zero))).put d (.ptr (C.base + d) 0)) I hbase ha (fun E' a' I' ha' hd' hK => hnext E' a' I' ha' (hd'.trans hd) hK) hy hdst hop ?_)
    obtain ⟨h1, h2, h3, h4, h5⟩ := hok
    refine ⟨h1, h2, h3, h4, h5, ?_⟩
    show (((alTr C d y.zero E.st).setBox (C.base + d) (some (alZ C d y.zero))).put d (.ptr (C.base + d) 0)) = _
    rw [show alTr C d y.zero E.st = E.st from hk]
  · cases hal

/-- An empty literal. -/
theorem lit_head {E : Env} (I : Inv C.N S E) {a : Act} (ha : a.tmps = E.tm) (hd : a.defers = []) {i d t : Nat} {o : Oper} (ho : ops[i]? = some o) (hdst : o.dst = some d) (hl : isLit o = some t) (hok : (qbs C t 0 []).ok) (hN : d < C.N) (hf : (E.st.slots d).free = true)
    {next : Act → World → Prop} (hnext : ∀ E' a', Inv C.N S E' → a'.tmps = E'.tm → a'.defers = [] → E'.st = E.st.put d (.sl .own (szOf C.T t) []) → next a' E'.w) : wpOp C.P ops R i next a E.w := by
  unfold isLit at hl
  split at hl
  · rename_i t' len parts hop hg
    split at hl
    · rename_i h0
      cases hl
      obtain ⟨rfl, hp⟩ := h0
      have hpe : parts = #[] := Array.eq_empty_of_size_eq_zero hp
      subst hpe
      unfold wpOp
      simp only [ho]
      have hw : Region.wanted o (yielded ops a.tmps) = true := by simp [Region.wanted, hg]
      rw [if_pos hw]
      unfold qbs at hok
      split at hok
      · rename_i e hk
        split at hok
        · rename_i y hy
          split at hok
          · rename_i cs hcs
            obtain ⟨h1, h2, h3, h4, h5, h6, h7⟩ := hok
            have hsz : szOf C.T t = y.size := by
              obtain ⟨yt, hyt, hkt⟩ := Option.map_eq_some_iff.1 hk
              unfold szOf
              rw [hyt]
              simp only
              rw [hkt]
              simp only [hy]
              rfl
            refine .inl (wp_buildSlice (K := fun s => s = E.st.put d (.sl .own (szOf C.T t) [])) (sz := elemSz C.T t) I ha (fun E' a' I' ha' hd' hK => hnext E' a' I' ha' (hd'.trans hd) hK) hdst hop ?_)
            show abuildSlice C E.st d t 0 [] _
            unfold abuildSlice
            rw [hk]
            simp only
            rw [hy]
            simp only
            have hv0 : AV.vwsN (([] : List (Nat × AV)).map (·.2)) = [] := rfl
            rw [hv0]
            simp only [List.isEmpty_nil, settleF]
            have hn : (fun _ => false : Place → Bool) = noF := rfl
            rw [hcs]
            exact ⟨hN, hf, h2, h3, h4, h5, h6, h7, by rw [St.fz_no, hsz]; rfl⟩
          · exact hok.elim
        · exact hok.elim
      · exact hok.elim
    · cases hl
  · cases hl

theorem Leans.take_congr {SP : Place → Prop} {SB : Nat → Prop} {Q Q' : Place → Option Place} (hQ : ∀ q, SP q → (Q q).isSome = (Q' q).isSome) {p : Place} {x : AV} (h : Leans SP SB p x) : x.tr (takeLeaf Q) p = x.tr (takeLeaf Q') p := by
  have lst : ∀ (l : List AV) (k : Nat) (p : Place), (∀ (j : Nat) (c : AV), l[j]? = some c → c.tr (takeLeaf Q) (p.sub (k + j)) = c.tr (takeLeaf Q') (p.sub (k + j))) → AV.trL (takeLeaf Q) p k l = AV.trL (takeLeaf Q') p k l := by
    intro l
    induction l with
    | nil => intros; rfl
    | cons x l ih =>
      intro k p h
      rw [AV.trL, AV.trL, show AV.tr (takeLeaf Q) (p.sub k) x = AV.tr (takeLeaf Q') (p.sub k) x from h 0 x rfl, ih (k + 1) p fun j c hc => by rw [show k + 1 + j = k + (j + 1) by omega]; exact h (j + 1) c (by simpa using hc)]
  have lsn : ∀ (l : List AV), (∀ c ∈ l, c.tr (takeLeaf Q) .no = c.tr (takeLeaf Q') .no) → AV.trN (takeLeaf Q) l = AV.trN (takeLeaf Q') l := by
    intro l
    induction l with
    | nil => intros; rfl
    | cons x l ih =>
      intro h
      rw [AV.trN, AV.trN, h x (by simp), ih fun c hc => h c (by simp [hc])]
  induction h with
  | pt p g ix cells off hq =>
    rw [AV.tr_leaf rfl, AV.tr_leaf rfl]
    cases g <;> first | rfl | skip
    rename_i q ex
    simp only [takeLeaf, hQ q (hq q ex rfl)]
  | sl p g sz xs hq hp =>
    rw [AV.tr_leaf rfl, AV.tr_leaf rfl]
    cases g <;> first | rfl | skip
    · simp only [takeLeaf, hQ p (hp rfl)]
    · rename_i q ex
      simp only [takeLeaf, hQ q (hq q ex rfl)]
  | fn p f fi ca _ _ h1 h2 =>
    rw [AV.tr, AV.tr, lsn fi h1, lsn ca h2]
  | agg p cs _ ih =>
    rw [AV.tr, AV.tr, lst cs 0 p fun j c hc => by rw [Nat.zero_add]; exact ih j c hc]
  | tup p cs _ ih =>
    rw [AV.tr, AV.tr, lst cs 0 p fun j c hc => by rw [Nat.zero_add]; exact ih j c hc]
  | _ => rfl

/-- A free slot is neither viewed nor owns: what is taken is the literal's row alone. -/
theorem take_src {N : Nat} {E : Env} (R : Rel N E) {d t : Nat} (hf : (E.st.slots d).free = true) : E.st.take (appendQ d (.slot t [])) = E.st.take (srcQ t) := by
  have hq : ∀ q sz xs, E.st.abs q = .sl .own sz xs → (fun q => isSlotOf d q = false ∧ ∀ i, q ≠ .box i) q := by
    intro q sz xs h
    cases q with
    | slot t' π =>
      refine ⟨?_, fun i => by simp⟩
      simp only [isSlotOf, beq_eq_false_iff_ne, ne_eq]
      rintro rfl
      exact absurd h (free_noOwn π hf)
    | cell => exact ⟨rfl, fun i => by simp⟩
    | box i => cases h
    | no => cases h
  have hQ : ∀ q, (isSlotOf d q = false ∧ ∀ i, q ≠ .box i) → (appendQ d (.slot t []) q).isSome = (srcQ t q).isSome := by
    rintro q ⟨h1, h2⟩
    cases q with
    | box i => exact absurd rfl (h2 i)
    | slot t' π =>
      simp only [appendQ, srcQ, h1]
      split <;> rfl
    | cell => rfl
    | no => rfl
  refine St.ext' (fun x => ?_) (fun id => ?_)
  · exact (R.leansSlot (SP := fun q => isSlotOf d q = false ∧ ∀ i, q ≠ .box i) hq ⟨rfl, fun i => by simp⟩ x).take_congr hQ
  · show (E.st.boxes id).map (AV.trC (takeLeaf (appendQ d (.slot t []))) id 0) = (E.st.boxes id).map (AV.trC (takeLeaf (srcQ t)) id 0)
    cases hb : E.st.boxes id with
    | none => rfl
    | some cs =>
      show some _ = some _
      congr 1
      have key : ∀ (l : List AV) (k : Nat), (∀ (j : Nat) (c : AV), l[j]? = some c → c.tr (takeLeaf (appendQ d (.slot t []))) (.cell id (k + j)) = c.tr (takeLeaf (srcQ t)) (.cell id (k + j))) → AV.trC (takeLeaf (appendQ d (.slot t []))) id k l = AV.trC (takeLeaf (srcQ t)) id k l := by
        intro l
        induction l with
        | nil => intros; rfl
        | cons x l ih =>
          intro k h
          rw [AV.trC, AV.trC, show AV.tr (takeLeaf (appendQ d (.slot t []))) (.cell id k) x = AV.tr (takeLeaf (srcQ t)) (.cell id k) x from h 0 x rfl, ih (k + 1) fun j c hc => by rw [show k + 1 + j = k + (j + 1) by omega]; exact h (j + 1) c (by simpa using hc)]
      exact key cs 0 fun j c hc => by
        rw [Nat.zero_add]
        exact (R.leansCell (SP := fun q => isSlotOf d q = false ∧ ∀ i, q ≠ .box i) hq ⟨rfl, fun i => by simp⟩ hb hc).take_congr hQ

/-- A literal's row, appended to. -/
theorem app_head {E : Env} (I : Inv C.N S E) {a : Act} (ha : a.tmps = E.tm) (hd : a.defers = []) {i d t sz0 : Nat} {o : Oper} (ho : ops[i]? = some o) (hdst : o.dst = some d) (hs : srcOf L o = some t) (hok : (qappO C o E.st).ok) (hN : d < C.N) (hx : E.st.slots t = .sl .own sz0 []) (hfr : (E.st.slots d).free = true) (htk : E.st.take (srcQ t) = E.st.put t .any)
    {next : Act → World → Prop} (hnext : ∀ E' a', Inv C.N S E' → a'.tmps = E'.tm → a'.defers = [] → E'.st = (E.st.put t .any).put d (qappO C o E.st).v → next a' E'.w) : wpOp C.P ops R i next a E.w := by
  unfold srcOf at hs
  split at hs
  · rename_i args ts hop hg
    split at hs
    · rename_i t' x hargs
      split at hs
      · cases hs
        unfold wpOp
        simp only [ho]
        have hw : Region.wanted o (yielded ops a.tmps) = true := by simp [Region.wanted, hg]
        rw [if_pos hw]
        have hq : qappO C o E.st = qapp C (rdArgs C E.st args.toList ts.toList) ts.toList := by unfold qappO; rw [hop]
        rw [hq] at hok hnext
        have hhead : ∀ u l, rdArgs C E.st args.toList ts.toList = u :: l → u = .sl (.vw (.slot t []) true) sz0 [] := fun u l he => by
          rw [hargs] at he
          have hr : ∀ n, E.st.rd n (.tmp t) = .sl (.vw (.slot t []) true) sz0 [] := fun n => by
            show (E.st.slots t).view (.slot t []) = _
            rw [hx]
            unfold AV.view
            rw [AV.tr_leaf rfl]
            rfl
          cases hts : ts.toList with
          | nil => rw [hts, rdArgs, hr] at he; exact (List.cons.inj he).1.symm
          | cons b l' => rw [hts, rdArgs, hr] at he; exact (List.cons.inj he).1.symm
        generalize hrd : rdArgs C E.st args.toList ts.toList = l1 at hok hnext hhead
        generalize hts : ts.toList = l2 at hok hnext hrd
        unfold qapp at hok hnext
        split at hok
        · rename_i t'' sz x' t1 t2
          have hh := hhead _ _ rfl
          have e2 : sz = sz0 := by injection hh
          subst e2
          simp only at hnext
          split at hok
          · rename_i e e2' sz2 ys hk hk2 hap
            rw [hk, hk2, hap] at hnext
            simp only at hnext
            split at hok
            · rename_i y hy
              rw [hy] at hnext
              simp only at hnext
              obtain ⟨hby, h2, h3, h4⟩ := hok
              subst h2
              refine .inl (wp_append (K := fun s => s = (E.st.put t .any).put d (.sl .own y.size ys)) I ha (fun E' a' I' ha' hd' hK => hnext E' a' I' ha' (hd'.trans hd) hK) hdst hop ?_)
              rw [hts, hrd, hh]
              show aappend C E.st d t1 t2 (.sl (.vw (.slot t []) true) sz []) x' _
              unfold aappend
              rw [hk, hk2, hap]
              simp only
              rw [hy]
              exact ⟨hN, hby, rfl, h3, by simpa using h4, by rw [take_src I.rel hfr, htk, List.nil_append]⟩
            · exact hok.elim
          · exact hok.elim
        · exact hok.elim
      · cases hs
    · cases hs
  · cases hs

theorem srcOf_looks {L : List Nat} {ops : Array Oper} {o : Oper} {t : Nat} (h : srcOf L o = some t) : t ∈ o.looksAt ops := by
  unfold srcOf at h
  split at h
  · rename_i args ts hop hg
    split at h
    · rename_i t' x hargs
      split at h
      · cases h
        refine List.mem_append_left _ (List.mem_filterMap.2 ⟨.tmp t, ?_, rfl⟩)
        rw [hop]
        have : Operand.tmp t ∈ args.toList := by rw [hargs]; simp
        simp [Op.operands, Call.operands]
        simpa using this
      · cases h
    · cases h
  · cases h

theorem srcOf_mem {L : List Nat} {o : Oper} {t : Nat} (h : srcOf L o = some t) : t ∈ L := by
  unfold srcOf at h
  split at h
  · split at h
    · rename_i t' x hargs
      split at h
      · rename_i hany
        cases h
        simpa using hany
      · cases h
    · cases h
  · cases h

theorem isLit_src {L : List Nat} {o : Oper} {t : Nat} (h : isLit o = some t) : srcOf L o = none := by
  unfold isLit at h
  split at h
  · rename_i hop hg
    unfold srcOf
    rw [hop]
  · cases h
theorem isLit_al {C : Cx} {o : Oper} {t : Nat} (h : isLit o = some t) : isAl C o = none := by
  unfold isLit at h
  split at h
  · rename_i hop hg
    unfold isAl
    rw [hop]
  · cases h
theorem isAl_src {C : Cx} {L : List Nat} {o : Oper} {z : List AV} (h : isAl C o = some z) : srcOf L o = none := by
  unfold isAl at h
  split at h
  · rename_i hop hg
    unfold srcOf
    rw [hop]
  · cases h
theorem qappO_congr {C : Cx} {ops : Array Oper} {o : Oper} {s s' : St} (h : ∀ t ∈ o.looksAt ops, s.slots t = s'.slots t) : qappO C o s = qappO C o s' := by
  unfold qappO
  split
  · rename_i args ts hop
    rw [rdArgs_congr args.toList ts.toList fun x hx t ht => h t (List.mem_append_left _ (List.mem_filterMap.2 ⟨x, by rw [hop]; simp [Op.operands, Call.operands]; simpa using hx, by rw [ht]⟩))]
  · rfl

/-- The first m operations put their values, and make their boxes, in any order. -/
theorem draw_putsA (D : DrawA ops m) (hbase : S.k ≤ C.base) {rs : Nat → AV} {st : St} {K : St → Prop} (hR : ∀ E a, Inv C.N S E → a.tmps = E.tm → a.defers = [] → K E.st → R .normal a E.w)
    (hcan : ∀ j, j < m → ∃ o d, ops[j]? = some o ∧ o.dst = some d ∧ okA C ops L (rs j) o d (canonA C ops L rs st j)) {fin finU : St} (hfinA : IsA C L ops rs st m (fun _ => True) fin) (hU : AllA C L ops rs st m finU) (hso : srcOk L ops m = true) (hL : ∀ t ∈ L, ∃ j oj tj, j < m ∧ ops[j]? = some oj ∧ oj.dst = some t ∧ isLit oj = some tj)
    (hk1 : ∀ j o d z, j < m → ops[j]? = some o → o.dst = some d → isAl C o = some z → keep C d z st) (hk2 : ∀ j o d z, j < m → ops[j]? = some o → o.dst = some d → isAl C o = some z → keepF C d z finU)
    (ht1 : ∀ j o t, j < m → ops[j]? = some o → srcOf L o = some t → keepT t st) (ht2 : ∀ j o t, j < m → ops[j]? = some o → srcOf L o = some t → keepT t finU) (hfin : aops C ops (ops.toList.drop m) fin K) :
    ∀ (fuel : Nat) (listed : Array Bool) (E : Env) (a : Act), (List.range m).countP (fun j => !listed.getD j true) + (ops.size - m) ≤ fuel → listed.size = ops.size → (∀ j, m ≤ j → j < ops.size → listed.getD j true = false) → ClosedL ops listed →
      IsA C L ops rs st m (fun j => listed.getD j true = true) E.st → Inv C.N S E → a.tmps = E.tm → a.defers = [] → wpAny C.P .any ops R fuel listed a E.w := by
  have hdst : ∀ k, k < m → ∃ o d, ops[k]? = some o ∧ o.dst = some d := fun k hk => by
    obtain ⟨o, d, h1, h2, _⟩ := hcan k hk; exact ⟨o, d, h1, h2⟩
  have hne : ∀ j k d, j < m → k < m → j ≠ k → dstOf ops k = some d → dstOf ops j ≠ some d := by
    intro j k d hj hk hjk hd he
    obtain ⟨oj, dj, h1, h2⟩ := hdst j hj
    obtain ⟨ok, dk, h3, h4⟩ := hdst k hk
    refine D.dst k j ok oj hk hj hjk h3 h1 ?_
    simp only [dstOf, h1, h3, Option.bind_some] at hd he
    rw [hd, he]
  have hcs := fun k hk => canonA_slots (C := C) (L := L) (ops := ops) (rs := rs) (st := st) hdst hne k hk
  have hle := D.le
  have hold : ∀ {Dn : Nat → Prop} {s : St}, IsA C L ops rs st m Dn s → ∀ id cs, st.boxes id = some cs → s.boxes id = some cs := fun {Dn s} h id cs hc => by
    rw [h.oldb id fun j o d z hj _ ho hd hz e => ?_, hc]
    obtain ⟨o', d', ho', hd', hok⟩ := hcan j hj
    rw [ho] at ho'; cases ho'
    rw [hd] at hd'; cases hd'
    unfold okA at hok
    rw [hz] at hok
    rw [(hcs j (by omega)).1, ← e, hc] at hok
    cases hok.2
  intro fuel
  induction fuel with
  | zero =>
    intro listed E a hf hs htail hcl hT I ha hd
    have hall : ∀ j, j < m → listed.getD j true = true := fun j hj => by
      have h0 : (List.range m).countP (fun j => !listed.getD j true) = 0 := by omega
      rw [List.countP_eq_zero] at h0
      simpa using h0 j (List.mem_range.2 hj)
    have hst : E.st = fin := isA_unique (isA_congr hT (D' := fun _ => True) fun j hj => ⟨fun _ => trivial, fun _ => hall j hj⟩) hfinA
    refine draw_tailA D hbase hR 0 m listed E a hle (by omega) (Nat.le_refl m) hs (fun j hj => ?_) I ha hd (by rw [hst]; exact hfin)
    by_cases hjm : j < m
    · rw [hall j hjm]; simp [hjm]
    · rw [htail j (by omega) hj]; simp [hjm]
  | succ fuel ih =>
    intro listed E a hf hs htail hcl hT I ha hd
    by_cases hall : ∀ j, j < m → listed.getD j true = true
    · have hst : E.st = fin := isA_unique (isA_congr hT (D' := fun _ => True) fun j hj => ⟨fun _ => trivial, fun _ => hall j hj⟩) hfinA
      refine draw_tailA D hbase hR (fuel + 1) m listed E a hle (by omega) (Nat.le_refl m) hs (fun j hj => ?_) I ha hd (by rw [hst]; exact hfin)
      by_cases hjm : j < m
      · rw [hall j hjm]; simp [hjm]
      · rw [htail j (by omega) hj]; simp [hjm]
    · have hgf : ∀ j, j < ops.size → listed.getD j false = listed.getD j true := fun j hj => by
        have hjs : j < listed.size := by omega
        rw [Array.getD_eq_getD_getElem?, Array.getD_eq_getD_getElem?, Array.getElem?_eq_getElem hjs]; rfl
      have hex : ∃ j, j < m ∧ listed.getD j true = false := by
        refine Classical.byContradiction fun hn => hall fun j hj => ?_
        cases hb : listed.getD j true with
        | true => rfl
        | false => exact absurd ⟨j, hj, hb⟩ hn
      refine ⟨fun h0 => ?_, fun i hi => ?_⟩
      · exfalso
        have least : ∃ j, (j < m ∧ listed.getD j true = false) ∧ ∀ i, i < j → listed.getD i true = true := by
          obtain ⟨j, hj⟩ := hex
          induction j using Nat.strongRecOn with
          | _ j ihj =>
            by_cases hall2 : ∀ i, i < j → listed.getD i true = true
            · exact ⟨j, hj, hall2⟩
            · have : ∃ i, i < j ∧ listed.getD i true = false := by
                refine Classical.byContradiction fun hn => hall2 fun i hi => ?_
                cases hb : listed.getD i true with
                | true => rfl
                | false => exact absurd ⟨i, hi, hb⟩ hn
              obtain ⟨i, hi, hb⟩ := this
              exact ihj i hi ⟨by omega, hb⟩
        obtain ⟨j, ⟨hj1, hj2⟩, hj3⟩ := least
        obtain ⟨o, d, ho, _⟩ := hdst j hj1
        have hr : j ∈ Region.ready .any ops listed := by
          refine mem_ready.2 ⟨hj2, o, ho, fun e he hb => ?_⟩
          have h1 := D.back j o ho e he hb
          rw [hgf e.on (by omega)]; exact hj3 _ h1
        rw [h0] at hr; simp at hr
      · obtain ⟨h1, o, ho, h2⟩ := mem_ready.1 hi
        have hil := (Array.getElem?_eq_some_iff.1 ho).1
        have him : i < m := by
          refine Classical.byContradiction fun hn => ?_
          obtain ⟨j, hj1, hj2⟩ := hex
          have := ready_reach hcl hi (D.tail i o (by omega) ho j (by omega))
          rw [hgf j (by omega), hj2] at this; cases this
        obtain ⟨o', d, ho', hod, hok⟩ := hcan i him
        rw [ho] at ho'; cases ho'
        have hdi : dstOf ops i = some d := by simp [dstOf, ho, hod]
        obtain ⟨hc1, hc2, hc3⟩ := hcs i (by omega)
        have hgl : ∀ t ∈ o.looksAt ops, ¬ Gone L ops m (fun j => listed.getD j true = true) t := fun t ht ⟨c, oc, hcm, hcD, hoc, hcs⟩ => by
          have hci : c ≠ i := fun e => by
            subst e
            have h6 : listed.getD c true = true := hcD
            rw [h1] at h6; cases h6
          exact srcOk_spec hso hcm him (Ne.symm hci) hoc ho hcs ht
        have hslot : ∀ t ∈ o.looksAt ops, (canonA C ops L rs st i).slots t = E.st.slots t := by
          intro t ht
          by_cases hj : ∃ j, j < m ∧ dstOf ops j = some t
          · obtain ⟨j, hj, hjt⟩ := hj
            obtain ⟨oj, hoj, hdj⟩ := Option.bind_eq_some_iff.1 hjt
            obtain ⟨hji, hr⟩ := D.look i j o oj t him hj ho hoj ht hdj
            have hlj := ready_reach hcl hi hr
            rw [hgf j (by omega)] at hlj
            rw [hT.put j t hj hlj hjt (hgl t ht), hc2 j t hji hjt]
          · have hn : ∀ j, j < m → dstOf ops j ≠ some t := fun j hj' he => hj ⟨j, hj', he⟩
            rw [hT.old t (fun j hj _ => hn j hj) (hgl t ht), hc3 t fun j hj => hn j (by omega)]
        have hgd : ∀ c o', c < m → ops[c]? = some o' → srcOf L o' = some d → ¬ (listed.getD c true = true ∨ c = i) := fun c o' hcm hoc hcs hh => by
          obtain ⟨hic, hr⟩ := D.look c i o' o d hcm him hoc ho (srcOf_looks hcs) hod
          rcases hh with hh | rfl
          · have h5 := hcl c i (by rw [hgf c (by omega)]; exact hh) hr
            rw [hgf i (by omega), h1] at h5; cases h5
          · omega
        have hd1 : ∀ j, j < m → j ≠ i → dstOf ops j ≠ some d := fun j hj hji => hne j i d hj him hji hdi
        have hset : ∀ j, j ≠ i → (listed.setIfInBounds i true).getD j true = listed.getD j true := fun j hj => getD_set_ne true (Ne.symm hj)
        have hseti : (listed.setIfInBounds i true).getD i true = true := by
          rw [Array.getD_eq_getD_getElem?, Array.getElem?_setIfInBounds_self_of_lt (by omega)]; rfl
        have hfuel : (List.range m).countP (fun j => !(listed.setIfInBounds i true).getD j true) + (ops.size - m) ≤ fuel := by
          have := countP_lt (p := fun j => !listed.getD j true) (p' := fun j => !(listed.setIfInBounds i true).getD j true) (List.range m) (fun j _ h => by
            by_cases hji : j = i
            · subst hji; rw [hseti] at h; cases h
            · rw [hset j hji] at h; exact h) ⟨i, List.mem_range.2 him, by rw [h1]; rfl, by rw [hseti]; rfl⟩
          omega
        have hcl' : ClosedL ops (listed.setIfInBounds i true) := closed_add hcl hi (by omega)
        have hD' : ∀ {s : St}, IsA C L ops rs st m (fun j => listed.getD j true = true ∨ j = i) s → IsA C L ops rs st m (fun j => (listed.setIfInBounds i true).getD j true = true) s := fun h => isA_congr h fun j hj => by
          by_cases hji : j = i
          · subst hji; simp [hseti]
          · rw [hset j hji]; simp [hji]
        have hngd : ¬ Gone L ops m (fun j => listed.getD j true = true) d := fun ⟨c, oc, g1, g2, g3, g4⟩ => hgd c oc g1 g3 g4 (.inl g2)
        have hdE : E.st.slots d = (canonA C ops L rs st i).slots d := by
          rw [hT.old d (fun j hj hl => hd1 j hj fun e => by subst e; rw [h1] at hl; cases hl) hngd, hc3 d (fun j hj => hd1 j (by omega) (by omega))]
        have hnd : ∀ j, j < m → listed.getD j true = true → dstOf ops j ≠ some d := fun j hj hl => hd1 j hj fun e => by subst e; rw [h1] at hl; cases hl
        unfold okA at hok
        cases hal : isAl C o with
        | some z =>
          rw [hal] at hok
          refine al_head I hbase ha hd ho hod hal hok.1 (keep_mix hT hU hnd (hk1 i o d z him ho hod hal) (hk2 i o d z him ho hod hal)) fun E' a' I' ha' hd' hst' => ?_
          refine ih _ E' a' hfuel (by simpa using hs) (fun j hj hjl => by rw [hset j (by omega)]; exact htail j hj hjl) hcl' (hD' ?_) I' ha' hd'
          rw [hst']
          exact isA_box hT him ho hod hal (isAl_src hal) (fun j hj hji => hd1 j hj hji) hgd
        | none =>
          rw [hal] at hok
          simp only at hok
          cases hlit : isLit o with
          | some tl =>
            rw [hlit] at hok
            have hput : putA C ops L rs st i = .sl .own (szOf C.T tl) [] := by simp [putA, ho, hod, vA, hal, hlit]
            refine lit_head I ha hd ho hod hlit hok.1 hok.2.1 (by rw [hdE]; exact hok.2.2) fun E' a' I' ha' hd' hst' => ?_
            refine ih _ E' a' hfuel (by simpa using hs) (fun j hj hjl => by rw [hset j (by omega)]; exact htail j hj hjl) hcl' (hD' ?_) I' ha' hd'
            rw [hst', ← hput]
            exact isA_put hT him ho hod hal (fun j hj hji => hd1 j hj hji) hgd (.inl ⟨rfl, isLit_src hlit⟩)
          | none =>
            rw [hlit] at hok
            simp only at hok
            cases hsr : srcOf L o with
            | some t =>
              rw [hsr] at hok
              have hlook := srcOf_looks (ops := ops) hsr
              obtain ⟨j, oj, tj, hj, hoj, hdj, hlj⟩ := hL t (srcOf_mem hsr)
              have hjt : dstOf ops j = some t := by simp [dstOf, hoj, hdj]
              have hji := (D.look i j o oj t him hj ho hoj hlook hdj).1
              have hpj : putA C ops L rs st j = .sl .own (szOf C.T tj) [] := by simp [putA, hoj, hdj, vA, isLit_al hlj, hlj]
              have hx : E.st.slots t = .sl .own (szOf C.T tj) [] := by rw [← hslot t hlook, hc2 j t hji hjt, hpj]
              have hqe : qappO C o E.st = qappO C o (canonA C ops L rs st i) := (qappO_congr fun t' ht' => hslot t' ht').symm
              have hput : putA C ops L rs st i = (qappO C o (canonA C ops L rs st i)).v := by simp [putA, ho, hod, vA, hal, hlit, hsr]
              refine app_head I ha hd ho hod hsr (by rw [hqe]; exact hok.1) hok.2.1 hx (by rw [hdE]; exact hok.2.2) (take_mix hT hU hx (ht1 i o t him ho hsr) (ht2 i o t him ho hsr)) fun E' a' I' ha' hd' hst' => ?_
              refine ih _ E' a' hfuel (by simpa using hs) (fun j hj hjl => by rw [hset j (by omega)]; exact htail j hj hjl) hcl' (hD' ?_) I' ha' hd'
              rw [hst', hqe, ← hput]
              exact isA_put hT him ho hod hal (fun j hj hji => hd1 j hj hji) hgd (.inr ⟨t, hsr, rfl⟩)
            | none =>
              rw [hsr] at hok
              obtain ⟨hok, hdN, hfree⟩ := hok
              have hpeq : popg C ops (rs i) o E.st = popg C ops (rs i) o (canonA C ops L rs st i) := popg_mono hslot (fun id cs hc => by rw [hc1] at hc; exact hold hT id cs hc) hok
              have hput : putA C ops L rs st i = (popg C ops (rs i) o (canonA C ops L rs st i)).v := by simp [putA, ho, hod, vA, hal, hlit, hsr]
              refine pop_head I hbase ha hd ho hod (by rw [hpeq]; exact hok) hdN (by rw [hdE]; exact hfree) fun E' a' I' ha' hd' hst' => ?_
              refine ih _ E' a' hfuel (by simpa using hs) (fun j hj hjl => by rw [hset j (by omega)]; exact htail j hj hjl) hcl' (hD' ?_) I' ha' hd'
              rw [hst', hpeq, ← hput]
              exact isA_put hT him ho hod hal (fun j hj hji => hd1 j hj hji) hgd (.inl ⟨rfl, hsr⟩)
end
end Go.AM
namespace Go.AM

theorem aputsA_get {C : Cx} {ops : Array Oper} {L : List Nat} {rs : Nat → AV} {st : St} {m : Nat} {K : St → Prop} (hm : m ≤ ops.size) : ∀ (l : List Oper) (k : Nat), k ≤ m → l = (ops.toList.take m).drop k → aputsA C ops L rs k l (canonA C ops L rs st k) K →
    (∀ j, k ≤ j → j < m → ∃ o d, ops[j]? = some o ∧ o.dst = some d ∧ okA C ops L (rs j) o d (canonA C ops L rs st j)) ∧ K (canonA C ops L rs st m)
  | [], k, hk, hl, h => by
    have : m ≤ k := by
      have := congrArg List.length hl
      simp at this; omega
    have hkm : k = m := by omega
    subst hkm
    exact ⟨fun j h1 h2 => absurd h1 (by omega), h⟩
  | o :: rest, k, hk, hl, h => by
    have hlt : k < m := by
      have := congrArg List.length hl
      simp at this; omega
    have ho : ops[k]? = some o := by
      have := congrArg (·[0]?) hl
      simp only [List.getElem?_cons_zero, List.getElem?_drop, Nat.add_zero, List.getElem?_take, hlt, if_true] at this
      rw [← Array.getElem?_toList]; exact this.symm
    have hrest : rest = (ops.toList.take m).drop (k + 1) := by
      have := congrArg List.tail hl
      simpa [List.tail_drop] using this
    rw [aputsA] at h
    split at h
    · rename_i d hd
      obtain ⟨h1, h4⟩ := h
      have e : canonA C ops L rs st (k + 1) = (canonA C ops L rs st k).put d (vA C ops L (rs k) o d (canonA C ops L rs st k)) := by simp [canonA, ho, hd]
      rw [← e] at h4
      obtain ⟨g1, g2⟩ := aputsA_get hm rest (k + 1) (by omega) hrest h4
      refine ⟨fun j hj1 hj2 => ?_, g2⟩
      by_cases hjk : j = k
      · subst hjk; exact ⟨o, d, ho, hd, h1⟩
      · exact g1 j (by omega) hj2
    · exact h.elim

/-- What is asked of the first and the last state. -/
def sideA (C : Cx) (L : List Nat) (l : List Oper) (st fin : St) : Prop := keeps C l st ∧ keepsF C l fin ∧ tks L l st ∧ tks L l fin

theorem getD_listed (n j : Nat) (d : Bool) (h : j < n) : (Array.replicate n false).getD j d = false := by simp [h]

section
variable {C : Cx} {Q : Exit → St → Prop} {st : St}

/-- A region that draws its order. -/
theorem AWp.drawA (m : Nat) (rs : Nat → AV) {id : Nat} {ops : Array Oper} (hmix : C.P.follows .mixedOrders = true) (hok : (drawOkA ops m && srcOk (litsOf (ops.toList.take m)) ops m) = true)
    (h : aputsA C ops (litsOf (ops.toList.take m)) rs 0 (ops.toList.take m) st fun s => sideA C (litsOf (ops.toList.take m)) (ops.toList.take m) st (s.addB (newsA C (ops.toList.take m))) ∧ aops C ops (ops.toList.drop m) ((s.addB (newsA C (ops.toList.take m))).noSlots (srcs (litsOf (ops.toList.take m)) (ops.toList.take m))) (Q .normal)) : AWp C (.region id ops true) st Q := by
  generalize hLe : litsOf (ops.toList.take m) = L at h hok
  intro S E a hb I ha hd he
  rw [Bool.and_eq_true] at hok
  have D := drawOkA_spec hok.1
  obtain ⟨hcan, ⟨hk1, hk2, ht1, ht2⟩, hfin⟩ := aputsA_get D.le _ 0 (by omega) (by simp) h
  have hle := D.le
  have hdst : ∀ k, k < m → ∃ o d, ops[k]? = some o ∧ o.dst = some d := fun k hk => by
    obtain ⟨o, d, h1, h2, _⟩ := hcan k (by omega) hk; exact ⟨o, d, h1, h2⟩
  have hne : ∀ j k d, j < m → k < m → j ≠ k → dstOf ops k = some d → dstOf ops j ≠ some d := by
    intro j k d hj hk hjk hd he
    obtain ⟨oj, dj, h1, h2⟩ := hdst j hj
    obtain ⟨ok, dk, h3, h4⟩ := hdst k hk
    refine D.dst k j ok oj hk hj hjk h3 h1 ?_
    simp only [dstOf, h1, h3, Option.bind_some] at hd he
    rw [hd, he]
  obtain ⟨c1, c2, c3⟩ := canonA_slots (C := C) (L := L) (rs := rs) (st := st) hdst hne m (Nat.le_refl m)
  have hmem : ∀ j o, j < m → ops[j]? = some o → o ∈ ops.toList.take m := fun j o hj ho => by
    rw [List.mem_take_iff_getElem]
    have hjl : j < ops.size := by omega
    rw [Array.getElem?_eq_getElem hjl] at ho
    exact ⟨j, by simp; omega, by simpa using ho⟩
  have hat : ∀ o, o ∈ ops.toList.take m → ∃ j, j < m ∧ ops[j]? = some o := fun o ho => by
    rw [List.mem_take_iff_getElem] at ho
    obtain ⟨j, hj, rfl⟩ := ho
    exact ⟨j, by omega, by rw [← Array.getElem?_toList, List.getElem?_eq_getElem]⟩
  have hL : ∀ t ∈ L, ∃ j oj tj, j < m ∧ ops[j]? = some oj ∧ oj.dst = some t ∧ isLit oj = some tj := fun t ht => by
    rw [← hLe] at ht
    obtain ⟨o, h1, h2, h3⟩ := mem_litsOf ht
    obtain ⟨j, hj, hoj⟩ := hat o h1
    obtain ⟨tj, htj⟩ := Option.isSome_iff_exists.1 h3
    exact ⟨j, o, tj, hj, hoj, h2, htj⟩
  have hU : AllA C L ops rs st m ((canonA C ops L rs st m).addB (newsA C (ops.toList.take m))) := by
    refine ⟨fun j t hj hjt => c2 j t hj hjt, fun j o d z hj ho hd hz => ?_⟩
    have h1 := newsA_mem (C := C) (hmem j o hj ho) hd hz
    obtain ⟨cs, hcs⟩ := Option.isSome_iff_exists.1 h1
    obtain ⟨o', ho', d', z', hd', hz', he', rfl⟩ := newsA_get hcs
    have hdd : d' = d := (Nat.add_left_cancel he').symm
    subst hdd
    obtain ⟨j', hj', ho''⟩ := hat o' ho'
    have hjj : j' = j := Classical.byContradiction fun hn => hne j' j d' hj' hj hn (by simp [dstOf, ho, hd]) (by simp [dstOf, ho'', hd'])
    subst hjj
    rw [ho] at ho''; cases ho''
    rw [hz] at hz'; cases hz'
    show (match (newsA C (ops.toList.take m)).lookup (C.base + d') with | some cs => some cs | none => _) = _
    rw [hcs]
  have hg : ∀ t, Gone L ops m (fun _ => True) t ↔ (srcs L (ops.toList.take m)).contains t = true := fun t => by
    rw [List.contains_iff_mem, mem_srcs]
    constructor
    · rintro ⟨c, o, h1, _, h2, h3⟩; exact ⟨o, hmem c o h1 h2, h3⟩
    · rintro ⟨o, h1, h2⟩
      obtain ⟨j, hj, hoj⟩ := hat o h1
      exact ⟨j, o, hj, trivial, hoj, h2⟩
  have hfinA : IsA C L ops rs st m (fun _ => True) (((canonA C ops L rs st m).addB (newsA C (ops.toList.take m))).noSlots (srcs L (ops.toList.take m))) := by
    refine ⟨fun j t hj _ hjt hgn => ?_, fun t hgn => ?_, fun t ht hgn => ?_, fun j o d z hj _ ho hd hz => hU.newb j o d z hj ho hd hz, fun id hi => ?_⟩
    · show (if _ then _ else _) = _
      rw [if_neg fun h => hgn ((hg t).2 h)]
      exact c2 j t hj hjt
    · show (if _ then _ else _) = _
      rw [if_pos ((hg t).1 hgn)]
    · show (if _ then _ else _) = _
      rw [if_neg fun h => hgn ((hg t).2 h)]
      exact c3 t fun j hj => ht j hj trivial
    · have hn : (newsA C (ops.toList.take m)).lookup id = none := by
        cases hc : (newsA C (ops.toList.take m)).lookup id with
        | none => rfl
        | some cs =>
          obtain ⟨o, ho, d, z, hd, hz, he, _⟩ := newsA_get hc
          obtain ⟨j, hj, hoj⟩ := hat o ho
          exact absurd he (hi j o d z hj trivial hoj hd hz)
      show (match (newsA C (ops.toList.take m)).lookup id with | some cs => some cs | none => _) = _
      rw [hn]
      simp only [c1]
  refine wp_region_any hmix ?_
  refine draw_putsA (E := { E with w := { E.w with drawn := E.w.drawn + 1 } }) (st := st) D hb (K := Q .normal) (R := APost C S Q) (fun E a I ha hd h => ⟨E, rfl, I, ha, hd, h⟩) (fun j hj => hcan j (by omega) hj) hfinA hU hok.2 hL
    (fun j o d z hj ho hd hz => keeps_get hk1 (hmem j o hj ho) hd hz) (fun j o d z hj ho hd hz => keepsF_get hk2 (hmem j o hj ho) hd hz)
    (fun j o t hj ho hz => tks_get ht1 (hmem j o hj ho) hz) (fun j o t hj ho hz => tks_get ht2 (hmem j o hj ho) hz) hfin ops.size (Array.replicate ops.size false) a ?_ (by simp) (fun j _ hj => getD_listed _ _ _ hj) ?_ ?_ (I.drawn _ (Nat.le_succ _)) ha hd
  · have h1 : (List.range m).countP (fun j => !(Array.replicate ops.size false).getD j true) ≤ (List.range m).length := List.countP_le_length
    rw [List.length_range] at h1
    omega
  · intro i j hi _
    rw [Array.getD_eq_getD_getElem?] at hi
    rcases Nat.lt_or_ge i ops.size with h1 | h1
    · rw [Array.getElem?_replicate, if_pos h1] at hi; cases hi
    · rw [Array.getElem?_replicate, if_neg (by omega)] at hi; cases hi
  · refine ⟨fun j t hj hD _ _ => ?_, fun t hgn => ?_, fun t _ _ => by rw [← he], fun j o d z hj hD => ?_, fun id _ => by rw [← he]⟩
    · rw [getD_listed _ _ _ (by omega)] at hD; cases hD
    · obtain ⟨c, o, h1, h2, _⟩ := hgn
      have h2' : (Array.replicate ops.size false).getD c true = true := h2
      rw [getD_listed _ _ _ (by omega)] at h2'; cases h2'
    · rw [getD_listed _ _ _ (by omega)] at hD; cases hD

theorem AWp.goA (m : Nat) (rs : Nat → AV) (ks kb : List Nat) {id : Nat} {ops : Array Oper} {y : Code} (hmix : C.P.follows .mixedOrders = true) (hok : (drawOkA ops m && srcOk (litsOf (ops.toList.take m)) ops m) = true)
    (h : ∀ K : St → Prop, (∀ l bx, AWp C y (St.of l bx) Q → K (St.of l bx)) → aputsA C ops (litsOf (ops.toList.take m)) rs 0 (ops.toList.take m) st fun s => sideA C (litsOf (ops.toList.take m)) (ops.toList.take m) st (s.addB (newsA C (ops.toList.take m))) ∧
      aops C ops (ops.toList.drop m) ((s.addB (newsA C (ops.toList.take m))).noSlots (srcs (litsOf (ops.toList.take m)) (ops.toList.take m))) fun s => K (St.of (seeS ks kb s ks) (seeB ks kb s kb))) : AWp C (.seq (.region id ops true) y) st Q := by
  refine AWp.seq (AWp.post (fun _ => (ks, kb)) ((AWp.drawA (Q := fun e s => thenQ (fun s => AWp C y (s.clean ks kb) Q) (fun _ _ => False) e s) m rs hmix hok ?_).mono ?_))
  · have := h (fun s => AWp C y s Q) fun _ _ h => h
    simp only [← St.clean_eq] at this
    exact this
  · intro e s hs
    cases e with
    | normal => exact hs
    | _ => exact hs.elim

theorem AWp.lastA (m : Nat) (rs : Nat → AV) (ks kb : List Nat) (l : List (Nat × AV)) (bx : Boxes) {id : Nat} {ops : Array Oper} (hmix : C.P.follows .mixedOrders = true) (hok : (drawOkA ops m && srcOk (litsOf (ops.toList.take m)) ops m) = true)
    (h : aputsA C ops (litsOf (ops.toList.take m)) rs 0 (ops.toList.take m) st fun s => sideA C (litsOf (ops.toList.take m)) (ops.toList.take m) st (s.addB (newsA C (ops.toList.take m))) ∧ aops C ops (ops.toList.drop m) ((s.addB (newsA C (ops.toList.take m))).noSlots (srcs (litsOf (ops.toList.take m)) (ops.toList.take m))) fun s => s.sees ks kb l bx) (h2 : Q .normal (St.of l bx)) : AWp C (.region id ops true) st Q := by
  refine AWp.postFit (AWp.post (fun _ => (ks, kb)) ((AWp.drawA (Q := fun e s => thenQ (fun s => s.sees ks kb l bx) (fun _ _ => False) e s) m rs hmix hok h).mono ?_))
  intro e s hs
  cases e with
  | normal => exact ⟨_, St.sees_fits hs, h2⟩
  | _ => exact hs.elim
end

attribute [simp] qapp qappO isLit srcOf isAl okA vA alOk keep keepF alQ alF alZ sideA keepT srcQ
@[simp] theorem aputsA_nil {C : Cx} {ops : Array Oper} {L : List Nat} {rs : Nat → AV} {k : Nat} {st : St} {K : St → Prop} : aputsA C ops L rs k [] st K = K st := rfl
@[simp] theorem aputsA_cons {C : Cx} {ops : Array Oper} {L : List Nat} {rs : Nat → AV} {k d : Nat} {op type pos after guard} {rest : List Oper} {st : St} {K : St → Prop} : aputsA C ops L rs k (⟨some d, op, type, pos, after, guard⟩ :: rest) st K =
    (okA C ops L (rs k) ⟨some d, op, type, pos, after, guard⟩ d st ∧ aputsA C ops L rs (k + 1) rest (st.put d (vA C ops L (rs k) ⟨some d, op, type, pos, after, guard⟩ d st)) K) := rfl
@[congr] theorem aputsA_congr {C : Cx} {ops : Array Oper} {L L' : List Nat} {rs : Nat → AV} {k k' : Nat} {l l' : List Oper} {st st' : St} {K : St → Prop} (hl : L = L') (h0 : k = k') (h1 : l = l') (h2 : st = st') : aputsA C ops L rs k l st K = aputsA C ops L' rs k' l' st' K := by
  subst_vars; rfl
@[simp] theorem alTr_of {C : Cx} {d : Nat} {z : List AV} {l : List (Nat × AV)} {bx : Boxes} : alTr C d z (St.of l bx) = ((St.of l bx).settle (alQ C d z) (alF C d z)).killB (C.base + d) := rfl
@[simp] theorem tkTr_of {t : Nat} {l : List (Nat × AV)} {bx : Boxes} : tkTr t (St.of l bx) = (St.of l bx).take (srcQ t) := rfl
@[simp] theorem litsOf_nil : litsOf [] = [] := rfl
@[simp] theorem litsOf_cons {d : Nat} {op type pos after guard} {rest : List Oper} : litsOf (⟨some d, op, type, pos, after, guard⟩ :: rest) = match isLit ⟨some d, op, type, pos, after, guard⟩ with
    | some _ => d :: litsOf rest
    | none => litsOf rest := by
  rw [litsOf]
  cases isLit ⟨some d, op, type, pos, after, guard⟩ <;> rfl
@[simp] theorem newsA_nil {C : Cx} : newsA C [] = [] := rfl
@[simp] theorem newsA_cons {C : Cx} {d : Nat} {op type pos after guard} {rest : List Oper} : newsA C (⟨some d, op, type, pos, after, guard⟩ :: rest) = match isAl C ⟨some d, op, type, pos, after, guard⟩ with
    | some z => (C.base + d, alZ C d z) :: newsA C rest
    | none => newsA C rest := by
  rw [newsA]
  cases isAl C ⟨some d, op, type, pos, after, guard⟩ <;> rfl
@[simp] theorem keeps_nil {C : Cx} {s : St} : keeps C [] s = True := rfl
@[simp] theorem keeps_cons {C : Cx} {d : Nat} {op type pos after guard} {rest : List Oper} {s : St} : keeps C (⟨some d, op, type, pos, after, guard⟩ :: rest) s = match isAl C ⟨some d, op, type, pos, after, guard⟩ with
    | some z => keep C d z s ∧ keeps C rest s
    | none => keeps C rest s := by
  rw [keeps]
  cases isAl C ⟨some d, op, type, pos, after, guard⟩ <;> simp
@[simp] theorem keepsF_nil {C : Cx} {s : St} : keepsF C [] s = True := rfl
@[simp] theorem keepsF_cons {C : Cx} {d : Nat} {op type pos after guard} {rest : List Oper} {s : St} : keepsF C (⟨some d, op, type, pos, after, guard⟩ :: rest) s = match isAl C ⟨some d, op, type, pos, after, guard⟩ with
    | some z => keepF C d z s ∧ keepsF C rest s
    | none => keepsF C rest s := by
  rw [keepsF]
  cases isAl C ⟨some d, op, type, pos, after, guard⟩ <;> simp
@[simp] theorem tks_nil {L : List Nat} {s : St} : tks L [] s = True := rfl
@[simp] theorem tks_cons {L : List Nat} {o : Oper} {rest : List Oper} {s : St} : tks L (o :: rest) s = match srcOf L o with
    | some t => keepT t s ∧ tks L rest s
    | none => tks L rest s := by
  rw [tks]
  cases srcOf L o <;> simp
@[simp] theorem srcs_nil {L : List Nat} : srcs L [] = [] := rfl
@[simp] theorem srcs_cons {L : List Nat} {o : Oper} {rest : List Oper} : srcs L (o :: rest) = match srcOf L o with
    | some t => t :: srcs L rest
    | none => srcs L rest := rfl
@[simp] theorem St.of_noSlot {l : List (Nat × AV)} {bx : Boxes} {d : Nat} : (St.of l bx).noSlot d = St.of (l.filter fun e => !(e.1 == d)) bx := by
  refine St.ext' (fun t => ?_) (fun id => rfl)
  show (if t = d then AV.any else (l.lookup t).getD .any) = ((l.filter fun e => !(e.1 == d)).lookup t).getD .any
  rw [lookup_filter fun k => !(k == d)]
  by_cases htd : t = d
  · subst htd; simp
  · simp [htd]
@[simp] theorem St.of_noSlots {l : List (Nat × AV)} {bx : Boxes} {ts : List Nat} : (St.of l bx).noSlots ts = St.of (l.filter fun e => !ts.contains e.1) bx := by
  refine St.ext' (fun t => ?_) (fun id => rfl)
  show (if ts.contains t then AV.any else (l.lookup t).getD .any) = ((l.filter fun e => !ts.contains e.1).lookup t).getD .any
  rw [lookup_filter fun k => !ts.contains k]
  cases ts.contains t <;> simp
attribute [simp] St.of_addB
end Go.AM
namespace Go.AM

end Go.AM
namespace Go.AM
open Go.Proofs Go.Shelf Go.RowKit Go.Lib
end Go.AM
namespace Go.AM

theorem pure_ext {P : Program} {f : Nat} {args : List AV} {r : AV} (v : Value) (hv0 : ∀ E p, Val E p r v) (hf : ∃ fn c, P.funcs[f]? = some fn ∧ fn.body = some c ∧ (fn.name == "runtime.NumGoroutine") = false)
    (h : ∀ (w : World) (E : Env) (vs : Array Value), E.w = w → Gl E.Pub w → args.length = vs.size → (∀ (k : Nat) c, args[k]? = some c → Val E .no c (vs.getD k undef)) →
      Calls P f vs w fun e w' => e = .returned v ∧ SameOs w' w ∧ w'.tape = w.tape ∧ w'.output = w.output ∧ w.heap.size ≤ w'.heap.size ∧ ∀ k, k < w.heap.size → w'.heap[k]? = w.heap[k]?) : Pure P f args r := by
  refine ⟨hf, fun w β ω Pub vs R hω hl hv => ?_⟩
  refine (h w _ vs rfl R.gl hl hv).mono ?_
  rintro e w' ⟨rfl, hos, ht, ho, hs, hb⟩
  have hpl : ∀ bk, Pub bk → bk < w.heap.size := fun bk h => (R.pub bk h).1
  refine ⟨_, ⟨w', β, fun _ => none, Pub, St.ofBoxes [], #[]⟩, rfl, rfl, ⟨⟨rfl, fun t => .any _ _, fun id cs h => (by cases h), fun bk h => ⟨Nat.lt_of_lt_of_le (hpl bk h) hs, rfl⟩, fun bk q h => (by cases h), fun id h => (by cases h), R.gl.mono fun bk h => ⟨h, hb bk (hpl bk h)⟩⟩, ⟨hos, ht, ho, hs, fun k hk _ => hb k hk, fun k q h => (by cases h), fun _ h => h, fun _ h => .inl h, fun _ _ => rfl⟩⟩, rfl, fun bk q h => (by cases h), hv0 _ _⟩

theorem args2 {E : Env} {a b : AV} {vs : Array Value} {x y : Value} (hl : [a, b].length = vs.size) (h0 : vs.getD 0 undef = x) (h1 : vs.getD 1 undef = y) : vs = #[x, y] := by
  have hsz : vs.size = 2 := hl.symm
  apply Array.ext
  · rw [hsz]; rfl
  · intro j hj hj2
    rw [hsz] at hj
    match j, hj with
    | 0, _ => rw [Array.getD_eq_getD_getElem?, Array.getElem?_eq_getElem (by omega)] at h0; exact h0
    | 1, _ => rw [Array.getD_eq_getD_getElem?, Array.getElem?_eq_getElem (by omega)] at h1; exact h1
theorem args1 {a : AV} {vs : Array Value} {x : Value} (hl : [a].length = vs.size) (h0 : vs.getD 0 undef = x) : vs = #[x] := by
  have hsz : vs.size = 1 := hl.symm
  apply Array.ext
  · rw [hsz]; rfl
  · intro j hj hj2
    rw [hsz] at hj
    match j, hj with
    | 0, _ => rw [Array.getD_eq_getD_getElem?, Array.getElem?_eq_getElem (by omega)] at h0; exact h0
theorem val_s {E : Env} {p : Place} {x : ByteArray} {v : Value} (h : Val E p (.s x) v) : v = .string x := by cases h; rfl
theorem val_i {E : Env} {p : Place} {k : IntKind} {n : Int} {v : Value} (h : Val E p (.i k n) v) : v = .int k n := by cases h; rfl
end Go.AM
namespace Go.AM
open Go.Proofs Go.Shelf Go.RowKit Go.Lib
theorem pure_indexByte {P : Program} {ρ : Ren} (L : Lays.n137 P ρ) (s : ByteArray) (c : Int) : Pure P (ρ.f 137) [.s s, .i .u8 c] (.i .i64 (Lib.indexByte s.data.toList c.toNat.toUInt8)) := by
  refine pure_ext _ (fun _ _ => .i _ _ _) ⟨_, _, L.f137, rfl, rfl⟩ fun w E vs _ _ hl hv => ?_
  rw [args2 (E := E) hl (val_s (hv 0 _ rfl)) (val_i (hv 1 _ rfl))]
  refine (Any.strings_IndexByte L s c w).mono ?_
  rintro e w' ⟨rfl, rfl⟩
  exact ⟨rfl, SameOs.refl _, rfl, rfl, Nat.le_refl _, fun _ _ => rfl⟩
theorem pure_trimSuffix {P : Program} {ρ : Ren} (L : Lays.n102 P ρ) (s c : ByteArray) (hs : s.size ≤ 9223372036854775807) : Pure P (ρ.f 102) [.s s, .s c] (.s ⟨(Lib.trimSuffix s.data.toList c.data.toList).toArray⟩) := by
  refine pure_ext _ (fun _ _ => .s _ _) ⟨_, _, L.f102, rfl, rfl⟩ fun w E vs _ _ hl hv => ?_
  rw [args2 (E := E) hl (val_s (hv 0 _ rfl)) (val_s (hv 1 _ rfl))]
  refine (Any.strings_TrimSuffix L s c w hs).mono ?_
  rintro e w' ⟨rfl, rfl⟩
  exact ⟨rfl, SameOs.refl _, rfl, rfl, Nat.le_refl _, fun _ _ => rfl⟩
theorem grown_keeps (w : World) (k : Nat) (os : Array Obj) : SameOs (Go.Sort.grow (w.drewN k) os) w ∧ (Go.Sort.grow (w.drewN k) os).tape = w.tape ∧ (Go.Sort.grow (w.drewN k) os).output = w.output ∧
    w.heap.size ≤ (Go.Sort.grow (w.drewN k) os).heap.size ∧ ∀ j, j < w.heap.size → (Go.Sort.grow (w.drewN k) os).heap[j]? = w.heap[j]? := by
  refine ⟨⟨rfl, fun _ => Nat.le_add_right _ _⟩, rfl, rfl, ?_, fun j hj => ?_⟩
  · show w.heap.size ≤ (w.heap ++ os).size
    simp
  · show (w.heap ++ os)[j]? = _
    rw [Array.getElem?_append_left hj]
end Go.AM
namespace Go.AM
open Go.Proofs

def tx (l : List UInt8) : ByteArray := ⟨l.toArray⟩
theorem tx_mk (l : List UInt8) : ByteArray.mk l.toArray = tx l := rfl
@[simp] theorem tx_empty : ByteArray.empty = tx [] := rfl
@[simp] theorem tx_size (l : List UInt8) : (tx l).size = l.length := by simp [tx, ByteArray.size]
@[simp] theorem tx_data (l : List UInt8) : (tx l).data = l.toArray := rfl
@[simp] theorem tx_toList (l : List UInt8) : (tx l).toList = l := by rw [ByteArray.toList_eq]; simp [tx]
@[simp] theorem tx_append (a b : List UInt8) : tx a ++ tx b = tx (a ++ b) := by
  apply ByteArray.ext
  simp [tx, ByteArray.data_append]
@[simp] theorem tx_extract (l : List UInt8) (a b : Nat) : (tx l).extract a b = tx ((l.take b).drop a) := by
  apply ByteArray.ext
  simp [tx, ByteArray.data_extract, List.drop_take]
theorem tx_inj {a b : List UInt8} (h : tx a = tx b) : a = b := by
  have := congrArg ByteArray.toList h
  simpa using this
@[simp] theorem tx_eq (a b : List UInt8) : tx a = tx b ↔ a = b := ⟨tx_inj, fun h => by rw [h]⟩
theorem tx_of (s : ByteArray) : s = tx s.data.toList := by
  cases s; simp [tx]

attribute [simp] tx_mk

theorem dec_len : ∀ (k u : Nat), 1 ≤ k → u < 10 ^ k → (Lib.decDigits u).length ≤ k
  | 0, _, h, _ => absurd h (by omega)
  | k + 1, u, _, hu => by
    rw [Lib.decDigits]
    split
    · simp
    · rename_i h
      have hk : 1 ≤ k := by
        rcases Nat.eq_zero_or_pos k with rfl | h1
        · simp at hu; omega
        · exact h1
      have := dec_len k (u / 10) hk (by rw [Nat.pow_succ] at hu; omega)
      simp; omega
theorem dec_len7 {u : Nat} (h : u ≤ 1048576) : (Lib.decDigits u).length ≤ 7 := dec_len 7 u (by omega) (by omega)
theorem dec_small {u : Nat} (h : u < 10) : Lib.decDigits u = [UInt8.ofNat (48 + u)] := by rw [Lib.decDigits, dif_pos h]
theorem dec_big {u : Nat} (h : ¬ u < 10) : Lib.decDigits (u / 10) ++ Lib.decDigits (u % 10) = Lib.decDigits u := by
  conv => rhs; rw [Lib.decDigits, dif_neg h]
  rw [dec_small (Nat.mod_lt _ (by omega))]

set_option maxRecDepth 8000 in
set_option maxHeartbeats 4000000 in
theorem c_ref14_Digits_step (n : Nat) (hn : n ≤ 1048576) (ih : ∀ m : Nat, m < n → Pure Tryd.prog 31 [.i .i64 m] (.s (tx (Lib.decDigits m)))) : Pure Tryd.prog 31 [.i .i64 n] (.s (tx (Lib.decDigits n))) := by
  have w1 : IntKind.i64.wrap ((n : Int) / 10) = (n : Int) / 10 := wrap64 (by omega) (by omega)
  have w2 : (n : Int).tmod 10 = (n : Int) % 10 := Int.tmod_eq_emod_of_nonneg (by omega)
  refine proc_of (cx Tryd.prog 32 [0, 2, 4, 14, 20] [2]) 31 [.tmp 2] Tryd.func31 rfl rfl rfl rfl rfl rfl (Nat.le_refl _) rfl ?_
  refine AWp.go [0] [] fun K hK => ?_
  simp
  first | refine hK _ _ ?_ | refine ⟨by omega, hK _ _ ?_⟩ | refine ⟨by omega, by omega, hK _ _ ?_⟩
  clear hK K
  refine AWp.seq ?_
  refine AWp.go [0, 4] [] fun K hK => ?_
  simp
  first | refine hK _ _ ?_ | refine ⟨by omega, hK _ _ ?_⟩ | refine ⟨by omega, by omega, hK _ _ ?_⟩
  clear hK K
  refine AWp.cond (t := false) (by first | (simp; done) | (simp; omega)) (by simp) (fun _ => ?_)
  refine AWp.skip ?_
  show AWp _ _ _ _
  refine AWp.seq ?_
  refine AWp.go [0, 14] [] fun K hK => ?_
  simp
  first | refine hK _ _ ?_ | refine ⟨by omega, hK _ _ ?_⟩ | refine ⟨by omega, by omega, hK _ _ ?_⟩
  clear hK K
  refine AWp.cond (t := false) (by first | (simp; done) | (simp; omega)) (by simp) (fun _ => ?_)
  refine AWp.skip ?_
  show AWp _ _ _ _
  refine AWp.seq ?_
  refine AWp.go [0, 20] [] fun K hK => ?_
  simp
  first | refine hK _ _ ?_ | refine ⟨by omega, hK _ _ ?_⟩ | refine ⟨by omega, by omega, hK _ _ ?_⟩
  clear hK K
  by_cases h : n < 10
  · refine AWp.cond (t := true) (by first | (simp [h]; done) | (simp [h]; omega)) (fun _ => ?_) (by simp)
    clear ih w1 w2
    have hg : ([[AV.s (tx [48])], [AV.s (tx [49])], [AV.s (tx [50])], [AV.s (tx [51])], [AV.s (tx [52])], [AV.s (tx [53])], [AV.s (tx [54])], [AV.s (tx [55])], [AV.s (tx [56])], [AV.s (tx [57])]] : List (List AV))[n]? = some [.s (tx (Lib.decDigits n))] := by
      have hc : n = 0 ∨ n = 1 ∨ n = 2 ∨ n = 3 ∨ n = 4 ∨ n = 5 ∨ n = 6 ∨ n = 7 ∨ n = 8 ∨ n = 9 := by omega
      rw [dec_small h]
      rcases hc with rfl | rfl | rfl | rfl | rfl | rfl | rfl | rfl | rfl | rfl <;> rfl
    refine AWp.step [2] [] [(2, .s (tx (Lib.decDigits n)))] [] ?_ ?_
    · simp [hg]
      omega
    refine AWp.ret ?_
    simp
  · refine AWp.cond (t := false) (by first | (simp [h]; done) | (simp [h]; omega)) (by simp) (fun _ => ?_)
    refine AWp.skip ?_
    show AWp _ _ _ _
    have b1 := dec_len7 (u := n / 10) (by omega)
    have b2 := dec_len7 (u := n % 10) (by omega)
    have g1 := ih (n / 10) (by omega)
    have g2 := ih (n % 10) (by omega)
    refine AWp.step [2] [] [(2, .s (tx (Lib.decDigits n)))] [] ?_ ?_
    · simp [w1]
      refine call_pure g1 (by simp) ?_
      simp [w2]
      refine call_pure g2 (by simp) ?_
      simp [dec_big h]
      omega
    refine AWp.ret ?_
    simp
theorem c_ref14_Digits (n : Nat) (hn : n ≤ 1048576) : Pure Tryd.prog 31 [.i .i64 n] (.s (tx (Lib.decDigits n))) := by
  induction n using Nat.strongRecOn with
  | _ n ih => exact c_ref14_Digits_step n hn fun m hm => ih m hm (by omega)

def hexD (n : Nat) : UInt8 := if n < 10 then UInt8.ofNat (48 + n) else UInt8.ofNat (87 + n)
def hex2 (b : UInt8) : List UInt8 := [hexD (b.toNat / 16), hexD (b.toNat % 16)]
def hexL (s : List UInt8) : List UInt8 := s.flatMap hex2
theorem hexL_length (s : List UInt8) : (hexL s).length = 2 * s.length := by
  induction s with
  | nil => rfl
  | cons b s ih => simp [hexL, hex2] at ih ⊢; omega
theorem hexL_succ (s : List UInt8) (i : Nat) (h : i < s.length) : hexL (s.take (i + 1)) = hexL (s.take i) ++ hex2 s[i] := by
  rw [List.take_succ_eq_append_getElem h]
  simp only [hexL, List.flatMap_append]
  simp
def hexT : List UInt8 := [48, 49, 50, 51, 52, 53, 54, 55, 56, 57, 97, 98, 99, 100, 101, 102]
theorem hexT_cut {n : Nat} (h : n < 16) : (hexT.take (n + 1)).drop n = [hexD n] := by
  have hc : n = 0 ∨ n = 1 ∨ n = 2 ∨ n = 3 ∨ n = 4 ∨ n = 5 ∨ n = 6 ∨ n = 7 ∨ n = 8 ∨ n = 9 ∨ n = 10 ∨ n = 11 ∨ n = 12 ∨ n = 13 ∨ n = 14 ∨ n = 15 := by omega
  rcases hc with rfl | rfl | rfl | rfl | rfl | rfl | rfl | rfl | rfl | rfl | rfl | rfl | rfl | rfl | rfl | rfl <;> rfl
theorem u8_wrap {n : Nat} (h : n < 256) : IntKind.u8.wrap (n : Int) = n := by
  unfold IntKind.wrap
  simp [IntKind.bits, IntKind.signed]
  omega
/-- The two digits of a byte, as the table has them. -/
theorem hex2_cut (b : UInt8) : ∃ p q : Nat, IntKind.u8.wrap ((b.toNat : Int) / 16) = p ∧ (b.toNat : Int).tmod 16 = q ∧ p < 16 ∧ q < 16 ∧ (hexT.take (p + 1)).drop p ++ (hexT.take (q + 1)).drop q = hex2 b ∧ True := by
  have h := UInt8.toNat_lt b
  refine ⟨b.toNat / 16, b.toNat % 16, ?_, ?_, by omega, by omega, ?_, trivial⟩
  case refine_2 => rw [Int.tmod_eq_emod_of_nonneg (by omega)]; omega
  · rw [show (b.toNat : Int) / 16 = ((b.toNat / 16 : Nat) : Int) by omega]
    exact u8_wrap (by omega)
  · rw [hexT_cut (by omega), hexT_cut (by omega)]
    rfl
set_option maxRecDepth 8000 in
set_option maxHeartbeats 2000000 in
theorem c_ref33_Hex (s : List UInt8) (hs : s.length ≤ 1000000) : Pure Tryd.prog 32 [.s (tx s)] (.s (tx (61 :: hexL s))) := by
  refine proc_of (cx Tryd.prog 38 [0, 2, 3, 4, 5, 9] [2]) 37 [.tmp 2] Tryd.func32 rfl rfl rfl rfl rfl rfl (Nat.le_refl _) rfl ?_
  refine AWp.go [0] [] fun K hK => ?_
  simp
  first | refine hK _ _ ?_ | refine ⟨by omega, hK _ _ ?_⟩ | refine ⟨by omega, by omega, hK _ _ ?_⟩
  clear hK K
  refine AWp.step [0, 3] [] [(0, .s (tx s)), (3, .s (tx hexT))] [] ?_ ?_
  · simp [hexT]
  refine AWp.step [0, 3, 4] [] [(0, .s (tx s)), (3, .s (tx hexT)), (4, .s (tx [61]))] [] ?_ ?_
  · simp
  refine AWp.seq ?_
  refine AWp.go [0, 3, 4, 5] [] fun K hK => ?_
  simp
  first | refine hK _ _ ?_ | refine ⟨by omega, hK _ _ ?_⟩ | refine ⟨by omega, by omega, hK _ _ ?_⟩
  clear hK K
  refine AWp.block (AWp.while (fun i : Nat => [(0, .s (tx s)), (3, .s (tx hexT)), (4, .s (tx (61 :: hexL (s.take i)))), (5, .i .i64 i)]) (fun i => []) (fun i => i ≤ s.length) (fun i => s.length - i) [0, 3, 4, 5] [] 0 (by simp) (by simp [hexL]) ?_)
  intro i hi
  refine AWp.seq ?_
  refine AWp.go [0, 3, 4, 5, 9] [] fun K hK => ?_
  simp
  first | refine hK _ _ ?_ | refine ⟨by omega, hK _ _ ?_⟩ | refine ⟨by omega, by omega, hK _ _ ?_⟩
  clear hK K
  by_cases h : i < s.length
  · refine AWp.cond (t := true) (by first | (simp [h]; done) | (simp [h]; omega)) (fun _ => ?_) (by simp)
    refine AWp.skip ?_
    show AWp _ _ _ _
    refine AWp.seq ?_
    refine AWp.block ?_
    have hb := hex2_cut s[i]
    obtain ⟨p, q, e1, e2, hp, hq, b1, b2⟩ := hb
    have e3 := u8_wrap (n := p + 1) (by omega)
    have e4 := u8_wrap (n := q + 1) (by omega)
    have e5 : ((p : Int) + 1).toNat = p + 1 := by omega
    have e6 : ((q : Int) + 1).toNat = q + 1 := by omega
    have b3 := hexL_length (s.take i)
    have b4 : (s.take i).length ≤ s.length := by simp; omega
    have b6 : hexT.length = 16 := rfl
    simp at e3 e4
    refine AWp.lastD 25 (fun _ => .any) [0, 3, 4, 5] [] [(0, .s (tx s)), (3, .s (tx hexT)), (4, .s (tx (61 :: hexL (s.take (i + 1))))), (5, .i .i64 i)] [] mix (by kernel_rfl) ?_ ?_
    · simp [h, e1, e2, e3, e4, e5, e6, b1, b2, hexL_succ s i h]
      omega
    show AWp _ _ _ _
    refine AWp.goLast [0, 3, 4, 5] [] fun K hK => ?_
    simp
    first | refine hK _ _ ?_ | refine ⟨by omega, hK _ _ ?_⟩ | refine ⟨by omega, by omega, hK _ _ ?_⟩
    clear hK K
    refine ⟨i + 1, by omega, by omega, ?_⟩
    simp
    exact wrap64 (by omega) (by omega)
  · refine AWp.cond (t := false) (by first | (simp [h]; done) | (simp [h]; omega)) (by simp) (fun _ => ?_)
    refine AWp.exit ?_
    show AWp _ _ _ _
    obtain rfl : i = s.length := by omega
    refine AWp.go [2] [] fun K hK => ?_
    simp
    first | refine hK _ _ ?_ | refine ⟨by omega, hK _ _ ?_⟩ | refine ⟨by omega, by omega, hK _ _ ?_⟩
    clear hK K
    refine AWp.ret ?_
    simp
end Go.AM
namespace Go.Proofs
def Tryd.lays170_ren : Go.Shelf.Ren := ⟨fun | 170 => 26 | n => n, fun | 70 => 47 | 3 => 3 | 0 => 0 | 72 => 50 | 37 => 48 | 5 => 5 | n => n, fun | n => n⟩
theorem Tryd.lays170 : Go.Proofs.Lays.n170 Tryd.prog Tryd.lays170_ren := {
  mixed := by kernel_rfl
  f170 := Tryd.func26.trans (congrArg some (by kernel_rfl))
  t0 := Tryd.underlying0
  a0 := Tryd.isAgg0
  z0 := Tryd.sizeOf0
  v0 := Tryd.zeroValue0
  t3 := Tryd.underlying3
  a3 := Tryd.isAgg3
  z3 := Tryd.sizeOf3
  v3 := Tryd.zeroValue3
  t37 := Tryd.underlying48
  a37 := Tryd.isAgg48
  z37 := Tryd.sizeOf48
  v37 := Tryd.zeroValue48
  t70 := Tryd.underlying47
  a70 := Tryd.isAgg47
  z70 := Tryd.sizeOf47
  v70 := Tryd.zeroValue47
  t72 := Tryd.underlying50
  a72 := Tryd.isAgg50
  z72 := Tryd.sizeOf50
  v72 := Tryd.zeroValue50 }

def Tryd.lays169_ren : Go.Shelf.Ren := ⟨fun | 169 => 27 | n => n, fun | 70 => 47 | 9 => 9 | 0 => 0 | 72 => 50 | 37 => 48 | 127 => 75 | 3 => 3 | 5 => 5 | n => n, fun | n => n⟩
theorem Tryd.lays169 : Go.Proofs.Lays.n169 Tryd.prog Tryd.lays169_ren := {
  mixed := by kernel_rfl
  f169 := Tryd.func27.trans (congrArg some (by kernel_rfl))
  t0 := Tryd.underlying0
  a0 := Tryd.isAgg0
  z0 := Tryd.sizeOf0
  v0 := Tryd.zeroValue0
  t3 := Tryd.underlying3
  a3 := Tryd.isAgg3
  z3 := Tryd.sizeOf3
  v3 := Tryd.zeroValue3
  t9 := Tryd.underlying9
  a9 := Tryd.isAgg9
  z9 := Tryd.sizeOf9
  v9 := Tryd.zeroValue9
  t37 := Tryd.underlying48
  a37 := Tryd.isAgg48
  z37 := Tryd.sizeOf48
  v37 := Tryd.zeroValue48
  t70 := Tryd.underlying47
  a70 := Tryd.isAgg47
  z70 := Tryd.sizeOf47
  v70 := Tryd.zeroValue47
  t72 := Tryd.underlying50
  a72 := Tryd.isAgg50
  z72 := Tryd.sizeOf50
  v72 := Tryd.zeroValue50
  t127 := Tryd.underlying75
  a127 := Tryd.isAgg75
  z127 := Tryd.sizeOf75
  v127 := Tryd.zeroValue75 }

def Tryd.lays156_ren : Go.Shelf.Ren := ⟨fun | 156 => 24 | 165 => 43 | 166 => 23 | 169 => 27 | 240 => 42 | 241 => 56 | 276 => 55 | 277 => 69 | n => n, fun | 31 => 42 | 9 => 9 | 3 => 3 | 4 => 4 | 0 => 0 | 20 => 20 | 72 => 50 | 76 => 54 | 70 => 47 | 37 => 48 | 75 => 53 | 127 => 75 | 164 => 84 | 5 => 5 | 80 => 59 | n => n, fun | n => n⟩
theorem Tryd.lays156 : Go.Proofs.Lays.n156 Tryd.prog Tryd.lays156_ren := {
  mixed := by kernel_rfl
  f156 := Tryd.func24.trans (congrArg some (by kernel_rfl))
  f165 := Tryd.func43.trans (congrArg some (by kernel_rfl))
  f166 := Tryd.func23.trans (congrArg some (by kernel_rfl))
  f169 := Tryd.func27.trans (congrArg some (by kernel_rfl))
  f240 := Tryd.func42.trans (congrArg some (by kernel_rfl))
  f241 := Tryd.func56.trans (congrArg some (by kernel_rfl))
  f276 := Tryd.func55.trans (congrArg some (by kernel_rfl))
  f277 := Tryd.func69.trans (congrArg some (by kernel_rfl))
  t0 := Tryd.underlying0
  a0 := Tryd.isAgg0
  z0 := Tryd.sizeOf0
  v0 := Tryd.zeroValue0
  t3 := Tryd.underlying3
  a3 := Tryd.isAgg3
  z3 := Tryd.sizeOf3
  v3 := Tryd.zeroValue3
  t4 := Tryd.underlying4
  a4 := Tryd.isAgg4
  z4 := Tryd.sizeOf4
  v4 := Tryd.zeroValue4
  t9 := Tryd.underlying9
  a9 := Tryd.isAgg9
  z9 := Tryd.sizeOf9
  v9 := Tryd.zeroValue9
  t20 := Tryd.underlying20
  a20 := Tryd.isAgg20
  z20 := Tryd.sizeOf20
  v20 := Tryd.zeroValue20
  t31 := Tryd.underlying42
  a31 := Tryd.isAgg42
  z31 := Tryd.sizeOf42
  v31 := Tryd.zeroValue42
  t37 := Tryd.underlying48
  a37 := Tryd.isAgg48
  z37 := Tryd.sizeOf48
  v37 := Tryd.zeroValue48
  t70 := Tryd.underlying47
  a70 := Tryd.isAgg47
  z70 := Tryd.sizeOf47
  v70 := Tryd.zeroValue47
  t72 := Tryd.underlying50
  a72 := Tryd.isAgg50
  z72 := Tryd.sizeOf50
  v72 := Tryd.zeroValue50
  t75 := Tryd.underlying53
  a75 := Tryd.isAgg53
  z75 := Tryd.sizeOf53
  v75 := Tryd.zeroValue53
  t76 := Tryd.underlying54
  a76 := Tryd.isAgg54
  z76 := Tryd.sizeOf54
  v76 := Tryd.zeroValue54
  t127 := Tryd.underlying75
  a127 := Tryd.isAgg75
  z127 := Tryd.sizeOf75
  v127 := Tryd.zeroValue75
  t164 := Tryd.underlying84
  a164 := Tryd.isAgg84
  z164 := Tryd.sizeOf84
  v164 := Tryd.zeroValue84 }

def Tryd.lays137_ren : Go.Shelf.Ren := ⟨fun | 137 => 63 | 217 => 57 | 266 => 70 | n => n, fun | 9 => 9 | 5 => 5 | 3 => 3 | n => n, fun | n => n⟩
theorem Tryd.lays137 : Go.Proofs.Lays.n137 Tryd.prog Tryd.lays137_ren := {
  mixed := by kernel_rfl
  f137 := Tryd.func63.trans (congrArg some (by kernel_rfl))
  f217 := Tryd.func57.trans (congrArg some (by kernel_rfl))
  f266 := Tryd.func70.trans (congrArg some (by kernel_rfl))
  t3 := Tryd.underlying3
  a3 := Tryd.isAgg3
  z3 := Tryd.sizeOf3
  v3 := Tryd.zeroValue3
  t5 := Tryd.underlying5
  a5 := Tryd.isAgg5
  z5 := Tryd.sizeOf5
  v5 := Tryd.zeroValue5
  t9 := Tryd.underlying9
  a9 := Tryd.isAgg9
  z9 := Tryd.sizeOf9
  v9 := Tryd.zeroValue9 }

def Tryd.laysC172_ren : Go.Shelf.Ren := ⟨fun | 172 => 62 | 244 => 72 | 245 => 73 | 247 => 79 | 279 => 80 | 280 => 81 | 281 => 82 | 282 => 83 | 287 => 89 | 316 => 90 | 171 => 39 | 205 => 91 | 321 => 94 | 322 => 95 | 243 => 54 | 246 => 68 | 283 => 75 | 284 => 76 | 285 => 77 | 286 => 78 | 129 => 85 | 317 => 84 | 318 => 86 | 319 => 87 | 320 => 88 | 337 => 92 | 338 => 93 | n => n, fun | 9 => 9 | 3 => 3 | 75 => 53 | 76 => 54 | 4 => 4 | 5 => 5 | 167 => 105 | 37 => 48 | 0 => 0 | 85 => 106 | 2 => 2 | 168 => 108 | 53 => 100 | 175 => 119 | 46 => 88 | 210 => 122 | 127 => 75 | 145 => 127 | 143 => 125 | 21 => 21 | 171 => 99 | 173 => 103 | 212 => 116 | 51 => 95 | 20 => 20 | 213 => 117 | 232 => 128 | 233 => 129 | 80 => 59 | n => n, fun | 15 => 4 | 16 => 5 | 17 => 3 | 18 => 6 | 19 => 7 | n => n⟩
theorem Tryd.laysC172 : Go.Proofs.LaysC.n172 Tryd.prog Tryd.laysC172_ren := {
  mixed := by kernel_rfl
  f129 := Tryd.func85.trans (congrArg some (by kernel_rfl))
  f171 := Tryd.func39.trans (congrArg some (by kernel_rfl))
  f172 := Tryd.func62.trans (congrArg some (by kernel_rfl))
  f205 := Tryd.func91.trans (congrArg some (by kernel_rfl))
  f243 := Tryd.func54.trans (congrArg some (by kernel_rfl))
  f244 := Tryd.func72.trans (congrArg some (by kernel_rfl))
  f245 := Tryd.func73.trans (congrArg some (by kernel_rfl))
  f246 := Tryd.func68.trans (congrArg some (by kernel_rfl))
  f247 := Tryd.func79.trans (congrArg some (by kernel_rfl))
  f279 := Tryd.func80.trans (congrArg some (by kernel_rfl))
  f280 := Tryd.func81.trans (congrArg some (by kernel_rfl))
  f281 := Tryd.func82.trans (congrArg some (by kernel_rfl))
  f282 := Tryd.func83.trans (congrArg some (by kernel_rfl))
  f283 := Tryd.func75.trans (congrArg some (by kernel_rfl))
  f284 := Tryd.func76.trans (congrArg some (by kernel_rfl))
  f285 := Tryd.func77.trans (congrArg some (by kernel_rfl))
  f286 := Tryd.func78.trans (congrArg some (by kernel_rfl))
  f287 := Tryd.func89.trans (congrArg some (by kernel_rfl))
  f316 := Tryd.func90.trans (congrArg some (by kernel_rfl))
  f317 := Tryd.func84.trans (congrArg some (by kernel_rfl))
  f318 := Tryd.func86.trans (congrArg some (by kernel_rfl))
  f319 := Tryd.func87.trans (congrArg some (by kernel_rfl))
  f320 := Tryd.func88.trans (congrArg some (by kernel_rfl))
  f321 := Tryd.func94.trans (congrArg some (by kernel_rfl))
  f322 := Tryd.func95.trans (congrArg some (by kernel_rfl))
  f337 := Tryd.func92.trans (congrArg some (by kernel_rfl))
  f338 := Tryd.func93.trans (congrArg some (by kernel_rfl))
  t0 := Tryd.underlying0
  a0 := Tryd.isAgg0
  z0 := Tryd.sizeOf0
  v0 := Tryd.zeroValue0
  t2 := Tryd.underlying2
  a2 := Tryd.isAgg2
  z2 := Tryd.sizeOf2
  v2 := Tryd.zeroValue2
  t3 := Tryd.underlying3
  a3 := Tryd.isAgg3
  z3 := Tryd.sizeOf3
  v3 := Tryd.zeroValue3
  t4 := Tryd.underlying4
  a4 := Tryd.isAgg4
  z4 := Tryd.sizeOf4
  v4 := Tryd.zeroValue4
  t5 := Tryd.underlying5
  a5 := Tryd.isAgg5
  z5 := Tryd.sizeOf5
  v5 := Tryd.zeroValue5
  t9 := Tryd.underlying9
  a9 := Tryd.isAgg9
  z9 := Tryd.sizeOf9
  v9 := Tryd.zeroValue9
  t20 := Tryd.underlying20
  a20 := Tryd.isAgg20
  z20 := Tryd.sizeOf20
  v20 := Tryd.zeroValue20
  t21 := Tryd.underlying21
  a21 := Tryd.isAgg21
  z21 := Tryd.sizeOf21
  v21 := Tryd.zeroValue21
  t37 := Tryd.underlying48
  a37 := Tryd.isAgg48
  z37 := Tryd.sizeOf48
  v37 := Tryd.zeroValue48
  t46 := Tryd.underlying88
  a46 := Tryd.isAgg88
  z46 := Tryd.sizeOf88
  v46 := Tryd.zeroValue88
  t51 := Tryd.underlying95
  a51 := Tryd.isAgg95
  z51 := Tryd.sizeOf95
  v51 := Tryd.zeroValue95
  t53 := Tryd.underlying100
  a53 := Tryd.isAgg100
  z53 := Tryd.sizeOf100
  v53 := Tryd.zeroValue100
  t75 := Tryd.underlying53
  a75 := Tryd.isAgg53
  z75 := Tryd.sizeOf53
  v75 := Tryd.zeroValue53
  t76 := Tryd.underlying54
  a76 := Tryd.isAgg54
  z76 := Tryd.sizeOf54
  v76 := Tryd.zeroValue54
  t85 := Tryd.underlying106
  a85 := Tryd.isAgg106
  z85 := Tryd.sizeOf106
  v85 := Tryd.zeroValue106
  t127 := Tryd.underlying75
  a127 := Tryd.isAgg75
  z127 := Tryd.sizeOf75
  v127 := Tryd.zeroValue75
  t143 := Tryd.underlying125
  a143 := Tryd.isAgg125
  z143 := Tryd.sizeOf125
  v143 := Tryd.zeroValue125
  t145 := Tryd.underlying127
  a145 := Tryd.isAgg127
  z145 := Tryd.sizeOf127
  v145 := Tryd.zeroValue127
  t167 := Tryd.underlying105
  a167 := Tryd.isAgg105
  z167 := Tryd.sizeOf105
  v167 := Tryd.zeroValue105
  t168 := Tryd.underlying108
  a168 := Tryd.isAgg108
  z168 := Tryd.sizeOf108
  v168 := Tryd.zeroValue108
  t171 := Tryd.underlying99
  a171 := Tryd.isAgg99
  z171 := Tryd.sizeOf99
  v171 := Tryd.zeroValue99
  t173 := Tryd.underlying103
  a173 := Tryd.isAgg103
  z173 := Tryd.sizeOf103
  v173 := Tryd.zeroValue103
  t175 := Tryd.underlying119
  a175 := Tryd.isAgg119
  z175 := Tryd.sizeOf119
  v175 := Tryd.zeroValue119
  t210 := Tryd.underlying122
  a210 := Tryd.isAgg122
  z210 := Tryd.sizeOf122
  v210 := Tryd.zeroValue122
  t212 := Tryd.underlying116
  a212 := Tryd.isAgg116
  z212 := Tryd.sizeOf116
  v212 := Tryd.zeroValue116
  t213 := Tryd.underlying117
  a213 := Tryd.isAgg117
  z213 := Tryd.sizeOf117
  t232 := Tryd.underlying128
  a232 := Tryd.isAgg128
  z232 := Tryd.sizeOf128
  v232 := Tryd.zeroValue128
  t233 := Tryd.underlying129
  a233 := Tryd.isAgg129
  z233 := Tryd.sizeOf129
  v233 := Tryd.zeroValue129
  g15 := by kernel_rfl
  g16 := by kernel_rfl
  g17 := by kernel_rfl
  g18 := by kernel_rfl
  g19 := by kernel_rfl
  t80 := Tryd.underlying59
  a80 := Tryd.isAgg59
  z80 := Tryd.sizeOf59
  v80 := Tryd.zeroValue59
  i0 := by kernel_rfl
  i2 := by kernel_rfl
  i3 := by kernel_rfl
  i4 := by kernel_rfl
  i5 := by kernel_rfl
  i9 := by kernel_rfl
  i20 := by kernel_rfl
  i21 := by kernel_rfl
  i37 := by kernel_rfl
  i46 := by kernel_rfl
  i51 := by kernel_rfl
  i53 := by kernel_rfl
  i75 := by kernel_rfl
  i76 := by kernel_rfl
  i80 := by kernel_rfl
  i85 := by kernel_rfl
  i127 := by kernel_rfl
  i143 := by kernel_rfl
  i145 := by kernel_rfl
  i167 := by kernel_rfl
  i168 := by kernel_rfl
  i171 := by kernel_rfl
  i173 := by kernel_rfl
  i175 := by kernel_rfl
  i210 := by kernel_rfl
  i212 := by kernel_rfl
  i232 := by kernel_rfl
  i233 := by kernel_rfl
  m15 := by kernel_rfl
  m16 := by kernel_rfl
  m17 := by kernel_rfl
  m18 := by kernel_rfl
  m19 := by kernel_rfl
  c0 := by kernel_rfl
  c2 := by kernel_rfl
  c3 := by kernel_rfl
  c4 := by kernel_rfl
  c5 := by kernel_rfl
  c9 := by kernel_rfl
  c20 := by kernel_rfl
  c21 := by kernel_rfl
  c37 := by kernel_rfl
  c46 := by kernel_rfl
  c51 := by kernel_rfl
  c53 := by kernel_rfl
  c75 := by kernel_rfl
  c76 := by kernel_rfl
  c80 := by kernel_rfl
  c85 := by kernel_rfl
  c127 := by kernel_rfl
  c143 := by kernel_rfl
  c145 := by kernel_rfl
  c167 := by kernel_rfl
  c168 := by kernel_rfl
  c171 := by kernel_rfl
  c173 := by kernel_rfl
  c175 := by kernel_rfl
  c210 := by kernel_rfl
  c212 := by kernel_rfl
  c213 := by kernel_rfl
  c232 := by kernel_rfl
  c233 := by kernel_rfl }

def Tryd.laysM171_ren : Go.Shelf.Ren := ⟨fun | 171 => 39 | 243 => 54 | 246 => 68 | 283 => 75 | 284 => 76 | 285 => 77 | 286 => 78 | 129 => 85 | 317 => 84 | 318 => 86 | 319 => 87 | 320 => 88 | 337 => 92 | 338 => 93 | n => n, fun | 3 => 3 | 9 => 9 | 2 => 2 | 4 => 4 | 171 => 99 | 0 => 0 | 53 => 100 | 37 => 48 | 5 => 5 | 173 => 103 | 212 => 116 | 51 => 95 | 20 => 20 | 213 => 117 | 46 => 88 | 232 => 128 | 233 => 129 | n => n, fun | 17 => 3 | 18 => 6 | 19 => 7 | n => n⟩
theorem Tryd.laysM171 : Go.Proofs.LaysM.n171 Tryd.prog Tryd.laysM171_ren := {
  mixed := by kernel_rfl
  f129 := Tryd.func85.trans (congrArg some (by kernel_rfl))
  f171 := Tryd.func39.trans (congrArg some (by kernel_rfl))
  f243 := Tryd.func54.trans (congrArg some (by kernel_rfl))
  f246 := Tryd.func68.trans (congrArg some (by kernel_rfl))
  f283 := Tryd.func75.trans (congrArg some (by kernel_rfl))
  f284 := Tryd.func76.trans (congrArg some (by kernel_rfl))
  f285 := Tryd.func77.trans (congrArg some (by kernel_rfl))
  f286 := Tryd.func78.trans (congrArg some (by kernel_rfl))
  f317 := Tryd.func84.trans (congrArg some (by kernel_rfl))
  f318 := Tryd.func86.trans (congrArg some (by kernel_rfl))
  f319 := Tryd.func87.trans (congrArg some (by kernel_rfl))
  f320 := Tryd.func88.trans (congrArg some (by kernel_rfl))
  f337 := Tryd.func92.trans (congrArg some (by kernel_rfl))
  f338 := Tryd.func93.trans (congrArg some (by kernel_rfl))
  t0 := Tryd.underlying0
  a0 := Tryd.isAgg0
  z0 := Tryd.sizeOf0
  v0 := Tryd.zeroValue0
  t2 := Tryd.underlying2
  a2 := Tryd.isAgg2
  z2 := Tryd.sizeOf2
  v2 := Tryd.zeroValue2
  t3 := Tryd.underlying3
  a3 := Tryd.isAgg3
  z3 := Tryd.sizeOf3
  v3 := Tryd.zeroValue3
  t4 := Tryd.underlying4
  a4 := Tryd.isAgg4
  z4 := Tryd.sizeOf4
  v4 := Tryd.zeroValue4
  t5 := Tryd.underlying5
  a5 := Tryd.isAgg5
  z5 := Tryd.sizeOf5
  v5 := Tryd.zeroValue5
  t9 := Tryd.underlying9
  a9 := Tryd.isAgg9
  z9 := Tryd.sizeOf9
  v9 := Tryd.zeroValue9
  t20 := Tryd.underlying20
  a20 := Tryd.isAgg20
  z20 := Tryd.sizeOf20
  v20 := Tryd.zeroValue20
  t37 := Tryd.underlying48
  a37 := Tryd.isAgg48
  z37 := Tryd.sizeOf48
  v37 := Tryd.zeroValue48
  t46 := Tryd.underlying88
  a46 := Tryd.isAgg88
  z46 := Tryd.sizeOf88
  v46 := Tryd.zeroValue88
  t51 := Tryd.underlying95
  a51 := Tryd.isAgg95
  z51 := Tryd.sizeOf95
  v51 := Tryd.zeroValue95
  t53 := Tryd.underlying100
  a53 := Tryd.isAgg100
  z53 := Tryd.sizeOf100
  v53 := Tryd.zeroValue100
  t171 := Tryd.underlying99
  a171 := Tryd.isAgg99
  z171 := Tryd.sizeOf99
  v171 := Tryd.zeroValue99
  t173 := Tryd.underlying103
  a173 := Tryd.isAgg103
  z173 := Tryd.sizeOf103
  v173 := Tryd.zeroValue103
  t212 := Tryd.underlying116
  a212 := Tryd.isAgg116
  z212 := Tryd.sizeOf116
  v212 := Tryd.zeroValue116
  t213 := Tryd.underlying117
  a213 := Tryd.isAgg117
  z213 := Tryd.sizeOf117
  t232 := Tryd.underlying128
  a232 := Tryd.isAgg128
  z232 := Tryd.sizeOf128
  v232 := Tryd.zeroValue128
  t233 := Tryd.underlying129
  a233 := Tryd.isAgg129
  z233 := Tryd.sizeOf129
  v233 := Tryd.zeroValue129
  g17 := by kernel_rfl
  g18 := by kernel_rfl
  g19 := by kernel_rfl
  i0 := by kernel_rfl
  i2 := by kernel_rfl
  i3 := by kernel_rfl
  i4 := by kernel_rfl
  i5 := by kernel_rfl
  i9 := by kernel_rfl
  i20 := by kernel_rfl
  i37 := by kernel_rfl
  i46 := by kernel_rfl
  i51 := by kernel_rfl
  i53 := by kernel_rfl
  i171 := by kernel_rfl
  i173 := by kernel_rfl
  i212 := by kernel_rfl
  i232 := by kernel_rfl
  i233 := by kernel_rfl
  m17 := by kernel_rfl
  m18 := by kernel_rfl
  m19 := by kernel_rfl }

def Tryd.lays145_ren : Go.Shelf.Ren := ⟨fun | 145 => 15 | 220 => 33 | 219 => 44 | 217 => 57 | 225 => 58 | 224 => 59 | 267 => 60 | 266 => 70 | 314 => 71 | n => n, fun | 9 => 9 | 4 => 4 | 59 => 38 | 3 => 3 | 5 => 5 | 46 => 88 | 146 => 96 | 51 => 95 | n => n, fun | 1 => 0 | n => n⟩
theorem Tryd.lays145 : Go.Proofs.Lays.n145 Tryd.prog Tryd.lays145_ren := {
  mixed := by kernel_rfl
  f145 := Tryd.func15.trans (congrArg some (by kernel_rfl))
  f217 := Tryd.func57.trans (congrArg some (by kernel_rfl))
  f219 := Tryd.func44.trans (congrArg some (by kernel_rfl))
  f220 := Tryd.func33.trans (congrArg some (by kernel_rfl))
  f224 := Tryd.func59.trans (congrArg some (by kernel_rfl))
  f225 := Tryd.func58.trans (congrArg some (by kernel_rfl))
  f266 := Tryd.func70.trans (congrArg some (by kernel_rfl))
  f267 := Tryd.func60.trans (congrArg some (by kernel_rfl))
  f314 := Tryd.func71.trans (congrArg some (by kernel_rfl))
  t3 := Tryd.underlying3
  a3 := Tryd.isAgg3
  z3 := Tryd.sizeOf3
  v3 := Tryd.zeroValue3
  t4 := Tryd.underlying4
  a4 := Tryd.isAgg4
  z4 := Tryd.sizeOf4
  v4 := Tryd.zeroValue4
  t5 := Tryd.underlying5
  a5 := Tryd.isAgg5
  z5 := Tryd.sizeOf5
  v5 := Tryd.zeroValue5
  t9 := Tryd.underlying9
  a9 := Tryd.isAgg9
  z9 := Tryd.sizeOf9
  v9 := Tryd.zeroValue9
  t46 := Tryd.underlying88
  a46 := Tryd.isAgg88
  z46 := Tryd.sizeOf88
  v46 := Tryd.zeroValue88
  t51 := Tryd.underlying95
  a51 := Tryd.isAgg95
  z51 := Tryd.sizeOf95
  v51 := Tryd.zeroValue95
  t59 := Tryd.underlying38
  a59 := Tryd.isAgg38
  z59 := Tryd.sizeOf38
  v59 := Tryd.zeroValue38
  t146 := Tryd.underlying96
  a146 := Tryd.isAgg96
  z146 := Tryd.sizeOf96
  v146 := Tryd.zeroValue96
  g1 := by kernel_rfl }

def Tryd.lays146_ren : Go.Shelf.Ren := ⟨fun | 146 => 17 | 221 => 37 | 268 => 48 | 138 => 49 | 143 => 50 | 195 => 64 | 197 => 65 | 218 => 66 | 219 => 44 | 260 => 74 | 217 => 57 | 225 => 58 | 224 => 59 | 267 => 60 | 266 => 70 | 314 => 71 | n => n, fun | 9 => 9 | 31 => 42 | 3 => 3 | 4 => 4 | 0 => 0 | 105 => 90 | 21 => 21 | 5 => 5 | 46 => 88 | 119 => 111 | 139 => 114 | 138 => 113 | 146 => 96 | 51 => 95 | n => n, fun | 1 => 0 | 3 => 1 | 4 => 2 | n => n⟩
theorem Tryd.lays146 : Go.Proofs.Lays.n146 Tryd.prog Tryd.lays146_ren := {
  mixed := by kernel_rfl
  f138 := Tryd.func49.trans (congrArg some (by kernel_rfl))
  f143 := Tryd.func50.trans (congrArg some (by kernel_rfl))
  f146 := Tryd.func17.trans (congrArg some (by kernel_rfl))
  f195 := Tryd.func64.trans (congrArg some (by kernel_rfl))
  f197 := Tryd.func65.trans (congrArg some (by kernel_rfl))
  f217 := Tryd.func57.trans (congrArg some (by kernel_rfl))
  f218 := Tryd.func66.trans (congrArg some (by kernel_rfl))
  f219 := Tryd.func44.trans (congrArg some (by kernel_rfl))
  f221 := Tryd.func37.trans (congrArg some (by kernel_rfl))
  f224 := Tryd.func59.trans (congrArg some (by kernel_rfl))
  f225 := Tryd.func58.trans (congrArg some (by kernel_rfl))
  f260 := Tryd.func74.trans (congrArg some (by kernel_rfl))
  f266 := Tryd.func70.trans (congrArg some (by kernel_rfl))
  f267 := Tryd.func60.trans (congrArg some (by kernel_rfl))
  f268 := Tryd.func48.trans (congrArg some (by kernel_rfl))
  f314 := Tryd.func71.trans (congrArg some (by kernel_rfl))
  t0 := Tryd.underlying0
  a0 := Tryd.isAgg0
  z0 := Tryd.sizeOf0
  v0 := Tryd.zeroValue0
  t3 := Tryd.underlying3
  a3 := Tryd.isAgg3
  z3 := Tryd.sizeOf3
  v3 := Tryd.zeroValue3
  t4 := Tryd.underlying4
  a4 := Tryd.isAgg4
  z4 := Tryd.sizeOf4
  v4 := Tryd.zeroValue4
  t5 := Tryd.underlying5
  a5 := Tryd.isAgg5
  z5 := Tryd.sizeOf5
  v5 := Tryd.zeroValue5
  t9 := Tryd.underlying9
  a9 := Tryd.isAgg9
  z9 := Tryd.sizeOf9
  v9 := Tryd.zeroValue9
  t21 := Tryd.underlying21
  a21 := Tryd.isAgg21
  z21 := Tryd.sizeOf21
  v21 := Tryd.zeroValue21
  t31 := Tryd.underlying42
  a31 := Tryd.isAgg42
  z31 := Tryd.sizeOf42
  v31 := Tryd.zeroValue42
  t46 := Tryd.underlying88
  a46 := Tryd.isAgg88
  z46 := Tryd.sizeOf88
  v46 := Tryd.zeroValue88
  t51 := Tryd.underlying95
  a51 := Tryd.isAgg95
  z51 := Tryd.sizeOf95
  v51 := Tryd.zeroValue95
  t105 := Tryd.underlying90
  a105 := Tryd.isAgg90
  z105 := Tryd.sizeOf90
  v105 := Tryd.zeroValue90
  t119 := Tryd.underlying111
  a119 := Tryd.isAgg111
  z119 := Tryd.sizeOf111
  t138 := Tryd.underlying113
  a138 := Tryd.isAgg113
  z138 := Tryd.sizeOf113
  v138 := Tryd.zeroValue113
  t139 := Tryd.underlying114
  a139 := Tryd.isAgg114
  z139 := Tryd.sizeOf114
  v139 := Tryd.zeroValue114
  t146 := Tryd.underlying96
  a146 := Tryd.isAgg96
  z146 := Tryd.sizeOf96
  v146 := Tryd.zeroValue96
  g1 := by kernel_rfl
  g3 := by kernel_rfl
  g4 := by kernel_rfl }

def Tryd.lays102_ren : Go.Shelf.Ren := ⟨fun | 102 => 35 | 209 => 45 | 207 => 61 | n => n, fun | 9 => 9 | 4 => 4 | 3 => 3 | n => n, fun | n => n⟩
theorem Tryd.lays102 : Go.Proofs.Lays.n102 Tryd.prog Tryd.lays102_ren := {
  mixed := by kernel_rfl
  f102 := Tryd.func35.trans (congrArg some (by kernel_rfl))
  f207 := Tryd.func61.trans (congrArg some (by kernel_rfl))
  f209 := Tryd.func45.trans (congrArg some (by kernel_rfl))
  t3 := Tryd.underlying3
  a3 := Tryd.isAgg3
  z3 := Tryd.sizeOf3
  v3 := Tryd.zeroValue3
  t4 := Tryd.underlying4
  a4 := Tryd.isAgg4
  z4 := Tryd.sizeOf4
  v4 := Tryd.zeroValue4
  t9 := Tryd.underlying9
  a9 := Tryd.isAgg9
  z9 := Tryd.sizeOf9
  v9 := Tryd.zeroValue9 }

theorem Tryd.Builder_Extra_169 : Builder.Extra Tryd.prog Tryd.lays169_ren := {
  sizeBuilder := by kernel_rfl
  liesBuilder := by kernel_rfl
  t5 := Tryd.underlying5
  a5 := Tryd.isAgg5
  z5 := Tryd.sizeOf5
  v5 := Tryd.zeroValue5
  infoByte := by kernel_rfl
  cellsByte := by kernel_rfl
  sizeByte := by kernel_rfl
  neB5 := by decide }

theorem Tryd.Builder_Extra_156 : Builder.Extra Tryd.prog Tryd.lays156_ren := {
  sizeBuilder := by kernel_rfl
  liesBuilder := by kernel_rfl
  t5 := Tryd.underlying5
  a5 := Tryd.isAgg5
  z5 := Tryd.sizeOf5
  v5 := Tryd.zeroValue5
  infoByte := by kernel_rfl
  cellsByte := by kernel_rfl
  sizeByte := by kernel_rfl
  neB5 := by decide }

def Tryd.lays166_ren : Go.Shelf.Ren := ⟨fun | 166 => 23 | 167 => 25 | 240 => 42 | 276 => 55 | n => n, fun | 0 => 0 | 3 => 3 | 4 => 4 | 5 => 5 | 9 => 9 | 20 => 20 | 37 => 48 | 70 => 47 | 72 => 50 | 75 => 53 | 80 => 59 | 127 => 75 | 164 => 84 | n => n, fun | n => n⟩
theorem Tryd.lays166 : Go.Proofs.Lays.n166 Tryd.prog Tryd.lays166_ren := {
  mixed := by kernel_rfl
  f166 := Tryd.func23.trans (congrArg some (by kernel_rfl))
  f240 := Tryd.func42.trans (congrArg some (by kernel_rfl))
  f276 := Tryd.func55.trans (congrArg some (by kernel_rfl))
  t0 := Tryd.underlying0
  a0 := Tryd.isAgg0
  z0 := Tryd.sizeOf0
  v0 := Tryd.zeroValue0
  t3 := Tryd.underlying3
  a3 := Tryd.isAgg3
  z3 := Tryd.sizeOf3
  v3 := Tryd.zeroValue3
  t4 := Tryd.underlying4
  a4 := Tryd.isAgg4
  z4 := Tryd.sizeOf4
  v4 := Tryd.zeroValue4
  t9 := Tryd.underlying9
  a9 := Tryd.isAgg9
  z9 := Tryd.sizeOf9
  v9 := Tryd.zeroValue9
  t20 := Tryd.underlying20
  a20 := Tryd.isAgg20
  z20 := Tryd.sizeOf20
  v20 := Tryd.zeroValue20
  t37 := Tryd.underlying48
  a37 := Tryd.isAgg48
  z37 := Tryd.sizeOf48
  v37 := Tryd.zeroValue48
  t70 := Tryd.underlying47
  a70 := Tryd.isAgg47
  z70 := Tryd.sizeOf47
  v70 := Tryd.zeroValue47
  t72 := Tryd.underlying50
  a72 := Tryd.isAgg50
  z72 := Tryd.sizeOf50
  v72 := Tryd.zeroValue50
  t75 := Tryd.underlying53
  a75 := Tryd.isAgg53
  z75 := Tryd.sizeOf53
  v75 := Tryd.zeroValue53
  t164 := Tryd.underlying84
  a164 := Tryd.isAgg84
  z164 := Tryd.sizeOf84
  v164 := Tryd.zeroValue84 }
theorem Tryd.Builder_Extra_166 : Builder.Extra Tryd.prog Tryd.lays166_ren := {
  sizeBuilder := by kernel_rfl
  liesBuilder := by kernel_rfl
  t5 := Tryd.underlying5
  a5 := Tryd.isAgg5
  z5 := Tryd.sizeOf5
  v5 := Tryd.zeroValue5
  infoByte := by kernel_rfl
  cellsByte := by kernel_rfl
  sizeByte := by kernel_rfl
  neB5 := by decide }

def Tryd.lays167_ren : Go.Shelf.Ren := ⟨fun | 166 => 23 | 167 => 25 | 240 => 42 | 276 => 55 | n => n, fun | 0 => 0 | 3 => 3 | 4 => 4 | 5 => 5 | 9 => 9 | 20 => 20 | 37 => 48 | 70 => 47 | 72 => 50 | 75 => 53 | 80 => 59 | 127 => 75 | 164 => 84 | n => n, fun | n => n⟩
theorem Tryd.lays167 : Go.Proofs.Lays.n167 Tryd.prog Tryd.lays167_ren := {
  mixed := by kernel_rfl
  f167 := Tryd.func25.trans (congrArg some (by kernel_rfl))
  f240 := Tryd.func42.trans (congrArg some (by kernel_rfl))
  f276 := Tryd.func55.trans (congrArg some (by kernel_rfl))
  t0 := Tryd.underlying0
  a0 := Tryd.isAgg0
  z0 := Tryd.sizeOf0
  v0 := Tryd.zeroValue0
  t4 := Tryd.underlying4
  a4 := Tryd.isAgg4
  z4 := Tryd.sizeOf4
  v4 := Tryd.zeroValue4
  t5 := Tryd.underlying5
  a5 := Tryd.isAgg5
  z5 := Tryd.sizeOf5
  v5 := Tryd.zeroValue5
  t9 := Tryd.underlying9
  a9 := Tryd.isAgg9
  z9 := Tryd.sizeOf9
  v9 := Tryd.zeroValue9
  t20 := Tryd.underlying20
  a20 := Tryd.isAgg20
  z20 := Tryd.sizeOf20
  v20 := Tryd.zeroValue20
  t37 := Tryd.underlying48
  a37 := Tryd.isAgg48
  z37 := Tryd.sizeOf48
  v37 := Tryd.zeroValue48
  t70 := Tryd.underlying47
  a70 := Tryd.isAgg47
  z70 := Tryd.sizeOf47
  v70 := Tryd.zeroValue47
  t72 := Tryd.underlying50
  a72 := Tryd.isAgg50
  z72 := Tryd.sizeOf50
  v72 := Tryd.zeroValue50
  t75 := Tryd.underlying53
  a75 := Tryd.isAgg53
  z75 := Tryd.sizeOf53
  v75 := Tryd.zeroValue53
  t164 := Tryd.underlying84
  a164 := Tryd.isAgg84
  z164 := Tryd.sizeOf84
  v164 := Tryd.zeroValue84 }
theorem Tryd.Builder_Extra_167 : Builder.Extra Tryd.prog Tryd.lays167_ren := {
  sizeBuilder := by kernel_rfl
  liesBuilder := by kernel_rfl
  t5 := Tryd.underlying5
  a5 := Tryd.isAgg5
  z5 := Tryd.sizeOf5
  v5 := Tryd.zeroValue5
  infoByte := by kernel_rfl
  cellsByte := by kernel_rfl
  sizeByte := by kernel_rfl
  neB5 := by decide }

end Go.Proofs
namespace Go.AM
open Go.Proofs Go.Shelf Go.RowKit Go.Lib

theorem below_ext {w w' : World} (h : Below w.heap.size w w') : SameOs w' w ∧ w'.tape = w.tape ∧ w'.output = w.output ∧ w.heap.size ≤ w'.heap.size ∧ ∀ k, k < w.heap.size → w'.heap[k]? = w.heap[k]? :=
  ⟨⟨h.os, fun h => absurd h (by decide)⟩, h.tape, h.output, h.size, h.block⟩
theorem below_drewN (w : World) (n : Nat) : Below w.heap.size w (w.drewN n) := ⟨rfl, rfl, rfl, Nat.le_refl _, fun _ _ => rfl⟩
theorem below_grow (w : World) (k : Nat) (os : Array Obj) : Below w.heap.size w (Go.Sort.grow (w.drewN k) os) := by
  obtain ⟨h1, h2, h3, h4, h5⟩ := grown_keeps w k os
  exact ⟨h1.1, h2, h3, h4, h5⟩

/-- The table of powers, out of what is known of the package variables. -/
theorem gl_tab {Pub : Nat → Prop} {w : World} (h : Gl Pub w) : Lib.TabIs Tryd.prog w "internal/strconv.uint64pow10" .u64 Lib.pow10Tab := by
  obtain ⟨_, o, ho, T, fz, rfl⟩ := h (3, isTab) (by simp [globs])
  have hg : Tryd.prog.globalNamed "internal/strconv.uint64pow10" = some 3 := by kernel_rfl
  unfold Lib.TabIs World.var?
  rw [hg]
  show (match w.heap[3]? with | some (Obj.cells cs _ _) => some cs | _ => none) = _
  rw [ho]
theorem gl_int {Pub : Nat → Prop} {w : World} (h : Gl Pub w) : ∃ m, w.cell? ⟨0, 0, none⟩ = some (.int .i64 m) := by
  obtain ⟨_, o, ho, cs, T, fz, m, rfl, hc⟩ := h (0, isInt) (by simp [globs])
  exact ⟨m, by simp only [World.cell?, ho, Option.bind_some]; exact hc⟩
theorem gl_err {Pub : Nat → Prop} {w : World} (h : Gl Pub w) {g : Nat} (hg : g = 4 ∨ g = 5) : ∃ v, w.cell? ⟨g, 0, none⟩ = some v ∧ (v = .nilIface ∨ ∃ t p, v = .iface t p) := by
  obtain ⟨_, o, ho, cs, T, fz, v, rfl, hc, hv⟩ := h (g, isErr) (by rcases hg with rfl | rfl <;> simp [globs])
  exact ⟨v, by simp only [World.cell?, ho, Option.bind_some]; exact hc, hv⟩
theorem tab_below {w w' : World} (h : Below w.heap.size w w') {zs : List Int} (ht : Lib.TabIs Tryd.prog w "internal/strconv.uint64pow10" .u64 zs) : Lib.TabIs Tryd.prog w' "internal/strconv.uint64pow10" .u64 zs := by
  have hg : Tryd.prog.globalNamed "internal/strconv.uint64pow10" = some 3 := by kernel_rfl
  unfold Lib.TabIs World.var? at ht ⊢
  rw [hg] at ht ⊢
  simp only [Option.bind_some] at ht ⊢
  cases hq : w.heap[3]? with
  | none => rw [hq] at ht; cases ht
  | some o =>
    have hlt : 3 < w.heap.size := (Array.getElem?_eq_some_iff.1 hq).1
    rw [h.block 3 hlt, hq]
    rw [hq] at ht
    exact ht

theorem c_Itoa (n : Int) (h0 : -9223372036854775808 ≤ n) (h1 : n ≤ 9223372036854775807) : Pure Tryd.prog 39 [.i .i64 n] (.s (tx (Lib.itoa n))) := by
  refine pure_ext _ (fun _ _ => .s _ _) ⟨_, _, Tryd.func39, rfl, by kernel_rfl⟩ fun w E vs _ hG hl hv => ?_
  rw [args1 hl (val_i (hv 0 _ rfl))]
  refine (Any.strconv_Itoa Tryd.laysM171 n h0 h1 w (gl_tab hG)).mono ?_
  rintro e w' ⟨rfl, k, os, rfl⟩
  exact ⟨rfl, below_ext (below_grow w k os)⟩

/-- The number that a word is, and whether it is one. -/
def numS (l : List UInt8) : Int × Bool := match Lib.atoiAll l with
  | .ok v => (v, decide (0 ≤ v) && decide (v ≤ 1048576) && (Lib.itoa v == l))
  | .range => (Lib.atoiSat l, false)
  | _ => (0, false)

theorem num_calls (s : ByteArray) (hs : s.size ≤ 281474976710656) (w : World) {Pub : Nat → Prop} (hG : Gl Pub w) :
    Calls Tryd.prog 46 #[.string s] w fun e w' => e = .returned (.tuple #[.int .i64 (numS s.data.toList).1, .bool (numS s.data.toList).2]) ∧ Below w.heap.size w w' := by
  have htab := (gl_tab hG)
  unfold numS
  rcases h : Lib.atoiAll s.data.toList with v | _ | _
  · have c1 : Calls Tryd.prog 62 #[.string s] w _ := Any.strconv_Atoi_ok Tryd.laysC172 s (by omega) v h w
    have c1 := Calls.mono (R' := fun e w' => e = .returned (.tuple #[.int .i64 v, .nilIface]) ∧ Below w.heap.size w w') c1 (by
      rintro e w' ⟨rfl, rfl | ⟨t, rfl⟩⟩
      · exact ⟨rfl, .refl _ _⟩
      · exact ⟨rfl, bytesWorld_below _ _ _⟩)
    have c2 : 0 ≤ v → v ≤ 1048576 → ∀ w', Below w.heap.size w w' → Calls Tryd.prog 39 #[.int .i64 v] w' fun e w'' => e = .returned (.string ⟨(Lib.itoa v).toArray⟩) ∧ Below w.heap.size w w'' := fun h0 h1 w' hb => by
      refine Calls.mono (Any.strconv_Itoa Tryd.laysM171 v (by omega) (by omega) w' (tab_below hb htab)) ?_
      rintro e w'' ⟨rfl, k, os, rfl⟩
      exact ⟨rfl, hb.trans ((below_grow w' k os).mono hb.size)⟩
    go_enter Tryd.func46, Tryd.ntmps46
    go_wp2_with (first
      | (go_at_call 62; refine c1.mono ?_; rintro e w' ⟨rfl, hb⟩)
      | (go_at_call 39; refine (c2 (by assumption) (by assumption) _ (by assumption)).mono ?_; rintro e w'' ⟨rfl, hb2⟩))
    all_goals go_ret2
    all_goals refine ⟨?_, by first | assumption | exact Below.trans (by assumption) (Below.mono (by assumption) (Below.size (by assumption)))⟩
    all_goals (simp [ByteArray.toList_eq, *] <;> (try (intros; omega)))
  · obtain ⟨ev, hv, hev⟩ := gl_err hG (.inl rfl)
    have c1 : Calls Tryd.prog 62 #[.string s] w _ := Any.strconv_Atoi_syntax Tryd.laysC172 s hs h ev w hv hev
    go_enter Tryd.func46, Tryd.ntmps46
    go_wp2_with (first
      | (go_at_call 62; refine c1.mono ?_; rintro e w' ⟨N, rfl, _, _, hb⟩)
      | (go_at_call 39; fail))
    all_goals go_ret2
    all_goals exact ⟨by simp, hb⟩
  · obtain ⟨ev, hv, hev⟩ := gl_err hG (.inr rfl)
    have c1 : Calls Tryd.prog 62 #[.string s] w _ := Any.strconv_Atoi_range Tryd.laysC172 s hs h ev w hv hev
    go_enter Tryd.func46, Tryd.ntmps46
    go_wp2_with (first
      | (go_at_call 62; refine c1.mono ?_; rintro e w' ⟨N, rfl, _, _, hb⟩)
      | (go_at_call 39; fail))
    all_goals go_ret2
    all_goals exact ⟨by simp, hb⟩
theorem val_tup2 {E : Env} {p : Place} {a b : AV} {x y : Value} (h0 : ∀ q, Val E q a x) (h1 : ∀ q, Val E q b y) : Val E p (.tup [a, b]) (.tuple #[x, y]) := by
  refine .tup _ _ _ rfl fun k c hk => ?_
  match k, hk with
  | 0, hk => obtain rfl := Option.some.inj hk; exact h0 _
  | 1, hk => obtain rfl := Option.some.inj hk; exact h1 _
theorem val_tup3 {E : Env} {p : Place} {a b c : AV} {x y z : Value} (h0 : ∀ q, Val E q a x) (h1 : ∀ q, Val E q b y) (h2 : ∀ q, Val E q c z) : Val E p (.tup [a, b, c]) (.tuple #[x, y, z]) := by
  refine .tup _ _ _ rfl fun k d hk => ?_
  match k, hk with
  | 0, hk => obtain rfl := Option.some.inj hk; exact h0 _
  | 1, hk => obtain rfl := Option.some.inj hk; exact h1 _
  | 2, hk => obtain rfl := Option.some.inj hk; exact h2 _
theorem c_number (l : List UInt8) (hs : l.length ≤ 281474976710656) : Pure Tryd.prog 46 [.s (tx l)] (.tup [.i .i64 (numS l).1, .b (numS l).2]) := by
  refine pure_ext _ (fun _ _ => val_tup2 (fun _ => .i _ _ _) fun _ => .b _ _) ⟨_, _, Tryd.func46, rfl, by kernel_rfl⟩ fun w E vs _ hG hl hv => ?_
  rw [args1 hl (val_s (hv 0 _ rfl))]
  refine (num_calls (tx l) (by simp; exact hs) w hG).mono ?_
  rintro e w' ⟨rfl, hb⟩
  exact ⟨by simp, below_ext hb⟩

/-- A text's parts, parted by a byte. -/
def spl (c : UInt8) : List UInt8 → List (List UInt8)
  | [] => [[]]
  | b :: l => if b = c then [] :: spl c l else match spl c l with
    | [] => [[b]]
    | x :: r => (b :: x) :: r
theorem spl_ne (c : UInt8) (l : List UInt8) : spl c l ≠ [] := by
  cases l with
  | nil => simp [spl]
  | cons b l =>
    unfold spl
    split
    · simp
    · split <;> simp
theorem spl_none {c : UInt8} {l : List UInt8} (h : c ∉ l) : spl c l = [l] := by
  induction l with
  | nil => rfl
  | cons b l ih =>
    simp only [List.mem_cons, not_or] at h
    rw [spl, if_neg (fun e => h.1 e.symm), ih h.2]
theorem spl_hit {c : UInt8} {a r : List UInt8} (h : c ∉ a) : spl c (a ++ c :: r) = a :: spl c r := by
  induction a with
  | nil => simp [spl]
  | cons b l ih =>
    simp only [List.mem_cons, not_or] at h
    rw [List.cons_append, spl, if_neg (fun e => h.1 e.symm), ih h.2]
theorem byte_cases (c : UInt8) (l : List UInt8) : (Lib.indexByte l c = -1 ∧ c ∉ l) ∨ ∃ a r, l = a ++ c :: r ∧ c ∉ a ∧ Lib.indexByte l c = (a.length : Int) := by
  induction l with
  | nil => exact .inl ⟨rfl, by simp⟩
  | cons b l ih =>
    unfold Lib.indexByte
    by_cases hb : b = c
    · subst hb
      exact .inr ⟨[], l, rfl, by simp, by simp⟩
    · rw [if_neg (by simpa using hb)]
      rcases ih with ⟨h1, h2⟩ | ⟨a, r, rfl, h2, h3⟩
      · exact .inl ⟨by rw [h1]; rfl, by simp [h2]; exact fun e => hb e.symm⟩
      · refine .inr ⟨b :: a, r, rfl, by simp [h2]; exact fun e => hb e.symm, ?_⟩
        rw [if_neg (by rw [h3]; simp), h3]
        simp
theorem indexB_tx (l : List UInt8) (c : UInt8) : Lib.indexB (tx l) (tx [c]) = Lib.indexByte l c := by
  unfold Lib.indexB
  rw [show (tx l).data.toList = l by simp, show (tx [c]).data.toList = [c] by simp, Lib.index_one]
theorem splitB_spl (c : UInt8) : ∀ (k : Nat) (l : List UInt8), Lib.countB (tx l) (tx [c]) = k → Lib.splitB (tx [c]) 0 k (tx l) = (spl c l).map tx := by
  intro k
  induction k with
  | zero =>
    intro l h
    rcases byte_cases c l with ⟨h1, h2⟩ | ⟨a, r, rfl, h2, h3⟩
    · rw [spl_none h2]; rfl
    · have := Lib.countB_hit (tx (a ++ c :: r)) (tx [c]) a.length (by simp) (by rw [indexB_tx]; exact h3)
      omega
  | succ k ih =>
    intro l h
    rcases byte_cases c l with ⟨h1, h2⟩ | ⟨a, r, rfl, h2, h3⟩
    · have := Lib.countB_miss (tx l) (tx [c]) (by rw [indexB_tx]; exact h1)
      omega
    · have hi : Lib.indexB (tx (a ++ c :: r)) (tx [c]) = (a.length : Int) := by rw [indexB_tx]; exact h3
      have hc := Lib.countB_hit (tx (a ++ c :: r)) (tx [c]) a.length (by simp) hi
      rw [Lib.splitB_hit _ _ _ _ _ hi]
      have e : (tx (a ++ c :: r)).extract (a.length + (tx [c]).size) (tx (a ++ c :: r)).size = tx r := by
        have h5 : (a ++ c :: r).take (a.length + (r.length + 1)) = a ++ c :: r := List.take_of_length_le (by simp)
        simp [h5]
      rw [e] at hc ⊢
      rw [ih r (by omega), spl_hit h2]
      simp

theorem c_Split (l : List UInt8) (c : UInt8) (hs : l.length < 4294967281) : Pure Tryd.prog 17 [.s (tx l), .s (tx [c])] (.sl .fro 1 (strsAV ((spl c l).map tx))) := by
  refine ⟨⟨_, _, Tryd.func17, rfl, by kernel_rfl⟩, fun w β ω Pub vs R hω hl hv => ?_⟩
  rw [args2 (E := ⟨w, fun _ => 0, fun _ => none, fun _ => True, St.ofBoxes [], #[]⟩) hl (val_s (hv 0 _ rfl)) (val_s (hv 1 _ rfl))]
  obtain ⟨m, hm⟩ := gl_int R.gl
  have hlen := Lib.splitB_all (tx [c]) (by simp) 0 _ (tx l) rfl
  have hsp := splitB_spl c _ l rfl
  refine (Any.strings_Split Tryd.lays146 (by kernel_rfl) (tx l) (tx [c]) m w (by simp; exact hs) hm (by simp)).mono ?_
  rw [← hlen, hsp]
  rintro e w' ⟨rfl, rfl⟩
  have hpl : ∀ bk, Pub bk → bk < w.heap.size := fun bk h => (R.pub bk h).1
  have hold : ∀ k (o : Obj), k < w.heap.size → (w.alloc o).heap[k]? = w.heap[k]? := fun k o hk => Below.heap_alloc w o k hk
  refine ⟨_, ⟨_, β, fun _ => none, fun bk => Pub bk ∨ bk = w.heap.size, St.ofBoxes [], #[]⟩, rfl, rfl, ⟨⟨rfl, fun t => .any _ _, fun id cs h => (by cases h), fun bk h => ⟨?_, rfl⟩, fun bk q h => (by cases h), fun id h => (by cases h), R.gl.mono fun bk h => ⟨.inl h, hold bk _ (hpl bk h)⟩⟩,
    ⟨⟨rfl, fun h => absurd h (by decide)⟩, rfl, rfl, by simp, fun k hk _ => hold k _ hk, fun k q h => (by cases h), fun _ h => .inl h, fun bk h => ?_, fun _ _ => rfl⟩⟩, rfl, fun bk q h => (by cases h), ?_⟩
  · rcases h with h | rfl
    · have := hpl bk h
      simp; omega
    · simp
  · rcases h with h | rfl
    · exact .inl h
    · exact .inr (.inl (Nat.le_refl _))
  · have hsl := @Val.sl ⟨w.alloc (.cells (((spl c l).map tx).map Value.string).toArray (Tryd.lays146_ren.t 9)), β, fun _ => none, fun bk => Pub bk ∨ bk = w.heap.size, St.ofBoxes [], #[]⟩ (.slot 0 []) .fro 1 (strsAV ((spl c l).map tx)) w.heap.size 0 (strsAV ((spl c l).map tx)).length (Nat.le_refl _)
      ⟨fun x hx => ?_, fun k cc hk => ?_⟩ (.inr rfl) trivial
    · simpa using hsl
    · simp only [strsAV, List.mem_map] at hx
      obtain ⟨_, _, rfl⟩ := hx
      rfl
    · have hf : (strsAV ((spl c l).map tx)).flatten = ((spl c l).map tx).map AV.s := by
        generalize (spl c l).map tx = ls
        induction ls with
        | nil => rfl
        | cons x ls ih => simpa [strsAV] using ih
      rw [hf, List.getElem?_map] at hk
      obtain ⟨x, hx, rfl⟩ := Option.map_eq_some_iff.1 hk
      refine ⟨.string x, ?_, .s x, rfl⟩
      simp only [World.cell?, Nat.zero_add]
      have h1 : (w.alloc (.cells (((spl c l).map tx).map Value.string).toArray (Tryd.lays146_ren.t 9))).heap[w.heap.size]? = some (.cells (((spl c l).map tx).map Value.string).toArray (Tryd.lays146_ren.t 9)) := by
        show (w.heap.push _)[w.heap.size]? = _
        simp
      rw [h1]
      simp only [Option.bind_some]
      rw [List.getElem?_toArray, List.getElem?_map, hx]
      rfl

/-- A text before a byte, behind it, and whether it is there. -/
def cutS (c : UInt8) (l : List UInt8) : List UInt8 × List UInt8 × Bool := Lib.cut l [c]
theorem cutS_none {c : UInt8} {l : List UInt8} (h : c ∉ l) : cutS c l = (l, [], false) := by
  rcases byte_cases c l with ⟨h1, h2⟩ | ⟨a, r, rfl, h2, h3⟩
  · unfold cutS Lib.cut
    rw [Lib.index_one, h1]; rfl
  · exact absurd (by simp) h
theorem cutS_hit {c : UInt8} {a r : List UInt8} (h : c ∉ a) : cutS c (a ++ c :: r) = (a, r, true) := by
  rcases byte_cases c (a ++ c :: r) with ⟨h1, h2⟩ | ⟨a', r', he, h2, h3⟩
  · exact absurd (by simp) h2
  · have h4 := spl_hit (r := r) h
    rw [he, spl_hit h2] at h4
    have e1 : a' = a := (List.cons.inj h4).1
    subst e1
    unfold cutS Lib.cut
    rw [Lib.index_one, h3, if_pos (by omega)]
    simp
theorem c_Cut (l : List UInt8) (c : UInt8) (hs : l.length < 4294967281) : Pure Tryd.prog 15 [.s (tx l), .s (tx [c])] (.tup [.s (tx (cutS c l).1), .s (tx (cutS c l).2.1), .b (cutS c l).2.2]) := by
  refine pure_ext _ (fun _ _ => val_tup3 (fun _ => .s _ _) (fun _ => .s _ _) fun _ => .b _ _) ⟨_, _, Tryd.func15, rfl, by kernel_rfl⟩ fun w E vs _ hG hl hv => ?_
  rw [args2 (E := ⟨w, fun _ => 0, fun _ => none, fun _ => True, St.ofBoxes [], #[]⟩) hl (val_s (hv 0 _ rfl)) (val_s (hv 1 _ rfl))]
  obtain ⟨m, hm⟩ := gl_int hG
  refine (Any.strings_Cut Tryd.lays145 (tx l) (tx [c]) m w (by simp; exact hs) hm).mono ?_
  rintro e w' ⟨rfl, n, rfl⟩
  exact ⟨by simp [cutS], below_ext (below_drewN w n)⟩
theorem c_IndexByte (l : List UInt8) (c : Int) : Pure Tryd.prog 63 [.s (tx l), .i .u8 c] (.i .i64 (Lib.indexByte l c.toNat.toUInt8)) := by
  have : Pure Tryd.prog 63 _ _ := pure_indexByte Tryd.lays137 (tx l) c
  simpa using this
theorem c_TrimSuffix (l c : List UInt8) (hs : l.length ≤ 1000000) : Pure Tryd.prog 35 [.s (tx l), .s (tx c)] (.s (tx (Lib.trimSuffix l c))) := by
  have : Pure Tryd.prog 35 _ _ := pure_trimSuffix Tryd.lays102 (tx l) (tx c) (by simp; omega)
  simpa using this
end Go.AM
namespace Go.AM
open Go.Proofs

def intsAV (l : List Int) : List (List AV) := l.map fun n => [.i .i64 n]
@[simp] theorem intsAV_length (l : List Int) : (intsAV l).length = l.length := by simp [intsAV]
@[simp] theorem intsAV_getElem (l : List Int) (i : Nat) (h : i < (intsAV l).length) : (intsAV l)[i] = [.i .i64 (l[i]'(by simpa using h))] := by simp [intsAV]
theorem intsAV_snoc (l : List Int) (x : Int) : intsAV (l ++ [x]) = intsAV l ++ [[.i .i64 x]] := by simp [intsAV]
@[ext] structure Sact where
  kind : Int
  rep : Int
  to : Int
  of : Int
  key : List UInt8
  word : List UInt8
  n : Int
  keep : List Int
  deriving DecidableEq
def sactC (a : Sact) : List AV := [.i .i64 a.kind, .i .i64 a.rep, .i .i64 a.to, .i .i64 a.of, .s (tx a.key), .s (tx a.word), .i .i64 a.n, .sl .fro 1 (intsAV a.keep)]
def sactsAV (l : List Sact) : List (List AV) := l.map sactC
@[simp] theorem sactsAV_length (l : List Sact) : (sactsAV l).length = l.length := by simp [sactsAV]
@[simp] theorem sactsAV_getElem (l : List Sact) (i : Nat) (h : i < (sactsAV l).length) : (sactsAV l)[i] = sactC (l[i]'(by simpa using h)) := by simp [sactsAV]
theorem sactC_length (a : Sact) : (sactC a).length = 8 := rfl
/-- Acts whose lists are not too long for an int. -/
def Mild (a : Sact) : Prop := a.keep.length ≤ 140737488355328

set_option maxRecDepth 8000 in
theorem c_Equal_Int (us vs : List Int) (hlen : us.length ≤ 140737488355328) : Pure Tryd.prog 41 [.sl .fro 1 (intsAV us), .sl .fro 1 (intsAV vs)] (.b (decide (us = vs))) := by
  refine proc_of (cx Tryd.prog 26 [0, 1, 4, 5, 10, 12, 13, 14, 24] [4]) 24 [.tmp 4] Tryd.func41 rfl rfl rfl rfl rfl rfl (Nat.le_refl _) rfl ?_
  refine AWp.go [0, 1] [] fun K hK => ?_
  simp
  first | refine hK _ _ ?_ | refine ⟨by omega, hK _ _ ?_⟩ | refine ⟨by omega, by omega, hK _ _ ?_⟩
  clear hK K
  refine AWp.seq ?_
  refine AWp.go [0, 1, 10] [] fun K hK => ?_
  simp
  first | refine hK _ _ ?_ | refine ⟨by omega, hK _ _ ?_⟩ | refine ⟨by omega, by omega, hK _ _ ?_⟩
  clear hK K
  by_cases hl : us.length = vs.length
  · refine AWp.cond (t := false) (by first | (simp [hl]; done) | (simp [hl]; omega)) (by simp) (fun _ => ?_)
    refine AWp.skip ?_
    show AWp _ _ _ _
    refine AWp.seq ?_
    refine AWp.go [0, 1, 12, 13] [] fun K hK => ?_
    simp
    first | refine hK _ _ ?_ | refine ⟨by omega, hK _ _ ?_⟩ | refine ⟨by omega, by omega, hK _ _ ?_⟩
    clear hK K
    refine AWp.block (AWp.while (fun i : Nat => [(0, .sl .fro 1 (intsAV us)), (1, .sl .fro 1 (intsAV vs)), (12, .i .i64 us.length), (13, .i .i64 i)]) (fun i => []) (fun i => i ≤ us.length ∧ us.take i = vs.take i) (fun i => us.length - i) [0, 1, 12, 13] [] 0 (by simp) (by simp) ?_)
    intro i hi
    have hiv : i < us.length → i < vs.length := fun h => by omega
    refine AWp.go [0, 1, 12, 13, 14] [] fun K hK => ?_
    simp
    first | refine hK _ _ ?_ | refine ⟨by omega, hK _ _ ?_⟩ | refine ⟨by omega, by omega, hK _ _ ?_⟩
    clear hK K
    refine AWp.seq ?_
    by_cases h : i < us.length
    · refine AWp.cond (t := true) (by first | (simp [h]; done) | (simp [h]; omega)) (fun _ => ?_) (by simp)
      refine AWp.skip ?_
      show AWp _ _ _ _
      refine AWp.seq ?_
      refine AWp.block ?_
      refine AWp.go [0, 1, 5, 12, 13] [] fun K hK => ?_
      simp
      first | refine hK _ _ ?_ | refine ⟨by omega, hK _ _ ?_⟩ | refine ⟨by omega, by omega, hK _ _ ?_⟩
      clear hK K
      refine AWp.goD 9 (fun _ => .any) [0, 1, 12, 13, 24] [] mix (by kernel_rfl) fun K hK => ?_
      simp [h, hiv h]
      refine hK _ _ ?_
      clear hK K
      by_cases he : us[i] = vs[i]'(hiv h)
      · refine AWp.cond (t := false) (by simp [he]) (by simp) (fun _ => ?_)
        refine AWp.skip ?_
        show AWp _ _ _ _
        refine AWp.goLast [0, 1, 12, 13] [] fun K hK => ?_
        simp
        first | refine hK _ _ ?_ | refine ⟨by omega, hK _ _ ?_⟩ | refine ⟨by omega, by omega, hK _ _ ?_⟩
        clear hK K
        refine ⟨i + 1, ⟨by omega, ?_⟩, by omega, ?_⟩
        · rw [List.take_succ_eq_append_getElem h, List.take_succ_eq_append_getElem (hiv h), hi.2, he]
        · simp
          exact wrap64 (by omega) (by omega)
      · refine AWp.cond (t := true) (by simp [he]) (fun _ => ?_) (by simp)
        refine AWp.go [4] [] fun K hK => ?_
        simp
        first | refine hK _ _ ?_ | refine ⟨by omega, hK _ _ ?_⟩ | refine ⟨by omega, by omega, hK _ _ ?_⟩
        clear hK K
        refine AWp.ret ?_
        simp
        intro hh; subst hh; exact he rfl
    · refine AWp.cond (t := false) (by first | (simp [h]; done) | (simp [h]; omega)) (by simp) (fun _ => ?_)
      refine AWp.exit ?_
      show AWp _ _ _ _
      refine AWp.go [4] [] fun K hK => ?_
      simp
      first | refine hK _ _ ?_ | refine ⟨by omega, hK _ _ ?_⟩ | refine ⟨by omega, by omega, hK _ _ ?_⟩
      clear hK K
      refine AWp.ret ?_
      have hil : i = us.length := by omega
      have := hi.2
      rw [hil, List.take_length, hl, List.take_length] at this
      simp [this]
  · refine AWp.cond (t := true) (by first | (simp [hl]; done) | (simp [hl]; omega)) (fun _ => ?_) (by simp)
    
    refine AWp.go [4] [] fun K hK => ?_
    simp
    first | refine hK _ _ ?_ | refine ⟨by omega, hK _ _ ?_⟩ | refine ⟨by omega, by omega, hK _ _ ?_⟩
    clear hK K
    refine AWp.ret ?_
    simp
    intro h; subst h; exact hl rfl

/-- All but what is kept. -/
def headB (a b : Sact) : Bool := decide (a.kind = b.kind) && decide (a.rep = b.rep) && decide (a.to = b.to) && decide (a.of = b.of) && decide (a.key = b.key) && decide (a.word = b.word) && decide (a.n = b.n)
theorem sact_eq (a b : Sact) : decide (a = b) = (headB a b && decide (a.keep = b.keep)) := by
  rw [Bool.eq_iff_iff]
  simp [headB, Sact.ext_iff, and_assoc]
set_option maxRecDepth 8000 in
set_option maxHeartbeats 4000000 in
theorem c_script_same (a b : Sact) (ha : Mild a) : Pure Tryd.prog 22 [.agg (sactC a), .agg (sactC b)] (.b (decide (a = b))) := by
  refine proc_of (cx Tryd.prog 59 [2, 3, 4] [4]) 57 [.tmp 4] Tryd.func22 rfl rfl rfl rfl rfl rfl (Nat.le_refl _) rfl ?_
  refine AWp.go [2, 3] [2, 3] fun K hK => ?_
  simp [sactC]
  first | refine hK _ _ ?_ | refine ⟨by omega, hK _ _ ?_⟩ | refine ⟨by omega, by omega, hK _ _ ?_⟩
  clear hK K
  refine AWp.step [4] [] [(4, .b (decide (a = b)))] [] ?_ ?_
  · rw [sact_eq]
    unfold headB
    have g := c_Equal_Int a.keep b.keep ha
    by_cases q1 : a.kind = b.kind
    · by_cases q2 : a.rep = b.rep
      · by_cases q3 : a.to = b.to
        · by_cases q4 : a.of = b.of
          · by_cases q5 : a.key = b.key
            · by_cases q6 : a.word = b.word
              · by_cases q7 : a.n = b.n
                · simp [q1, q2, q3, q4, q5, q6, q7]
                  refine call_pure g (by simp) ?_
                  simp
                · simp [q1, q2, q3, q4, q5, q6, q7]
              · have e6 : (a.word == b.word) = false := by simpa using q6
                simp [q1, q2, q3, q4, q5, e6, q6]
            · have e5 : (a.key == b.key) = false := by simpa using q5
              simp [q1, q2, q3, q4, e5, q5]
          · simp [q1, q2, q3, q4]
        · simp [q1, q2, q3]
      · simp [q1, q2]
    · simp [q1]
  refine AWp.ret ?_
  simp
set_option maxRecDepth 8000 in
set_option maxHeartbeats 4000000 in
theorem c_ref33_One (a b : Sact) (ha : Mild a) : Pure Tryd.prog 20 [.agg (sactC a), .agg (sactC b)] (.b (decide (a = b))) := by
  have ha : a.keep.length ≤ 140737488355328 := ha
  refine proc_of (cx Tryd.prog 80 [2, 3, 4, 5, 61, 66, 79] [4]) 78 [.tmp 4] Tryd.func20 rfl rfl rfl rfl rfl rfl (Nat.le_refl _) rfl ?_
  refine AWp.go [2, 3] [2, 3] fun K hK => ?_
  simp [sactC]
  first | refine hK _ _ ?_ | refine ⟨by omega, hK _ _ ?_⟩ | refine ⟨by omega, by omega, hK _ _ ?_⟩
  clear hK K
  refine AWp.seq ?_
  refine AWp.step [2, 3, 61] [2, 3] [(2, .ptr 2 0), (3, .ptr 3 0), (61, .b (!(headB a b && decide ((a.keep.length : Int) = b.keep.length))))] [(2, [.i .i64 a.kind, .i .i64 a.rep, .i .i64 a.to, .i .i64 a.of, .s (tx a.key), .s (tx a.word), .i .i64 a.n, .sl .fro 1 (intsAV a.keep)]), (3, [.i .i64 b.kind, .i .i64 b.rep, .i .i64 b.to, .i .i64 b.of, .s (tx b.key), .s (tx b.word), .i .i64 b.n, .sl .fro 1 (intsAV b.keep)])] ?_ ?_
  · unfold headB
    by_cases q1 : a.kind = b.kind
    · by_cases q2 : a.rep = b.rep
      · by_cases q3 : a.to = b.to
        · by_cases q4 : a.of = b.of
          · by_cases q5 : a.key = b.key
            · by_cases q6 : a.word = b.word
              · by_cases q7 : a.n = b.n
                · by_cases q8 : (a.keep.length : Int) = b.keep.length
                  · simp [q1, q2, q3, q4, q5, q6, q7, q8]
                  · simp [q1, q2, q3, q4, q5, q6, q7, q8]
                · simp [q1, q2, q3, q4, q5, q6, q7]
              · have e6 : (a.word == b.word) = false := by simpa using q6
                simp [q1, q2, q3, q4, q5, e6, q6]
            · have e5 : (a.key == b.key) = false := by simpa using q5
              simp [q1, q2, q3, q4, e5, q5]
          · simp [q1, q2, q3, q4]
        · simp [q1, q2, q3]
      · simp [q1, q2]
    · simp [q1]
  cases hq : headB a b && decide ((a.keep.length : Int) = b.keep.length)
  · refine AWp.cond (t := true) (by simp) (fun _ => ?_) (by simp)
    refine AWp.go [4] [2, 3] fun K hK => ?_
    simp
    first | refine hK _ _ ?_ | refine ⟨by omega, hK _ _ ?_⟩ | refine ⟨by omega, by omega, hK _ _ ?_⟩
    clear hK K
    refine AWp.ret ?_
    simp
    rintro rfl
    simp [headB] at hq
  · refine AWp.cond (t := false) (by simp) (by simp) (fun _ => ?_)
    refine AWp.skip ?_
    show AWp _ _ _ _
    refine AWp.seq ?_
    simp only [Bool.and_eq_true, decide_eq_true_eq] at hq
    have hl : a.keep.length = b.keep.length := by omega
    refine AWp.go [2, 3, 5] [2, 3] fun K hK => ?_
    simp
    first | refine hK _ _ ?_ | refine ⟨by omega, hK _ _ ?_⟩ | refine ⟨by omega, by omega, hK _ _ ?_⟩
    clear hK K
    refine AWp.block (AWp.while (fun i : Nat => [(2, .ptr 2 0), (3, .ptr 3 0), (5, .i .i64 i)]) (fun i => [(2, [.i .i64 a.kind, .i .i64 a.rep, .i .i64 a.to, .i .i64 a.of, .s (tx a.key), .s (tx a.word), .i .i64 a.n, .sl .fro 1 (intsAV a.keep)]), (3, [.i .i64 b.kind, .i .i64 b.rep, .i .i64 b.to, .i .i64 b.of, .s (tx b.key), .s (tx b.word), .i .i64 b.n, .sl .fro 1 (intsAV b.keep)])]) (fun i => i ≤ a.keep.length ∧ a.keep.take i = b.keep.take i) (fun i => a.keep.length - i) [2, 3, 5] [2, 3] 0 (by simp) (by simp) ?_)
    intro i hi
    have hiv : i < a.keep.length → i < b.keep.length := fun h => by omega
    refine AWp.seq ?_
    refine AWp.go [2, 3, 5, 66] [2, 3] fun K hK => ?_
    simp
    first | refine hK _ _ ?_ | refine ⟨by omega, hK _ _ ?_⟩ | refine ⟨by omega, by omega, hK _ _ ?_⟩
    clear hK K
    by_cases h : i < a.keep.length
    · refine AWp.cond (t := true) (by first | (simp [h]; done) | (simp [h]; omega)) (fun _ => ?_) (by simp)
      refine AWp.skip ?_
      show AWp _ _ _ _
      refine AWp.seq ?_
      refine AWp.block ?_
      have h2 := hiv h
      refine AWp.goD 11 (fun _ => .any) [2, 3, 5, 79] [2, 3] mix (by kernel_rfl) fun K hK => ?_
      simp [h, h2]
      first | refine hK _ _ ?_ | refine ⟨by omega, hK _ _ ?_⟩ | refine ⟨by omega, by omega, hK _ _ ?_⟩
      clear hK K
      by_cases he : a.keep[i] = b.keep[i]'(hiv h)
      · refine AWp.cond (t := false) (by simp [he]) (by simp) (fun _ => ?_)
        refine AWp.skip ?_
        show AWp _ _ _ _
        refine AWp.goLast [2, 3, 5] [2, 3] fun K hK => ?_
        simp
        first | refine hK _ _ ?_ | refine ⟨by omega, hK _ _ ?_⟩ | refine ⟨by omega, by omega, hK _ _ ?_⟩
        clear hK K
        refine ⟨i + 1, ⟨by omega, ?_⟩, by omega, ?_⟩
        · rw [List.take_succ_eq_append_getElem h, List.take_succ_eq_append_getElem (hiv h), hi.2, he]
        · simp
          exact wrap64 (by omega) (by omega)
      · refine AWp.cond (t := true) (by simp [he]) (fun _ => ?_) (by simp)
        refine AWp.go [4] [2, 3] fun K hK => ?_
        simp
        first | refine hK _ _ ?_ | refine ⟨by omega, hK _ _ ?_⟩ | refine ⟨by omega, by omega, hK _ _ ?_⟩
        clear hK K
        refine AWp.ret ?_
        simp
        rintro rfl
        exact he rfl
    · refine AWp.cond (t := false) (by first | (simp [h]; done) | (simp [h]; omega)) (by simp) (fun _ => ?_)
      refine AWp.exit ?_
      show AWp _ _ _ _
      refine AWp.go [4] [2, 3] fun K hK => ?_
      simp
      first | refine hK _ _ ?_ | refine ⟨by omega, hK _ _ ?_⟩ | refine ⟨by omega, by omega, hK _ _ ?_⟩
      clear hK K
      refine AWp.ret ?_
      have hil : i = a.keep.length := by omega
      have := hi.2
      rw [hil, List.take_length, hl, List.take_length] at this
      rw [sact_eq, hq.1, this]
      simp
set_option maxRecDepth 8000 in
set_option maxHeartbeats 2000000 in
theorem c_EqualFunc_Act (us vs : List Sact) (hlen : us.length ≤ 140737488355328) (hm : ∀ a ∈ us, Mild a) : Pure Tryd.prog 28 [.sl .fro 8 (sactsAV us), .sl .fro 8 (sactsAV vs), .fn 22 [] []] (.b (decide (us = vs))) := by
  refine proc_of (cx Tryd.prog 32 [0, 1, 2, 6, 7, 8, 9, 14, 15, 16, 17, 18, 30] [6]) 29 [.tmp 6] Tryd.func28 rfl rfl rfl rfl rfl rfl (Nat.le_refl _) rfl ?_
  refine AWp.go [0, 1, 2] [] fun K hK => ?_
  simp
  first | refine hK _ _ ?_ | refine ⟨by omega, hK _ _ ?_⟩ | refine ⟨by omega, by omega, hK _ _ ?_⟩
  clear hK K
  refine AWp.seq ?_
  refine AWp.go [0, 1, 2, 14] [] fun K hK => ?_
  simp
  first | refine hK _ _ ?_ | refine ⟨by omega, hK _ _ ?_⟩ | refine ⟨by omega, by omega, hK _ _ ?_⟩
  clear hK K
  by_cases hl : (us.length : Int) = vs.length
  · refine AWp.cond (t := false) (by first | (simp [hl]; done) | (simp [hl]; omega)) (by simp) (fun _ => ?_)
    refine AWp.skip ?_
    show AWp _ _ _ _
    refine AWp.seq ?_
    have hl : us.length = vs.length := by omega
    refine AWp.go [1, 2, 15, 16, 17] [] fun K hK => ?_
    simp
    first | refine hK _ _ ?_ | refine ⟨by omega, hK _ _ ?_⟩ | refine ⟨by omega, by omega, hK _ _ ?_⟩
    clear hK K
    refine AWp.block (AWp.while (fun i : Nat => [(1, .sl .fro 8 (sactsAV vs)), (2, .fn 22 [] []), (15, .sl .fro 8 (sactsAV us)), (16, .i .i64 us.length), (17, .i .i64 i)]) (fun i => []) (fun i => i ≤ us.length ∧ us.take i = vs.take i) (fun i => us.length - i) [1, 2, 15, 16, 17] [] 0 (by simp) (by simp) ?_)
    intro i hi
    have hiv : i < us.length → i < vs.length := fun h => by omega
    refine AWp.go [1, 2, 15, 16, 17, 18] [] fun K hK => ?_
    simp
    first | refine hK _ _ ?_ | refine ⟨by omega, hK _ _ ?_⟩ | refine ⟨by omega, by omega, hK _ _ ?_⟩
    clear hK K
    refine AWp.seq ?_
    by_cases h : i < us.length
    · refine AWp.cond (t := true) (by first | (simp [h]; done) | (simp [h]; omega)) (fun _ => ?_) (by simp)
      refine AWp.skip ?_
      show AWp _ _ _ _
      refine AWp.seq ?_
      refine AWp.block ?_
      refine AWp.go [1, 2, 7, 8, 15, 16, 17] [8] fun K hK => ?_
      simp [h, sactC]
      first | refine hK _ _ ?_ | refine ⟨by omega, hK _ _ ?_⟩ | refine ⟨by omega, by omega, hK _ _ ?_⟩
      clear hK K
      have h2 := hiv h
      refine AWp.go [1, 2, 8, 9, 15, 16, 17] [8, 9] fun K hK => ?_
      simp [h2, sactC]
      first | refine hK _ _ ?_ | refine ⟨by omega, hK _ _ ?_⟩ | refine ⟨by omega, by omega, hK _ _ ?_⟩
      clear hK K
      refine AWp.go [1, 2, 15, 16, 17, 30] [] fun K hK => ?_
      simp
      refine call_pure (c_script_same us[i] vs[i] (hm _ (List.getElem_mem h))) (by simp [sactC]) ?_
      simp
      first | refine hK _ _ ?_ | refine ⟨by omega, hK _ _ ?_⟩ | refine ⟨by omega, by omega, hK _ _ ?_⟩
      clear hK K
      by_cases he : us[i] = vs[i]
      · refine AWp.cond (t := false) (by simp [he]) (by simp) (fun _ => ?_)
        refine AWp.skip ?_
        show AWp _ _ _ _
        refine AWp.goLast [1, 2, 15, 16, 17] [] fun K hK => ?_
        simp
        first | refine hK _ _ ?_ | refine ⟨by omega, hK _ _ ?_⟩ | refine ⟨by omega, by omega, hK _ _ ?_⟩
        clear hK K
        refine ⟨i + 1, ⟨by omega, ?_⟩, by omega, ?_⟩
        · rw [List.take_succ_eq_append_getElem h, List.take_succ_eq_append_getElem h2, hi.2, he]
        · simp
          exact wrap64 (by omega) (by omega)
      · refine AWp.cond (t := true) (by simp [he]) (fun _ => ?_) (by simp)
        refine AWp.go [6] [] fun K hK => ?_
        simp
        first | refine hK _ _ ?_ | refine ⟨by omega, hK _ _ ?_⟩ | refine ⟨by omega, by omega, hK _ _ ?_⟩
        clear hK K
        refine AWp.ret ?_
        simp
        intro hh; subst hh; exact he rfl
    · refine AWp.cond (t := false) (by first | (simp [h]; done) | (simp [h]; omega)) (by simp) (fun _ => ?_)
      refine AWp.exit ?_
      show AWp _ _ _ _
      refine AWp.go [6] [] fun K hK => ?_
      simp
      first | refine hK _ _ ?_ | refine ⟨by omega, hK _ _ ?_⟩ | refine ⟨by omega, by omega, hK _ _ ?_⟩
      clear hK K
      refine AWp.ret ?_
      have hil : i = us.length := by omega
      have := hi.2
      rw [hil, List.take_length, hl, List.take_length] at this
      simp [this]
  · refine AWp.cond (t := true) (by first | (simp [hl]; done) | (simp [hl]; omega)) (fun _ => ?_) (by simp)
    refine AWp.go [6] [] fun K hK => ?_
    simp
    first | refine hK _ _ ?_ | refine ⟨by omega, hK _ _ ?_⟩ | refine ⟨by omega, by omega, hK _ _ ?_⟩
    clear hK K
    refine AWp.ret ?_
    simp
    intro h; subst h; exact hl rfl
theorem c_script_Same (us vs : List Sact) (hlen : us.length ≤ 140737488355328) (hm : ∀ a ∈ us, Mild a) : Pure Tryd.prog 12 [.sl .fro 8 (sactsAV us), .sl .fro 8 (sactsAV vs)] (.b (decide (us = vs))) := by
  refine proc_of (cx Tryd.prog 8 [0, 1, 4] [4]) 6 [.tmp 4] Tryd.func12 rfl rfl rfl rfl rfl rfl (Nat.le_refl _) rfl ?_
  refine AWp.go [0, 1] [] fun K hK => ?_
  simp
  first | refine hK _ _ ?_ | refine ⟨by omega, hK _ _ ?_⟩ | refine ⟨by omega, by omega, hK _ _ ?_⟩
  clear hK K
  refine AWp.go [4] [] fun K hK => ?_
  simp
  refine call_pure (c_EqualFunc_Act us vs hlen hm) (by simp) ?_
  simp
  first | refine hK _ _ ?_ | refine ⟨by omega, hK _ _ ?_⟩ | refine ⟨by omega, by omega, hK _ _ ?_⟩
  clear hK K
  refine AWp.ret ?_
  simp
set_option maxRecDepth 8000 in
set_option maxHeartbeats 2000000 in
theorem c_ref33_Same (us vs : List Sact) (hlen : us.length ≤ 140737488355328) (hm : ∀ a ∈ us, Mild a) : Pure Tryd.prog 9 [.sl .fro 8 (sactsAV us), .sl .fro 8 (sactsAV vs)] (.b (decide (us = vs))) := by
  refine proc_of (cx Tryd.prog 27 [0, 1, 4, 5, 10, 14, 26] [4]) 25 [.tmp 4] Tryd.func9 rfl rfl rfl rfl rfl rfl (Nat.le_refl _) rfl ?_
  refine AWp.go [0, 1] [] fun K hK => ?_
  simp
  first | refine hK _ _ ?_ | refine ⟨by omega, hK _ _ ?_⟩ | refine ⟨by omega, by omega, hK _ _ ?_⟩
  clear hK K
  refine AWp.seq ?_
  refine AWp.go [0, 1, 10] [] fun K hK => ?_
  simp
  first | refine hK _ _ ?_ | refine ⟨by omega, hK _ _ ?_⟩ | refine ⟨by omega, by omega, hK _ _ ?_⟩
  clear hK K
  by_cases hl : (us.length : Int) = vs.length
  · refine AWp.cond (t := false) (by first | (simp [hl]; done) | (simp [hl]; omega)) (by simp) (fun _ => ?_)
    refine AWp.skip ?_
    show AWp _ _ _ _
    refine AWp.seq ?_
    have hl : us.length = vs.length := by omega
    refine AWp.go [0, 1, 5] [] fun K hK => ?_
    simp
    first | refine hK _ _ ?_ | refine ⟨by omega, hK _ _ ?_⟩ | refine ⟨by omega, by omega, hK _ _ ?_⟩
    clear hK K
    refine AWp.block (AWp.while (fun i : Nat => [(0, .sl .fro 8 (sactsAV us)), (1, .sl .fro 8 (sactsAV vs)), (5, .i .i64 i)]) (fun i => []) (fun i => i ≤ us.length ∧ us.take i = vs.take i) (fun i => us.length - i) [0, 1, 5] [] 0 (by simp) (by simp) ?_)
    intro i hi
    have hiv : i < us.length → i < vs.length := fun h => by omega
    refine AWp.seq ?_
    refine AWp.go [0, 1, 5, 14] [] fun K hK => ?_
    simp
    first | refine hK _ _ ?_ | refine ⟨by omega, hK _ _ ?_⟩ | refine ⟨by omega, by omega, hK _ _ ?_⟩
    clear hK K
    by_cases h : i < us.length
    · refine AWp.cond (t := true) (by first | (simp [h]; done) | (simp [h]; omega)) (fun _ => ?_) (by simp)
      refine AWp.skip ?_
      show AWp _ _ _ _
      refine AWp.seq ?_
      refine AWp.block ?_
      have h2 := hiv h
      have g := c_ref33_One us[i] vs[i] (hm _ (List.getElem_mem h))
      simp [sactC] at g
      refine AWp.goD 10 (fun _ => .b (decide (us[i] = vs[i]))) [0, 1, 5, 26] [] mix (by kernel_rfl) fun K hK => ?_
      simp [h, h2, sactC, g]
      first | refine hK _ _ ?_ | refine ⟨by omega, hK _ _ ?_⟩ | refine ⟨by omega, by omega, hK _ _ ?_⟩
      clear hK K
      by_cases he : us[i] = vs[i]
      · refine AWp.cond (t := false) (by simp [he]) (by simp) (fun _ => ?_)
        refine AWp.skip ?_
        show AWp _ _ _ _
        refine AWp.goLast [0, 1, 5] [] fun K hK => ?_
        simp
        first | refine hK _ _ ?_ | refine ⟨by omega, hK _ _ ?_⟩ | refine ⟨by omega, by omega, hK _ _ ?_⟩
        clear hK K
        refine ⟨i + 1, ⟨by omega, ?_⟩, by omega, ?_⟩
        · rw [List.take_succ_eq_append_getElem h, List.take_succ_eq_append_getElem h2, hi.2, he]
        · simp
          exact wrap64 (by omega) (by omega)
      · refine AWp.cond (t := true) (by simp [he]) (fun _ => ?_) (by simp)
        refine AWp.go [4] [] fun K hK => ?_
        simp
        first | refine hK _ _ ?_ | refine ⟨by omega, hK _ _ ?_⟩ | refine ⟨by omega, by omega, hK _ _ ?_⟩
        clear hK K
        refine AWp.ret ?_
        simp
        intro hh; subst hh; exact he rfl
    · refine AWp.cond (t := false) (by first | (simp [h]; done) | (simp [h]; omega)) (by simp) (fun _ => ?_)
      refine AWp.exit ?_
      show AWp _ _ _ _
      refine AWp.go [4] [] fun K hK => ?_
      simp
      first | refine hK _ _ ?_ | refine ⟨by omega, hK _ _ ?_⟩ | refine ⟨by omega, by omega, hK _ _ ?_⟩
      clear hK K
      refine AWp.ret ?_
      have hil : i = us.length := by omega
      have := hi.2
      rw [hil, List.take_length, hl, List.take_length] at this
      simp [this]
  · refine AWp.cond (t := true) (by first | (simp [hl]; done) | (simp [hl]; omega)) (fun _ => ?_) (by simp)
    refine AWp.go [4] [] fun K hK => ?_
    simp
    first | refine hK _ _ ?_ | refine ⟨by omega, hK _ _ ?_⟩ | refine ⟨by omega, by omega, hK _ _ ?_⟩
    clear hK K
    refine AWp.ret ?_
    simp
    intro h; subst h; exact hl rfl
end Go.AM
namespace Go.AM
open Go.Proofs
def zeroA (k : Int) : Sact := ⟨k, 0, 0, 0, [], [], 0, []⟩
/-- An act with just what its line names. -/
def bareA (a : Sact) : Sact :=
  if a.kind = 5 ∨ a.kind = 6 ∨ a.kind = 7 then ⟨a.kind, 0, 0, a.of, [], [], 0, []⟩
  else if a.kind = 1 then ⟨a.kind, a.rep, 0, a.of, a.key, a.word, 0, []⟩
  else if a.kind = 2 then ⟨a.kind, a.rep, a.to, a.of, a.key, [], a.n, []⟩
  else if a.kind = 4 then ⟨a.kind, a.rep, a.to, 0, [], [], 0, []⟩
  else if a.kind = 10 then ⟨a.kind, a.rep, 0, 0, [], [], a.n, []⟩
  else if a.kind = 11 then ⟨a.kind, a.rep, 0, 0, [], [], 0, a.keep⟩
  else ⟨a.kind, a.rep, 0, 0, [], [], 0, []⟩
set_option maxRecDepth 8000 in
set_option maxHeartbeats 4000000 in
theorem c_ref33_bare (a : Sact) : Pure Tryd.prog 30 [.agg (sactC a)] (.agg (sactC (bareA a))) := by
  refine proc_of (cx Tryd.prog 63 [1, 2, 3, 8, 9, 21, 22, 33, 47, 52, 57] [2]) 62 [.cell 2 36] Tryd.func30 rfl rfl rfl rfl rfl rfl (Nat.le_refl _) rfl ?_
  refine AWp.go [1, 2] [1, 2] fun K hK => ?_
  simp [sactC]
  first | refine hK _ _ ?_ | refine ⟨by omega, hK _ _ ?_⟩ | refine ⟨by omega, by omega, hK _ _ ?_⟩
  clear hK K
  refine AWp.go [1, 2, 3] [1, 2, 3] fun K hK => ?_
  simp
  first | refine hK _ _ ?_ | refine ⟨by omega, hK _ _ ?_⟩ | refine ⟨by omega, by omega, hK _ _ ?_⟩
  clear hK K
  refine AWp.seq ?_
  refine AWp.go [1, 2, 3, 8] [1, 2, 3] fun K hK => ?_
  simp
  first | refine hK _ _ ?_ | refine ⟨by omega, hK _ _ ?_⟩ | refine ⟨by omega, by omega, hK _ _ ?_⟩
  clear hK K
  refine AWp.block ?_
  refine AWp.mid [1, 2, 3, 9] [1, 2, 3] [(1, .ptr 1 0), (2, .ptr 2 0), (3, .ptr 3 0), (9, .b (decide (a.kind = 5) || (decide (a.kind = 6) || decide (a.kind = 7))))] [(1, [.i .i64 a.kind, .i .i64 a.rep, .i .i64 a.to, .i .i64 a.of, .s (tx a.key), .s (tx a.word), .i .i64 a.n, .sl .fro 1 (intsAV a.keep)]), (2, [.i .i64 0, .i .i64 0, .i .i64 0, .i .i64 0, .s (tx []), .s (tx []), .i .i64 0, .sl .nl 1 []]), (3, [.i .i64 a.kind, .i .i64 0, .i .i64 0, .i .i64 0, .s (tx []), .s (tx []), .i .i64 0, .sl .nl 1 []])] ?_ ?_
  · refine AWp.go [1, 2, 3, 8, 9] [1, 2, 3] fun K hK => ?_
    simp
    first | refine hK _ _ ?_ | refine ⟨by omega, hK _ _ ?_⟩ | refine ⟨by omega, by omega, hK _ _ ?_⟩
    clear hK K
    by_cases q5 : a.kind = 5
    · refine AWp.cond (t := true) (by first | (simp [q5]; done) | (simp [q5]; omega)) (fun _ => ?_) (by simp)
      refine AWp.skip ?_
      simp [q5] <;> try omega
    · refine AWp.cond (t := false) (by first | (simp [q5]; done) | (simp [q5]; omega)) (by simp) (fun _ => ?_)
      refine AWp.go [1, 2, 3, 8, 9] [1, 2, 3] fun K hK => ?_
      simp
      first | refine hK _ _ ?_ | refine ⟨by omega, hK _ _ ?_⟩ | refine ⟨by omega, by omega, hK _ _ ?_⟩
      clear hK K
      by_cases q6 : a.kind = 6
      · refine AWp.cond (t := true) (by first | (simp [q6]; done) | (simp [q6]; omega)) (fun _ => ?_) (by simp)
        refine AWp.skip ?_
        simp [q5] <;> try omega
      · refine AWp.cond (t := false) (by first | (simp [q6]; done) | (simp [q6]; omega)) (by simp) (fun _ => ?_)
        refine AWp.goLast [1, 2, 3, 9] [1, 2, 3] fun K hK => ?_
        simp
        first | refine hK _ _ ?_ | refine ⟨by omega, hK _ _ ?_⟩ | refine ⟨by omega, by omega, hK _ _ ?_⟩
        clear hK K
        simp [q5] <;> try omega
  by_cases q567 : a.kind = 5 ∨ a.kind = 6 ∨ a.kind = 7
  · refine AWp.cond (t := true) (by first | (simp [q567]; done) | (simp [q567]; omega)) (fun _ => ?_) (by simp)
    refine AWp.go [2, 3] [1, 2, 3] fun K hK => ?_
    simp
    first | refine hK _ _ ?_ | refine ⟨by omega, hK _ _ ?_⟩ | refine ⟨by omega, by omega, hK _ _ ?_⟩
    clear hK K
    refine AWp.go [2] [1, 2, 3] fun K hK => ?_
    simp
    first | refine hK _ _ ?_ | refine ⟨by omega, hK _ _ ?_⟩ | refine ⟨by omega, by omega, hK _ _ ?_⟩
    clear hK K
    refine AWp.ret ?_
    simp [bareA, q567, sactC, intsAV]
  · refine AWp.cond (t := false) (by first | (simp [q567]; done) | (simp [q567]; omega)) (by simp) (fun _ => ?_)
    refine AWp.skip ?_
    show AWp _ _ _ _
    refine AWp.go [1, 2, 3] [1, 2, 3] fun K hK => ?_
    simp
    first | refine hK _ _ ?_ | refine ⟨by omega, hK _ _ ?_⟩ | refine ⟨by omega, by omega, hK _ _ ?_⟩
    clear hK K
    refine AWp.seq ?_
    refine AWp.go [1, 2, 3, 21] [1, 2, 3] fun K hK => ?_
    simp
    first | refine hK _ _ ?_ | refine ⟨by omega, hK _ _ ?_⟩ | refine ⟨by omega, by omega, hK _ _ ?_⟩
    clear hK K
    refine AWp.block ?_
    refine AWp.go [1, 2, 3, 21, 22] [1, 2, 3] fun K hK => ?_
    simp
    first | refine hK _ _ ?_ | refine ⟨by omega, hK _ _ ?_⟩ | refine ⟨by omega, by omega, hK _ _ ?_⟩
    clear hK K
    by_cases q1 : a.kind = 1
    · refine AWp.cond (t := true) (by first | (simp [q1]; done) | (simp [q1]; omega)) (fun _ => ?_) (by simp)
      refine AWp.lastT (.take 0 (.take 2 (.take 4 (.alt 1 (.take 6 (.alt 3 (.alt 5 (.alt 7 (.take 8 (.alt 9 (.take 10 (.alt 11 .fin .stop)) .stop)) .stop) (.alt 7 (.take 8 (.alt 5 (.alt 9 (.take 10 (.alt 11 .fin .stop)) .stop) (.alt 9 (.alt 5 (.take 10 (.alt 11 .fin .stop)) .stop) .stop))) .stop)) (.alt 5 (.alt 3 (.alt 7 (.take 8 (.alt 9 (.take 10 (.alt 11 .fin .stop)) .stop)) .stop) (.alt 7 (.alt 3 (.take 8 (.alt 9 (.take 10 (.alt 11 .fin .stop)) .stop)) .stop) .stop)) (.alt 7 (.alt 3 (.take 8 (.alt 5 (.alt 9 (.take 10 (.alt 11 .fin .stop)) .stop) (.alt 9 (.alt 5 (.take 10 (.alt 11 .fin .stop)) .stop) .stop))) (.alt 5 (.alt 3 (.take 8 (.alt 9 (.take 10 (.alt 11 .fin .stop)) .stop)) .stop) .stop)) .stop)))) (.alt 3 (.alt 1 (.take 6 (.alt 5 (.alt 7 (.take 8 (.alt 9 (.take 10 (.alt 11 .fin .stop)) .stop)) .stop) (.alt 7 (.take 8 (.alt 5 (.alt 9 (.take 10 (.alt 11 .fin .stop)) .stop) (.alt 9 (.alt 5 (.take 10 (.alt 11 .fin .stop)) .stop) .stop))) .stop))) (.alt 5 (.alt 1 (.take 6 (.alt 7 (.take 8 (.alt 9 (.take 10 (.alt 11 .fin .stop)) .stop)) .stop)) .stop) .stop)) (.alt 5 (.alt 1 (.take 6 (.alt 3 (.alt 7 (.take 8 (.alt 9 (.take 10 (.alt 11 .fin .stop)) .stop)) .stop) (.alt 7 (.alt 3 (.take 8 (.alt 9 (.take 10 (.alt 11 .fin .stop)) .stop)) .stop) .stop))) (.alt 3 (.alt 1 (.take 6 (.alt 7 (.take 8 (.alt 9 (.take 10 (.alt 11 .fin .stop)) .stop)) .stop)) .stop) .stop)) .stop)))))) [2, 3] [1, 2, 3] [(2, .ptr 2 0), (3, .ptr 3 0)] [(1, [.i .i64 a.kind, .i .i64 a.rep, .i .i64 a.to, .i .i64 a.of, .s (tx a.key), .s (tx a.word), .i .i64 a.n, .sl .fro 1 (intsAV a.keep)]), (2, [.i .i64 0, .i .i64 0, .i .i64 0, .i .i64 0, .s (tx []), .s (tx []), .i .i64 0, .sl .nl 1 []]), (3, [.i .i64 a.kind, .i .i64 a.rep, .i .i64 0, .i .i64 a.of, .s (tx a.key), .s (tx a.word), .i .i64 0, .sl .nl 1 []])] mix (by kernel_rfl) ?_ ?_
      · repeat' (first | (refine atree.tk fun K1 h1 => ?_; (simp; (first | refine h1 _ _ ?_ | refine ⟨by omega, h1 _ _ ?_⟩ | refine ⟨by omega, by omega, h1 _ _ ?_⟩); clear h1 K1)) | (refine atree.a1 fun K1 h1 => ?_; (simp; (first | refine h1 _ _ ?_ | refine ⟨by omega, h1 _ _ ?_⟩ | refine ⟨by omega, by omega, h1 _ _ ?_⟩); clear h1 K1)) | (refine atree.al (fun K1 h1 => ?_) ?_ <;> try (simp; (first | refine h1 _ _ ?_ | refine ⟨by omega, h1 _ _ ?_⟩ | refine ⟨by omega, by omega, h1 _ _ ?_⟩); clear h1 K1)))
        all_goals (simp)
      show AWp _ _ _ _
      refine AWp.go [2] [1, 2, 3] fun K hK => ?_
      simp
      first | refine hK _ _ ?_ | refine ⟨by omega, hK _ _ ?_⟩ | refine ⟨by omega, by omega, hK _ _ ?_⟩
      clear hK K
      refine AWp.ret ?_
      simp [bareA, sactC, intsAV, *]
    · refine AWp.cond (t := false) (by first | (simp [q1]; done) | (simp [q1]; omega)) (by simp) (fun _ => ?_)
      refine AWp.go [1, 2, 3, 21, 33] [1, 2, 3] fun K hK => ?_
      simp
      first | refine hK _ _ ?_ | refine ⟨by omega, hK _ _ ?_⟩ | refine ⟨by omega, by omega, hK _ _ ?_⟩
      clear hK K
      by_cases q2 : a.kind = 2
      · refine AWp.cond (t := true) (by first | (simp [q2]; done) | (simp [q2]; omega)) (fun _ => ?_) (by simp)
        refine AWp.lastT (.take 0 (.take 2 (.take 4 (.take 6 (.alt 1 (.take 8 (.alt 3 (.alt 5 (.alt 7 (.alt 9 (.take 10 (.alt 11 (.take 12 (.alt 13 (.take 14 (.alt 15 .fin .stop)) .stop)) .stop)) .stop) (.alt 9 (.take 10 (.alt 7 (.alt 11 (.take 12 (.alt 13 (.take 14 (.alt 15 .fin .stop)) .stop)) .stop) (.alt 11 (.take 12 (.alt 7 (.alt 13 (.take 14 (.alt 15 .fin .stop)) .stop) (.alt 13 (.alt 7 (.take 14 (.alt 15 .fin .stop)) .stop) .stop))) .stop))) .stop)) (.alt 7 (.alt 5 (.alt 9 (.take 10 (.alt 11 (.take 12 (.alt 13 (.take 14 (.alt 15 .fin .stop)) .stop)) .stop)) .stop) (.alt 9 (.take 10 (.alt 5 (.alt 11 (.take 12 (.alt 13 (.take 14 (.alt 15 .fin .stop)) .stop)) .stop) (.alt 11 (.alt 5 (.take 12 (.alt 13 (.take 14 (.alt 15 .fin .stop)) .stop)) .stop) .stop))) .stop)) (.alt 9 (.take 10 (.alt 5 (.alt 7 (.alt 11 (.take 12 (.alt 13 (.take 14 (.alt 15 .fin .stop)) .stop)) .stop) (.alt 11 (.take 12 (.alt 7 (.alt 13 (.take 14 (.alt 15 .fin .stop)) .stop) (.alt 13 (.alt 7 (.take 14 (.alt 15 .fin .stop)) .stop) .stop))) .stop)) (.alt 7 (.alt 5 (.alt 11 (.take 12 (.alt 13 (.take 14 (.alt 15 .fin .stop)) .stop)) .stop) (.alt 11 (.alt 5 (.take 12 (.alt 13 (.take 14 (.alt 15 .fin .stop)) .stop)) .stop) .stop)) (.alt 11 (.alt 5 (.take 12 (.alt 7 (.alt 13 (.take 14 (.alt 15 .fin .stop)) .stop) (.alt 13 (.alt 7 (.take 14 (.alt 15 .fin .stop)) .stop) .stop))) (.alt 7 (.alt 5 (.take 12 (.alt 13 (.take 14 (.alt 15 .fin .stop)) .stop)) .stop) .stop)) .stop)))) .stop))) (.alt 5 (.alt 3 (.alt 7 (.alt 9 (.take 10 (.alt 11 (.take 12 (.alt 13 (.take 14 (.alt 15 .fin .stop)) .stop)) .stop)) .stop) (.alt 9 (.take 10 (.alt 7 (.alt 11 (.take 12 (.alt 13 (.take 14 (.alt 15 .fin .stop)) .stop)) .stop) (.alt 11 (.take 12 (.alt 7 (.alt 13 (.take 14 (.alt 15 .fin .stop)) .stop) (.alt 13 (.alt 7 (.take 14 (.alt 15 .fin .stop)) .stop) .stop))) .stop))) .stop)) (.alt 7 (.alt 3 (.alt 9 (.take 10 (.alt 11 (.take 12 (.alt 13 (.take 14 (.alt 15 .fin .stop)) .stop)) .stop)) .stop) (.alt 9 (.alt 3 (.take 10 (.alt 11 (.take 12 (.alt 13 (.take 14 (.alt 15 .fin .stop)) .stop)) .stop)) .stop) .stop)) (.alt 9 (.alt 3 (.take 10 (.alt 7 (.alt 11 (.take 12 (.alt 13 (.take 14 (.alt 15 .fin .stop)) .stop)) .stop) (.alt 11 (.take 12 (.alt 7 (.alt 13 (.take 14 (.alt 15 .fin .stop)) .stop) (.alt 13 (.alt 7 (.take 14 (.alt 15 .fin .stop)) .stop) .stop))) .stop))) (.alt 7 (.alt 3 (.take 10 (.alt 11 (.take 12 (.alt 13 (.take 14 (.alt 15 .fin .stop)) .stop)) .stop)) .stop) .stop)) .stop))) (.alt 7 (.alt 3 (.alt 5 (.alt 9 (.take 10 (.alt 11 (.take 12 (.alt 13 (.take 14 (.alt 15 .fin .stop)) .stop)) .stop)) .stop) (.alt 9 (.take 10 (.alt 5 (.alt 11 (.take 12 (.alt 13 (.take 14 (.alt 15 .fin .stop)) .stop)) .stop) (.alt 11 (.alt 5 (.take 12 (.alt 13 (.take 14 (.alt 15 .fin .stop)) .stop)) .stop) .stop))) .stop)) (.alt 5 (.alt 3 (.alt 9 (.take 10 (.alt 11 (.take 12 (.alt 13 (.take 14 (.alt 15 .fin .stop)) .stop)) .stop)) .stop) (.alt 9 (.alt 3 (.take 10 (.alt 11 (.take 12 (.alt 13 (.take 14 (.alt 15 .fin .stop)) .stop)) .stop)) .stop) .stop)) (.alt 9 (.alt 3 (.take 10 (.alt 5 (.alt 11 (.take 12 (.alt 13 (.take 14 (.alt 15 .fin .stop)) .stop)) .stop) (.alt 11 (.alt 5 (.take 12 (.alt 13 (.take 14 (.alt 15 .fin .stop)) .stop)) .stop) .stop))) (.alt 5 (.alt 3 (.take 10 (.alt 11 (.take 12 (.alt 13 (.take 14 (.alt 15 .fin .stop)) .stop)) .stop)) .stop) .stop)) .stop))) (.alt 9 (.alt 3 (.take 10 (.alt 5 (.alt 7 (.alt 11 (.take 12 (.alt 13 (.take 14 (.alt 15 .fin .stop)) .stop)) .stop) (.alt 11 (.take 12 (.alt 7 (.alt 13 (.take 14 (.alt 15 .fin .stop)) .stop) (.alt 13 (.alt 7 (.take 14 (.alt 15 .fin .stop)) .stop) .stop))) .stop)) (.alt 7 (.alt 5 (.alt 11 (.take 12 (.alt 13 (.take 14 (.alt 15 .fin .stop)) .stop)) .stop) (.alt 11 (.alt 5 (.take 12 (.alt 13 (.take 14 (.alt 15 .fin .stop)) .stop)) .stop) .stop)) (.alt 11 (.alt 5 (.take 12 (.alt 7 (.alt 13 (.take 14 (.alt 15 .fin .stop)) .stop) (.alt 13 (.alt 7 (.take 14 (.alt 15 .fin .stop)) .stop) .stop))) (.alt 7 (.alt 5 (.take 12 (.alt 13 (.take 14 (.alt 15 .fin .stop)) .stop)) .stop) .stop)) .stop)))) (.alt 5 (.alt 3 (.take 10 (.alt 7 (.alt 11 (.take 12 (.alt 13 (.take 14 (.alt 15 .fin .stop)) .stop)) .stop) (.alt 11 (.take 12 (.alt 7 (.alt 13 (.take 14 (.alt 15 .fin .stop)) .stop) (.alt 13 (.alt 7 (.take 14 (.alt 15 .fin .stop)) .stop) .stop))) .stop))) (.alt 7 (.alt 3 (.take 10 (.alt 11 (.take 12 (.alt 13 (.take 14 (.alt 15 .fin .stop)) .stop)) .stop)) .stop) .stop)) (.alt 7 (.alt 3 (.take 10 (.alt 5 (.alt 11 (.take 12 (.alt 13 (.take 14 (.alt 15 .fin .stop)) .stop)) .stop) (.alt 11 (.alt 5 (.take 12 (.alt 13 (.take 14 (.alt 15 .fin .stop)) .stop)) .stop) .stop))) (.alt 5 (.alt 3 (.take 10 (.alt 11 (.take 12 (.alt 13 (.take 14 (.alt 15 .fin .stop)) .stop)) .stop)) .stop) .stop)) .stop))) .stop))))) (.alt 3 (.alt 1 (.take 8 (.alt 5 (.alt 7 (.alt 9 (.take 10 (.alt 11 (.take 12 (.alt 13 (.take 14 (.alt 15 .fin .stop)) .stop)) .stop)) .stop) (.alt 9 (.take 10 (.alt 7 (.alt 11 (.take 12 (.alt 13 (.take 14 (.alt 15 .fin .stop)) .stop)) .stop) (.alt 11 (.take 12 (.alt 7 (.alt 13 (.take 14 (.alt 15 .fin .stop)) .stop) (.alt 13 (.alt 7 (.take 14 (.alt 15 .fin .stop)) .stop) .stop))) .stop))) .stop)) (.alt 7 (.alt 5 (.alt 9 (.take 10 (.alt 11 (.take 12 (.alt 13 (.take 14 (.alt 15 .fin .stop)) .stop)) .stop)) .stop) (.alt 9 (.take 10 (.alt 5 (.alt 11 (.take 12 (.alt 13 (.take 14 (.alt 15 .fin .stop)) .stop)) .stop) (.alt 11 (.alt 5 (.take 12 (.alt 13 (.take 14 (.alt 15 .fin .stop)) .stop)) .stop) .stop))) .stop)) (.alt 9 (.take 10 (.alt 5 (.alt 7 (.alt 11 (.take 12 (.alt 13 (.take 14 (.alt 15 .fin .stop)) .stop)) .stop) (.alt 11 (.take 12 (.alt 7 (.alt 13 (.take 14 (.alt 15 .fin .stop)) .stop) (.alt 13 (.alt 7 (.take 14 (.alt 15 .fin .stop)) .stop) .stop))) .stop)) (.alt 7 (.alt 5 (.alt 11 (.take 12 (.alt 13 (.take 14 (.alt 15 .fin .stop)) .stop)) .stop) (.alt 11 (.alt 5 (.take 12 (.alt 13 (.take 14 (.alt 15 .fin .stop)) .stop)) .stop) .stop)) (.alt 11 (.alt 5 (.take 12 (.alt 7 (.alt 13 (.take 14 (.alt 15 .fin .stop)) .stop) (.alt 13 (.alt 7 (.take 14 (.alt 15 .fin .stop)) .stop) .stop))) (.alt 7 (.alt 5 (.take 12 (.alt 13 (.take 14 (.alt 15 .fin .stop)) .stop)) .stop) .stop)) .stop)))) .stop)))) (.alt 5 (.alt 1 (.take 8 (.alt 7 (.alt 9 (.take 10 (.alt 11 (.take 12 (.alt 13 (.take 14 (.alt 15 .fin .stop)) .stop)) .stop)) .stop) (.alt 9 (.take 10 (.alt 7 (.alt 11 (.take 12 (.alt 13 (.take 14 (.alt 15 .fin .stop)) .stop)) .stop) (.alt 11 (.take 12 (.alt 7 (.alt 13 (.take 14 (.alt 15 .fin .stop)) .stop) (.alt 13 (.alt 7 (.take 14 (.alt 15 .fin .stop)) .stop) .stop))) .stop))) .stop))) (.alt 7 (.alt 1 (.take 8 (.alt 9 (.take 10 (.alt 11 (.take 12 (.alt 13 (.take 14 (.alt 15 .fin .stop)) .stop)) .stop)) .stop)) .stop) .stop)) (.alt 7 (.alt 1 (.take 8 (.alt 5 (.alt 9 (.take 10 (.alt 11 (.take 12 (.alt 13 (.take 14 (.alt 15 .fin .stop)) .stop)) .stop)) .stop) (.alt 9 (.take 10 (.alt 5 (.alt 11 (.take 12 (.alt 13 (.take 14 (.alt 15 .fin .stop)) .stop)) .stop) (.alt 11 (.alt 5 (.take 12 (.alt 13 (.take 14 (.alt 15 .fin .stop)) .stop)) .stop) .stop))) .stop))) (.alt 5 (.alt 1 (.take 8 (.alt 9 (.take 10 (.alt 11 (.take 12 (.alt 13 (.take 14 (.alt 15 .fin .stop)) .stop)) .stop)) .stop)) .stop) .stop)) .stop))) (.alt 5 (.alt 1 (.take 8 (.alt 3 (.alt 7 (.alt 9 (.take 10 (.alt 11 (.take 12 (.alt 13 (.take 14 (.alt 15 .fin .stop)) .stop)) .stop)) .stop) (.alt 9 (.take 10 (.alt 7 (.alt 11 (.take 12 (.alt 13 (.take 14 (.alt 15 .fin .stop)) .stop)) .stop) (.alt 11 (.take 12 (.alt 7 (.alt 13 (.take 14 (.alt 15 .fin .stop)) .stop) (.alt 13 (.alt 7 (.take 14 (.alt 15 .fin .stop)) .stop) .stop))) .stop))) .stop)) (.alt 7 (.alt 3 (.alt 9 (.take 10 (.alt 11 (.take 12 (.alt 13 (.take 14 (.alt 15 .fin .stop)) .stop)) .stop)) .stop) (.alt 9 (.alt 3 (.take 10 (.alt 11 (.take 12 (.alt 13 (.take 14 (.alt 15 .fin .stop)) .stop)) .stop)) .stop) .stop)) (.alt 9 (.alt 3 (.take 10 (.alt 7 (.alt 11 (.take 12 (.alt 13 (.take 14 (.alt 15 .fin .stop)) .stop)) .stop) (.alt 11 (.take 12 (.alt 7 (.alt 13 (.take 14 (.alt 15 .fin .stop)) .stop) (.alt 13 (.alt 7 (.take 14 (.alt 15 .fin .stop)) .stop) .stop))) .stop))) (.alt 7 (.alt 3 (.take 10 (.alt 11 (.take 12 (.alt 13 (.take 14 (.alt 15 .fin .stop)) .stop)) .stop)) .stop) .stop)) .stop)))) (.alt 3 (.alt 1 (.take 8 (.alt 7 (.alt 9 (.take 10 (.alt 11 (.take 12 (.alt 13 (.take 14 (.alt 15 .fin .stop)) .stop)) .stop)) .stop) (.alt 9 (.take 10 (.alt 7 (.alt 11 (.take 12 (.alt 13 (.take 14 (.alt 15 .fin .stop)) .stop)) .stop) (.alt 11 (.take 12 (.alt 7 (.alt 13 (.take 14 (.alt 15 .fin .stop)) .stop) (.alt 13 (.alt 7 (.take 14 (.alt 15 .fin .stop)) .stop) .stop))) .stop))) .stop))) (.alt 7 (.alt 1 (.take 8 (.alt 9 (.take 10 (.alt 11 (.take 12 (.alt 13 (.take 14 (.alt 15 .fin .stop)) .stop)) .stop)) .stop)) .stop) .stop)) (.alt 7 (.alt 1 (.take 8 (.alt 3 (.alt 9 (.take 10 (.alt 11 (.take 12 (.alt 13 (.take 14 (.alt 15 .fin .stop)) .stop)) .stop)) .stop) (.alt 9 (.alt 3 (.take 10 (.alt 11 (.take 12 (.alt 13 (.take 14 (.alt 15 .fin .stop)) .stop)) .stop)) .stop) .stop))) (.alt 3 (.alt 1 (.take 8 (.alt 9 (.take 10 (.alt 11 (.take 12 (.alt 13 (.take 14 (.alt 15 .fin .stop)) .stop)) .stop)) .stop)) .stop) .stop)) .stop))) (.alt 7 (.alt 1 (.take 8 (.alt 3 (.alt 5 (.alt 9 (.take 10 (.alt 11 (.take 12 (.alt 13 (.take 14 (.alt 15 .fin .stop)) .stop)) .stop)) .stop) (.alt 9 (.take 10 (.alt 5 (.alt 11 (.take 12 (.alt 13 (.take 14 (.alt 15 .fin .stop)) .stop)) .stop) (.alt 11 (.alt 5 (.take 12 (.alt 13 (.take 14 (.alt 15 .fin .stop)) .stop)) .stop) .stop))) .stop)) (.alt 5 (.alt 3 (.alt 9 (.take 10 (.alt 11 (.take 12 (.alt 13 (.take 14 (.alt 15 .fin .stop)) .stop)) .stop)) .stop) (.alt 9 (.alt 3 (.take 10 (.alt 11 (.take 12 (.alt 13 (.take 14 (.alt 15 .fin .stop)) .stop)) .stop)) .stop) .stop)) (.alt 9 (.alt 3 (.take 10 (.alt 5 (.alt 11 (.take 12 (.alt 13 (.take 14 (.alt 15 .fin .stop)) .stop)) .stop) (.alt 11 (.alt 5 (.take 12 (.alt 13 (.take 14 (.alt 15 .fin .stop)) .stop)) .stop) .stop))) (.alt 5 (.alt 3 (.take 10 (.alt 11 (.take 12 (.alt 13 (.take 14 (.alt 15 .fin .stop)) .stop)) .stop)) .stop) .stop)) .stop)))) (.alt 3 (.alt 1 (.take 8 (.alt 5 (.alt 9 (.take 10 (.alt 11 (.take 12 (.alt 13 (.take 14 (.alt 15 .fin .stop)) .stop)) .stop)) .stop) (.alt 9 (.take 10 (.alt 5 (.alt 11 (.take 12 (.alt 13 (.take 14 (.alt 15 .fin .stop)) .stop)) .stop) (.alt 11 (.alt 5 (.take 12 (.alt 13 (.take 14 (.alt 15 .fin .stop)) .stop)) .stop) .stop))) .stop))) (.alt 5 (.alt 1 (.take 8 (.alt 9 (.take 10 (.alt 11 (.take 12 (.alt 13 (.take 14 (.alt 15 .fin .stop)) .stop)) .stop)) .stop)) .stop) .stop)) (.alt 5 (.alt 1 (.take 8 (.alt 3 (.alt 9 (.take 10 (.alt 11 (.take 12 (.alt 13 (.take 14 (.alt 15 .fin .stop)) .stop)) .stop)) .stop) (.alt 9 (.alt 3 (.take 10 (.alt 11 (.take 12 (.alt 13 (.take 14 (.alt 15 .fin .stop)) .stop)) .stop)) .stop) .stop))) (.alt 3 (.alt 1 (.take 8 (.alt 9 (.take 10 (.alt 11 (.take 12 (.alt 13 (.take 14 (.alt 15 .fin .stop)) .stop)) .stop)) .stop)) .stop) .stop)) .stop))) .stop)))))))) [2, 3] [1, 2, 3] [(2, .ptr 2 0), (3, .ptr 3 0)] [(1, [.i .i64 a.kind, .i .i64 a.rep, .i .i64 a.to, .i .i64 a.of, .s (tx a.key), .s (tx a.word), .i .i64 a.n, .sl .fro 1 (intsAV a.keep)]), (2, [.i .i64 0, .i .i64 0, .i .i64 0, .i .i64 0, .s (tx []), .s (tx []), .i .i64 0, .sl .nl 1 []]), (3, [.i .i64 a.kind, .i .i64 a.rep, .i .i64 a.to, .i .i64 a.of, .s (tx a.key), .s (tx []), .i .i64 a.n, .sl .nl 1 []])] mix (by kernel_rfl) ?_ ?_
        · repeat' (first | (refine atree.tk fun K1 h1 => ?_; (simp; (first | refine h1 _ _ ?_ | refine ⟨by omega, h1 _ _ ?_⟩ | refine ⟨by omega, by omega, h1 _ _ ?_⟩); clear h1 K1)) | (refine atree.a1 fun K1 h1 => ?_; (simp; (first | refine h1 _ _ ?_ | refine ⟨by omega, h1 _ _ ?_⟩ | refine ⟨by omega, by omega, h1 _ _ ?_⟩); clear h1 K1)) | (refine atree.al (fun K1 h1 => ?_) ?_ <;> try (simp; (first | refine h1 _ _ ?_ | refine ⟨by omega, h1 _ _ ?_⟩ | refine ⟨by omega, by omega, h1 _ _ ?_⟩); clear h1 K1)))
          all_goals (simp)
        show AWp _ _ _ _
        refine AWp.go [2] [1, 2, 3] fun K hK => ?_
        simp
        first | refine hK _ _ ?_ | refine ⟨by omega, hK _ _ ?_⟩ | refine ⟨by omega, by omega, hK _ _ ?_⟩
        clear hK K
        refine AWp.ret ?_
        simp [bareA, sactC, intsAV, *]
      · refine AWp.cond (t := false) (by first | (simp [q2]; done) | (simp [q2]; omega)) (by simp) (fun _ => ?_)
        refine AWp.go [1, 2, 3, 21, 47] [1, 2, 3] fun K hK => ?_
        simp
        first | refine hK _ _ ?_ | refine ⟨by omega, hK _ _ ?_⟩ | refine ⟨by omega, by omega, hK _ _ ?_⟩
        clear hK K
        by_cases q4 : a.kind = 4
        · refine AWp.cond (t := true) (by first | (simp [q4]; done) | (simp [q4]; omega)) (fun _ => ?_) (by simp)
          refine AWp.goLast [2, 3] [1, 2, 3] fun K hK => ?_
          simp
          first | refine hK _ _ ?_ | refine ⟨by omega, hK _ _ ?_⟩ | refine ⟨by omega, by omega, hK _ _ ?_⟩
          clear hK K
          show AWp _ _ _ _
          refine AWp.go [2] [1, 2, 3] fun K hK => ?_
          simp
          first | refine hK _ _ ?_ | refine ⟨by omega, hK _ _ ?_⟩ | refine ⟨by omega, by omega, hK _ _ ?_⟩
          clear hK K
          refine AWp.ret ?_
          simp [bareA, sactC, intsAV, *]
        · refine AWp.cond (t := false) (by first | (simp [q4]; done) | (simp [q4]; omega)) (by simp) (fun _ => ?_)
          refine AWp.go [1, 2, 3, 21, 52] [1, 2, 3] fun K hK => ?_
          simp
          first | refine hK _ _ ?_ | refine ⟨by omega, hK _ _ ?_⟩ | refine ⟨by omega, by omega, hK _ _ ?_⟩
          clear hK K
          by_cases q10 : a.kind = 10
          · refine AWp.cond (t := true) (by first | (simp [q10]; done) | (simp [q10]; omega)) (fun _ => ?_) (by simp)
            refine AWp.goLast [2, 3] [1, 2, 3] fun K hK => ?_
            simp
            first | refine hK _ _ ?_ | refine ⟨by omega, hK _ _ ?_⟩ | refine ⟨by omega, by omega, hK _ _ ?_⟩
            clear hK K
            show AWp _ _ _ _
            refine AWp.go [2] [1, 2, 3] fun K hK => ?_
            simp
            first | refine hK _ _ ?_ | refine ⟨by omega, hK _ _ ?_⟩ | refine ⟨by omega, by omega, hK _ _ ?_⟩
            clear hK K
            refine AWp.ret ?_
            simp [bareA, sactC, intsAV, *]
          · refine AWp.cond (t := false) (by first | (simp [q10]; done) | (simp [q10]; omega)) (by simp) (fun _ => ?_)
            refine AWp.go [1, 2, 3, 57] [1, 2, 3] fun K hK => ?_
            simp
            first | refine hK _ _ ?_ | refine ⟨by omega, hK _ _ ?_⟩ | refine ⟨by omega, by omega, hK _ _ ?_⟩
            clear hK K
            by_cases q11 : a.kind = 11
            · refine AWp.cond (t := true) (by first | (simp [q11]; done) | (simp [q11]; omega)) (fun _ => ?_) (by simp)
              refine AWp.goLast [2, 3] [1, 2, 3] fun K hK => ?_
              simp
              first | refine hK _ _ ?_ | refine ⟨by omega, hK _ _ ?_⟩ | refine ⟨by omega, by omega, hK _ _ ?_⟩
              clear hK K
              show AWp _ _ _ _
              refine AWp.go [2] [1, 2, 3] fun K hK => ?_
              simp
              first | refine hK _ _ ?_ | refine ⟨by omega, hK _ _ ?_⟩ | refine ⟨by omega, by omega, hK _ _ ?_⟩
              clear hK K
              refine AWp.ret ?_
              simp [bareA, sactC, intsAV, *]
            · refine AWp.cond (t := false) (by first | (simp [q11]; done) | (simp [q11]; omega)) (by simp) (fun _ => ?_)
              refine AWp.skip ?_
              show AWp _ _ _ _
              refine AWp.go [2] [1, 2, 3] fun K hK => ?_
              simp
              first | refine hK _ _ ?_ | refine ⟨by omega, hK _ _ ?_⟩ | refine ⟨by omega, by omega, hK _ _ ?_⟩
              clear hK K
              refine AWp.ret ?_
              simp [bareA, sactC, intsAV, *]
end Go.AM
namespace Go.AM
open Go.Proofs
def txs (l : List (List UInt8)) : List (List AV) := strsAV (l.map tx)
@[simp] theorem txs_length (l : List (List UInt8)) : (txs l).length = l.length := by simp [txs]
@[simp] theorem txs_getElem (l : List (List UInt8)) (i : Nat) (h : i < (txs l).length) : (txs l)[i] = [.s (tx (l[i]'(by simpa using h)))] := by simp [txs]
theorem txs_snoc (l : List (List UInt8)) (x : List UInt8) : txs (l ++ [x]) = txs l ++ [[.s (tx x)]] := by simp [txs, strsAV]
end Go.AM
namespace Go.AM
open Go.Proofs
def isDg (b : UInt8) : Bool := decide (48 ≤ b.toNat) && decide (b.toNat ≤ 57)
def numF (n : Nat) (b : UInt8) : Nat := if isDg b then 10 * n + (b.toNat - 48) else n
/-- The number that a word seems to be. -/
def numR (l : List UInt8) : Nat := (l.take 9).foldl numF 0
theorem u8_wrapI (n : Int) : IntKind.u8.wrap n = n % 256 := by
  unfold IntKind.wrap
  simp [IntKind.bits, IntKind.signed]
def byAV (l : List UInt8) : List (List AV) := l.map fun b => [.i .u8 (b.toNat : Int)]
@[simp] theorem byAV_length (l : List UInt8) : (byAV l).length = l.length := by simp [byAV]
theorem byAV_snoc (l : List UInt8) (x : UInt8) : byAV (l ++ [x]) = byAV l ++ [[.i .u8 (x.toNat : Int)]] := by simp [byAV]
@[simp] theorem bytesL_by (l : List UInt8) : bytesL (byAV l) = some l := by
  induction l with
  | nil => rfl
  | cons b l ih =>
    show bytesL ([.i .u8 (b.toNat : Int)] :: byAV l) = _
    simp [bytesL, ih]
/-- A digit of sixteen. -/
def dgU (b : UInt8) : UInt8 := if 97 ≤ b.toNat then b - 87 else b - 48
def bytAt (s : List UInt8) (j : Nat) : UInt8 := dgU (s.getD (2 * j + 1) 0) * 16 + dgU (s.getD (2 * j + 2) 0)
/-- The bytes that a word seems to be. -/
def bytR (s : List UInt8) : List UInt8 := (List.range ((s.length - 1) / 2)).map (bytAt s)
end Go.AM
