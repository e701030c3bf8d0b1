/- Regions that draw their order: the proof that values put and boxes made may come in any order. No project text. -/
import Derived.Test.YtmhkagfncnnfdaaGreatAmG
import Derived.Test.YtmhkagfncnnfdaaGreatAmD
import Derived.ChangeArms
import Derived.ChangeOld
import Derived.ChangeShapes
import Derived.Below
import Derived.SizedLaws
import Derived.Carry
import Derived.OpenShut
import Derived.WideShapes
set_option linter.unusedSimpArgs false
set_option linter.unusedVariables false
namespace Go.AM

theorem qop_mono {T : Nat → Option TI} {st st' : St} {ty : Nat} {op : Op} (h : ∀ x ∈ op.operands, ∀ t, x = .tmp t → st.slots t = st'.slots t) (hb : ∀ id cs, st.boxes id = some cs → st'.boxes id = some cs) (hok : (qop T st ty op).ok) : qop T st' ty op = qop T st ty op := by
  have h1 : qop T st ty op = qop T { st' with boxes := st.boxes } ty op := qop_congr h rfl
  rw [h1] at hok ⊢
  cases op with
  | load t x =>
    simp only [qop] at hok ⊢
    have e : ({ st' with boxes := st.boxes } : St).rd 0 x = st'.rd 0 x := rd_congr (fun _ _ => rfl) 0
    rw [e] at hok ⊢
    unfold qload at hok ⊢
    split
    · rename_i y id off hy hx
      rw [hy, hx] at hok
      simp only at hok ⊢
      cases hc : st.boxes id with
      | none => rw [hc] at hok; exact hok.elim
      | some cs => rw [hb id cs hc]
    · rename_i y g ix cells off hy hx
      rfl
    · rfl
  | makeFunc fn first captured => cases fn <;> rfl
  | slice t x lo hi mx => cases mx <;> cases lo <;> cases hi <;> rfl
  | call c =>
    obtain ⟨callee, args, ts⟩ := c
    cases callee with
    | value f => rfl
    | invoke r m => rfl
    | builtin b => cases b <;> rfl
  | _ => rfl

theorem qop2_mono {C : Cx} {st st' : St} {ty : Nat} {op : Op} (h : ∀ x ∈ op.operands, ∀ t, x = .tmp t → st.slots t = st'.slots t) (hb : ∀ id cs, st.boxes id = some cs → st'.boxes id = some cs) (hok : (qop2 C st ty op).ok) : qop2 C st' ty op = qop2 C st ty op := by
  unfold qop2 at hok ⊢
  split
  · rename_i eq t x y hop
    rw [hop] at hok
    obtain ⟨yt, rfl⟩ := isEql_some hop
    rw [rd_congr (h x (by simp [Op.operands])), rd_congr (h y (by simp [Op.operands]))]
    split
    · rfl
    · rename_i hs
      simp only [hs] at hok
      exact qop_mono h hb hok
  · rename_i hop
    rw [hop] at hok
    exact qop_mono h hb hok

theorem pop_mono {C : Cx} {r : AV} {o : Oper} {st st' : St} (h : ∀ x ∈ o.op.operands, ∀ t, x = .tmp t → st.slots t = st'.slots t) (hb : ∀ id cs, st.boxes id = some cs → st'.boxes id = some cs) (hok : (pop C r o st).ok) : pop C r o st' = pop C r o st := by
  unfold pop at hok ⊢
  split
  · rename_i x ho
    rw [rd_congr (h x (by simp [ho, Op.operands]))]
  · rename_i f args ts ho
    rw [rd_congr (h f (by simp [ho, Op.operands, Call.operands])), rdArgs_congr args.toList ts.toList fun x hx => h x (by simp [ho, Op.operands, Call.operands]; exact .inr (by simpa using hx))]
  · rename_i t len parts ho
    congr 1
    exact List.map_congr_left fun p hp => by
      rw [rd_congr (h p.2 (by rw [ho]; simp only [Op.operands, List.mem_toArray, List.mem_map]; exact ⟨p, by simpa using hp, rfl⟩))]
  · rename_i h1 h2 h3
    simp only at hok ⊢
    cases hn : isNilCmp o.op with
    | some e => rfl
    | none =>
      rw [hn] at hok
      simp only at hok ⊢
      exact qop2_mono h hb hok

theorem popg_mono {C : Cx} {ops : Array Oper} {r : AV} {o : Oper} {st st' : St} (h : ∀ t ∈ o.looksAt ops, st.slots t = st'.slots t) (hb : ∀ id cs, st.boxes id = some cs → st'.boxes id = some cs) (hok : (popg C ops r o st).ok) : popg C ops r o st' = popg C ops r o st := by
  have hp : (pop C r o st).ok → pop C r o st' = pop C r o st := pop_mono (fun x hx t ht => h t (List.mem_append_left _ (List.mem_filterMap.2 ⟨x, by simpa using hx, by rw [ht]⟩))) hb
  unfold popg at hok ⊢
  cases hg : o.guard with
  | none => rw [hg] at hok; exact hp hok
  | some jb =>
    obtain ⟨j, b⟩ := jb
    rw [hg] at hok
    simp only at hok ⊢
    cases hj : (ops[j]?).bind (·.dst) with
    | none => rfl
    | some t =>
      rw [hj] at hok
      simp only at hok ⊢
      have : st.slots t = st'.slots t := h t (List.mem_append_right _ (by simp [hg, hj]))
      rw [← this]
      split
      · rename_i c hc
        rw [hc] at hok
        simp only at hok
        split
        · rename_i hcb
          rw [if_pos hcb] at hok
          exact hp hok
        · rfl
      · rfl
      · rfl

/-- A new box of zeros is made: its cells. -/
def isAl (C : Cx) (o : Oper) : Option (List AV) :=
  match o.op, o.guard with
  | .alloc t, none => (C.T t).map TI.zero
  | _, _ => none
def alQ (C : Cx) (d : Nat) (z : List AV) : Place → Option Place := mkQ (isBoxOf (C.base + d) d) (AV.vwsC (C.base + d) 0 (flatA (.agg z))) (C.tk false (some d))
def alF (C : Cx) (d : Nat) (z : List AV) : Place → Bool := mkF (AV.vwsC (C.base + d) 0 (flatA (.agg z))) (C.tk false (some d))
def alZ (C : Cx) (d : Nat) (z : List AV) : List AV := AV.trC (resLeaf (alF C d z)) (C.base + d) 0 (flatA (.agg z))
def alTr (C : Cx) (d : Nat) (z : List AV) (s : St) : St := (s.settle (alQ C d z) (alF C d z)).killB (C.base + d)
def alOk (C : Cx) (d : Nat) (z : List AV) : Prop := d < C.N ∧ C.base + d < 1000000 ∧ (AV.agg z).hole = false ∧ AV.resOkC (alQ C d z) (alF C d z) (C.base + d) 0 (flatA (.agg z)) = true ∧ AV.noPtrL (C.base + d) (alZ C d z) = true
def keep (C : Cx) (d : Nat) (z : List AV) (s : St) : Prop := alTr C d z s = s
def St.noSlot (d : Nat) (s : St) : St := { s with slots := fun t => if t = d then .any else s.slots t }
/-- The same, but for the slot itself. -/
def keepF (C : Cx) (d : Nat) (z : List AV) (s : St) : Prop := alTr C d z (s.noSlot d) = s.noSlot d

theorem alTr_boxes (C : Cx) (d : Nat) (z : List AV) : ∃ g : Nat → Option (List AV) → Option (List AV), ∀ s id, (alTr C d z s).boxes id = g id (s.boxes id) :=
  ⟨fun id x => ((x.map (AV.trC (fzLeaf (alF C d z)) id 0)).map (AV.trC (takeLeaf (alQ C d z)) id 0)).map (AV.trC (killBLeaf (C.base + d)) id 0), fun _ _ => rfl⟩


/-- An empty literal. -/
def isLit (o : Oper) : Option Nat :=
  match o.op, o.guard with
  | .buildSlice t len parts, none => if len = 0 ∧ parts.size = 0 then some t else none
  | _, _ => none

/-- The slots of empty literals. -/
def litsOf : List Oper → List Nat
  | [] => []
  | o :: l => match o.dst, isLit o with
    | some d, some _ => d :: litsOf l
    | _, _ => litsOf l
theorem mem_litsOf {l : List Oper} {t : Nat} (h : t ∈ litsOf l) : ∃ o ∈ l, o.dst = some t ∧ (isLit o).isSome = true := by
  induction l with
  | nil => simp [litsOf] at h
  | cons o l ih =>
    unfold litsOf at h
    split at h
    · rename_i d x hd hl
      rcases List.mem_cons.1 h with rfl | h
      · exact ⟨o, by simp, hd, by rw [hl]; rfl⟩
      · obtain ⟨o', h1, h2⟩ := ih h
        exact ⟨o', by simp [h1], h2⟩
    · obtain ⟨o', h1, h2⟩ := ih h
      exact ⟨o', by simp [h1], h2⟩

/-- What is appended to one of these literals' slots: the slot. -/
def srcOf (L : List Nat) (o : Oper) : Option Nat :=
  match o.op, o.guard with
  | .call ⟨.builtin .append, args, _⟩, none => match args.toList with
    | [.tmp t, _] => if L.contains t then some t else none
    | _ => none
  | _, _ => none

/-- A row of a slot's own that has nothing, appended to. -/
def qapp (C : Cx) (l : List AV) (ts : List Nat) : QR := match l, ts with
  | [.sl (.vw (.slot _ []) true) sz [], x], [t, t2] => match (C.T t).map TI.kind, (C.T t2).map TI.kind, appendix x with
    | some (.slice e), some (.slice _), some (sz2, ys) => match C.T e with
      | some y => ⟨0 < y.bytes ∧ sz2 = y.size ∧ sz = y.size ∧ ys.length * y.bytes ≤ 140737488355328, .sl .own y.size ys⟩
      | none => .no
    | _, _, _ => .no
  | _, _ => .no
def qappO (C : Cx) (o : Oper) (s : St) : QR := match o.op with
  | .call ⟨.builtin .append, args, ts⟩ => qapp C (rdArgs C s args.toList ts.toList) ts.toList
  | _ => .no

/-- An operation's value. -/
def vA (C : Cx) (ops : Array Oper) (L : List Nat) (r : AV) (o : Oper) (d : Nat) (s : St) : AV := match isAl C o with
  | some _ => .ptr (C.base + d) 0
  | none => match isLit o with
    | some t => .sl .own (szOf C.T t) []
    | none => match srcOf L o with
      | some _ => (qappO C o s).v
      | none => (popg C ops r o s).v

def okA (C : Cx) (ops : Array Oper) (L : List Nat) (r : AV) (o : Oper) (d : Nat) (s : St) : Prop := match isAl C o with
  | some z => alOk C d z ∧ s.boxes (C.base + d) = none
  | none => match isLit o with
    | some t => (qbs C t 0 []).ok ∧ d < C.N ∧ (s.slots d).free = true
    | none => match srcOf L o with
      | some _ => (qappO C o s).ok ∧ d < C.N ∧ (s.slots d).free = true
      | none => (popg C ops r o s).ok ∧ d < C.N ∧ (s.slots d).free = true

def aputsA (C : Cx) (ops : Array Oper) (L : List Nat) (rs : Nat → AV) : Nat → List Oper → St → (St → Prop) → Prop
  | _, [], st, K => K st
  | k, o :: rest, st, K => match o.dst with
    | some d => okA C ops L (rs k) o d st ∧ aputsA C ops L rs (k + 1) rest (st.put d (vA C ops L (rs k) o d st)) K
    | none => False

def canonA (C : Cx) (ops : Array Oper) (L : List Nat) (rs : Nat → AV) (st : St) : Nat → St
  | 0 => st
  | k + 1 => match ops[k]? with
    | some o => match o.dst with
      | some d => (canonA C ops L rs st k).put d (vA C ops L (rs k) o d (canonA C ops L rs st k))
      | none => canonA C ops L rs st k
    | none => canonA C ops L rs st k

def putA (C : Cx) (ops : Array Oper) (L : List Nat) (rs : Nat → AV) (st : St) (k : Nat) : AV :=
  match ops[k]? with
  | some o => match o.dst with
    | some d => vA C ops L (rs k) o d (canonA C ops L rs st k)
    | none => .any
  | none => .any

/-- A literal's slot is taken from by one alone. -/
def srcOk (L : List Nat) (ops : Array Oper) (m : Nat) : Bool := (List.range m).all fun k => match ops[k]? with
  | some o => match srcOf L o with
    | some t => (List.range m).all fun j => j == k || match ops[j]? with
      | some oj => !(oj.looksAt ops).contains t
      | none => true
    | none => true
  | none => true
theorem srcOk_spec {L : List Nat} {ops : Array Oper} {m : Nat} (h : srcOk L ops m = true) {k j t : Nat} {o oj : Oper} (hk : k < m) (hj : j < m) (hjk : j ≠ k) (ho : ops[k]? = some o) (hoj : ops[j]? = some oj) (hs : srcOf L o = some t) : t ∉ oj.looksAt ops := by
  simp only [srcOk, List.all_eq_true, List.mem_range] at h
  have h1 := h k hk
  rw [ho] at h1
  simp only [hs, List.all_eq_true, List.mem_range] at h1
  have h2 := h1 j hj
  rw [hoj] at h2
  simp only [Bool.or_eq_true, beq_iff_eq, hjk, false_or, Bool.not_eq_true', List.contains_eq_mem, decide_eq_false_iff_not] at h2
  exact h2

/-- What is taken away when one appends to a slot's row. -/
def srcQ (t : Nat) (p : Place) : Option Place := if p = .slot t [] then some .no else none
def tkTr (t : Nat) (s : St) : St := s.take (srcQ t)
theorem tkTr_boxes (t : Nat) : ∃ g : Nat → Option (List AV) → Option (List AV), ∀ s id, (tkTr t s).boxes id = g id (s.boxes id) :=
  ⟨fun id x => x.map (AV.trC (takeLeaf (srcQ t)) id 0), fun _ _ => rfl⟩
def keepT (t : Nat) (s : St) : Prop := tkTr t (s.noSlot t) = s.noSlot t
def tks (L : List Nat) : List Oper → St → Prop
  | [], _ => True
  | o :: l, s => (match srcOf L o with
    | some t => keepT t s
    | none => True) ∧ tks L l s
theorem tks_get {L : List Nat} {s : St} {l : List Oper} (h : tks L l s) {o : Oper} {t : Nat} (hm : o ∈ l) (hz : srcOf L o = some t) : keepT t s := by
  induction l with
  | nil => cases hm
  | cons x l ih =>
    rcases List.mem_cons.1 hm with rfl | hm
    · have := h.1
      rw [hz] at this
      exact this
    · exact ih h.2 hm
/-- The slots that are taken from. -/
def srcs (L : List Nat) : List Oper → List Nat
  | [] => []
  | o :: l => match srcOf L o with
    | some t => t :: srcs L l
    | none => srcs L l
theorem mem_srcs {L : List Nat} {l : List Oper} {t : Nat} : t ∈ srcs L l ↔ ∃ o ∈ l, srcOf L o = some t := by
  induction l with
  | nil => simp [srcs]
  | cons o l ih =>
    unfold srcs
    cases hs : srcOf L o with
    | none => simp [ih, hs]
    | some x => simp [ih, hs, eq_comm]
def St.noSlots (ts : List Nat) (s : St) : St := { s with slots := fun t => if ts.contains t then .any else s.slots t }

/-- The boxes that operations make. -/
def newsA (C : Cx) : List Oper → Boxes
  | [] => []
  | o :: l => match o.dst, isAl C o with
    | some d, some z => (C.base + d, alZ C d z) :: newsA C l
    | _, _ => newsA C l
def keeps (C : Cx) : List Oper → St → Prop
  | [], _ => True
  | o :: l, s => (match o.dst, isAl C o with
    | some d, some z => keep C d z s
    | _, _ => True) ∧ keeps C l s

def keepsF (C : Cx) : List Oper → St → Prop
  | [], _ => True
  | o :: l, s => (match o.dst, isAl C o with
    | some d, some z => keepF C d z s
    | _, _ => True) ∧ keepsF C l s
theorem keepsF_get {C : Cx} {s : St} {l : List Oper} (h : keepsF C l s) {o : Oper} {d : Nat} {z : List AV} (hm : o ∈ l) (hd : o.dst = some d) (hz : isAl C o = some z) : keepF C d z s := by
  induction l with
  | nil => cases hm
  | cons x l ih =>
    rcases List.mem_cons.1 hm with rfl | hm
    · have := h.1
      rw [hd, hz] at this
      exact this
    · exact ih h.2 hm

theorem keeps_get {C : Cx} {s : St} {l : List Oper} (h : keeps C l s) {o : Oper} {d : Nat} {z : List AV} (hm : o ∈ l) (hd : o.dst = some d) (hz : isAl C o = some z) : keep C d z s := by
  induction l with
  | nil => cases hm
  | cons x l ih =>
    rcases List.mem_cons.1 hm with rfl | hm
    · have := h.1
      rw [hd, hz] at this
      exact this
    · exact ih h.2 hm

theorem newsA_get {C : Cx} {l : List Oper} {id : Nat} {cs : List AV} (h : (newsA C l).lookup id = some cs) : ∃ o ∈ l, ∃ d z, o.dst = some d ∧ isAl C o = some z ∧ id = C.base + d ∧ cs = alZ C d z := by
  induction l with
  | nil => simp [newsA] at h
  | cons o l ih =>
    have tail : (newsA C l).lookup id = some cs → ∃ o' ∈ o :: l, ∃ d z, o'.dst = some d ∧ isAl C o' = some z ∧ id = C.base + d ∧ cs = alZ C d z := fun h => by
      obtain ⟨o', hm, r⟩ := ih h
      exact ⟨o', by simp [hm], r⟩
    unfold newsA at h
    split at h
    · rename_i d z hd hz
      rw [List.lookup_cons] at h
      by_cases hid : id = C.base + d
      · subst hid
        simp at h
        exact ⟨o, by simp, d, z, hd, hz, rfl, h.symm⟩
      · have : (id == C.base + d) = false := by simpa using hid
        rw [this] at h
        exact tail h
    · exact tail h

theorem newsA_mem {C : Cx} {l : List Oper} {o : Oper} {d : Nat} {z : List AV} (hm : o ∈ l) (hd : o.dst = some d) (hz : isAl C o = some z) : ((newsA C l).lookup (C.base + d)).isSome = true := by
  induction l with
  | nil => cases hm
  | cons x l ih =>
    unfold newsA
    rcases List.mem_cons.1 hm with rfl | hm
    · rw [hd, hz]
      simp [List.lookup_cons]
    · have ih := ih hm
      split
      · rw [List.lookup_cons]
        split
        · rfl
        · exact ih
      · exact ih

section
variable {C : Cx} {L : List Nat} {ops : Array Oper} {rs : Nat → AV} {st : St} {m : Nat}

/-- A slot's row has been taken. -/
def Gone (L : List Nat) (ops : Array Oper) (m : Nat) (D : Nat → Prop) (t : Nat) : Prop := ∃ c o, c < m ∧ D c ∧ ops[c]? = some o ∧ srcOf L o = some t

/-- A state in which certain operations have put their values, and made their boxes. -/
structure IsA (C : Cx) (L : List Nat) (ops : Array Oper) (rs : Nat → AV) (st : St) (m : Nat) (D : Nat → Prop) (s : St) : Prop where
  put : ∀ j t, j < m → D j → dstOf ops j = some t → ¬ Gone L ops m D t → s.slots t = putA C ops L rs st j
  gone : ∀ t, Gone L ops m D t → s.slots t = .any
  old : ∀ t, (∀ j, j < m → D j → dstOf ops j ≠ some t) → ¬ Gone L ops m D t → s.slots t = st.slots t
  newb : ∀ j o d z, j < m → D j → ops[j]? = some o → o.dst = some d → isAl C o = some z → s.boxes (C.base + d) = some (alZ C d z)
  oldb : ∀ id, (∀ j o d z, j < m → D j → ops[j]? = some o → o.dst = some d → isAl C o = some z → id ≠ C.base + d) → s.boxes id = st.boxes id

theorem isA_unique {D : Nat → Prop} {s s' : St} (h : IsA C L ops rs st m D s) (h' : IsA C L ops rs st m D s') : s = s' := by
  refine St.ext' (fun t => ?_) (fun id => ?_)
  · by_cases hg : Gone L ops m D t
    · rw [h.gone t hg, h'.gone t hg]
    by_cases ht : ∃ j, j < m ∧ D j ∧ dstOf ops j = some t
    · obtain ⟨j, hj, hD, hjt⟩ := ht
      rw [h.put j t hj hD hjt hg, h'.put j t hj hD hjt hg]
    · have : ∀ j, j < m → D j → dstOf ops j ≠ some t := fun j hj hD he => ht ⟨j, hj, hD, he⟩
      rw [h.old t this hg, h'.old t this hg]
  · by_cases hb : ∃ j o d z, j < m ∧ D j ∧ ops[j]? = some o ∧ o.dst = some d ∧ isAl C o = some z ∧ id = C.base + d
    · obtain ⟨j, o, d, z, h1, h2, h3, h4, h5, rfl⟩ := hb
      rw [h.newb j o d z h1 h2 h3 h4 h5, h'.newb j o d z h1 h2 h3 h4 h5]
    · have : ∀ j o d z, j < m → D j → ops[j]? = some o → o.dst = some d → isAl C o = some z → id ≠ C.base + d := fun j o d z h1 h2 h3 h4 h5 e => hb ⟨j, o, d, z, h1, h2, h3, h4, h5, e⟩
      rw [h.oldb id this, h'.oldb id this]

theorem gone_congr {D D' : Nat → Prop} (hD : ∀ j, j < m → (D j ↔ D' j)) (t : Nat) : Gone L ops m D t ↔ Gone L ops m D' t :=
  ⟨fun ⟨c, o, h1, h2, h3⟩ => ⟨c, o, h1, (hD c h1).1 h2, h3⟩, fun ⟨c, o, h1, h2, h3⟩ => ⟨c, o, h1, (hD c h1).2 h2, h3⟩⟩

theorem isA_congr {D D' : Nat → Prop} {s : St} (h : IsA C L ops rs st m D s) (hD : ∀ j, j < m → (D j ↔ D' j)) : IsA C L ops rs st m D' s :=
  ⟨fun j t hj hd he hg => h.put j t hj ((hD j hj).2 hd) he fun g => hg ((gone_congr hD t).1 g), fun t hg => h.gone t ((gone_congr hD t).2 hg), fun t ht hg => h.old t (fun j hj hd => ht j hj ((hD j hj).1 hd)) fun g => hg ((gone_congr hD t).1 g),
   fun j o d z hj hd => h.newb j o d z hj ((hD j hj).2 hd), fun id hi => h.oldb id fun j o d z hj hd => hi j o d z hj ((hD j hj).1 hd)⟩

/-- One more has put its value; it may have taken a literal's row. -/
theorem isA_put {D : Nat → Prop} {s : St} (h : IsA C L ops rs st m D s) {k d : Nat} {o : Oper} (hk : k < m) (ho : ops[k]? = some o) (hd : o.dst = some d) (hal : isAl C o = none) (hne : ∀ j, j < m → j ≠ k → dstOf ops j ≠ some d) (hgd : ∀ c o', c < m → ops[c]? = some o' → srcOf L o' = some d → ¬ (D c ∨ c = k)) {s0 : St}
    (hs0 : (s0 = s ∧ srcOf L o = none) ∨ ∃ t, srcOf L o = some t ∧ s0 = s.put t .any) :
    IsA C L ops rs st m (fun j => D j ∨ j = k) (s0.put d (putA C ops L rs st k)) := by
  have hdk : dstOf ops k = some d := by simp [dstOf, ho, hd]
  have hb : s0.boxes = s.boxes := by rcases hs0 with ⟨rfl, _⟩ | ⟨t, _, rfl⟩ <;> rfl
  have gsub : ∀ t, Gone L ops m D t → Gone L ops m (fun j => D j ∨ j = k) t := fun t ⟨c, o', h1, h2, h3⟩ => ⟨c, o', h1, .inl h2, h3⟩
  have hgone : ∀ t, Gone L ops m (fun j => D j ∨ j = k) t → t ≠ d := fun t ⟨c, o', h1, h2, h3, h4⟩ e => by subst e; exact hgd c o' h1 h3 h4 h2
  have gcase : ∀ t, Gone L ops m (fun j => D j ∨ j = k) t → Gone L ops m D t ∨ srcOf L o = some t := fun t ⟨c, o', h1, h2, h3, h4⟩ => by
    rcases h2 with h2 | rfl
    · exact .inl ⟨c, o', h1, h2, h3, h4⟩
    · rw [ho] at h3; cases h3; exact .inr h4
  have s0at : ∀ t, ¬ Gone L ops m (fun j => D j ∨ j = k) t → s0.slots t = s.slots t := fun t hg => by
    rcases hs0 with ⟨rfl, _⟩ | ⟨x, hx, rfl⟩
    · rfl
    · show (if t = x then _ else s.slots t) = _
      rw [if_neg fun e => hg ⟨k, o, hk, .inr rfl, ho, by rw [e]; exact hx⟩]
  refine ⟨fun j t hj hD hjt hg => ?_, fun t hg => ?_, fun t ht hg => ?_, fun j o' d' z hj hD ho' hd' hz => ?_, fun id hi => ?_⟩
  · show (if t = d then _ else s0.slots t) = _
    by_cases htd : t = d
    · subst htd
      have : j = k := Classical.byContradiction fun hjk => hne j hj hjk hjt
      subst this
      rw [if_pos rfl]
    · rw [if_neg htd, s0at t hg]
      rcases hD with hD | rfl
      · exact h.put j t hj hD hjt fun g => hg (gsub t g)
      · rw [hjt] at hdk; exact absurd (Option.some.inj hdk) htd
  · show (if t = d then _ else s0.slots t) = _
    rw [if_neg (hgone t hg)]
    rcases hs0 with ⟨rfl, hn⟩ | ⟨x, hx, rfl⟩
    · rcases gcase t hg with g | g
      · exact h.gone t g
      · rw [hn] at g; cases g
    · show (if t = x then _ else s.slots t) = _
      by_cases htx : t = x
      · rw [if_pos htx]
      · rw [if_neg htx]
        rcases gcase t hg with g | g
        · exact h.gone t g
        · rw [hx] at g; exact absurd (Option.some.inj g).symm htx
  · show (if t = d then _ else s0.slots t) = _
    have htd : t ≠ d := fun e => ht k hk (.inr rfl) (by rw [e]; exact hdk)
    rw [if_neg htd, s0at t hg]
    exact h.old t (fun j hj hD => ht j hj (.inl hD)) fun g => hg (gsub t g)
  · show s0.boxes _ = _
    rw [hb]
    rcases hD with hD | rfl
    · exact h.newb j o' d' z hj hD ho' hd' hz
    · rw [ho] at ho'; cases ho'
      rw [hal] at hz; cases hz
  · show s0.boxes _ = _
    rw [hb]
    exact h.oldb id fun j o' d' z hj hD => hi j o' d' z hj (.inl hD)

/-- One more has made its box. -/
theorem isA_box {D : Nat → Prop} {s : St} (h : IsA C L ops rs st m D s) {k d : Nat} {o : Oper} {z : List AV} (hk : k < m) (ho : ops[k]? = some o) (hd : o.dst = some d) (hal : isAl C o = some z) (hsrc : srcOf L o = none) (hne : ∀ j, j < m → j ≠ k → dstOf ops j ≠ some d) (hgd : ∀ c o', c < m → ops[c]? = some o' → srcOf L o' = some d → ¬ (D c ∨ c = k)) :
    IsA C L ops rs st m (fun j => D j ∨ j = k) ((s.setBox (C.base + d) (some (alZ C d z))).put d (.ptr (C.base + d) 0)) := by
  have hdk : dstOf ops k = some d := by simp [dstOf, ho, hd]
  have hpk : putA C ops L rs st k = .ptr (C.base + d) 0 := by simp [putA, ho, hd, vA, hal]
  have geq : ∀ t, Gone L ops m (fun j => D j ∨ j = k) t → Gone L ops m D t := fun t ⟨c, o', h1, h2, h3, h4⟩ => by
    rcases h2 with h2 | rfl
    · exact ⟨c, o', h1, h2, h3, h4⟩
    · rw [ho] at h3; cases h3; rw [hsrc] at h4; cases h4
  have gsub : ∀ t, Gone L ops m D t → Gone L ops m (fun j => D j ∨ j = k) t := fun t ⟨c, o', h1, h2, h3⟩ => ⟨c, o', h1, .inl h2, h3⟩
  refine ⟨fun j t hj hD hjt hg => ?_, fun t hg => ?_, fun t ht hg => ?_, fun j o' d' z' hj hD ho' hd' hz => ?_, fun id hi => ?_⟩
  · show (if t = d then _ else s.slots t) = _
    by_cases htd : t = d
    · subst htd
      have : j = k := Classical.byContradiction fun hjk => hne j hj hjk hjt
      subst this
      rw [if_pos rfl, hpk]
    · rw [if_neg htd]
      rcases hD with hD | rfl
      · exact h.put j t hj hD hjt fun g => hg (gsub t g)
      · rw [hjt] at hdk; exact absurd (Option.some.inj hdk) htd
  · show (if t = d then _ else s.slots t) = _
    have htd : t ≠ d := fun e => by
      obtain ⟨c, o', h1, h2, h3, h4⟩ := hg
      subst e
      exact hgd c o' h1 h3 h4 h2
    rw [if_neg htd]
    exact h.gone t (geq t hg)
  · show (if t = d then _ else s.slots t) = _
    have htd : t ≠ d := fun e => ht k hk (.inr rfl) (by rw [e]; exact hdk)
    rw [if_neg htd]
    exact h.old t (fun j hj hD => ht j hj (.inl hD)) fun g => hg (gsub t g)
  · show (if C.base + d' = C.base + d then _ else s.boxes (C.base + d')) = _
    by_cases hjk : j = k
    · subst hjk
      rw [ho] at ho'; cases ho'
      rw [hd] at hd'; cases hd'
      rw [hal] at hz; cases hz
      rw [if_pos rfl]
    · have hdd : d' ≠ d := fun e => hne j hj hjk (by subst e; simp [dstOf, ho', hd'])
      have hbd : C.base + d' ≠ C.base + d := fun e => hdd (Nat.add_left_cancel e)
      rw [if_neg hbd]
      exact h.newb j o' d' z' hj (hD.resolve_right hjk) ho' hd' hz
  · have hidk := hi k o d z hk (.inr rfl) ho hd hal
    show (if id = C.base + d then _ else s.boxes id) = _
    rw [if_neg hidk]
    exact h.oldb id fun j o' d' z' hj hD => hi j o' d' z' hj (.inl hD)

/-- The slots of the text's order. -/
theorem canonA_slots (hdst : ∀ k, k < m → ∃ o d, ops[k]? = some o ∧ o.dst = some d) (hne : ∀ j k d, j < m → k < m → j ≠ k → dstOf ops k = some d → dstOf ops j ≠ some d) :
    ∀ k, k ≤ m → (canonA C ops L rs st k).boxes = st.boxes ∧ (∀ j t, j < k → dstOf ops j = some t → (canonA C ops L rs st k).slots t = putA C ops L rs st j) ∧ ∀ t, (∀ j, j < k → dstOf ops j ≠ some t) → (canonA C ops L rs st k).slots t = st.slots t
  | 0, _ => ⟨rfl, fun j t h => absurd h (by omega), fun t _ => rfl⟩
  | k + 1, hk => by
    obtain ⟨o, d, ho, hd⟩ := hdst k (by omega)
    have hdk : dstOf ops k = some d := by simp [dstOf, ho, hd]
    obtain ⟨h1, h2, h3⟩ := canonA_slots hdst hne k (by omega)
    have e : canonA C ops L rs st (k + 1) = (canonA C ops L rs st k).put d (putA C ops L rs st k) := by simp [canonA, putA, ho, hd]
    rw [e]
    refine ⟨h1, fun j t hj hjt => ?_, fun t ht => ?_⟩
    · show (if t = d then _ else (canonA C ops L rs st k).slots t) = _
      by_cases htd : t = d
      · subst htd
        have : j = k := Classical.byContradiction fun hjk => hne j k t (by omega) (by omega) hjk hdk hjt
        subst this
        rw [if_pos rfl]
      · rw [if_neg htd]
        have : j ≠ k := fun e => by subst e; rw [hjt] at hdk; exact htd (Option.some.inj hdk)
        exact h2 j t (by omega) hjt
    · show (if t = d then _ else (canonA C ops L rs st k).slots t) = _
      have htd : t ≠ d := fun e => ht k (by omega) (by rw [e]; exact hdk)
      rw [if_neg htd]
      exact h3 t fun j hj => ht j (by omega)

/-- A state in which all have put, none has taken. -/
structure AllA (C : Cx) (L : List Nat) (ops : Array Oper) (rs : Nat → AV) (st : St) (m : Nat) (s : St) : Prop where
  put : ∀ j t, j < m → dstOf ops j = some t → s.slots t = putA C ops L rs st j
  newb : ∀ j o d z, j < m → ops[j]? = some o → o.dst = some d → isAl C o = some z → s.boxes (C.base + d) = some (alZ C d z)

theorem any_tr {h : Place → AV → AV} (hl : ∀ p, h p .any = .any) (p : Place) : AV.tr h p .any = .any := by
  rw [AV.tr_leaf rfl, hl]

/-- What stays in the first and in the last state, stays in all between. -/
theorem keep_mix {D : Nat → Prop} {s fin : St} (h : IsA C L ops rs st m D s) (hf : AllA C L ops rs st m fin) {d : Nat} {z : List AV} (hnd : ∀ j, j < m → D j → dstOf ops j ≠ some d) (h1 : keep C d z st) (h2 : keepF C d z fin) : keep C d z s := by
  obtain ⟨gb, hgb⟩ := alTr_boxes C d z
  let g : Nat → AV → AV := fun t x => ((x.tr (fzLeaf (alF C d z)) (.slot t [])).tr (takeLeaf (alQ C d z)) (.slot t [])).tr (killBLeaf (C.base + d)) (.slot t [])
  have hg : ∀ s t, (alTr C d z s).slots t = g t (s.slots t) := fun _ _ => rfl
  have ga : ∀ t, g t .any = .any := fun t => by
    show ((AV.any.tr _ _).tr _ _).tr _ _ = _
    rw [any_tr (fun _ => rfl), any_tr (fun _ => rfl), any_tr (fun _ => rfl)]
  have s1 : ∀ t, g t (st.slots t) = st.slots t := fun t => by rw [← hg]; exact congrFun (congrArg St.slots h1) t
  have s2 : ∀ t, t ≠ d → g t (fin.slots t) = fin.slots t := fun t htd => by
    have h3 := congrFun (congrArg St.slots h2) t
    have e : (fin.noSlot d).slots t = fin.slots t := if_neg htd
    rw [hg, e] at h3
    exact h3
  have b1 : ∀ t, gb t (st.boxes t) = st.boxes t := fun t => by rw [← hgb]; exact congrFun (congrArg St.boxes h1) t
  have b2 : ∀ t, gb t (fin.boxes t) = fin.boxes t := fun t => by
    have h3 := congrFun (congrArg St.boxes h2) t
    rw [hgb] at h3
    exact h3
  refine St.ext' (fun t => ?_) (fun id => ?_)
  · rw [hg]
    by_cases hgn : Gone L ops m D t
    · rw [h.gone t hgn]; exact ga t
    by_cases ht : ∃ j, j < m ∧ D j ∧ dstOf ops j = some t
    · obtain ⟨j, hj, hD, hjt⟩ := ht
      rw [h.put j t hj hD hjt hgn, ← hf.put j t hj hjt]
      exact s2 t fun e => hnd j hj hD (by rw [← e]; exact hjt)
    · rw [h.old t (fun j hj hD he => ht ⟨j, hj, hD, he⟩) hgn]
      exact s1 t
  · rw [hgb]
    by_cases hb : ∃ j o d z, j < m ∧ D j ∧ ops[j]? = some o ∧ o.dst = some d ∧ isAl C o = some z ∧ id = C.base + d
    · obtain ⟨j, o, d', z', g1, g2, g3, g4, g5, rfl⟩ := hb
      rw [h.newb j o d' z' g1 g2 g3 g4 g5, ← hf.newb j o d' z' g1 g3 g4 g5]
      exact b2 _
    · rw [h.oldb id fun j o d' z' g1 g2 g3 g4 g5 e => hb ⟨j, o, d', z', g1, g2, g3, g4, g5, e⟩]
      exact b1 _

/-- The same, where a literal's row is taken. -/
theorem take_mix {D : Nat → Prop} {s fin : St} (h : IsA C L ops rs st m D s) (hf : AllA C L ops rs st m fin) {x sz : Nat} (hx : s.slots x = .sl .own sz []) (h1 : keepT x st) (h2 : keepT x fin) : s.take (srcQ x) = s.put x .any := by
  obtain ⟨gb, hgb⟩ := tkTr_boxes x
  let g : Nat → AV → AV := fun t y => y.tr (takeLeaf (srcQ x)) (.slot t [])
  have hg : ∀ s t, (tkTr x s).slots t = g t (s.slots t) := fun _ _ => rfl
  have ga : ∀ t, g t .any = .any := fun t => any_tr (fun _ => rfl) _
  have s1 : ∀ t, t ≠ x → g t (st.slots t) = st.slots t := fun t htx => by
    have h3 := congrFun (congrArg St.slots h1) t
    have e : (st.noSlot x).slots t = st.slots t := if_neg htx
    rw [hg, e] at h3
    exact h3
  have s2 : ∀ t, t ≠ x → g t (fin.slots t) = fin.slots t := fun t htx => by
    have h3 := congrFun (congrArg St.slots h2) t
    have e : (fin.noSlot x).slots t = fin.slots t := if_neg htx
    rw [hg, e] at h3
    exact h3
  have b1 : ∀ t, gb t (st.boxes t) = st.boxes t := fun t => by
    have h3 := congrFun (congrArg St.boxes h1) t
    rw [hgb] at h3
    exact h3
  have b2 : ∀ t, gb t (fin.boxes t) = fin.boxes t := fun t => by
    have h3 := congrFun (congrArg St.boxes h2) t
    rw [hgb] at h3
    exact h3
  show tkTr x s = _
  refine St.ext' (fun t => ?_) (fun id => ?_)
  · rw [hg]
    show _ = if t = x then _ else s.slots t
    by_cases htx : t = x
    · subst htx
      rw [if_pos rfl, hx]
      show AV.tr _ _ _ = _
      rw [AV.tr_leaf rfl]
      simp [takeLeaf, srcQ]
    rw [if_neg htx]
    by_cases hgn : Gone L ops m D t
    · rw [h.gone t hgn]; exact ga t
    by_cases ht : ∃ j, j < m ∧ D j ∧ dstOf ops j = some t
    · obtain ⟨j, hj, hD, hjt⟩ := ht
      rw [h.put j t hj hD hjt hgn, ← hf.put j t hj hjt]
      exact s2 t htx
    · rw [h.old t (fun j hj hD he => ht ⟨j, hj, hD, he⟩) hgn]
      exact s1 t htx
  · rw [hgb]
    show _ = s.boxes id
    by_cases hb : ∃ j o d z, j < m ∧ D j ∧ ops[j]? = some o ∧ o.dst = some d ∧ isAl C o = some z ∧ id = C.base + d
    · obtain ⟨j, o, d', z', g1, g2, g3, g4, g5, rfl⟩ := hb
      rw [h.newb j o d' z' g1 g2 g3 g4 g5, ← hf.newb j o d' z' g1 g3 g4 g5]
      exact b2 _
    · rw [h.oldb id fun j o d' z' g1 g2 g3 g4 g5 e => hb ⟨j, o, d', z', g1, g2, g3, g4, g5, e⟩]
      exact b1 _
end

section
variable {C : Cx} {L : List Nat} {S : Start} {ops : Array Oper} {R : Exit → Act → World → Prop} {m : Nat}

/-- Behind the first m operations there is but one order. -/
theorem draw_tailA (D : DrawA ops m) (hbase : S.k ≤ C.base) {K : St → Prop} (hR : ∀ E a, Inv C.N S E → a.tmps = E.tm → a.defers = [] → K E.st → R .normal a E.w) :
    ∀ (fuel k : Nat) (listed : Array Bool) (E : Env) (a : Act), k ≤ ops.size → ops.size ≤ k + fuel → m ≤ k → listed.size = ops.size → (∀ j, j < ops.size → listed.getD j true = decide (j < k)) → Inv C.N S E → a.tmps = E.tm → a.defers = [] →
      aops C ops (ops.toList.drop k) E.st K → wpAny C.P .any ops R fuel listed a E.w := by
  intro fuel
  have fin : ∀ (fuel k : Nat) (listed : Array Bool) (E : Env) (a : Act), k = ops.size → (∀ j, j < ops.size → listed.getD j true = decide (j < k)) → Inv C.N S E → a.tmps = E.tm → a.defers = [] → aops C ops (ops.toList.drop k) E.st K → wpAny C.P .any ops R fuel listed a E.w := by
    intro fuel k listed E a hk hl I ha hd h
    subst hk
    refine wpAny_done ?_ ?_ fuel
    · apply List.eq_nil_iff_forall_not_mem.2
      intro j hj
      obtain ⟨h1, o, ho, _⟩ := mem_ready.1 hj
      have hlt := (Array.getElem?_eq_some_iff.1 ho).1
      rw [hl j hlt] at h1
      simp [hlt] at h1
    · rw [List.drop_eq_nil_of_le (by simp)] at h
      exact hR E a I ha hd h
  induction fuel with
  | zero =>
    intro k listed E a hk hk2 hm hs hl I ha hd h
    exact fin 0 k listed E a (by omega) hl I ha hd h
  | succ fuel ih =>
    intro k listed E a hk hk2 hm hs hl I ha hd h
    by_cases hke : k = ops.size
    · exact fin _ k listed E a hke hl I ha hd h
    have hlt : k < ops.size := by omega
    have ho : ops[k]? = some ops[k] := Array.getElem?_eq_getElem hlt
    have hgf : ∀ j, j < ops.size → listed.getD j false = decide (j < k) := fun j hj => by
      have h1 := hl j hj
      have hjs : j < listed.size := by omega
      rw [Array.getD_eq_getD_getElem?, Array.getElem?_eq_getElem hjs] at h1 ⊢
      exact h1
    have hcl : ClosedL ops listed := fun i j hi hr => by
      have hio : i < ops.size := by
        cases hr with
        | one ho' _ => exact (Array.getElem?_eq_some_iff.1 ho').1
        | more ho' _ _ => exact (Array.getElem?_eq_some_iff.1 ho').1
      rw [hgf i hio] at hi
      have hij := hr.lt D
      have hi : i < k := by simpa using hi
      rw [hgf j (by omega)]
      simp; omega
    have hkr : k ∈ Region.ready .any ops listed := by
      refine mem_ready.2 ⟨by rw [hl k hlt]; simp, _, ho, fun e he hb => ?_⟩
      have := D.back k _ ho e he hb
      rw [hgf e.on (by omega)]; simpa using this
    refine ⟨fun h0 => by rw [h0] at hkr; simp at hkr, fun i hi => ?_⟩
    have hik : i = k := by
      obtain ⟨h1, o, hoi, h2⟩ := mem_ready.1 hi
      have hil := (Array.getElem?_eq_some_iff.1 hoi).1
      rw [hl i hil] at h1
      have h1 : ¬ i < k := by simpa using h1
      refine Classical.byContradiction fun hne => ?_
      have := ready_reach hcl hi (D.tail i o (by omega) hoi k (by omega))
      rw [hgf k hlt] at this
      simp at this
    subst hik
    have hdrop : ops.toList.drop i = ops[i] :: ops.toList.drop (i + 1) := by
      rw [List.drop_eq_getElem_cons (by simpa using hlt)]; simp
    rw [hdrop] at h
    refine aops_head I hbase ha hd ho h fun E' a' I' ha' hd' h' => ?_
    refine ih (i + 1) _ E' a' (by omega) (by omega) (by omega) (by simpa using hs) (fun j hj => ?_) I' ha' hd' h'
    by_cases hji : i = j
    · subst hji
      rw [Array.getD_eq_getD_getElem?, Array.getElem?_setIfInBounds_self_of_lt (by omega)]
      simp
    · rw [getD_set_ne true hji, hl j hj]
      have : (j < i) ↔ (j < i + 1) := by omega
      simp [this]

/-- A box is made: nothing else turns. -/
theorem al_head {E : Env} (I : Inv C.N S E) (hbase : S.k ≤ C.base) {a : Act} (ha : a.tmps = E.tm) (hd : a.defers = []) {i d : Nat} {o : Oper} {z : List AV} (ho : ops[i]? = some o) (hdst : o.dst = some d) (hal : isAl C o = some z) (hok : alOk C d z) (hk : keep C d z E.st)
    {next : Act → World → Prop} (hnext : ∀ E' a', Inv C.N S E' → a'.tmps = E'.tm → a'.defers = [] → E'.st = (E.st.setBox (C.base + d) (some (alZ C d z))).put d (.ptr (C.base + d) 0) → next a' E'.w) : wpOp C.P ops R i next a E.w := by
  unfold isAl at hal
  split at hal
  · rename_i t hop hg
    obtain ⟨y, hy, rfl⟩ := Option.map_eq_some_iff.1 hal
    unfold wpOp
    simp only [ho]
    have hw : Region.wanted o (yielded ops a.tmps) = true := by simp [Region.wanted, hg]
    rw [if_pos hw]
    refine .inl (wp_alloc (K := fun s => s = (E.st.setBox (C.base + d) (some (alZ C d y.zero))).put d (.ptr (C.base + d) 0)) I hbase ha (fun E' a' I' ha' hd' hK => hnext E' a' I' ha' (hd'.trans hd) hK) hy hdst hop ?_)
    obtain ⟨h1, h2, h3, h4, h5⟩ := hok
    refine ⟨h1, h2, h3, h4, h5, ?_⟩
    show (((alTr C d y.zero E.st).setBox (C.base + d) (some (alZ C d y.zero))).put d (.ptr (C.base + d) 0)) = _
    rw [show alTr C d y.zero E.st = E.st from hk]
  · cases hal

/-- An empty literal. -/
theorem lit_head {E : Env} (I : Inv C.N S E) {a : Act} (ha : a.tmps = E.tm) (hd : a.defers = []) {i d t : Nat} {o : Oper} (ho : ops[i]? = some o) (hdst : o.dst = some d) (hl : isLit o = some t) (hok : (qbs C t 0 []).ok) (hN : d < C.N) (hf : (E.st.slots d).free = true)
    {next : Act → World → Prop} (hnext : ∀ E' a', Inv C.N S E' → a'.tmps = E'.tm → a'.defers = [] → E'.st = E.st.put d (.sl .own (szOf C.T t) []) → next a' E'.w) : wpOp C.P ops R i next a E.w := by
  unfold isLit at hl
  split at hl
  · rename_i t' len parts hop hg
    split at hl
    · rename_i h0
      cases hl
      obtain ⟨rfl, hp⟩ := h0
      have hpe : parts = #[] := Array.eq_empty_of_size_eq_zero hp
      subst hpe
      unfold wpOp
      simp only [ho]
      have hw : Region.wanted o (yielded ops a.tmps) = true := by simp [Region.wanted, hg]
      rw [if_pos hw]
      unfold qbs at hok
      split at hok
      · rename_i e hk
        split at hok
        · rename_i y hy
          split at hok
          · rename_i cs hcs
            obtain ⟨h1, h2, h3, h4, h5, h6, h7⟩ := hok
            have hsz : szOf C.T t = y.size := by
              obtain ⟨yt, hyt, hkt⟩ := Option.map_eq_some_iff.1 hk
              unfold szOf
              rw [hyt]
              simp only
              rw [hkt]
              simp only [hy]
              rfl
            refine .inl (wp_buildSlice (K := fun s => s = E.st.put d (.sl .own (szOf C.T t) [])) (sz := elemSz C.T t) I ha (fun E' a' I' ha' hd' hK => hnext E' a' I' ha' (hd'.trans hd) hK) hdst hop ?_)
            show abuildSlice C E.st d t 0 [] _
            unfold abuildSlice
            rw [hk]
            simp only
            rw [hy]
            simp only
            have hv0 : AV.vwsN (([] : List (Nat × AV)).map (·.2)) = [] := rfl
            rw [hv0]
            simp only [List.isEmpty_nil, settleF]
            have hn : (fun _ => false : Place → Bool) = noF := rfl
            rw [hcs]
            exact ⟨hN, hf, h2, h3, h4, h5, h6, h7, by rw [St.fz_no, hsz]; rfl⟩
          · exact hok.elim
        · exact hok.elim
      · exact hok.elim
    · cases hl
  · cases hl

theorem Leans.take_congr {SP : Place → Prop} {SB : Nat → Prop} {Q Q' : Place → Option Place} (hQ : ∀ q, SP q → (Q q).isSome = (Q' q).isSome) {p : Place} {x : AV} (h : Leans SP SB p x) : x.tr (takeLeaf Q) p = x.tr (takeLeaf Q') p := by
  have lst : ∀ (l : List AV) (k : Nat) (p : Place), (∀ (j : Nat) (c : AV), l[j]? = some c → c.tr (takeLeaf Q) (p.sub (k + j)) = c.tr (takeLeaf Q') (p.sub (k + j))) → AV.trL (takeLeaf Q) p k l = AV.trL (takeLeaf Q') p k l := by
    intro l
    induction l with
    | nil => intros; rfl
    | cons x l ih =>
      intro k p h
      rw [AV.trL, AV.trL, show AV.tr (takeLeaf Q) (p.sub k) x = AV.tr (takeLeaf Q') (p.sub k) x from h 0 x rfl, ih (k + 1) p fun j c hc => by rw [show k + 1 + j = k + (j + 1) by omega]; exact h (j + 1) c (by simpa using hc)]
  have lsn : ∀ (l : List AV), (∀ c ∈ l, c.tr (takeLeaf Q) .no = c.tr (takeLeaf Q') .no) → AV.trN (takeLeaf Q) l = AV.trN (takeLeaf Q') l := by
    intro l
    induction l with
    | nil => intros; rfl
    | cons x l ih =>
      intro h
      rw [AV.trN, AV.trN, h x (by simp), ih fun c hc => h c (by simp [hc])]
  induction h with
  | pt p g ix cells off hq =>
    rw [AV.tr_leaf rfl, AV.tr_leaf rfl]
    cases g <;> first | rfl | skip
    rename_i q ex
    simp only [takeLeaf, hQ q (hq q ex rfl)]
  | sl p g sz xs hq hp =>
    rw [AV.tr_leaf rfl, AV.tr_leaf rfl]
    cases g <;> first | rfl | skip
    · simp only [takeLeaf, hQ p (hp rfl)]
    · rename_i q ex
      simp only [takeLeaf, hQ q (hq q ex rfl)]
  | fn p f fi ca _ _ h1 h2 =>
    rw [AV.tr, AV.tr, lsn fi h1, lsn ca h2]
  | agg p cs _ ih =>
    rw [AV.tr, AV.tr, lst cs 0 p fun j c hc => by rw [Nat.zero_add]; exact ih j c hc]
  | tup p cs _ ih =>
    rw [AV.tr, AV.tr, lst cs 0 p fun j c hc => by rw [Nat.zero_add]; exact ih j c hc]
  | _ => rfl

/-- A free slot is neither viewed nor owns: what is taken is the literal's row alone. -/
theorem take_src {N : Nat} {E : Env} (R : Rel N E) {d t : Nat} (hf : (E.st.slots d).free = true) : E.st.take (appendQ d (.slot t [])) = E.st.take (srcQ t) := by
  have hq : ∀ q sz xs, E.st.abs q = .sl .own sz xs → (fun q => isSlotOf d q = false ∧ ∀ i, q ≠ .box i) q := by
    intro q sz xs h
    cases q with
    | slot t' π =>
      refine ⟨?_, fun i => by simp⟩
      simp only [isSlotOf, beq_eq_false_iff_ne, ne_eq]
      rintro rfl
      exact absurd h (free_noOwn π hf)
    | cell => exact ⟨rfl, fun i => by simp⟩
    | box i => cases h
    | no => cases h
  have hQ : ∀ q, (isSlotOf d q = false ∧ ∀ i, q ≠ .box i) → (appendQ d (.slot t []) q).isSome = (srcQ t q).isSome := by
    rintro q ⟨h1, h2⟩
    cases q with
    | box i => exact absurd rfl (h2 i)
    | slot t' π =>
      simp only [appendQ, srcQ, h1]
      split <;> rfl
    | cell => rfl
    | no => rfl
  refine St.ext' (fun x => ?_) (fun id => ?_)
  · exact (R.leansSlot (SP := fun q => isSlotOf d q = false ∧ ∀ i, q ≠ .box i) hq ⟨rfl, fun i => by simp⟩ x).take_congr hQ
  · show (E.st.boxes id).map (AV.trC (takeLeaf (appendQ d (.slot t []))) id 0) = (E.st.boxes id).map (AV.trC (takeLeaf (srcQ t)) id 0)
    cases hb : E.st.boxes id with
    | none => rfl
    | some cs =>
      show some _ = some _
      congr 1
      have key : ∀ (l : List AV) (k : Nat), (∀ (j : Nat) (c : AV), l[j]? = some c → c.tr (takeLeaf (appendQ d (.slot t []))) (.cell id (k + j)) = c.tr (takeLeaf (srcQ t)) (.cell id (k + j))) → AV.trC (takeLeaf (appendQ d (.slot t []))) id k l = AV.trC (takeLeaf (srcQ t)) id k l := by
        intro l
        induction l with
        | nil => intros; rfl
        | cons x l ih =>
          intro k h
          rw [AV.trC, AV.trC, show AV.tr (takeLeaf (appendQ d (.slot t []))) (.cell id k) x = AV.tr (takeLeaf (srcQ t)) (.cell id k) x from h 0 x rfl, ih (k + 1) fun j c hc => by rw [show k + 1 + j = k + (j + 1) by omega]; exact h (j + 1) c (by simpa using hc)]
      exact key cs 0 fun j c hc => by
        rw [Nat.zero_add]
        exact (R.leansCell (SP := fun q => isSlotOf d q = false ∧ ∀ i, q ≠ .box i) hq ⟨rfl, fun i => by simp⟩ hb hc).take_congr hQ

/-- A literal's row, appended to. -/
theorem app_head {E : Env} (I : Inv C.N S E) {a : Act} (ha : a.tmps = E.tm) (hd : a.defers = []) {i d t sz0 : Nat} {o : Oper} (ho : ops[i]? = some o) (hdst : o.dst = some d) (hs : srcOf L o = some t) (hok : (qappO C o E.st).ok) (hN : d < C.N) (hx : E.st.slots t = .sl .own sz0 []) (hfr : (E.st.slots d).free = true) (htk : E.st.take (srcQ t) = E.st.put t .any)
    {next : Act → World → Prop} (hnext : ∀ E' a', Inv C.N S E' → a'.tmps = E'.tm → a'.defers = [] → E'.st = (E.st.put t .any).put d (qappO C o E.st).v → next a' E'.w) : wpOp C.P ops R i next a E.w := by
  unfold srcOf at hs
  split at hs
  · rename_i args ts hop hg
    split at hs
    · rename_i t' x hargs
      split at hs
      · cases hs
        unfold wpOp
        simp only [ho]
        have hw : Region.wanted o (yielded ops a.tmps) = true := by simp [Region.wanted, hg]
        rw [if_pos hw]
        have hq : qappO C o E.st = qapp C (rdArgs C E.st args.toList ts.toList) ts.toList := by unfold qappO; rw [hop]
        rw [hq] at hok hnext
        have hhead : ∀ u l, rdArgs C E.st args.toList ts.toList = u :: l → u = .sl (.vw (.slot t []) true) sz0 [] := fun u l he => by
          rw [hargs] at he
          have hr : ∀ n, E.st.rd n (.tmp t) = .sl (.vw (.slot t []) true) sz0 [] := fun n => by
            show (E.st.slots t).view (.slot t []) = _
            rw [hx]
            unfold AV.view
            rw [AV.tr_leaf rfl]
            rfl
          cases hts : ts.toList with
          | nil => rw [hts, rdArgs, hr] at he; exact (List.cons.inj he).1.symm
          | cons b l' => rw [hts, rdArgs, hr] at he; exact (List.cons.inj he).1.symm
        generalize hrd : rdArgs C E.st args.toList ts.toList = l1 at hok hnext hhead
        generalize hts : ts.toList = l2 at hok hnext hrd
        unfold qapp at hok hnext
        split at hok
        · rename_i t'' sz x' t1 t2
          have hh := hhead _ _ rfl
          have e2 : sz = sz0 := by injection hh
          subst e2
          simp only at hnext
          split at hok
          · rename_i e e2' sz2 ys hk hk2 hap
            rw [hk, hk2, hap] at hnext
            simp only at hnext
            split at hok
            · rename_i y hy
              rw [hy] at hnext
              simp only at hnext
              obtain ⟨hby, h2, h3, h4⟩ := hok
              subst h2
              refine .inl (wp_append (K := fun s => s = (E.st.put t .any).put d (.sl .own y.size ys)) I ha (fun E' a' I' ha' hd' hK => hnext E' a' I' ha' (hd'.trans hd) hK) hdst hop ?_)
              rw [hts, hrd, hh]
              show aappend C E.st d t1 t2 (.sl (.vw (.slot t []) true) sz []) x' _
              unfold aappend
              rw [hk, hk2, hap]
              simp only
              rw [hy]
              exact ⟨hN, hby, rfl, h3, by simpa using h4, by rw [take_src I.rel hfr, htk, List.nil_append]⟩
            · exact hok.elim
          · exact hok.elim
        · exact hok.elim
      · cases hs
    · cases hs
  · cases hs

theorem srcOf_looks {L : List Nat} {ops : Array Oper} {o : Oper} {t : Nat} (h : srcOf L o = some t) : t ∈ o.looksAt ops := by
  unfold srcOf at h
  split at h
  · rename_i args ts hop hg
    split at h
    · rename_i t' x hargs
      split at h
      · cases h
        refine List.mem_append_left _ (List.mem_filterMap.2 ⟨.tmp t, ?_, rfl⟩)
        rw [hop]
        have : Operand.tmp t ∈ args.toList := by rw [hargs]; simp
        simp [Op.operands, Call.operands]
        simpa using this
      · cases h
    · cases h
  · cases h

theorem srcOf_mem {L : List Nat} {o : Oper} {t : Nat} (h : srcOf L o = some t) : t ∈ L := by
  unfold srcOf at h
  split at h
  · split at h
    · rename_i t' x hargs
      split at h
      · rename_i hany
        cases h
        simpa using hany
      · cases h
    · cases h
  · cases h

theorem isLit_src {L : List Nat} {o : Oper} {t : Nat} (h : isLit o = some t) : srcOf L o = none := by
  unfold isLit at h
  split at h
  · rename_i hop hg
    unfold srcOf
    rw [hop]
  · cases h
theorem isLit_al {C : Cx} {o : Oper} {t : Nat} (h : isLit o = some t) : isAl C o = none := by
  unfold isLit at h
  split at h
  · rename_i hop hg
    unfold isAl
    rw [hop]
  · cases h
theorem isAl_src {C : Cx} {L : List Nat} {o : Oper} {z : List AV} (h : isAl C o = some z) : srcOf L o = none := by
  unfold isAl at h
  split at h
  · rename_i hop hg
    unfold srcOf
    rw [hop]
  · cases h
theorem qappO_congr {C : Cx} {ops : Array Oper} {o : Oper} {s s' : St} (h : ∀ t ∈ o.looksAt ops, s.slots t = s'.slots t) : qappO C o s = qappO C o s' := by
  unfold qappO
  split
  · rename_i args ts hop
    rw [rdArgs_congr args.toList ts.toList fun x hx t ht => h t (List.mem_append_left _ (List.mem_filterMap.2 ⟨x, by rw [hop]; simp [Op.operands, Call.operands]; simpa using hx, by rw [ht]⟩))]
  · rfl

/-- The first m operations put their values, and make their boxes, in any order. -/
theorem draw_putsA (D : DrawA ops m) (hbase : S.k ≤ C.base) {rs : Nat → AV} {st : St} {K : St → Prop} (hR : ∀ E a, Inv C.N S E → a.tmps = E.tm → a.defers = [] → K E.st → R .normal a E.w)
    (hcan : ∀ j, j < m → ∃ o d, ops[j]? = some o ∧ o.dst = some d ∧ okA C ops L (rs j) o d (canonA C ops L rs st j)) {fin finU : St} (hfinA : IsA C L ops rs st m (fun _ => True) fin) (hU : AllA C L ops rs st m finU) (hso : srcOk L ops m = true) (hL : ∀ t ∈ L, ∃ j oj tj, j < m ∧ ops[j]? = some oj ∧ oj.dst = some t ∧ isLit oj = some tj)
    (hk1 : ∀ j o d z, j < m → ops[j]? = some o → o.dst = some d → isAl C o = some z → keep C d z st) (hk2 : ∀ j o d z, j < m → ops[j]? = some o → o.dst = some d → isAl C o = some z → keepF C d z finU)
    (ht1 : ∀ j o t, j < m → ops[j]? = some o → srcOf L o = some t → keepT t st) (ht2 : ∀ j o t, j < m → ops[j]? = some o → srcOf L o = some t → keepT t finU) (hfin : aops C ops (ops.toList.drop m) fin K) :
    ∀ (fuel : Nat) (listed : Array Bool) (E : Env) (a : Act), (List.range m).countP (fun j => !listed.getD j true) + (ops.size - m) ≤ fuel → listed.size = ops.size → (∀ j, m ≤ j → j < ops.size → listed.getD j true = false) → ClosedL ops listed →
      IsA C L ops rs st m (fun j => listed.getD j true = true) E.st → Inv C.N S E → a.tmps = E.tm → a.defers = [] → wpAny C.P .any ops R fuel listed a E.w := by
  have hdst : ∀ k, k < m → ∃ o d, ops[k]? = some o ∧ o.dst = some d := fun k hk => by
    obtain ⟨o, d, h1, h2, _⟩ := hcan k hk; exact ⟨o, d, h1, h2⟩
  have hne : ∀ j k d, j < m → k < m → j ≠ k → dstOf ops k = some d → dstOf ops j ≠ some d := by
    intro j k d hj hk hjk hd he
    obtain ⟨oj, dj, h1, h2⟩ := hdst j hj
    obtain ⟨ok, dk, h3, h4⟩ := hdst k hk
    refine D.dst k j ok oj hk hj hjk h3 h1 ?_
    simp only [dstOf, h1, h3, Option.bind_some] at hd he
    rw [hd, he]
  have hcs := fun k hk => canonA_slots (C := C) (L := L) (ops := ops) (rs := rs) (st := st) hdst hne k hk
  have hle := D.le
  have hold : ∀ {Dn : Nat → Prop} {s : St}, IsA C L ops rs st m Dn s → ∀ id cs, st.boxes id = some cs → s.boxes id = some cs := fun {Dn s} h id cs hc => by
    rw [h.oldb id fun j o d z hj _ ho hd hz e => ?_, hc]
    obtain ⟨o', d', ho', hd', hok⟩ := hcan j hj
    rw [ho] at ho'; cases ho'
    rw [hd] at hd'; cases hd'
    unfold okA at hok
    rw [hz] at hok
    rw [(hcs j (by omega)).1, ← e, hc] at hok
    cases hok.2
  intro fuel
  induction fuel with
  | zero =>
    intro listed E a hf hs htail hcl hT I ha hd
    have hall : ∀ j, j < m → listed.getD j true = true := fun j hj => by
      have h0 : (List.range m).countP (fun j => !listed.getD j true) = 0 := by omega
      rw [List.countP_eq_zero] at h0
      simpa using h0 j (List.mem_range.2 hj)
    have hst : E.st = fin := isA_unique (isA_congr hT (D' := fun _ => True) fun j hj => ⟨fun _ => trivial, fun _ => hall j hj⟩) hfinA
    refine draw_tailA D hbase hR 0 m listed E a hle (by omega) (Nat.le_refl m) hs (fun j hj => ?_) I ha hd (by rw [hst]; exact hfin)
    by_cases hjm : j < m
    · rw [hall j hjm]; simp [hjm]
    · rw [htail j (by omega) hj]; simp [hjm]
  | succ fuel ih =>
    intro listed E a hf hs htail hcl hT I ha hd
    by_cases hall : ∀ j, j < m → listed.getD j true = true
    · have hst : E.st = fin := isA_unique (isA_congr hT (D' := fun _ => True) fun j hj => ⟨fun _ => trivial, fun _ => hall j hj⟩) hfinA
      refine draw_tailA D hbase hR (fuel + 1) m listed E a hle (by omega) (Nat.le_refl m) hs (fun j hj => ?_) I ha hd (by rw [hst]; exact hfin)
      by_cases hjm : j < m
      · rw [hall j hjm]; simp [hjm]
      · rw [htail j (by omega) hj]; simp [hjm]
    · have hgf : ∀ j, j < ops.size → listed.getD j false = listed.getD j true := fun j hj => by
        have hjs : j < listed.size := by omega
        rw [Array.getD_eq_getD_getElem?, Array.getD_eq_getD_getElem?, Array.getElem?_eq_getElem hjs]; rfl
      have hex : ∃ j, j < m ∧ listed.getD j true = false := by
        refine Classical.byContradiction fun hn => hall fun j hj => ?_
        cases hb : listed.getD j true with
        | true => rfl
        | false => exact absurd ⟨j, hj, hb⟩ hn
      refine ⟨fun h0 => ?_, fun i hi => ?_⟩
      · exfalso
        have least : ∃ j, (j < m ∧ listed.getD j true = false) ∧ ∀ i, i < j → listed.getD i true = true := by
          obtain ⟨j, hj⟩ := hex
          induction j using Nat.strongRecOn with
          | _ j ihj =>
            by_cases hall2 : ∀ i, i < j → listed.getD i true = true
            · exact ⟨j, hj, hall2⟩
            · have : ∃ i, i < j ∧ listed.getD i true = false := by
                refine Classical.byContradiction fun hn => hall2 fun i hi => ?_
                cases hb : listed.getD i true with
                | true => rfl
                | false => exact absurd ⟨i, hi, hb⟩ hn
              obtain ⟨i, hi, hb⟩ := this
              exact ihj i hi ⟨by omega, hb⟩
        obtain ⟨j, ⟨hj1, hj2⟩, hj3⟩ := least
        obtain ⟨o, d, ho, _⟩ := hdst j hj1
        have hr : j ∈ Region.ready .any ops listed := by
          refine mem_ready.2 ⟨hj2, o, ho, fun e he hb => ?_⟩
          have h1 := D.back j o ho e he hb
          rw [hgf e.on (by omega)]; exact hj3 _ h1
        rw [h0] at hr; simp at hr
      · obtain ⟨h1, o, ho, h2⟩ := mem_ready.1 hi
        have hil := (Array.getElem?_eq_some_iff.1 ho).1
        have him : i < m := by
          refine Classical.byContradiction fun hn => ?_
          obtain ⟨j, hj1, hj2⟩ := hex
          have := ready_reach hcl hi (D.tail i o (by omega) ho j (by omega))
          rw [hgf j (by omega), hj2] at this; cases this
        obtain ⟨o', d, ho', hod, hok⟩ := hcan i him
        rw [ho] at ho'; cases ho'
        have hdi : dstOf ops i = some d := by simp [dstOf, ho, hod]
        obtain ⟨hc1, hc2, hc3⟩ := hcs i (by omega)
        have hgl : ∀ t ∈ o.looksAt ops, ¬ Gone L ops m (fun j => listed.getD j true = true) t := fun t ht ⟨c, oc, hcm, hcD, hoc, hcs⟩ => by
          have hci : c ≠ i := fun e => by
            subst e
            have h6 : listed.getD c true = true := hcD
            rw [h1] at h6; cases h6
          exact srcOk_spec hso hcm him (Ne.symm hci) hoc ho hcs ht
        have hslot : ∀ t ∈ o.looksAt ops, (canonA C ops L rs st i).slots t = E.st.slots t := by
          intro t ht
          by_cases hj : ∃ j, j < m ∧ dstOf ops j = some t
          · obtain ⟨j, hj, hjt⟩ := hj
            obtain ⟨oj, hoj, hdj⟩ := Option.bind_eq_some_iff.1 hjt
            obtain ⟨hji, hr⟩ := D.look i j o oj t him hj ho hoj ht hdj
            have hlj := ready_reach hcl hi hr
            rw [hgf j (by omega)] at hlj
            rw [hT.put j t hj hlj hjt (hgl t ht), hc2 j t hji hjt]
          · have hn : ∀ j, j < m → dstOf ops j ≠ some t := fun j hj' he => hj ⟨j, hj', he⟩
            rw [hT.old t (fun j hj _ => hn j hj) (hgl t ht), hc3 t fun j hj => hn j (by omega)]
        have hgd : ∀ c o', c < m → ops[c]? = some o' → srcOf L o' = some d → ¬ (listed.getD c true = true ∨ c = i) := fun c o' hcm hoc hcs hh => by
          obtain ⟨hic, hr⟩ := D.look c i o' o d hcm him hoc ho (srcOf_looks hcs) hod
          rcases hh with hh | rfl
          · have h5 := hcl c i (by rw [hgf c (by omega)]; exact hh) hr
            rw [hgf i (by omega), h1] at h5; cases h5
          · omega
        have hd1 : ∀ j, j < m → j ≠ i → dstOf ops j ≠ some d := fun j hj hji => hne j i d hj him hji hdi
        have hset : ∀ j, j ≠ i → (listed.setIfInBounds i true).getD j true = listed.getD j true := fun j hj => getD_set_ne true (Ne.symm hj)
        have hseti : (listed.setIfInBounds i true).getD i true = true := by
          rw [Array.getD_eq_getD_getElem?, Array.getElem?_setIfInBounds_self_of_lt (by omega)]; rfl
        have hfuel : (List.range m).countP (fun j => !(listed.setIfInBounds i true).getD j true) + (ops.size - m) ≤ fuel := by
          have := countP_lt (p := fun j => !listed.getD j true) (p' := fun j => !(listed.setIfInBounds i true).getD j true) (List.range m) (fun j _ h => by
            by_cases hji : j = i
            · subst hji; rw [hseti] at h; cases h
            · rw [hset j hji] at h; exact h) ⟨i, List.mem_range.2 him, by rw [h1]; rfl, by rw [hseti]; rfl⟩
          omega
        have hcl' : ClosedL ops (listed.setIfInBounds i true) := closed_add hcl hi (by omega)
        have hD' : ∀ {s : St}, IsA C L ops rs st m (fun j => listed.getD j true = true ∨ j = i) s → IsA C L ops rs st m (fun j => (listed.setIfInBounds i true).getD j true = true) s := fun h => isA_congr h fun j hj => by
          by_cases hji : j = i
          · subst hji; simp [hseti]
          · rw [hset j hji]; simp [hji]
        have hngd : ¬ Gone L ops m (fun j => listed.getD j true = true) d := fun ⟨c, oc, g1, g2, g3, g4⟩ => hgd c oc g1 g3 g4 (.inl g2)
        have hdE : E.st.slots d = (canonA C ops L rs st i).slots d := by
          rw [hT.old d (fun j hj hl => hd1 j hj fun e => by subst e; rw [h1] at hl; cases hl) hngd, hc3 d (fun j hj => hd1 j (by omega) (by omega))]
        have hnd : ∀ j, j < m → listed.getD j true = true → dstOf ops j ≠ some d := fun j hj hl => hd1 j hj fun e => by subst e; rw [h1] at hl; cases hl
        unfold okA at hok
        cases hal : isAl C o with
        | some z =>
          rw [hal] at hok
          refine al_head I hbase ha hd ho hod hal hok.1 (keep_mix hT hU hnd (hk1 i o d z him ho hod hal) (hk2 i o d z him ho hod hal)) fun E' a' I' ha' hd' hst' => ?_
          refine ih _ E' a' hfuel (by simpa using hs) (fun j hj hjl => by rw [hset j (by omega)]; exact htail j hj hjl) hcl' (hD' ?_) I' ha' hd'
          rw [hst']
          exact isA_box hT him ho hod hal (isAl_src hal) (fun j hj hji => hd1 j hj hji) hgd
        | none =>
          rw [hal] at hok
          simp only at hok
          cases hlit : isLit o with
          | some tl =>
            rw [hlit] at hok
            have hput : putA C ops L rs st i = .sl .own (szOf C.T tl) [] := by simp [putA, ho, hod, vA, hal, hlit]
            refine lit_head I ha hd ho hod hlit hok.1 hok.2.1 (by rw [hdE]; exact hok.2.2) fun E' a' I' ha' hd' hst' => ?_
            refine ih _ E' a' hfuel (by simpa using hs) (fun j hj hjl => by rw [hset j (by omega)]; exact htail j hj hjl) hcl' (hD' ?_) I' ha' hd'
            rw [hst', ← hput]
            exact isA_put hT him ho hod hal (fun j hj hji => hd1 j hj hji) hgd (.inl ⟨rfl, isLit_src hlit⟩)
          | none =>
            rw [hlit] at hok
            simp only at hok
            cases hsr : srcOf L o with
            | some t =>
              rw [hsr] at hok
              have hlook := srcOf_looks (ops := ops) hsr
              obtain ⟨j, oj, tj, hj, hoj, hdj, hlj⟩ := hL t (srcOf_mem hsr)
              have hjt : dstOf ops j = some t := by simp [dstOf, hoj, hdj]
              have hji := (D.look i j o oj t him hj ho hoj hlook hdj).1
              have hpj : putA C ops L rs st j = .sl .own (szOf C.T tj) [] := by simp [putA, hoj, hdj, vA, isLit_al hlj, hlj]
              have hx : E.st.slots t = .sl .own (szOf C.T tj) [] := by rw [← hslot t hlook, hc2 j t hji hjt, hpj]
              have hqe : qappO C o E.st = qappO C o (canonA C ops L rs st i) := (qappO_congr fun t' ht' => hslot t' ht').symm
              have hput : putA C ops L rs st i = (qappO C o (canonA C ops L rs st i)).v := by simp [putA, ho, hod, vA, hal, hlit, hsr]
              refine app_head I ha hd ho hod hsr (by rw [hqe]; exact hok.1) hok.2.1 hx (by rw [hdE]; exact hok.2.2) (take_mix hT hU hx (ht1 i o t him ho hsr) (ht2 i o t him ho hsr)) fun E' a' I' ha' hd' hst' => ?_
              refine ih _ E' a' hfuel (by simpa using hs) (fun j hj hjl => by rw [hset j (by omega)]; exact htail j hj hjl) hcl' (hD' ?_) I' ha' hd'
              rw [hst', hqe, ← hput]
              exact isA_put hT him ho hod hal (fun j hj hji => hd1 j hj hji) hgd (.inr ⟨t, hsr, rfl⟩)
            | none =>
              rw [hsr] at hok
              obtain ⟨hok, hdN, hfree⟩ := hok
              have hpeq : popg C ops (rs i) o E.st = popg C ops (rs i) o (canonA C ops L rs st i) := popg_mono hslot (fun id cs hc => by rw [hc1] at hc; exact hold hT id cs hc) hok
              have hput : putA C ops L rs st i = (popg C ops (rs i) o (canonA C ops L rs st i)).v := by simp [putA, ho, hod, vA, hal, hlit, hsr]
              refine pop_head I hbase ha hd ho hod (by rw [hpeq]; exact hok) hdN (by rw [hdE]; exact hfree) fun E' a' I' ha' hd' hst' => ?_
              refine ih _ E' a' hfuel (by simpa using hs) (fun j hj hjl => by rw [hset j (by omega)]; exact htail j hj hjl) hcl' (hD' ?_) I' ha' hd'
              rw [hst', hpeq, ← hput]
              exact isA_put hT him ho hod hal (fun j hj hji => hd1 j hj hji) hgd (.inl ⟨rfl, hsr⟩)
end
end Go.AM
namespace Go.AM

theorem aputsA_get {C : Cx} {ops : Array Oper} {L : List Nat} {rs : Nat → AV} {st : St} {m : Nat} {K : St → Prop} (hm : m ≤ ops.size) : ∀ (l : List Oper) (k : Nat), k ≤ m → l = (ops.toList.take m).drop k → aputsA C ops L rs k l (canonA C ops L rs st k) K →
    (∀ j, k ≤ j → j < m → ∃ o d, ops[j]? = some o ∧ o.dst = some d ∧ okA C ops L (rs j) o d (canonA C ops L rs st j)) ∧ K (canonA C ops L rs st m)
  | [], k, hk, hl, h => by
    have : m ≤ k := by
      have := congrArg List.length hl
      simp at this; omega
    have hkm : k = m := by omega
    subst hkm
    exact ⟨fun j h1 h2 => absurd h1 (by omega), h⟩
  | o :: rest, k, hk, hl, h => by
    have hlt : k < m := by
      have := congrArg List.length hl
      simp at this; omega
    have ho : ops[k]? = some o := by
      have := congrArg (·[0]?) hl
      simp only [List.getElem?_cons_zero, List.getElem?_drop, Nat.add_zero, List.getElem?_take, hlt, if_true] at this
      rw [← Array.getElem?_toList]; exact this.symm
    have hrest : rest = (ops.toList.take m).drop (k + 1) := by
      have := congrArg List.tail hl
      simpa [List.tail_drop] using this
    rw [aputsA] at h
    split at h
    · rename_i d hd
      obtain ⟨h1, h4⟩ := h
      have e : canonA C ops L rs st (k + 1) = (canonA C ops L rs st k).put d (vA C ops L (rs k) o d (canonA C ops L rs st k)) := by simp [canonA, ho, hd]
      rw [← e] at h4
      obtain ⟨g1, g2⟩ := aputsA_get hm rest (k + 1) (by omega) hrest h4
      refine ⟨fun j hj1 hj2 => ?_, g2⟩
      by_cases hjk : j = k
      · subst hjk; exact ⟨o, d, ho, hd, h1⟩
      · exact g1 j (by omega) hj2
    · exact h.elim

/-- What is asked of the first and the last state. -/
def sideA (C : Cx) (L : List Nat) (l : List Oper) (st fin : St) : Prop := keeps C l st ∧ keepsF C l fin ∧ tks L l st ∧ tks L l fin

theorem getD_listed (n j : Nat) (d : Bool) (h : j < n) : (Array.replicate n false).getD j d = false := by simp [h]

section
variable {C : Cx} {Q : Exit → St → Prop} {st : St}

/-- A region that draws its order. -/
theorem AWp.drawA (m : Nat) (rs : Nat → AV) {id : Nat} {ops : Array Oper} (hmix : C.P.follows .mixedOrders = true) (hok : (drawOkA ops m && srcOk (litsOf (ops.toList.take m)) ops m) = true)
    (h : aputsA C ops (litsOf (ops.toList.take m)) rs 0 (ops.toList.take m) st fun s => sideA C (litsOf (ops.toList.take m)) (ops.toList.take m) st (s.addB (newsA C (ops.toList.take m))) ∧ aops C ops (ops.toList.drop m) ((s.addB (newsA C (ops.toList.take m))).noSlots (srcs (litsOf (ops.toList.take m)) (ops.toList.take m))) (Q .normal)) : AWp C (.region id ops true) st Q := by
  generalize hLe : litsOf (ops.toList.take m) = L at h hok
  intro S E a hb I ha hd he
  rw [Bool.and_eq_true] at hok
  have D := drawOkA_spec hok.1
  obtain ⟨hcan, ⟨hk1, hk2, ht1, ht2⟩, hfin⟩ := aputsA_get D.le _ 0 (by omega) (by simp) h
  have hle := D.le
  have hdst : ∀ k, k < m → ∃ o d, ops[k]? = some o ∧ o.dst = some d := fun k hk => by
    obtain ⟨o, d, h1, h2, _⟩ := hcan k (by omega) hk; exact ⟨o, d, h1, h2⟩
  have hne : ∀ j k d, j < m → k < m → j ≠ k → dstOf ops k = some d → dstOf ops j ≠ some d := by
    intro j k d hj hk hjk hd he
    obtain ⟨oj, dj, h1, h2⟩ := hdst j hj
    obtain ⟨ok, dk, h3, h4⟩ := hdst k hk
    refine D.dst k j ok oj hk hj hjk h3 h1 ?_
    simp only [dstOf, h1, h3, Option.bind_some] at hd he
    rw [hd, he]
  obtain ⟨c1, c2, c3⟩ := canonA_slots (C := C) (L := L) (rs := rs) (st := st) hdst hne m (Nat.le_refl m)
  have hmem : ∀ j o, j < m → ops[j]? = some o → o ∈ ops.toList.take m := fun j o hj ho => by
    rw [List.mem_take_iff_getElem]
    have hjl : j < ops.size := by omega
    rw [Array.getElem?_eq_getElem hjl] at ho
    exact ⟨j, by simp; omega, by simpa using ho⟩
  have hat : ∀ o, o ∈ ops.toList.take m → ∃ j, j < m ∧ ops[j]? = some o := fun o ho => by
    rw [List.mem_take_iff_getElem] at ho
    obtain ⟨j, hj, rfl⟩ := ho
    exact ⟨j, by omega, by rw [← Array.getElem?_toList, List.getElem?_eq_getElem]⟩
  have hL : ∀ t ∈ L, ∃ j oj tj, j < m ∧ ops[j]? = some oj ∧ oj.dst = some t ∧ isLit oj = some tj := fun t ht => by
    rw [← hLe] at ht
    obtain ⟨o, h1, h2, h3⟩ := mem_litsOf ht
    obtain ⟨j, hj, hoj⟩ := hat o h1
    obtain ⟨tj, htj⟩ := Option.isSome_iff_exists.1 h3
    exact ⟨j, o, tj, hj, hoj, h2, htj⟩
  have hU : AllA C L ops rs st m ((canonA C ops L rs st m).addB (newsA C (ops.toList.take m))) := by
    refine ⟨fun j t hj hjt => c2 j t hj hjt, fun j o d z hj ho hd hz => ?_⟩
    have h1 := newsA_mem (C := C) (hmem j o hj ho) hd hz
    obtain ⟨cs, hcs⟩ := Option.isSome_iff_exists.1 h1
    obtain ⟨o', ho', d', z', hd', hz', he', rfl⟩ := newsA_get hcs
    have hdd : d' = d := (Nat.add_left_cancel he').symm
    subst hdd
    obtain ⟨j', hj', ho''⟩ := hat o' ho'
    have hjj : j' = j := Classical.byContradiction fun hn => hne j' j d' hj' hj hn (by simp [dstOf, ho, hd]) (by simp [dstOf, ho'', hd'])
    subst hjj
    rw [ho] at ho''; cases ho''
    rw [hz] at hz'; cases hz'
    show (match (newsA C (ops.toList.take m)).lookup (C.base + d') with | some cs => some cs | none => _) = _
    rw [hcs]
  have hg : ∀ t, Gone L ops m (fun _ => True) t ↔ (srcs L (ops.toList.take m)).contains t = true := fun t => by
    rw [List.contains_iff_mem, mem_srcs]
    constructor
    · rintro ⟨c, o, h1, _, h2, h3⟩; exact ⟨o, hmem c o h1 h2, h3⟩
    · rintro ⟨o, h1, h2⟩
      obtain ⟨j, hj, hoj⟩ := hat o h1
      exact ⟨j, o, hj, trivial, hoj, h2⟩
  have hfinA : IsA C L ops rs st m (fun _ => True) (((canonA C ops L rs st m).addB (newsA C (ops.toList.take m))).noSlots (srcs L (ops.toList.take m))) := by
    refine ⟨fun j t hj _ hjt hgn => ?_, fun t hgn => ?_, fun t ht hgn => ?_, fun j o d z hj _ ho hd hz => hU.newb j o d z hj ho hd hz, fun id hi => ?_⟩
    · show (if _ then _ else _) = _
      rw [if_neg fun h => hgn ((hg t).2 h)]
      exact c2 j t hj hjt
    · show (if _ then _ else _) = _
      rw [if_pos ((hg t).1 hgn)]
    · show (if _ then _ else _) = _
      rw [if_neg fun h => hgn ((hg t).2 h)]
      exact c3 t fun j hj => ht j hj trivial
    · have hn : (newsA C (ops.toList.take m)).lookup id = none := by
        cases hc : (newsA C (ops.toList.take m)).lookup id with
        | none => rfl
        | some cs =>
          obtain ⟨o, ho, d, z, hd, hz, he, _⟩ := newsA_get hc
          obtain ⟨j, hj, hoj⟩ := hat o ho
          exact absurd he (hi j o d z hj trivial hoj hd hz)
      show (match (newsA C (ops.toList.take m)).lookup id with | some cs => some cs | none => _) = _
      rw [hn]
      simp only [c1]
  refine wp_region_any hmix ?_
  refine draw_putsA (E := { E with w := { E.w with drawn := E.w.drawn + 1 } }) (st := st) D hb (K := Q .normal) (R := APost C S Q) (fun E a I ha hd h => ⟨E, rfl, I, ha, hd, h⟩) (fun j hj => hcan j (by omega) hj) hfinA hU hok.2 hL
    (fun j o d z hj ho hd hz => keeps_get hk1 (hmem j o hj ho) hd hz) (fun j o d z hj ho hd hz => keepsF_get hk2 (hmem j o hj ho) hd hz)
    (fun j o t hj ho hz => tks_get ht1 (hmem j o hj ho) hz) (fun j o t hj ho hz => tks_get ht2 (hmem j o hj ho) hz) hfin ops.size (Array.replicate ops.size false) a ?_ (by simp) (fun j _ hj => getD_listed _ _ _ hj) ?_ ?_ (I.drawn _ (Nat.le_succ _)) ha hd
  · have h1 : (List.range m).countP (fun j => !(Array.replicate ops.size false).getD j true) ≤ (List.range m).length := List.countP_le_length
    rw [List.length_range] at h1
    omega
  · intro i j hi _
    rw [Array.getD_eq_getD_getElem?] at hi
    rcases Nat.lt_or_ge i ops.size with h1 | h1
    · rw [Array.getElem?_replicate, if_pos h1] at hi; cases hi
    · rw [Array.getElem?_replicate, if_neg (by omega)] at hi; cases hi
  · refine ⟨fun j t hj hD _ _ => ?_, fun t hgn => ?_, fun t _ _ => by rw [← he], fun j o d z hj hD => ?_, fun id _ => by rw [← he]⟩
    · rw [getD_listed _ _ _ (by omega)] at hD; cases hD
    · obtain ⟨c, o, h1, h2, _⟩ := hgn
      have h2' : (Array.replicate ops.size false).getD c true = true := h2
      rw [getD_listed _ _ _ (by omega)] at h2'; cases h2'
    · rw [getD_listed _ _ _ (by omega)] at hD; cases hD

theorem AWp.goA (m : Nat) (rs : Nat → AV) (ks kb : List Nat) {id : Nat} {ops : Array Oper} {y : Code} (hmix : C.P.follows .mixedOrders = true) (hok : (drawOkA ops m && srcOk (litsOf (ops.toList.take m)) ops m) = true)
    (h : ∀ K : St → Prop, (∀ l bx, AWp C y (St.of l bx) Q → K (St.of l bx)) → aputsA C ops (litsOf (ops.toList.take m)) rs 0 (ops.toList.take m) st fun s => sideA C (litsOf (ops.toList.take m)) (ops.toList.take m) st (s.addB (newsA C (ops.toList.take m))) ∧
      aops C ops (ops.toList.drop m) ((s.addB (newsA C (ops.toList.take m))).noSlots (srcs (litsOf (ops.toList.take m)) (ops.toList.take m))) fun s => K (St.of (seeS ks kb s ks) (seeB ks kb s kb))) : AWp C (.seq (.region id ops true) y) st Q := by
  refine AWp.seq (AWp.post (fun _ => (ks, kb)) ((AWp.drawA (Q := fun e s => thenQ (fun s => AWp C y (s.clean ks kb) Q) (fun _ _ => False) e s) m rs hmix hok ?_).mono ?_))
  · have := h (fun s => AWp C y s Q) fun _ _ h => h
    simp only [← St.clean_eq] at this
    exact this
  · intro e s hs
    cases e with
    | normal => exact hs
    | _ => exact hs.elim

theorem AWp.stepA (m : Nat) (rs : Nat → AV) (ks kb : List Nat) (l : List (Nat × AV)) (bx : Boxes) {id : Nat} {ops : Array Oper} {y : Code} (hmix : C.P.follows .mixedOrders = true) (hok : (drawOkA ops m && srcOk (litsOf (ops.toList.take m)) ops m) = true)
    (h : aputsA C ops (litsOf (ops.toList.take m)) rs 0 (ops.toList.take m) st fun s => sideA C (litsOf (ops.toList.take m)) (ops.toList.take m) st (s.addB (newsA C (ops.toList.take m))) ∧ aops C ops (ops.toList.drop m) ((s.addB (newsA C (ops.toList.take m))).noSlots (srcs (litsOf (ops.toList.take m)) (ops.toList.take m))) fun s => s.sees ks kb l bx) (h2 : AWp C y (St.of l bx) Q) : AWp C (.seq (.region id ops true) y) st Q := by
  refine AWp.seq (AWp.postFit (AWp.post (fun _ => (ks, kb)) ((AWp.drawA (Q := fun e s => thenQ (fun s => s.sees ks kb l bx) (fun _ _ => False) e s) m rs hmix hok h).mono ?_)))
  intro e s hs
  cases e with
  | normal => exact ⟨_, St.sees_fits hs, h2⟩
  | _ => exact hs.elim

end

attribute [simp] qapp qappO isLit srcOf isAl okA vA alOk keep keepF alQ alF alZ sideA keepT srcQ
@[simp] theorem aputsA_nil {C : Cx} {ops : Array Oper} {L : List Nat} {rs : Nat → AV} {k : Nat} {st : St} {K : St → Prop} : aputsA C ops L rs k [] st K = K st := rfl
@[simp] theorem aputsA_cons {C : Cx} {ops : Array Oper} {L : List Nat} {rs : Nat → AV} {k d : Nat} {op type pos after guard} {rest : List Oper} {st : St} {K : St → Prop} : aputsA C ops L rs k (⟨some d, op, type, pos, after, guard⟩ :: rest) st K =
    (okA C ops L (rs k) ⟨some d, op, type, pos, after, guard⟩ d st ∧ aputsA C ops L rs (k + 1) rest (st.put d (vA C ops L (rs k) ⟨some d, op, type, pos, after, guard⟩ d st)) K) := rfl
@[congr] theorem aputsA_congr {C : Cx} {ops : Array Oper} {L L' : List Nat} {rs : Nat → AV} {k k' : Nat} {l l' : List Oper} {st st' : St} {K : St → Prop} (hl : L = L') (h0 : k = k') (h1 : l = l') (h2 : st = st') : aputsA C ops L rs k l st K = aputsA C ops L' rs k' l' st' K := by
  subst_vars; rfl
@[simp] theorem alTr_of {C : Cx} {d : Nat} {z : List AV} {l : List (Nat × AV)} {bx : Boxes} : alTr C d z (St.of l bx) = ((St.of l bx).settle (alQ C d z) (alF C d z)).killB (C.base + d) := rfl
@[simp] theorem tkTr_of {t : Nat} {l : List (Nat × AV)} {bx : Boxes} : tkTr t (St.of l bx) = (St.of l bx).take (srcQ t) := rfl
@[simp] theorem litsOf_nil : litsOf [] = [] := rfl
@[simp] theorem litsOf_cons {d : Nat} {op type pos after guard} {rest : List Oper} : litsOf (⟨some d, op, type, pos, after, guard⟩ :: rest) = match isLit ⟨some d, op, type, pos, after, guard⟩ with
    | some _ => d :: litsOf rest
    | none => litsOf rest := by
  rw [litsOf]
  cases isLit ⟨some d, op, type, pos, after, guard⟩ <;> rfl
@[simp] theorem newsA_nil {C : Cx} : newsA C [] = [] := rfl
@[simp] theorem newsA_cons {C : Cx} {d : Nat} {op type pos after guard} {rest : List Oper} : newsA C (⟨some d, op, type, pos, after, guard⟩ :: rest) = match isAl C ⟨some d, op, type, pos, after, guard⟩ with
    | some z => (C.base + d, alZ C d z) :: newsA C rest
    | none => newsA C rest := by
  rw [newsA]
  cases isAl C ⟨some d, op, type, pos, after, guard⟩ <;> rfl
@[simp] theorem keeps_nil {C : Cx} {s : St} : keeps C [] s = True := rfl
@[simp] theorem keeps_cons {C : Cx} {d : Nat} {op type pos after guard} {rest : List Oper} {s : St} : keeps C (⟨some d, op, type, pos, after, guard⟩ :: rest) s = match isAl C ⟨some d, op, type, pos, after, guard⟩ with
    | some z => keep C d z s ∧ keeps C rest s
    | none => keeps C rest s := by
  rw [keeps]
  cases isAl C ⟨some d, op, type, pos, after, guard⟩ <;> simp
@[simp] theorem keepsF_nil {C : Cx} {s : St} : keepsF C [] s = True := rfl
@[simp] theorem keepsF_cons {C : Cx} {d : Nat} {op type pos after guard} {rest : List Oper} {s : St} : keepsF C (⟨some d, op, type, pos, after, guard⟩ :: rest) s = match isAl C ⟨some d, op, type, pos, after, guard⟩ with
    | some z => keepF C d z s ∧ keepsF C rest s
    | none => keepsF C rest s := by
  rw [keepsF]
  cases isAl C ⟨some d, op, type, pos, after, guard⟩ <;> simp
@[simp] theorem tks_nil {L : List Nat} {s : St} : tks L [] s = True := rfl
@[simp] theorem tks_cons {L : List Nat} {o : Oper} {rest : List Oper} {s : St} : tks L (o :: rest) s = match srcOf L o with
    | some t => keepT t s ∧ tks L rest s
    | none => tks L rest s := by
  rw [tks]
  cases srcOf L o <;> simp
@[simp] theorem srcs_nil {L : List Nat} : srcs L [] = [] := rfl
@[simp] theorem srcs_cons {L : List Nat} {o : Oper} {rest : List Oper} : srcs L (o :: rest) = match srcOf L o with
    | some t => t :: srcs L rest
    | none => srcs L rest := rfl
@[simp] theorem St.of_noSlot {l : List (Nat × AV)} {bx : Boxes} {d : Nat} : (St.of l bx).noSlot d = St.of (l.filter fun e => !(e.1 == d)) bx := by
  refine St.ext' (fun t => ?_) (fun id => rfl)
  show (if t = d then AV.any else (l.lookup t).getD .any) = ((l.filter fun e => !(e.1 == d)).lookup t).getD .any
  rw [lookup_filter fun k => !(k == d)]
  by_cases htd : t = d
  · subst htd; simp
  · simp [htd]
@[simp] theorem St.of_noSlots {l : List (Nat × AV)} {bx : Boxes} {ts : List Nat} : (St.of l bx).noSlots ts = St.of (l.filter fun e => !ts.contains e.1) bx := by
  refine St.ext' (fun t => ?_) (fun id => rfl)
  show (if ts.contains t then AV.any else (l.lookup t).getD .any) = ((l.filter fun e => !ts.contains e.1).lookup t).getD .any
  rw [lookup_filter fun k => !ts.contains k]
  cases ts.contains t <;> simp
attribute [simp] St.of_addB
end Go.AM
namespace Go.AM
open Go.Proofs
theorem numOf_at (s : Sta) (m : Nat) (h : m < s.counts.length) (k : ByteArray) : numOf s m k = getN s.counts[m] k := by simp [numOf, h]
theorem getN_bd {l : List Cel} {k : ByteArray} {A : Int} (h0 : 0 ≤ A) (h : ∀ c ∈ l, -A ≤ c.num ∧ c.num ≤ A) : -A ≤ getN l k ∧ getN l k ≤ A := by
  unfold getN
  split
  · rename_i c hc
    exact h c (List.mem_of_find?_eq_some hc)
  · omega
set_option maxRecDepth 8000 in
set_option maxHeartbeats 16000000 in
theorem c_ref19_Do (r : Rul) (s : Sta) (p : Opn) (k : ByteArray) (hr : rulesB r = true) (hp : opB r p = true) (hst : stateB r s = true) : Pure Tryz.prog 14 [.agg (staC s), .agg (opnC p), .s k] (.agg [.sl .own 1 (rowsS (doTo k s p.does).sets), .sl .own 1 (rowsK (doTo k s p.does).counts)]) := by
  obtain ⟨hdl, hdo⟩ := opB_does hp
  have hsrt := stateB_sort hst
  have hfew := (stateB_few hr hst).1
  obtain ⟨k1, k2, k3, k4⟩ := id hfew
  have hnum : ∀ d ∈ p.does, -1000 ≤ d.num ∧ d.num ≤ 1000 := fun d hd => (doB_fit (hdo d hd)).2.2
  have hlen : s.sets.length = r.sets.length ∧ s.counts.length = r.counts.length := by
    have := hst
    simp only [stateB, Bool.and_eq_true, decide_eq_true_eq] at this
    omega
  have hrl : r.sets.length ≤ 6 ∧ r.counts.length ≤ 4 := by
    have h9 := hr
    simp only [rulesB, headB, lensB, Bool.and_eq_true, Bool.not_eq_true', decide_eq_false_iff_not] at h9
    obtain ⟨⟨⟨⟨⟨⟨⟨⟨h1, h2⟩, h3⟩, h4⟩, h5⟩, -⟩, -⟩, -⟩, -⟩ := h9
    omega
  refine proc_of (cx Tryz.prog 99 [2, 3, 4, 6, 7, 8, 9, 23, 32, 33, 52, 75] [6]) 96 [.cell 6 30] Tryz.func14 rfl rfl rfl rfl rfl rfl (Nat.le_refl _) rfl ?_
  refine AWp.go [2, 3, 4, 6] [3, 4, 6] fun K hK => ?_
  simp [staC, opnC]
  first | refine hK _ _ ?_ | refine ⟨by omega, hK _ _ ?_⟩ | refine ⟨by omega, by omega, hK _ _ ?_⟩
  clear hK K
  refine AWp.stepA 10 (fun _ => .any) [2, 4, 6, 7] [4, 6, 7] [(2, .s k), (4, .ptr 4 0), (6, .ptr 6 0), (7, .ptr 7 0)] [(4, [.s p.name, .sl .fro 3 (dgsAV p.does)]), (6, [.sl .nl 1 [], .sl .nl 1 []]), (7, [.sl .own 1 (rowsS s.sets), .sl .own 1 (rowsK s.counts)])] mix (by kernel_rfl) ?_ ?_
  · simp
    omega
  refine AWp.seq ?_
  refine AWp.go [2, 4, 6, 7, 8] [4, 6, 7] fun K hK => ?_
  simp
  first | refine hK _ _ ?_ | refine ⟨by omega, hK _ _ ?_⟩ | refine ⟨by omega, by omega, hK _ _ ?_⟩
  clear hK K
  refine AWp.block (AWp.while (fun i : Nat => [(2, .s k), (4, .ptr 4 0), (6, .ptr 6 0), (7, .ptr 7 0), (8, .i .i64 i)]) (fun i => [(4, [.s p.name, .sl .fro 3 (dgsAV p.does)]), (6, [.sl .nl 1 [], .sl .nl 1 []]), (7, [.sl .own 1 (rowsS (doTo k s (p.does.take i)).sets), .sl .own 1 (rowsK (doTo k s (p.does.take i)).counts)])]) (fun i => i ≤ p.does.length) (fun i => p.does.length - i) [2, 4, 6, 7, 8] [4, 6, 7] 0 (by simp) (by simp [doTo]) ?_)
  intro i hi
  refine AWp.seq ?_
  refine AWp.go [2, 4, 6, 7, 8, 23] [4, 6, 7] fun K hK => ?_
  simp
  first | refine hK _ _ ?_ | refine ⟨by omega, hK _ _ ?_⟩ | refine ⟨by omega, by omega, hK _ _ ?_⟩
  clear hK K
  by_cases h : i < p.does.length
  · refine AWp.cond (t := true) (by first | (simp [h]; done) | (simp [h]; omega)) (fun _ => ?_) (by simp)
    refine AWp.skip ?_
    show AWp _ _ _ _
    refine AWp.seq ?_
    refine AWp.block ?_
    have hbd : Bd (4000 + (p.does.take i).length) (doTo k s (p.does.take i)) := Bd.doTo _ (fun d hd => hnum d (List.mem_of_mem_take hd)) (stateB_bd hst)
    have hln := doTo_lens k (p.does.take i) s
    have hsr := SortSt.doTo (k := k) (p.does.take i) hsrt
    have hnx : doTo k s (p.does.take (i + 1)) = doStep k (doTo k s (p.does.take i)) p.does[i] := by rw [List.take_succ_eq_append_getElem h, doTo_snoc]
    obtain ⟨S, hS⟩ : ∃ S, S = doTo k s (p.does.take i) := ⟨_, rfl⟩
    rw [← hS] at hbd hln hnx hsr ⊢
    rw [List.length_take, Nat.min_eq_left hi] at hbd
    have hsl := hbd.slight (by omega) (by omega) (by omega)
    obtain ⟨d, hd⟩ : ∃ d, d = p.does[i] := ⟨_, rfl⟩
    have hdf := doB_fit (hdo _ (List.getElem_mem h))
    have hdo1 := hdo _ (List.getElem_mem h)
    rw [← hd] at hnx hdf hdo1
    refine AWp.go [2, 4, 6, 7, 8, 9] [4, 6, 7, 9] fun K hK => ?_
    simp [h, ← hd]
    first | refine hK _ _ ?_ | refine ⟨by omega, hK _ _ ?_⟩ | refine ⟨by omega, by omega, hK _ _ ?_⟩
    clear hK K
    refine AWp.go [2, 4, 6, 7, 8, 9, 32] [4, 6, 7, 9] fun K hK => ?_
    simp
    first | refine hK _ _ ?_ | refine ⟨by omega, hK _ _ ?_⟩ | refine ⟨by omega, by omega, hK _ _ ?_⟩
    clear hK K
    refine AWp.block ?_
    refine AWp.mid [2, 4, 6, 7, 8, 9, 32, 33] [4, 6, 7, 9] [(2, .s k), (4, .ptr 4 0), (6, .ptr 6 0), (7, .ptr 7 0), (8, .i .i64 i), (9, .ptr 9 0), (32, .i .i64 d.kind), (33, .b (decide (d.kind = 1) || decide (d.kind = 2)))] [(4, [.s p.name, .sl .fro 3 (dgsAV p.does)]), (6, [.sl .nl 1 [], .sl .nl 1 []]), (7, [.sl .own 1 (rowsS S.sets), .sl .own 1 (rowsK S.counts)]), (9, [.i .i64 d.kind, .i .i64 d.thing, .i .i64 d.num])] ?_ ?_
    · refine AWp.go [2, 4, 6, 7, 8, 9, 32, 33] [4, 6, 7, 9] fun K hK => ?_
      simp
      first | refine hK _ _ ?_ | refine ⟨by omega, hK _ _ ?_⟩ | refine ⟨by omega, by omega, hK _ _ ?_⟩
      clear hK K
      by_cases q1 : d.kind = 1
      · refine AWp.cond (t := true) (by first | (simp [q1]; done) | (simp [q1]; omega)) (fun _ => ?_) (by simp)
        refine AWp.skip ?_
        simp [q1]
      · refine AWp.cond (t := false) (by first | (simp [q1]; done) | (simp [q1]; omega)) (by simp) (fun _ => ?_)
        refine AWp.goLast [2, 4, 6, 7, 8, 9, 32, 33] [4, 6, 7, 9] fun K hK => ?_
        simp
        first | refine hK _ _ ?_ | refine ⟨by omega, hK _ _ ?_⟩ | refine ⟨by omega, by omega, hK _ _ ?_⟩
        clear hK K
        simp [q1]
    by_cases q12 : d.kind = 1 ∨ d.kind = 2
    · refine AWp.cond (t := true) (by first | (simp [q12]; done) | (simp [q12]; omega)) (fun _ => ?_) (by simp)
      obtain ⟨a, ha, hal⟩ := inN_nat (hdf.1 q12)
      have hal : a < S.sets.length := by omega
      have hg := (c_ref19_Put S.sets[a] k (decide (d.kind = 1)) (by have := hbd.1 _ (List.getElem_mem hal); omega)).fro
      rw [putR_law (hsr.1 _ (List.getElem_mem hal))] at hg
      simp at hg
      have hD : doStep k S d = ⟨S.sets.set a (putT S.sets[a] k (decide (d.kind = 1))), S.counts⟩ := by rw [doStep, if_pos q12, ha, setOf_at _ _ hal]; rfl
      refine AWp.goLastD 15 (fun j => if j = 14 then .sl .fro 1 (strsAV (putT S.sets[a] k (decide (d.kind = 1)))) else .any) [2, 4, 6, 7, 8] [4, 6, 7] mix (by kernel_rfl) fun K hK => ?_
      simp [ha, hal, hg, rowsS_set]
      first | refine hK _ _ ?_ | refine ⟨by omega, hK _ _ ?_⟩ | refine ⟨by omega, by omega, hK _ _ ?_⟩
      clear hK K
      show AWp _ _ _ _
      refine AWp.goLast [2, 4, 6, 7, 8] [4, 6, 7] fun K hK => ?_
      simp
      first | refine hK _ _ ?_ | refine ⟨by omega, hK _ _ ?_⟩ | refine ⟨by omega, by omega, hK _ _ ?_⟩
      clear hK K
      refine ⟨i + 1, by omega, by omega, ?_⟩
      rw [hnx, hD]
      simp
      exact wrap64 (by omega) (by omega)
    · refine AWp.cond (t := false) (by first | (simp [q12]; done) | (simp [q12]; omega)) (by simp) (fun _ => ?_)
      refine AWp.go [2, 4, 6, 7, 8, 9, 32, 52] [4, 6, 7, 9] fun K hK => ?_
      simp
      first | refine hK _ _ ?_ | refine ⟨by omega, hK _ _ ?_⟩ | refine ⟨by omega, by omega, hK _ _ ?_⟩
      clear hK K
      by_cases q3 : d.kind = 3
      · refine AWp.cond (t := true) (by first | (simp [q3]; done) | (simp [q3]; omega)) (fun _ => ?_) (by simp)
        obtain ⟨a, ha, hal⟩ := inN_nat (hdf.2.1 (.inl q3))
        have hal : a < S.counts.length := by omega
        have hbc := hbd.2 _ (List.getElem_mem hal)
        have hdn : 1 ≤ d.num := by
          unfold doB at hdo1
          rw [if_neg q12, if_pos (.inl q3)] at hdo1
          simp only [Bool.and_eq_true, inB, decide_eq_true_eq] at hdo1
          omega
        have hgn := c_ref19_Number S hsl a k
        have hB := getN_bd (k := k) (A := 1000 * (4000 + i : Nat)) (by omega) (fun c hc => by have := hbc.2 c hc; omega)
        have w1 : IntKind.i64.wrap (getN S.counts[a] k + d.num) = getN S.counts[a] k + d.num := wrap64 (by omega) (by omega)
        have hg := (c_ref10_Set S.counts[a] k (getN S.counts[a] k + d.num) (by omega)).fro
        rw [setR_law (hsr.2 _ (List.getElem_mem hal)) k d.num (by omega)] at hg
        rw [numOf_at _ _ hal] at hgn
        simp [staC] at hg hgn
        have hD : doStep k S d = ⟨S.sets, S.counts.set a (moreT S.counts[a] k d.num)⟩ := by rw [doStep, if_neg q12, if_pos q3, ha, countOf_at _ _ hal]; rfl
        refine AWp.goLastD 20 (fun j => if j = 15 then .i .i64 (getN S.counts[a] k) else if j = 19 then .sl .fro 2 (celsAV (moreT S.counts[a] k d.num)) else .any) [2, 4, 6, 7, 8] [4, 6, 7] mix (by kernel_rfl) fun K hK => ?_
        simp [ha, hal, hg, hgn, w1, rowsK_set]
        first | refine hK _ _ ?_ | refine ⟨by omega, hK _ _ ?_⟩ | refine ⟨by omega, by omega, hK _ _ ?_⟩
        clear hK K
        show AWp _ _ _ _
        refine AWp.goLast [2, 4, 6, 7, 8] [4, 6, 7] fun K hK => ?_
        simp
        first | refine hK _ _ ?_ | refine ⟨by omega, hK _ _ ?_⟩ | refine ⟨by omega, by omega, hK _ _ ?_⟩
        clear hK K
        refine ⟨i + 1, by omega, by omega, ?_⟩
        rw [hnx, hD]
        simp
        exact wrap64 (by omega) (by omega)
      · refine AWp.cond (t := false) (by first | (simp [q3]; done) | (simp [q3]; omega)) (by simp) (fun _ => ?_)
        refine AWp.go [2, 4, 6, 7, 8, 9, 75] [4, 6, 7, 9] fun K hK => ?_
        simp
        first | refine hK _ _ ?_ | refine ⟨by omega, hK _ _ ?_⟩ | refine ⟨by omega, by omega, hK _ _ ?_⟩
        clear hK K
        by_cases q4 : d.kind = 4
        · refine AWp.cond (t := true) (by first | (simp [q4]; done) | (simp [q4]; omega)) (fun _ => ?_) (by simp)
          obtain ⟨a, ha, hal⟩ := inN_nat (hdf.2.1 (.inr q4))
          have hal : a < S.counts.length := by omega
          have hbc := hbd.2 _ (List.getElem_mem hal)
          have hdn : 1 ≤ d.num := by
            unfold doB at hdo1
            rw [if_neg q12, if_pos (.inr q4)] at hdo1
            simp only [Bool.and_eq_true, inB, decide_eq_true_eq] at hdo1
            omega
          have hgn := c_ref19_Number S hsl a k
          have hB := getN_bd (k := k) (A := 1000 * (4000 + i : Nat)) (by omega) (fun c hc => by have := hbc.2 c hc; omega)
          have w1 : IntKind.i64.wrap (getN S.counts[a] k - d.num) = getN S.counts[a] k + -d.num := by rw [← Int.sub_eq_add_neg]; exact wrap64 (by omega) (by omega)
          have hg := (c_ref10_Set S.counts[a] k (getN S.counts[a] k + -d.num) (by omega)).fro
          rw [setR_law (hsr.2 _ (List.getElem_mem hal)) k (-d.num) (by omega)] at hg
          rw [numOf_at _ _ hal] at hgn
          simp [staC] at hg hgn
          have hD : doStep k S d = ⟨S.sets, S.counts.set a (moreT S.counts[a] k (-d.num))⟩ := by rw [doStep, if_neg q12, if_neg q3, if_pos q4, ha, countOf_at _ _ hal]; rfl
          refine AWp.goLastD 20 (fun j => if j = 15 then .i .i64 (getN S.counts[a] k) else if j = 19 then .sl .fro 2 (celsAV (moreT S.counts[a] k (-d.num))) else .any) [2, 4, 6, 7, 8] [4, 6, 7] mix (by kernel_rfl) fun K hK => ?_
          simp [ha, hal, hg, hgn, w1, rowsK_set]
          first | refine hK _ _ ?_ | refine ⟨by omega, hK _ _ ?_⟩ | refine ⟨by omega, by omega, hK _ _ ?_⟩
          clear hK K
          show AWp _ _ _ _
          refine AWp.goLast [2, 4, 6, 7, 8] [4, 6, 7] fun K hK => ?_
          simp
          first | refine hK _ _ ?_ | refine ⟨by omega, hK _ _ ?_⟩ | refine ⟨by omega, by omega, hK _ _ ?_⟩
          clear hK K
          refine ⟨i + 1, by omega, by omega, ?_⟩
          rw [hnx, hD]
          simp
          exact wrap64 (by omega) (by omega)
        · refine AWp.cond (t := false) (by first | (simp [q4]; done) | (simp [q4]; omega)) (by simp) (fun _ => ?_)
          refine AWp.skip ?_
          show AWp _ _ _ _
          refine AWp.goLast [2, 4, 6, 7, 8] [4, 6, 7] fun K hK => ?_
          simp
          first | refine hK _ _ ?_ | refine ⟨by omega, hK _ _ ?_⟩ | refine ⟨by omega, by omega, hK _ _ ?_⟩
          clear hK K
          have hD : doStep k S d = S := by rw [doStep, if_neg q12, if_neg q3, if_neg q4]
          refine ⟨i + 1, by omega, by omega, ?_⟩
          rw [hnx, hD]
          simp
          exact wrap64 (by omega) (by omega)
  · refine AWp.cond (t := false) (by first | (simp [h]; done) | (simp [h]; omega)) (by simp) (fun _ => ?_)
    refine AWp.exit ?_
    show AWp _ _ _ _
    obtain rfl : i = p.does.length := by omega
    rw [List.take_length]
    refine AWp.go [6] [6, 7] fun K hK => ?_
    simp
    first | refine hK _ _ ?_ | refine ⟨by omega, hK _ _ ?_⟩ | refine ⟨by omega, by omega, hK _ _ ?_⟩
    clear hK K
    refine AWp.ret ?_
    simp
end Go.AM
namespace Go.AM
open Go.Proofs
set_option maxRecDepth 8000 in
theorem c_Equal_Str (a b : List ByteArray) (ha : a.length ≤ 100000) : Pure Tryz.prog 43 [.sl .fro 1 (strsAV a), .sl .fro 1 (strsAV b)] (.b (sameL a b)) := by
  refine proc_of (cx Tryz.prog 26 [0, 1, 4, 5, 10, 12, 13, 14, 24] [4]) 24 [.tmp 4] Tryz.func43 rfl rfl rfl rfl rfl rfl (Nat.le_refl _) rfl ?_
  refine AWp.go [0, 1] [] fun K hK => ?_
  simp
  first | refine hK _ _ ?_ | refine ⟨by omega, hK _ _ ?_⟩ | refine ⟨by omega, by omega, hK _ _ ?_⟩
  clear hK K
  refine AWp.seq ?_
  refine AWp.go [0, 1, 10] [] fun K hK => ?_
  simp
  first | refine hK _ _ ?_ | refine ⟨by omega, hK _ _ ?_⟩ | refine ⟨by omega, by omega, hK _ _ ?_⟩
  clear hK K
  by_cases q0 : (a.length : Int) = b.length
  · refine AWp.cond (t := false) (by first | (simp [q0]; done) | (simp [q0]; omega)) (by simp) (fun _ => ?_)
    refine AWp.skip ?_
    show AWp _ _ _ _
    refine AWp.seq ?_
    refine AWp.go [0, 1, 12, 13] [] fun K hK => ?_
    simp
    first | refine hK _ _ ?_ | refine ⟨by omega, hK _ _ ?_⟩ | refine ⟨by omega, by omega, hK _ _ ?_⟩
    clear hK K
    refine AWp.block (AWp.while (fun i : Nat => [(0, .sl .fro 1 (strsAV a)), (1, .sl .fro 1 (strsAV b)), (12, .i .i64 a.length), (13, .i .i64 i)]) (fun i => []) (fun i => i ≤ a.length ∧ ∀ k, k < i → eqAt a b k = true) (fun i => a.length - i) [0, 1, 12, 13] [] 0 (by simp) (by simp) ?_)
    rintro i ⟨hi, hall⟩
    refine AWp.go [0, 1, 12, 13, 14] [] fun K hK => ?_
    simp
    first | refine hK _ _ ?_ | refine ⟨by omega, hK _ _ ?_⟩ | refine ⟨by omega, by omega, hK _ _ ?_⟩
    clear hK K
    refine AWp.seq ?_
    by_cases h : i < a.length
    · refine AWp.cond (t := true) (by first | (simp [h]; done) | (simp [h]; omega)) (fun _ => ?_) (by simp)
      refine AWp.skip ?_
      show AWp _ _ _ _
      refine AWp.seq ?_
      refine AWp.block ?_
      refine AWp.go [0, 1, 5, 12, 13] [] fun K hK => ?_
      simp
      first | refine hK _ _ ?_ | refine ⟨by omega, hK _ _ ?_⟩ | refine ⟨by omega, by omega, hK _ _ ?_⟩
      clear hK K
      have h' : i < b.length := by omega
      refine AWp.stepD 9 (fun _ => .any) [0, 1, 12, 13, 24] [] [(0, .sl .fro 1 (strsAV a)), (1, .sl .fro 1 (strsAV b)), (12, .i .i64 a.length), (13, .i .i64 i), (24, .b (!eqAt a b i))] [] mix (by kernel_rfl) ?_ ?_
      · simp [h, h', eqAt, eqK]
      cases hp : eqAt a b i
      · refine AWp.cond (t := true) (by simp) (fun _ => ?_) (by simp)
        refine AWp.go [4] [] fun K hK => ?_
        simp
        first | refine hK _ _ ?_ | refine ⟨by omega, hK _ _ ?_⟩ | refine ⟨by omega, by omega, hK _ _ ?_⟩
        clear hK K
        refine AWp.ret ?_
        simp [sameL, range_not h hp]
      · refine AWp.cond (t := false) (by simp) (by simp) (fun _ => ?_)
        refine AWp.skip ?_
        show AWp _ _ _ _
        refine AWp.goLast [0, 1, 12, 13] [] fun K hK => ?_
        simp
        first | refine hK _ _ ?_ | refine ⟨by omega, hK _ _ ?_⟩ | refine ⟨by omega, by omega, hK _ _ ?_⟩
        clear hK K
        refine ⟨i + 1, ⟨by omega, fun k hk => ?_⟩, by omega, ?_⟩
        · by_cases hki : k = i
          · subst hki; exact hp
          · exact hall k (by omega)
        · simp
          exact wrap64 (by omega) (by omega)
    · refine AWp.cond (t := false) (by first | (simp [h]; done) | (simp [h]; omega)) (by simp) (fun _ => ?_)
      refine AWp.exit ?_
      show AWp _ _ _ _
      refine AWp.go [4] [] fun K hK => ?_
      simp
      first | refine hK _ _ ?_ | refine ⟨by omega, hK _ _ ?_⟩ | refine ⟨by omega, by omega, hK _ _ ?_⟩
      clear hK K
      refine AWp.ret ?_
      simp [sameL, q0, range_all (fun k (hk : k < a.length) => hall k (by omega))]
  · refine AWp.cond (t := true) (by first | (simp [q0]; done) | (simp [q0]; omega)) (fun _ => ?_) (by simp)
    refine AWp.go [4] [] fun K hK => ?_
    simp
    first | refine hK _ _ ?_ | refine ⟨by omega, hK _ _ ?_⟩ | refine ⟨by omega, by omega, hK _ _ ?_⟩
    clear hK K
    refine AWp.ret ?_
    simp [sameL, q0]
set_option maxRecDepth 8000 in
theorem c_Equal_Cel (a b : List Cel) (ha : a.length ≤ 100000) : Pure Tryz.prog 45 [.sl .fro 2 (celsAV a), .sl .fro 2 (celsAV b)] (.b (sameK a b)) := by
  refine proc_of (cx Tryz.prog 26 [0, 1, 4, 5, 10, 12, 13, 14, 24] [4]) 24 [.tmp 4] Tryz.func45 rfl rfl rfl rfl rfl rfl (Nat.le_refl _) rfl ?_
  refine AWp.go [0, 1] [] fun K hK => ?_
  simp
  first | refine hK _ _ ?_ | refine ⟨by omega, hK _ _ ?_⟩ | refine ⟨by omega, by omega, hK _ _ ?_⟩
  clear hK K
  refine AWp.seq ?_
  refine AWp.go [0, 1, 10] [] fun K hK => ?_
  simp
  first | refine hK _ _ ?_ | refine ⟨by omega, hK _ _ ?_⟩ | refine ⟨by omega, by omega, hK _ _ ?_⟩
  clear hK K
  by_cases q0 : (a.length : Int) = b.length
  · refine AWp.cond (t := false) (by first | (simp [q0]; done) | (simp [q0]; omega)) (by simp) (fun _ => ?_)
    refine AWp.skip ?_
    show AWp _ _ _ _
    refine AWp.seq ?_
    refine AWp.go [0, 1, 12, 13] [] fun K hK => ?_
    simp
    first | refine hK _ _ ?_ | refine ⟨by omega, hK _ _ ?_⟩ | refine ⟨by omega, by omega, hK _ _ ?_⟩
    clear hK K
    refine AWp.block (AWp.while (fun i : Nat => [(0, .sl .fro 2 (celsAV a)), (1, .sl .fro 2 (celsAV b)), (12, .i .i64 a.length), (13, .i .i64 i)]) (fun i => []) (fun i => i ≤ a.length ∧ ∀ k, k < i → sameAt a b k = true) (fun i => a.length - i) [0, 1, 12, 13] [] 0 (by simp) (by simp) ?_)
    rintro i ⟨hi, hall⟩
    refine AWp.go [0, 1, 12, 13, 14] [] fun K hK => ?_
    simp
    first | refine hK _ _ ?_ | refine ⟨by omega, hK _ _ ?_⟩ | refine ⟨by omega, by omega, hK _ _ ?_⟩
    clear hK K
    refine AWp.seq ?_
    by_cases h : i < a.length
    · refine AWp.cond (t := true) (by first | (simp [h]; done) | (simp [h]; omega)) (fun _ => ?_) (by simp)
      refine AWp.skip ?_
      show AWp _ _ _ _
      refine AWp.seq ?_
      refine AWp.block ?_
      refine AWp.go [0, 1, 5, 12, 13] [] fun K hK => ?_
      simp
      first | refine hK _ _ ?_ | refine ⟨by omega, hK _ _ ?_⟩ | refine ⟨by omega, by omega, hK _ _ ?_⟩
      clear hK K
      have h' : i < b.length := by omega
      refine AWp.stepD 9 (fun _ => .any) [0, 1, 12, 13, 24] [] [(0, .sl .fro 2 (celsAV a)), (1, .sl .fro 2 (celsAV b)), (12, .i .i64 a.length), (13, .i .i64 i), (24, .b (!sameAt a b i))] [] mix (by kernel_rfl) ?_ ?_
      · simp [h, h', sameAt, celEq, eqK]
      cases hp : sameAt a b i
      · refine AWp.cond (t := true) (by simp) (fun _ => ?_) (by simp)
        refine AWp.go [4] [] fun K hK => ?_
        simp
        first | refine hK _ _ ?_ | refine ⟨by omega, hK _ _ ?_⟩ | refine ⟨by omega, by omega, hK _ _ ?_⟩
        clear hK K
        refine AWp.ret ?_
        simp [sameK, range_not h hp]
      · refine AWp.cond (t := false) (by simp) (by simp) (fun _ => ?_)
        refine AWp.skip ?_
        show AWp _ _ _ _
        refine AWp.goLast [0, 1, 12, 13] [] fun K hK => ?_
        simp
        first | refine hK _ _ ?_ | refine ⟨by omega, hK _ _ ?_⟩ | refine ⟨by omega, by omega, hK _ _ ?_⟩
        clear hK K
        refine ⟨i + 1, ⟨by omega, fun k hk => ?_⟩, by omega, ?_⟩
        · by_cases hki : k = i
          · subst hki; exact hp
          · exact hall k (by omega)
        · simp
          exact wrap64 (by omega) (by omega)
    · refine AWp.cond (t := false) (by first | (simp [h]; done) | (simp [h]; omega)) (by simp) (fun _ => ?_)
      refine AWp.exit ?_
      show AWp _ _ _ _
      refine AWp.go [4] [] fun K hK => ?_
      simp
      first | refine hK _ _ ?_ | refine ⟨by omega, hK _ _ ?_⟩ | refine ⟨by omega, by omega, hK _ _ ?_⟩
      clear hK K
      refine AWp.ret ?_
      simp [sameK, q0, range_all (fun k (hk : k < a.length) => hall k (by omega))]
  · refine AWp.cond (t := true) (by first | (simp [q0]; done) | (simp [q0]; omega)) (fun _ => ?_) (by simp)
    refine AWp.go [4] [] fun K hK => ?_
    simp
    first | refine hK _ _ ?_ | refine ⟨by omega, hK _ _ ?_⟩ | refine ⟨by omega, by omega, hK _ _ ?_⟩
    clear hK K
    refine AWp.ret ?_
    simp [sameK, q0]
def eqRow {α : Type} (f : List α → List α → Bool) (A B : List (List α)) (i : Nat) : Bool := match A[i]?, B[i]? with
  | some x, some y => f x y
  | _, _ => false
def eqRows {α : Type} (f : List α → List α → Bool) (A B : List (List α)) : Bool := decide ((A.length : Int) = B.length) && (List.range A.length).all (eqRow f A B)
set_option maxRecDepth 8000 in
theorem c_EqualFunc_StrRow (A B : List (List ByteArray)) (ha : A.length ≤ 100000) (hA : ∀ l ∈ A, l.length ≤ 100000) : Pure Tryz.prog 42 [.sl .fro 1 (rowsS A), .sl .fro 1 (rowsS B), .fn 43 [] []] (.b (eqRows sameL A B)) := by
  refine proc_of (cx Tryz.prog 32 [0, 1, 2, 6, 7, 8, 9, 14, 15, 16, 17, 18, 30] [6]) 29 [.tmp 6] Tryz.func42 rfl rfl rfl rfl rfl rfl (Nat.le_refl _) rfl ?_
  refine AWp.go [0, 1, 2] [] fun K hK => ?_
  simp
  first | refine hK _ _ ?_ | refine ⟨by omega, hK _ _ ?_⟩ | refine ⟨by omega, by omega, hK _ _ ?_⟩
  clear hK K
  refine AWp.seq ?_
  refine AWp.go [0, 1, 2, 14] [] fun K hK => ?_
  simp
  first | refine hK _ _ ?_ | refine ⟨by omega, hK _ _ ?_⟩ | refine ⟨by omega, by omega, hK _ _ ?_⟩
  clear hK K
  by_cases q0 : (A.length : Int) = B.length
  · refine AWp.cond (t := false) (by first | (simp [q0]; done) | (simp [q0]; omega)) (by simp) (fun _ => ?_)
    refine AWp.skip ?_
    show AWp _ _ _ _
    refine AWp.seq ?_
    refine AWp.go [1, 2, 15, 16, 17] [] fun K hK => ?_
    simp
    first | refine hK _ _ ?_ | refine ⟨by omega, hK _ _ ?_⟩ | refine ⟨by omega, by omega, hK _ _ ?_⟩
    clear hK K
    refine AWp.block (AWp.while (fun i : Nat => [(1, .sl .fro 1 (rowsS B)), (2, .fn 43 [] []), (15, .sl .fro 1 (rowsS A)), (16, .i .i64 A.length), (17, .i .i64 i)]) (fun i => []) (fun i => i ≤ A.length ∧ ∀ k, k < i → eqRow sameL A B k = true) (fun i => A.length - i) [1, 2, 15, 16, 17] [] 0 (by simp) (by simp) ?_)
    rintro i ⟨hi, hall⟩
    refine AWp.go [1, 2, 15, 16, 17, 18] [] fun K hK => ?_
    simp
    first | refine hK _ _ ?_ | refine ⟨by omega, hK _ _ ?_⟩ | refine ⟨by omega, by omega, hK _ _ ?_⟩
    clear hK K
    refine AWp.seq ?_
    by_cases h : i < A.length
    · refine AWp.cond (t := true) (by first | (simp [h]; done) | (simp [h]; omega)) (fun _ => ?_) (by simp)
      refine AWp.skip ?_
      show AWp _ _ _ _
      refine AWp.seq ?_
      refine AWp.block ?_
      have h' : i < B.length := by omega
      refine AWp.go [1, 2, 7, 8, 15, 16, 17] [] fun K hK => ?_
      simp [h]
      first | refine hK _ _ ?_ | refine ⟨by omega, hK _ _ ?_⟩ | refine ⟨by omega, by omega, hK _ _ ?_⟩
      clear hK K
      refine AWp.go [1, 2, 8, 9, 15, 16, 17] [] fun K hK => ?_
      simp [h']
      first | refine hK _ _ ?_ | refine ⟨by omega, hK _ _ ?_⟩ | refine ⟨by omega, by omega, hK _ _ ?_⟩
      clear hK K
      have hE : eqRow sameL A B i = sameL A[i] B[i] := by simp [eqRow, h, h']
      refine AWp.go [1, 2, 15, 16, 17, 30] [] fun K hK => ?_
      simp
      refine call_pure (c_Equal_Str A[i] B[i] (hA _ (List.getElem_mem h))) (by simp) ?_
      simp
      first | refine hK _ _ ?_ | refine ⟨by omega, hK _ _ ?_⟩ | refine ⟨by omega, by omega, hK _ _ ?_⟩
      clear hK K
      cases hp : sameL A[i] B[i]
      · refine AWp.cond (t := true) (by simp) (fun _ => ?_) (by simp)
        refine AWp.go [6] [] fun K hK => ?_
        simp
        first | refine hK _ _ ?_ | refine ⟨by omega, hK _ _ ?_⟩ | refine ⟨by omega, by omega, hK _ _ ?_⟩
        clear hK K
        refine AWp.ret ?_
        simp [eqRows, range_not h (hE.trans hp)]
      · refine AWp.cond (t := false) (by simp) (by simp) (fun _ => ?_)
        refine AWp.skip ?_
        show AWp _ _ _ _
        refine AWp.goLast [1, 2, 15, 16, 17] [] fun K hK => ?_
        simp
        first | refine hK _ _ ?_ | refine ⟨by omega, hK _ _ ?_⟩ | refine ⟨by omega, by omega, hK _ _ ?_⟩
        clear hK K
        refine ⟨i + 1, ⟨by omega, fun k hk => ?_⟩, by omega, ?_⟩
        · by_cases hki : k = i
          · subst hki; exact hE.trans hp
          · exact hall k (by omega)
        · simp
          exact wrap64 (by omega) (by omega)
    · refine AWp.cond (t := false) (by first | (simp [h]; done) | (simp [h]; omega)) (by simp) (fun _ => ?_)
      refine AWp.exit ?_
      show AWp _ _ _ _
      refine AWp.go [6] [] fun K hK => ?_
      simp
      first | refine hK _ _ ?_ | refine ⟨by omega, hK _ _ ?_⟩ | refine ⟨by omega, by omega, hK _ _ ?_⟩
      clear hK K
      refine AWp.ret ?_
      simp [eqRows, q0, range_all (fun k (hk : k < A.length) => hall k (by omega))]
  · refine AWp.cond (t := true) (by first | (simp [q0]; done) | (simp [q0]; omega)) (fun _ => ?_) (by simp)
    refine AWp.go [6] [] fun K hK => ?_
    simp
    first | refine hK _ _ ?_ | refine ⟨by omega, hK _ _ ?_⟩ | refine ⟨by omega, by omega, hK _ _ ?_⟩
    clear hK K
    refine AWp.ret ?_
    simp [eqRows, q0]
set_option maxRecDepth 8000 in
theorem c_EqualFunc_CelRow (A B : List (List Cel)) (ha : A.length ≤ 100000) (hA : ∀ l ∈ A, l.length ≤ 100000) : Pure Tryz.prog 44 [.sl .fro 1 (rowsK A), .sl .fro 1 (rowsK B), .fn 45 [] []] (.b (eqRows sameK A B)) := by
  refine proc_of (cx Tryz.prog 32 [0, 1, 2, 6, 7, 8, 9, 14, 15, 16, 17, 18, 30] [6]) 29 [.tmp 6] Tryz.func44 rfl rfl rfl rfl rfl rfl (Nat.le_refl _) rfl ?_
  refine AWp.go [0, 1, 2] [] fun K hK => ?_
  simp
  first | refine hK _ _ ?_ | refine ⟨by omega, hK _ _ ?_⟩ | refine ⟨by omega, by omega, hK _ _ ?_⟩
  clear hK K
  refine AWp.seq ?_
  refine AWp.go [0, 1, 2, 14] [] fun K hK => ?_
  simp
  first | refine hK _ _ ?_ | refine ⟨by omega, hK _ _ ?_⟩ | refine ⟨by omega, by omega, hK _ _ ?_⟩
  clear hK K
  by_cases q0 : (A.length : Int) = B.length
  · refine AWp.cond (t := false) (by first | (simp [q0]; done) | (simp [q0]; omega)) (by simp) (fun _ => ?_)
    refine AWp.skip ?_
    show AWp _ _ _ _
    refine AWp.seq ?_
    refine AWp.go [1, 2, 15, 16, 17] [] fun K hK => ?_
    simp
    first | refine hK _ _ ?_ | refine ⟨by omega, hK _ _ ?_⟩ | refine ⟨by omega, by omega, hK _ _ ?_⟩
    clear hK K
    refine AWp.block (AWp.while (fun i : Nat => [(1, .sl .fro 1 (rowsK B)), (2, .fn 45 [] []), (15, .sl .fro 1 (rowsK A)), (16, .i .i64 A.length), (17, .i .i64 i)]) (fun i => []) (fun i => i ≤ A.length ∧ ∀ k, k < i → eqRow sameK A B k = true) (fun i => A.length - i) [1, 2, 15, 16, 17] [] 0 (by simp) (by simp) ?_)
    rintro i ⟨hi, hall⟩
    refine AWp.go [1, 2, 15, 16, 17, 18] [] fun K hK => ?_
    simp
    first | refine hK _ _ ?_ | refine ⟨by omega, hK _ _ ?_⟩ | refine ⟨by omega, by omega, hK _ _ ?_⟩
    clear hK K
    refine AWp.seq ?_
    by_cases h : i < A.length
    · refine AWp.cond (t := true) (by first | (simp [h]; done) | (simp [h]; omega)) (fun _ => ?_) (by simp)
      refine AWp.skip ?_
      show AWp _ _ _ _
      refine AWp.seq ?_
      refine AWp.block ?_
      have h' : i < B.length := by omega
      refine AWp.go [1, 2, 7, 8, 15, 16, 17] [] fun K hK => ?_
      simp [h]
      first | refine hK _ _ ?_ | refine ⟨by omega, hK _ _ ?_⟩ | refine ⟨by omega, by omega, hK _ _ ?_⟩
      clear hK K
      refine AWp.go [1, 2, 8, 9, 15, 16, 17] [] fun K hK => ?_
      simp [h']
      first | refine hK _ _ ?_ | refine ⟨by omega, hK _ _ ?_⟩ | refine ⟨by omega, by omega, hK _ _ ?_⟩
      clear hK K
      have hE : eqRow sameK A B i = sameK A[i] B[i] := by simp [eqRow, h, h']
      refine AWp.go [1, 2, 15, 16, 17, 30] [] fun K hK => ?_
      simp
      refine call_pure (c_Equal_Cel A[i] B[i] (hA _ (List.getElem_mem h))) (by simp) ?_
      simp
      first | refine hK _ _ ?_ | refine ⟨by omega, hK _ _ ?_⟩ | refine ⟨by omega, by omega, hK _ _ ?_⟩
      clear hK K
      cases hp : sameK A[i] B[i]
      · refine AWp.cond (t := true) (by simp) (fun _ => ?_) (by simp)
        refine AWp.go [6] [] fun K hK => ?_
        simp
        first | refine hK _ _ ?_ | refine ⟨by omega, hK _ _ ?_⟩ | refine ⟨by omega, by omega, hK _ _ ?_⟩
        clear hK K
        refine AWp.ret ?_
        simp [eqRows, range_not h (hE.trans hp)]
      · refine AWp.cond (t := false) (by simp) (by simp) (fun _ => ?_)
        refine AWp.skip ?_
        show AWp _ _ _ _
        refine AWp.goLast [1, 2, 15, 16, 17] [] fun K hK => ?_
        simp
        first | refine hK _ _ ?_ | refine ⟨by omega, hK _ _ ?_⟩ | refine ⟨by omega, by omega, hK _ _ ?_⟩
        clear hK K
        refine ⟨i + 1, ⟨by omega, fun k hk => ?_⟩, by omega, ?_⟩
        · by_cases hki : k = i
          · subst hki; exact hE.trans hp
          · exact hall k (by omega)
        · simp
          exact wrap64 (by omega) (by omega)
    · refine AWp.cond (t := false) (by first | (simp [h]; done) | (simp [h]; omega)) (by simp) (fun _ => ?_)
      refine AWp.exit ?_
      show AWp _ _ _ _
      refine AWp.go [6] [] fun K hK => ?_
      simp
      first | refine hK _ _ ?_ | refine ⟨by omega, hK _ _ ?_⟩ | refine ⟨by omega, by omega, hK _ _ ?_⟩
      clear hK K
      refine AWp.ret ?_
      simp [eqRows, q0, range_all (fun k (hk : k < A.length) => hall k (by omega))]
  · refine AWp.cond (t := true) (by first | (simp [q0]; done) | (simp [q0]; omega)) (fun _ => ?_) (by simp)
    refine AWp.go [6] [] fun K hK => ?_
    simp
    first | refine hK _ _ ?_ | refine ⟨by omega, hK _ _ ?_⟩ | refine ⟨by omega, by omega, hK _ _ ?_⟩
    clear hK K
    refine AWp.ret ?_
    simp [eqRows, q0]
theorem sameSta_rows (a b : Sta) : (eqRows sameL a.sets b.sets && eqRows sameK a.counts b.counts) = sameSta a b := by
  have h1 : eqRow sameL a.sets b.sets = sameSAt a b := by
    funext i
    unfold eqRow sameSAt
    cases a.sets[i]? <;> cases b.sets[i]? <;> rfl
  have h2 : eqRow sameK a.counts b.counts = sameKAt a b := by
    funext i
    unfold eqRow sameKAt
    cases a.counts[i]? <;> cases b.counts[i]? <;> rfl
  unfold eqRows sameSta
  rw [h1, h2]
  cases decide ((a.sets.length : Int) = b.sets.length) <;> cases decide ((a.counts.length : Int) = b.counts.length) <;> cases (List.range a.sets.length).all (sameSAt a b) <;> rfl
set_option maxRecDepth 8000 in
theorem c_eval_Same (a b : Sta) (ha : SlightS a) : Pure Tryz.prog 15 [.agg (staC a), .agg (staC b)] (.b (sameSta a b)) := by
  obtain ⟨k1, k2, k3, k4⟩ := ha
  have g1 := c_EqualFunc_StrRow a.sets b.sets k1 k3
  have g2 := c_EqualFunc_CelRow a.counts b.counts k2 k4
  rw [← sameSta_rows]
  refine proc_of (cx Tryz.prog 17 [2, 3, 4] [4]) 15 [.tmp 4] Tryz.func15 rfl rfl rfl rfl rfl rfl (Nat.le_refl _) rfl ?_
  refine AWp.go [2, 3] [2, 3] fun K hK => ?_
  simp [staC]
  first | refine hK _ _ ?_ | refine ⟨by omega, hK _ _ ?_⟩ | refine ⟨by omega, by omega, hK _ _ ?_⟩
  clear hK K
  refine AWp.step [4] [2, 3] [(4, .b (eqRows sameL a.sets b.sets && eqRows sameK a.counts b.counts))] [(2, [.sl .fro 1 (rowsS a.sets), .sl .fro 1 (rowsK a.counts)]), (3, [.sl .fro 1 (rowsS b.sets), .sl .fro 1 (rowsK b.counts)])] ?_ ?_
  · simp
    refine call_pure g1 (by simp) ?_
    cases q1 : eqRows sameL a.sets b.sets
    · simp
    simp
    refine call_pure g2 (by simp) ?_
    simp
  refine AWp.ret ?_
  simp
end Go.AM
namespace Go.AM
open Go.Proofs
theorem doRes_no {r : Rul} {s : Sta} {o : Int} {k : ByteArray} (h : (okB r s && keyOk k) = false) : doRes r s o k = (emptyS, 1) := by
  unfold doRes; rw [if_neg (by rw [h]; simp)]
theorem doRes_none {r : Rul} {s : Sta} {o : Int} {k : ByteArray} (h : (okB r s && keyOk k) = true) (ho : o < 0 ∨ (r.opers.length : Int) ≤ o) : doRes r s o k = (emptyS, 3) := by
  unfold doRes; rw [if_pos h]
  have hn : (if 0 ≤ o then r.opers[o.toNat]? else none) = none := by
    split
    · exact List.getElem?_eq_none (by omega)
    · rfl
  rw [hn]
theorem doRes_at {r : Rul} {s : Sta} {m : Nat} {k : ByteArray} (h : (okB r s && keyOk k) = true) (hm : m < r.opers.length) : doRes r s m k = if stateB r (doTo k s r.opers[m].does) then (doTo k s r.opers[m].does, 0) else (emptyS, 6) := by
  unfold doRes; rw [if_pos h]
  simp [hm]
theorem slight_empty : SlightS emptyS := ⟨by simp [emptyS], by simp [emptyS], fun l hl => by simp [emptyS] at hl, fun l hl => by simp [emptyS] at hl⟩
set_option maxRecDepth 8000 in
set_option maxHeartbeats 16000000 in
theorem c_EvalDoes (r : Rul) (s : Sta) (t : Int) (key : ByteArray) (n : Int) (n1 : s.sets.length ≤ 9223372036854775807) (n2 : s.counts.length ≤ 9223372036854775807) (n3 : ∀ l ∈ s.sets, l.length ≤ 9223372036854775807) (n4 : ∀ l ∈ s.counts, l.length ≤ 9223372036854775807) : Pure Tryz.prog 3 [.agg (rulC r), .agg (staC s), .agg [.i .i64 t, .s key, .i .i64 n]] (.b true) := by
  have g0 := c_law16_Light r
  have g0' := c_law19_Light s n1 n2 n3 n4
  have gw := c_law19_awake
  simp [rulC, staC] at g0 g0'
  refine proc_of (cx Tryz.prog 129 [3, 4, 5, 6, 7, 8, 9, 23, 49, 70, 94] [6]) 126 [.tmp 6] Tryz.func3 rfl rfl rfl rfl rfl rfl (Nat.le_refl _) rfl ?_
  refine AWp.go [3, 4, 5] [3, 4, 5] fun K hK => ?_
  simp [rulC, staC]
  first | refine hK _ _ ?_ | refine ⟨by omega, hK _ _ ?_⟩ | refine ⟨by omega, by omega, hK _ _ ?_⟩
  clear hK K
  refine AWp.seq ?_
  refine AWp.step [3, 4, 5, 23] [3, 4, 5] [(3, .ptr 3 0), (4, .ptr 4 0), (5, .ptr 5 0), (23, .b (!(slimB r && lightS s && !decide ((100 : Int) < key.size))))] [(3, [.sl .fro 1 (strsAV r.sets), .sl .fro 1 (strsAV r.counts), .sl .fro 1 (strsAV r.notes), .sl .fro 5 (clsAV r.cls), .sl .fro 2 (opnsAV r.opers)]), (4, [.sl .fro 1 (rowsS s.sets), .sl .fro 1 (rowsK s.counts)]), (5, [.i .i64 t, .s key, .i .i64 n])] ?_ ?_
  · simp
    refine call_pure g0 (by simp) ?_
    cases q1 : slimB r
    · simp
    simp
    refine call_pure g0' (by simp) ?_
    cases q2 : lightS s
    · simp
    · simp
  cases hg : slimB r && lightS s && !decide ((100 : Int) < key.size)
  · refine AWp.cond (t := true) (by simp) (fun _ => ?_) (by simp)
    refine AWp.go [6] [3, 4, 5] fun K hK => ?_
    simp
    refine call_pure gw (by simp) ?_
    simp
    first | refine hK _ _ ?_ | refine ⟨by omega, hK _ _ ?_⟩ | refine ⟨by omega, by omega, hK _ _ ?_⟩
    clear hK K
    refine AWp.ret ?_
    simp
  · refine AWp.cond (t := false) (by simp) (by simp) (fun _ => ?_)
    refine AWp.skip ?_
    show AWp _ _ _ _
    have hL : slimB r = true ∧ lightS s = true := by
      simp only [Bool.and_eq_true] at hg
      exact ⟨hg.1.1, hg.1.2⟩
    have hr := slim_of hL.1
    have hf := few_of hL.2
    have hs := hf.1
    clear g0 g0'
    have gD := (c_eval_Do r s hr hs n key).fro
    have g16 := c_ref16_May r hr
    have g19 := c_ref19_May r s hr.1 hs
    have gE := c_ref19_Same emptyS emptyS slight_empty slight_empty
    have gE2 := sameSta_refl emptyS
    have hno := fun h => doRes_no (r := r) (s := s) (o := n) (k := key) h
    have hnone := fun h ho => doRes_none (r := r) (s := s) (o := n) (k := key) h ho
    have hat : ∀ (m : Nat) (hm : m < r.opers.length), n = m → (okB r s && keyOk key) = true → doRes r s n key = if stateB r (doTo key s r.opers[m].does) then (doTo key s r.opers[m].does, 0) else (emptyS, 6) := fun m hm hn h => by
      rw [hn]
      exact doRes_at (r := r) (s := s) (k := key) h hm
    obtain ⟨T, hT⟩ : ∃ T, T = doRes r s n key := ⟨_, rfl⟩
    rw [← hT] at gD hno hnone
    simp [rulC, staC] at gD g16 g19
    simp [staC, emptyS, rowsS, rowsK] at gE
    rw [show sameSta ⟨[], []⟩ ⟨[], []⟩ = true from gE2] at gE
    refine AWp.go [3, 4, 5, 7, 8] [3, 4, 5, 7] fun K hK => ?_
    simp
    refine call_pure gD (by simp) ?_
    simp
    first | refine hK _ _ ?_ | refine ⟨by omega, hK _ _ ?_⟩ | refine ⟨by omega, by omega, hK _ _ ?_⟩
    clear hK K
    refine AWp.seq ?_
    refine AWp.step [3, 4, 5, 7, 8, 49] [3, 4, 5, 7] [(3, .ptr 3 0), (4, .ptr 4 0), (5, .ptr 5 0), (7, .ptr 7 0), (8, .i .i64 T.2), (49, .b (!(okB r s && keyOk key)))] [(3, [.sl .fro 1 (strsAV r.sets), .sl .fro 1 (strsAV r.counts), .sl .fro 1 (strsAV r.notes), .sl .fro 5 (clsAV r.cls), .sl .fro 2 (opnsAV r.opers)]), (4, [.sl .fro 1 (rowsS s.sets), .sl .fro 1 (rowsK s.counts)]), (5, [.i .i64 t, .s key, .i .i64 n]), (7, [.sl .fro 1 (rowsS T.1.sets), .sl .fro 1 (rowsK T.1.counts)])] ?_ ?_
    · simp
      refine call_pure g16 (by simp) ?_
      cases q1 : rulesB r
      · simp [okB, q1]
      simp
      refine call_pure g19 (by simp) ?_
      cases q2 : stateB r s
      · simp [okB, q1, q2]
      simp
      refine call_pure (c_ref08_Key key) (by simp) ?_
      simp [okB, q1, q2]
    cases hok : okB r s && keyOk key
    · refine AWp.cond (t := true) (by simp) (fun _ => ?_) (by simp)
      rw [hno hok]
      refine AWp.go [6] [3, 4, 5, 7] fun K hK => ?_
      simp [emptyS, rowsS, rowsK]
      refine call_pure gE (by simp) ?_
      simp [emptyS, rowsS, rowsK]
      refine call_pure gw (by simp) ?_
      simp [emptyS, rowsS, rowsK]
      first | refine hK _ _ ?_ | refine ⟨by omega, hK _ _ ?_⟩ | refine ⟨by omega, by omega, hK _ _ ?_⟩
      clear hK K
      refine AWp.ret ?_
      simp
    · refine AWp.cond (t := false) (by simp) (by simp) (fun _ => ?_)
      refine AWp.skip ?_
      show AWp _ _ _ _
      refine AWp.seq ?_
      refine AWp.step [3, 4, 5, 7, 8, 70] [3, 4, 5, 7] [(3, .ptr 3 0), (4, .ptr 4 0), (5, .ptr 5 0), (7, .ptr 7 0), (8, .i .i64 T.2), (70, .b (decide (n < 0) || decide ((r.opers.length : Int) ≤ n)))] [(3, [.sl .fro 1 (strsAV r.sets), .sl .fro 1 (strsAV r.counts), .sl .fro 1 (strsAV r.notes), .sl .fro 5 (clsAV r.cls), .sl .fro 2 (opnsAV r.opers)]), (4, [.sl .fro 1 (rowsS s.sets), .sl .fro 1 (rowsK s.counts)]), (5, [.i .i64 t, .s key, .i .i64 n]), (7, [.sl .fro 1 (rowsS T.1.sets), .sl .fro 1 (rowsK T.1.counts)])] ?_ ?_
      · by_cases q : n < 0 <;> simp [q]
      cases ho : decide (n < 0) || decide ((r.opers.length : Int) ≤ n)
      · refine AWp.cond (t := false) (by simp) (by simp) (fun _ => ?_)
        refine AWp.skip ?_
        show AWp _ _ _ _
        simp only [Bool.or_eq_false_iff, decide_eq_false_iff_not] at ho
        obtain ⟨m, hm⟩ : ∃ m : Nat, n = m := ⟨n.toNat, by omega⟩
        have hml : m < r.opers.length := by omega
        have hTm := hat m hml hm hok
        rw [← hT] at hTm
        rw [hm]
        clear hno hnone hat
        obtain ⟨p, hp⟩ : ∃ p, p = r.opers[m] := ⟨_, rfl⟩
        have hoB : rulesB r = true ∧ stateB r s = true := by
          simp only [okB, Bool.and_eq_true] at hok
          exact hok.1
        have hopB : opB r p = true := by
          have := hoB.1
          simp only [rulesB, Bool.and_eq_true, List.all_eq_true] at this
          rw [hp]; exact this.2 _ (List.getElem_mem hml)
        obtain ⟨hdl, hdo⟩ := opB_does hopB
        have hnum : ∀ d ∈ p.does, -1000 ≤ d.num ∧ d.num ≤ 1000 := fun d hd => (doB_fit (hdo d hd)).2.2
        have gW := (c_ref19_Do r s p key hoB.1 hopB hoB.2).fro
        rw [← hp] at hTm
        have hbd : Bd (4000 + p.does.length) (doTo key s p.does) := Bd.doTo _ hnum (stateB_bd hoB.2)
        have hln := doTo_lens key p.does s
        obtain ⟨Wd, hW⟩ : ∃ Wd, Wd = doTo key s p.does := ⟨_, rfl⟩
        rw [← hW] at gW hTm hbd hln
        have hwl := hbd.slight (by omega) (by have := hs.1; omega) (by have := hs.2.1; omega)
        simp [staC, opnC] at gW
        refine AWp.goA 11 (fun j => if j = 9 then .agg [.sl .fro 1 (rowsS Wd.sets), .sl .fro 1 (rowsK Wd.counts)] else .any) [3, 4, 7, 8, 9] [3, 4, 5, 7, 9] mix (by kernel_rfl) fun K hK => ?_
        simp [hml, ← hp, gW]
        first | refine hK _ _ ?_ | refine ⟨by omega, hK _ _ ?_⟩ | refine ⟨by omega, by omega, hK _ _ ?_⟩
        clear hK K
        refine AWp.seq ?_
        have g19W := c_ref19_May r Wd hr.1 hwl
        simp [rulC, staC] at g19W
        refine AWp.step [4, 7, 8, 9, 94] [3, 4, 5, 7, 9] [(4, .ptr 4 0), (7, .ptr 7 0), (8, .i .i64 T.2), (9, .ptr 9 0), (94, .b (!stateB r Wd))] [(3, [.sl .fro 1 (strsAV r.sets), .sl .fro 1 (strsAV r.counts), .sl .fro 1 (strsAV r.notes), .sl .fro 5 (clsAV r.cls), .sl .fro 2 (opnsAV r.opers)]), (4, [.sl .fro 1 (rowsS s.sets), .sl .fro 1 (rowsK s.counts)]), (5, [.i .i64 t, .s key, .i .i64 m]), (7, [.sl .fro 1 (rowsS T.1.sets), .sl .fro 1 (rowsK T.1.counts)]), (9, [.sl .fro 1 (rowsS Wd.sets), .sl .fro 1 (rowsK Wd.counts)])] ?_ ?_
        · simp
          refine call_pure g19W (by simp) ?_
          simp
        cases hst : stateB r Wd
        · refine AWp.cond (t := true) (by simp) (fun _ => ?_) (by simp)
          rw [hst] at hTm
          simp only [Bool.false_eq_true, if_false] at hTm
          rw [hTm]
          refine AWp.go [6] [3, 4, 5, 7] fun K hK => ?_
          simp [emptyS, rowsS, rowsK]
          refine call_pure gE (by simp) ?_
          simp [emptyS, rowsS, rowsK]
          refine call_pure gw (by simp) ?_
          simp [emptyS, rowsS, rowsK]
          first | refine hK _ _ ?_ | refine ⟨by omega, hK _ _ ?_⟩ | refine ⟨by omega, by omega, hK _ _ ?_⟩
          clear hK K
          refine AWp.ret ?_
          simp
        · refine AWp.cond (t := false) (by simp) (by simp) (fun _ => ?_)
          refine AWp.skip ?_
          show AWp _ _ _ _
          rw [hst] at hTm
          simp only [if_true] at hTm
          rw [hTm]
          have gS := c_ref19_Same Wd Wd hwl hwl
          have gS2 := c_eval_Same Wd Wd hwl
          have gS3 := c_eval_Same s Wd hs
          have gS4 := c_ref19_Same s Wd hs hwl
          rw [sameSta_refl] at gS gS2
          simp [staC] at gS gS2 gS3 gS4
          refine AWp.goA 24 (fun j => if j = 5 ∨ j = 10 ∨ j = 22 then .b true else if j = 15 ∨ j = 18 then .b (sameSta s Wd) else .any) [6] [3, 4, 5, 7] mix (by kernel_rfl) fun K hK => ?_
          simp [gS, gS2, gS3, gS4, gw]
          first | refine hK _ _ ?_ | refine ⟨by omega, hK _ _ ?_⟩ | refine ⟨by omega, by omega, hK _ _ ?_⟩
          clear hK K
          refine AWp.ret ?_
          simp
      · refine AWp.cond (t := true) (by simp) (fun _ => ?_) (by simp)
        rw [hnone hok (by simpa using ho)]
        refine AWp.go [6] [3, 4, 5, 7] fun K hK => ?_
        simp [emptyS, rowsS, rowsK]
        refine call_pure gE (by simp) ?_
        simp [emptyS, rowsS, rowsK]
        refine call_pure gw (by simp) ?_
        simp [emptyS, rowsS, rowsK]
        first | refine hK _ _ ?_ | refine ⟨by omega, hK _ _ ?_⟩ | refine ⟨by omega, by omega, hK _ _ ?_⟩
        clear hK K
        refine AWp.ret ?_
        simp
end Go.AM
namespace Go.AM

inductive TT where
  | int (k : IntKind)
  | bool
  | str
  | sl (sz : Nat) (e : TT)
  | st (fs : List TT)

mutual
def TT.size : TT → Nat
  | .st fs => TT.sizeL fs
  | _ => 1
def TT.sizeL : List TT → Nat
  | [] => 0
  | f :: fs => f.size + TT.sizeL fs
end

mutual
/-- Is it the shape of a type? -/
def TT.isAt (P : Program) : TT → TypeId → Bool
  | .int k, t => match P.underlying t with
    | some (.int k') => k' == k
    | _ => false
  | .bool, t => match P.underlying t with
    | some .bool => true
    | _ => false
  | .str, t => match P.underlying t with
    | some .string => true
    | _ => false
  | .sl sz e, t => match P.underlying t with
    | some (.slice et) => P.cellsOf et == sz && decide (0 < sz) && e.size == sz && e.isAt P et
    | _ => false
  | .st fs, t => match P.underlying t with
    | some (.struct fl) => P.cellsOf t == TT.sizeL fs && TT.isL P fs fl.toList 0
    | _ => false
def TT.isL (P : Program) : List TT → List Field → Nat → Bool
  | [], [], _ => true
  | f :: fs, d :: ds, off => d.offset == off && P.cellsOf d.type == f.size && f.isAt P d.type && TT.isL P fs ds (off + f.size)
  | _, _, _ => false
end

mutual
/-- Cells of such a shape. -/
def TT.fit : TT → List AV → Prop
  | .int k, avs => ∃ n, avs = [.i k n] ∧ k.min ≤ n ∧ n ≤ k.max
  | .bool, avs => ∃ b, avs = [.b b]
  | .str, avs => ∃ s, avs = [.s s] ∧ s.size ≤ maxLen
  | .sl sz e, avs => ∃ xs, avs = [.sl .fro sz xs] ∧ xs.length ≤ maxLen ∧ ∀ x ∈ xs, e.fit x
  | .st fs, avs => TT.fitL fs avs
def TT.fitL : List TT → List AV → Prop
  | [], avs => avs = []
  | f :: fs, avs => ∃ a b, avs = a ++ b ∧ f.fit a ∧ TT.fitL fs b
end

section
variable {H : Type} {enc : TypeId × Value → H} {P : Program} {w : World} {held : Bool}

/-- Cells that are read as data. -/
def AsDat (w : World) (avs : List AV) (cs : List Value) : Prop := avs.length = cs.length ∧ ∀ (k : Nat) c, avs[k]? = some c → ∃ u, cs[k]? = some u ∧ DatC (fun b => b < w.heap.size) w c u

theorem AsDat.one {w : World} {c : AV} {u : Value} (h : Dat (fun b => b < w.heap.size) w c u) (h1 : u.oneCell' = true) : AsDat w [c] [u] := ⟨rfl, fun k c' hk => by
  cases k with
  | zero => simp at hk; subst hk; exact ⟨u, rfl, h, h1⟩
  | succ k => simp at hk⟩

theorem cell_spot {w : World} {a : Addr} {v : Value} (h : w.cell? a = some v) : a.spot = none := by
  unfold World.cell? at h
  split at h
  · cases hs : a.spot with
    | none => rfl
    | some s => simp [hs] at h
  · cases h

theorem cell_lt' {w : World} {a : Addr} {v : Value} (h : w.cell? a = some v) : a.block < w.heap.size := by
  unfold World.cell? at h
  split at h
  · rename_i h1; exact (Array.getElem?_eq_some_iff.1 h1).1
  · cases h

mutual
theorem trod_dat : ∀ (T : TT) (n : Nat) (t : TypeId) (cs : List Value) (x : DataW H × List MemPlace), T.isAt P t = true → DataW.trod enc P w 0 (fun _ => true) held n t cs = some x → ∃ avs, T.fit avs ∧ avs.length = T.size ∧ AsDat w avs cs
  | .int k, n, t, cs, x, hT, h => by
    simp only [TT.isAt] at hT
    split at hT
    · rename_i k' hu
      have : k' = k := by simpa using hT
      subst this
      obtain ⟨m, rfl, _, hw⟩ := DataW.trod_int hu h
      simp only [Lit.wf, Bool.and_eq_true, decide_eq_true_eq] at hw
      exact ⟨[.i k' m], ⟨m, rfl, hw⟩, rfl, .one (.i _ _) rfl⟩
    · cases hT
  | .bool, n, t, cs, x, hT, h => by
    simp only [TT.isAt] at hT
    split at hT
    · rename_i hu
      obtain ⟨b, rfl, _⟩ := DataW.trod_bool hu h
      exact ⟨[.b b], ⟨b, rfl⟩, rfl, .one (.b _) rfl⟩
    · cases hT
  | .str, n, t, cs, x, hT, h => by
    simp only [TT.isAt] at hT
    split at hT
    · rename_i hu
      obtain ⟨s, rfl, _, hs⟩ := DataW.trod_string hu h
      exact ⟨[.s s], ⟨s, rfl, hs⟩, rfl, .one (.s _) rfl⟩
    · cases hT
  | .sl sz e, n, t, cs, x, hT, h => by
    simp only [TT.isAt] at hT
    split at hT
    · rename_i et hu
      simp only [Bool.and_eq_true, beq_iff_eq, decide_eq_true_eq] at hT
      obtain ⟨⟨⟨hc, hz⟩, hes⟩, he⟩ := hT
      rcases DataW.trod_slice hu h with ⟨rfl, _⟩ | ⟨a, len, cap, elems, rest, m, _, rfl, _, _, hlc, hm, hlen, hel, _, _⟩
      · exact ⟨[.sl .fro sz []], ⟨[], rfl, by simp, by simp⟩, rfl, .one (.sl0 sz) rfl⟩
      · have each : ∀ i, i < len → ∃ avs : List AV, e.fit avs ∧ avs.length = sz ∧ ∀ (j : Nat) c, avs[j]? = some c → ∃ u, w.cell? ((a.add (i * sz)).add j) = some u ∧ DatC (fun b => b < w.heap.size) w c u := by
          intro i hi
          have h1 := hel i hi
          rw [hc, List.getElem?_eq_getElem (by omega)] at h1
          obtain ⟨cs', h2, h3⟩ := Option.bind_eq_some_iff.1 h1
          obtain ⟨avs, g1, g2, g3, g4⟩ := trod_dat e m et cs' _ he h3
          refine ⟨avs, g1, by rw [g2, hes], fun j c hj => ?_⟩
          obtain ⟨u, hu1, hd⟩ := g4 j c hj
          have hjl := (List.getElem?_eq_some_iff.1 hj).1
          exact ⟨u, by rw [(World.cells?_some h2).2.2 j (by omega)]; exact hu1, hd⟩
        obtain ⟨xs, hxl, hxs⟩ : ∃ xs : List (List AV), xs.length = len ∧ ∀ (i : Nat) x, xs[i]? = some x → e.fit x ∧ x.length = sz ∧ ∀ (j : Nat) c, x[j]? = some c → ∃ u, w.cell? ((a.add (i * sz)).add j) = some u ∧ DatC (fun b => b < w.heap.size) w c u := by
          refine ⟨(List.range len).map fun i => if hi : i < len then Classical.choose (each i hi) else [], by simp, fun i x hx => ?_⟩
          rw [List.getElem?_map] at hx
          obtain ⟨i', hi', rfl⟩ := Option.map_eq_some_iff.1 hx
          obtain ⟨hl, hi2⟩ := List.getElem?_eq_some_iff.1 hi'
          simp at hl hi2
          subst hi2
          rw [dif_pos hl]
          exact Classical.choose_spec (each i hl)
        have hfit : ∀ x ∈ xs, e.fit x := fun x hx => by
          obtain ⟨i, hi⟩ := List.mem_iff_getElem?.1 hx
          exact (hxs i x hi).1
        refine ⟨[.sl .fro sz xs], ⟨xs, rfl, by omega, hfit⟩, rfl, .one ?_ rfl⟩
        rcases Nat.eq_zero_or_pos len with h0 | h0
        · have : xs = [] := List.eq_nil_of_length_eq_zero (by omega)
          subst this
          rw [h0]
          exact .sl1 sz a cap
        · obtain ⟨g1, g2, g3⟩ := hxs 0 _ (List.getElem?_eq_getElem (by omega))
          obtain ⟨u, hu1, _⟩ := g3 0 _ (List.getElem?_eq_getElem (by omega))
          have haa : (a.add (0 * sz)).add 0 = a := by simp [Addr.add]
          rw [haa] at hu1
          have hsp := cell_spot hu1
          have hlt := cell_lt' hu1
          obtain ⟨bk, off, sp⟩ := a
          simp only at hsp hlt
          subst hsp
          rw [← hxl]
          have hl : ∀ x ∈ xs, x.length = sz := fun x hx => by
            obtain ⟨i, hi⟩ := List.mem_iff_getElem?.1 hx
            exact (hxs i x hi).2.1
          have hcell : ∀ (k : Nat) c, xs.flatten[k]? = some c → ∃ u, w.cell? ⟨bk, off + k, none⟩ = some u ∧ DatC (fun b => b < w.heap.size) w c u := by
            intro k c hk
            have hfl := flatten_length hl
            have hk1 := (List.getElem?_eq_some_iff.1 hk).1
            have hdiv : k / sz < xs.length := by rw [Nat.div_lt_iff_lt_mul hz]; omega
            have hmod : k % sz < sz := Nat.mod_lt _ hz
            have hx := List.getElem?_eq_getElem hdiv
            obtain ⟨_, q2, q3⟩ := hxs _ _ hx
            have hj : (xs[k / sz])[k % sz]? = some ((xs[k / sz])[k % sz]'(by omega)) := List.getElem?_eq_getElem (by omega)
            have e1 := flat_get hl (k / sz) (k % sz) _ _ hx hj
            rw [show k / sz * sz + k % sz = k by rw [Nat.mul_comm]; exact Nat.div_add_mod k sz, hk] at e1
            obtain rfl := Option.some.inj e1
            obtain ⟨u, hu2, hd⟩ := q3 _ _ hj
            refine ⟨u, ?_, hd⟩
            rw [add_none, add_none, Nat.add_assoc, show k / sz * sz + k % sz = k by rw [Nat.mul_comm]; exact Nat.div_add_mod k sz] at hu2
            exact hu2
          refine .sl sz xs bk off cap (fun k => (w.cell? ⟨bk, off + k, none⟩).getD undef) hlt (by omega) hl (fun k c hk => ?_) (fun k c hk => ?_) (fun k c hk => ?_)
          · obtain ⟨u, hu2, hd⟩ := hcell k c hk
            simp [hu2]
          · obtain ⟨u, hu2, hd⟩ := hcell k c hk
            simpa [hu2] using hd.2
          · obtain ⟨u, hu2, hd⟩ := hcell k c hk
            simpa [hu2] using hd.1
    · cases hT
  | .st fs, n, t, cs, x, hT, h => by
    simp only [TT.isAt] at hT
    split at hT
    · rename_i fl hu
      simp only [Bool.and_eq_true, beq_iff_eq] at hT
      obtain ⟨xs, m, _, _, hlen, hxl, hf⟩ := DataW.trod_struct hu h
      obtain ⟨avs, g1, g2, g3⟩ := trod_datL fs m fl.toList 0 cs hT.2 (fun i f hi => by
        rw [Array.getElem?_toList] at hi
        rw [hf i f hi]
        exact ⟨_, List.getElem?_eq_getElem (by rw [hxl]; exact (Array.getElem?_eq_some_iff.1 hi).1)⟩) (by omega)
      refine ⟨avs, g1, g2, ?_, fun k c hk => ?_⟩
      · rw [g2, hlen, hT.1]
      · obtain ⟨u, hu1, hd⟩ := g3 k c hk
        exact ⟨u, by simpa using hu1, hd⟩
    · cases hT
theorem trod_datL : ∀ (fs : List TT) (n : Nat) (fl : List Field) (off : Nat) (cs : List Value), TT.isL P fs fl off = true →
    (∀ (i : Nat) f, fl[i]? = some f → ∃ x, DataW.trod enc P w 0 (fun _ => true) held n f.type ((cs.drop f.offset).take (P.cellsOf f.type)) = some x) → off + TT.sizeL fs ≤ cs.length →
    ∃ avs, TT.fitL fs avs ∧ avs.length = TT.sizeL fs ∧ ∀ (k : Nat) c, avs[k]? = some c → ∃ u, cs[off + k]? = some u ∧ DatC (fun b => b < w.heap.size) w c u
  | [], n, fl, off, cs, _, _, _ => ⟨[], rfl, rfl, by simp⟩
  | f :: fs, n, [], off, cs, hT, _, _ => by simp [TT.isL] at hT
  | f :: fs, n, d :: ds, off, cs, hT, h, hl => by
    simp only [TT.isL, Bool.and_eq_true, beq_iff_eq] at hT
    obtain ⟨⟨⟨h1, h2⟩, h3⟩, h4⟩ := hT
    simp only [TT.sizeL] at hl
    obtain ⟨x, hx⟩ := h 0 d rfl
    obtain ⟨a, a1, a2, a3, a4⟩ := trod_dat f n d.type _ x h3 hx
    obtain ⟨b, b1, b2, b3⟩ := trod_datL fs n ds (off + f.size) cs h4 (fun i g hi => h (i + 1) g (by simpa using hi)) (by omega)
    refine ⟨a ++ b, ⟨a, b, rfl, a1, b1⟩, by simp [TT.sizeL, a2, b2], fun k c hk => ?_⟩
    by_cases hlt : k < a.length
    · rw [List.getElem?_append_left hlt] at hk
      obtain ⟨u, hu, hd⟩ := a4 k c hk
      rw [List.getElem?_take, if_pos (by omega), List.getElem?_drop, h1] at hu
      exact ⟨u, hu, hd⟩
    · rw [List.getElem?_append_right (by omega)] at hk
      obtain ⟨u, hu, hd⟩ := b3 _ c hk
      exact ⟨u, by rw [← hu]; congr 1; omega, hd⟩
end
end
end Go.AM
namespace Go.AM
open Go.RowKit Go.WideShapes

/-- A law that holds over data, called. -/
theorem Pure.calls {P : Program} {f : Nat} {args : List AV} {b : Bool} (h : Pure P f args (.b b)) {w : World} {vs : Array Value} (hl : args.length = vs.size) (hv : ∀ (k : Nat) c, args[k]? = some c → Dat (fun b => b < w.heap.size) w c (vs.getD k undef)) :
    Calls P f vs w fun e w' => e = .returned (.bool b) ∧ Below w.heap.size w w' := by
  refine (h.2 w (fun _ => 0) (fun _ => none) (fun bk => bk < w.heap.size) vs (rel_empty _ _ _ fun _ h => h) (by simp) hl (fun k c hk => (hv k c hk).val (E := ⟨w, fun _ => 0, fun _ => none, fun bk => bk < w.heap.size, St.ofBoxes [], #[]⟩) _)).mono ?_
  rintro e w' ⟨v, E', rfl, rfl, I, _, _, hr⟩
  refine ⟨by cases hr; rfl, I.fr.os.1, I.fr.tape, I.fr.output, I.fr.size, fun k hk => I.fr.block k hk (by simp)⟩

def TT.wrap : TT → List AV → AV
  | .st _, avs => .agg avs
  | _, avs => avs.getD 0 .any

theorem arg_dat {H : Type} {enc : TypeId × Value → H} {P : Program} {w : World} {held : Bool} {r : Reach} {b0 : Nat} {t : TypeId} {v : Value} {d : DataW H} {p : List MemPlace} (T : TT) (hT : T.isAt P t = true) (hval : Value.okWide P w r b0 t v)
    (h : DataW.Trod enc P w 0 (fun _ => true) held t v d p) : ∃ avs, T.fit avs ∧ Dat (fun b => b < w.heap.size) w (T.wrap avs) v := by
  obtain ⟨n, hn⟩ := h
  obtain ⟨avs, h1, h2, h3⟩ := trod_dat T n t _ _ hT hn
  refine ⟨avs, h1, ?_⟩
  have one : v.cells.toList = [v] → avs.length = 1 → Dat (fun b => b < w.heap.size) w (avs.getD 0 .any) v := by
    intro hc hl
    match avs, hl with
    | [c], _ =>
      obtain ⟨u, hu, hd⟩ := h3.2 0 c rfl
      rw [hc] at hu
      obtain rfl := Option.some.inj hu
      exact hd.1
  cases T with
  | int k =>
    simp only [TT.isAt] at hT
    split at hT
    · rename_i k' hu
      obtain ⟨n, rfl⟩ := okWide_int hu hval
      exact one rfl h2
    · cases hT
  | bool =>
    simp only [TT.isAt] at hT
    split at hT
    · rename_i hu
      obtain ⟨n, rfl⟩ := okWide_bool hu hval
      exact one rfl h2
    · cases hT
  | str =>
    simp only [TT.isAt] at hT
    split at hT
    · rename_i hu
      obtain ⟨n, rfl⟩ := okWide_string hu hval
      exact one rfl h2
    · cases hT
  | sl sz e =>
    simp only [TT.isAt] at hT
    split at hT
    · rename_i et hu
      obtain ⟨a, len, cap, rfl⟩ := okWide_slice hu hval
      exact one rfl h2
    · cases hT
  | st fs =>
    simp only [TT.isAt] at hT
    split at hT
    · rename_i fl hu
      simp only [Value.okWide, hu] at hval
      obtain ⟨cs, rfl, _, _⟩ := hval
      refine .agg _ cs (by rw [h3.1]; simp [Value.cells]) fun k c hk => ?_
      obtain ⟨u, hu, hd⟩ := h3.2 k c hk
      simp only [Value.cells, Array.getElem?_toList] at hu
      rw [Array.getD_eq_getD_getElem?, hu]
      exact hd.1
    · cases hT

theorem list_of {α : Type} {g : α → List AV} : ∀ {xs : List (List AV)}, (∀ x ∈ xs, ∃ a, x = g a) → ∃ l : List α, xs = l.map g
  | [], _ => ⟨[], rfl⟩
  | x :: xs, h => by
    obtain ⟨a, rfl⟩ := h x (by simp)
    obtain ⟨l, rfl⟩ := list_of (xs := xs) fun y hy => h y (by simp [hy])
    exact ⟨a :: l, rfl⟩
end Go.AM
