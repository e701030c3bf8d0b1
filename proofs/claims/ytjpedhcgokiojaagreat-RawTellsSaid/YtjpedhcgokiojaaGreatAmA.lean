/- The package variables that the program's calls look into: their blocks, and what is known of what they hold. No project text. -/
import Derived.Calls
import Derived.Laws.Sem
import Derived.Laws.Cells
import Derived.Laws.BytesArg
import Derived.Laws.CopyRow
set_option linter.unusedSimpArgs false
set_option linter.unusedVariables false
namespace Go.AM
def globs : List (Nat × (Obj → Prop)) := []
def sorts : Bool := true
theorem globs_nil : globs = [] := rfl
end Go.AM
namespace Go.AM
inductive Place where
 | slot (t : Nat) (path : List Nat)
 | cell (id off : Nat)
 | box (id : Nat)
 | no
 deriving DecidableEq
inductive Gh where
 | own | fro | nl | cut | vw (p : Place) (ex : Bool)
 deriving DecidableEq
inductive AV where
 | any
 | b (x : Bool)
 | i (k : IntKind) (n : Int)
 | s (x : ByteArray)
 | nil
 | nofn
 | ab (b off n cap : Nat)
 | mp (b : Nat)
 | it (b : Nat)
 | ptr (id off : Nat)
 | bs (id off n cap : Nat)
 | pt (g : Gh) (ix : Nat) (cells : List AV) (off : Nat)
 | fn (f : Nat) (first cap : List AV)
 | sl (g : Gh) (sz : Nat) (xs : List (List AV))
 | agg (cs : List AV)
 | tup (vs : List AV)
instance : Inhabited AV := ⟨.any⟩
def Place.sub : Place → Nat → Place
 | .slot t q, k => .slot t (q ++ [k])
 | _, _ => .no
structure St where
 slots : Nat → AV
 boxes : Nat → Option (List AV)
def AV.at : AV → List Nat → AV
 | x, [] => x
 | .agg l, k :: p => (l.getD k .any).at p
 | .tup l, k :: p => (l.getD k .any).at p
 | _, _ :: _ => .any
def vat : Value → List Nat → Option Value
 | v, [] => some v
 | .agg a, i :: p => vat (a.getD i undef) p
 | .tuple a, i :: p => vat (a.getD i undef) p
 | _, _ :: _ => none
structure Env where
 w : World
 β : Nat → Nat
 ω : Nat → Option Place
 Pub : Nat → Prop
 st : St
 tm : Array Value
def St.abs (st : St) : Place → AV
 | .slot t p => (st.slots t).at p
 | .cell id off => ((st.boxes id).getD []).getD off .any
 | _ => .any
def Env.con (E : Env) : Place → Option Value
 | .slot t p => vat (E.tm.getD t undef) p
 | .cell id off => E.w.cell? ⟨E.β id, off, none⟩
 | _ => none
inductive Dat (Pub : Nat → Prop) (w : World) : AV → Value → Prop
 | b (x : Bool) : Dat Pub w (.b x) (.bool x)
 | i (k : IntKind) (n : Int) : Dat Pub w (.i k n) (.int k n)
 | s (x : ByteArray) : Dat Pub w (.s x) (.string x)
 | nil : Dat Pub w .nil (.pointer none)
 | nofn : Dat Pub w .nofn .nilFunc
 | ab (b off n cap : Nat) : Dat Pub w (.ab b off n cap) (.slice (some ⟨b, off, none⟩) n cap)
 | mp (b : Nat) : Dat Pub w (.mp b) (.map (some b))
 | it (b : Nat) : Dat Pub w (.it b) (.pointer (some ⟨b, 0, none⟩))
 | sl0 (sz : Nat) : Dat Pub w (.sl .fro sz []) (.slice none 0 0)
 | sl1 (sz : Nat) (a : Addr) (cap : Nat) : Dat Pub w (.sl .fro sz []) (.slice (some a) 0 cap)
 | sl (sz : Nat) (xs : List (List AV)) (bk off cap : Nat) (U : Nat → Value) : Pub bk → xs.length ≤ cap → (∀ x ∈ xs, x.length = sz) →
   (∀ k c, xs.flatten[k]? = some c → w.cell? ⟨bk, off + k, none⟩ = some (U k)) → (∀ k c, xs.flatten[k]? = some c → (U k).oneCell' = true) → (∀ k c, xs.flatten[k]? = some c → Dat Pub w c (U k)) →
   Dat Pub w (.sl .fro sz xs) (.slice (some ⟨bk, off, none⟩) xs.length cap)
 | agg (cs : List AV) (arr : Array Value) : cs.length = arr.size → (∀ k c, cs[k]? = some c → Dat Pub w c (arr.getD k undef)) → Dat Pub w (.agg cs) (.agg arr)
def DatC (Pub : Nat → Prop) (w : World) (c : AV) (u : Value) : Prop := Dat Pub w c u ∧ u.oneCell' = true
def Cells (Pub : Nat → Prop) (w : World) (bk off : Nat) (cs : List AV) : Prop :=
 ∀ k c, cs[k]? = some c → ∃ u, w.cell? ⟨bk, off + k, none⟩ = some u ∧ DatC Pub w c u
def Row (Pub : Nat → Prop) (w : World) (bk off sz : Nat) (xs : List (List AV)) : Prop :=
 (∀ x ∈ xs, x.length = sz) ∧ Cells Pub w bk off xs.flatten
def Room (w : World) (bk off n : Nat) : Prop :=
 ∃ cs T, w.heap[bk]? = some (.cells cs T (0, 0)) ∧ off = 0 ∧ cs.size = n
def GhOk (E : Env) (p : Place) (sz : Nat) (xs : List (List AV)) (v : Value) (bk off cap : Nat) : Gh → Prop
 | .fro => E.Pub bk
 | .own => E.ω bk = some p ∧ Room E.w bk off (cap * sz)
 | .nl => False
 | .cut => E.Pub bk ∧ cap = xs.length
 | .vw q ex => E.ω bk = some q ∧ (ex = true → E.con q = some v ∧ E.st.abs q = .sl .own sz xs)
def GhAt (E : Env) : Gh → Prop
 | .vw q _ => ∃ sz xs, E.st.abs q = .sl .own sz xs
 | _ => True
inductive Val (E : Env) : Place → AV → Value → Prop
 | any (p v) : Val E p .any v
 | b (p x) : Val E p (.b x) (.bool x)
 | i (p k n) : Val E p (.i k n) (.int k n)
 | s (p x) : Val E p (.s x) (.string x)
 | nil (p) : Val E p .nil (.pointer none)
 | nofn (p) : Val E p .nofn .nilFunc
 | ab (p b off n cap) : Val E p (.ab b off n cap) (.slice (some ⟨b, off, none⟩) n cap)
 | mp (p b) : Val E p (.mp b) (.map (some b))
 | it (p b) : Val E p (.it b) (.pointer (some ⟨b, 0, none⟩))
 | ptr (p id off) : Val E p (.ptr id off) (.pointer (some ⟨E.β id, off, none⟩))
 | bs (p id off n cap) : Val E p (.bs id off n cap) (.slice (some ⟨E.β id, off, none⟩) n cap)
 | pt (p g ix cells off bk o) : Cells E.Pub E.w bk o cells → (match g with
   | .fro => E.Pub bk
   | .own | .nl | .cut => False
   | .vw q ex => E.ω bk = some q ∧ (ex = true → ∃ sz xs o' cap, E.con q = some (.slice (some ⟨bk, o', none⟩) xs.length cap) ∧ E.st.abs q = .sl .own sz xs ∧ xs[ix]? = some cells ∧ o = o' + ix * sz)) →
   GhAt E g → Val E p (.pt g ix cells off) (.pointer (some ⟨bk, o + off, none⟩))
 | fn (p f fi ca) (fi' ca' : Array Value) : fi.length = fi'.size → ca.length = ca'.size → (∀ k c, fi[k]? = some c → Val E .no c (fi'.getD k undef)) →
   (∀ k c, ca[k]? = some c → Val E .no c (ca'.getD k undef)) → Val E p (.fn f fi ca) (.func (.func f) fi' ca')
 | sl1 (p sz a cap) : Val E p (.sl .fro sz []) (.slice (some a) 0 cap)
 | sl2 (p sz a) : Val E p (.sl .cut sz []) (.slice (some a) 0 0)
 | sl0 (p g sz) : (∀ q, g = .vw q true → E.con q = some (.slice none 0 0) ∧ E.st.abs q = .sl .own sz []) → GhAt E g → Val E p (.sl g sz []) (.slice none 0 0)
 | sl (p g sz xs bk off cap) : xs.length ≤ cap → Row E.Pub E.w bk off sz xs → GhOk E p sz xs (.slice (some ⟨bk, off, none⟩) xs.length cap) bk off cap g → GhAt E g →
   Val E p (.sl g sz xs) (.slice (some ⟨bk, off, none⟩) xs.length cap)
 | agg (p cs) (arr : Array Value) : cs.length = arr.size → (∀ k c, cs[k]? = some c → Val E (p.sub k) c (arr.getD k undef)) → Val E p (.agg cs) (.agg arr)
 | tup (p vs) (arr : Array Value) : vs.length = arr.size → (∀ k c, vs[k]? = some c → Val E (p.sub k) c (arr.getD k undef)) → Val E p (.tup vs) (.tuple arr)
def parkM : Nat := 1000000
def Gl (Pub : Nat → Prop) (w : World) : Prop := ∀ x ∈ globs, Pub x.1 ∧ ∃ o, w.heap[x.1]? = some o ∧ x.2 o
theorem Gl.none {Pub : Nat → Prop} {w : World} (h : globs = []) : Gl Pub w := fun x hx => by rw [h] at hx; cases hx
structure Rel (N : Nat) (E : Env) : Prop where
 size : E.tm.size = N
 slots : ∀ t, Val E (.slot t []) (E.st.slots t) (E.tm.getD t undef)
 boxes : ∀ id cs, E.st.boxes id = some cs → E.ω (E.β id) = some (.box id) ∧ ∃ arr T, E.w.heap[E.β id]? = some (.cells arr T (0, 0)) ∧ arr.size = cs.length ∧
  ∀ j c, cs[j]? = some c → Val E (.cell id j) c (arr.getD j undef)
 pub : ∀ bk, E.Pub bk → bk < E.w.heap.size ∧ E.ω bk = none
 own : ∀ bk q, E.ω bk = some q → bk < E.w.heap.size
 abs : ∀ id, (E.st.boxes id).isSome = true → parkM ≤ id → E.β id + parkM = id
 gl : Gl E.Pub E.w
structure Start where
 w0 : World
 own0 : Nat → Prop
 Pub0 : Nat → Prop
 β0 : Nat → Nat
 k : Nat
def SameOs (w w0 : World) : Prop := w.os = w0.os ∧ (sorts = true → w0.drawn ≤ w.drawn)
theorem SameOs.trans {a b c : World} (h1 : SameOs a b) (h2 : SameOs b c) : SameOs a c := ⟨h1.1.trans h2.1, fun h => Nat.le_trans (h2.2 h) (h1.2 h)⟩
theorem SameOs.refl (a : World) : SameOs a a := ⟨rfl, fun _ => Nat.le_refl _⟩
structure Fr (S : Start) (E : Env) : Prop where
 os : SameOs E.w S.w0
 tape : E.w.tape = S.w0.tape
 output : E.w.output = S.w0.output
 size : S.w0.heap.size ≤ E.w.heap.size
 block : ∀ k, k < S.w0.heap.size → ¬ S.own0 k → E.w.heap[k]? = S.w0.heap[k]?
 own : ∀ k q, E.ω k = some q → S.w0.heap.size ≤ k ∨ S.own0 k
 pub0 : ∀ bk, S.Pub0 bk → E.Pub bk
 pub1 : ∀ bk, E.Pub bk → S.Pub0 bk ∨ S.w0.heap.size ≤ bk ∨ S.own0 bk
 beta : ∀ id, id < S.k → E.β id = S.β0 id
theorem Dat.mono {Pub Pub' : Nat → Prop} {w w' : World} (h : ∀ bk, Pub bk → Pub' bk ∧ w'.heap[bk]? = w.heap[bk]?) {x : AV} {v : Value} (hd : Dat Pub w x v) : Dat Pub' w' x v := by
 induction hd with
 | b x => exact .b x
 | i k n => exact .i k n
 | s x => exact .s x
 | nil => exact .nil
 | nofn => exact .nofn
 | ab => exact .ab _ _ _ _
 | mp => exact .mp _
 | it => exact .it _
 | sl0 sz => exact .sl0 sz
 | sl1 sz a cap => exact .sl1 sz a cap
 | sl sz xs bk off cap U hp hc hl hU h1 _ ih =>
  refine .sl sz xs bk off cap U (h bk hp).1 hc hl (fun k c hk => ?_) h1 ih
  have := hU k c hk
  simpa [World.cell?, (h bk hp).2] using this
 | agg cs arr hs _ ih => exact .agg cs arr hs ih
theorem DatC.mono {Pub Pub' : Nat → Prop} {w w' : World} (h : ∀ bk, Pub bk → Pub' bk ∧ w'.heap[bk]? = w.heap[bk]?) {x : AV} {v : Value} (hd : DatC Pub w x v) : DatC Pub' w' x v := ⟨hd.1.mono h, hd.2⟩
theorem cell_same {w w' : World} {bk off : Nat} (h : w'.heap[bk]? = w.heap[bk]?) : w'.cell? ⟨bk, off, none⟩ = w.cell? ⟨bk, off, none⟩ := by
 simp [World.cell?, h]
theorem Gl.mono {Pub Pub' : Nat → Prop} {w w' : World} (h : ∀ bk, Pub bk → Pub' bk ∧ w'.heap[bk]? = w.heap[bk]?) (g : Gl Pub w) : Gl Pub' w' := fun x hx => by
 obtain ⟨h1, v, h2, h3⟩ := g x hx
 exact ⟨(h _ h1).1, v, (h _ h1).2.trans h2, h3⟩
theorem Cells.mono {Pub Pub' : Nat → Prop} {w w' : World} {bk off : Nat} {cs : List AV} (h : ∀ bk, Pub bk → Pub' bk ∧ w'.heap[bk]? = w.heap[bk]?) (hb : w'.heap[bk]? = w.heap[bk]?)
  (hc : Cells Pub w bk off cs) : Cells Pub' w' bk off cs := fun k c hk => by
 obtain ⟨u, hu, hd⟩ := hc k c hk
 exact ⟨u, by rw [cell_same hb]; exact hu, hd.mono h⟩
theorem Row.mono {Pub Pub' : Nat → Prop} {w w' : World} {bk off sz : Nat} {xs : List (List AV)} (h : ∀ bk, Pub bk → Pub' bk ∧ w'.heap[bk]? = w.heap[bk]?) (hb : w'.heap[bk]? = w.heap[bk]?)
  (hr : Row Pub w bk off sz xs) : Row Pub' w' bk off sz xs := ⟨hr.1, hr.2.mono h hb⟩
theorem Room.mono {w w' : World} {bk off n : Nat} (hb : w'.heap[bk]? = w.heap[bk]?) (h : Room w bk off n) : Room w' bk off n := by
 obtain ⟨cs, T, h1, h2⟩ := h
 exact ⟨cs, T, by rw [hb]; exact h1, h2⟩
inductive Leans (SP : Place → Prop) (SB : Nat → Prop) : Place → AV → Prop
 | any (p) : Leans SP SB p .any
 | b (p x) : Leans SP SB p (.b x)
 | i (p k n) : Leans SP SB p (.i k n)
 | s (p x) : Leans SP SB p (.s x)
 | nil (p) : Leans SP SB p .nil
 | nofn (p) : Leans SP SB p .nofn
 | ab (p b off n cap) : Leans SP SB p (.ab b off n cap)
 | mp (p b) : Leans SP SB p (.mp b)
 | it (p b) : Leans SP SB p (.it b)
 | ptr (p id off) : SB id → Leans SP SB p (.ptr id off)
 | bs (p id off n cap) : SB id → Leans SP SB p (.bs id off n cap)
 | pt (p g ix cells off) : (∀ q ex, g = .vw q ex → SP q) → Leans SP SB p (.pt g ix cells off)
 | fn (p f fi ca) : (∀ c ∈ fi, Leans SP SB .no c) → (∀ c ∈ ca, Leans SP SB .no c) → Leans SP SB p (.fn f fi ca)
 | sl (p g sz xs) : (∀ q ex, g = .vw q ex → SP q) → (g = .own → SP p) → Leans SP SB p (.sl g sz xs)
 | agg (p cs) : (∀ k c, cs[k]? = some c → Leans SP SB (p.sub k) c) → Leans SP SB p (.agg cs)
 | tup (p cs) : (∀ k c, cs[k]? = some c → Leans SP SB (p.sub k) c) → Leans SP SB p (.tup cs)
structure Stays (SP : Place → Prop) (SB : Nat → Prop) (E E' : Env) : Prop where
 pub : ∀ bk, E.Pub bk → E'.Pub bk ∧ E'.w.heap[bk]? = E.w.heap[bk]?
 own : ∀ bk q, SP q → E.ω bk = some q → E'.ω bk = some q ∧ E'.w.heap[bk]? = E.w.heap[bk]?
 beta : ∀ id, SB id → E'.β id = E.β id
 con : ∀ q u sz xs, SP q → E.st.abs q = .sl .own sz xs → E.con q = some u → E'.con q = some u
 abs : ∀ q sz xs, SP q → E.st.abs q = .sl .own sz xs → E'.st.abs q = .sl .own sz xs
theorem GhAt.mono {SP SB} {E E' : Env} (h : Stays SP SB E E') {g : Gh} (hg : ∀ q ex, g = .vw q ex → SP q) (hat : GhAt E g) : GhAt E' g := by
 cases g with
 | own => trivial
 | fro => trivial
 | cut => trivial
 | nl => trivial
 | vw q ex =>
  obtain ⟨sz, xs, h1⟩ := hat
  exact ⟨sz, xs, h.abs q _ _ (hg q ex rfl) h1⟩
theorem Val.mono {SP SB} {E E' : Env} (h : Stays SP SB E E') {p : Place} {x : AV} {v : Value} (hv : Val E p x v) : Leans SP SB p x → Val E' p x v := by
 induction hv with
 | any p v => exact fun _ => .any p v
 | b p x => exact fun _ => .b p x
 | i p k n => exact fun _ => .i p k n
 | s p x => exact fun _ => .s p x
 | nil p => exact fun _ => .nil p
 | nofn p => exact fun _ => .nofn p
 | ab p b0 o0 n0 c0 => exact fun _ => .ab p b0 o0 n0 c0
 | mp p b0 => exact fun _ => .mp p b0
 | it p b0 => exact fun _ => .it p b0
 | bs p id off n cap =>
  intro hl
  cases hl with
  | bs _ _ _ _ _ hb => rw [← h.beta id hb]; exact .bs p id off n cap
 | ptr p id off =>
  intro hl
  cases hl with
  | ptr _ _ _ hb => rw [← h.beta id hb]; exact .ptr p id off
 | pt p g ix cells off bk o hc hg hat =>
  intro hl
  cases hl with
  | pt _ _ _ _ _ hq =>
   cases g with
   | own => exact hg.elim
   | nl => exact hg.elim
   | cut => exact hg.elim
   | fro =>
    have hp := h.pub bk hg
    exact .pt p .fro ix cells off bk o (hc.mono h.pub hp.2) hp.1 trivial
   | vw q ex =>
    have hs := hq q ex rfl
    have ho := h.own bk q hs hg.1
    refine .pt p (.vw q ex) ix cells off bk o (hc.mono h.pub ho.2) ⟨ho.1, fun he => ?_⟩ (hat.mono h hq)
    obtain ⟨sz, xs, o', cap, h1, h2, h3⟩ := hg.2 he
    exact ⟨sz, xs, o', cap, h.con q _ _ _ hs h2 h1, h.abs q _ _ hs h2, h3⟩
 | fn p f fi ca fi' ca' h1 h2 _ _ ih1 ih2 =>
  intro hl
  cases hl with
  | fn _ _ _ _ l1 l2 => exact .fn p f fi ca fi' ca' h1 h2 (fun k c hk => ih1 k c hk (l1 c (List.mem_of_getElem? hk))) (fun k c hk => ih2 k c hk (l2 c (List.mem_of_getElem? hk)))
 | sl1 p sz a cap => exact fun _ => .sl1 p sz a cap
 | sl2 p sz a => exact fun _ => .sl2 p sz a
 | sl0 p g sz h0 hat =>
  intro hl
  cases hl with
  | sl _ _ _ _ hq hp =>
   refine .sl0 p g sz (fun q he => ?_) (hat.mono h hq)
   have hs := hq q true he
   have := h0 q he
   exact ⟨h.con q _ _ _ hs this.2 this.1, h.abs q _ _ hs this.2⟩
 | sl p g sz xs bk off cap hc hr hg hat =>
  intro hl
  cases hl with
  | sl _ _ _ _ hq hp =>
   cases g with
   | nl => exact hg.elim
   | cut =>
    have hpb := h.pub bk hg.1
    exact .sl p .cut sz xs bk off cap hc (hr.mono h.pub hpb.2) ⟨hpb.1, hg.2⟩ trivial
   | fro =>
    have hpb := h.pub bk hg
    exact .sl p .fro sz xs bk off cap hc (hr.mono h.pub hpb.2) hpb.1 trivial
   | own =>
    have ho := h.own bk p (hp rfl) hg.1
    exact .sl p .own sz xs bk off cap hc (hr.mono h.pub ho.2) ⟨ho.1, hg.2.mono ho.2⟩ trivial
   | vw q ex =>
    have hs := hq q ex rfl
    have ho := h.own bk q hs hg.1
    refine .sl p (.vw q ex) sz xs bk off cap hc (hr.mono h.pub ho.2) ⟨ho.1, fun he => ?_⟩ (hat.mono h hq)
    obtain ⟨h1, h2⟩ := hg.2 he
    exact ⟨h.con q _ _ _ hs h2 h1, h.abs q _ _ hs h2⟩
 | agg p cs arr h1 _ ih =>
  intro hl
  cases hl with
  | agg _ _ hk => exact .agg p cs arr h1 fun k c hc => ih k c hc (hk k c hc)
 | tup p cs arr h1 _ ih =>
  intro hl
  cases hl with
  | tup _ _ hk => exact .tup p cs arr h1 fun k c hc => ih k c hc (hk k c hc)
end Go.AM
namespace Go.AM
mutual
def AV.tr (h : Place → AV → AV) : Place → AV → AV
 | p, .agg cs => .agg (AV.trL h p 0 cs)
 | p, .tup cs => .tup (AV.trL h p 0 cs)
 | _, .fn f fi ca => .fn f (AV.trN h fi) (AV.trN h ca)
 | p, x => h p x
def AV.trL (h : Place → AV → AV) : Place → Nat → List AV → List AV
 | _, _, [] => []
 | p, k, x :: xs => AV.tr h (p.sub k) x :: AV.trL h p (k + 1) xs
def AV.trN (h : Place → AV → AV) : List AV → List AV
 | [] => []
 | x :: xs => AV.tr h .no x :: AV.trN h xs
end
def AV.trC (h : Place → AV → AV) (id : Nat) : Nat → List AV → List AV
 | _, [] => []
 | k, x :: xs => AV.tr h (.cell id k) x :: AV.trC h id (k + 1) xs
def St.tr (h : Place → AV → AV) (st : St) : St :=
 { slots := fun t => (st.slots t).tr h (.slot t []), boxes := fun id => (st.boxes id).map (AV.trC h id 0) }
theorem AV.trL_get (h : Place → AV → AV) (p : Place) : ∀ (cs : List AV) (k j : Nat), (AV.trL h p k cs)[j]? = (cs[j]?).map fun c => c.tr h (p.sub (k + j))
 | [], k, j => by simp [AV.trL]
 | x :: xs, k, 0 => by simp [AV.trL]
 | x :: xs, k, j + 1 => by
  have := AV.trL_get h p xs (k + 1) j
  simp only [AV.trL, List.getElem?_cons_succ, this]
  congr 2; funext c; congr 2; omega
theorem AV.trN_get (h : Place → AV → AV) : ∀ (cs : List AV) (j : Nat), (AV.trN h cs)[j]? = (cs[j]?).map fun c => c.tr h .no
 | [], j => by simp [AV.trN]
 | x :: xs, 0 => by simp [AV.trN]
 | x :: xs, j + 1 => by simpa [AV.trN] using AV.trN_get h xs j
theorem AV.trC_get (h : Place → AV → AV) (id : Nat) : ∀ (cs : List AV) (k j : Nat), (AV.trC h id k cs)[j]? = (cs[j]?).map fun c => c.tr h (.cell id (k + j))
 | [], k, j => by simp [AV.trC]
 | x :: xs, k, 0 => by simp [AV.trC]
 | x :: xs, k, j + 1 => by
  have := AV.trC_get h id xs (k + 1) j
  simp only [AV.trC, List.getElem?_cons_succ, this]
  congr 2; funext c; congr 2; omega
theorem AV.trL_length (h : Place → AV → AV) (p : Place) : ∀ (cs : List AV) (k : Nat), (AV.trL h p k cs).length = cs.length
 | [], _ => rfl
 | x :: xs, k => by simp [AV.trL, AV.trL_length h p xs (k + 1)]
theorem AV.trN_length (h : Place → AV → AV) : ∀ (cs : List AV), (AV.trN h cs).length = cs.length
 | [] => rfl
 | x :: xs => by simp [AV.trN, AV.trN_length h xs]
theorem AV.trC_length (h : Place → AV → AV) (id : Nat) : ∀ (cs : List AV) (k : Nat), (AV.trC h id k cs).length = cs.length
 | [], _ => rfl
 | x :: xs, k => by simp [AV.trC, AV.trC_length h id xs (k + 1)]
def AV.leaf : AV → Bool
 | .agg _ | .tup _ | .fn _ _ _ => false
 | _ => true
theorem AV.tr_leaf {h : Place → AV → AV} {p : Place} {x : AV} (hx : x.leaf = true) : x.tr h p = h p x := by
 cases x <;> simp_all [AV.leaf, AV.tr]
theorem getD_get {cs : List AV} {k : Nat} {c : AV} (h : cs[k]? = some c) : cs.getD k .any = c := by simp [List.getD_eq_getElem?_getD, h]
theorem Val.tr {E E' : Env} {h : Place → AV → AV} (hl : ∀ p x v, x.leaf = true → Val E p x v → Val E' p (h p x) v) {p : Place} {x : AV} {v : Value} (hv : Val E p x v) : Val E' p (x.tr h p) v := by
 induction hv with
 | any p v => rw [AV.tr_leaf rfl]; exact hl _ _ _ rfl (.any p v)
 | b p x => rw [AV.tr_leaf rfl]; exact hl _ _ _ rfl (.b p x)
 | i p k n => rw [AV.tr_leaf rfl]; exact hl _ _ _ rfl (.i p k n)
 | s p x => rw [AV.tr_leaf rfl]; exact hl _ _ _ rfl (.s p x)
 | nil p => rw [AV.tr_leaf rfl]; exact hl _ _ _ rfl (.nil p)
 | nofn p => rw [AV.tr_leaf rfl]; exact hl _ _ _ rfl (.nofn p)
 | ab p b0 o0 n0 c0 => rw [AV.tr_leaf rfl]; exact hl _ _ _ rfl (.ab p b0 o0 n0 c0)
 | mp p b0 => rw [AV.tr_leaf rfl]; exact hl _ _ _ rfl (.mp p b0)
 | it p b0 => rw [AV.tr_leaf rfl]; exact hl _ _ _ rfl (.it p b0)
 | ptr p id off => rw [AV.tr_leaf rfl]; exact hl _ _ _ rfl (.ptr p id off)
 | bs p id off n cap => rw [AV.tr_leaf rfl]; exact hl _ _ _ rfl (.bs p id off n cap)
 | pt p g ix cells off bk o hc hg hat => rw [AV.tr_leaf rfl]; exact hl _ _ _ rfl (.pt p g ix cells off bk o hc hg hat)
 | sl1 p sz a cap => rw [AV.tr_leaf rfl]; exact hl _ _ _ rfl (.sl1 p sz a cap)
 | sl2 p sz a => rw [AV.tr_leaf rfl]; exact hl _ _ _ rfl (.sl2 p sz a)
 | sl0 p g sz h0 hat => rw [AV.tr_leaf rfl]; exact hl _ _ _ rfl (.sl0 p g sz h0 hat)
 | sl p g sz xs bk off cap hc hr hg hat => rw [AV.tr_leaf rfl]; exact hl _ _ _ rfl (.sl p g sz xs bk off cap hc hr hg hat)
 | fn p f fi ca fi' ca' h1 h2 _ _ ih1 ih2 =>
  rw [AV.tr]
  refine .fn p f _ _ fi' ca' (by rw [AV.trN_length]; exact h1) (by rw [AV.trN_length]; exact h2) (fun k c hk => ?_) (fun k c hk => ?_)
  ·rw [AV.trN_get] at hk
   obtain ⟨c', hc, rfl⟩ := Option.map_eq_some_iff.1 hk
   exact ih1 k c' hc
  ·rw [AV.trN_get] at hk
   obtain ⟨c', hc, rfl⟩ := Option.map_eq_some_iff.1 hk
   exact ih2 k c' hc
 | agg p cs arr h1 _ ih =>
  rw [AV.tr]
  refine .agg p _ arr (by rw [AV.trL_length]; exact h1) (fun k c hk => ?_)
  rw [AV.trL_get] at hk
  obtain ⟨c', hc, rfl⟩ := Option.map_eq_some_iff.1 hk
  simpa using ih k c' hc
 | tup p cs arr h1 _ ih =>
  rw [AV.tr]
  refine .tup p _ arr (by rw [AV.trL_length]; exact h1) (fun k c hk => ?_)
  rw [AV.trL_get] at hk
  obtain ⟨c', hc, rfl⟩ := Option.map_eq_some_iff.1 hk
  simpa using ih k c' hc
def Place.subs : Place → List Nat → Place
 | p, [] => p
 | p, k :: π => (p.sub k).subs π
theorem AV.at_any : ∀ π, AV.at .any π = .any
 | [] => rfl
 | _ :: _ => rfl
theorem AV.at_tr {h : Place → AV → AV} (ha : ∀ p, h p .any = .any) (hlf : ∀ p x, x.leaf = true → (h p x).leaf = true) : ∀ (π : List Nat) (x : AV) (p : Place), (x.tr h p).at π = (x.at π).tr h (p.subs π)
 | [], x, p => by cases x <;> rfl
 | k :: π, x, p => by
  cases hx : x.leaf
  ·cases x with
   | agg cs =>
    simp only [AV.tr, AV.at, Place.subs]
    rw [← AV.at_tr ha hlf π]
    congr 1
    simp only [List.getD_eq_getElem?_getD, AV.trL_get]
    cases hk : cs[k]? with
    | none => simp [AV.tr, ha]
    | some c => simp
   | tup cs =>
    simp only [AV.tr, AV.at, Place.subs]
    rw [← AV.at_tr ha hlf π]
    congr 1
    simp only [List.getD_eq_getElem?_getD, AV.trL_get]
    cases hk : cs[k]? with
    | none => simp [AV.tr, ha]
    | some c => simp
   | fn f fi ca => simp [AV.tr, AV.at, ha]
   | _ => simp [AV.leaf] at hx
  ·rw [AV.tr_leaf hx]
   have h1 : (h p x).at (k :: π) = .any := by
    have := hlf p x hx
    cases hh : h p x <;> simp_all [AV.leaf, AV.at]
   have h2 : x.at (k :: π) = .any := by cases x <;> simp_all [AV.leaf, AV.at]
   rw [h1, h2, AV.tr_leaf rfl, ha]
theorem subs_slot (t : Nat) : ∀ (π q : List Nat), (Place.slot t q).subs π = .slot t (q ++ π)
 | [], q => by simp [Place.subs]
 | k :: π, q => by simp [Place.subs, Place.sub, subs_slot t π]
def killLeaf (S : Place → Bool) (_ : Place) : AV → AV
 | .sl (.vw q ex) sz xs => if S q then .any else .sl (.vw q ex) sz xs
 | .pt (.vw q ex) ix cs off => if S q then .any else .pt (.vw q ex) ix cs off
 | x => x
def killBLeaf (id : Nat) (_ : Place) : AV → AV
 | .ptr id' off => if id' = id then .any else .ptr id' off
 | .bs id' off n cap => if id' = id then .any else .bs id' off n cap
 | x => x
def fzLeaf (F : Place → Bool) (p : Place) : AV → AV
 | .sl .own sz xs => if F p then .sl .fro sz xs else .sl .own sz xs
 | .sl (.vw q ex) sz xs => if F q then .sl .fro sz xs else .sl (.vw q ex) sz xs
 | .pt (.vw q ex) ix cs off => if F q then .pt .fro ix cs off else .pt (.vw q ex) ix cs off
 | x => x
def St.fz (F : Place → Bool) (st : St) : St := st.tr (fzLeaf F)
def St.kill (S : Place → Bool) (st : St) : St := st.tr (killLeaf S)
def St.killB (id : Nat) (st : St) : St := st.tr (killBLeaf id)
theorem killBLeaf_leaf (id) (p : Place) (x : AV) (h : x.leaf = true) : (killBLeaf id p x).leaf = true := by
 unfold killBLeaf; split <;> (try split) <;> first | rfl | exact h
theorem fzLeaf_leaf (F) (p : Place) (x : AV) (h : x.leaf = true) : (fzLeaf F p x).leaf = true := by
 unfold fzLeaf; split <;> (try split) <;> first | rfl | exact h
theorem St.abs_tr {h : Place → AV → AV} (ha : ∀ p, h p .any = .any) (hlf : ∀ p x, x.leaf = true → (h p x).leaf = true) (st : St) (q : Place) :
  (st.tr h).abs q = (match q with | .slot t π => (st.abs q).tr h (.slot t π) | .cell id off => (st.abs q).tr h (.cell id off) | _ => .any) := by
 cases q with
 | slot t π => simp only [St.abs, St.tr]; rw [AV.at_tr ha hlf, subs_slot]; simp
 | cell id off =>
  simp only [St.abs, St.tr]
  cases hb : st.boxes id with
  | none => simp [AV.tr, ha]
  | some cs =>
   simp only [Option.map_some, Option.getD_some, List.getD_eq_getElem?_getD, AV.trC_get]
   cases hk : cs[off]? with
   | none => simp [AV.tr, ha]
   | some c => simp
 | _ => rfl
theorem Rel.tr {N : Nat} {E : Env} (R : Rel N E) {h : Place → AV → AV} (ω' : Nat → Option Place) (Pub' : Nat → Prop)
  (hl : ∀ p x v, x.leaf = true → Val E p x v → Val { E with st := E.st.tr h, ω := ω', Pub := Pub' } p (h p x) v)
  (hb : ∀ bk id, E.ω bk = some (.box id) → ω' bk = some (.box id))
  (hp : ∀ bk, Pub' bk → bk < E.w.heap.size ∧ ω' bk = none) (ho : ∀ bk q, ω' bk = some q → bk < E.w.heap.size) (hg : ∀ bk, E.Pub bk → Pub' bk) : Rel N { E with st := E.st.tr h, ω := ω', Pub := Pub' } where
 size := R.size
 slots t := (R.slots t).tr hl
 boxes id cs hcs := by
  simp only [St.tr, Option.map_eq_some_iff] at hcs
  obtain ⟨cs0, h0, rfl⟩ := hcs
  obtain ⟨h1, arr, T, h2, h3, h4⟩ := R.boxes id cs0 h0
  refine ⟨hb _ _ h1, arr, T, h2, by rw [AV.trC_length]; exact h3, fun j c hj => ?_⟩
  rw [AV.trC_get] at hj
  obtain ⟨c', hc, rfl⟩ := Option.map_eq_some_iff.1 hj
  have := (h4 j c' hc).tr hl
  simpa using this
 pub := hp
 own := ho
 abs id h hm := R.abs id (by simpa [St.tr] using h) hm
 gl := R.gl.mono fun bk h => ⟨hg bk h, rfl⟩
theorem Rel.killB {N : Nat} {E : Env} (R : Rel N E) (id : Nat) : Rel N { E with st := E.st.killB id } := by
 have habs : ∀ q sz xs, E.st.abs q = .sl .own sz xs → (E.st.killB id).abs q = .sl .own sz xs := by
  intro q sz xs hq
  unfold St.killB
  rw [St.abs_tr (fun _ => rfl) (killBLeaf_leaf id)]
  cases q with
  | slot t π => simp only []; rw [hq, AV.tr_leaf rfl]; rfl
  | cell id off => simp only []; rw [hq, AV.tr_leaf rfl]; rfl
  | box id => simp [St.abs] at hq
  | no => simp [St.abs] at hq
 refine R.tr (h := killBLeaf id) E.ω E.Pub ?_ (fun _ _ h => h) R.pub R.own (fun _ h => h)
 intro p x v hx hv
 have hat : ∀ g, GhAt E g → GhAt { E with st := E.st.killB id } g := by
  intro g hg
  cases g with
  | own => trivial
  | fro => trivial
  | cut => trivial
  | nl => trivial
  | vw q ex => obtain ⟨sz, xs, h1⟩ := hg; exact ⟨sz, xs, habs _ _ _ h1⟩
 cases hv with
 | any => exact .any _ _
 | b => exact .b _ _
 | i => exact .i _ _ _
 | s => exact .s _ _
 | nil => exact .nil _
 | nofn => exact .nofn _
 | ab => exact .ab _ _ _ _ _
 | mp => exact .mp _ _
 | it => exact .it _ _
 | ptr _ id' off =>
  simp only [killBLeaf]
  split
  ·exact .any _ _
  ·exact .ptr _ _ _
 | bs _ id' off n cap =>
  simp only [killBLeaf]
  split
  ·exact .any _ _
  ·exact .bs _ _ _ _ _
 | pt _ g ix cells off bk o hc hg ha =>
  refine .pt _ g ix cells off bk o hc ?_ (hat _ ha)
  cases g with
  | own => exact hg
  | nl => exact hg
  | fro => exact hg
  | cut => exact hg
  | vw q ex =>
   refine ⟨hg.1, fun he => ?_⟩
   obtain ⟨sz, xs, o', cap, h1, h2, h3⟩ := hg.2 he
   exact ⟨sz, xs, o', cap, h1, habs _ _ _ h2, h3⟩
 | sl1 _ sz a cap => exact .sl1 _ sz a cap
 | sl2 _ sz a => exact .sl2 _ sz a
 | sl0 _ g sz h0 ha => exact .sl0 _ _ _ (fun q' he => ⟨(h0 q' he).1, habs _ _ _ (h0 q' he).2⟩) (hat _ ha)
 | sl _ g sz xs bk off cap hc hr hg ha =>
  refine .sl _ g sz xs bk off cap hc hr ?_ (hat _ ha)
  cases g with
  | own => exact hg
  | nl => exact hg
  | fro => exact hg
  | cut => exact hg
  | vw q ex => exact ⟨hg.1, fun he => ⟨(hg.2 he).1, habs _ _ _ (hg.2 he).2⟩⟩
 | fn => simp [AV.leaf] at hx
 | agg => simp [AV.leaf] at hx
 | tup => simp [AV.leaf] at hx
def Env.fz (E : Env) (F : Place → Bool) : Env :=
 { E with st := E.st.fz F, ω := fun bk => match E.ω bk with | some q => if F q then none else some q | none => none, Pub := fun bk => E.Pub bk ∨ ∃ q, E.ω bk = some q ∧ F q = true }
theorem fzLeaf_val {E : Env} (F : Place → Bool) : ∀ p x v, x.leaf = true → Val E p x v → Val (E.fz F) p (fzLeaf F p x) v := by
 have habs : ∀ q sz xs, E.st.abs q = .sl .own sz xs → F q = false → (E.st.fz F).abs q = .sl .own sz xs := by
  intro q sz xs hq hf
  unfold St.fz
  rw [St.abs_tr (fun _ => rfl) (fzLeaf_leaf F)]
  cases q with
  | slot t π => simp only []; rw [hq, AV.tr_leaf rfl]; simp [fzLeaf, hf]
  | cell id off => simp only []; rw [hq, AV.tr_leaf rfl]; simp [fzLeaf, hf]
  | box id => simp [St.abs] at hq
  | no => simp [St.abs] at hq
 have hpub : ∀ bk, E.Pub bk → (E.fz F).Pub bk ∧ E.w.heap[bk]? = E.w.heap[bk]? := fun bk h => ⟨.inl h, rfl⟩
 have hpubF : ∀ bk q, E.ω bk = some q → F q = true → (E.fz F).Pub bk := fun bk q h hf => .inr ⟨q, h, hf⟩
 have hom : ∀ bk q, E.ω bk = some q → F q = false → (E.fz F).ω bk = some q := fun bk q h hf => by simp [Env.fz, h, hf]
 intro p x v hx hv
 show Val (E.fz F) p (fzLeaf F p x) v
 have hat : ∀ q ex, GhAt E (.vw q ex) → F q = false → GhAt (E.fz F) (.vw q ex) := by
  intro q ex hg hf
  obtain ⟨sz, xs, h1⟩ := hg; exact ⟨sz, xs, habs _ _ _ h1 hf⟩
 cases hv with
 | any => exact .any _ _
 | b => exact .b _ _
 | i => exact .i _ _ _
 | s => exact .s _ _
 | nil => exact .nil _
 | nofn => exact .nofn _
 | ab => exact .ab _ _ _ _ _
 | mp => exact .mp _ _
 | it => exact .it _ _
 | ptr => exact .ptr (E := E.fz F) _ _ _
 | bs => exact .bs (E := E.fz F) _ _ _ _ _
 | pt _ g ix cells off bk o hc hg ha =>
  cases g with
  | own => exact hg.elim
  | nl => exact hg.elim
  | fro => exact .pt _ .fro ix cells off bk o (hc.mono hpub rfl) (hpub _ hg).1 trivial
  | cut => exact hg.elim
  | vw q ex =>
   simp only [fzLeaf]
   split
   ·rename_i hf
    exact .pt _ .fro ix cells off bk o (hc.mono hpub rfl) (hpubF _ _ hg.1 hf) trivial
   ·rename_i hf
    have hf : F q = false := by simpa using hf
    refine .pt _ (.vw q ex) ix cells off bk o (hc.mono hpub rfl) ⟨hom _ _ hg.1 hf, fun he => ?_⟩ (hat _ _ ha hf)
    obtain ⟨sz, xs, o', cap, h1, h2, h3⟩ := hg.2 he
    exact ⟨sz, xs, o', cap, h1, habs _ _ _ h2 hf, h3⟩
 | sl1 _ sz a cap => exact .sl1 _ sz a cap
 | sl2 _ sz a => exact .sl2 _ sz a
 | sl0 _ g sz h0 ha =>
  cases g with
  | own => simp only [fzLeaf]; split <;> exact .sl0 _ _ _ (by simp) trivial
  | fro => exact .sl0 _ _ _ (by simp) trivial
  | cut => exact .sl0 _ _ _ (by simp) trivial
  | nl => exact .sl0 _ _ _ (by simp) trivial
  | vw q ex =>
   simp only [fzLeaf]
   split
   ·exact .sl0 _ _ _ (by simp) trivial
   ·rename_i hf
    have hf : F q = false := by simpa using hf
    refine .sl0 _ _ _ (fun q' he => ?_) (hat _ _ ha hf)
    obtain ⟨rfl, rfl⟩ := Gh.vw.inj he
    exact ⟨(h0 q rfl).1, habs _ _ _ (h0 q rfl).2 hf⟩
 | sl _ g sz xs bk off cap hc hr hg ha =>
  cases g with
  | own =>
   simp only [fzLeaf]
   split
   ·rename_i hf
    exact .sl _ .fro sz xs bk off cap hc (hr.mono hpub rfl) (hpubF _ _ hg.1 hf) trivial
   ·rename_i hf
    have hf : F p = false := by simpa using hf
    exact .sl _ .own sz xs bk off cap hc (hr.mono hpub rfl) ⟨hom _ _ hg.1 hf, hg.2⟩ trivial
  | nl => exact hg.elim
  | fro => exact .sl _ .fro sz xs bk off cap hc (hr.mono hpub rfl) (hpub _ hg).1 trivial
  | cut => exact .sl _ .cut sz xs bk off cap hc (hr.mono hpub rfl) ⟨(hpub _ hg.1).1, hg.2⟩ trivial
  | vw q ex =>
   simp only [fzLeaf]
   split
   ·rename_i hf
    exact .sl _ .fro sz xs bk off cap hc (hr.mono hpub rfl) (hpubF _ _ hg.1 hf) trivial
   ·rename_i hf
    have hf : F q = false := by simpa using hf
    exact .sl _ (.vw q ex) sz xs bk off cap hc (hr.mono hpub rfl) ⟨hom _ _ hg.1 hf, fun he => ⟨(hg.2 he).1, habs _ _ _ (hg.2 he).2 hf⟩⟩ (hat _ _ ha hf)
 | fn => simp [AV.leaf] at hx
 | agg => simp [AV.leaf] at hx
 | tup => simp [AV.leaf] at hx
theorem Val.fz {E : Env} (F : Place → Bool) {p : Place} {x : AV} {v : Value} (h : Val E p x v) : Val (E.fz F) p (x.tr (fzLeaf F) p) v := h.tr (fzLeaf_val F)
theorem Rel.fz {N : Nat} {E : Env} (R : Rel N E) (F : Place → Bool) (hF : ∀ id, F (.box id) = false) : Rel N (E.fz F) := by
 have hom : ∀ bk q, E.ω bk = some q → F q = false → (E.fz F).ω bk = some q := fun bk q h hf => by simp [Env.fz, h, hf]
 refine R.tr (h := fzLeaf F) (E.fz F).ω (E.fz F).Pub (fzLeaf_val F) (fun bk id h => hom _ _ h (hF id)) ?_ ?_ (fun _ h => .inl h)
 ·intro bk h
  rcases h with h | ⟨q, h, hf⟩
  ·refine ⟨(R.pub bk h).1, ?_⟩
   simp [Env.fz, (R.pub bk h).2]
  ·exact ⟨R.own bk q h, by simp [Env.fz, h, hf]⟩
 ·intro bk q h
  simp only [Env.fz] at h
  split at h
  ·rename_i q' hq'
   exact R.own bk q' hq'
  ·simp at h
def viewLeaf (p : Place) : AV → AV
 | .sl .own sz xs => if p = .no then .any else .sl (.vw p true) sz xs
 | x => x
def AV.view (p : Place) (x : AV) : AV := x.tr viewLeaf p
end Go.AM
namespace Go.AM
theorem subs_no : ∀ (q : List Nat), (Place.no).subs q = .no
 | [] => rfl
 | _ :: q => by simpa [Place.subs, Place.sub] using subs_no q
theorem Val.leans {SP : Place → Prop} {E : Env} (hq : ∀ q sz xs, E.st.abs q = .sl .own sz xs → SP q) (hno : SP .no)
  {p : Place} {x : AV} {v : Value} (hv : Val E p x v) : (∀ π sz xs, x.at π = .sl .own sz xs → SP (p.subs π)) → Leans SP (fun _ => True) p x := by
 have hat : ∀ g, GhAt E g → ∀ q ex, g = .vw q ex → SP q := by
  intro g hg q ex he
  subst he
  obtain ⟨sz, xs, h⟩ := hg
  exact hq q sz xs h
 induction hv with
 | any p v => exact fun _ => .any p
 | b p x => exact fun _ => .b p x
 | i p k n => exact fun _ => .i p k n
 | s p x => exact fun _ => .s p x
 | nil p => exact fun _ => .nil p
 | nofn p => exact fun _ => .nofn p
 | ab p b0 o0 n0 c0 => exact fun _ => .ab p b0 o0 n0 c0
 | mp p b0 => exact fun _ => .mp p b0
 | it p b0 => exact fun _ => .it p b0
 | ptr p id off => exact fun _ => .ptr p id off trivial
 | bs p id off n cap => exact fun _ => .bs p id off n cap trivial
 | pt p g ix cells off bk o hc hg ha => exact fun _ => .pt p g ix cells off (hat g ha)
 | sl1 p sz a cap => exact fun hp => .sl p .fro sz [] (by simp) (by simp)
 | sl2 p sz a => exact fun hp => .sl p .cut sz [] (by simp) (by simp)
 | sl0 p g sz h0 ha => exact fun hp => .sl p g sz [] (hat g ha) (fun he => hp [] sz [] (by rw [he]; rfl))
 | sl p g sz xs bk off cap hc hr hg ha => exact fun hp => .sl p g sz xs (hat g ha) (fun he => hp [] sz xs (by rw [he]; rfl))
 | fn p f fi ca fi' ca' h1 h2 _ _ ih1 ih2 =>
  refine fun _ => .fn p f fi ca (fun c hc => ?_) (fun c hc => ?_)
  ·obtain ⟨k, hk⟩ := List.getElem?_of_mem hc; exact ih1 k c hk (fun π _ _ _ => by rw [subs_no]; exact hno)
  ·obtain ⟨k, hk⟩ := List.getElem?_of_mem hc; exact ih2 k c hk (fun π _ _ _ => by rw [subs_no]; exact hno)
 | agg p cs arr h1 _ ih => exact fun hp => .agg p cs fun k c hk => ih k c hk fun π sz xs he => hp (k :: π) sz xs (by simp only [AV.at]; rw [getD_get hk]; exact he)
 | tup p cs arr h1 _ ih => exact fun hp => .tup p cs fun k c hk => ih k c hk fun π sz xs he => hp (k :: π) sz xs (by simp only [AV.at]; rw [getD_get hk]; exact he)
def NoOwn (x : AV) : Prop := ∀ π sz xs, x.at π ≠ .sl .own sz xs
theorem NoOwn.leaf {x : AV} (h : x.leaf = true) (hn : ∀ sz xs, x ≠ .sl .own sz xs) : NoOwn x := by
 intro π sz xs
 cases π with
 | nil => exact hn sz xs
 | cons k π => cases x <;> simp_all [AV.leaf, AV.at]
theorem NoOwn.any : NoOwn .any := .leaf rfl (by simp)
def rootNe (d : Nat) : Place → Prop
 | .slot t _ => t ≠ d
 | _ => True
def St.put (st : St) (d : Nat) (x : AV) : St := { st with slots := fun t => if t = d then x else st.slots t }
theorem tm_set (tm : Array Value) (d t : Nat) (v : Value) (h : t ≠ d) : (tm.setIfInBounds d v).getD t undef = tm.getD t undef := by
 simp [Array.getElem?_setIfInBounds_ne (Ne.symm h)]
theorem tm_set_self (tm : Array Value) (d : Nat) (v : Value) (h : d < tm.size) : (tm.setIfInBounds d v).getD d undef = v := by
 simp [h]
theorem cell_lt {w : World} {bk off : Nat} {u : Value} (h : w.cell? ⟨bk, off, none⟩ = some u) : bk < w.heap.size := by
 rcases Nat.lt_or_ge bk w.heap.size with h1 | h1
 ·exact h1
 ·simp [World.cell?, Array.getElem?_eq_none h1] at h
theorem Rel.leansSlot {N : Nat} {E : Env} (R : Rel N E) {SP : Place → Prop} (hq : ∀ q sz xs, E.st.abs q = .sl .own sz xs → SP q) (hno : SP .no) (t : Nat) :
  Leans SP (fun _ => True) (.slot t []) (E.st.slots t) :=
 (R.slots t).leans hq hno fun π sz xs he => by rw [subs_slot]; exact hq _ sz xs he
theorem Rel.leansCell {N : Nat} {E : Env} (R : Rel N E) {SP : Place → Prop} (hq : ∀ q sz xs, E.st.abs q = .sl .own sz xs → SP q) (hno : SP .no) {id : Nat} {cs : List AV} (hb : E.st.boxes id = some cs) {j : Nat} {c : AV}
  (hj : cs[j]? = some c) : Leans SP (fun _ => True) (.cell id j) c := by
 obtain ⟨h1, arr, T, h2, h3, h4⟩ := R.boxes id cs hb
 refine (h4 j c hj).leans hq hno fun π sz xs he => ?_
 cases π with
 | nil =>
  refine hq _ sz xs ?_
  show ((E.st.boxes id).getD []).getD j .any = _
  rw [hb]; exact (getD_get hj).trans he
 | cons k π => simp only [Place.subs, Place.sub, subs_no]; exact hno
theorem Rel.put {N : Nat} {E : Env} (R : Rel N E) (Dead : Place → Prop) (hdead : ∀ q sz xs, E.st.abs q = .sl .own sz xs → ¬ Dead q) (hdb : ∀ id, ¬ Dead (.box id)) (hdn : ¬ Dead .no)
  (w' : World) (ω' : Nat → Option Place) (Pub' : Nat → Prop) (d : Nat) (x : AV) (v : Value) (hd : d < N) (hno : NoOwn (E.st.slots d))
  (hw : ∀ bk, bk < E.w.heap.size → (∀ q, E.ω bk = some q → ¬ Dead q) → w'.heap[bk]? = E.w.heap[bk]?)
  (hω : ∀ bk q, E.ω bk = some q → ω' bk = some q) (hP : ∀ bk, E.Pub bk → Pub' bk)
  (hpub : ∀ bk, Pub' bk → bk < w'.heap.size ∧ ω' bk = none) (hown : ∀ bk q, ω' bk = some q → bk < w'.heap.size) :
  let E' : Env := { w := w', β := E.β, ω := ω', Pub := Pub', st := E.st.put d x, tm := E.tm.setIfInBounds d v }
  Stays (fun q => rootNe d q ∧ ¬ Dead q) (fun _ => True) E E' ∧ (Val E' (.slot d []) x v → Rel N E') := by
 intro E'
 have hq : ∀ q sz xs, E.st.abs q = .sl .own sz xs → rootNe d q ∧ ¬ Dead q := by
  intro q sz xs h
  refine ⟨?_, hdead q sz xs h⟩
  cases q with
  | slot t π => intro he; subst he; exact hno π sz xs h
  | _ => trivial
 have hpb : ∀ bk, E.Pub bk → w'.heap[bk]? = E.w.heap[bk]? := fun bk h => hw bk (R.pub bk h).1 (by rw [(R.pub bk h).2]; simp)
 have hob : ∀ bk q, ¬ Dead q → E.ω bk = some q → w'.heap[bk]? = E.w.heap[bk]? := fun bk q hn h => hw bk (R.own bk q h) (by rw [h]; simpa using hn)
 have hst : Stays (fun q => rootNe d q ∧ ¬ Dead q) (fun _ => True) E E' := by
  refine ⟨fun bk h => ⟨hP bk h, hpb bk h⟩, fun bk q hs h => ⟨hω bk q h, hob bk q hs.2 h⟩, fun _ _ => rfl, ?_, ?_⟩
  ·intro q u sz xs hr ha hc
   cases q with
   | slot t π =>
    have ht : t ≠ d := hr.1
    show vat ((E.tm.setIfInBounds d v).getD t undef) π = some u
    rw [tm_set _ _ _ _ ht]; exact hc
   | cell id off =>
    have hc' : E.w.cell? ⟨E.β id, off, none⟩ = some u := hc
    show w'.cell? ⟨E.β id, off, none⟩ = some u
    have hlive : ∃ cs, E.st.boxes id = some cs := by
     cases hb : E.st.boxes id with
     | none => simp [St.abs, hb] at ha
     | some cs => exact ⟨cs, rfl⟩
    obtain ⟨cs, hb⟩ := hlive
    rw [cell_same (hob _ _ (hdb id) (R.boxes id cs hb).1)]; exact hc'
   | box _ => simp [Env.con] at hc
   | no => simp [Env.con] at hc
  ·intro q sz xs hr ha
   cases q with
   | slot t π =>
    have ht : t ≠ d := hr.1
    show ((E.st.put d x).slots t).at π = _
    simp only [St.put, ht, if_false]; exact ha
   | cell id off => exact ha
   | box _ => simp [St.abs] at ha
   | no => simp [St.abs] at ha
 refine ⟨hst, fun hx => ?_⟩
 refine { size := by simp [E', R.size], slots := fun t => ?_, boxes := fun id cs h => ?_, pub := hpub, own := hown, abs := fun id h hm => R.abs id h hm, gl := R.gl.mono hst.pub }
 ·by_cases ht : t = d
  ·subst ht
   show Val E' (.slot t []) (if t = t then x else _) ((E.tm.setIfInBounds t v).getD t undef)
   rw [if_pos rfl, tm_set_self _ _ _ (R.size ▸ hd)]
   exact hx
  ·show Val E' (.slot t []) (if t = d then x else E.st.slots t) ((E.tm.setIfInBounds d v).getD t undef)
   rw [if_neg ht, tm_set _ _ _ _ ht]
   exact (R.slots t).mono hst (R.leansSlot hq ⟨trivial, hdn⟩ t)
 ·obtain ⟨h1, arr, T, h2, h3, h4⟩ := R.boxes id cs h
  refine ⟨hω _ _ h1, arr, T, ?_, h3, fun j c hj => ?_⟩
  ·show w'.heap[E.β id]? = _
   rw [hob _ _ (hdb id) h1]; exact h2
  ·exact (h4 j c hj).mono hst (R.leansCell hq ⟨trivial, hdn⟩ h hj)
theorem Val.at {E : Env} : ∀ (π : List Nat) {p : Place} {x : AV} {v u : Value}, Val E p x v → vat v π = some u → Val E (p.subs π) (x.at π) u
 | [], p, x, v, u, hv, hu => by
  have : v = u := by simpa [vat] using hu
  subst this
  cases x <;> exact hv
 | k :: π, p, x, v, u, hv, hu => by
  cases hv with
  | agg _ cs arr h1 hk =>
   have hu' : vat (arr.getD k undef) π = some u := hu
   simp only [AV.at, Place.subs]
   cases hc : cs[k]? with
   | none =>
    have : cs.getD k .any = .any := by simp [List.getD_eq_getElem?_getD, hc]
    rw [this, AV.at_any]; exact .any _ _
   | some c => rw [getD_get hc]; exact Val.at π (hk k c hc) hu'
  | tup _ cs arr h1 hk =>
   have hu' : vat (arr.getD k undef) π = some u := hu
   simp only [AV.at, Place.subs]
   cases hc : cs[k]? with
   | none =>
    have : cs.getD k .any = .any := by simp [List.getD_eq_getElem?_getD, hc]
    rw [this, AV.at_any]; exact .any _ _
   | some c => rw [getD_get hc]; exact Val.at π (hk k c hc) hu'
  | _ => exact .any _ _
theorem Rel.at {N : Nat} {E : Env} (R : Rel N E) {q : Place} {v : Value} (hc : E.con q = some v) : Val E q (E.st.abs q) v := by
 cases q with
 | slot t π =>
  have := (R.slots t).at π hc
  rwa [subs_slot] at this
 | cell id off =>
  simp only [St.abs]
  cases hb : E.st.boxes id with
  | none => simp; exact .any _ _
  | some cs =>
   obtain ⟨h1, arr, T, h2, h3, h4⟩ := R.boxes id cs hb
   simp only [Option.getD_some]
   cases hk : cs[off]? with
   | none => rw [List.getD_eq_getElem?_getD, hk]; exact .any _ _
   | some c =>
    rw [getD_get hk]
    have h5 := h4 off c hk
    have hc' : E.w.cell? ⟨E.β id, off, none⟩ = some v := hc
    simp only [World.cell?, h2] at hc'
    simp at hc'
    rw [Array.getD_eq_getD_getElem?, hc'] at h5
    exact h5
 | box id => exact .any _ _
 | no => exact .any _ _
def takeLeaf (Q : Place → Option Place) (p : Place) : AV → AV
 | .sl .own sz xs => if (Q p).isSome then .any else .sl .own sz xs
 | .sl (.vw q ex) sz xs => if (Q q).isSome then .any else .sl (.vw q ex) sz xs
 | .pt (.vw q ex) ix cs off => if (Q q).isSome then .any else .pt (.vw q ex) ix cs off
 | x => x
theorem takeLeaf_leaf (Q) (p : Place) (x : AV) (h : x.leaf = true) : (takeLeaf Q p x).leaf = true := by
 unfold takeLeaf; split <;> (try split) <;> first | rfl | exact h
def St.take (Q : Place → Option Place) (st : St) : St := st.tr (takeLeaf Q)
def Env.take (E : Env) (Q : Place → Option Place) : Env :=
 { E with st := E.st.take Q, ω := fun bk => match E.ω bk with | some q => some ((Q q).getD q) | none => none }
theorem Rel.take {N : Nat} {E : Env} (R : Rel N E) (Q : Place → Option Place) (hQ : ∀ id, Q (.box id) = none) : Rel N (E.take Q) := by
 have habs : ∀ q sz xs, E.st.abs q = .sl .own sz xs → Q q = none → (E.st.take Q).abs q = .sl .own sz xs := by
  intro q sz xs hq hf
  unfold St.take
  rw [St.abs_tr (fun _ => rfl) (takeLeaf_leaf Q)]
  cases q with
  | slot t π => simp only []; rw [hq, AV.tr_leaf rfl]; simp [takeLeaf, hf]
  | cell id off => simp only []; rw [hq, AV.tr_leaf rfl]; simp [takeLeaf, hf]
  | box id => simp [St.abs] at hq
  | no => simp [St.abs] at hq
 have hom : ∀ bk q, E.ω bk = some q → Q q = none → (E.take Q).ω bk = some q := fun bk q h hf => by simp [Env.take, h, hf]
 refine R.tr (h := takeLeaf Q) (E.take Q).ω E.Pub ?_ (fun bk id h => hom _ _ h (hQ id)) (fun bk h => ⟨(R.pub bk h).1, by simp [Env.take, (R.pub bk h).2]⟩) ?_ (fun _ h => h)
 ·intro p x v hx hv
  show Val (E.take Q) p (takeLeaf Q p x) v
  have hat : ∀ q ex, GhAt E (.vw q ex) → Q q = none → GhAt (E.take Q) (.vw q ex) := by
   intro q ex hg hf
   obtain ⟨sz, xs, h1⟩ := hg; exact ⟨sz, xs, habs _ _ _ h1 hf⟩
  cases hv with
  | any => exact .any _ _
  | b => exact .b _ _
  | i => exact .i _ _ _
  | s => exact .s _ _
  | nil => exact .nil _
  | nofn => exact .nofn _
  | ab => exact .ab _ _ _ _ _
  | mp => exact .mp _ _
  | it => exact .it _ _
  | ptr => exact .ptr (E := E.take Q) _ _ _
  | bs => exact .bs (E := E.take Q) _ _ _ _ _
  | pt _ g ix cells off bk o hc hg ha =>
   cases g with
   | own => exact hg.elim
   | nl => exact hg.elim
   | fro => exact .pt _ .fro ix cells off bk o hc hg trivial
   | cut => exact hg.elim
   | vw q ex =>
    simp only [takeLeaf]
    split
    ·exact .any _ _
    ·rename_i hf
     have hf : Q q = none := by simpa using hf
     refine .pt _ (.vw q ex) ix cells off bk o hc ⟨hom _ _ hg.1 hf, fun he => ?_⟩ (hat _ _ ha hf)
     obtain ⟨sz, xs, o', cap, h1, h2, h3⟩ := hg.2 he
     exact ⟨sz, xs, o', cap, h1, habs _ _ _ h2 hf, h3⟩
  | sl1 _ sz a cap => exact .sl1 _ sz a cap
  | sl2 _ sz a => exact .sl2 _ sz a
  | sl0 _ g sz h0 ha =>
   cases g with
   | own =>
    simp only [takeLeaf]
    split
    ·exact .any _ _
    ·exact .sl0 _ _ _ (by simp) trivial
   | fro => exact .sl0 _ _ _ (by simp) trivial
   | cut => exact .sl0 _ _ _ (by simp) trivial
   | nl => exact .sl0 _ _ _ (by simp) trivial
   | vw q ex =>
    simp only [takeLeaf]
    split
    ·exact .any _ _
    ·rename_i hf
     have hf : Q q = none := by simpa using hf
     refine .sl0 _ _ _ (fun q' he => ?_) (hat _ _ ha hf)
     obtain ⟨rfl, rfl⟩ := Gh.vw.inj he
     exact ⟨(h0 q rfl).1, habs _ _ _ (h0 q rfl).2 hf⟩
  | sl _ g sz xs bk off cap hc hr hg ha =>
   cases g with
   | own =>
    simp only [takeLeaf]
    split
    ·exact .any _ _
    ·rename_i hf
     have hf : Q p = none := by simpa using hf
     exact .sl _ .own sz xs bk off cap hc hr ⟨hom _ _ hg.1 hf, hg.2⟩ trivial
   | nl => exact hg.elim
   | fro => exact .sl _ .fro sz xs bk off cap hc hr hg trivial
   | cut => exact .sl _ .cut sz xs bk off cap hc hr hg trivial
   | vw q ex =>
    simp only [takeLeaf]
    split
    ·exact .any _ _
    ·rename_i hf
     have hf : Q q = none := by simpa using hf
     exact .sl _ (.vw q ex) sz xs bk off cap hc hr ⟨hom _ _ hg.1 hf, fun he => ⟨(hg.2 he).1, habs _ _ _ (hg.2 he).2 hf⟩⟩ (hat _ _ ha hf)
  | fn => simp [AV.leaf] at hx
  | agg => simp [AV.leaf] at hx
  | tup => simp [AV.leaf] at hx
 ·intro bk q h
  simp only [Env.take] at h
  split at h
  ·rename_i q' hq'
   exact R.own bk q' hq'
  ·simp at h
end Go.AM
namespace Go.AM
mutual
def AV.free : AV → Bool
 | .sl .own _ _ => false
 | .agg cs => AV.freeL cs
 | .tup cs => AV.freeL cs
 | .fn _ fi ca => AV.freeL fi && AV.freeL ca
 | _ => true
def AV.freeL : List AV → Bool
 | [] => true
 | x :: xs => x.free && AV.freeL xs
end
theorem AV.freeL_iff : ∀ {cs : List AV}, AV.freeL cs = true ↔ ∀ c ∈ cs, c.free = true
 | [] => by simp [AV.freeL]
 | x :: xs => by simp [AV.freeL, AV.freeL_iff (cs := xs)]
theorem AV.freeL_get {cs : List AV} (h : AV.freeL cs = true) {k : Nat} {c : AV} (hk : cs[k]? = some c) : c.free = true :=
 AV.freeL_iff.1 h c (List.mem_of_getElem? hk)
theorem Val.place {E : Env} {p : Place} {x : AV} {v : Value} (hv : Val E p x v) : x.free = true → ∀ p', Val E p' x v := by
 induction hv with
 | any p v => exact fun _ p' => .any p' v
 | b p x => exact fun _ p' => .b p' x
 | i p k n => exact fun _ p' => .i p' k n
 | s p x => exact fun _ p' => .s p' x
 | nil p => exact fun _ p' => .nil p'
 | nofn p => exact fun _ p' => .nofn p'
 | ab p b0 o0 n0 c0 => exact fun _ p' => .ab p' b0 o0 n0 c0
 | mp p b0 => exact fun _ p' => .mp p' b0
 | it p b0 => exact fun _ p' => .it p' b0
 | ptr p id off => exact fun _ p' => .ptr p' id off
 | bs p id off n cap => exact fun _ p' => .bs p' id off n cap
 | pt p g ix cells off bk o hc hg ha => exact fun _ p' => .pt p' g ix cells off bk o hc hg ha
 | sl1 p sz a cap => exact fun _ p' => .sl1 p' sz a cap
 | sl2 p sz a => exact fun _ p' => .sl2 p' sz a
 | sl0 p g sz h0 ha => exact fun _ p' => .sl0 p' g sz h0 ha
 | sl p g sz xs bk off cap hc hr hg ha =>
  intro hf p'
  cases g with
  | own => simp [AV.free] at hf
  | nl => exact hg.elim
  | fro => exact .sl p' .fro sz xs bk off cap hc hr hg ha
  | cut => exact .sl p' .cut sz xs bk off cap hc hr hg ha
  | vw q ex => exact .sl p' (.vw q ex) sz xs bk off cap hc hr hg ha
 | fn p f fi ca fi' ca' h1 h2 h3 h4 _ _ => exact fun _ p' => .fn p' f fi ca fi' ca' h1 h2 h3 h4
 | agg p cs arr h1 _ ih =>
  intro hf p'
  rw [AV.free] at hf
  exact .agg p' cs arr h1 fun k c hk => ih k c hk (AV.freeL_get hf hk) _
 | tup p cs arr h1 _ ih =>
  intro hf p'
  rw [AV.free] at hf
  exact .tup p' cs arr h1 fun k c hk => ih k c hk (AV.freeL_get hf hk) _
theorem AV.view_free (x : AV) : ∀ p, (x.tr viewLeaf p).free = true := by
 refine AV.rec (motive_1 := fun x => ∀ p, (x.tr viewLeaf p).free = true) (motive_2 := fun l => (∀ p k, AV.freeL (AV.trL viewLeaf p k l) = true) ∧ AV.freeL (AV.trN viewLeaf l) = true) (motive_3 := fun _ => True)
  ?_ ?_ ?_ ?_ ?_ ?_ ?_ ?_ ?_ ?_ ?_ ?_ ?_ ?_ ?_ ?_ ?_ ?_ ?_ ?_ x
 ·intro p; rfl
 ·intro x p; rfl
 ·intro k n p; rfl
 ·intro x p; rfl
 ·intro p; rfl
 ·intro p; rfl
 ·intro id off n cap p; rfl
 ·intro b0 p; rfl
 ·intro b0 p; rfl
 ·intro id off p; rfl
 ·intro id off n cap p; rfl
 ·intro g ix cells off _ p; rfl
 ·intro f fi ca h1 h2 p; simp [AV.tr, AV.free, h1.2, h2.2]
 ·intro g sz xs _ p
  rw [AV.tr_leaf rfl]
  cases g <;> simp [viewLeaf, AV.free]
  split <;> rfl
 ·intro cs h p; simp [AV.tr, AV.free, h.1]
 ·intro cs h p; simp [AV.tr, AV.free, h.1]
 ·exact ⟨fun _ _ => rfl, rfl⟩
 ·intro x xs h1 h2
  exact ⟨fun p k => by simp [AV.trL, AV.freeL, h1, h2.1], by simp [AV.trN, AV.freeL, h1, h2.2]⟩
 ·trivial
 ·intros; trivial
theorem Val.view {E : Env} {p : Place} {x : AV} {v : Value} (hv : Val E p x v) : (∀ π sz xs, x.at π = .sl .own sz xs → p.subs π = .no ∨ (E.st.abs (p.subs π) = .sl .own sz xs ∧ E.con (p.subs π) = vat v π)) → ∀ p', Val E p' (x.view p) v := by
 intro h p'
 have key : Val E p (x.view p) v := by
  unfold AV.view
  induction hv with
  | any p v => exact .any p v
  | b p x => exact .b p x
  | i p k n => exact .i p k n
  | s p x => exact .s p x
  | nil p => exact .nil p
  | nofn p => exact .nofn p
  | ab p b0 o0 n0 c0 => exact .ab p b0 o0 n0 c0
  | mp p b0 => exact .mp p b0
  | it p b0 => exact .it p b0
  | ptr p id off => exact .ptr p id off
  | bs p id off n cap => exact .bs p id off n cap
  | pt p g ix cells off bk o hc hg ha => exact .pt p g ix cells off bk o hc hg ha
  | sl1 p sz a cap => exact .sl1 p sz a cap
  | sl2 p sz a => exact .sl2 p sz a
  | sl0 p g sz h0 ha =>
   rw [AV.tr_leaf rfl]
   cases g with
   | own =>
    simp only [viewLeaf]
    split
    ·exact .any _ _
    ·rename_i hn
     have := (h [] sz [] rfl).resolve_left hn
     refine .sl0 p _ sz (fun q he => ?_) ⟨sz, [], this.1⟩
     obtain ⟨rfl, _⟩ := Gh.vw.inj he
     exact ⟨this.2, this.1⟩
   | fro => exact .sl0 p _ sz h0 ha
   | cut => exact .sl0 p _ sz h0 ha
   | nl => exact .sl0 p _ sz h0 ha
   | vw q ex => exact .sl0 p _ sz h0 ha
  | sl p g sz xs bk off cap hc hr hg ha =>
   rw [AV.tr_leaf rfl]
   cases g with
   | own =>
    simp only [viewLeaf]
    split
    ·exact .any _ _
    ·rename_i hn
     have := (h [] sz xs rfl).resolve_left hn
     exact .sl p (.vw p true) sz xs bk off cap hc hr ⟨hg.1, fun _ => ⟨this.2, this.1⟩⟩ ⟨sz, xs, this.1⟩
   | fro => exact .sl p .fro sz xs bk off cap hc hr hg ha
   | cut => exact .sl p .cut sz xs bk off cap hc hr hg ha
   | nl => exact hg.elim
   | vw q ex => exact .sl p (.vw q ex) sz xs bk off cap hc hr hg ha
  | fn p f fi ca fi' ca' h1 h2 _ _ ih1 ih2 =>
   rw [AV.tr]
   refine .fn p f _ _ fi' ca' (by rw [AV.trN_length]; exact h1) (by rw [AV.trN_length]; exact h2) (fun k c hk => ?_) (fun k c hk => ?_)
   ·rw [AV.trN_get] at hk
    obtain ⟨c', hc, rfl⟩ := Option.map_eq_some_iff.1 hk
    exact ih1 k c' hc (fun π _ _ _ => .inl (subs_no π))
   ·rw [AV.trN_get] at hk
    obtain ⟨c', hc, rfl⟩ := Option.map_eq_some_iff.1 hk
    exact ih2 k c' hc (fun π _ _ _ => .inl (subs_no π))
  | agg p cs arr h1 _ ih =>
   rw [AV.tr]
   refine .agg p _ arr (by rw [AV.trL_length]; exact h1) (fun k c hk => ?_)
   rw [AV.trL_get] at hk
   obtain ⟨c', hc, rfl⟩ := Option.map_eq_some_iff.1 hk
   have := ih k c' hc (fun π sz xs he => h (k :: π) sz xs (by simpa [AV.at, hc] using he))
   simpa using this
  | tup p cs arr h1 _ ih =>
   rw [AV.tr]
   refine .tup p _ arr (by rw [AV.trL_length]; exact h1) (fun k c hk => ?_)
   rw [AV.trL_get] at hk
   obtain ⟨c', hc, rfl⟩ := Option.map_eq_some_iff.1 hk
   have := ih k c' hc (fun π sz xs he => h (k :: π) sz xs (by simpa [AV.at, hc] using he))
   simpa using this
 exact key.place (AV.view_free x p) p'
def cv (sz : Nat) : Value → AV
 | .bool x => .b x
 | .int k n => .i k n
 | .string x => .s x
 | .pointer none => .nil
 | .nilFunc => .nofn
 | .slice none 0 0 => .sl .nl sz []
 | _ => .any
theorem cv_val (E : Env) (p : Place) (sz : Nat) (v : Value) : Val E p (cv sz v) v := by
 unfold cv
 split
 ·exact .b _ _
 ·exact .i _ _ _
 ·exact .s _ _
 ·exact .nil _
 ·exact .nofn _
 ·exact .sl0 _ _ _ (by simp) trivial
 ·exact .any _ _
theorem cv_free (sz : Nat) (v : Value) : (cv sz v).free = true := by unfold cv; split <;> rfl
def St.rd (st : St) (sz : Nat) : Operand → AV
 | .tmp t => (st.slots t).view (.slot t [])
 | .const v => cv sz v
 | .func f => .fn f [] []
 | .global _ => .any
theorem St.rd_free (st : St) (sz : Nat) (o : Operand) : (st.rd sz o).free = true := by
 cases o with
 | tmp t => exact AV.view_free _ _
 | const v => exact cv_free sz v
 | func f => rfl
 | global g => rfl
theorem Rel.rd {N : Nat} {E : Env} (R : Rel N E) {a : Act} (ha : a.tmps = E.tm) (sz : Nat) (o : Operand) (p : Place) : Val E p (E.st.rd sz o) (a.eval o) := by
 cases o with
 | tmp t =>
  show Val E p ((E.st.slots t).view (.slot t [])) (a.tmps.getD t undef)
  rw [ha]
  refine (R.slots t).view (fun π sz xs he => .inr ?_) p
  rw [subs_slot]
  exact ⟨he, rfl⟩
 | const v => exact cv_val E p sz v
 | func f => exact .fn p f [] [] #[] #[] rfl rfl (by simp) (by simp)
 | global g => exact .any _ _
theorem Rel.putq {N : Nat} {E : Env} (R : Rel N E) (d : Nat) (x : AV) (v : Value) (hd : d < N) (hno : NoOwn (E.st.slots d)) (hf : x.free = true) (hv : Val E .no x v) :
  Rel N { E with st := E.st.put d x, tm := E.tm.setIfInBounds d v } := by
 obtain ⟨hst, h⟩ := R.put (fun _ => False) (fun _ _ _ _ h => h) (fun _ h => h) (fun h => h) E.w E.ω E.Pub d x v hd hno (fun _ _ _ => rfl) (fun _ _ h => h) (fun _ h => h) R.pub R.own
 refine h ((hv.mono hst (hv.leans ?_ ⟨trivial, fun h => h⟩ (fun π _ _ _ => by rw [subs_no]; exact ⟨trivial, fun h => h⟩))).place hf _)
 intro q sz xs hq
 refine ⟨?_, fun h => h⟩
 cases q with
 | slot t π => intro he; subst he; exact hno π sz xs hq
 | _ => trivial
end Go.AM
namespace Go.AM
inductive Kind where
 | bool | int (k : IntKind) | str | ptr (e : Nat) | fn | slice (e : Nat) | strct (fs : List (Nat × Nat)) | arr (n e : Nat) | map (k e : Nat) | other
 deriving DecidableEq
structure TI where
 kind : Kind
 size : Nat
 bytes : Nat
 zero : List AV
def kindOf : TypeDesc → Kind
 | .bool => .bool
 | .int k => .int k
 | .string => .str
 | .pointer e => .ptr e
 | .func .. => .fn
 | .slice e => .slice e
 | .struct fs => .strct (fs.toList.map fun f => (f.offset, f.type))
 | .array n e => .arr n e
 | .map k e => .map k e
 | _ => .other
def zav (P : Program) : Nat → TypeId → List AV
 | 0, _ => []
 | n + 1, t =>
  match (P.underlying t).map kindOf with
  | some .bool => [.b false]
  | some (.int k) => [.i k 0]
  | some .str => [.s ByteArray.empty]
  | some (.ptr _) => [.nil]
  | some .fn => [.nofn]
  | some (.slice e) => [.sl .nl (P.cellsOf e) []]
  | some (.strct fs) => fs.flatMap fun f => zav P n f.2
  | some (.arr m e) => (List.replicate m (zav P n e)).flatten
  | _ => [.any]
def zchk : List AV → List Value → Bool
 | [], [] => true
 | .b x :: l, .bool y :: vs => x == y && zchk l vs
 | .i k n :: l, .int k' m :: vs => k == k' && n == m && zchk l vs
 | .s x :: l, .string y :: vs => x.size == 0 && y.size == 0 && zchk l vs
 | .nil :: l, .pointer none :: vs => zchk l vs
 | .nofn :: l, .nilFunc :: vs => zchk l vs
 | .sl .nl _ [] :: l, .slice none 0 0 :: vs => zchk l vs
 | .any :: l, _ :: vs => zchk l vs
 | _, _ => false
def isAggK : Kind → Bool
 | .strct _ | .arr _ _ => true
 | _ => false
def ti (P : Program) (t : TypeId) : Option TI :=
 match P.info? t, P.underlying t with
 | some i, some d =>
  match i.zero with
  | some z => let l := zav P 20 t; if zchk l z.cells.toList && l.length == i.size then some ⟨kindOf d, i.size, i.bytes, l⟩ else none
  | none => none
 | _, _ => none
theorem zchk_val : ∀ {l : List AV} {vs : List Value}, zchk l vs = true → l.length = vs.length ∧ ∀ (E : Env) p k c, l[k]? = some c → Val E p c (vs.getD k undef) := by
 intro l
 induction l with
 | nil => intro vs h; cases vs <;> simp_all [zchk]
 | cons x l ih =>
  intro vs h
  cases vs with
  | nil => cases x <;> simp [zchk] at h
  | cons v vs =>
   have key : zchk l vs = true ∧ ∀ (E : Env) p, Val E p x v := by
    unfold zchk at h
    split at h <;> simp_all
    ·rename_i x y l vs _ _; exact fun E p => .b p _
    ·exact fun E p => .i p _ _
    ·exact fun E p => .s p _
    ·exact fun E p => .nil p
    ·exact fun E p => .nofn p
    ·exact fun E p => .sl0 p _ _ (by simp) trivial
    ·exact fun E p => .any p _
   obtain ⟨h1, h2⟩ := ih key.1
   refine ⟨by simp [h1], fun E p k c hk => ?_⟩
   cases k with
   | zero => simp at hk; subst hk; exact key.2 E p
   | succ k => simpa using h2 E p k c (by simpa using hk)
theorem zchk_free : ∀ {l : List AV} {vs : List Value}, zchk l vs = true → AV.freeL l = true := by
 intro l
 induction l with
 | nil => intro vs h; rfl
 | cons x l ih =>
  intro vs h
  cases vs with
  | nil => cases x <;> simp [zchk] at h
  | cons v vs =>
   rw [AV.freeL]
   unfold zchk at h
   split at h <;> simp_all [AV.free] <;> first
    | exact ih h
    | exact ih h.2
structure TyOk (P : Program) (t : TypeId) (x : TI) where
 i : TypeInfo
 d : TypeDesc
 z : Value
 info : P.info? t = some i
 und : P.underlying t = some d
 kind : kindOf d = x.kind
 size : i.size = x.size
 bytes : i.bytes = x.bytes
 zero : i.zero = some z
 zlen : x.zero.length = x.size
 zcs : z.cells.size = x.size
 zval : ∀ (E : Env) p k c, x.zero[k]? = some c → Val E p c (z.cells.getD k undef)
 zfree : AV.freeL x.zero = true
theorem ti_ok {P : Program} {t : TypeId} {x : TI} (h : ti P t = some x) : Nonempty (TyOk P t x) := by
 unfold ti at h
 split at h
 ·rename_i i d hi hd
  split at h
  ·rename_i z hz
   simp only [] at h
   split at h
   ·rename_i hc
    simp only [Bool.and_eq_true, beq_iff_eq] at hc
    obtain ⟨h1, h2⟩ := zchk_val hc.1
    cases h
    refine ⟨⟨i, d, z, hi, hd, rfl, rfl, rfl, hz, hc.2, ?_, ?_, zchk_free hc.1⟩⟩
    ·simp only [Array.length_toList] at h1; rw [← h1]; exact hc.2
    ·intro E p k c hk
     have := h2 E p k c hk
     simpa [List.getD_eq_getElem?_getD] using this
   ·cases h
  ·cases h
 ·cases h
section
variable {P : Program} {t : TypeId} {x : TI} (o : TyOk P t x) (w : World)
include o
theorem TyOk.typeInfo : (typeInfo t).run P w = .ok o.i w := by simp [Go.typeInfo, o.info]
theorem TyOk.underlying : (underlying t).run P w = .ok o.d w := by simp [Go.underlying, o.und]
theorem TyOk.sizeOf : (sizeOf t).run P w = .ok x.size w := by simp [Go.sizeOf, o.typeInfo, o.size]
theorem TyOk.zeroValue : (zeroValue t).run P w = .ok o.z w := by simp [Go.zeroValue, o.typeInfo, o.zero]
theorem TyOk.isAgg : (isAgg t).run P w = .ok (isAggK x.kind) w := by
 rw [← o.kind]
 simp only [Go.isAgg, Sem.run_bind, o.underlying, Result.andThen_ok]
 cases o.d <;> rfl
end
theorem add_none (bk off n : Nat) : (⟨bk, off, none⟩ : Addr).add n = ⟨bk, off + n, none⟩ := by
 unfold Addr.add; split
 ·rename_i h; subst h; rfl
 ·rfl
structure QR where
 ok : Prop
 v : AV
def QR.no : QR := ⟨False, .any⟩
def ibin (op : BinOp) (k : IntKind) (a b : Int) : QR :=
 match op with
 | .add => ⟨True, .i k (k.wrap (a + b))⟩
 | .sub => ⟨True, .i k (k.wrap (a - b))⟩
 | .mul => ⟨True, .i k (k.wrap (a * b))⟩
 | .quo => ⟨b ≠ 0, .i k (k.wrap (a.tdiv b))⟩
 | .rem => ⟨b ≠ 0, .i k (a.tmod b)⟩
 | .and | .or | .xor | .andNot => ⟨True, .i k (bits op k a b)⟩
 | .eql => ⟨True, .b (a == b)⟩
 | .neq => ⟨True, .b (a != b)⟩
 | .lss => ⟨True, .b (decide (a < b))⟩
 | .leq => ⟨True, .b (decide (a ≤ b))⟩
 | .gtr => ⟨True, .b (decide (a > b))⟩
 | .geq => ⟨True, .b (decide (a ≥ b))⟩
 | _ => .no
def ishift (op : BinOp) (k : IntKind) (a b : Int) : QR :=
 match op with
 | .shl => ⟨0 ≤ b, .i k (k.wrap (a * 2 ^ (min b.toNat k.bits)))⟩
 | .shr => ⟨0 ≤ b, .i k (a.fdiv (2 ^ (min b.toNat k.bits)))⟩
 | _ => .no
def sbin (op : BinOp) (x y : ByteArray) : QR :=
 let eq := x.toList == y.toList
 let lt := Op.bytesLess x.toList y.toList
 match op with
 | .add => ⟨x.size + y.size ≤ 9223372036854775807, .s (x ++ y)⟩
 | .eql => ⟨True, .b eq⟩
 | .neq => ⟨True, .b !eq⟩
 | .lss => ⟨True, .b lt⟩
 | .leq => ⟨True, .b (lt || eq)⟩
 | .gtr => ⟨True, .b !(lt || eq)⟩
 | .geq => ⟨True, .b !lt⟩
 | _ => .no
def qpeq (b : Bool) (x y : AV) : QR :=
 match x, y with
 | .nil, .nil => ⟨True, .b b⟩
 | .nil, .ptr _ _ | .ptr _ _, .nil | .nil, .pt _ _ _ _ | .pt _ _ _ _, .nil => ⟨True, .b !b⟩
 | _, _ => .no
def qbin (k : Option Kind) (op : BinOp) (x y : AV) : QR :=
 match x, y with
 | .i k a, .i k' b => match op with
  | .shl | .shr => ishift op k a b
  | _ => ⟨k = k' ∧ (ibin op k a b).ok, (ibin op k a b).v⟩
 | .s x, .s y => sbin op x y
 | .b x, .b y => match op with
  | .eql => ⟨k = some .bool, .b (x == y)⟩
  | .neq => ⟨k = some .bool, .b (!(x == y))⟩
  | _ => .no
 | x, y => match k, op with
  | some (.ptr _), .eql => qpeq true x y
  | some (.ptr _), .neq => qpeq false x y
  | _, _ => .no
def qun (op : UnOp) (x : AV) : QR :=
 match op, x with
 | .neg, .i k n => ⟨True, .i k (k.wrap (0 - n))⟩
 | .not, .b b => ⟨True, .b !b⟩
 | _, _ => .no
def bytesL : List (List AV) → Option (List UInt8)
 | [] => some []
 | [.i .u8 n] :: r => (bytesL r).map (UInt8.ofNat n.toNat :: ·)
 | _ => none
def qbytes (k : Option Kind) (xs : List (List AV)) : QR :=
 match k, bytesL xs with
 | some (.int .u8), some l => ⟨True, .s ⟨l.toArray⟩⟩
 | _, _ => .no
def qconv (T : Nat → Option TI) (s d : Nat) (x : AV) : QR :=
 match (T s).map TI.kind, (T d).map TI.kind, x with
 | some _, some (.int k), .i _ n => ⟨True, .i k (k.wrap n)⟩
 | some _, some .str, .s x => ⟨True, .s x⟩
 | some (.slice e), some .str, .sl _ _ xs => qbytes ((T e).map TI.kind) xs
 | _, _, _ => .no
def fieldOf (T : Nat → Option TI) (s f : Nat) : Option (Nat × Nat × Bool) :=
 match T s with
 | some x => match x.kind with
  | .strct fs => match fs[f]? with
   | some (o, t) => (T t).map fun y => (o, y.size, isAggK y.kind)
   | none => none
  | _ => none
 | none => none
def qfield (T : Nat → Option TI) (s f : Nat) (x : AV) : QR :=
 match fieldOf T s f, x with
 | some (o, n, _), .ptr id off => ⟨n ≠ 0, .ptr id (off + o)⟩
 | some (o, n, _), .pt g ix cells off => ⟨n ≠ 0, .pt g ix cells (off + o)⟩
 | _, _ => .no
def qpart (agg : Bool) (n off : Nat) (cs : List AV) : QR :=
 match agg with
 | true => ⟨off + n ≤ cs.length, .agg ((cs.drop off).take n)⟩
 | false => ⟨off < cs.length, cs.getD off .any⟩
def qfieldv (T : Nat → Option TI) (s f : Nat) (x : AV) : QR :=
 match fieldOf T s f, x with
 | some (o, n, g), .agg cs => qpart g n o cs
 | _, _ => .no
def qload (T : Nat → Option TI) (st : St) (t : Nat) (x : AV) : QR :=
 match T t, x with
 | some y, .ptr id off => match st.boxes id with
  | some cs => match isAggK y.kind with
   | true => ⟨off + y.size ≤ cs.length, .agg (AV.trC viewLeaf id off ((cs.drop off).take y.size))⟩
   | false => ⟨off < cs.length, (cs.getD off .any).view (.cell id off)⟩
  | none => .no
 | some y, .pt _ _ cells off => qpart (isAggK y.kind) y.size off cells
 | _, _ => .no
def Gh.atop : Gh → Gh
 | .vw q ex => .vw q ex
 | _ => .fro
def qindexAddr (T : Nat → Option TI) (t : Nat) (x ix : AV) : QR :=
 match ((T t).map TI.kind : Option Kind), x, ix with
 | some (.slice e), .sl g sz xs, .i _ n => ⟨0 ≤ n ∧ n < xs.length ∧ (T e).map TI.size = some sz, .pt g.atop n.toNat (xs.getD n.toNat []) 0⟩
 | some (.arr m e), .ptr id off, .i _ n => ⟨0 ≤ n ∧ n < m ∧ (T e).isSome, .ptr id (off + n.toNat * ((T e).map TI.size).getD 0)⟩
 | some (.arr m e), .pt g j cells off, .i _ n => ⟨0 ≤ n ∧ n < m ∧ (T e).isSome, .pt g j cells (off + n.toNat * ((T e).map TI.size).getD 0)⟩
 | some (.slice e), .bs id off m _, .i _ n => ⟨0 ≤ n ∧ n < m ∧ (T e).isSome, .ptr id (off + n.toNat * ((T e).map TI.size).getD 0)⟩
 | _, _, _ => .no
def qindex (T : Nat → Option TI) (t : Nat) (x ix : AV) : QR :=
 match ((T t).map TI.kind : Option Kind), x, ix with
 | some .str, .s x, .i _ n => ⟨0 ≤ n ∧ n < x.size, .i .u8 (x.data.getD n.toNat 0).toNat⟩
 | some (.arr m e), .agg cs, .i _ n => match T e with
  | some y => ⟨0 ≤ n ∧ n < m ∧ (qpart (isAggK y.kind) y.size (n.toNat * y.size) cs).ok, (qpart (isAggK y.kind) y.size (n.toNat * y.size) cs).v⟩
  | none => .no
 | _, _, _ => .no
def qbound (d : Int) : Option AV → Option Int
 | none => some d
 | some (.i _ n) => some n
 | _ => none
def Gh.part : Gh → Gh
 | .vw q _ => .vw q false
 | .nl => .nl
 | _ => .fro
def qslice (T : Nat → Option TI) (t : Nat) (x : AV) (lo hi : Option AV) : QR :=
 match ((T t).map TI.kind : Option Kind), x with
 | some .str, .s x => match qbound 0 lo, qbound x.size hi with
  | some l, some h => ⟨0 ≤ l ∧ l ≤ h ∧ h ≤ x.size, .s (x.extract l.toNat h.toNat)⟩
  | _, _ => .no
 | some (.slice e), .sl g sz xs => match qbound 0 lo, qbound xs.length hi with
  | some l, some h => ⟨0 ≤ l ∧ l ≤ h ∧ h ≤ xs.length ∧ (T e).map TI.size = some sz, .sl g.part sz ((xs.take h.toNat).drop l.toNat)⟩
  | _, _ => .no
 | some (.slice e), .bs id off n cap => match qbound 0 lo, qbound n hi with
  | some l, some h => ⟨0 ≤ l ∧ l ≤ h ∧ h ≤ cap ∧ n ≤ cap ∧ (T e).isSome, .bs id (off + (if cap = l.toNat then 0 else l.toNat * ((T e).map TI.size).getD 0)) (h.toNat - l.toNat) (cap - l.toNat)⟩
  | _, _ => .no
 | _, _ => .no
def qslice3 (T : Nat → Option TI) (t : Nat) (x : AV) (hi mx : AV) : QR :=
 match ((T t).map TI.kind : Option Kind), x, hi, mx with
 | some (.slice e), .sl .fro sz xs, .i _ h, .i _ m => ⟨h = m ∧ 0 ≤ m ∧ m ≤ xs.length ∧ (T e).map TI.size = some sz, .sl .cut sz (xs.take m.toNat)⟩
 | _, _, _, _ => .no
def qsliceC (T : Nat → Option TI) (t : Nat) (x lo hi mx : AV) : QR :=
 match ((T t).map TI.kind : Option Kind), x, lo, hi, mx with
 | some (.slice e), .bs id off _ cap, .i _ l, .i _ h, .i _ m => ⟨0 ≤ l ∧ l ≤ h ∧ h ≤ m ∧ m ≤ cap ∧ (T e).isSome, .bs id (off + (if m.toNat = l.toNat then 0 else l.toNat * ((T e).map TI.size).getD 0)) (h.toNat - l.toNat) (m.toNat - l.toNat)⟩
 | _, _, _, _, _ => .no
def qcap (k : Option Kind) (x : AV) : QR :=
 match k, x with
 | some (.slice _), .bs _ _ _ n => ⟨True, .i .i64 n⟩
 | some (.slice _), .sl .nl _ xs => ⟨True, .i .i64 xs.length⟩
 | some (.slice _), .sl .cut _ xs => ⟨True, .i .i64 xs.length⟩
 | some (.arr n _), _ => ⟨True, .i .i64 n⟩
 | _, _ => .no
def qcapA (T : Nat → Option TI) : List AV → List Nat → QR
 | [x], [t] => qcap ((T t).map TI.kind) x
 | _, _ => .no
def qlen (k : Option Kind) (x : AV) : QR :=
 match k, x with
 | some .str, .s x => ⟨True, .i .i64 x.size⟩
 | some (.slice _), .sl _ _ xs => ⟨True, .i .i64 xs.length⟩
 | some (.slice _), .bs _ _ n _ => ⟨True, .i .i64 n⟩
 | some (.arr n _), _ => ⟨True, .i .i64 n⟩
 | _, _ => .no
def qlenA (T : Nat → Option TI) : List AV → List Nat → QR
 | [x], [t] => qlen ((T t).map TI.kind) x
 | _, _ => .no
def qmaxL (k : IntKind) : Int → List AV → QR
 | m, [] => ⟨True, .i k m⟩
 | m, .i _ y :: r => qmaxL k (if y > m then y else m) r
 | _, _ => .no
def qminL (k : IntKind) : Int → List AV → QR
 | m, [] => ⟨True, .i k m⟩
 | m, .i _ y :: r => qminL k (if y < m then y else m) r
 | _, _ => .no
def qmax : List AV → QR
 | .i k m :: r => qmaxL k m r
 | _ => .no
def qmin : List AV → QR
 | .i k m :: r => qminL k m r
 | _ => .no
def qpick : AV → AV → AV → QR
 | .b c, .b x, .b y => ⟨True, .b (if c then x else y)⟩
 | .b true, x, _ => ⟨True, x⟩
 | .b false, _, y => ⟨True, y⟩
 | _, _, _ => .no
def AV.hole : AV → Bool
 | .any | .tup _ => true
 | _ => false
def flatA : AV → List AV
 | .agg cs => cs
 | x => [x]
def spliceL (cs : List AV) (off : Nat) (new : List AV) : List AV := cs.take off ++ new ++ cs.drop (off + new.length)
def fillL (place : Nat → Option (Nat × Nat)) (cs : List AV) : List (Nat × AV) → Option (List AV)
 | [] => some cs
 | (i, x) :: rest =>
  match place i with
  | none => none
  | some (off, size) => if x.hole ∨ (flatA x).length ≠ size ∨ off + (flatA x).length > cs.length then none else fillL place (spliceL cs off (flatA x)) rest
def strPlace (T : Nat → Option TI) (fs : List (Nat × Nat)) (i : Nat) : Option (Nat × Nat) :=
 match fs[i]? with
 | some (o, u) => (T u).map fun z => (o, z.size)
 | none => none
def qbuild (T : Nat → Option TI) (t : Nat) (parts : List (Nat × AV)) : QR :=
 match T t with
 | some y =>
  let place : Option (Nat → Option (Nat × Nat)) := match y.kind with
   | .strct fs => some (strPlace T fs)
   | .arr _ e => (T e).map fun z => fun i => some (i * z.size, z.size)
   | _ => none
  match place with
  | some pl => match fillL pl y.zero parts with
   | some cs => ⟨(match y.kind with | .strct fs => ∀ f ∈ fs, (T f.2).isSome | _ => True), .agg cs⟩
   | none => .no
  | none => .no
 | none => .no
def qnil (x : AV) : QR :=
 match x with
 | .ptr _ _ | .pt _ _ _ _ | .fn _ _ _ => ⟨True, x⟩
 | _ => .no
def qextract (x : AV) (k : Nat) : QR :=
 match x with
 | .tup vs => ⟨k < vs.length, vs.getD k .any⟩
 | _ => .no
def qop (T : Nat → Option TI) (st : St) (ty : Nat) : Op → QR
 | .move x => ⟨True, st.rd (((T ty).map fun y => match y.kind with | .slice e => ((T e).map TI.size).getD 0 | _ => 0).getD 0) x⟩
 | .pick c a b => qpick (st.rd 0 c) (st.rd 0 a) (st.rd 0 b)
 | .binOp op t x y _ => qbin ((T t).map TI.kind) op (st.rd 0 x) (st.rd 0 y)
 | .unOp op _ x => qun op (st.rd 0 x)
 | .convert s d x => qconv T s d (st.rd 0 x)
 | .fieldAddr s x f => qfield T s f (st.rd 0 x)
 | .field s x f => qfieldv T s f (st.rd 0 x)
 | .load t x => qload T st t (st.rd 0 x)
 | .indexAddr t x ix => qindexAddr T t (st.rd 0 x) (st.rd 0 ix)
 | .index t x ix => qindex T t (st.rd 0 x) (st.rd 0 ix)
 | .slice t x lo hi none => qslice T t (st.rd 0 x) (lo.map (st.rd 0)) (hi.map (st.rd 0))
 | .slice t x none (some hi) (some mx) => qslice3 T t (st.rd 0 x) (st.rd 0 hi) (st.rd 0 mx)
 | .slice t x (some lo) (some hi) (some mx) => qsliceC T t (st.rd 0 x) (st.rd 0 lo) (st.rd 0 hi) (st.rd 0 mx)
 | .build t parts => qbuild T t (parts.toList.map fun p => (p.1, st.rd 0 p.2))
 | .nilCheck x => qnil (st.rd 0 x)
 | .extract x k => qextract (st.rd 0 x) k
 | .makeFunc (.func f) first cap => ⟨True, .fn f (first.toList.map (st.rd 0)) (cap.toList.map (st.rd 0))⟩
 | .call ⟨.builtin .len, args, ts⟩ => qlenA T (args.toList.map (st.rd 0)) ts.toList
 | .call ⟨.builtin .cap, args, ts⟩ => qcapA T (args.toList.map (st.rd 0)) ts.toList
 | .call ⟨.builtin .max, args, _⟩ => qmax (args.toList.map (st.rd 0))
 | .call ⟨.builtin .min, args, _⟩ => qmin (args.toList.map (st.rd 0))
 | _ => .no
end Go.AM
namespace Go.AM
theorem Dat.free {Pub : Nat → Prop} {w : World} {x : AV} {v : Value} (h : Dat Pub w x v) : x.free = true := by
 induction h with
 | agg cs arr _ _ ih =>
  rw [AV.free, AV.freeL_iff]
  intro c hc
  obtain ⟨k, hk⟩ := List.getElem?_of_mem hc
  exact ih k c hk
 | _ => rfl
theorem Dat.val {E : Env} {x : AV} {v : Value} (h : Dat E.Pub E.w x v) : ∀ p, Val E p x v := by
 induction h with
 | b x => exact fun p => .b p x
 | i k n => exact fun p => .i p k n
 | s x => exact fun p => .s p x
 | nil => exact fun p => .nil p
 | nofn => exact fun p => .nofn p
 | ab => exact fun p => .ab p _ _ _ _
 | mp => exact fun p => .mp p _
 | it => exact fun p => .it p _
 | sl0 sz => exact fun p => .sl0 p _ _ (by simp) trivial
 | sl1 sz a cap => exact fun p => .sl1 p sz a cap
 | sl sz xs bk off cap U hp hc hl hU h1 hd _ => exact fun p => .sl p .fro sz xs bk off cap hc ⟨hl, fun k c hk => ⟨U k, hU k c hk, hd k c hk, h1 k c hk⟩⟩ hp trivial
 | agg cs arr hs _ ih => exact fun p => .agg p cs arr hs fun k c hk => ih k c hk _
section
variable {P : Program} {E : Env}
def RunsTo (P : Program) (E : Env) (s : Sem Value) (x : AV) : Prop := x.free = true ∧ ∃ v, s.run P E.w = .ok v E.w ∧ Val E .no x v
theorem val_int {x : AV} {p k n v} (hx : x = .i k n) (h : Val E p x v) : v = .int k n := by subst hx; cases h; rfl
theorem val_str {x : AV} {p b v} (hx : x = .s b) (h : Val E p x v) : v = .string b := by subst hx; cases h; rfl
theorem ibin_sound (op : BinOp) (k : IntKind) (a b : Int) (t : TypeId) (h : (ibin op k a b).ok) (hs : op ≠ .shl) (hr : op ≠ .shr) : RunsTo P E (binOp op t (.int k a) (.int k b)) (ibin op k a b).v := by
 cases op <;> simp only [ibin] at h ⊢ <;> first
  | (exact h.elim)
  | (exact absurd rfl hs)
  | (exact absurd rfl hr)
  | (refine ⟨rfl, _, ?_, .i _ _ _⟩; simp [binOp, Op.intArith, Op.intDiv, Op.intBits, bits, h]; done)
  | (refine ⟨rfl, _, ?_, .b _ _⟩; simp [binOp, Op.intCmp]; done)
theorem ishift_sound (op : BinOp) (k yk : IntKind) (a b : Int) (t : TypeId) (h : (ishift op k a b).ok) : RunsTo P E (binOp op t (.int k a) (.int yk b)) (ishift op k a b).v := by
 cases op <;> simp only [ishift] at h ⊢ <;> first
  | (exact h.elim)
  | (refine ⟨rfl, _, ?_, .i _ _ _⟩
     have hb : ¬ b < 0 := by omega
     simp [binOp, Op.shift, hb]; done)
theorem sbin_sound (op : BinOp) (x y : ByteArray) (t : TypeId) (h : (sbin op x y).ok) : RunsTo P E (binOp op t (.string x) (.string y)) (sbin op x y).v := by
 cases op <;> simp only [sbin] at h ⊢ <;> first
  | (exact h.elim)
  | (refine ⟨rfl, _, ?_, .b _ _⟩; simp [binOp, Op.stringOp]; done)
  | (refine ⟨rfl, _, ?_, .s _ _⟩
     have hb : ¬ (((x.size + y.size : Nat) : Int) > IntKind.i64.max) := by
       have : IntKind.i64.max = 9223372036854775807 := rfl
       omega
     simp only [binOp, Op.stringOp, hb, if_false]; rfl)
theorem kind_of_map {t : TypeId} {k : Kind} (h : (ti P t).map TI.kind = some k) : ∃ x, ∃ _ : TyOk P t x, x.kind = k := by
 cases hx : ti P t with
 | none => simp [hx] at h
 | some x =>
  obtain ⟨o⟩ := ti_ok hx
  exact ⟨x, o, by simpa [hx] using h⟩
theorem size_of_map {t : TypeId} {n : Nat} (h : (ti P t).map TI.size = some n) : ∃ x, ∃ _ : TyOk P t x, x.size = n := by
 cases hx : ti P t with
 | none => simp [hx] at h
 | some x =>
  obtain ⟨o⟩ := ti_ok hx
  exact ⟨x, o, by simpa [hx] using h⟩
theorem kind_bool {d : TypeDesc} (h : kindOf d = .bool) : d = .bool := by cases d <;> simp [kindOf] at h; rfl
theorem kind_str {d : TypeDesc} (h : kindOf d = .str) : d = .string := by cases d <;> simp [kindOf] at h; rfl
theorem kind_int {d : TypeDesc} {k} (h : kindOf d = .int k) : d = .int k := by cases d <;> simp [kindOf] at h; subst h; rfl
theorem kind_ptr {d : TypeDesc} {k} (h : kindOf d = .ptr k) : d = .pointer k := by cases d <;> simp [kindOf] at h; subst h; rfl
theorem kind_slice {d : TypeDesc} {k} (h : kindOf d = .slice k) : d = .slice k := by cases d <;> simp [kindOf] at h; subst h; rfl
theorem kind_arr {d : TypeDesc} {n k} (h : kindOf d = .arr n k) : d = .array n k := by cases d <;> simp [kindOf] at h; obtain ⟨rfl, rfl⟩ := h; rfl
theorem kind_strct {d : TypeDesc} {fs} (h : kindOf d = .strct fs) : ∃ f, d = .struct f ∧ fs = f.toList.map fun f => (f.offset, f.type) := by
 cases d <;> simp [kindOf] at h; exact ⟨_, rfl, h.symm⟩
theorem eqGuard_run {op : BinOp} {t : TypeId} {x y : Operand} {a b : Value} (h1 : ∀ cs, a ≠ .agg cs) (h2 : a ≠ .nilIface) (w : World) : (eqGuard op t x y a b).run P w = .ok () w := by
 unfold eqGuard
 cases a <;> first | (exact absurd rfl h2) | (exact absurd rfl (h1 _)) | (cases op <;> rfl)
theorem equal_bool {t : TypeId} (h : P.underlying t = some .bool) (a b : Bool) (w : World) : (Op.equal t (.bool a) (.bool b)).run P w = .ok (a == b) w := by
 show (Op.equalIn (9999 + 1) t (.bool a) (.bool b)).run P w = _
 rw [Op.equalIn]; simp [run_underlying h]
theorem equal_ptr {t e : TypeId} (h : P.underlying t = some (.pointer e)) (w : World) : (Op.equal t (.pointer none) (.pointer none)).run P w = .ok true w ∧
  (∀ a, (Op.equal t (.pointer none) (.pointer (some a))).run P w = .ok false w) ∧ (∀ a, (Op.equal t (.pointer (some a)) (.pointer none)).run P w = .ok false w) := by
 have e0 : ∀ x y, Op.equal t x y = Op.equalIn (9999 + 1) t x y := fun _ _ => rfl
 refine ⟨?_, fun a => ?_, fun a => ?_⟩ <;> rw [e0, Op.equalIn] <;> simp [run_underlying h]
theorem qpeq_sound {t e : Nat} {xo yo : Operand} {op : BinOp} (b : Bool) {x y : AV} {vx vy : Value} (hk : (ti P t).map TI.kind = some (.ptr e)) (ho : op = (if b then BinOp.eql else .neq))
  (hx : Val E .no x vx) (hy : Val E .no y vy) (h : (qpeq b x y).ok) : RunsTo P E (do eqGuard op t xo yo vx vy; binOp op t vx vy) (qpeq b x y).v := by
 obtain ⟨z, o, hz⟩ := kind_of_map hk
 have hd := kind_ptr (o.kind.trans hz)
 obtain ⟨h1, h2, h3⟩ := equal_ptr (P := P) (o.und.trans (congrArg some hd)) E.w
 have hb : ∀ (u v : Option Addr) (r : Bool), (Op.equal t (.pointer u) (.pointer v)).run P E.w = .ok r E.w → (binOp op t (.pointer u) (.pointer v)).run P E.w = .ok (.bool (if b then r else !r)) E.w := by
  intro u v r hr
  subst ho
  cases b
  ·simp only [Bool.false_eq_true, if_false, binOp, Sem.run_bind, hr, Result.andThen_ok, Sem.run_pure]
  ·simp only [if_true, binOp, Sem.run_bind, hr, Result.andThen_ok, Sem.run_pure]
 have hg : ∀ (u v : Option Addr), (eqGuard op t xo yo (.pointer u) (.pointer v)).run P E.w = .ok () E.w := fun u v => eqGuard_run (by simp) (by simp) _
 unfold qpeq at h ⊢
 split at h <;> first
  | (exact h.elim)
  | (cases hx; cases hy
     refine ⟨rfl, _, ?_, .b _ _⟩
     rw [Sem.run_bind, hg, Result.andThen_ok]
     first
       | (rw [hb _ _ _ h1]; cases b <;> rfl)
       | (rw [hb _ _ _ (h2 _)]; cases b <;> rfl)
       | (rw [hb _ _ _ (h3 _)]; cases b <;> rfl))
theorem qbin_sound (op : BinOp) (t : TypeId) (xo yo : Operand) (x y : AV) (vx vy : Value) (hx : Val E .no x vx) (hy : Val E .no y vy)
  (h : (qbin ((ti P t).map TI.kind) op x y).ok) : RunsTo P E (do eqGuard op t xo yo vx vy; binOp op t vx vy) (qbin ((ti P t).map TI.kind) op x y).v := by
 have key : (∀ cs, vx ≠ .agg cs) → vx ≠ .nilIface → RunsTo P E (binOp op t vx vy) (qbin ((ti P t).map TI.kind) op x y).v →
   RunsTo P E (do eqGuard op t xo yo vx vy; binOp op t vx vy) (qbin ((ti P t).map TI.kind) op x y).v := by
  rintro h1 h2 ⟨hf, v, hr, hv⟩
  refine ⟨hf, v, ?_, hv⟩
  simp [Sem.run_bind, eqGuard_run h1 h2, hr]
 unfold qbin at h ⊢ key
 split at h
 ·
  rename_i k a k' b
  cases hx; cases hy
  refine key (by simp) (by simp) ?_
  split at h
  ·exact ishift_sound .shl _ _ _ _ _ h
  ·exact ishift_sound .shr _ _ _ _ _ h
  ·rename_i hs hr
   obtain ⟨rfl, h⟩ := h
   exact ibin_sound op _ _ _ _ h hs hr
 ·cases hx; cases hy
  exact key (by simp) (by simp) (sbin_sound op _ _ _ h)
 ·cases hx; cases hy
  refine key (by simp) (by simp) ?_
  split at h
  ·obtain ⟨z, o, hz⟩ := kind_of_map h
   have hd := kind_bool (o.kind.trans hz)
   refine ⟨rfl, _, ?_, .b _ _⟩
   simp [binOp, equal_bool (o.und.trans (congrArg some hd))]
  ·obtain ⟨z, o, hz⟩ := kind_of_map h
   have hd := kind_bool (o.kind.trans hz)
   refine ⟨rfl, _, ?_, .b _ _⟩
   simp [binOp, equal_bool (o.und.trans (congrArg some hd))]
  ·exact h.elim
 ·rename_i hn1 hn2 hn3
  split at h
  ·rename_i e hk
   exact qpeq_sound true hk rfl hx hy h
  ·rename_i e hk
   exact qpeq_sound false hk rfl hx hy h
  ·exact h.elim
theorem qun_sound (op : UnOp) (x : AV) (vx : Value) (hx : Val E .no x vx) (h : (qun op x).ok) : RunsTo P E (Op.unary op vx) (qun op x).v := by
 unfold qun at h ⊢
 split at h
 ·cases hx; exact ⟨rfl, _, by simp [Op.unary, Op.intArith], .i _ _ _⟩
 ·cases hx; exact ⟨rfl, _, by simp [Op.unary], .b _ _⟩
 ·exact h.elim
theorem bytesL_some : ∀ {xs : List (List AV)} {l : List UInt8}, bytesL xs = some l → ∃ ns : List Int, xs = ns.map (fun n => [.i .u8 n]) ∧ l = ns.map fun n => UInt8.ofNat n.toNat := by
 intro xs
 induction xs with
 | nil => intro l h; cases h; exact ⟨[], rfl, rfl⟩
 | cons x xs ih =>
  intro l h
  unfold bytesL at h
  split at h
  ·rename_i h1; cases h1
  ·rename_i n r h1
   cases h1
   obtain ⟨l', hl', rfl⟩ := Option.map_eq_some_iff.1 h
   obtain ⟨ns, rfl, rfl⟩ := ih hl'
   exact ⟨n :: ns, rfl, rfl⟩
  ·cases h
theorem flat_ints (ns : List Int) : (ns.map fun n => [AV.i .u8 n]).flatten = ns.map (AV.i .u8) := by
 induction ns with
 | nil => rfl
 | cons n ns ih => simp only [List.map_cons, List.flatten_cons, ih]; rfl
theorem loadCells_zero (a : Addr) (w : World) : (loadCells a 0).run P w = .ok #[] w := by
 have := run_loadCells_list (P := P) w a [] (fun j v hj => by simp at hj)
 simpa using this
theorem qconv_sound (s d : TypeId) (x : AV) (vx : Value) (hx : Val E .no x vx) (h : (qconv (ti P) s d x).ok) :
  RunsTo P E (convert s d vx) (qconv (ti P) s d x).v := by
 unfold qconv at h ⊢
 split at h
 ·rename_i ks k k' n hks hkd
  obtain ⟨zs, os, hzs⟩ := kind_of_map hks
  obtain ⟨zd, od, hzd⟩ := kind_of_map hkd
  have hd := kind_int (od.kind.trans hzd)
  cases hx
  refine ⟨rfl, _, ?_, .i _ _ _⟩
  simp [convert, os.underlying, od.underlying, hd, Conv.intToInt]
 ·rename_i ks b hks hkd
  obtain ⟨zs, os, hzs⟩ := kind_of_map hks
  obtain ⟨zd, od, hzd⟩ := kind_of_map hkd
  have hd := kind_str (od.kind.trans hzd)
  cases hx
  refine ⟨rfl, _, ?_, .s _ _⟩
  cases hdd : os.d <;> simp [convert, os.underlying, od.underlying, hd, hdd]
 ·rename_i e g sz xs hks hkd
  obtain ⟨zs, os, hzs⟩ := kind_of_map hks
  obtain ⟨zd, od, hzd⟩ := kind_of_map hkd
  have hd := kind_str (od.kind.trans hzd)
  have hs := kind_slice (os.kind.trans hzs)
  have hus : P.underlying s = some (.slice e) := os.und.trans (congrArg some hs)
  have hud : P.underlying d = some .string := od.und.trans (congrArg some hd)
  unfold qbytes at h ⊢
  split at h
  ·rename_i l hke hl
   obtain ⟨ze, oe, hze⟩ := kind_of_map hke
   have hue : P.underlying e = some (.int .u8) := oe.und.trans (congrArg some (kind_int (oe.kind.trans hze)))
   obtain ⟨ns, rfl, rfl⟩ := bytesL_some hl
   refine ⟨rfl, .string ⟨(ns.map fun n => UInt8.ofNat n.toNat).toArray⟩, ?_, .s _ _⟩
   have run : ∀ (a : Addr) (cap : Nat), ((loadCells a ns.length).run P E.w = .ok (ns.map (Value.int .u8)).toArray E.w) → (convert s d (.slice (some a) ns.length cap)).run P E.w = .ok (.string ⟨(ns.map fun n => UInt8.ofNat n.toNat).toArray⟩) E.w := by
    intro a cap hl
    rw [run_convert_bytes_string E.w s d e _ ns.length cap hus hue hud, run_bytesToString E.w _ ns.length cap ns hl, foldl_push_bytes]
    simp [ByteArray.empty, ByteArray.emptyWithCapacity]
    rfl
   have nil0 : ∀ (a : Addr) (cap : Nat), ns = [] → (convert s d (.slice (some a) 0 cap)).run P E.w = .ok (.string ⟨(ns.map fun n => UInt8.ofNat n.toNat).toArray⟩) E.w := by
    intro a cap h0
    subst h0
    exact run a cap (loadCells_zero a E.w)
   generalize hX : (ns.map fun n => [AV.i .u8 n]) = X at hx
   cases hx with
   | sl1 => exact nil0 _ _ (by simpa using hX)
   | sl2 => exact nil0 _ _ (by simpa using hX)
   | sl0 =>
    have h0 : ns = [] := by simpa using hX
    subst h0
    exact run_convert_bytes_nil E.w s e hus hue 0 0 d hud
   | sl _ _ _ _ bk off cap hc hr hg hat =>
    subst hX
    rw [show (ns.map fun n => [AV.i .u8 n]).length = ns.length by simp] at *
    refine run _ _ ?_
    have := run_loadCells_list (P := P) E.w ⟨bk, off, none⟩ (ns.map (Value.int .u8)) (fun j v hj => by
     rw [List.getElem?_map] at hj
     obtain ⟨n, hn, rfl⟩ := Option.map_eq_some_iff.1 hj
     obtain ⟨u, hu, hd, _⟩ := hr.2 j (.i .u8 n) (by rw [flat_ints, List.getElem?_map, hn]; rfl)
     rw [add_none, hu]
     cases hd; rfl)
    simpa using this
  ·exact h.elim
 ·exact h.elim
theorem fieldOf_ok {s f o n : Nat} {g : Bool} (h : fieldOf (ti P) s f = some (o, n, g)) :
  ∃ (x : TI) (ox : TyOk P s x) (fl : Array Field) (fd : Field) (y : TI) (_ : TyOk P fd.type y), ox.d = .struct fl ∧ fl[f]? = some fd ∧ fd.offset = o ∧ y.size = n ∧ isAggK y.kind = g := by
 unfold fieldOf at h
 split at h
 ·rename_i x hx
  split at h
  ·rename_i fs hk
   split at h
   ·rename_i o' t hf
    obtain ⟨ox⟩ := ti_ok hx
    obtain ⟨fl, hd, hfs⟩ := kind_strct (ox.kind.trans hk)
    subst hfs
    rw [List.getElem?_map] at hf
    obtain ⟨fd, hfd, he⟩ := Option.map_eq_some_iff.1 hf
    obtain ⟨y, hy, he2⟩ := Option.map_eq_some_iff.1 h
    obtain ⟨rfl, rfl⟩ := Prod.mk.inj he
    obtain ⟨oy⟩ := ti_ok hy
    obtain ⟨rfl, h3⟩ := Prod.mk.inj he2
    obtain ⟨rfl, rfl⟩ := Prod.mk.inj h3
    exact ⟨x, ox, fl, fd, y, oy, hd, by simpa using hfd, rfl, rfl, rfl⟩
   ·cases h
  ·cases h
 ·cases h
theorem qfield_sound (s f : Nat) (x : AV) (vx : Value) (hx : Val E .no x vx) (h : (qfield (ti P) s f x).ok) : RunsTo P E (Instr.fieldAt s vx f) (qfield (ti P) s f x).v := by
 unfold qfield at h ⊢
 split at h
 ·rename_i o n g id off hf
  obtain ⟨z, oz, fl, fd, y, oy, h1, h2, rfl, rfl, rfl⟩ := fieldOf_ok hf
  have h : y.size ≠ 0 := h
  cases hx
  refine ⟨rfl, _, ?_, .ptr _ _ _⟩
  simp [Instr.fieldAt, oz.underlying, h1, h2, Instr.sureAddr, fieldPlace, oy.sizeOf, h, add_none]
 ·rename_i o n g gh ix cells off hf
  obtain ⟨z, oz, fl, fd, y, oy, h1, h2, rfl, rfl, rfl⟩ := fieldOf_ok hf
  have h : y.size ≠ 0 := h
  cases hx with
  | pt _ _ _ _ _ bk o' hc hg ha =>
   refine ⟨rfl, _, ?_, .pt _ gh ix cells (off + fd.offset) bk o' hc hg ha⟩
   simp [Instr.fieldAt, oz.underlying, h1, h2, Instr.sureAddr, fieldPlace, oy.sizeOf, h, add_none, Nat.add_assoc]
 ·exact h.elim
theorem drop_take_get {α : Type} (cs : List α) (off n k : Nat) (c : α) (h : ((cs.drop off).take n)[k]? = some c) : k < n ∧ cs[off + k]? = some c := by
 rw [List.getElem?_take] at h
 split at h
 ·rename_i hk; exact ⟨hk, by simpa [List.getElem?_drop] using h⟩
 ·cases h
theorem qpart_sound {t : TypeId} {y : TI} (oy : TyOk P t y) (off : Nat) (cs : List AV) (arr : Array Value) (hx : Val E .no (.agg cs) (.agg arr)) (hfree : AV.freeL cs = true)
  (h : (qpart (isAggK y.kind) y.size off cs).ok) : RunsTo P E (part t arr off) (qpart (isAggK y.kind) y.size off cs).v := by
 cases hx with
 | agg _ _ _ hs hk =>
 unfold qpart at h ⊢
 cases hg : isAggK y.kind
 ·simp only [hg] at h ⊢
  have h : off < cs.length := h
  have hc : cs[off]? = some (cs.getD off .any) := by simp [List.getD_eq_getElem?_getD, List.getElem?_eq_getElem h]
  refine ⟨AV.freeL_get hfree hc, arr.getD off undef, ?_, hk _ _ hc⟩
  have : off < arr.size := by omega
  simp [part, oy.isAgg, hg, Array.getElem?_eq_getElem this]
 ·simp only [hg] at h ⊢
  have h : off + y.size ≤ cs.length := h
  refine ⟨?_, .agg (arr.extract off (off + y.size)), by simp [part, oy.isAgg, hg, oy.sizeOf], .agg _ _ _ ?_ ?_⟩
  ·rw [AV.free, AV.freeL_iff]
   intro c hc
   exact AV.freeL_iff.1 hfree c (List.mem_of_mem_drop (List.mem_of_mem_take hc))
  ·simp; omega
  ·intro k c hkk
   obtain ⟨h1, h2⟩ := drop_take_get _ _ _ _ _ hkk
   have := hk _ _ h2
   have he : (arr.extract off (off + y.size)).getD k undef = arr.getD (off + k) undef := by
    have h4 : k < (arr.extract off (off + y.size)).size := by simp; omega
    have h5 : off + k < arr.size := by omega
    rw [Array.getD_eq_getD_getElem?, Array.getD_eq_getD_getElem?, Array.getElem?_eq_getElem h4, Array.getElem?_eq_getElem h5]
    simp [Array.getElem_extract]
   rw [he]; exact this
theorem qfieldv_sound (s f : Nat) (x : AV) (vx : Value) (hx : Val E .no x vx) (hfree : x.free = true) (h : (qfieldv (ti P) s f x).ok) : RunsTo P E (Instr.field s vx f) (qfieldv (ti P) s f x).v := by
 unfold qfieldv at h ⊢
 split at h
 ·rename_i o n g cs hf
  obtain ⟨z, oz, fl, fd, y, oy, h1, h2, rfl, rfl, rfl⟩ := fieldOf_ok hf
  have hx0 := hx
  cases hx with
  | agg _ _ arr hs hk =>
   obtain ⟨hf2, v, hr, hv⟩ := qpart_sound oy fd.offset cs arr hx0 (by simpa [AV.free] using hfree) h
   refine ⟨hf2, v, ?_, hv⟩
   simp [Instr.field, oz.underlying, h1, h2, asAgg, hr]
 ·exact h.elim
theorem load_cells {w : World} (bk off : Nat) (vs : List Value) (h : ∀ j v, vs[j]? = some v → w.cell? ⟨bk, off + j, none⟩ = some v) :
  (loadCells ⟨bk, off, none⟩ vs.length).run P w = .ok vs.toArray w :=
 run_loadCells_list w _ vs fun j v hv => by rw [add_none]; exact h j v hv
theorem loadVar_agg {t : TypeId} {y : TI} (oy : TyOk P t y) (hg : isAggK y.kind = true) {w : World} (bk off : Nat) (vs : List Value) (hl : vs.length = y.size)
  (h : ∀ j v, vs[j]? = some v → w.cell? ⟨bk, off + j, none⟩ = some v) : (loadVar t ⟨bk, off, none⟩).run P w = .ok (.agg vs.toArray) w := by
 simp only [loadVar, Sem.run_bind, oy.isAgg, hg, Result.andThen_ok, if_true, oy.sizeOf]
 rw [← hl, load_cells bk off vs h]
 simp
theorem loadVar_one {t : TypeId} {y : TI} (oy : TyOk P t y) (hg : isAggK y.kind = false) {w : World} {bk off : Nat} {v : Value}
  (h : w.cell? ⟨bk, off, none⟩ = some v) : (loadVar t ⟨bk, off, none⟩).run P w = .ok v w := by
 simp [loadVar, oy.isAgg, hg, h]
theorem qload_sound {N : Nat} (R : Rel N E) (t : Nat) (x : AV) (vx : Value) (hx : Val E .no x vx) (h : (qload (ti P) E.st t x).ok) :
  RunsTo P E (Instr.loadAt t vx) (qload (ti P) E.st t x).v := by
 unfold qload at h ⊢
 split at h
 ·rename_i y id off hy
  obtain ⟨oy⟩ := ti_ok hy
  split at h
  ·rename_i cs hb
   obtain ⟨h1, arr, T, h2, h3, h4⟩ := R.boxes id cs hb
   cases hx
   have hcell : ∀ j c, cs[j]? = some c → E.w.cell? ⟨E.β id, j, none⟩ = some (arr.getD j undef) := by
    intro j c hj
    have : j < arr.size := by have := (List.getElem?_eq_some_iff.1 hj).1; omega
    simp [World.cell?, h2, Array.getElem?_eq_getElem this]
   have hview : ∀ j c, cs[j]? = some c → Val E .no (c.view (.cell id j)) (arr.getD j undef) := by
    intro j c hj
    refine (h4 j c hj).view (fun π sz xs he => ?_) .no
    cases π with
    | nil =>
     refine .inr ⟨?_, ?_⟩
     ·show ((E.st.boxes id).getD []).getD j .any = _
      rw [hb]; exact (getD_get hj).trans he
     ·show E.w.cell? ⟨E.β id, j, none⟩ = _
      rw [hcell j c hj]; rfl
    | cons k π =>
     have hs : ∀ (q : List Nat), (Place.no).subs q = .no := by
      intro q; induction q with
      | nil => rfl
      | cons _ _ ih => simpa [Place.subs, Place.sub] using ih
     exact .inl (by simp [Place.subs, Place.sub, hs])
   cases hg : isAggK y.kind
   ·simp only [hg] at h ⊢
    have h : off < cs.length := h
    have hc : cs[off]? = some (cs.getD off .any) := by simp [List.getD_eq_getElem?_getD, List.getElem?_eq_getElem h]
    refine ⟨AV.view_free _ _, _, ?_, hview _ _ hc⟩
    simp only [Instr.loadAt, Sem.run_bind, Instr.sureAddr, Sem.run_pure, Result.andThen_ok]
    exact loadVar_one oy hg (hcell _ _ hc)
   ·simp only [hg] at h ⊢
    have h : off + y.size ≤ cs.length := h
    refine ⟨?_, .agg ((arr.toList.drop off).take y.size).toArray, ?_, .agg _ _ _ ?_ ?_⟩
    ·rw [AV.free, AV.freeL_iff]
     intro c hc
     obtain ⟨k, hk⟩ := List.getElem?_of_mem hc
     rw [AV.trC_get] at hk
     obtain ⟨c', _, rfl⟩ := Option.map_eq_some_iff.1 hk
     exact AV.view_free _ _
    ·simp only [Instr.loadAt, Sem.run_bind, Instr.sureAddr, Sem.run_pure, Result.andThen_ok]
     refine loadVar_agg oy hg _ _ _ (by simp; omega) fun j v hj => ?_
     obtain ⟨h5, h6⟩ := drop_take_get _ _ _ _ _ hj
     have h7 : off + j < cs.length := by omega
     rw [hcell (off + j) cs[off + j] (List.getElem?_eq_getElem h7)]
     have h8 : off + j < arr.size := by omega
     simp only [Array.getElem?_toList, Array.getElem?_eq_getElem h8, Option.some.injEq] at h6
     simp [Array.getElem?_eq_getElem h8, h6]
    ·rw [AV.trC_length]; simp; omega
    ·intro k c hk
     rw [AV.trC_get] at hk
     obtain ⟨c', hc', rfl⟩ := Option.map_eq_some_iff.1 hk
     obtain ⟨h5, h6⟩ := drop_take_get _ _ _ _ _ hc'
     have := hview _ _ h6
     have he : ((arr.toList.drop off).take y.size).toArray.getD k undef = arr.getD (off + k) undef := by
      have h7 : off + k < arr.size := by have := (List.getElem?_eq_some_iff.1 h6).1; omega
      simp [h5, Array.getElem?_eq_getElem h7]
     rw [he]; exact this
  ·exact h.elim
 ·rename_i y g ix cells off hy
  obtain ⟨oy⟩ := ti_ok hy
  cases hx with
  | pt _ _ _ _ _ bk o hc hg ha =>
  unfold qpart at h ⊢
  cases hga : isAggK y.kind
  ·simp only [hga] at h ⊢
   have h : off < cells.length := h
   have hcc : cells[off]? = some (cells.getD off .any) := by simp [List.getD_eq_getElem?_getD, List.getElem?_eq_getElem h]
   obtain ⟨u, hu, hd⟩ := hc _ _ hcc
   refine ⟨hd.1.free, u, ?_, hd.1.val _⟩
   simp only [Instr.loadAt, Sem.run_bind, Instr.sureAddr, Sem.run_pure, Result.andThen_ok]
   exact loadVar_one oy hga hu
  ·simp only [hga] at h ⊢
   have h : off + y.size ≤ cells.length := h
   have hex : ∃ U : Nat → Value, ∀ k c, cells[k]? = some c → E.w.cell? ⟨bk, o + k, none⟩ = some (U k) ∧ Dat E.Pub E.w c (U k) := by
    refine ⟨fun k => (E.w.cell? ⟨bk, o + k, none⟩).getD undef, fun k c hk => ?_⟩
    obtain ⟨u, hu, hd⟩ := hc k c hk
    simp only [hu, Option.getD_some]; exact ⟨trivial, hd.1⟩
   obtain ⟨U, hU⟩ := hex
   refine ⟨?_, .agg ((List.range y.size).map fun k => U (off + k)).toArray, ?_, .agg _ _ _ ?_ ?_⟩
   ·rw [AV.free, AV.freeL_iff]
    intro c hcm
    obtain ⟨k, hk⟩ := List.getElem?_of_mem (List.mem_of_mem_drop (List.mem_of_mem_take hcm))
    exact (hU k c hk).2.free
   ·simp only [Instr.loadAt, Sem.run_bind, Instr.sureAddr, Sem.run_pure, Result.andThen_ok]
    refine loadVar_agg oy hga _ _ _ (by simp) fun j v hj => ?_
    rw [List.getElem?_map] at hj
    obtain ⟨k, hk, rfl⟩ := Option.map_eq_some_iff.1 hj
    obtain ⟨h5, h6⟩ := List.getElem?_eq_some_iff.1 hk
    simp at h5 h6; subst h6
    have h7 : off + j < cells.length := by omega
    have := (hU (off + j) _ (List.getElem?_eq_getElem h7)).1
    rwa [Nat.add_assoc]
   ·simp; omega
   ·intro k c hk
    obtain ⟨h5, h6⟩ := drop_take_get _ _ _ _ _ hk
    have := (hU _ _ h6).2.val (E := E) .no
    have he : ((List.range y.size).map fun k => U (off + k)).toArray.getD k undef = U (off + k) := by simp [h5]
    rw [he]; exact this
 ·exact h.elim
end
end Go.AM
namespace Go.AM
section
variable {P : Program} {E : Env}
theorem flat_get {xs : List (List AV)} {sz : Nat} (hl : ∀ x ∈ xs, x.length = sz) : ∀ (i j : Nat) (x : List AV) (c : AV), xs[i]? = some x → x[j]? = some c → xs.flatten[i * sz + j]? = some c := by
 induction xs with
 | nil => intro i j x c h; simp at h
 | cons y ys ih =>
  intro i j x c hi hj
  have hy : y.length = sz := hl y (by simp)
  cases i with
  | zero =>
   simp at hi; subst hi
   have : j < y.length := (List.getElem?_eq_some_iff.1 hj).1
   simp only [List.flatten_cons, Nat.zero_mul, Nat.zero_add]
   rw [List.getElem?_append_left this]; exact hj
  | succ i =>
   simp only [List.flatten_cons]
   have e : (i + 1) * sz + j = y.length + (i * sz + j) := by rw [hy, Nat.add_mul]; omega
   rw [e, List.getElem?_append_right (Nat.le_add_right _ _), Nat.add_sub_cancel_left]
   exact ih (fun x hx => hl x (by simp [hx])) i j x c (by simpa using hi) hj
theorem qindexAddr_sound (t : Nat) (x ix : AV) (vx vi : Value) (hx : Val E .no x vx) (hi : Val E .no ix vi) (hf : x.free = true) (h : (qindexAddr (ti P) t x ix).ok) :
  RunsTo P E (Instr.indexAt t vx vi) (qindexAddr (ti P) t x ix).v := by
 unfold qindexAddr at h ⊢
 split at h
 ·rename_i e g sz xs k n hk
  obtain ⟨z, oz, hz⟩ := kind_of_map hk
  have hd := kind_slice (oz.kind.trans hz)
  obtain ⟨h0, h1, h2⟩ := h
  obtain ⟨y, oy, hy⟩ := size_of_map h2
  cases hi
  obtain ⟨n', rfl⟩ : ∃ n' : Nat, n = n' := ⟨n.toNat, by omega⟩
  have hlt : n' < xs.length := by omega
  have hc : xs[n']? = some (xs.getD n' []) := by simp [List.getD_eq_getElem?_getD, List.getElem?_eq_getElem hlt]
  refine ⟨rfl, ?_⟩
  cases hx with
  | sl1 => simp at hlt
  | sl2 => simp at hlt
  | sl0 _ _ _ _ _ => simp at hlt
  | sl _ _ _ _ bk off cap hcap hr hg ha =>
   refine ⟨.pointer (some ⟨bk, off + n' * sz, none⟩), ?_, ?_⟩
   ·simp [Instr.indexAt, oz.underlying, hd, asIntOf, oy.sizeOf, hy, add_none, hlt]
   ·have hcells : Cells E.Pub E.w bk (off + n' * sz) (xs.getD n' []) := by
     intro j c hj
     obtain ⟨u, hu, hdd⟩ := hr.2 (n' * sz + j) c (flat_get hr.1 n' j _ c hc hj)
     exact ⟨u, by rw [← hu]; congr 2; omega, hdd⟩
    have := Val.pt (E := E) .no g.atop n' (xs.getD n' []) 0 bk (off + n' * sz) hcells ?_ ?_
    ·simpa using this
    ·cases g with
     | own => simp [AV.free] at hf
     | nl => exact hg.elim
     | fro => exact hg
     | cut => exact hg.1
     | vw q ex => exact ⟨hg.1, fun he => ⟨sz, xs, off, cap, (hg.2 he).1, (hg.2 he).2, hc, rfl⟩⟩
    ·cases g with
     | vw q ex => exact ha
     | _ => trivial
 ·rename_i m e id off k n hk
  obtain ⟨z, oz, hz⟩ := kind_of_map hk
  have hd := kind_arr (oz.kind.trans hz)
  obtain ⟨h0, h1, h2⟩ := h
  obtain ⟨y, hy⟩ := Option.isSome_iff_exists.1 h2
  obtain ⟨oy⟩ := ti_ok hy
  cases hi; cases hx
  refine ⟨rfl, _, ?_, .ptr _ _ _⟩
  have h3 : 0 ≤ n ∧ n < (m : Int) := ⟨h0, h1⟩
  simp [Instr.indexAt, oz.underlying, hd, asIntOf, oy.sizeOf, hy, add_none, h3, Instr.sureAddr]
 ·rename_i m e g j cells off k n hk
  obtain ⟨z, oz, hz⟩ := kind_of_map hk
  have hd := kind_arr (oz.kind.trans hz)
  obtain ⟨h0, h1, h2⟩ := h
  obtain ⟨y, hy⟩ := Option.isSome_iff_exists.1 h2
  obtain ⟨oy⟩ := ti_ok hy
  cases hi
  cases hx with
  | pt _ _ _ _ _ bk o hc hg ha =>
   refine ⟨rfl, _, ?_, .pt _ _ _ _ _ bk o hc hg ha⟩
   have h3 : 0 ≤ n ∧ n < (m : Int) := ⟨h0, h1⟩
   simp [Instr.indexAt, oz.underlying, hd, asIntOf, oy.sizeOf, hy, add_none, h3, Instr.sureAddr, Nat.add_assoc]
 ·rename_i e id off m cap k n hk
  obtain ⟨z, oz, hz⟩ := kind_of_map hk
  have hd := kind_slice (oz.kind.trans hz)
  obtain ⟨h0, h1, h2⟩ := h
  obtain ⟨y, hy⟩ := Option.isSome_iff_exists.1 h2
  obtain ⟨oy⟩ := ti_ok hy
  cases hi; cases hx
  refine ⟨rfl, _, ?_, .ptr _ _ _⟩
  have h3 : 0 ≤ n ∧ n < (m : Int) := ⟨h0, h1⟩
  simp [Instr.indexAt, oz.underlying, hd, asIntOf, oy.sizeOf, hy, add_none, h3]
 ·exact h.elim
theorem qindex_sound (t : Nat) (x ix : AV) (vx vi : Value) (hx : Val E .no x vx) (hi : Val E .no ix vi) (hf : x.free = true) (h : (qindex (ti P) t x ix).ok) :
  RunsTo P E (Instr.index t vx vi) (qindex (ti P) t x ix).v := by
 unfold qindex at h ⊢
 split at h
 ·rename_i s k n hk
  obtain ⟨z, oz, hz⟩ := kind_of_map hk
  have hd := kind_str (oz.kind.trans hz)
  obtain ⟨h0, h1⟩ := h
  cases hi; cases hx
  refine ⟨rfl, _, ?_, .i _ _ _⟩
  have h3 : n.toNat < s.size := by omega
  have h4 : s[n.toNat]? = some (s.data.getD n.toNat 0) := by
   rw [getElem?_pos s n.toNat h3]
   have : n.toNat < s.data.size := h3
   simp only [Array.getD_eq_getD_getElem?, Array.getElem?_eq_getElem this]
   rfl
  simp [Instr.index, oz.underlying, hd, asIntOf, h0, h4]
 ·rename_i m e cs k n hk
  obtain ⟨z, oz, hz⟩ := kind_of_map hk
  have hd := kind_arr (oz.kind.trans hz)
  split at h
  ·rename_i y hy
   obtain ⟨h0, h1, h2⟩ := h
   obtain ⟨oy⟩ := ti_ok hy
   have hx0 := hx
   cases hi
   cases hx with
   | agg _ _ arr hs hkk =>
    obtain ⟨hf2, v, hr, hv⟩ := qpart_sound oy (n.toNat * y.size) cs arr hx0 (by simpa [AV.free] using hf) h2
    have h3 : 0 ≤ n ∧ n < (m : Int) := ⟨h0, h1⟩
    refine ⟨hf2, v, ?_, hv⟩
    simp [Instr.index, oz.underlying, hd, asIntOf, h3, oy.sizeOf, hr]
  ·exact h.elim
 ·exact h.elim
theorem bound_run {v : Value} {x : AV} {k n} (hx : x = .i k n) (hv : Val E .no x v) (y : Nat) (code : BoundsCode) (h0 : 0 ≤ n) (h1 : n ≤ y) : (Instr.sliceBound v y code).run P E.w = .ok n.toNat E.w := by
 subst hx; cases hv
 have : 0 ≤ n ∧ n ≤ (y : Int) := ⟨h0, h1⟩
 simp [Instr.sliceBound, asIntOf, this]
theorem qbound_some {d n : Int} {o : Option AV} (h : qbound d o = some n) : (o = none ∧ n = d) ∨ ∃ k, o = some (.i k n) := by
 unfold qbound at h
 split at h
 ·exact .inl ⟨rfl, by simpa using h.symm⟩
 ·simp at h; subst h; exact .inr ⟨_, rfl⟩
 ·cases h
theorem bounds_run {lo hi : Option AV} {vlo vhi : Option Value} (hlo : lo.isSome = vlo.isSome) (hhi : hi.isSome = vhi.isSome) (hl : ∀ x v, lo = some x → vlo = some v → Val E .no x v)
  (hh : ∀ x v, hi = some x → vhi = some v → Val E .no x v) (isSlice : Bool) (len cap : Nat) (hlen : len ≤ cap) {l h : Int} (e1 : qbound 0 lo = some l) (e2 : qbound len hi = some h)
  (h0 : 0 ≤ l) (h1 : l ≤ h) (h2 : h ≤ len) : (Instr.sliceBounds isSlice len cap vlo vhi none).run P E.w = .ok (l.toNat, h.toNat, cap) E.w := by
 have h3 : h ≤ (cap : Int) := by omega
 have rh : ∀ code, (match vhi with | some v => Instr.sliceBound v cap code | none => pure len : Sem Nat).run P E.w = .ok h.toNat E.w := by
  intro code
  rcases qbound_some e2 with ⟨rfl, rfl⟩ | ⟨k, rfl⟩
  ·cases vhi with
   | none => simp
   | some v => simp at hhi
  ·cases vhi with
   | none => simp at hhi
   | some v => exact bound_run rfl (hh _ _ rfl rfl) cap code (by omega) h3
 have rl : ∀ code, (match vlo with | some v => Instr.sliceBound v h.toNat code | none => pure 0 : Sem Nat).run P E.w = .ok l.toNat E.w := by
  intro code
  rcases qbound_some e1 with ⟨rfl, rfl⟩ | ⟨k, rfl⟩
  ·cases vlo with
   | none => simp
   | some v => simp at hlo
  ·cases vlo with
   | none => simp at hlo
   | some v => exact bound_run rfl (hl _ _ rfl rfl) h.toNat code h0 (by omega)
 unfold Instr.sliceBounds
 simp only [Sem.run_bind, Sem.run_pure, Result.andThen_ok, Option.isSome_none, Bool.false_eq_true, if_false]
 have rh' := rh (if isSlice then .sliceAcap else .sliceAlen)
 have rl' := rl .sliceB
 cases vhi <;> cases vlo <;> simp_all
theorem flat_slice {xs : List (List AV)} {sz : Nat} (hl : ∀ x ∈ xs, x.length = sz) (l h : Nat) (k : Nat) (c : AV) (hk : ((xs.take h).drop l).flatten[k]? = some c) : xs.flatten[l * sz + k]? = some c := by
 have e : xs = (xs.take h).take l ++ ((xs.take h).drop l ++ xs.drop h) := by rw [← List.append_assoc, List.take_append_drop, List.take_append_drop]
 have hlen : ((xs.take h).take l).flatten.length = ((xs.take h).take l).length * sz := by
  have : ∀ (ys : List (List AV)), (∀ x ∈ ys, x.length = sz) → ys.flatten.length = ys.length * sz := by
   intro ys
   induction ys with
   | nil => simp
   | cons y ys ih => intro hy; simp [ih (fun x hx => hy x (by simp [hx])), hy y (by simp), Nat.add_mul, Nat.add_comm]
  exact this _ fun x hx => hl x (List.mem_of_mem_take (List.mem_of_mem_take hx))
 by_cases hlt : l ≤ (xs.take h).length
 ·have h2 : ((xs.take h).take l).length = l := by simp only [List.length_take] at hlt ⊢; omega
  rw [e, List.flatten_append, List.getElem?_append_right (by rw [hlen, h2]; omega), hlen, h2, Nat.add_sub_cancel_left, List.flatten_append]
  rw [List.getElem?_append_left (List.getElem?_eq_some_iff.1 hk).1]; exact hk
 ·rw [List.drop_of_length_le (by omega)] at hk; simp at hk
theorem bounds_run2 {lo hi : Option AV} {vlo vhi : Option Value} (hlo : lo.isSome = vlo.isSome) (hhi : hi.isSome = vhi.isSome) (hl : ∀ x v, lo = some x → vlo = some v → Val E .no x v)
  (hh : ∀ x v, hi = some x → vhi = some v → Val E .no x v) (isSlice : Bool) (len cap : Nat) {l h : Int} (e1 : qbound 0 lo = some l) (e2 : qbound len hi = some h)
  (h0 : 0 ≤ l) (h1 : l ≤ h) (h3 : h ≤ (cap : Int)) : (Instr.sliceBounds isSlice len cap vlo vhi none).run P E.w = .ok (l.toNat, h.toNat, cap) E.w := by
 have rh : ∀ code, (match vhi with | some v => Instr.sliceBound v cap code | none => pure len : Sem Nat).run P E.w = .ok h.toNat E.w := by
  intro code
  rcases qbound_some e2 with ⟨rfl, rfl⟩ | ⟨k, rfl⟩
  ·cases vhi with
   | none => simp
   | some v => simp at hhi
  ·cases vhi with
   | none => simp at hhi
   | some v => exact bound_run rfl (hh _ _ rfl rfl) cap code (by omega) h3
 have rl : ∀ code, (match vlo with | some v => Instr.sliceBound v h.toNat code | none => pure 0 : Sem Nat).run P E.w = .ok l.toNat E.w := by
  intro code
  rcases qbound_some e1 with ⟨rfl, rfl⟩ | ⟨k, rfl⟩
  ·cases vlo with
   | none => simp
   | some v => simp at hlo
  ·cases vlo with
   | none => simp at hlo
   | some v => exact bound_run rfl (hl _ _ rfl rfl) h.toNat code h0 (by omega)
 unfold Instr.sliceBounds
 simp only [Sem.run_bind, Sem.run_pure, Result.andThen_ok, Option.isSome_none, Bool.false_eq_true, if_false]
 have rh' := rh (if isSlice then .sliceAcap else .sliceAlen)
 have rl' := rl .sliceB
 cases vhi <;> cases vlo <;> simp_all
theorem qslice_sound (t : Nat) (x : AV) (vx : Value) (lo hi : Option AV) (vlo vhi : Option Value) (hx : Val E .no x vx) (hf : x.free = true) (hlo : lo.isSome = vlo.isSome) (hhi : hi.isSome = vhi.isSome)
  (hl : ∀ x v, lo = some x → vlo = some v → Val E .no x v) (hh : ∀ x v, hi = some x → vhi = some v → Val E .no x v) (h : (qslice (ti P) t x lo hi).ok) :
  RunsTo P E (Instr.sliceAt t vx vlo vhi none) (qslice (ti P) t x lo hi).v := by
 unfold qslice at h ⊢
 split at h
 ·rename_i s hk
  obtain ⟨z, oz, hz⟩ := kind_of_map hk
  have hd := kind_str (oz.kind.trans hz)
  split at h
  ·rename_i l h' e1 e2
   obtain ⟨h0, h1, h2⟩ := h
   cases hx
   refine ⟨rfl, _, ?_, .s _ _⟩
   simp [Instr.sliceAt, Instr.slice, oz.underlying, hd, bounds_run hlo hhi hl hh false s.size s.size (Nat.le_refl _) e1 e2 h0 h1 h2]
  ·exact h.elim
 ·rename_i e g sz xs hk
  obtain ⟨z, oz, hz⟩ := kind_of_map hk
  have hd := kind_slice (oz.kind.trans hz)
  split at h
  ·rename_i l h' e1 e2
   obtain ⟨h0, h1, h2, h3⟩ := h
   obtain ⟨y, oy, hy⟩ := size_of_map h3
   have hlen : ((xs.take h'.toNat).drop l.toNat).length = h'.toNat - l.toNat := by simp; omega
   refine ⟨by cases g <;> rfl, ?_⟩
   cases hx with
   | sl1 _ _ a0 c0 =>
    have e1' : l = 0 := by simp at h2; omega
    have e2' : h' = 0 := by simp at h2; omega
    subst e1'; subst e2'
    refine ⟨.slice (some a0) 0 c0, ?_, ?_⟩
    ·simp [Instr.sliceAt, Instr.slice, oz.underlying, hd, bounds_run hlo hhi hl hh true 0 c0 (Nat.zero_le _) e1 e2 h0 h1 h2, oy.sizeOf, Addr.add]
    ·have : ((([] : List (List AV)).take (0 : Int).toNat).drop (0 : Int).toNat) = [] := by simp
     rw [this]
     exact .sl1 _ _ _ _
   | sl2 _ _ a0 =>
    have e1' : l = 0 := by simp at h2; omega
    have e2' : h' = 0 := by simp at h2; omega
    subst e1'; subst e2'
    refine ⟨.slice (some a0) 0 0, ?_, ?_⟩
    ·simp [Instr.sliceAt, Instr.slice, oz.underlying, hd, bounds_run hlo hhi hl hh true 0 0 (Nat.zero_le _) e1 e2 h0 h1 h2, oy.sizeOf, Addr.add]
    ·have : ((([] : List (List AV)).take (0 : Int).toNat).drop (0 : Int).toNat) = [] := by simp
     rw [this]
     exact .sl1 _ _ _ _
   | sl0 _ _ _ hz0 ha =>
    have e1' : l = 0 := by simp at h2; omega
    have e2' : h' = 0 := by simp at h2; omega
    subst e1'; subst e2'
    refine ⟨.slice none 0 0, ?_, ?_⟩
    ·simp [Instr.sliceAt, Instr.slice, oz.underlying, hd, bounds_run hlo hhi hl hh true 0 0 (Nat.le_refl _) e1 e2 h0 h1 h2, oy.sizeOf]
    ·have : ((([] : List (List AV)).take (0 : Int).toNat).drop (0 : Int).toNat) = [] := by simp
     rw [this]
     refine .sl0 _ _ _ (fun q he => ?_) ?_
     ·cases g <;> simp [Gh.part] at he
     ·cases g <;> first | trivial | exact ha
   | sl _ _ _ _ bk off cap hcap hr hg ha =>
    refine ⟨.slice (some ⟨bk, off + (if cap = l.toNat then 0 else l.toNat * sz), none⟩) (h'.toNat - l.toNat) (cap - l.toNat), ?_, ?_⟩
    ·simp only [Instr.sliceAt, Instr.slice, Sem.run_bind, oz.underlying, hd, Result.andThen_ok, bounds_run hlo hhi hl hh true xs.length cap hcap e1 e2 h0 h1 h2, oy.sizeOf, hy, Sem.run_pure]
     split <;> simp [add_none]
    ·have hcells : Row E.Pub E.w bk (off + (if cap = l.toNat then 0 else l.toNat * sz)) sz ((xs.take h'.toNat).drop l.toNat) := by
      refine ⟨fun x hx => hr.1 x (List.mem_of_mem_take (List.mem_of_mem_drop hx)), fun k c hk => ?_⟩
      obtain ⟨u, hu, hdd⟩ := hr.2 _ c (flat_slice hr.1 l.toNat h'.toNat k c hk)
      split
      ·rename_i hcl
       have : ((xs.take h'.toNat).drop l.toNat) = [] := by apply List.eq_nil_of_length_eq_zero; omega
       rw [this] at hk; simp at hk
      ·exact ⟨u, by rw [← hu]; congr 2; omega, hdd⟩
     have key := Val.sl (E := E) .no g.part sz ((xs.take h'.toNat).drop l.toNat) bk (off + (if cap = l.toNat then 0 else l.toNat * sz)) (cap - l.toNat) (by omega) hcells ?_ ?_
     ·rw [hlen] at key; exact key
     ·cases g with
      | own => simp [AV.free] at hf
      | nl => exact hg.elim
      | fro => exact hg
      | cut => exact hg.1
      | vw q ex => exact ⟨hg.1, by simp⟩
     ·cases g <;> first | trivial | exact ha
  ·exact h.elim
 ·rename_i e id off n cap hk
  obtain ⟨z, oz, hz⟩ := kind_of_map hk
  have hd := kind_slice (oz.kind.trans hz)
  split at h
  ·rename_i l h' e1 e2
   obtain ⟨h0, h1, h2, _, h3⟩ := h
   obtain ⟨y, hy⟩ := Option.isSome_iff_exists.1 h3
   obtain ⟨oy⟩ := ti_ok hy
   cases hx
   refine ⟨rfl, _, ?_, .bs _ _ _ _ _⟩
   simp only [Instr.sliceAt, Instr.slice, Sem.run_bind, oz.underlying, hd, Result.andThen_ok, bounds_run2 hlo hhi hl hh true n cap e1 e2 h0 h1 h2, oy.sizeOf, hy, Sem.run_pure, Option.map_some, Option.getD_some]
   split <;> simp [add_none]
  ·exact h.elim
 ·exact h.elim
theorem qsliceC_sound (t : Nat) (x : AV) (vx : Value) (lo hi mx : AV) (vlo vhi vmx : Value) (hx : Val E .no x vx) (hl : Val E .no lo vlo) (hh : Val E .no hi vhi) (hm : Val E .no mx vmx) (h : (qsliceC (ti P) t x lo hi mx).ok) :
  RunsTo P E (Instr.sliceAt t vx (some vlo) (some vhi) (some vmx)) (qsliceC (ti P) t x lo hi mx).v := by
 unfold qsliceC at h ⊢
 split at h
 ·rename_i e id off n cap k1 l k2 h' k3 m hk
  obtain ⟨z, oz, hz⟩ := kind_of_map hk
  have hd := kind_slice (oz.kind.trans hz)
  obtain ⟨h0, h1, h2, h3, h4⟩ := h
  obtain ⟨y, hy⟩ := Option.isSome_iff_exists.1 h4
  obtain ⟨oy⟩ := ti_ok hy
  cases hx
  refine ⟨rfl, _, ?_, .bs _ _ _ _ _⟩
  have hb : (Instr.sliceBounds true n cap (some vlo) (some vhi) (some vmx)).run P E.w = .ok (l.toNat, h'.toNat, m.toNat) E.w := by
   unfold Instr.sliceBounds
   simp only [Sem.run_bind]
   rw [bound_run rfl hm cap _ (by omega) h3]
   simp only [Result.andThen_ok]
   rw [bound_run rfl hh m.toNat _ (by omega) (by omega)]
   simp only [Result.andThen_ok]
   rw [bound_run rfl hl h'.toNat _ h0 (by omega)]
   simp
  simp only [Instr.sliceAt, Instr.slice, Sem.run_bind, oz.underlying, hd, Result.andThen_ok, hb, oy.sizeOf, hy, Sem.run_pure, Option.map_some, Option.getD_some]
  split <;> simp [add_none]
 ·exact h.elim
theorem qslice3_sound (t : Nat) (x : AV) (vx : Value) (hi mx : AV) (vhi vmx : Value) (hx : Val E .no x vx) (hh : Val E .no hi vhi) (hm : Val E .no mx vmx) (h : (qslice3 (ti P) t x hi mx).ok) :
  RunsTo P E (Instr.sliceAt t vx none (some vhi) (some vmx)) (qslice3 (ti P) t x hi mx).v := by
 unfold qslice3 at h ⊢
 split at h
 ·rename_i e sz xs k1 h' k2 m hk
  obtain ⟨rfl, h0, h1, h3⟩ := h
  obtain ⟨z, oz, hz⟩ := kind_of_map hk
  have hd := kind_slice (oz.kind.trans hz)
  obtain ⟨y, oy, hy⟩ := size_of_map h3
  have hb : ∀ cap : Nat, xs.length ≤ cap → (Instr.sliceBounds true xs.length cap none (some vhi) (some vmx)).run P E.w = .ok (0, h'.toNat, h'.toNat) E.w := by
   intro cap hcap
   unfold Instr.sliceBounds
   simp only [Sem.run_bind]
   rw [bound_run rfl hm cap _ h0 (by omega)]
   simp only [Result.andThen_ok]
   rw [bound_run rfl hh h'.toNat _ h0 (by omega)]
   simp
  refine ⟨rfl, ?_⟩
  have hlen : (xs.take h'.toNat).length = h'.toNat := by rw [List.length_take]; omega
  cases hx with
  | sl1 _ _ a0 c0 =>
   have e1 : h' = 0 := by simp at h1; omega
   subst e1
   refine ⟨.slice (some a0) 0 0, ?_, ?_⟩
   ·have := hb c0 (Nat.zero_le _)
    simp only [List.length_nil] at this
    simp [Instr.sliceAt, Instr.slice, oz.underlying, hd, this, oy.sizeOf]
   ·have : ((([] : List (List AV)).take (0 : Int).toNat)) = [] := by simp
    rw [this]
    exact .sl2 _ _ _
  | sl0 _ _ _ hz0 ha =>
   have e1 : h' = 0 := by simp at h1; omega
   subst e1
   refine ⟨.slice none 0 0, ?_, ?_⟩
   ·have := hb 0 (Nat.le_refl _)
    simp only [List.length_nil] at this
    simp [Instr.sliceAt, Instr.slice, oz.underlying, hd, this, oy.sizeOf]
   ·have : ((([] : List (List AV)).take (0 : Int).toNat)) = [] := by simp
    rw [this]
    exact .sl0 _ _ _ (by simp) trivial
  | sl _ _ _ _ bk off cap hcap hr hg ha =>
   refine ⟨.slice (some ⟨bk, off, none⟩) h'.toNat h'.toNat, ?_, ?_⟩
   ·simp only [Instr.sliceAt, Instr.slice, Sem.run_bind, oz.underlying, hd, Result.andThen_ok, hb cap hcap, oy.sizeOf, Sem.run_pure]
    by_cases hc : h'.toNat = 0
    ·simp [hc]
    ·simp [hc, add_none]
   ·have hcells : Row E.Pub E.w bk off sz (xs.take h'.toNat) := by
     refine ⟨fun x hx => hr.1 x (List.mem_of_mem_take hx), fun k c hk => ?_⟩
     have := flat_slice hr.1 0 h'.toNat k c (by simpa using hk)
     simp only [Nat.zero_mul, Nat.zero_add] at this
     exact hr.2 k c this
    have key := Val.sl (E := E) .no .cut sz (xs.take h'.toNat) bk off (xs.take h'.toNat).length (Nat.le_refl _) hcells ⟨hg, rfl⟩ trivial
    rw [hlen] at key; exact key
 ·exact h.elim
theorem qcap_sound (t ty : Nat) (x : AV) (vx : Value) (hx : Val E .no x vx) (h : (qcap ((ti P t).map TI.kind) x).ok) :
  RunsTo P E (Builtin.cap_ #[t] ty #[vx]) (qcap ((ti P t).map TI.kind) x).v := by
 unfold qcap at h ⊢
 split at h
 ·rename_i e id off n' n hk
  obtain ⟨z, oz, hz⟩ := kind_of_map hk
  have hd := kind_slice (oz.kind.trans hz)
  cases hx
  exact ⟨rfl, _, by simp [Builtin.cap_, oz.underlying, hd, goInt], .i _ _ _⟩
 ·rename_i e sz xs hk
  obtain ⟨z, oz, hz⟩ := kind_of_map hk
  have hd := kind_slice (oz.kind.trans hz)
  cases hx with
  | sl0 => exact ⟨rfl, _, by simp [Builtin.cap_, oz.underlying, hd, goInt], .i _ _ _⟩
  | sl _ _ _ _ _ _ _ _ _ hg _ => exact hg.elim
 ·rename_i e sz xs hk
  obtain ⟨z, oz, hz⟩ := kind_of_map hk
  have hd := kind_slice (oz.kind.trans hz)
  cases hx with
  | sl0 => exact ⟨rfl, _, by simp [Builtin.cap_, oz.underlying, hd, goInt], .i _ _ _⟩
  | sl2 => exact ⟨rfl, _, by simp [Builtin.cap_, oz.underlying, hd, goInt], .i _ _ _⟩
  | sl _ _ _ _ _ _ _ _ _ hg _ => exact ⟨rfl, _, by simp [Builtin.cap_, oz.underlying, hd, goInt, hg.2], .i _ _ _⟩
 ·rename_i n e hk
  obtain ⟨z, oz, hz⟩ := kind_of_map hk
  have hd := kind_arr (oz.kind.trans hz)
  exact ⟨rfl, _, by simp [Builtin.cap_, oz.underlying, hd, goInt], .i _ _ _⟩
 ·exact h.elim
theorem qlen_sound (t ty : Nat) (x : AV) (vx : Value) (hx : Val E .no x vx) (h : (qlen ((ti P t).map TI.kind) x).ok) :
  RunsTo P E (Builtin.len_ #[t] ty #[vx]) (qlen ((ti P t).map TI.kind) x).v := by
 unfold qlen at h ⊢
 split at h
 ·rename_i s hk
  obtain ⟨z, oz, hz⟩ := kind_of_map hk
  have hd := kind_str (oz.kind.trans hz)
  cases hx
  exact ⟨rfl, _, by simp [Builtin.len_, oz.underlying, hd, goInt], .i _ _ _⟩
 ·rename_i e g sz xs hk
  obtain ⟨z, oz, hz⟩ := kind_of_map hk
  have hd := kind_slice (oz.kind.trans hz)
  refine ⟨rfl, .int .i64 xs.length, ?_, .i _ _ _⟩
  cases hx <;> simp [Builtin.len_, oz.underlying, hd, goInt]
 ·rename_i e id off n cap hk
  obtain ⟨z, oz, hz⟩ := kind_of_map hk
  have hd := kind_slice (oz.kind.trans hz)
  cases hx
  exact ⟨rfl, _, by simp [Builtin.len_, oz.underlying, hd, goInt], .i _ _ _⟩
 ·rename_i n e hk
  obtain ⟨z, oz, hz⟩ := kind_of_map hk
  have hd := kind_arr (oz.kind.trans hz)
  refine ⟨rfl, .int .i64 n, ?_, .i _ _ _⟩
  simp [Builtin.len_, oz.underlying, hd, goInt]
 ·exact h.elim
theorem qmaxL_sound (k : IntKind) : ∀ (xs : List AV) (m : Int) (vs : List Value), xs.length = vs.length → (∀ (j : Nat) x v, xs[j]? = some x → vs[j]? = some v → Val E .no x v) → (qmaxL k m xs).ok →
  ∃ r, (qmaxL k m xs).v = .i k r ∧ (vs.foldlM Builtin.max2 (.int k m)).run P E.w = .ok (.int k r) E.w
 | [], m, [], _, _, _ => ⟨m, rfl, rfl⟩
 | x :: xs, m, v :: vs, hl, hv, h => by
  unfold qmaxL at h ⊢
  split at h
  ·rename_i heq; simp at heq
  ·rename_i m' k' y r heq
   obtain ⟨rfl, rfl⟩ := List.cons.inj heq
   have hx := hv 0 _ _ rfl rfl
   cases hx
   obtain ⟨r, h1, h2⟩ := qmaxL_sound k xs _ vs (by simpa using hl) (fun j x v h1 h2 => hv (j + 1) x v (by simpa using h1) (by simpa using h2)) h
   exact ⟨r, h1, by simpa [List.foldlM_cons, Builtin.max2] using h2⟩
  ·exact h.elim
 | [], _, _ :: _, hl, _, _ => by simp at hl
 | _ :: _, _, [], hl, _, _ => by simp at hl
theorem qminL_sound (k : IntKind) : ∀ (xs : List AV) (m : Int) (vs : List Value), xs.length = vs.length → (∀ (j : Nat) x v, xs[j]? = some x → vs[j]? = some v → Val E .no x v) → (qminL k m xs).ok →
  ∃ r, (qminL k m xs).v = .i k r ∧ (vs.foldlM Builtin.min2 (.int k m)).run P E.w = .ok (.int k r) E.w
 | [], m, [], _, _, _ => ⟨m, rfl, rfl⟩
 | x :: xs, m, v :: vs, hl, hv, h => by
  unfold qminL at h ⊢
  split at h
  ·rename_i heq; simp at heq
  ·rename_i m' k' y r heq
   obtain ⟨rfl, rfl⟩ := List.cons.inj heq
   have hx := hv 0 _ _ rfl rfl
   cases hx
   obtain ⟨r, h1, h2⟩ := qminL_sound k xs _ vs (by simpa using hl) (fun j x v h1 h2 => hv (j + 1) x v (by simpa using h1) (by simpa using h2)) h
   exact ⟨r, h1, by simpa [List.foldlM_cons, Builtin.min2] using h2⟩
  ·exact h.elim
 | [], _, _ :: _, hl, _, _ => by simp at hl
 | _ :: _, _, [], hl, _, _ => by simp at hl
theorem qpick_sound (c x y : AV) (vc vx vy : Value) (hc : Val E .no c vc) (hx : Val E .no x vx) (hy : Val E .no y vy) (fx : x.free = true) (fy : y.free = true) (h : (qpick c x y).ok) :
  (qpick c x y).v.free = true ∧ ∃ b v, vc = .bool b ∧ v = (if b then vx else vy) ∧ Val E .no (qpick c x y).v v := by
 unfold qpick at h ⊢
 split at h
 ·rename_i b b1 b2
  cases hc; cases hx; cases hy
  refine ⟨rfl, b, _, rfl, rfl, ?_⟩
  cases b <;> exact .b _ _
 ·cases hc
  exact ⟨fx, true, _, rfl, rfl, hx⟩
 ·cases hc
  exact ⟨fy, false, _, rfl, rfl, hy⟩
 ·exact h.elim
theorem flatA_val {x : AV} {v : Value} (hx : Val E .no x v) (hna : x.hole = false) : (flatA x).length = v.cells.size ∧ ∀ k c, (flatA x)[k]? = some c → Val E .no c (v.cells.getD k undef) := by
 cases hx with
 | any => simp [AV.hole] at hna
 | tup _ vs => simp [AV.hole] at hna
 | agg _ cs arr h1 h2 => exact ⟨h1, fun k c hk => h2 k c hk⟩
 | _ =>
  refine ⟨rfl, fun k c hk => ?_⟩
  cases k with
  | zero =>
   simp only [flatA, List.getElem?_cons_zero, Option.some.injEq] at hk
   subst hk
   simp only [Value.cells, Array.getD_eq_getD_getElem?, Array.getElem?_singleton, if_true, Option.getD_some]
   constructor <;> assumption
  | succ k => simp [flatA] at hk
theorem zip_fold_get (vs : Array Value) (off : Nat) : ∀ (l : List Value) (b : Nat) (cells : Array Value), off + b + l.length ≤ cells.size →
  ((l.zipIdx b).foldl (fun (cs : Array Value) (x : Value × Nat) => cs.setIfInBounds (off + x.2) x.1) cells).size = cells.size ∧
  ∀ k, ((l.zipIdx b).foldl (fun (cs : Array Value) (x : Value × Nat) => cs.setIfInBounds (off + x.2) x.1) cells)[k]? = if off + b ≤ k ∧ k < off + b + l.length then l[k - (off + b)]? else cells[k]?
 | [], b, cells, h => ⟨rfl, fun k => by simp; omega⟩
 | v :: l, b, cells, h => by
  simp only [List.length_cons] at h
  obtain ⟨h1, h2⟩ := zip_fold_get vs off l (b + 1) (cells.setIfInBounds (off + b) v) (by simp; omega)
  refine ⟨by simpa using h1, fun k => ?_⟩
  simp only [List.zipIdx_cons, List.foldl_cons, h2, List.length_cons]
  by_cases hk : k = off + b
  ·subst hk
   rw [if_neg (by omega), if_pos (by omega)]
   have : off + b < cells.size := by omega
   simp [this]
  ·by_cases hin : off + (b + 1) ≤ k ∧ k < off + (b + 1) + l.length
   ·rw [if_pos hin, if_pos (by omega)]
    have : k - (off + b) = (k - (off + (b + 1))) + 1 := by omega
    rw [this, List.getElem?_cons_succ]
   ·rw [if_neg hin, if_neg (by omega), Array.getElem?_setIfInBounds_ne (by omega)]
theorem splice_get (cs new : List AV) (off k : Nat) (h : off + new.length ≤ cs.length) : (spliceL cs off new)[k]? = if off ≤ k ∧ k < off + new.length then new[k - off]? else cs[k]? := by
 unfold spliceL
 have h1 : (cs.take off).length = off := by simp; omega
 by_cases ha : k < off
 ·rw [if_neg (by omega), List.append_assoc, List.getElem?_append_left (by omega)]
  simp [ha]
 ·by_cases hb : k < off + new.length
  ·rw [if_pos (by omega), List.append_assoc, List.getElem?_append_right (by omega), h1, List.getElem?_append_left (by omega)]
  ·rw [if_neg (by omega), List.getElem?_append_right (by simp; omega)]
   simp only [List.length_append, h1, List.getElem?_drop]
   congr 1; omega
theorem splice_length (cs new : List AV) (off : Nat) (h : off + new.length ≤ cs.length) : (spliceL cs off new).length = cs.length := by
 unfold spliceL; simp; omega
theorem flatA_free {x : AV} (h : x.free = true) : AV.freeL (flatA x) = true := by
 unfold flatA
 split
 ·rwa [AV.free] at h
 ·simp [AV.freeL, h]
def Side (E : Env) (cs : List AV) (arr : Array Value) : Prop := cs.length = arr.size ∧ ∀ k c, cs[k]? = some c → Val E .no c (arr.getD k undef)
theorem fill_sound {place : Nat → Option (Nat × Nat)} : ∀ (ps : List (Nat × AV)) (qs : List (Nat × Value)) (cs : List AV) (arr : Array Value) (cs' : List AV), Side E cs arr → AV.freeL cs = true →
  ps.length = qs.length → (∀ (j : Nat) p q, ps[j]? = some p → qs[j]? = some q → p.1 = q.1 ∧ Val E .no p.2 q.2 ∧ p.2.free = true) → fillL place cs ps = some cs' →
  AV.freeL cs' = true ∧ ∃ arr', Instr.fill place arr qs = some arr' ∧ Side E cs' arr'
 | [], [], cs, arr, cs', hs, hf, _, _, h => by
  simp [fillL] at h; subst h; exact ⟨hf, arr, rfl, hs⟩
 | (i, x) :: ps, (i', v) :: qs, cs, arr, cs', hs, hf, hl, hv, h => by
  obtain ⟨he, hx, hfx⟩ := hv 0 _ _ rfl rfl
  simp only at he hx hfx; subst he
  unfold fillL at h
  split at h
  ·cases h
  ·rename_i off size hp
   split at h
   ·cases h
   ·rename_i hc
    simp only [not_or, Bool.not_eq_true] at hc
    obtain ⟨hh, hc1, hc2⟩ := hc
    obtain ⟨hl1, hv1⟩ := flatA_val hx hh
    have hsz : v.cells.size = size := by omega
    have hle : off + (flatA x).length ≤ cs.length := by omega
    have hle' : off + 0 + v.cells.toList.length ≤ arr.size := by have := hs.1; simp; omega
    obtain ⟨z1, z2⟩ := zip_fold_get v.cells off v.cells.toList 0 arr hle'
    have hside : Side E (spliceL cs off (flatA x)) ((v.cells.toList.zipIdx 0).foldl (fun (cs : Array Value) (x : Value × Nat) => cs.setIfInBounds (off + x.2) x.1) arr) := by
     refine ⟨by rw [splice_length _ _ _ hle, z1]; exact hs.1, fun k c hk => ?_⟩
     rw [splice_get _ _ _ _ hle] at hk
     rw [Array.getD_eq_getD_getElem?, z2]
     simp only [Nat.add_zero, Array.length_toList]
     split at hk
     ·rename_i hin
      rw [if_pos (by omega)]
      have := hv1 _ _ hk
      rwa [Array.getD_eq_getD_getElem?, ← Array.getElem?_toList] at this
     ·rename_i hin
      rw [if_neg (by omega)]
      have := hs.2 _ _ hk
      rwa [Array.getD_eq_getD_getElem?] at this
    have hfree : AV.freeL (spliceL cs off (flatA x)) = true := by
     rw [AV.freeL_iff]
     intro c hcm
     unfold spliceL at hcm
     simp only [List.mem_append] at hcm
     rcases hcm with (hcm | hcm) | hcm
     ·exact AV.freeL_iff.1 hf c (List.mem_of_mem_take hcm)
     ·exact AV.freeL_iff.1 (flatA_free hfx) c hcm
     ·exact AV.freeL_iff.1 hf c (List.mem_of_mem_drop hcm)
    obtain ⟨g1, arr', g2, g3⟩ := fill_sound ps qs _ _ cs' hside hfree (by simpa using hl) (fun j p q h1 h2 => hv (j + 1) p q (by simpa using h1) (by simpa using h2)) h
    refine ⟨g1, arr', ?_, g3⟩
    have hcond : ¬ (v.cells.size ≠ size ∨ off + v.cells.size > arr.size) := by have := hs.1; omega
    have hcond' : (decide (v.cells.size ≠ size) || decide (off + v.cells.size > arr.size)) = false := by simpa using hcond
    unfold Instr.fill
    simp only [hp]
    rw [if_neg (by simpa using hcond)]
    have he2 : v.cells.zipIdx.foldl (fun cs (x : Value × Nat) => cs.setIfInBounds (off + x.2) x.1) arr = (v.cells.toList.zipIdx 0).foldl (fun (cs : Array Value) (x : Value × Nat) => cs.setIfInBounds (off + x.2) x.1) arr := by
     rw [← Array.foldl_toList, Array.toList_zipIdx]
    rw [he2]; exact g2
 | [], _ :: _, _, _, _, _, _, hl, _, _ => by simp at hl
 | _ :: _, [], _, _, _, _, _, hl, _, _ => by simp at hl
theorem zero_side {t : TypeId} {y : TI} (o : TyOk P t y) : Side E y.zero o.z.cells := ⟨by rw [o.zlen, o.zcs], fun k c hk => o.zval E .no k c hk⟩
end
end Go.AM
namespace Go.AM
section
variable {P : Program} {E : Env}
theorem Side.agg {cs : List AV} {arr : Array Value} (h : Side E cs arr) : Val E .no (.agg cs) (.agg arr) := .agg _ _ _ h.1 h.2
theorem mapM_run {α β : Type} (f : α → Sem β) (g : α → β) (w : World) : ∀ (l : List α), (∀ a ∈ l, (f a).run P w = .ok (g a) w) → (l.mapM f).run P w = .ok (l.map g) w
 | [], _ => by simp
 | a :: l, h => by
  rw [List.mapM_cons]
  simp [h a (by simp), mapM_run f g w l fun b hb => h b (by simp [hb])]
theorem amapM_run {α β : Type} (f : α → Sem β) (g : α → β) (w : World) (l : Array α) (h : ∀ a ∈ l, (f a).run P w = .ok (g a) w) : (l.mapM f).run P w = .ok (l.map g) w := by
 rw [Array.mapM_eq_mapM_toList]
 simp only [Sem.run_map, mapM_run f g w l.toList (fun a ha => h a (by simpa using ha)), Result.andThen_ok]
 congr 1
 apply Array.ext'
 simp
theorem qbuild_sound (t : Nat) (ps : List (Nat × AV)) (qs : Array (Nat × Value)) (hl : ps.length = qs.size)
  (hv : ∀ (j : Nat) p q, ps[j]? = some p → qs[j]? = some q → p.1 = q.1 ∧ Val E .no p.2 q.2 ∧ p.2.free = true) (h : (qbuild (ti P) t ps).ok) :
  RunsTo P E (Instr.build t qs) (qbuild (ti P) t ps).v := by
 have hl' : ps.length = qs.toList.length := by simpa using hl
 have hv' : ∀ (j : Nat) p q, ps[j]? = some p → qs.toList[j]? = some q → p.1 = q.1 ∧ Val E .no p.2 q.2 ∧ p.2.free = true := fun j p q h1 h2 => hv j p q h1 (by simpa using h2)
 unfold qbuild at h ⊢
 split at h
 ·rename_i y hy
  obtain ⟨oy⟩ := ti_ok hy
  simp only [] at h ⊢
  cases hk : y.kind <;> simp only [hk] at h ⊢ <;> first | (exact h.elim) | skip
  ·
   rename_i fs
   obtain ⟨fl, hd, hfs⟩ := kind_strct (oy.kind.trans hk)
   split at h
   ·rename_i cs hfill
    have hall : ∀ f ∈ fs, (ti P f.2).isSome = true := h
    let g : Field → Nat × Nat := fun f => (f.offset, ((ti P f.type).map TI.size).getD 0)
    have hplaces : (fl.mapM fun (f : Field) => do pure (f.offset, ← Go.sizeOf f.type)).run P E.w = .ok (fl.map g) E.w := by
     refine amapM_run _ g _ _ fun f hf => ?_
     have := hall (f.offset, f.type) (by rw [hfs]; exact List.mem_map.2 ⟨f, by simpa using hf, rfl⟩)
     obtain ⟨z, hz⟩ := Option.isSome_iff_exists.1 this
     obtain ⟨oz⟩ := ti_ok hz
     simp only at hz
     simp [oz.sizeOf, g, hz]
    have hpl : (fun (i : Nat) => (fl.map g)[i]?) = strPlace (ti P) fs := by
     funext i
     unfold strPlace
     rw [hfs, List.getElem?_map]
     rw [Array.getElem?_map, ← Array.getElem?_toList]
     cases hi : fl.toList[i]? with
     | none => rfl
     | some f =>
      have := hall (f.offset, f.type) (by rw [hfs]; exact List.mem_map.2 ⟨f, List.mem_of_getElem? hi, rfl⟩)
      obtain ⟨z, hz⟩ := Option.isSome_iff_exists.1 this
      simp only at hz
      simp [g, hz]
    rw [← hpl] at hfill
    obtain ⟨f1, arr', f2, f3⟩ := fill_sound (E := E) ps qs.toList y.zero oy.z.cells cs (zero_side oy) oy.zfree hl' hv' hfill
    refine ⟨f1, .agg arr', ?_, f3.agg⟩
    simp only [Instr.build, Sem.run_bind, oy.zeroValue, Result.andThen_ok, oy.underlying, hd, hplaces]
    show (match Instr.fill (fun i => (fl.map g)[i]?) oy.z.cells qs.toList with | some cells => pure (.agg cells) | _ => stuck "build: no such field, or a part of the wrong size" : Sem Value).run P E.w = _
    rw [f2]; rfl
   ·exact h.elim
  ·
   rename_i n e
   have hd := kind_arr (oy.kind.trans hk)
   cases hz : ti P e with
   | none => simp [hz] at h; exact h.elim
   | some z =>
    obtain ⟨oz⟩ := ti_ok hz
    simp only [hz, Option.map_some] at h ⊢
    split at h
    ·rename_i cs hfill
     obtain ⟨f1, arr', f2, f3⟩ := fill_sound (E := E) ps qs.toList y.zero oy.z.cells cs (zero_side oy) oy.zfree hl' hv' hfill
     refine ⟨f1, .agg arr', ?_, f3.agg⟩
     simp only [Instr.build, Sem.run_bind, oy.zeroValue, Result.andThen_ok, oy.underlying, hd, oz.sizeOf]
     simp [f2]
    ·exact h.elim
 ·exact h.elim
theorem list_rel {N : Nat} (R : Rel N E) {a : Act} (ha : a.tmps = E.tm) (ops : Array Operand) : ∀ (k : Nat) c, (ops.toList.map (E.st.rd 0))[k]? = some c → Val E .no c ((ops.map a.eval).getD k undef) := by
 intro k c hk
 rw [List.getElem?_map] at hk
 obtain ⟨o, ho, rfl⟩ := Option.map_eq_some_iff.1 hk
 have : (ops.map a.eval).getD k undef = a.eval o := by
  rw [Array.getD_eq_getD_getElem?, Array.getElem?_map, ← Array.getElem?_toList, ho]; rfl
 rw [this]
 exact R.rd ha 0 o .no
theorem qop_sound {N : Nat} (R : Rel N E) {a : Act} (ha : a.tmps = E.tm) (o : Oper) (h : (qop (ti P) E.st o.type o.op).ok) :
  (qop (ti P) E.st o.type o.op).v.free = true ∧ ∃ v, (execOp a.eval o).run P E.w = .ok (.value v) E.w ∧ Val E .no (qop (ti P) E.st o.type o.op).v v := by
 have rd : ∀ sz x, Val E .no (E.st.rd sz x) (a.eval x) := fun sz x => R.rd ha sz x .no
 have fr : ∀ sz x, (E.st.rd sz x).free = true := fun sz x => E.st.rd_free sz x
 have lift : ∀ {s : Sem Value} {x : AV}, RunsTo P E s x → x.free = true ∧ ∃ v, (do pure (Next.value (← s)) : Sem Next).run P E.w = .ok (.value v) E.w ∧ Val E .no x v := by
  rintro s x ⟨h1, v, h2, h3⟩
  exact ⟨h1, v, by simp [h2], h3⟩
 unfold qop at h ⊢
 unfold execOp
 split at h
 ·rename_i x ho; simp only [ho]
  exact ⟨fr _ _, _, rfl, rd _ _⟩
 ·rename_i c x y ho; simp only [ho]
  obtain ⟨h1, b, v, h2, h3, h4⟩ := qpick_sound _ _ _ _ _ _ (rd 0 c) (rd 0 x) (rd 0 y) (fr _ _) (fr _ _) h
  refine ⟨h1, v, ?_, h4⟩
  rw [h3]
  simp [h2, asBool]
 ·rename_i op t x y yt ho; simp only [ho]
  exact lift (qbin_sound op t x y _ _ _ _ (rd 0 x) (rd 0 y) h)
 ·rename_i op t x ho; simp only [ho]
  exact lift (qun_sound op _ _ (rd 0 x) h)
 ·rename_i s d x ho; simp only [ho]
  exact lift (qconv_sound s d _ _ (rd 0 x) h)
 ·rename_i s x f ho; simp only [ho]
  exact lift (qfield_sound s f _ _ (rd 0 x) h)
 ·rename_i s x f ho; simp only [ho]
  exact lift (qfieldv_sound s f _ _ (rd 0 x) (fr _ _) h)
 ·rename_i t x ho; simp only [ho]
  exact lift (qload_sound R t _ _ (rd 0 x) h)
 ·rename_i t x ix ho; simp only [ho]
  exact lift (qindexAddr_sound t _ _ _ _ (rd 0 x) (rd 0 ix) (fr _ _) h)
 ·rename_i t x ix ho; simp only [ho]
  exact lift (qindex_sound t _ _ _ _ (rd 0 x) (rd 0 ix) (fr _ _) h)
 ·rename_i t x lo hi ho; simp only [ho]
  refine lift (qslice_sound t _ _ _ _ _ _ (rd 0 x) (fr _ _) (by simp) (by simp) ?_ ?_ h)
  ·intro y v h1 h2
   obtain ⟨z, rfl, rfl⟩ := Option.map_eq_some_iff.1 h1
   simp at h2; subst h2; exact rd 0 z
  ·intro y v h1 h2
   obtain ⟨z, rfl, rfl⟩ := Option.map_eq_some_iff.1 h1
   simp at h2; subst h2; exact rd 0 z
 ·rename_i t x hi mx ho; simp only [ho]
  exact lift (qslice3_sound t _ _ _ _ _ _ (rd 0 x) (rd 0 hi) (rd 0 mx) h)
 ·rename_i t x lo hi mx ho; simp only [ho]
  exact lift (qsliceC_sound t _ _ _ _ _ _ _ _ (rd 0 x) (rd 0 lo) (rd 0 hi) (rd 0 mx) h)
 ·rename_i t parts ho; simp only [ho]
  refine lift (qbuild_sound t _ _ (by simp) (fun j p q h1 h2 => ?_) h)
  rw [List.getElem?_map] at h1
  obtain ⟨z, hz, rfl⟩ := Option.map_eq_some_iff.1 h1
  rw [Array.getElem?_map, ← Array.getElem?_toList, hz] at h2
  simp at h2; subst h2
  exact ⟨rfl, rd 0 z.2, fr _ _⟩
 ·rename_i x ho; simp only [ho]
  have hx := rd 0 x
  have hf := fr 0 x
  unfold qnil at h ⊢
  split at h
  ·rename_i id off he
   rw [he] at hx ⊢
   generalize hv : a.eval x = v at hx ⊢
   cases hx with
   | ptr => exact ⟨rfl, _, rfl, .ptr _ _ _⟩
  ·rename_i g ix cells off he
   rw [he] at hx ⊢
   generalize hv : a.eval x = v at hx ⊢
   cases hx with
   | pt _ _ _ _ _ bk o' hc hg ha' => exact ⟨rfl, _, rfl, .pt _ _ _ _ _ bk o' hc hg ha'⟩
  ·rename_i f fi ca he
   rw [he] at hx hf ⊢
   generalize hv : a.eval x = v at hx ⊢
   cases hx with
   | fn _ _ _ _ fi' ca' h1 h2 h3 h4 => exact ⟨hf, _, rfl, .fn _ _ _ _ fi' ca' h1 h2 h3 h4⟩
  ·exact h.elim
 ·rename_i x k ho; simp only [ho]
  refine lift ?_
  have hx := rd 0 x
  have hf := fr 0 x
  unfold qextract at h ⊢
  split at h
  ·rename_i vs he
   rw [he] at hx hf
   have h : k < vs.length := h
   have hc : vs[k]? = some (vs.getD k .any) := by simp [List.getD_eq_getElem?_getD, List.getElem?_eq_getElem h]
   generalize hv : a.eval x = v at hx ⊢
   cases hx with
   | tup _ _ arr h1 h2 =>
    have : k < arr.size := by omega
    refine ⟨AV.freeL_get (by simpa [AV.free] using hf) hc, arr.getD k undef, ?_, h2 k _ hc⟩
    simp [Instr.extract, Array.getElem?_eq_getElem this]
  ·exact h.elim
 ·rename_i f first cap ho; simp only [ho]
  refine lift ⟨?_, .func (.func f) (first.map a.eval) (cap.map a.eval), rfl, .fn _ _ _ _ _ _ (by simp) (by simp) (list_rel R ha first) (list_rel R ha cap)⟩
  have hfl : ∀ (ops : Array Operand), AV.freeL (ops.toList.map (E.st.rd 0)) = true := by
   intro ops
   rw [AV.freeL_iff]
   intro c hc
   obtain ⟨z, _, rfl⟩ := List.mem_map.1 hc
   exact fr 0 z
  simp [AV.free, hfl]
 ·rename_i args ts ho; simp only [ho]
  unfold qlenA at h ⊢
  split at h
  ·rename_i x t hx ht
   obtain ⟨z, hz, rfl⟩ : ∃ z, args.toList = [z] ∧ E.st.rd 0 z = x := by
    cases hal : args.toList with
    | nil => simp [hal] at hx
    | cons z r => cases r <;> simp_all
   have ea : args = #[z] := by apply Array.ext'; simpa using hz
   have et : ts = #[t] := by apply Array.ext'; simpa using ht
   subst ea; subst et
   have := lift (qlen_sound (P := P) t o.type _ _ (rd 0 z) h)
   simpa [resolve, invoke, Go.builtin] using this
  ·exact h.elim
 ·rename_i args ts ho; simp only [ho]
  unfold qcapA at h ⊢
  split at h
  ·rename_i x t hx ht
   obtain ⟨z, hz, rfl⟩ : ∃ z, args.toList = [z] ∧ E.st.rd 0 z = x := by
    cases hal : args.toList with
    | nil => simp [hal] at hx
    | cons z r => cases r <;> simp_all
   have ea : args = #[z] := by apply Array.ext'; simpa using hz
   have et : ts = #[t] := by apply Array.ext'; simpa using ht
   subst ea; subst et
   have := lift (qcap_sound (P := P) t o.type _ _ (rd 0 z) h)
   simpa [resolve, invoke, Go.builtin] using this
  ·exact h.elim
 ·rename_i args ts ho; simp only [ho]
  have hr := list_rel R ha args
  unfold qmax at h ⊢
  split at h
  ·rename_i k m r he
   rw [he] at hr
   cases hal : (args.map a.eval).toList with
   | nil =>
    exfalso
    have : args.size = 0 := by have := congrArg List.length hal; simpa using this
    have h2 := congrArg List.length he
    simp [this] at h2
   | cons v vs =>
    have hget : ∀ (j : Nat) u, (v :: vs)[j]? = some u → (args.map a.eval).getD j undef = u := by
     intro j u hj
     rw [← hal, Array.getElem?_toList] at hj
     rw [Array.getD_eq_getD_getElem?, hj]; rfl
    have h0 := hr 0 _ rfl
    rw [hget 0 v rfl] at h0
    cases h0
    have hlen : r.length = vs.length := by
     have h1 := congrArg List.length he
     have h2 := congrArg List.length hal
     simp at h1 h2; omega
    obtain ⟨q, h1, h2⟩ := qmaxL_sound (P := P) (E := E) k r m vs hlen (fun j x v h1 h2 => by
     have := hr (j + 1) x (by simpa using h1)
     rwa [hget (j + 1) v (by simpa using h2)] at this) h
    rw [h1]
    refine ⟨rfl, .int k q, ?_, .i _ _ _⟩
    have hal2 : List.map a.eval args.toList = .int k m :: vs := by simpa using hal
    simp [resolve, invoke, Go.builtin, Builtin.max_, hal2, h2]
  ·exact h.elim
 ·rename_i args ts ho; simp only [ho]
  have hr := list_rel R ha args
  unfold qmin at h ⊢
  split at h
  ·rename_i k m r he
   rw [he] at hr
   cases hal : (args.map a.eval).toList with
   | nil =>
    exfalso
    have : args.size = 0 := by have := congrArg List.length hal; simpa using this
    have h2 := congrArg List.length he
    simp [this] at h2
   | cons v vs =>
    have hget : ∀ (j : Nat) u, (v :: vs)[j]? = some u → (args.map a.eval).getD j undef = u := by
     intro j u hj
     rw [← hal, Array.getElem?_toList] at hj
     rw [Array.getD_eq_getD_getElem?, hj]; rfl
    have h0 := hr 0 _ rfl
    rw [hget 0 v rfl] at h0
    cases h0
    have hlen : r.length = vs.length := by
     have h1 := congrArg List.length he
     have h2 := congrArg List.length hal
     simp at h1 h2; omega
    obtain ⟨q, h1, h2⟩ := qminL_sound (P := P) (E := E) k r m vs hlen (fun j x v h1 h2 => by
     have := hr (j + 1) x (by simpa using h1)
     rwa [hget (j + 1) v (by simpa using h2)] at this) h
    rw [h1]
    refine ⟨rfl, .int k q, ?_, .i _ _ _⟩
    have hal2 : List.map a.eval args.toList = .int k m :: vs := by simpa using hal
    simp [resolve, invoke, Go.builtin, Builtin.min_, hal2, h2]
  ·exact h.elim
 ·exact h.elim
end
end Go.AM
namespace Go.AM
def resLeafOk (Q : Place → Option Place) (F : Place → Bool) (p : Place) : AV → Bool
 | .sl (.vw q ex) _ _ => (ex && decide (Q q = some p) && !F q && decide (p ≠ .no)) || F q
 | .sl .own _ _ => false
 | .pt (.vw q _) _ _ _ => F q
 | _ => true
mutual
def AV.resOk (Q : Place → Option Place) (F : Place → Bool) : Place → AV → Bool
 | p, .agg cs => AV.resOkL Q F p 0 cs
 | p, .tup cs => AV.resOkL Q F p 0 cs
 | _, .fn _ fi ca => AV.resOkN Q F fi && AV.resOkN Q F ca
 | p, x => resLeafOk Q F p x
def AV.resOkL (Q : Place → Option Place) (F : Place → Bool) : Place → Nat → List AV → Bool
 | _, _, [] => true
 | p, k, x :: xs => AV.resOk Q F (p.sub k) x && AV.resOkL Q F p (k + 1) xs
def AV.resOkN (Q : Place → Option Place) (F : Place → Bool) : List AV → Bool
 | [] => true
 | x :: xs => AV.resOk Q F .no x && AV.resOkN Q F xs
end
def resLeaf (F : Place → Bool) (p : Place) : AV → AV
 | .sl (.vw q _) sz xs => if F q || decide (p = .no) then .sl .fro sz xs else .sl .own sz xs
 | .pt (.vw _ _) ix cs off => .pt .fro ix cs off
 | x => x
theorem AV.resOkL_get {Q F} : ∀ {p : Place} {cs : List AV} {k : Nat}, AV.resOkL Q F p k cs = true → ∀ (j : Nat) c, cs[j]? = some c → c.resOk Q F (p.sub (k + j)) = true
 | p, [], k, _, j, c, h => by simp at h
 | p, x :: xs, k, hr, 0, c, h => by
  simp at h; subst h
  simp only [AV.resOkL, Bool.and_eq_true] at hr
  exact hr.1
 | p, x :: xs, k, hr, j + 1, c, h => by
  simp only [AV.resOkL, Bool.and_eq_true] at hr
  have := AV.resOkL_get hr.2 j c (by simpa using h)
  rwa [show k + 1 + j = k + (j + 1) by omega] at this
theorem AV.resOkN_get {Q F} : ∀ {cs : List AV}, AV.resOkN Q F cs = true → ∀ (j : Nat) c, cs[j]? = some c → c.resOk Q F .no = true
 | [], _, j, c, h => by simp at h
 | x :: xs, hr, 0, c, h => by
  simp at h; subst h
  simp only [AV.resOkN, Bool.and_eq_true] at hr
  exact hr.1
 | x :: xs, hr, j + 1, c, h => by
  simp only [AV.resOkN, Bool.and_eq_true] at hr
  exact AV.resOkN_get hr.2 j c (by simpa using h)
def Env.settle (E : Env) (Q : Place → Option Place) (F : Place → Bool) : Env := (E.fz F).take Q
theorem settle_pub {E : Env} {Q F} : ∀ bk, E.Pub bk → (E.settle Q F).Pub bk ∧ E.w.heap[bk]? = E.w.heap[bk]? := fun _ h => ⟨.inl h, rfl⟩
theorem exact_room {N : Nat} {E : Env} (R : Rel N E) {q : Place} {sz : Nat} {xs : List (List AV)} {bk off cap : Nat} (hc : E.con q = some (.slice (some ⟨bk, off, none⟩) xs.length cap)) (ha : E.st.abs q = .sl .own sz xs) :
  Room E.w bk off (cap * sz) := by
 have := R.at hc
 rw [ha] at this
 cases this with
 | sl _ _ _ _ _ _ _ _ _ hg _ => exact hg.2
theorem Val.settle {N : Nat} {E : Env} (R : Rel N E) {Q : Place → Option Place} {F : Place → Bool} {p0 : Place} {x : AV} {v : Value} (hv : Val E p0 x v) :
  ∀ p, x.resOk Q F p = true → Val (E.settle Q F) p (x.tr (resLeaf F) p) v := by
 induction hv with
 | any p v => exact fun p _ => .any p v
 | b p x => exact fun p _ => .b p x
 | i p k n => exact fun p _ => .i p k n
 | s p x => exact fun p _ => .s p x
 | nil p => exact fun p _ => .nil p
 | nofn p => exact fun p _ => .nofn p
 | ab p b0 o0 n0 c0 => exact fun p _ => .ab p b0 o0 n0 c0
 | mp p b0 => exact fun p _ => .mp p b0
 | it p b0 => exact fun p _ => .it p b0
 | ptr p id off => exact fun p _ => .ptr (E := E.settle Q F) p id off
 | bs p id off n cap => exact fun p _ => .bs (E := E.settle Q F) p id off n cap
 | pt p1 g ix cells off bk o hc hg ha =>
  intro p hr
  rw [AV.tr_leaf rfl]
  cases g with
  | own => exact hg.elim
  | nl => exact hg.elim
  | fro => exact .pt p .fro ix cells off bk o (hc.mono settle_pub rfl) (settle_pub _ hg).1 trivial
  | cut => exact hg.elim
  | vw q ex =>
   simp only [AV.resOk, resLeafOk] at hr
   exact .pt p .fro ix cells off bk o (hc.mono settle_pub rfl) (.inr ⟨q, hg.1, hr⟩) trivial
 | sl1 p1 sz a cap => exact fun p _ => .sl1 p sz a cap
 | sl2 p1 sz a => exact fun p _ => .sl2 p sz a
 | sl0 p1 g sz h0 ha =>
  intro p hr
  rw [AV.tr_leaf rfl]
  cases g with
  | own => simp [AV.resOk, resLeafOk] at hr
  | fro => exact .sl0 p _ sz (by simp) trivial
  | cut => exact .sl0 p _ sz (by simp) trivial
  | nl => exact .sl0 p _ sz (by simp) trivial
  | vw q ex =>
   simp only [resLeaf]
   split <;> exact .sl0 p _ sz (by simp) trivial
 | sl p1 g sz xs bk off cap hc hr1 hg ha =>
  intro p hr
  rw [AV.tr_leaf rfl]
  cases g with
  | own => simp [AV.resOk, resLeafOk] at hr
  | fro => exact .sl p .fro sz xs bk off cap hc (hr1.mono settle_pub rfl) (settle_pub _ hg).1 trivial
  | cut => exact .sl p .cut sz xs bk off cap hc (hr1.mono settle_pub rfl) ⟨(settle_pub _ hg.1).1, hg.2⟩ trivial
  | nl => exact hg.elim
  | vw q ex =>
   simp only [AV.resOk, resLeafOk, Bool.or_eq_true, Bool.and_eq_true, decide_eq_true_eq, Bool.not_eq_true'] at hr
   simp only [resLeaf]
   rcases hr with ⟨⟨⟨he, hQ⟩, hF⟩, hp⟩ | hF
   ·rw [if_neg (by simp [hF, hp])]
    obtain ⟨h1, h2⟩ := hg
    obtain ⟨h3, h4⟩ := h2 he
    refine .sl p .own sz xs bk off cap hc (hr1.mono settle_pub rfl) ⟨?_, exact_room R h3 h4⟩ trivial
    simp [Env.settle, Env.take, Env.fz, h1, hF, hQ]
   ·rw [if_pos (by simp [hF])]
    exact .sl p .fro sz xs bk off cap hc (hr1.mono settle_pub rfl) (.inr ⟨q, hg.1, hF⟩) trivial
 | fn p1 f fi ca fi' ca' h1 h2 _ _ ih1 ih2 =>
  intro p hr
  rw [AV.tr]
  simp only [AV.resOk, Bool.and_eq_true] at hr
  refine .fn p f _ _ fi' ca' (by rw [AV.trN_length]; exact h1) (by rw [AV.trN_length]; exact h2) (fun k c hk => ?_) (fun k c hk => ?_)
  ·rw [AV.trN_get] at hk
   obtain ⟨c', hc, rfl⟩ := Option.map_eq_some_iff.1 hk
   exact ih1 k c' hc .no (AV.resOkN_get hr.1 k c' hc)
  ·rw [AV.trN_get] at hk
   obtain ⟨c', hc, rfl⟩ := Option.map_eq_some_iff.1 hk
   exact ih2 k c' hc .no (AV.resOkN_get hr.2 k c' hc)
 | agg p1 cs arr h1 _ ih =>
  intro p hr
  rw [AV.tr]
  rw [AV.resOk] at hr
  refine .agg p _ arr (by rw [AV.trL_length]; exact h1) (fun k c hk => ?_)
  rw [AV.trL_get] at hk
  obtain ⟨c', hc, rfl⟩ := Option.map_eq_some_iff.1 hk
  have h3 := AV.resOkL_get hr k c' hc
  rw [Nat.zero_add] at h3 ⊢
  exact ih k c' hc _ h3
 | tup p1 cs arr h1 _ ih =>
  intro p hr
  rw [AV.tr]
  rw [AV.resOk] at hr
  refine .tup p _ arr (by rw [AV.trL_length]; exact h1) (fun k c hk => ?_)
  rw [AV.trL_get] at hk
  obtain ⟨c', hc, rfl⟩ := Option.map_eq_some_iff.1 hk
  have h3 := AV.resOkL_get hr k c' hc
  rw [Nat.zero_add] at h3 ⊢
  exact ih k c' hc _ h3
theorem Rel.settle {N : Nat} {E : Env} (R : Rel N E) (Q : Place → Option Place) (F : Place → Bool) (hQ : ∀ id, Q (.box id) = none) (hF : ∀ id, F (.box id) = false) : Rel N (E.settle Q F) :=
 (R.fz F hF).take Q hQ
mutual
def AV.data : AV → Bool
 | .b _ | .i _ _ | .s _ | .nil | .nofn | .ab _ _ _ _ | .mp _ | .it _ => true
 | .sl .fro _ _ => true
 | .agg cs => AV.dataL cs
 | _ => false
def AV.dataL : List AV → Bool
 | [] => true
 | x :: xs => x.data && AV.dataL xs
end
theorem AV.dataL_iff : ∀ {cs : List AV}, AV.dataL cs = true ↔ ∀ c ∈ cs, c.data = true
 | [] => by simp [AV.dataL]
 | x :: xs => by simp [AV.dataL, AV.dataL_iff (cs := xs)]
theorem Val.dat {E : Env} {p : Place} {x : AV} {v : Value} (hv : Val E p x v) : x.data = true → Dat E.Pub E.w x v := by
 induction hv with
 | b p x => exact fun _ => .b x
 | i p k n => exact fun _ => .i k n
 | s p x => exact fun _ => .s x
 | nil p => exact fun _ => .nil
 | nofn p => exact fun _ => .nofn
 | ab p b0 o0 n0 c0 => exact fun _ => .ab b0 o0 n0 c0
 | mp p b0 => exact fun _ => .mp b0
 | it p b0 => exact fun _ => .it b0
 | sl1 p sz a cap => exact fun _ => .sl1 sz a cap
 | sl2 p sz a => exact fun h => by simp [AV.data] at h
 | sl0 p g sz h0 ha =>
  intro h
  cases g <;> first | (simp [AV.data] at h; done) | exact .sl0 sz
 | sl p g sz xs bk off cap hc hr hg ha =>
  intro h
  cases g with
  | fro =>
   refine .sl sz xs bk off cap (fun k => (E.w.cell? ⟨bk, off + k, none⟩).getD undef) hg hc hr.1 (fun k c hk => ?_) (fun k c hk => ?_) (fun k c hk => ?_)
   ·obtain ⟨u, hu, hd⟩ := hr.2 k c hk
    simp [hu]
   ·obtain ⟨u, hu, hd⟩ := hr.2 k c hk
    simpa [hu] using hd.2
   ·obtain ⟨u, hu, hd⟩ := hr.2 k c hk
    simpa [hu] using hd.1
  | _ => simp [AV.data] at h
 | agg p cs arr h1 _ ih =>
  intro h
  rw [AV.data, AV.dataL_iff] at h
  exact .agg cs arr h1 fun k c hk => ih k c hk (h c (List.mem_of_getElem? hk))
 | any => intro h; simp [AV.data] at h
 | ptr => intro h; simp [AV.data] at h
 | bs => intro h; simp [AV.data] at h
 | pt => intro h; simp [AV.data] at h
 | fn => intro h; simp [AV.data] at h
 | tup => intro h; simp [AV.data] at h
def dzLeaf (F : Place → Bool) (_ : Place) : AV → AV
 | .sl (.vw q ex) sz xs => if F q then .sl .fro sz xs else .sl (.vw q ex) sz xs
 | .sl .nl sz [] => .sl .fro sz []
 | .sl .cut sz xs => .sl .fro sz xs
 | x => x
def AV.dz (F : Place → Bool) (x : AV) : AV := x.tr (dzLeaf F) .no
theorem Val.dz {E : Env} {F : Place → Bool} {p0 : Place} {x : AV} {v : Value} (hv : Val E p0 x v) : (x.dz F).data = true → Dat (E.fz F).Pub (E.fz F).w (x.dz F) v := by
 have hpub : ∀ bk, E.Pub bk → (E.fz F).Pub bk ∧ E.w.heap[bk]? = E.w.heap[bk]? := fun bk h => ⟨.inl h, rfl⟩
 unfold AV.dz
 have key : ∀ p, (x.tr (dzLeaf F) p).data = true → Dat (E.fz F).Pub (E.fz F).w (x.tr (dzLeaf F) p) v := by
  induction hv with
  | any p v => intro p h; simp [AV.tr, dzLeaf, AV.data] at h
  | b p x => exact fun p _ => .b x
  | i p k n => exact fun p _ => .i k n
  | s p x => exact fun p _ => .s x
  | nil p => exact fun p _ => .nil
  | nofn p => exact fun p _ => .nofn
  | ab p b0 o0 n0 c0 => exact fun p _ => .ab b0 o0 n0 c0
  | mp p b0 => exact fun p _ => .mp b0
  | it p b0 => exact fun p _ => .it b0
  | ptr p id off => intro p h; simp [AV.tr, dzLeaf, AV.data] at h
  | bs p id off n cap => intro p h; simp [AV.tr, dzLeaf, AV.data] at h
  | pt p g ix cells off bk o hc hg ha => intro p h; simp [AV.tr, dzLeaf, AV.data] at h
  | sl1 p1 sz a cap => exact fun p _ => .sl1 sz a cap
  | sl2 p1 sz a => exact fun p _ => .sl1 sz a 0
  | sl0 p1 g sz h0 ha =>
   intro p h
   rw [AV.tr_leaf rfl] at h ⊢
   cases g with
   | own => simp [dzLeaf, AV.data] at h
   | fro => exact .sl0 sz
   | cut => exact .sl0 sz
   | nl => exact .sl0 sz
   | vw q ex =>
    simp only [dzLeaf] at h ⊢
    split at h
    ·rename_i hf; rw [if_pos hf]; exact .sl0 sz
    ·simp [AV.data] at h
  | sl p1 g sz xs bk off cap hc hr hg ha =>
   intro p h
   rw [AV.tr_leaf rfl] at h ⊢
   cases g with
   | own => simp [dzLeaf, AV.data] at h
   | nl => exact hg.elim
   | fro => exact (Val.sl (E := E.fz F) p .fro sz xs bk off cap hc (hr.mono hpub rfl) (hpub _ hg).1 trivial).dat rfl
   | cut => exact (Val.sl (E := E.fz F) p .fro sz xs bk off cap hc (hr.mono hpub rfl) (hpub _ hg.1).1 trivial).dat rfl
   | vw q ex =>
    simp only [dzLeaf] at h ⊢
    split at h
    ·rename_i hf
     rw [if_pos hf]
     exact (Val.sl (E := E.fz F) p .fro sz xs bk off cap hc (hr.mono hpub rfl) (.inr ⟨q, hg.1, hf⟩) trivial).dat rfl
    ·simp [AV.data] at h
  | fn p f fi ca fi' ca' h1 h2 _ _ ih1 ih2 => intro p h; simp [AV.tr, AV.data] at h
  | agg p1 cs arr h1 _ ih =>
   intro p h
   rw [AV.tr] at h ⊢
   rw [AV.data, AV.dataL_iff] at h
   refine .agg _ arr (by rw [AV.trL_length]; exact h1) fun k c hk => ?_
   have hmem := List.mem_of_getElem? hk
   rw [AV.trL_get] at hk
   obtain ⟨c', hc, rfl⟩ := Option.map_eq_some_iff.1 hk
   exact ih k c' hc _ (h _ hmem)
  | tup p cs arr h1 _ ih => intro p h; simp [AV.tr, AV.data] at h
 exact key .no
end Go.AM
namespace Go.AM
theorem heap_alloc_old' (w : World) (o : Obj) (bk : Nat) (h : bk < w.heap.size) : (w.alloc o).heap[bk]? = w.heap[bk]? := by
 show (w.heap.push o)[bk]? = _
 rw [Array.getElem?_push, if_neg (by omega)]
theorem heap_alloc_new' (w : World) (o : Obj) : (w.alloc o).heap[w.heap.size]? = some o := by
 show (w.heap.push o)[w.heap.size]? = _
 simp
theorem heap_alloc_size' (w : World) (o : Obj) : (w.alloc o).heap.size = w.heap.size + 1 := by
 show (w.heap.push o).size = _
 simp
def St.setBox (st : St) (id : Nat) (cs : Option (List AV)) : St := { st with boxes := fun i => if i = id then cs else st.boxes i }
theorem Rel.setBox {N : Nat} {E : Env} (R : Rel N E) (Dead : Place → Prop) (hdead : ∀ q sz xs, E.st.abs q = .sl .own sz xs → ¬ Dead q) (hdb : ∀ id, ¬ Dead (.box id)) (hdn : ¬ Dead .no)
  (w' : World) (ω' : Nat → Option Place) (Pub' : Nat → Prop) (id : Nat) (D : Nat → Prop) (cs cs' : List AV) (arr arr' : Array Value) (T T' : TypeId) (hb : E.st.boxes id = some cs)
  (ha : E.w.heap[E.β id]? = some (.cells arr T (0, 0)))
  (hw : ∀ bk, bk < E.w.heap.size → bk ≠ E.β id → (∀ q, E.ω bk = some q → ¬ Dead q) → w'.heap[bk]? = E.w.heap[bk]?) (hw' : w'.heap[E.β id]? = some (.cells arr' T' (0, 0)))
  (hlen : arr'.size = cs'.length) (hcl : cs'.length = cs.length) (hown0 : ∀ (j : Nat) c, cs[j]? = some c → D j → ∀ sz xs, c ≠ .sl .own sz xs) (hsame : ∀ j, ¬ D j → cs'[j]? = cs[j]? ∧ arr'[j]? = arr[j]?)
  (hω : ∀ bk q, E.ω bk = some q → ω' bk = some q) (hP : ∀ bk, E.Pub bk → Pub' bk)
  (hpub : ∀ bk, Pub' bk → bk < w'.heap.size ∧ ω' bk = none) (hown : ∀ bk q, ω' bk = some q → bk < w'.heap.size) :
  let E' : Env := { w := w', β := E.β, ω := ω', Pub := Pub', st := E.st.setBox id (some cs'), tm := E.tm }
  Stays (fun q => (∀ j, q = .cell id j → ¬ D j) ∧ ¬ Dead q ∧ q ≠ .box id) (fun _ => True) E E' ∧
   ((∀ (j : Nat) c, cs'[j]? = some c → D j → Val E' (.cell id j) c (arr'.getD j undef)) → Rel N E') := by
 intro E'
 have hbb := R.boxes id cs hb
 have hq : ∀ q sz xs, E.st.abs q = .sl .own sz xs → (∀ j, q = .cell id j → ¬ D j) ∧ ¬ Dead q ∧ q ≠ .box id := by
  intro q sz xs h
  refine ⟨fun j he hd => ?_, hdead q sz xs h, fun he => ?_⟩
  ·subst he
   simp only [St.abs, hb, Option.getD_some] at h
   cases hj : cs[j]? with
   | none => rw [List.getD_eq_getElem?_getD, hj] at h; simp at h
   | some c =>
    rw [getD_get hj] at h
    exact hown0 j c hj hd sz xs h
  ·subst he; simp [St.abs] at h
 have hpb : ∀ bk, E.Pub bk → w'.heap[bk]? = E.w.heap[bk]? := fun bk h => hw bk (R.pub bk h).1 (fun e => by have := (R.pub bk h).2; rw [e, hbb.1] at this; cases this) (by rw [(R.pub bk h).2]; simp)
 have hob : ∀ bk q, ¬ Dead q → q ≠ .box id → E.ω bk = some q → w'.heap[bk]? = E.w.heap[bk]? := fun bk q hn hne h =>
  hw bk (R.own bk q h) (fun e => by rw [e, hbb.1] at h; exact hne (Option.some.inj h).symm) (by rw [h]; simpa using hn)
 have hst : Stays (fun q => (∀ j, q = .cell id j → ¬ D j) ∧ ¬ Dead q ∧ q ≠ .box id) (fun _ => True) E E' := by
  refine ⟨fun bk h => ⟨hP bk h, hpb bk h⟩, fun bk q hs h => ⟨hω bk q h, hob bk q hs.2.1 hs.2.2 h⟩, fun _ _ => rfl, ?_, ?_⟩
  ·intro q u sz xs hr hab hc
   cases q with
   | slot t π => exact hc
   | cell i off =>
    have hc' : E.w.cell? ⟨E.β i, off, none⟩ = some u := hc
    show w'.cell? ⟨E.β i, off, none⟩ = some u
    by_cases hi : i = id
    ·subst hi
     have hnd := hr.1 off rfl
     simp only [World.cell?, ha] at hc'
     simp only [World.cell?, hw']
     simp only [Option.isSome_none, Bool.false_eq_true, if_false] at hc' ⊢
     rw [(hsame off hnd).2]; exact hc'
    ·have hlive : ∃ cs, E.st.boxes i = some cs := by
      cases hbx : E.st.boxes i with
      | none => simp [St.abs, hbx] at hab
      | some cs => exact ⟨cs, rfl⟩
     obtain ⟨csi, hbi⟩ := hlive
     rw [cell_same (hob _ _ (hdb i) (by simpa using hi) (R.boxes i csi hbi).1)]; exact hc'
   | box _ => simp [Env.con] at hc
   | no => simp [Env.con] at hc
  ·intro q sz xs hr hab
   cases q with
   | slot t π => exact hab
   | cell i off =>
    by_cases hi : i = id
    ·subst hi
     have hnd := hr.1 off rfl
     simp only [St.abs, hb, Option.getD_some] at hab
     show ((((E.st.setBox i (some cs')).boxes i).getD []).getD off .any) = _
     simp only [St.setBox, if_true, Option.getD_some, List.getD_eq_getElem?_getD, (hsame off hnd).1]
     rwa [List.getD_eq_getElem?_getD] at hab
    ·show ((((E.st.setBox id (some cs')).boxes i).getD []).getD off .any) = _
     simp only [St.setBox, hi, if_false]; exact hab
   | box _ => simp [St.abs] at hab
   | no => simp [St.abs] at hab
 have hno : (∀ j, Place.no = .cell id j → ¬ D j) ∧ ¬ Dead .no ∧ Place.no ≠ .box id := ⟨by simp, hdn, by simp⟩
 refine ⟨hst, fun hx => ?_⟩
 refine { size := R.size, slots := fun t => (R.slots t).mono hst (R.leansSlot hq hno t), boxes := fun i csi h => ?_, pub := hpub, own := hown, abs := fun i h hm => R.abs i (by
  by_cases hi : i = id
  ·subst hi; rw [hb]; rfl
  ·simpa [E', St.setBox, hi] using h) hm, gl := R.gl.mono hst.pub }
 by_cases hi : i = id
 ·subst hi
  have : csi = cs' := by simpa [E', St.setBox] using h.symm
  subst this
  refine ⟨hω _ _ hbb.1, arr', T', hw', hlen, fun j c hj => ?_⟩
  by_cases hd : D j
  ·exact hx j c hj hd
  ·obtain ⟨h1, arr0, T0, h2, h3, h4⟩ := hbb
   have e : arr0 = arr := by rw [ha] at h2; cases h2; rfl
   subst e
   obtain ⟨s1, s2⟩ := hsame j hd
   rw [s1] at hj
   have := (h4 j c hj).mono hst (R.leansCell hq hno hb hj)
   rw [Array.getD_eq_getD_getElem?] at this ⊢
   rw [s2]; exact this
 ·have h' : E.st.boxes i = some csi := by simpa [E', St.setBox, hi] using h
  obtain ⟨h1, arr0, T0, h2, h3, h4⟩ := R.boxes i csi h'
  refine ⟨hω _ _ h1, arr0, T0, ?_, h3, fun j c hj => ?_⟩
  ·show w'.heap[E.β i]? = _
   rw [hob _ _ (hdb i) (by simpa using hi) h1]; exact h2
  ·exact (h4 j c hj).mono hst (R.leansCell hq hno h' hj)
theorem Leans.killB {SP : Place → Prop} {id : Nat} {p : Place} {x : AV} (h : Leans SP (fun _ => True) p x) : Leans SP (fun i => i ≠ id) p (x.tr (killBLeaf id) p) := by
 induction h with
 | any p => exact .any p
 | b p x => exact .b p x
 | i p k n => exact .i p k n
 | s p x => exact .s p x
 | nil p => exact .nil p
 | nofn p => exact .nofn p
 | ab p b0 o0 n0 c0 => exact .ab p b0 o0 n0 c0
 | mp p b0 => exact .mp p b0
 | it p b0 => exact .it p b0
 | ptr p id' off _ =>
  rw [AV.tr_leaf rfl]
  simp only [killBLeaf]
  split
  ·exact .any p
  ·rename_i hne; exact .ptr p id' off hne
 | bs p id' off n cap _ =>
  rw [AV.tr_leaf rfl]
  simp only [killBLeaf]
  split
  ·exact .any p
  ·rename_i hne; exact .bs p id' off n cap hne
 | pt p g ix cells off hq => exact .pt p g ix cells off hq
 | sl p g sz xs hq ho => exact .sl p g sz xs hq ho
 | fn p f fi ca h1 h2 ih1 ih2 =>
  rw [AV.tr]
  refine .fn p f _ _ (fun c hc => ?_) (fun c hc => ?_)
  ·obtain ⟨k, hk⟩ := List.getElem?_of_mem hc
   rw [AV.trN_get] at hk
   obtain ⟨c', hc', rfl⟩ := Option.map_eq_some_iff.1 hk
   exact ih1 c' (List.mem_of_getElem? hc')
  ·obtain ⟨k, hk⟩ := List.getElem?_of_mem hc
   rw [AV.trN_get] at hk
   obtain ⟨c', hc', rfl⟩ := Option.map_eq_some_iff.1 hk
   exact ih2 c' (List.mem_of_getElem? hc')
 | agg p cs _ ih =>
  rw [AV.tr]
  refine .agg p _ fun k c hk => ?_
  rw [AV.trL_get] at hk
  obtain ⟨c', hc', rfl⟩ := Option.map_eq_some_iff.1 hk
  have := ih k c' hc'
  simpa using this
 | tup p cs _ ih =>
  rw [AV.tr]
  refine .tup p _ fun k c hk => ?_
  rw [AV.trL_get] at hk
  obtain ⟨c', hc', rfl⟩ := Option.map_eq_some_iff.1 hk
  have := ih k c' hc'
  simpa using this
theorem Rel.newBox {N : Nat} {E : Env} (R : Rel N E) (id : Nat) (cs : List AV) (arr : Array Value) (T : TypeId) (hlen : arr.size = cs.length)
  (hown0 : ∀ j sz xs, E.st.abs (.cell id j) ≠ .sl .own sz xs) (hid : id < parkM) :
  let E' : Env := ⟨E.w.alloc (.cells arr T), (fun i => if i = id then E.w.heap.size else E.β i), (fun bk => if bk = E.w.heap.size then some (.box id) else E.ω bk), E.Pub, (E.st.killB id).setBox id (some cs), E.tm⟩
  Stays (fun q => (∀ j, q ≠ .cell id j) ∧ q ≠ .box id) (fun i => i ≠ id) { E with st := E.st.killB id } E' ∧
   ((∀ (j : Nat) c, cs[j]? = some c → Val E' (.cell id j) c (arr.getD j undef)) → Rel N E') := by
 intro E'
 have R1 := R.killB id
 have hold : ∀ bk, bk < E.w.heap.size → E'.w.heap[bk]? = E.w.heap[bk]? := fun bk h => heap_alloc_old' _ _ _ h
 have habs : ∀ q sz xs, E.st.abs q = .sl .own sz xs ↔ (E.st.killB id).abs q = .sl .own sz xs := by
  have aux : ∀ (p : Place) (x : AV) sz xs, x = .sl .own sz xs ↔ x.tr (killBLeaf id) p = .sl .own sz xs := by
   intro p x sz xs
   cases x with
   | agg cs => simp [AV.tr]
   | tup cs => simp [AV.tr]
   | fn f fi ca => simp [AV.tr]
   | ptr i off => simp only [AV.tr, killBLeaf]; split <;> simp
   | bs i off n cap => simp only [AV.tr, killBLeaf]; split <;> simp
   | _ => simp [AV.tr, killBLeaf]
  intro q sz xs
  unfold St.killB
  rw [St.abs_tr (fun _ => rfl) (killBLeaf_leaf id)]
  cases q with
  | slot t π => exact aux _ _ _ _
  | cell i off => exact aux _ _ _ _
  | _ => simp [St.abs]
 have hst : Stays (fun q => (∀ j, q ≠ .cell id j) ∧ q ≠ .box id) (fun i => i ≠ id) { E with st := E.st.killB id } E' := by
  refine ⟨fun bk h => ⟨h, hold bk (R.pub bk h).1⟩, fun bk q _ h => ⟨?_, hold bk (R.own bk q h)⟩, fun i hi => by simp [E', hi], ?_, ?_⟩
  ·have : bk ≠ E.w.heap.size := by have := R.own bk q h; omega
   simp only [E', this, if_false]; exact h
  ·intro q u sz xs hr hab hc
   cases q with
   | slot t π => exact hc
   | cell i off =>
    have hi : i ≠ id := fun e => hr.1 off (by rw [e])
    have hc' : E.w.cell? ⟨E.β i, off, none⟩ = some u := hc
    show E'.w.cell? ⟨E'.β i, off, none⟩ = some u
    have : E'.β i = E.β i := by simp [E', hi]
    rw [this, cell_same (hold _ (cell_lt hc'))]; exact hc'
   | box _ => simp [Env.con] at hc
   | no => simp [Env.con] at hc
  ·intro q sz xs hr hab
   cases q with
   | slot t π => exact hab
   | cell i off =>
    have hi : i ≠ id := fun e => hr.1 off (by rw [e])
    show (((((E.st.killB id).setBox id (some cs)).boxes i).getD []).getD off .any) = _
    simp only [St.setBox, hi, if_false]; exact hab
   | box _ => simp [St.abs] at hab
   | no => simp [St.abs] at hab
 have hq : ∀ q sz xs, E.st.abs q = .sl .own sz xs → (∀ j, q ≠ .cell id j) ∧ q ≠ .box id := by
  intro q sz xs h
  exact ⟨fun j e => hown0 j sz xs (e ▸ h), fun e => by subst e; simp [St.abs] at h⟩
 have hno : (∀ j, Place.no ≠ .cell id j) ∧ Place.no ≠ .box id := by simp
 refine ⟨hst, fun hx => ?_⟩
 refine { size := R.size, slots := fun t => ?_, boxes := fun i csi h => ?_, pub := ?_, own := ?_, abs := fun i h hm => ?_, gl := R.gl.mono hst.pub }
 ·exact (R1.slots t).mono hst (R.leansSlot hq hno t).killB
 ·by_cases hi : i = id
  ·subst hi
   have : csi = cs := by simpa [E', St.setBox] using h.symm
   subst this
   refine ⟨by simp [E'], arr, T, ?_, hlen, hx⟩
   show (E.w.alloc (.cells arr T)).heap[if i = i then E.w.heap.size else E.β i]? = _
   rw [if_pos rfl, heap_alloc_new']
  ·have h' : (E.st.killB id).boxes i = some csi := by simpa [E', St.setBox, hi] using h
   obtain ⟨h1, arr0, T0, h2, h3, h4⟩ := R1.boxes i csi h'
   have hbi : E'.β i = E.β i := by simp [E', hi]
   have hlt := R.own _ _ h1
   refine ⟨?_, arr0, T0, ?_, h3, fun j c hj => ?_⟩
   ·rw [hbi]
    have : E.β i ≠ E.w.heap.size := by simp only at hlt; omega
    simp only [E', this, if_false]; exact h1
   ·rw [hbi, hold _ hlt]; exact h2
   ·have h5 := h4 j c hj
    simp only [St.killB, St.tr, Option.map_eq_some_iff] at h'
    obtain ⟨cs0, hb0, rfl⟩ := h'
    rw [AV.trC_get] at hj
    obtain ⟨c0, hc0, rfl⟩ := Option.map_eq_some_iff.1 hj
    have := (R.leansCell hq hno hb0 hc0).killB (id := id)
    simp only [Nat.zero_add] at this h5 ⊢
    exact h5.mono hst this
 ·intro bk h
  have := R.pub bk h
  refine ⟨by simp only [E', heap_alloc_size']; omega, ?_⟩
  have : bk ≠ E.w.heap.size := by omega
  simp only [E', this, if_false]; exact (R.pub bk h).2
 ·intro bk q h
  simp only [E', heap_alloc_size'] at h ⊢
  split at h
  ·omega
  ·have := R.own bk q h; omega
 ·have hne : i ≠ id := by omega
  have h' : (E.st.boxes i).isSome = true := by simpa [E', St.setBox, hne, St.killB, St.tr] using h
  show (if i = id then _ else E.β i) + parkM = i
  rw [if_neg hne]
  exact R.abs i h' hm
end Go.AM
namespace Go.AM
structure Inv (N : Nat) (S : Start) (E : Env) : Prop where
 rel : Rel N E
 fr : Fr S E
mutual
def AV.solid : AV → Bool
 | .sl (.vw _ _) _ _ => false
 | .pt (.vw _ _) _ _ _ => false
 | .agg cs => AV.solidL cs
 | .tup cs => AV.solidL cs
 | .fn _ fi ca => AV.solidL fi && AV.solidL ca
 | _ => true
def AV.solidL : List AV → Bool
 | [] => true
 | x :: xs => x.solid && AV.solidL xs
end
theorem AV.solidL_iff : ∀ {cs : List AV}, AV.solidL cs = true ↔ ∀ c ∈ cs, c.solid = true
 | [] => by simp [AV.solidL]
 | x :: xs => by simp [AV.solidL, AV.solidL_iff (cs := xs)]
theorem AV.solidL_get {cs : List AV} (h : AV.solidL cs = true) {k : Nat} {c : AV} (hk : cs[k]? = some c) : c.solid = true := AV.solidL_iff.1 h c (List.mem_of_getElem? hk)
mutual
def AV.noPtr (i : Nat) : AV → Bool
 | .ptr id _ => id != i
 | .bs id _ _ _ => id != i
 | .agg cs => AV.noPtrL i cs
 | .tup cs => AV.noPtrL i cs
 | .fn _ fi ca => AV.noPtrL i fi && AV.noPtrL i ca
 | _ => true
def AV.noPtrL (i : Nat) : List AV → Bool
 | [] => true
 | x :: xs => x.noPtr i && AV.noPtrL i xs
end
theorem AV.noPtrL_get {i : Nat} : ∀ {cs : List AV}, AV.noPtrL i cs = true → ∀ {k : Nat} {c : AV}, cs[k]? = some c → c.noPtr i = true
 | [], _, k, c, h => by simp at h
 | x :: xs, h, 0, c, hk => by
  simp at hk; subst hk
  simp only [AV.noPtrL, Bool.and_eq_true] at h; exact h.1
 | x :: xs, h, k + 1, c, hk => by
  simp only [AV.noPtrL, Bool.and_eq_true] at h
  exact AV.noPtrL_get h.2 (by simpa using hk)
theorem Val.movedB (i0 : Nat) {E E' : Env} (hP : ∀ bk, E.Pub bk → E'.Pub bk ∧ E'.w.heap[bk]? = E.w.heap[bk]?) (hO : ∀ bk q, E.ω bk = some q → (∀ id, q ≠ .box id) → E'.ω bk = some q ∧ E'.w.heap[bk]? = E.w.heap[bk]?)
  (hB : ∀ id, id ≠ i0 → E'.β id = E.β id) {p : Place} {x : AV} {v : Value} (hv : Val E p x v) : x.solid = true → (x.noPtr i0 = true ∨ E'.β i0 = E.β i0) → (∀ id, p ≠ .box id) → Val E' p x v := by
 have hsub : ∀ (p : Place) (k : Nat), (∀ id, p ≠ .box id) → ∀ id, p.sub k ≠ .box id := by
  intro p k h id; cases p <;> simp [Place.sub]
 induction hv with
 | any p v => exact fun _ _ _ => .any p v
 | b p x => exact fun _ _ _ => .b p x
 | i p k n => exact fun _ _ _ => .i p k n
 | s p x => exact fun _ _ _ => .s p x
 | nil p => exact fun _ _ _ => .nil p
 | nofn p => exact fun _ _ _ => .nofn p
 | ab p b0 o0 n0 c0 => exact fun _ _ _ => .ab p b0 o0 n0 c0
 | mp p b0 => exact fun _ _ _ => .mp p b0
 | it p b0 => exact fun _ _ _ => .it p b0
 | ptr p id off =>
  intro _ hn _
  have : E'.β id = E.β id := by
   by_cases he : id = i0
   ·subst he
    rcases hn with h | h
    ·simp [AV.noPtr] at h
    ·exact h
   ·exact hB id he
  rw [← this]; exact .ptr p id off
 | bs p id off n cap =>
  intro _ hn _
  have : E'.β id = E.β id := by
   by_cases he : id = i0
   ·subst he
    rcases hn with h | h
    ·simp [AV.noPtr] at h
    ·exact h
   ·exact hB id he
  rw [← this]; exact .bs p id off n cap
 | pt p g ix cells off bk o hc hg ha =>
  intro hs _ _
  cases g with
  | own => exact hg.elim
  | nl => exact hg.elim
  | fro => exact .pt p .fro ix cells off bk o (hc.mono hP (hP _ hg).2) (hP _ hg).1 trivial
  | cut => exact hg.elim
  | vw q ex => simp [AV.solid] at hs
 | sl1 p sz a cap => exact fun _ _ _ => .sl1 p sz a cap
 | sl2 p sz a => exact fun _ _ _ => .sl2 p sz a
 | sl0 p g sz h0 ha =>
  intro hs _ _
  cases g with
  | vw q ex => simp [AV.solid] at hs
  | _ => exact .sl0 p _ sz (by simp) trivial
 | sl p g sz xs bk off cap hc hr hg ha =>
  intro hs _ hb
  cases g with
  | vw q ex => simp [AV.solid] at hs
  | fro => exact .sl p .fro sz xs bk off cap hc (hr.mono hP (hP _ hg).2) (hP _ hg).1 trivial
  | cut => exact .sl p .cut sz xs bk off cap hc (hr.mono hP (hP _ hg.1).2) ⟨(hP _ hg.1).1, hg.2⟩ trivial
  | nl => exact hg.elim
  | own =>
   have ho := hO bk p hg.1 hb
   exact .sl p .own sz xs bk off cap hc (hr.mono hP ho.2) ⟨ho.1, hg.2.mono ho.2⟩ trivial
 | fn p f fi ca fi' ca' h1 h2 _ _ ih1 ih2 =>
  intro hs hn _
  simp only [AV.solid, Bool.and_eq_true] at hs
  simp only [AV.noPtr, Bool.and_eq_true] at hn
  exact .fn p f fi ca fi' ca' h1 h2 (fun k c hk => ih1 k c hk (AV.solidL_get hs.1 hk) (hn.imp (fun h => AV.noPtrL_get h.1 hk) id) (by simp)) (fun k c hk => ih2 k c hk (AV.solidL_get hs.2 hk) (hn.imp (fun h => AV.noPtrL_get h.2 hk) id) (by simp))
 | agg p cs arr h1 _ ih =>
  intro hs hn hb
  rw [AV.solid] at hs
  rw [AV.noPtr] at hn
  exact .agg p cs arr h1 fun k c hk => ih k c hk (AV.solidL_get hs hk) (hn.imp (fun h => AV.noPtrL_get h hk) id) (hsub p k hb)
 | tup p cs arr h1 _ ih =>
  intro hs hn hb
  rw [AV.solid] at hs
  rw [AV.noPtr] at hn
  exact .tup p cs arr h1 fun k c hk => ih k c hk (AV.solidL_get hs hk) (hn.imp (fun h => AV.noPtrL_get h hk) id) (hsub p k hb)
theorem Val.moved {E E' : Env} (hP : ∀ bk, E.Pub bk → E'.Pub bk ∧ E'.w.heap[bk]? = E.w.heap[bk]?) (hO : ∀ bk q, E.ω bk = some q → (∀ id, q ≠ .box id) → E'.ω bk = some q ∧ E'.w.heap[bk]? = E.w.heap[bk]?)
  (hB : ∀ id, E'.β id = E.β id) {p : Place} {x : AV} {v : Value} (hv : Val E p x v) (hs : x.solid = true) (hb : ∀ id, p ≠ .box id) : Val E' p x v :=
 hv.movedB 0 hP hO (fun id _ => hB id) hs (.inr (hB 0)) hb
theorem AV.res_solid (F : Place → Bool) (x : AV) : ∀ p, (x.tr (resLeaf F) p).solid = true := by
 refine AV.rec (motive_1 := fun x => ∀ p, (x.tr (resLeaf F) p).solid = true) (motive_2 := fun l => (∀ p k, AV.solidL (AV.trL (resLeaf F) p k l) = true) ∧ AV.solidL (AV.trN (resLeaf F) l) = true) (motive_3 := fun _ => True)
  ?_ ?_ ?_ ?_ ?_ ?_ ?_ ?_ ?_ ?_ ?_ ?_ ?_ ?_ ?_ ?_ ?_ ?_ ?_ ?_ x
 ·intro p; rfl
 ·intro x p; rfl
 ·intro k n p; rfl
 ·intro x p; rfl
 ·intro p; rfl
 ·intro p; rfl
 ·intro id off n cap p; rfl
 ·intro b0 p; rfl
 ·intro b0 p; rfl
 ·intro id off p; rfl
 ·intro id off n cap p; rfl
 ·intro g ix cells off _ p; cases g <;> rfl
 ·intro f fi ca h1 h2 p; simp [AV.tr, AV.solid, h1.2, h2.2]
 ·intro g sz xs _ p
  rw [AV.tr_leaf rfl]
  cases g <;> simp [resLeaf, AV.solid]
  split <;> rfl
 ·intro cs h p; simp [AV.tr, AV.solid, h.1]
 ·intro cs h p; simp [AV.tr, AV.solid, h.1]
 ·exact ⟨fun _ _ => rfl, rfl⟩
 ·intro x xs h1 h2
  exact ⟨fun p k => by simp [AV.trL, AV.solidL, h1, h2.1], by simp [AV.trN, AV.solidL, h1, h2.2]⟩
 ·trivial
 ·intros; trivial
theorem take_noOwn (st : St) (Q : Place → Option Place) (d : Nat) (h : ∀ π, (Q (.slot d π)).isSome = true) : NoOwn ((st.take Q).slots d) := by
 intro π sz xs he
 have h1 : (st.take Q).abs (.slot d π) = .sl .own sz xs := he
 unfold St.take at h1
 rw [St.abs_tr (fun _ => rfl) (takeLeaf_leaf Q)] at h1
 simp only at h1
 generalize st.abs (.slot d π) = x at h1
 cases x with
 | sl g sz' xs' =>
  rw [AV.tr_leaf rfl] at h1
  cases g with
  | own => simp [takeLeaf, h π] at h1
  | vw q ex => simp only [takeLeaf] at h1; split at h1 <;> simp at h1
  | fro => simp [takeLeaf] at h1
  | cut => simp [takeLeaf] at h1
  | nl => simp [takeLeaf] at h1
 | pt g ix cs off =>
  rw [AV.tr_leaf rfl] at h1
  cases g <;> simp [takeLeaf] at h1
  split at h1 <;> simp at h1
 | agg cs => simp [AV.tr] at h1
 | tup cs => simp [AV.tr] at h1
 | fn f fi ca => simp [AV.tr] at h1
 | _ => simp [AV.tr, takeLeaf] at h1
theorem take_cell (st : St) (Q : Place → Option Place) (id j : Nat) (h : (Q (.cell id j)).isSome = true) : ∀ sz xs, (st.take Q).abs (.cell id j) ≠ .sl .own sz xs := by
 intro sz xs h1
 unfold St.take at h1
 rw [St.abs_tr (fun _ => rfl) (takeLeaf_leaf Q)] at h1
 simp only at h1
 generalize st.abs (.cell id j) = x at h1
 cases x with
 | sl g sz' xs' =>
  rw [AV.tr_leaf rfl] at h1
  cases g with
  | own => simp [takeLeaf, h] at h1
  | vw q ex => simp only [takeLeaf] at h1; split at h1 <;> simp at h1
  | fro => simp [takeLeaf] at h1
  | cut => simp [takeLeaf] at h1
  | nl => simp [takeLeaf] at h1
 | pt g ix cs off =>
  rw [AV.tr_leaf rfl] at h1
  cases g <;> simp [takeLeaf] at h1
  split at h1 <;> simp at h1
 | agg cs => simp [AV.tr] at h1
 | tup cs => simp [AV.tr] at h1
 | fn f fi ca => simp [AV.tr] at h1
 | _ => simp [AV.tr, takeLeaf] at h1
section
variable {N : Nat} {S : Start} {E : Env}
theorem Inv.fz (I : Inv N S E) (F : Place → Bool) (hF : ∀ id, F (.box id) = false) : Inv N S (E.fz F) := by
 refine ⟨I.rel.fz F hF, ⟨I.fr.os, I.fr.tape, I.fr.output, I.fr.size, I.fr.block, fun k q h => ?_, fun bk h => .inl (I.fr.pub0 bk h), fun bk h => ?_, I.fr.beta⟩⟩
 ·simp only [Env.fz] at h
  split at h
  ·rename_i q' hq'; exact I.fr.own k q' hq'
  ·cases h
 ·rcases h with h | ⟨q, h, _⟩
  ·exact I.fr.pub1 bk h
  ·exact .inr (I.fr.own bk q h)
theorem Inv.take (I : Inv N S E) (Q : Place → Option Place) (hQ : ∀ id, Q (.box id) = none) : Inv N S (E.take Q) := by
 refine ⟨I.rel.take Q hQ, ⟨I.fr.os, I.fr.tape, I.fr.output, I.fr.size, I.fr.block, fun k q h => ?_, I.fr.pub0, I.fr.pub1, I.fr.beta⟩⟩
 simp only [Env.take] at h
 split at h
 ·rename_i q' hq'; exact I.fr.own k q' hq'
 ·cases h
theorem Inv.settle (I : Inv N S E) (Q : Place → Option Place) (F : Place → Bool) (hQ : ∀ id, Q (.box id) = none) (hF : ∀ id, F (.box id) = false) : Inv N S (E.settle Q F) :=
 (I.fz F hF).take Q hQ
theorem Inv.putq (I : Inv N S E) (d : Nat) (x : AV) (v : Value) (hd : d < N) (hno : NoOwn (E.st.slots d)) (hf : x.free = true) (hv : Val E .no x v) :
  Inv N S { E with st := E.st.put d x, tm := E.tm.setIfInBounds d v } :=
 ⟨I.rel.putq d x v hd hno hf hv, ⟨I.fr.os, I.fr.tape, I.fr.output, I.fr.size, I.fr.block, I.fr.own, I.fr.pub0, I.fr.pub1, I.fr.beta⟩⟩
theorem Inv.keep (I : Inv N S E) (Q : Place → Option Place) (F : Place → Bool) (d : Nat) (x : AV) (v : Value) (hd : d < N) (hv : Val E .no x v) (hQ : ∀ id, Q (.box id) = none) (hF : ∀ id, F (.box id) = false)
  (hl : ∀ π, (Q (.slot d π)).isSome = true) (hr : x.resOk Q F (.slot d []) = true) :
  Inv N S { (E.settle Q F) with st := (E.settle Q F).st.put d (x.tr (resLeaf F) (.slot d [])), tm := E.tm.setIfInBounds d v } := by
 have I1 := I.settle Q F hQ hF
 have hno : NoOwn ((E.settle Q F).st.slots d) := take_noOwn (E.fz F).st Q d hl
 have hv1 := hv.settle I.rel _ hr
 obtain ⟨_, h⟩ := I1.rel.put (fun _ => False) (fun _ _ _ _ h => h) (fun _ h => h) (fun h => h) E.w (E.settle Q F).ω (E.settle Q F).Pub d (x.tr (resLeaf F) (.slot d [])) v hd hno (fun _ _ _ => rfl) (fun _ _ h => h) (fun _ h => h) I1.rel.pub I1.rel.own
 refine ⟨h ?_, ⟨I1.fr.os, I1.fr.tape, I1.fr.output, I1.fr.size, I1.fr.block, I1.fr.own, I1.fr.pub0, I1.fr.pub1, I1.fr.beta⟩⟩
 refine Val.moved (E := E.settle Q F) (fun bk h => ?_) (fun bk q h _ => ?_) (fun _ => ?_) hv1 (AV.res_solid F x _) (by simp)
 ·exact ⟨h, rfl⟩
 ·exact ⟨h, rfl⟩
 ·rfl
end
end Go.AM
namespace Go.AM
def AV.cellOk : AV → Bool
 | .any | .agg _ | .tup _ => false
 | _ => true
def AV.resOkC (Q : Place → Option Place) (F : Place → Bool) (id : Nat) : Nat → List AV → Bool
 | _, [] => true
 | k, x :: xs => x.resOk Q F (.cell id k) && AV.resOkC Q F id (k + 1) xs
theorem AV.resOkC_get {Q F id} : ∀ {cs : List AV} {k : Nat}, AV.resOkC Q F id k cs = true → ∀ (j : Nat) c, cs[j]? = some c → c.resOk Q F (.cell id (k + j)) = true
 | [], k, _, j, c, h => by simp at h
 | x :: xs, k, hr, 0, c, h => by
  simp at h; subst h
  simp only [AV.resOkC, Bool.and_eq_true] at hr
  exact hr.1
 | x :: xs, k, hr, j + 1, c, h => by
  simp only [AV.resOkC, Bool.and_eq_true] at hr
  have := AV.resOkC_get hr.2 j c (by simpa using h)
  rwa [show k + 1 + j = k + (j + 1) by omega] at this
theorem oneCell_of {E : Env} {p : Place} {x : AV} {v : Value} (h : Val E p x v) (hc : x.cellOk = true) : v.oneCell' = true := by
 cases h <;> first | rfl | (simp [AV.cellOk] at hc)
theorem boxes_tr {h : Place → AV → AV} (st : St) (id : Nat) (cs : List AV) (hb : st.boxes id = some cs) : (st.tr h).boxes id = some (AV.trC h id 0 cs) := by
 simp [St.tr, hb]
section
variable {P : Program} {N : Nat} {S : Start} {E : Env}
theorem Inv.storeBox (I : Inv N S E) {t : TypeId} {y : TI} (oy : TyOk P t y) (Q : Place → Option Place) (F : Place → Bool) (id off : Nat) (cs : List AV) (x : AV) (v : Value) (hv : Val E .no x v)
  (hb : E.st.boxes id = some cs) (hh : x.hole = false) (hn : (flatA x).length = y.size) (hle : off + y.size ≤ cs.length) (hcell : (flatA x).all AV.cellOk = true)
  (hQ : ∀ id, Q (.box id) = none) (hF : ∀ id, F (.box id) = false) (hl : ∀ j, off ≤ j → j < off + y.size → ∀ sz xs, (E.settle Q F).st.abs (.cell id j) ≠ .sl .own sz xs) (hr : AV.resOkC Q F id off (flatA x) = true) :
  ∃ w', (Instr.storeAt t (.pointer (some ⟨E.β id, off, none⟩)) v).run P E.w = .ok () w' ∧
   Inv N S { (E.settle Q F) with w := w', st := (E.settle Q F).st.setBox id (some (spliceL (((E.settle Q F).st.boxes id).getD []) off (AV.trC (resLeaf F) id off (flatA x)))) } := by
 have I1 := I.settle Q F hQ hF
 obtain ⟨hl1, hv1⟩ := flatA_val hv hh
 have hb1 : (E.settle Q F).st.boxes id = some (AV.trC (takeLeaf Q) id 0 (AV.trC (fzLeaf F) id 0 cs)) := boxes_tr _ _ _ (boxes_tr _ _ _ hb)
 generalize hcs1 : AV.trC (takeLeaf Q) id 0 (AV.trC (fzLeaf F) id 0 cs) = cs1 at hb1
 have hlen1 : cs1.length = cs.length := by rw [← hcs1, AV.trC_length, AV.trC_length]
 obtain ⟨h1, arr, T, h2, h3, h4⟩ := I1.rel.boxes id cs1 hb1
 have h2' : E.w.heap[E.β id]? = some (.cells arr T (0, 0)) := h2
 have hone : ∀ u ∈ v.cells.toList, u.oneCell' = true := by
  intro u hu
  obtain ⟨k, hk⟩ := List.getElem?_of_mem hu
  have hkl : k < (flatA x).length := by rw [hl1]; have := (List.getElem?_eq_some_iff.1 hk).1; simpa using this
  have hc := List.getElem?_eq_getElem hkl
  have := hv1 k _ hc
  have he : v.cells.getD k undef = u := by
   rw [Array.getD_eq_getD_getElem?, ← Array.getElem?_toList, hk]; rfl
  rw [he] at this
  exact oneCell_of this (List.all_eq_true.1 hcell _ (List.getElem_mem hkl))
 have hfit : off + 0 + v.cells.toList.length ≤ arr.size := by
  simp only [Array.length_toList, Nat.add_zero]; omega
 have hrun := run_storeCells_at P (E.β id) off T v.cells.toList 0 arr E.w h2' hfit hone
 simp only [Nat.add_zero, Array.length_toList] at hrun
 generalize harr : (arr.toList.take off ++ v.cells.toList ++ arr.toList.drop (off + v.cells.size)).toArray = arr' at hrun
 have hsplice : arr'.toList = arr.toList.take off ++ v.cells.toList ++ arr.toList.drop (off + v.cells.size) := by rw [← harr]
 have hasz : arr'.size = arr.size := by
  rw [← Array.length_toList, hsplice]; simp; omega
 have hget : ∀ j : Nat, arr'[j]? = if off ≤ j ∧ j < off + v.cells.size then v.cells[j - off]? else arr[j]? := by
  intro j
  rw [← Array.getElem?_toList, hsplice]
  by_cases ha : j < off
  ·rw [if_neg (by omega), List.append_assoc, List.getElem?_append_left (by simp; omega)]
   simp [ha]
  ·have hto : (arr.toList.take off).length = off := by simp; omega
   by_cases hbb : j < off + v.cells.size
   ·rw [if_pos (by omega), List.append_assoc, List.getElem?_append_right (by omega), hto, List.getElem?_append_left (by simp; omega)]
    simp
   ·rw [if_neg (by omega), List.getElem?_append_right (by simp; omega)]
    simp only [List.length_append, hto, Array.length_toList, List.getElem?_drop, Array.getElem?_toList]
    congr 1; omega
 have hvsz : v.cells.size = y.size := by omega
 refine ⟨E.w.setRow (E.β id) arr', ?_, ?_⟩
 ·simp only [Instr.storeAt, Sem.run_bind, Instr.sureAddr, Sem.run_pure, Result.andThen_ok, storeVar, oy.sizeOf]
  rw [if_neg (by simp; omega)]
  exact hrun
 ·have hnew : (E.w.setRow (E.β id) arr').heap[E.β id]? = some (.cells arr' T (0, 0)) := setRow_heap E.w (E.β id) arr arr' T (0, 0) h2'
  have hother : ∀ k, k ≠ E.β id → (E.w.setRow (E.β id) arr').heap[k]? = E.w.heap[k]? := fun k hk => setRow_other E.w (E.β id) k arr' hk
  have hsize : (E.w.setRow (E.β id) arr').heap.size = E.w.heap.size := by simp
  have hnl : (AV.trC (resLeaf F) id off (flatA x)).length = y.size := by rw [AV.trC_length, hn]
  have hsl : off + (AV.trC (resLeaf F) id off (flatA x)).length ≤ cs1.length := by omega
  rw [hb1]; simp only [Option.getD_some]
  obtain ⟨_, hR⟩ := I1.rel.setBox (fun _ => False) (fun _ _ _ _ h => h) (fun _ h => h) (fun h => h) (E.w.setRow (E.β id) arr') (E.settle Q F).ω (E.settle Q F).Pub id (fun j => off ≤ j ∧ j < off + y.size) cs1
   (spliceL cs1 off (AV.trC (resLeaf F) id off (flatA x))) arr arr' T T hb1 h2' (fun bk _ hne _ => hother bk hne) hnew (by rw [hasz, h3, splice_length _ _ _ hsl]) (splice_length _ _ _ hsl)
   (fun j c hj hd sz xs he => by
    apply hl j hd.1 hd.2 sz xs
    show (((E.settle Q F).st.boxes id).getD []).getD j .any = _
    rw [hb1]; exact (getD_get hj).trans he)
   (fun j hnd => by
    rw [splice_get _ _ _ _ hsl, hnl, if_neg hnd, hget, hvsz, if_neg hnd]
    exact ⟨rfl, rfl⟩)
   (fun _ _ h => h) (fun _ h => h) (fun bk h => ⟨by rw [hsize]; exact (I1.rel.pub bk h).1, (I1.rel.pub bk h).2⟩) (fun bk q h => by rw [hsize]; exact I1.rel.own bk q h)
  refine ⟨hR ?_, ⟨I1.fr.os, I1.fr.tape, I1.fr.output, by rw [hsize]; exact I1.fr.size, fun k hk hno => ?_, I1.fr.own, I1.fr.pub0, I1.fr.pub1, I1.fr.beta⟩⟩
  ·intro j c hj hd
   rw [splice_get _ _ _ _ hsl, hnl, if_pos hd, AV.trC_get] at hj
   obtain ⟨c0, hc0, rfl⟩ := Option.map_eq_some_iff.1 hj
   have hj2 : off + (j - off) = j := by omega
   rw [hj2]
   have hres := AV.resOkC_get hr (j - off) c0 hc0
   rw [hj2] at hres
   have h5 := (hv1 (j - off) c0 hc0).settle I.rel (.cell id j) hres
   have he : arr'.getD j undef = v.cells.getD (j - off) undef := by
    rw [Array.getD_eq_getD_getElem?, hget, hvsz, if_pos hd, Array.getD_eq_getD_getElem?]
   rw [he]
   have hbk : ∀ bk q, (E.settle Q F).ω bk = some q → (∀ i, q ≠ .box i) → bk ≠ E.β id := by
    intro bk q hq hne e
    have h1' : (E.settle Q F).ω (E.β id) = some (.box id) := h1
    rw [e, h1'] at hq
    exact hne id (Option.some.inj hq).symm
   refine Val.moved (E := E.settle Q F) (fun bk h => ?_) (fun bk q h hne => ?_) (fun _ => ?_) h5 (AV.res_solid F c0 _) (by simp)
   ·refine ⟨h, hother bk fun e => ?_⟩
    have h1' : (E.settle Q F).ω (E.β id) = some (.box id) := h1
    have := (I1.rel.pub bk h).2
    rw [e, h1'] at this; cases this
   ·exact ⟨h, hother bk (hbk bk q h hne)⟩
   ·rfl
  ·rw [hother k fun e => ?_]
   ·exact I.fr.block k hk hno
   ·have := I1.fr.own (E.β id) _ h1
    rcases this with h | h
    ·omega
    ·exact hno (e ▸ h)
theorem Inv.newBox (I : Inv N S E) (Q : Place → Option Place) (F : Place → Bool) (d id : Nat) (x : AV) (v : Value) (T : TypeId) (hd : d < N) (hv : Val E .no x v) (hh : x.hole = false)
  (hQ : ∀ id, Q (.box id) = none) (hF : ∀ id, F (.box id) = false) (hl : ∀ j, (Q (.cell id j)).isSome = true) (hld : ∀ π, (Q (.slot d π)).isSome = true) (hr : AV.resOkC Q F id 0 (flatA x) = true)
  (hp : AV.noPtrL id (AV.trC (resLeaf F) id 0 (flatA x)) = true) (hid : S.k ≤ id) (hid2 : id < parkM) :
  ∃ ω' β', Inv N S ⟨E.w.alloc (.cells v.cells T), β', ω', (E.settle Q F).Pub, (((E.settle Q F).st.killB id).setBox id (some (AV.trC (resLeaf F) id 0 (flatA x)))).put d (.ptr id 0), E.tm.setIfInBounds d (.pointer (some ⟨E.w.heap.size, 0, none⟩))⟩ := by
 have I1 := I.settle Q F hQ hF
 obtain ⟨hl1, hv1⟩ := flatA_val hv hh
 obtain ⟨_, hR⟩ := I1.rel.newBox id (AV.trC (resLeaf F) id 0 (flatA x)) v.cells T (by rw [AV.trC_length]; exact hl1.symm) (fun j sz xs => take_cell (E.fz F).st Q id j (hl j) sz xs) hid2
 have hsz : (E.w.alloc (.cells v.cells T)).heap.size = E.w.heap.size + 1 := heap_alloc_size' _ _
 have R2 := hR (fun j c hj => by
  have hnp := AV.noPtrL_get hp hj
  rw [AV.trC_get] at hj
  obtain ⟨c0, hc0, rfl⟩ := Option.map_eq_some_iff.1 hj
  simp only [Nat.zero_add] at hnp ⊢
  have hres := AV.resOkC_get hr j c0 hc0
  simp only [Nat.zero_add] at hres
  have h5 := (hv1 j c0 hc0).settle I.rel (.cell id j) hres
  refine Val.movedB id (E := E.settle Q F) (fun bk h => ?_) (fun bk q h hne => ?_) (fun i hi => ?_) h5 (AV.res_solid F c0 _) (.inl hnp) (by simp)
  ·exact ⟨h, heap_alloc_old' _ _ _ (I1.rel.pub bk h).1⟩
  ·have hlt : bk < E.w.heap.size := I1.rel.own bk q h
   refine ⟨?_, heap_alloc_old' _ _ _ hlt⟩
   have : bk ≠ E.w.heap.size := by omega
   show (if bk = E.w.heap.size then _ else _) = _
   rw [if_neg this]; exact h
  ·show (if i = id then _ else _) = _
   rw [if_neg hi])
 have hno : NoOwn ((((E.settle Q F).st.killB id).setBox id (some (AV.trC (resLeaf F) id 0 (flatA x)))).slots d) := by
  intro π sz xs he
  have h1 : ((E.settle Q F).st.killB id).abs (.slot d π) = .sl .own sz xs := he
  unfold St.killB at h1
  rw [St.abs_tr (fun _ => rfl) (killBLeaf_leaf id)] at h1
  simp only at h1
  have h2 := take_noOwn (E.fz F).st Q d hld π sz xs
  generalize hgx : (E.settle Q F).st.abs (.slot d π) = y at h1
  cases y with
  | sl g sz' xs' => rw [AV.tr_leaf rfl] at h1; exact h2 (by rw [← h1]; exact hgx)
  | ptr i off => rw [AV.tr_leaf rfl] at h1; simp only [killBLeaf] at h1; split at h1 <;> simp at h1
  | bs i off n cap => rw [AV.tr_leaf rfl] at h1; simp only [killBLeaf] at h1; split at h1 <;> simp at h1
  | agg cs => simp [AV.tr] at h1
  | tup cs => simp [AV.tr] at h1
  | fn f fi ca => simp [AV.tr] at h1
  | _ => simp [AV.tr, killBLeaf] at h1
 refine ⟨_, _, R2.putq d (.ptr id 0) (.pointer (some ⟨E.w.heap.size, 0, none⟩)) hd hno rfl ?_, ⟨I1.fr.os, I1.fr.tape, I1.fr.output, ?_, fun k hk hn => ?_, fun k q hq => ?_, I1.fr.pub0, I1.fr.pub1, fun i hi => ?_⟩⟩
 ·have := Val.ptr (E := ⟨E.w.alloc (.cells v.cells T), (fun i => if i = id then E.w.heap.size else (E.settle Q F).β i), (fun bk => if bk = E.w.heap.size then some (.box id) else (E.settle Q F).ω bk), (E.settle Q F).Pub,
   ((E.settle Q F).st.killB id).setBox id (some (AV.trC (resLeaf F) id 0 (flatA x))), E.tm⟩) .no id 0
  simp only [if_true] at this
  exact this
 ·show S.w0.heap.size ≤ (E.w.alloc (.cells v.cells T)).heap.size
  have := I.fr.size; omega
 ·show (E.w.alloc (.cells v.cells T)).heap[k]? = _
  rw [heap_alloc_old' _ _ _ (by have := I.fr.size; omega)]
  exact I.fr.block k hk hn
 ·have hq' : (if k = E.w.heap.size then some (.box id) else (E.settle Q F).ω k) = some q := hq
  split at hq'
  ·rename_i e; left; have := I.fr.size; omega
  ·exact I1.fr.own k q hq'
 ·show (if i = id then _ else _) = _
  rw [if_neg (by omega)]
  exact I1.fr.beta i hi
end
end Go.AM
