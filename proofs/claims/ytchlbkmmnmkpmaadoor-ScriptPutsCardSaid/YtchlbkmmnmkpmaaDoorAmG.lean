/- From a row's reading of an argument to abstract data. No project text. -/
import Derived.Test.YtchlbkmmnmkpmaaDoorAmD
import Derived.ChangeArms
import Derived.ChangeOld
import Derived.ChangeShapes
import Derived.Below
import Derived.SizedLaws
import Derived.Carry
import Derived.OpenShut
import Derived.WideShapes
import Derived.Test.YtchlbkmmnmkpmaaDoorAmF
import Derived.Test.YtchlbkmmnmkpmaaDoorRows
import Derived.WalkKit
import Derived.ProofKit
import Derived.ShutString
import Derived.LaidMore
import Derived.Lay
import Derived.Stop.LaidErr
import Derived.Stop.Joined
import Derived.HandedShaped
import Derived.Lib.LaidTab
import Derived.Shelf.Vars
set_option linter.unusedSimpArgs false
set_option linter.unusedVariables false
namespace Go.AM

inductive TT where
  | int (k : IntKind)
  | bool
  | str
  | sl (sz : Nat) (e : TT)
  | st (fs : List TT)

mutual
def TT.size : TT → Nat
  | .st fs => TT.sizeL fs
  | _ => 1
def TT.sizeL : List TT → Nat
  | [] => 0
  | f :: fs => f.size + TT.sizeL fs
end

mutual
/-- Is it the shape of a type? -/
def TT.isAt (P : Program) : TT → TypeId → Bool
  | .int k, t => match P.underlying t with
    | some (.int k') => k' == k
    | _ => false
  | .bool, t => match P.underlying t with
    | some .bool => true
    | _ => false
  | .str, t => match P.underlying t with
    | some .string => true
    | _ => false
  | .sl sz e, t => match P.underlying t with
    | some (.slice et) => P.cellsOf et == sz && decide (0 < sz) && e.size == sz && e.isAt P et
    | _ => false
  | .st fs, t => match P.underlying t with
    | some (.struct fl) => P.cellsOf t == TT.sizeL fs && TT.isL P fs fl.toList 0
    | _ => false
def TT.isL (P : Program) : List TT → List Field → Nat → Bool
  | [], [], _ => true
  | f :: fs, d :: ds, off => d.offset == off && P.cellsOf d.type == f.size && f.isAt P d.type && TT.isL P fs ds (off + f.size)
  | _, _, _ => false
end

mutual
/-- Cells of such a shape. -/
def TT.fit : TT → List AV → Prop
  | .int k, avs => ∃ n, avs = [.i k n] ∧ k.min ≤ n ∧ n ≤ k.max
  | .bool, avs => ∃ b, avs = [.b b]
  | .str, avs => ∃ s, avs = [.s s] ∧ s.size ≤ maxLen
  | .sl sz e, avs => ∃ xs, avs = [.sl .fro sz xs] ∧ xs.length ≤ maxLen ∧ ∀ x ∈ xs, e.fit x
  | .st fs, avs => TT.fitL fs avs
def TT.fitL : List TT → List AV → Prop
  | [], avs => avs = []
  | f :: fs, avs => ∃ a b, avs = a ++ b ∧ f.fit a ∧ TT.fitL fs b
end

section
variable {H : Type} {enc : TypeId × Value → H} {P : Program} {w : World} {held : Bool}

/-- Cells that are read as data. -/
def AsDat (w : World) (avs : List AV) (cs : List Value) : Prop := avs.length = cs.length ∧ ∀ (k : Nat) c, avs[k]? = some c → ∃ u, cs[k]? = some u ∧ DatC (fun b => b < w.heap.size) w c u

theorem AsDat.one {w : World} {c : AV} {u : Value} (h : Dat (fun b => b < w.heap.size) w c u) (h1 : u.oneCell' = true) : AsDat w [c] [u] := ⟨rfl, fun k c' hk => by
  cases k with
  | zero => simp at hk; subst hk; exact ⟨u, rfl, h, h1⟩
  | succ k => simp at hk⟩

theorem cell_spot {w : World} {a : Addr} {v : Value} (h : w.cell? a = some v) : a.spot = none := by
  unfold World.cell? at h
  split at h
  · cases hs : a.spot with
    | none => rfl
    | some s => simp [hs] at h
  · cases h

theorem cell_lt' {w : World} {a : Addr} {v : Value} (h : w.cell? a = some v) : a.block < w.heap.size := by
  unfold World.cell? at h
  split at h
  · rename_i h1; exact (Array.getElem?_eq_some_iff.1 h1).1
  · cases h

mutual
theorem trod_dat : ∀ (T : TT) (n : Nat) (t : TypeId) (cs : List Value) (x : DataW H × List MemPlace), T.isAt P t = true → DataW.trod enc P w 0 (fun _ => true) held n t cs = some x → ∃ avs, T.fit avs ∧ avs.length = T.size ∧ AsDat w avs cs
  | .int k, n, t, cs, x, hT, h => by
    simp only [TT.isAt] at hT
    split at hT
    · rename_i k' hu
      have : k' = k := by simpa using hT
      subst this
      obtain ⟨m, rfl, _, hw⟩ := DataW.trod_int hu h
      simp only [Lit.wf, Bool.and_eq_true, decide_eq_true_eq] at hw
      exact ⟨[.i k' m], ⟨m, rfl, hw⟩, rfl, .one (.i _ _) rfl⟩
    · cases hT
  | .bool, n, t, cs, x, hT, h => by
    simp only [TT.isAt] at hT
    split at hT
    · rename_i hu
      obtain ⟨b, rfl, _⟩ := DataW.trod_bool hu h
      exact ⟨[.b b], ⟨b, rfl⟩, rfl, .one (.b _) rfl⟩
    · cases hT
  | .str, n, t, cs, x, hT, h => by
    simp only [TT.isAt] at hT
    split at hT
    · rename_i hu
      obtain ⟨s, rfl, _, hs⟩ := DataW.trod_string hu h
      exact ⟨[.s s], ⟨s, rfl, hs⟩, rfl, .one (.s _) rfl⟩
    · cases hT
  | .sl sz e, n, t, cs, x, hT, h => by
    simp only [TT.isAt] at hT
    split at hT
    · rename_i et hu
      simp only [Bool.and_eq_true, beq_iff_eq, decide_eq_true_eq] at hT
      obtain ⟨⟨⟨hc, hz⟩, hes⟩, he⟩ := hT
      rcases DataW.trod_slice hu h with ⟨rfl, _⟩ | ⟨a, len, cap, elems, rest, m, _, rfl, _, _, hlc, hm, hlen, hel, _, _⟩
      · exact ⟨[.sl .fro sz []], ⟨[], rfl, by simp, by simp⟩, rfl, .one (.sl0 sz) rfl⟩
      · have each : ∀ i, i < len → ∃ avs : List AV, e.fit avs ∧ avs.length = sz ∧ ∀ (j : Nat) c, avs[j]? = some c → ∃ u, w.cell? ((a.add (i * sz)).add j) = some u ∧ DatC (fun b => b < w.heap.size) w c u := by
          intro i hi
          have h1 := hel i hi
          rw [hc, List.getElem?_eq_getElem (by omega)] at h1
          obtain ⟨cs', h2, h3⟩ := Option.bind_eq_some_iff.1 h1
          obtain ⟨avs, g1, g2, g3, g4⟩ := trod_dat e m et cs' _ he h3
          refine ⟨avs, g1, by rw [g2, hes], fun j c hj => ?_⟩
          obtain ⟨u, hu1, hd⟩ := g4 j c hj
          have hjl := (List.getElem?_eq_some_iff.1 hj).1
          exact ⟨u, by rw [(World.cells?_some h2).2.2 j (by omega)]; exact hu1, hd⟩
        obtain ⟨xs, hxl, hxs⟩ : ∃ xs : List (List AV), xs.length = len ∧ ∀ (i : Nat) x, xs[i]? = some x → e.fit x ∧ x.length = sz ∧ ∀ (j : Nat) c, x[j]? = some c → ∃ u, w.cell? ((a.add (i * sz)).add j) = some u ∧ DatC (fun b => b < w.heap.size) w c u := by
          refine ⟨(List.range len).map fun i => if hi : i < len then Classical.choose (each i hi) else [], by simp, fun i x hx => ?_⟩
          rw [List.getElem?_map] at hx
          obtain ⟨i', hi', rfl⟩ := Option.map_eq_some_iff.1 hx
          obtain ⟨hl, hi2⟩ := List.getElem?_eq_some_iff.1 hi'
          simp at hl hi2
          subst hi2
          rw [dif_pos hl]
          exact Classical.choose_spec (each i hl)
        have hfit : ∀ x ∈ xs, e.fit x := fun x hx => by
          obtain ⟨i, hi⟩ := List.mem_iff_getElem?.1 hx
          exact (hxs i x hi).1
        refine ⟨[.sl .fro sz xs], ⟨xs, rfl, by omega, hfit⟩, rfl, .one ?_ rfl⟩
        rcases Nat.eq_zero_or_pos len with h0 | h0
        · have : xs = [] := List.eq_nil_of_length_eq_zero (by omega)
          subst this
          rw [h0]
          exact .sl1 sz a cap
        · obtain ⟨g1, g2, g3⟩ := hxs 0 _ (List.getElem?_eq_getElem (by omega))
          obtain ⟨u, hu1, _⟩ := g3 0 _ (List.getElem?_eq_getElem (by omega))
          have haa : (a.add (0 * sz)).add 0 = a := by simp [Addr.add]
          rw [haa] at hu1
          have hsp := cell_spot hu1
          have hlt := cell_lt' hu1
          obtain ⟨bk, off, sp⟩ := a
          simp only at hsp hlt
          subst hsp
          rw [← hxl]
          have hl : ∀ x ∈ xs, x.length = sz := fun x hx => by
            obtain ⟨i, hi⟩ := List.mem_iff_getElem?.1 hx
            exact (hxs i x hi).2.1
          have hcell : ∀ (k : Nat) c, xs.flatten[k]? = some c → ∃ u, w.cell? ⟨bk, off + k, none⟩ = some u ∧ DatC (fun b => b < w.heap.size) w c u := by
            intro k c hk
            have hfl := flatten_length hl
            have hk1 := (List.getElem?_eq_some_iff.1 hk).1
            have hdiv : k / sz < xs.length := by rw [Nat.div_lt_iff_lt_mul hz]; omega
            have hmod : k % sz < sz := Nat.mod_lt _ hz
            have hx := List.getElem?_eq_getElem hdiv
            obtain ⟨_, q2, q3⟩ := hxs _ _ hx
            have hj : (xs[k / sz])[k % sz]? = some ((xs[k / sz])[k % sz]'(by omega)) := List.getElem?_eq_getElem (by omega)
            have e1 := flat_get hl (k / sz) (k % sz) _ _ hx hj
            rw [show k / sz * sz + k % sz = k by rw [Nat.mul_comm]; exact Nat.div_add_mod k sz, hk] at e1
            obtain rfl := Option.some.inj e1
            obtain ⟨u, hu2, hd⟩ := q3 _ _ hj
            refine ⟨u, ?_, hd⟩
            rw [add_none, add_none, Nat.add_assoc, show k / sz * sz + k % sz = k by rw [Nat.mul_comm]; exact Nat.div_add_mod k sz] at hu2
            exact hu2
          refine .sl sz xs bk off cap (fun k => (w.cell? ⟨bk, off + k, none⟩).getD undef) hlt (by omega) hl (fun k c hk => ?_) (fun k c hk => ?_) (fun k c hk => ?_)
          · obtain ⟨u, hu2, hd⟩ := hcell k c hk
            simp [hu2]
          · obtain ⟨u, hu2, hd⟩ := hcell k c hk
            simpa [hu2] using hd.2
          · obtain ⟨u, hu2, hd⟩ := hcell k c hk
            simpa [hu2] using hd.1
    · cases hT
  | .st fs, n, t, cs, x, hT, h => by
    simp only [TT.isAt] at hT
    split at hT
    · rename_i fl hu
      simp only [Bool.and_eq_true, beq_iff_eq] at hT
      obtain ⟨xs, m, _, _, hlen, hxl, hf⟩ := DataW.trod_struct hu h
      obtain ⟨avs, g1, g2, g3⟩ := trod_datL fs m fl.toList 0 cs hT.2 (fun i f hi => by
        rw [Array.getElem?_toList] at hi
        rw [hf i f hi]
        exact ⟨_, List.getElem?_eq_getElem (by rw [hxl]; exact (Array.getElem?_eq_some_iff.1 hi).1)⟩) (by omega)
      refine ⟨avs, g1, g2, ?_, fun k c hk => ?_⟩
      · rw [g2, hlen, hT.1]
      · obtain ⟨u, hu1, hd⟩ := g3 k c hk
        exact ⟨u, by simpa using hu1, hd⟩
    · cases hT
theorem trod_datL : ∀ (fs : List TT) (n : Nat) (fl : List Field) (off : Nat) (cs : List Value), TT.isL P fs fl off = true →
    (∀ (i : Nat) f, fl[i]? = some f → ∃ x, DataW.trod enc P w 0 (fun _ => true) held n f.type ((cs.drop f.offset).take (P.cellsOf f.type)) = some x) → off + TT.sizeL fs ≤ cs.length →
    ∃ avs, TT.fitL fs avs ∧ avs.length = TT.sizeL fs ∧ ∀ (k : Nat) c, avs[k]? = some c → ∃ u, cs[off + k]? = some u ∧ DatC (fun b => b < w.heap.size) w c u
  | [], n, fl, off, cs, _, _, _ => ⟨[], rfl, rfl, by simp⟩
  | f :: fs, n, [], off, cs, hT, _, _ => by simp [TT.isL] at hT
  | f :: fs, n, d :: ds, off, cs, hT, h, hl => by
    simp only [TT.isL, Bool.and_eq_true, beq_iff_eq] at hT
    obtain ⟨⟨⟨h1, h2⟩, h3⟩, h4⟩ := hT
    simp only [TT.sizeL] at hl
    obtain ⟨x, hx⟩ := h 0 d rfl
    obtain ⟨a, a1, a2, a3, a4⟩ := trod_dat f n d.type _ x h3 hx
    obtain ⟨b, b1, b2, b3⟩ := trod_datL fs n ds (off + f.size) cs h4 (fun i g hi => h (i + 1) g (by simpa using hi)) (by omega)
    refine ⟨a ++ b, ⟨a, b, rfl, a1, b1⟩, by simp [TT.sizeL, a2, b2], fun k c hk => ?_⟩
    by_cases hlt : k < a.length
    · rw [List.getElem?_append_left hlt] at hk
      obtain ⟨u, hu, hd⟩ := a4 k c hk
      rw [List.getElem?_take, if_pos (by omega), List.getElem?_drop, h1] at hu
      exact ⟨u, hu, hd⟩
    · rw [List.getElem?_append_right (by omega)] at hk
      obtain ⟨u, hu, hd⟩ := b3 _ c hk
      exact ⟨u, by rw [← hu]; congr 1; omega, hd⟩
end
end
end Go.AM
namespace Go.AM
open Go.RowKit Go.WideShapes

/-- A law that holds over data, called. -/
theorem Pure.calls {P : Program} {f : Nat} {args : List AV} {b : Bool} (h : Pure P f args (.b b)) {w : World} {vs : Array Value} (hl : args.length = vs.size) (hv : ∀ (k : Nat) c, args[k]? = some c → Dat (fun b => b < w.heap.size) w c (vs.getD k undef)) (hG : Gl (fun b => b < w.heap.size) w := by exact .none globs_nil) :
    Calls P f vs w fun e w' => e = .returned (.bool b) ∧ Below w.heap.size w w' := by
  refine (h.2 w (fun _ => 0) (fun _ => none) (fun bk => bk < w.heap.size) vs (rel_empty _ _ _ (fun _ h => h) hG) (by simp) hl (fun k c hk => (hv k c hk).val (E := ⟨w, fun _ => 0, fun _ => none, fun bk => bk < w.heap.size, St.ofBoxes [], #[]⟩) _)).mono ?_
  rintro e w' ⟨v, E', rfl, rfl, I, _, _, hr⟩
  refine ⟨by cases hr; rfl, I.fr.os.1, I.fr.tape, I.fr.output, I.fr.size, fun k hk => I.fr.block k hk (by simp)⟩

def TT.wrap : TT → List AV → AV
  | .st _, avs => .agg avs
  | _, avs => avs.getD 0 .any

theorem arg_dat {H : Type} {enc : TypeId × Value → H} {P : Program} {w : World} {held : Bool} {r : Reach} {b0 : Nat} {t : TypeId} {v : Value} {d : DataW H} {p : List MemPlace} (T : TT) (hT : T.isAt P t = true) (hval : Value.okWide P w r b0 t v)
    (h : DataW.Trod enc P w 0 (fun _ => true) held t v d p) : ∃ avs, T.fit avs ∧ Dat (fun b => b < w.heap.size) w (T.wrap avs) v := by
  obtain ⟨n, hn⟩ := h
  obtain ⟨avs, h1, h2, h3⟩ := trod_dat T n t _ _ hT hn
  refine ⟨avs, h1, ?_⟩
  have one : v.cells.toList = [v] → avs.length = 1 → Dat (fun b => b < w.heap.size) w (avs.getD 0 .any) v := by
    intro hc hl
    match avs, hl with
    | [c], _ =>
      obtain ⟨u, hu, hd⟩ := h3.2 0 c rfl
      rw [hc] at hu
      obtain rfl := Option.some.inj hu
      exact hd.1
  cases T with
  | int k =>
    simp only [TT.isAt] at hT
    split at hT
    · rename_i k' hu
      obtain ⟨n, rfl⟩ := okWide_int hu hval
      exact one rfl h2
    · cases hT
  | bool =>
    simp only [TT.isAt] at hT
    split at hT
    · rename_i hu
      obtain ⟨n, rfl⟩ := okWide_bool hu hval
      exact one rfl h2
    · cases hT
  | str =>
    simp only [TT.isAt] at hT
    split at hT
    · rename_i hu
      obtain ⟨n, rfl⟩ := okWide_string hu hval
      exact one rfl h2
    · cases hT
  | sl sz e =>
    simp only [TT.isAt] at hT
    split at hT
    · rename_i et hu
      obtain ⟨a, len, cap, rfl⟩ := okWide_slice hu hval
      exact one rfl h2
    · cases hT
  | st fs =>
    simp only [TT.isAt] at hT
    split at hT
    · rename_i fl hu
      simp only [Value.okWide, hu] at hval
      obtain ⟨cs, rfl, _, _⟩ := hval
      refine .agg _ cs (by rw [h3.1]; simp [Value.cells]) fun k c hk => ?_
      obtain ⟨u, hu, hd⟩ := h3.2 k c hk
      simp only [Value.cells, Array.getElem?_toList] at hu
      rw [Array.getD_eq_getD_getElem?, hu]
      exact hd.1
    · cases hT

end Go.AM
namespace Go.AM
open Go.RowKit

/-- The wrap of a row that lists variables: the condition on them and the memory's shape are both handed on. -/
theorem handed_both {H : Type} {enc : TypeId × Value → H} {a : Assume} {C : Checked} {os : Os} {f : FuncId} {fn : Func} {s : ChangeSpec} {conds : List PathCond} {apart fresh handsOn again : Bool} {X : World → Array Value → Prop}
    (hX : ∀ (w w' : World) (args : Array Value), w.heap = w'.heap → X w args → X w' args)
    (own : ownKnob C.prog.godebug = none) (started : os.Started) (noInit : C.prog.inits.idxOf? f = none) (hfn : C.prog.funcs[f]? = some fn)
    (witness : ∃ (w : World) (tape : Tape) (i : Input), w.os = os ∧ (w.forCall tape i).Shaped C.prog ∧ i.vars = [] ∧ Input.okWide C.prog (w.forCall tape i) .any w.heap.size f i ∧
      ((s.pre enc C.prog fn conds apart (w.forCall tape i).memory i.args ∧ X (w.forCall tape i).memory i.args) ∧ sizedMet enc C.prog fn (OpenSpec.ofChange s) apart (w.forCall tape i).memory i.args) ∧ a.holds C.prog (lone (Frame.enter C.prog f i.args .normal) [] (w.forCall tape i)))
    (contract : ∀ (W : World) (base : Nat) (args : Array Value) (ds gs : List (DataW H)) (before : List MemPlace),
      (∀ (j : Nat) t v, fn.params[j]? = some t → args[j]? = some v → Value.okWide C.prog W .any base t v) →
      DataW.Whole enc C.prog fn.params.toList s.vars apart W args.toList ds gs before →
      X W args → W.ShapedOpen C.prog →
      Calls C.prog f args W fun e W' => ∃ v, e = .returned v ∧ s.post enc C.prog fn apart fresh handsOn again W args v W') :
    ReturnsInHanded a C os f .any (fun w args => (s.pre enc C.prog fn conds apart w args ∧ X w args) ∧ sizedMet enc C.prog fn (OpenSpec.ofChange s) apart w args) (s.post enc C.prog fn apart fresh handsOn again) := by
  refine returnsInHanded_of_calls own started noInit witness ?_
  intro w tape i _ hsh _ hok hpre _
  obtain ⟨_, _, _, fn', hfn', _, _, _, _, hval⟩ := hok
  have e : fn' = fn := Option.some.inj (hfn'.symm.trans hfn)
  subst e
  obtain ⟨⟨⟨ds, gs, before, hw, hc⟩, hx⟩, hz⟩ := hpre
  have hw' := DataW.Whole.of_heap (w' := w.forCall tape i) (by rfl) hw
  refine (contract (w.forCall tape i) w.heap.size i.args ds gs before hval hw' (hX _ _ _ (by rfl) hx) hsh).mono fun e W' ⟨v, he, hp⟩ => ?_
  subst he
  exact ChangeSpec.post_blind hp

end Go.AM
namespace Go.Proofs.YtchlbkmmnmkpmaaDoor
open Go.AM Go.RowKit
theorem own : ownKnob Tryd.prog.godebug = none := by kernel_rfl
theorem laidOut : laidOutB Tryd.prog = true := by kernel_rfl
def laidL : List (String × DataW Unit) := [("math/bits.deBruijn32tab", Rows.laid_math_bits_deBruijn32tab), ("math/bits.deBruijn64tab", Rows.laid_math_bits_deBruijn64tab), ("internal/strconv.uint64pow10", Rows.laid_internal_strconv_uint64pow10), ("unicode/utf8.acceptRanges", Rows.laid_unicode_utf8_acceptRanges), ("strconv.ErrRange", Rows.laid_strconv_ErrRange), ("strconv.ErrSyntax", Rows.laid_strconv_ErrSyntax), ("unicode/utf8.first", Rows.laid_unicode_utf8_first)]
theorem star : "*" ++ "errors.errorString" = "*errors.errorString" := by decide
theorem errName (u : TypeId) (h : Tryd.prog.typeName? 3 u = some "*errors.errorString") : u = 125 :=
  typeName_ptr_named (nm := "errors.errorString") (by rw [star]; kernel_rfl) (by kernel_rfl) (by decide) u (by rw [star]; exact h)

/-- The package variables, as a row's condition and its memory's shape tell them. -/
theorem gl_of {W : World} (h : laidMetH Tryd.prog laidL W) (hs : W.ShapedOpen Tryd.prog) : Gl (fun b => b < W.heap.size) W := by
  rw [MakeChecks.laidMetH_plain _ _ _ (by kernel_rfl)] at h
  have lt : ∀ {g : Nat} {o : Obj}, W.heap[g]? = some o → g < W.heap.size := fun h => (Array.getElem?_eq_some_iff.1 h).1
  have cell : ∀ {g : Nat} {v : Value}, W.cell? ⟨g, 0, none⟩ = some v → ∃ cs T fz, W.heap[g]? = some (.cells cs T fz) ∧ cs[0]? = some v := by
    intro g v hv
    unfold World.cell? at hv
    cases hq : W.heap[g]? with
    | none => rw [hq] at hv; cases hv
    | some o =>
      rw [hq] at hv
      cases o with
      | cells cs T fz => exact ⟨cs, T, fz, rfl, hv⟩
      | _ => cases hv
  intro x hx
  simp only [globs, List.mem_cons, List.not_mem_nil, or_false] at hx
  have h2 := h.tail.tail
  have h4 := h2.tail.tail
  have h5 := h4.tail
  rcases hx with rfl | rfl | rfl | rfl
  · obtain ⟨m, hm⟩ := cell_of_shapedOpen_int (k := .i64) (g := 0) (t := 3) (zero := #[.int .i64 0]) hs (of_decide_eq_true (by kernel_rfl)) (by kernel_rfl) rfl (by kernel_rfl) (by kernel_rfl) (by kernel_rfl)
    obtain ⟨cs, T, fz, h1, h2⟩ := cell hm
    exact ⟨lt h1, _, h1, cs, T, fz, m, rfl, h2⟩
  · have ht : Lib.TabIs Tryd.prog W "internal/strconv.uint64pow10" .u64 Lib.pow10Tab :=
      Lib.tabIs_of_head (g := 3) (t := 116) (e := 100) (n := 20) (by kernel_rfl) (by kernel_rfl) Tryd.underlying116 Tryd.underlying100 (by kernel_rfl) (by kernel_rfl) h2
    have hc := ht.cell (g := 3) (by kernel_rfl) 0 (by rw [Lib.pow10Tab_length]; omega)
    obtain ⟨cs, T, fz, h1, _⟩ := cell hc
    refine ⟨lt h1, _, h1, T, fz, ?_⟩
    unfold Lib.TabIs World.var? at ht
    rw [show Tryd.prog.globalNamed "internal/strconv.uint64pow10" = some 3 by kernel_rfl] at ht
    simp only [Option.bind_some, h1, Option.some.injEq] at ht
    rw [ht]
  · obtain ⟨a, s, hv, _⟩ := laid_sentinel (P := Tryd.prog) (g := 4) (ti := 53) (tp := 125) (te := 127) (ts := 9) h5 (by kernel_rfl) (by kernel_rfl) Tryd.underlying53 errName Tryd.underlying125 Tryd.underlying127 rfl rfl Tryd.underlying9 (by kernel_rfl) (by kernel_rfl)
    obtain ⟨cs, T, fz, h1, h2⟩ := cell (World.var?_cell (by kernel_rfl) hv 0)
    exact ⟨lt h1, _, h1, cs, T, fz, _, rfl, h2, .inr ⟨_, _, rfl⟩⟩
  · obtain ⟨a, s, hv, _⟩ := laid_sentinel (P := Tryd.prog) (g := 5) (ti := 53) (tp := 125) (te := 127) (ts := 9) h4 (by kernel_rfl) (by kernel_rfl) Tryd.underlying53 errName Tryd.underlying125 Tryd.underlying127 rfl rfl Tryd.underlying9 (by kernel_rfl) (by kernel_rfl)
    obtain ⟨cs, T, fz, h1, h2⟩ := cell (World.var?_cell (by kernel_rfl) hv 0)
    exact ⟨lt h1, _, h1, cs, T, fz, _, rfl, h2, .inr ⟨_, _, rfl⟩⟩
end Go.Proofs.YtchlbkmmnmkpmaaDoor
