/- Part of a proof: contracts of functions of the given program, by abstract states. -/
import Derived.Test.YtmhkagfncnnfdaaGreatAmG
import Derived.Test.YtmhkagfncnnfdaaGreatAmE
import Derived.Test.YtmhkagfncnnfdaaGreatRows
import Derived.WalkKit
import Derived.ProofKit
import Derived.ShutString
import Derived.ChangeOld
set_option linter.unusedSimpArgs false
set_option linter.unusedVariables false
namespace Go.AM
open Go.Proofs
def tyCl : TT := .st [.int .i64, .bool, .int .i64, .int .i64, .int .i64]
def tyDg : TT := .st [.int .i64, .int .i64, .int .i64]
def tyOpn : TT := .st [.str, .sl 3 tyDg]
def tyRul : TT := .st [.sl 1 .str, .sl 1 .str, .sl 1 .str, .sl 5 tyCl, .sl 2 tyOpn]
def tyCel : TT := .st [.str, .int .i64]
def tySta : TT := .st [.sl 1 (.sl 1 .str), .sl 1 (.sl 2 tyCel)]
theorem fit_str {avs : List AV} (h : TT.str.fit avs) : ∃ s : ByteArray, avs = [.s s] := by
  obtain ⟨s, rfl, _⟩ := h
  exact ⟨s, rfl⟩
theorem fit_cl {avs : List AV} (h : tyCl.fit avs) : ∃ c : Cl, avs = clC c := by
  obtain ⟨_, _, rfl, ⟨k, rfl, _⟩, _, _, rfl, ⟨t, rfl⟩, _, _, rfl, ⟨a, rfl, _⟩, _, _, rfl, ⟨b, rfl, _⟩, _, _, rfl, ⟨n, rfl, _⟩, rfl⟩ := h
  exact ⟨⟨k, t, a, b, n⟩, rfl⟩
theorem fit_dg {avs : List AV} (h : tyDg.fit avs) : ∃ c : Dg, avs = dgC c := by
  obtain ⟨_, _, rfl, ⟨k, rfl, _⟩, _, _, rfl, ⟨a, rfl, _⟩, _, _, rfl, ⟨n, rfl, _⟩, rfl⟩ := h
  exact ⟨⟨k, a, n⟩, rfl⟩
theorem fit_opn {avs : List AV} (h : tyOpn.fit avs) : ∃ c : Opn, avs = opnC c := by
  obtain ⟨_, _, rfl, ⟨k, rfl, _⟩, _, _, rfl, ⟨xs, rfl, _, hx⟩, rfl⟩ := h
  obtain ⟨l, rfl⟩ := list_of fun x hm => fit_dg (hx x hm)
  exact ⟨⟨k, l⟩, rfl⟩
theorem fit_rul {avs : List AV} (h : tyRul.fit avs) : ∃ r : Rul, avs = rulC r := by
  obtain ⟨_, _, rfl, ⟨xs, rfl, _, ha⟩, _, _, rfl, ⟨ys, rfl, _, hb⟩, _, _, rfl, ⟨zs, rfl, _, hc⟩, _, _, rfl, ⟨us, rfl, _, hd⟩, _, _, rfl, ⟨vs, rfl, _, he⟩, rfl⟩ := h
  obtain ⟨a, rfl⟩ := list_of fun x hm => fit_str (ha x hm)
  obtain ⟨b, rfl⟩ := list_of fun x hm => fit_str (hb x hm)
  obtain ⟨c, rfl⟩ := list_of fun x hm => fit_str (hc x hm)
  obtain ⟨d, rfl⟩ := list_of fun x hm => fit_cl (hd x hm)
  obtain ⟨e, rfl⟩ := list_of fun x hm => fit_opn (he x hm)
  exact ⟨⟨a, b, c, d, e⟩, rfl⟩
theorem fit_cel {avs : List AV} (h : tyCel.fit avs) : ∃ c : Cel, avs = celC c := by
  obtain ⟨_, _, rfl, ⟨k, rfl, _⟩, _, _, rfl, ⟨n, rfl, _⟩, rfl⟩ := h
  exact ⟨⟨k, n⟩, rfl⟩
abbrev WStr : Type := {l : List ByteArray // l.length ≤ 9223372036854775807}
abbrev WCel : Type := {l : List Cel // l.length ≤ 9223372036854775807}
theorem fit_wstr {avs : List AV} (h : (TT.sl 1 .str).fit avs) : ∃ l : WStr, avs = [.sl .fro 1 (strsAV l.1)] := by
  obtain ⟨xs, rfl, hl, hx⟩ := h
  obtain ⟨l, rfl⟩ := list_of fun x hm => fit_str (hx x hm)
  rw [List.length_map] at hl
  unfold maxLen at hl
  exact ⟨⟨l, by omega⟩, rfl⟩
theorem fit_wcel {avs : List AV} (h : (TT.sl 2 tyCel).fit avs) : ∃ l : WCel, avs = [.sl .fro 2 (celsAV l.1)] := by
  obtain ⟨xs, rfl, hl, hx⟩ := h
  obtain ⟨l, rfl⟩ := list_of fun x hm => fit_cel (hx x hm)
  rw [List.length_map] at hl
  unfold maxLen at hl
  exact ⟨⟨l, by omega⟩, rfl⟩
theorem fit_sta {avs : List AV} (h : tySta.fit avs) : ∃ s : Sta, avs = staC s ∧ s.sets.length ≤ 9223372036854775807 ∧ s.counts.length ≤ 9223372036854775807 ∧ (∀ l ∈ s.sets, l.length ≤ 9223372036854775807) ∧ ∀ l ∈ s.counts, l.length ≤ 9223372036854775807 := by
  obtain ⟨_, _, rfl, ⟨xs, rfl, hl1, hx⟩, _, _, rfl, ⟨ys, rfl, hl2, hy⟩, rfl⟩ := h
  obtain ⟨a, rfl⟩ := list_of fun x hm => fit_wstr (hx x hm)
  obtain ⟨b, rfl⟩ := list_of fun x hm => fit_wcel (hy x hm)
  rw [List.length_map] at hl1 hl2
  unfold maxLen at hl1 hl2
  refine ⟨⟨a.map (·.1), b.map (·.1)⟩, by simp [staC, rowsS, rowsK, Function.comp_def], by simp; omega, by simp; omega, fun l hl => ?_, fun l hl => ?_⟩
  · obtain ⟨x, _, rfl⟩ := List.mem_map.1 hl
    exact x.2
  · obtain ⟨x, _, rfl⟩ := List.mem_map.1 hl
    exact x.2
end Go.AM

namespace Go.Proofs.YtmhkagfncnnfdaaGreat
open Go.ChangeShapes Go.WideShapes Go.ChangeAt Go.RowKit Go.AM

theorem own : ownKnob Tryz.prog.godebug = none := by kernel_rfl
theorem laidOut : laidOutB Tryz.prog = true := by kernel_rfl

set_option maxRecDepth 100000 in
theorem evalPlain_lifted (os : Os) (started : os.Started) (H : Type) (enc : TypeId × Value → H) :
    ReturnsInHanded {} Tryz.checked os 5 .any (Rows.evalPlainSpec.pre6 enc Tryz.prog Tryz.f5 Rows.evalPlainRow.domain false) (Rows.evalPlainSpec.post enc Tryz.prog Tryz.f5 false true false false) := by
  refine returnsInHanded_of_change_sized (C := Tryz.checked) own started (by kernel_rfl) Tryz.func5
    (ChangeSpec.witness6 (enc := enc) (C := Tryz.checked) false ⟨#[], #[.agg #[.slice none 0 0, .slice none 0 0, .slice none 0 0, .slice none 0 0, .slice none 0 0], .agg #[.slice none 0 0, .slice none 0 0]], []⟩ 8 (by kernel_rfl) (by kernel_rfl) (by kernel_rfl) (by kernel_rfl)) ?_
  intro W base args ds gs before hval0 hW hcnd hsz0 _
  have hval : ∀ (j : Nat) t v, Tryz.f5.params[j]? = some t → args[j]? = some v → Value.okWide Tryz.prog W .any base t v := hval0
  have hW' := hW
  obtain ⟨p, q, hA0, hV, rfl, hfz, hnd⟩ := hW
  have hA : DataW.TrodAll enc Tryz.prog W 0 (fun _ => true) true Tryz.f5.params.toList args.toList ds p := hA0
  rw [Tryz.params5] at hA hval
  obtain ⟨v0, vs0, d0, ds0, p0, q0, hargs, rfl, rfl, h0, r0⟩ := trodAll_cons hA
  obtain ⟨v1, vs1, d1, ds1, p1, q1, rfl, rfl, rfl, h1, r1⟩ := trodAll_cons r0
  obtain ⟨rfl, rfl, rfl⟩ := trodAll_nil r1
  obtain rfl : args = #[v0, v1] := by cases args; simp_all
  obtain ⟨rfl, rfl⟩ := trodVars_none hV
  have lt0 : ∀ x ∈ p0, x.block < W.heap.size := by obtain ⟨m, hm⟩ := h0; exact DataW.trod_lt m _ _ _ hm
  have lt1 : ∀ x ∈ p1, x.block < W.heap.size := by obtain ⟨m, hm⟩ := h1; exact DataW.trod_lt m _ _ _ hm
  obtain ⟨a0, f0, g0⟩ := arg_dat (tyRul) (by kernel_rfl) (hval 0 26 v0 rfl rfl) h0
  obtain ⟨r, rfl⟩ := fit_rul f0
  obtain ⟨a1, f1, g1⟩ := arg_dat (tySta) (by kernel_rfl) (hval 1 30 v1 rfl rfl) h1
  obtain ⟨s, rfl, n1, n2, n3, n4⟩ := fit_sta f1
  clear hA0 hval0 hsz0
  refine (Pure.calls (c_EvalPlain r s n1 n2 n3 n4) (w := W) (vs := #[v0, v1]) rfl (fun k c hk => ?_)).mono fun e W' ⟨he, bel⟩ => ?_
  · rcases k with _ | _ | k
    · simp at hk; subst hk; exact g0
    · simp at hk; subst hk; exact g1
    · simp at hk
  · subst he
    exact ⟨_, rfl, _, _, _, [], _, [], hW', trodAll_mk1 (shut_bool Tryz.underlying4 _), (trodAll_cons_mk (Below.trod laidOut (by kernel_rfl) (of_decide_eq_true (by kernel_rfl)) h0 bel lt0) (trodAll_cons_mk (Below.trod laidOut (by kernel_rfl) (of_decide_eq_true (by kernel_rfl)) h1 bel lt1) trodAll_mk0)), rfl, bel.frame _, fun h => by cases h⟩

theorem evalPlain_over : Rows.evalPlainRow.holds Tryz.pinned (OpenSpec.ofChange Rows.evalPlainSpec) :=
  OpenClaim.holds_of_wide 5 Tryz.f5 rfl rfl rfl rfl rfl rfl rfl ⟨rfl, rfl, rfl, rfl, rfl⟩ rfl rfl rfl rfl rfl (by kernel_rfl) Tryz.func5 (by kernel_rfl)
    (of_decide_eq_true (by kernel_rfl)) (by unfold Func.isWrapper; first | (rw [if_pos (by decide +kernel)]; kernel_rfl) | (rw [if_neg (by decide +kernel)]; exact ⟨rfl, rfl⟩))
    (fun os started H enc _ => evalPlain_lifted os started H enc)

theorem evalPlain_holds : Rows.EvalPlainSaid := evalPlain_over
end Go.Proofs.YtmhkagfncnnfdaaGreat
