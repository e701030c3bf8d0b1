/- Part of a proof: contracts of functions of the given program, by abstract states. -/
import Derived.Test.YtmhkagfncnnfdaaGreatAmG
import Derived.Test.YtmhkagfncnnfdaaGreatAmF
import Derived.Test.YtmhkagfncnnfdaaGreatRows
import Derived.WalkKit
import Derived.ProofKit
import Derived.ShutString
import Derived.ChangeOld
set_option linter.unusedSimpArgs false
set_option linter.unusedVariables false
namespace Go.AM
open Go.Proofs
def tyCl : TT := .st [.int .i64, .bool, .int .i64, .int .i64, .int .i64]
def tyDg : TT := .st [.int .i64, .int .i64, .int .i64]
def tyOpn : TT := .st [.str, .sl 3 tyDg]
def tyRul : TT := .st [.sl 1 .str, .sl 1 .str, .sl 1 .str, .sl 5 tyCl, .sl 2 tyOpn]
theorem fit_str {avs : List AV} (h : TT.str.fit avs) : ∃ s : ByteArray, avs = [.s s] := by
  obtain ⟨s, rfl, _⟩ := h
  exact ⟨s, rfl⟩
theorem fit_cl {avs : List AV} (h : tyCl.fit avs) : ∃ c : Cl, avs = clC c := by
  obtain ⟨_, _, rfl, ⟨k, rfl, _⟩, _, _, rfl, ⟨t, rfl⟩, _, _, rfl, ⟨a, rfl, _⟩, _, _, rfl, ⟨b, rfl, _⟩, _, _, rfl, ⟨n, rfl, _⟩, rfl⟩ := h
  exact ⟨⟨k, t, a, b, n⟩, rfl⟩
theorem fit_dg {avs : List AV} (h : tyDg.fit avs) : ∃ c : Dg, avs = dgC c := by
  obtain ⟨_, _, rfl, ⟨k, rfl, _⟩, _, _, rfl, ⟨a, rfl, _⟩, _, _, rfl, ⟨n, rfl, _⟩, rfl⟩ := h
  exact ⟨⟨k, a, n⟩, rfl⟩
theorem fit_opn {avs : List AV} (h : tyOpn.fit avs) : ∃ c : Opn, avs = opnC c := by
  obtain ⟨_, _, rfl, ⟨k, rfl, _⟩, _, _, rfl, ⟨xs, rfl, _, hx⟩, rfl⟩ := h
  obtain ⟨l, rfl⟩ := list_of fun x hm => fit_dg (hx x hm)
  exact ⟨⟨k, l⟩, rfl⟩
theorem fit_rul {avs : List AV} (h : tyRul.fit avs) : ∃ r : Rul, avs = rulC r := by
  obtain ⟨_, _, rfl, ⟨xs, rfl, _, ha⟩, _, _, rfl, ⟨ys, rfl, _, hb⟩, _, _, rfl, ⟨zs, rfl, _, hc⟩, _, _, rfl, ⟨us, rfl, _, hd⟩, _, _, rfl, ⟨vs, rfl, _, he⟩, rfl⟩ := h
  obtain ⟨a, rfl⟩ := list_of fun x hm => fit_str (ha x hm)
  obtain ⟨b, rfl⟩ := list_of fun x hm => fit_str (hb x hm)
  obtain ⟨c, rfl⟩ := list_of fun x hm => fit_str (hc x hm)
  obtain ⟨d, rfl⟩ := list_of fun x hm => fit_cl (hd x hm)
  obtain ⟨e, rfl⟩ := list_of fun x hm => fit_opn (he x hm)
  exact ⟨⟨a, b, c, d, e⟩, rfl⟩
end Go.AM

namespace Go.Proofs.YtmhkagfncnnfdaaGreat
open Go.ChangeShapes Go.WideShapes Go.ChangeAt Go.RowKit Go.AM

theorem own : ownKnob Tryz.prog.godebug = none := by kernel_rfl
theorem laidOut : laidOutB Tryz.prog = true := by kernel_rfl

set_option maxRecDepth 100000 in
theorem normPlain_lifted (os : Os) (started : os.Started) (H : Type) (enc : TypeId × Value → H) :
    ReturnsInHanded {} Tryz.checked os 4 .any (Rows.normPlainSpec.pre6 enc Tryz.prog Tryz.f4 Rows.normPlainRow.domain false) (Rows.normPlainSpec.post enc Tryz.prog Tryz.f4 false true false false) := by
  refine returnsInHanded_of_change_sized (C := Tryz.checked) own started (by kernel_rfl) Tryz.func4
    (ChangeSpec.witness6 (enc := enc) (C := Tryz.checked) false ⟨#[], #[.agg #[.slice none 0 0, .slice none 0 0, .slice none 0 0, .slice none 0 0, .slice none 0 0]], []⟩ 8 (by kernel_rfl) (by kernel_rfl) (by kernel_rfl) (by kernel_rfl)) ?_
  intro W base args ds gs before hval0 hW hcnd hsz0 _
  have hval : ∀ (j : Nat) t v, Tryz.f4.params[j]? = some t → args[j]? = some v → Value.okWide Tryz.prog W .any base t v := hval0
  have hW' := hW
  obtain ⟨p, q, hA0, hV, rfl, hfz, hnd⟩ := hW
  have hA : DataW.TrodAll enc Tryz.prog W 0 (fun _ => true) true Tryz.f4.params.toList args.toList ds p := hA0
  rw [Tryz.params4] at hA hval
  obtain ⟨v0, vs0, d0, ds0, p0, q0, hargs, rfl, rfl, h0, r0⟩ := trodAll_cons hA
  obtain ⟨rfl, rfl, rfl⟩ := trodAll_nil r0
  obtain rfl : args = #[v0] := by cases args; simp_all
  obtain ⟨rfl, rfl⟩ := trodVars_none hV
  have lt0 : ∀ x ∈ p0, x.block < W.heap.size := by obtain ⟨m, hm⟩ := h0; exact DataW.trod_lt m _ _ _ hm
  obtain ⟨a0, f0, g0⟩ := arg_dat (tyRul) (by kernel_rfl) (hval 0 26 v0 rfl rfl) h0
  obtain ⟨r, rfl⟩ := fit_rul f0
  clear hA0 hval0 hsz0
  refine (Pure.calls (c_NormPlain r) (w := W) (vs := #[v0]) rfl (fun k c hk => ?_)).mono fun e W' ⟨he, bel⟩ => ?_
  · rcases k with _ | k
    · simp at hk; subst hk; exact g0
    · simp at hk
  · subst he
    exact ⟨_, rfl, _, _, _, [], _, [], hW', trodAll_mk1 (shut_bool Tryz.underlying4 _), (trodAll_cons_mk (Below.trod laidOut (by kernel_rfl) (of_decide_eq_true (by kernel_rfl)) h0 bel lt0) trodAll_mk0), rfl, bel.frame _, fun h => by cases h⟩

theorem normPlain_over : Rows.normPlainRow.holds Tryz.pinned (OpenSpec.ofChange Rows.normPlainSpec) :=
  OpenClaim.holds_of_wide 4 Tryz.f4 rfl rfl rfl rfl rfl rfl rfl ⟨rfl, rfl, rfl, rfl, rfl⟩ rfl rfl rfl rfl rfl (by kernel_rfl) Tryz.func4 (by kernel_rfl)
    (of_decide_eq_true (by kernel_rfl)) (by unfold Func.isWrapper; first | (rw [if_pos (by decide +kernel)]; kernel_rfl) | (rw [if_neg (by decide +kernel)]; exact ⟨rfl, rfl⟩))
    (fun os started H enc _ => normPlain_lifted os started H enc)

theorem normPlain_holds : Rows.NormPlainSaid := normPlain_over
end Go.Proofs.YtmhkagfncnnfdaaGreat
