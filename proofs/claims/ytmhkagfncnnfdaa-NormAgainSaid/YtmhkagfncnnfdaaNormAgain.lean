/- Part of a proof: contracts of functions of the given program, by abstract states. -/
import Derived.Test.YtmhkagfncnnfdaaAmG
import Derived.Test.YtmhkagfncnnfdaaAmF
import Derived.Test.YtmhkagfncnnfdaaRows
import Derived.WalkKit
import Derived.ProofKit
import Derived.ShutString
import Derived.ChangeOld
set_option linter.unusedSimpArgs false
set_option linter.unusedVariables false
namespace Go.AM
open Go.Proofs
def tyCl : TT := .st [.int .i64, .bool, .int .i64, .int .i64, .int .i64]
def tyDg : TT := .st [.int .i64, .int .i64, .int .i64]
def tyOpn : TT := .st [.str, .sl 3 tyDg]
def tyRul : TT := .st [.sl 1 .str, .sl 1 .str, .sl 1 .str, .sl 5 tyCl, .sl 2 tyOpn]
theorem fit_str {avs : List AV} (h : TT.str.fit avs) : ∃ s : ByteArray, avs = [.s s] := by
  obtain ⟨s, rfl, _⟩ := h
  exact ⟨s, rfl⟩
theorem fit_cl {avs : List AV} (h : tyCl.fit avs) : ∃ c : Cl, avs = clC c := by
  obtain ⟨_, _, rfl, ⟨k, rfl, _⟩, _, _, rfl, ⟨t, rfl⟩, _, _, rfl, ⟨a, rfl, _⟩, _, _, rfl, ⟨b, rfl, _⟩, _, _, rfl, ⟨n, rfl, _⟩, rfl⟩ := h
  exact ⟨⟨k, t, a, b, n⟩, rfl⟩
theorem fit_dg {avs : List AV} (h : tyDg.fit avs) : ∃ c : Dg, avs = dgC c := by
  obtain ⟨_, _, rfl, ⟨k, rfl, _⟩, _, _, rfl, ⟨a, rfl, _⟩, _, _, rfl, ⟨n, rfl, _⟩, rfl⟩ := h
  exact ⟨⟨k, a, n⟩, rfl⟩
theorem fit_opn {avs : List AV} (h : tyOpn.fit avs) : ∃ c : Opn, avs = opnC c := by
  obtain ⟨_, _, rfl, ⟨k, rfl, _⟩, _, _, rfl, ⟨xs, rfl, _, hx⟩, rfl⟩ := h
  obtain ⟨l, rfl⟩ := list_of fun x hm => fit_dg (hx x hm)
  exact ⟨⟨k, l⟩, rfl⟩
theorem fit_rul {avs : List AV} (h : tyRul.fit avs) : ∃ r : Rul, avs = rulC r := by
  obtain ⟨_, _, rfl, ⟨xs, rfl, _, ha⟩, _, _, rfl, ⟨ys, rfl, _, hb⟩, _, _, rfl, ⟨zs, rfl, _, hc⟩, _, _, rfl, ⟨us, rfl, _, hd⟩, _, _, rfl, ⟨vs, rfl, _, he⟩, rfl⟩ := h
  obtain ⟨a, rfl⟩ := list_of fun x hm => fit_str (ha x hm)
  obtain ⟨b, rfl⟩ := list_of fun x hm => fit_str (hb x hm)
  obtain ⟨c, rfl⟩ := list_of fun x hm => fit_str (hc x hm)
  obtain ⟨d, rfl⟩ := list_of fun x hm => fit_cl (hd x hm)
  obtain ⟨e, rfl⟩ := list_of fun x hm => fit_opn (he x hm)
  exact ⟨⟨a, b, c, d, e⟩, rfl⟩
def tyBy : TT := .sl 1 (.int .u8)
theorem fit_by {avs : List AV} (h : tyBy.fit avs) : ∃ l : List Int, avs = [.sl .fro 1 (bysI l)] ∧ l.length ≤ 9223372036854775807 ∧ ∀ n ∈ l, 0 ≤ n ∧ n ≤ 255 := by
  obtain ⟨xs, rfl, hl, hx⟩ := h
  obtain ⟨l, rfl⟩ := list_of (g := fun n : {n : Int // 0 ≤ n ∧ n ≤ 255} => [AV.i .u8 n.1]) fun x hm => by
    obtain ⟨n, rfl, h1, h2⟩ := hx x hm
    exact ⟨⟨n, h1, h2⟩, rfl⟩
  rw [List.length_map] at hl
  unfold maxLen at hl
  refine ⟨l.map (·.1), by simp [bysI, Function.comp_def], by simp; omega, fun n hn => ?_⟩
  obtain ⟨x, _, rfl⟩ := List.mem_map.1 hn
  exact x.2
end Go.AM

namespace Go.Proofs.Ytmhkagfncnnfdaa
open Go.ChangeShapes Go.WideShapes Go.ChangeAt Go.RowKit Go.AM

theorem own : ownKnob Try.prog.godebug = none := by kernel_rfl
theorem laidOut : laidOutB Try.prog = true := by kernel_rfl

set_option maxRecDepth 100000 in
theorem normAgain_lifted (os : Os) (started : os.Started) (H : Type) (enc : TypeId × Value → H) :
    ReturnsInHanded {} Try.checked os 5 .any (Rows.normAgainSpec.pre6 enc Try.prog Try.f5 Rows.normAgainRow.domain false) (Rows.normAgainSpec.post enc Try.prog Try.f5 false true false false) := by
  refine returnsInHanded_of_change_sized (C := Try.checked) own started (by kernel_rfl) Try.func5
    (ChangeSpec.witness6 (enc := enc) (C := Try.checked) false ⟨#[], #[.agg #[.slice none 0 0, .slice none 0 0, .slice none 0 0, .slice none 0 0, .slice none 0 0], .slice none 0 0], []⟩ 8 (by kernel_rfl) (by kernel_rfl) (by kernel_rfl) (by kernel_rfl)) ?_
  intro W base args ds gs before hval0 hW hcnd hsz0 _
  have hval : ∀ (j : Nat) t v, Try.f5.params[j]? = some t → args[j]? = some v → Value.okWide Try.prog W .any base t v := hval0
  have hW' := hW
  obtain ⟨p, q, hA0, hV, rfl, hfz, hnd⟩ := hW
  have hA : DataW.TrodAll enc Try.prog W 0 (fun _ => true) true Try.f5.params.toList args.toList ds p := hA0
  rw [Try.params5] at hA hval
  obtain ⟨v0, vs0, d0, ds0, p0, q0, hargs, rfl, rfl, h0, r0⟩ := trodAll_cons hA
  obtain ⟨v1, vs1, d1, ds1, p1, q1, rfl, rfl, rfl, h1, r1⟩ := trodAll_cons r0
  obtain ⟨rfl, rfl, rfl⟩ := trodAll_nil r1
  obtain rfl : args = #[v0, v1] := by cases args; simp_all
  obtain ⟨rfl, rfl⟩ := trodVars_none hV
  have lt0 : ∀ x ∈ p0, x.block < W.heap.size := by obtain ⟨m, hm⟩ := h0; exact DataW.trod_lt m _ _ _ hm
  have lt1 : ∀ x ∈ p1, x.block < W.heap.size := by obtain ⟨m, hm⟩ := h1; exact DataW.trod_lt m _ _ _ hm
  obtain ⟨a0, f0, g0⟩ := arg_dat (tyRul) (by kernel_rfl) (hval 0 26 v0 rfl rfl) h0
  obtain ⟨r, rfl⟩ := fit_rul f0
  obtain ⟨a1, f1, g1⟩ := arg_dat (tyBy) (by kernel_rfl) (hval 1 56 v1 rfl rfl) h1
  obtain ⟨ts, rfl, htl, hts⟩ := fit_by f1
  clear hA0 hval0 hsz0
  refine (Pure.calls (c_NormAgain r ts hts htl) (w := W) (vs := #[v0, v1]) rfl (fun k c hk => ?_)).mono fun e W' ⟨he, bel⟩ => ?_
  · rcases k with _ | _ | k
    · simp at hk; subst hk; exact g0
    · simp at hk; subst hk; exact g1
    · simp at hk
  · subst he
    exact ⟨_, rfl, _, _, _, [], _, [], hW', trodAll_mk1 (shut_bool Try.underlying4 _), (trodAll_cons_mk (Below.trod laidOut (by kernel_rfl) (of_decide_eq_true (by kernel_rfl)) h0 bel lt0) (trodAll_cons_mk (Below.trod laidOut (by kernel_rfl) (of_decide_eq_true (by kernel_rfl)) h1 bel lt1) trodAll_mk0)), rfl, bel.frame _, fun h => by cases h⟩

theorem normAgain_over : Rows.normAgainRow.holds Try.pinned (OpenSpec.ofChange Rows.normAgainSpec) :=
  OpenClaim.holds_of_wide 5 Try.f5 rfl rfl rfl rfl rfl rfl rfl ⟨rfl, rfl, rfl, rfl, rfl⟩ rfl rfl rfl rfl rfl (by kernel_rfl) Try.func5 (by kernel_rfl)
    (of_decide_eq_true (by kernel_rfl)) (by unfold Func.isWrapper; first | (rw [if_pos (by decide +kernel)]; kernel_rfl) | (rw [if_neg (by decide +kernel)]; exact ⟨rfl, rfl⟩))
    (fun os started H enc _ => normAgain_lifted os started H enc)

theorem normAgain_holds : Rows.NormAgainSaid := normAgain_over
end Go.Proofs.Ytmhkagfncnnfdaa
