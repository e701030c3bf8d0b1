/- Part of a proof: contracts of functions of the given program, by abstract states. -/
import Derived.Test.YtkjbnpecjildiaaAmH
import Derived.Test.YtkjbnpecjildiaaRows
import Derived.WalkKit
import Derived.ProofKit
import Derived.ShutString
import Derived.ChangeOld
set_option linter.unusedSimpArgs false
set_option linter.unusedVariables false
namespace Go.AM
open Go.Proofs
def tyDot : TT := .st [.int .i64, .int .i64]
def tyEnt : TT := .st [.str, .sl 2 tyDot, .sl 2 tyDot]
def tyDeed : TT := .st [.str, tyDot, .sl 1 (.int .i64)]
theorem fit_dot {avs : List AV} (h : tyDot.fit avs) : ∃ d : Dot, avs = dotC d := by
  obtain ⟨a, b, rfl, ⟨s, rfl, _⟩, c, d, rfl, ⟨t, rfl, _⟩, rfl⟩ := h
  exact ⟨(s, t), rfl⟩
theorem fit_ent {avs : List AV} (h : tyEnt.fit avs) : ∃ e : Entry, avs = entC e := by
  obtain ⟨a, b, rfl, ⟨k, rfl, _⟩, c, d, rfl, ⟨ys, rfl, _, hy⟩, u, v, rfl, ⟨zs, rfl, _, hz⟩, rfl⟩ := h
  obtain ⟨l, rfl⟩ := list_of fun x hm => fit_dot (hy x hm)
  obtain ⟨m, rfl⟩ := list_of fun x hm => fit_dot (hz x hm)
  exact ⟨⟨k, l, m⟩, rfl⟩
theorem fit_deed {avs : List AV} (h : tyDeed.fit avs) : ∃ x : Deed, avs = deedC x ∧ x.past.length ≤ maxLen := by
  obtain ⟨a, b, rfl, ⟨k, rfl, _⟩, c, d, rfl, hd, u, v, rfl, ⟨zs, rfl, hl, hz⟩, rfl⟩ := h
  obtain ⟨y, rfl⟩ := fit_dot hd
  obtain ⟨m, rfl⟩ := list_of (g := fun n : Int => [AV.i .i64 n]) fun x hm => by
    obtain ⟨n, rfl, _⟩ := hz x hm
    exact ⟨n, rfl⟩
  rw [List.length_map] at hl
  exact ⟨⟨k, y, m⟩, rfl, hl⟩
end Go.AM

namespace Go.Proofs.Ytkjbnpecjildiaa
open Go.ChangeShapes Go.WideShapes Go.ChangeAt Go.RowKit Go.AM

theorem own : ownKnob Try.prog.godebug = none := by kernel_rfl
theorem laidOut : laidOutB Try.prog = true := by kernel_rfl

set_option maxRecDepth 100000 in
theorem awsetTurns_lifted (os : Os) (started : os.Started) (H : Type) (enc : TypeId × Value → H) :
    ReturnsInHanded {} Try.checked os 5 .any (Rows.awsetTurnsSpec.pre6 enc Try.prog Try.f5 Rows.awsetTurnsRow.domain false) (Rows.awsetTurnsSpec.post enc Try.prog Try.f5 false true false false) := by
  refine returnsInHanded_of_change_sized (C := Try.checked) own started (by kernel_rfl) Try.func5
    (ChangeSpec.witness6 (enc := enc) (C := Try.checked) false ⟨#[], #[.slice none 0 0, .agg #[.string ⟨#[]⟩, .int .i64 0, .int .i64 0, .slice none 0 0]], []⟩ 8 (by kernel_rfl) (by kernel_rfl) (by kernel_rfl) (by kernel_rfl)) ?_
  intro W base args ds gs before hval0 hW hcnd hsz0 _
  have hval : ∀ (j : Nat) t v, Try.f5.params[j]? = some t → args[j]? = some v → Value.okWide Try.prog W .any base t v := hval0
  have hW' := hW
  obtain ⟨p, q, hA0, hV, rfl, hfz, hnd⟩ := hW
  have hA : DataW.TrodAll enc Try.prog W 0 (fun _ => true) true Try.f5.params.toList args.toList ds p := hA0
  rw [Try.params5] at hA hval
  obtain ⟨v0, vs0, d0, ds0, p0, q0, hargs, rfl, rfl, h0, r0⟩ := trodAll_cons hA
  obtain ⟨v1, vs1, d1, ds1, p1, q1, rfl, rfl, rfl, h1, r1⟩ := trodAll_cons r0
  obtain ⟨rfl, rfl, rfl⟩ := trodAll_nil r1
  obtain rfl : args = #[v0, v1] := by cases args; simp_all
  obtain ⟨rfl, rfl⟩ := trodVars_none hV
  have lt0 : ∀ x ∈ p0, x.block < W.heap.size := by obtain ⟨m, hm⟩ := h0; exact DataW.trod_lt m _ _ _ hm
  have lt1 : ∀ x ∈ p1, x.block < W.heap.size := by obtain ⟨m, hm⟩ := h1; exact DataW.trod_lt m _ _ _ hm
  obtain ⟨a0, f0, g0⟩ := arg_dat (.sl 3 tyEnt) (by kernel_rfl) (hval 0 22 v0 rfl rfl) h0
  obtain ⟨xs, rfl, hl0, hx⟩ := f0
  obtain ⟨l, rfl⟩ := list_of fun x hm => fit_ent (hx x hm)
  obtain ⟨a1, f1, g1⟩ := arg_dat (tyDeed) (by kernel_rfl) (hval 1 28 v1 rfl rfl) h1
  obtain ⟨y, rfl, hl1⟩ := fit_deed f1
  clear hA0 hval0 hsz0
  rw [List.length_map] at hl0
  unfold maxLen at hl0 hl1
  refine (Pure.calls (c_AwsetTurns l y (by omega) (by omega)) (w := W) (vs := #[v0, v1]) rfl (fun k c hk => ?_)).mono fun e W' ⟨he, bel⟩ => ?_
  · rcases k with _ | _ | k
    · simp at hk; subst hk; exact g0
    · simp at hk; subst hk; exact g1
    · simp at hk
  · subst he
    exact ⟨_, rfl, _, _, _, [], _, [], hW', trodAll_mk1 (shut_bool Try.underlying4 _), (trodAll_cons_mk (Below.trod laidOut (by kernel_rfl) (of_decide_eq_true (by kernel_rfl)) h0 bel lt0) (trodAll_cons_mk (Below.trod laidOut (by kernel_rfl) (of_decide_eq_true (by kernel_rfl)) h1 bel lt1) trodAll_mk0)), rfl, bel.frame _, fun h => by cases h⟩

theorem awsetTurns_over : Rows.awsetTurnsRow.holds Try.pinned (OpenSpec.ofChange Rows.awsetTurnsSpec) :=
  OpenClaim.holds_of_wide 5 Try.f5 rfl rfl rfl rfl rfl rfl rfl ⟨rfl, rfl, rfl, rfl, rfl⟩ rfl rfl rfl rfl rfl (by kernel_rfl) Try.func5 (by kernel_rfl)
    (of_decide_eq_true (by kernel_rfl)) (by unfold Func.isWrapper; first | (rw [if_pos (by decide +kernel)]; kernel_rfl) | (rw [if_neg (by decide +kernel)]; exact ⟨rfl, rfl⟩))
    (fun os started H enc _ => awsetTurns_lifted os started H enc)

theorem awsetTurns_holds : Rows.AwsetTurnsSaid := awsetTurns_over
end Go.Proofs.Ytkjbnpecjildiaa
