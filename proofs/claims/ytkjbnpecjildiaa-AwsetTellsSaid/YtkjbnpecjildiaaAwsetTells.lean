/- Part of a proof: contracts of functions of the given program, by abstract states. -/
import Derived.Test.YtkjbnpecjildiaaAmH
import Derived.Test.YtkjbnpecjildiaaRows
import Derived.WalkKit
import Derived.ProofKit
import Derived.ShutString
import Derived.ChangeOld
set_option linter.unusedSimpArgs false
set_option linter.unusedVariables false
namespace Go.AM
open Go.Proofs
def tyDot : TT := .st [.int .i64, .int .i64]
def tyEnt : TT := .st [.str, .sl 2 tyDot, .sl 2 tyDot]
theorem fit_dot {avs : List AV} (h : tyDot.fit avs) : ∃ d : Dot, avs = dotC d := by
  obtain ⟨a, b, rfl, ⟨s, rfl, _⟩, c, d, rfl, ⟨t, rfl, _⟩, rfl⟩ := h
  exact ⟨(s, t), rfl⟩
theorem fit_ent {avs : List AV} (h : tyEnt.fit avs) : ∃ e : Entry, avs = entC e := by
  obtain ⟨a, b, rfl, ⟨k, rfl, _⟩, c, d, rfl, ⟨ys, rfl, _, hy⟩, u, v, rfl, ⟨zs, rfl, _, hz⟩, rfl⟩ := h
  obtain ⟨l, rfl⟩ := list_of fun x hm => fit_dot (hy x hm)
  obtain ⟨m, rfl⟩ := list_of fun x hm => fit_dot (hz x hm)
  exact ⟨⟨k, l, m⟩, rfl⟩
end Go.AM

namespace Go.Proofs.Ytkjbnpecjildiaa
open Go.ChangeShapes Go.WideShapes Go.ChangeAt Go.RowKit Go.AM

theorem own : ownKnob Try.prog.godebug = none := by kernel_rfl
theorem laidOut : laidOutB Try.prog = true := by kernel_rfl

set_option maxRecDepth 100000 in
theorem awsetTells_lifted (os : Os) (started : os.Started) (H : Type) (enc : TypeId × Value → H) :
    ReturnsInHanded {} Try.checked os 10 .any (Rows.awsetTellsSpec.pre6 enc Try.prog Try.f10 Rows.awsetTellsRow.domain false) (Rows.awsetTellsSpec.post enc Try.prog Try.f10 false true false false) := by
  refine returnsInHanded_of_change_sized (C := Try.checked) own started (by kernel_rfl) Try.func10
    (ChangeSpec.witness6 (enc := enc) (C := Try.checked) false ⟨#[], #[.slice none 0 0, .slice none 0 0, .string ⟨#[]⟩], []⟩ 8 (by kernel_rfl) (by kernel_rfl) (by kernel_rfl) (by kernel_rfl)) ?_
  intro W base args ds gs before hval0 hW hcnd hsz0 _
  have hval : ∀ (j : Nat) t v, Try.f10.params[j]? = some t → args[j]? = some v → Value.okWide Try.prog W .any base t v := hval0
  have hW' := hW
  obtain ⟨p, q, hA0, hV, rfl, hfz, hnd⟩ := hW
  have hA : DataW.TrodAll enc Try.prog W 0 (fun _ => true) true Try.f10.params.toList args.toList ds p := hA0
  rw [Try.params10] at hA hval
  obtain ⟨v0, vs0, d0, ds0, p0, q0, hargs, rfl, rfl, h0, r0⟩ := trodAll_cons hA
  obtain ⟨v1, vs1, d1, ds1, p1, q1, rfl, rfl, rfl, h1, r1⟩ := trodAll_cons r0
  obtain ⟨v2, vs2, d2, ds2, p2, q2, rfl, rfl, rfl, h2, r2⟩ := trodAll_cons r1
  obtain ⟨rfl, rfl, rfl⟩ := trodAll_nil r2
  obtain rfl : args = #[v0, v1, v2] := by cases args; simp_all
  obtain ⟨rfl, rfl⟩ := trodVars_none hV
  have lt0 : ∀ x ∈ p0, x.block < W.heap.size := by obtain ⟨m, hm⟩ := h0; exact DataW.trod_lt m _ _ _ hm
  have lt1 : ∀ x ∈ p1, x.block < W.heap.size := by obtain ⟨m, hm⟩ := h1; exact DataW.trod_lt m _ _ _ hm
  have lt2 : ∀ x ∈ p2, x.block < W.heap.size := by obtain ⟨m, hm⟩ := h2; exact DataW.trod_lt m _ _ _ hm
  obtain ⟨a0, f0, g0⟩ := arg_dat (.sl 3 tyEnt) (by kernel_rfl) (hval 0 22 v0 rfl rfl) h0
  obtain ⟨xs, rfl, hl0, hx⟩ := f0
  obtain ⟨l, rfl⟩ := list_of fun x hm => fit_ent (hx x hm)
  obtain ⟨a1, f1, g1⟩ := arg_dat (.sl 3 tyEnt) (by kernel_rfl) (hval 1 22 v1 rfl rfl) h1
  obtain ⟨zs, rfl, hl1, hz⟩ := f1
  obtain ⟨m, rfl⟩ := list_of fun x hm => fit_ent (hz x hm)
  obtain ⟨a2, f2, g2⟩ := arg_dat (.str) (by kernel_rfl) (hval 2 9 v2 rfl rfl) h2
  obtain ⟨k, rfl, _⟩ := f2
  clear hA0 hval0 hsz0
  rw [List.length_map] at hl0 hl1
  unfold maxLen at hl0 hl1
  refine (Pure.calls (c_AwsetTells l m k (by omega) (by omega)) (w := W) (vs := #[v0, v1, v2]) rfl (fun k c hk => ?_)).mono fun e W' ⟨he, bel⟩ => ?_
  · rcases k with _ | _ | _ | k
    · simp at hk; subst hk; exact g0
    · simp at hk; subst hk; exact g1
    · simp at hk; subst hk; exact g2
    · simp at hk
  · subst he
    exact ⟨_, rfl, _, _, _, [], _, [], hW', trodAll_mk1 (shut_bool Try.underlying4 _), (trodAll_cons_mk (Below.trod laidOut (by kernel_rfl) (of_decide_eq_true (by kernel_rfl)) h0 bel lt0) (trodAll_cons_mk (Below.trod laidOut (by kernel_rfl) (of_decide_eq_true (by kernel_rfl)) h1 bel lt1) (trodAll_cons_mk (Below.trod laidOut (by kernel_rfl) (of_decide_eq_true (by kernel_rfl)) h2 bel lt2) trodAll_mk0))), rfl, bel.frame _, fun h => by cases h⟩

theorem awsetTells_over : Rows.awsetTellsRow.holds Try.pinned (OpenSpec.ofChange Rows.awsetTellsSpec) :=
  OpenClaim.holds_of_wide 10 Try.f10 rfl rfl rfl rfl rfl rfl rfl ⟨rfl, rfl, rfl, rfl, rfl⟩ rfl rfl rfl rfl rfl (by kernel_rfl) Try.func10 (by kernel_rfl)
    (of_decide_eq_true (by kernel_rfl)) (by unfold Func.isWrapper; first | (rw [if_pos (by decide +kernel)]; kernel_rfl) | (rw [if_neg (by decide +kernel)]; exact ⟨rfl, rfl⟩))
    (fun os started H enc _ => awsetTells_lifted os started H enc)

theorem awsetTells_holds : Rows.AwsetTellsSaid := awsetTells_over
end Go.Proofs.Ytkjbnpecjildiaa
