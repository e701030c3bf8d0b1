/- Part of a proof: contracts of functions of the given program, by abstract states. -/
import Derived.Test.YtlilmkblggifaaaAmF
import Derived.Test.YtlilmkblggifaaaRows
import Derived.WalkKit
import Derived.ProofKit
import Derived.ShutString
import Derived.ChangeOld
namespace Go.AM
open Go.Proofs
def tyDot : TT := .st [.int .i64, .int .i64]
def tySeen : TT := .st [.sl 1 (.int .i64), .sl 2 tyDot]
theorem fit_dot {avs : List AV} (h : tyDot.fit avs) : ∃ d : Dot, avs = dotC d := by
  obtain ⟨a, b, rfl, ⟨s, rfl, _⟩, c, d, rfl, ⟨t, rfl, _⟩, rfl⟩ := h
  exact ⟨(s, t), rfl⟩
theorem fit_seen {avs : List AV} (h : tySeen.fit avs) : ∃ s : Seen, avs = seenC s ∧ s.upto.length ≤ maxLen := by
  obtain ⟨a, b, rfl, ⟨xs, rfl, hl, hx⟩, c, d, rfl, ⟨ys, rfl, _, hy⟩, rfl⟩ := h
  obtain ⟨u, rfl⟩ := list_of (g := fun n : Int => [AV.i .i64 n]) fun x hm => by
    obtain ⟨n, rfl, _⟩ := hx x hm
    exact ⟨n, rfl⟩
  obtain ⟨l, rfl⟩ := list_of fun x hm => fit_dot (hy x hm)
  exact ⟨⟨u, l⟩, rfl, by simpa using hl⟩
end Go.AM

namespace Go.Proofs.Ytlilmkblggifaaa
open Go.ChangeShapes Go.WideShapes Go.ChangeAt Go.RowKit Go.AM

theorem own : ownKnob Try.prog.godebug = none := by kernel_rfl
theorem laidOut : laidOutB Try.prog = true := by kernel_rfl

set_option maxRecDepth 100000 in
theorem dotsJoin_lifted (os : Os) (started : os.Started) (H : Type) (enc : TypeId × Value → H) :
    ReturnsInHanded {} Try.checked os 10 .any (Rows.dotsJoinSpec.pre6 enc Try.prog Try.f10 Rows.dotsJoinRow.domain false) (Rows.dotsJoinSpec.post enc Try.prog Try.f10 false true false false) := by
  refine returnsInHanded_of_change_sized (C := Try.checked) own started (by kernel_rfl) Try.func10
    (ChangeSpec.witness6 (enc := enc) (C := Try.checked) false ⟨#[], #[.agg #[.slice none 0 0, .slice none 0 0], .agg #[.slice none 0 0, .slice none 0 0]], []⟩ 8 (by kernel_rfl) (by kernel_rfl) (by kernel_rfl) (by kernel_rfl)) ?_
  intro W base args ds gs before hval0 hW hcnd hsz0 _
  have hval : ∀ (j : Nat) t v, Try.f10.params[j]? = some t → args[j]? = some v → Value.okWide Try.prog W .any base t v := hval0
  have hW' := hW
  obtain ⟨p, q, hA0, hV, rfl, hfz, hnd⟩ := hW
  have hA : DataW.TrodAll enc Try.prog W 0 (fun _ => true) true Try.f10.params.toList args.toList ds p := hA0
  rw [Try.params10] at hA hval
  obtain ⟨v0, vs0, d0, ds0, p0, q0, hargs, rfl, rfl, h0, r0⟩ := trodAll_cons hA
  obtain ⟨v1, vs1, d1, ds1, p1, q1, rfl, rfl, rfl, h1, r1⟩ := trodAll_cons r0
  obtain ⟨rfl, rfl, rfl⟩ := trodAll_nil r1
  obtain rfl : args = #[v0, v1] := by cases args; simp_all
  obtain ⟨rfl, rfl⟩ := trodVars_none hV
  have lt0 : ∀ x ∈ p0, x.block < W.heap.size := by obtain ⟨m, hm⟩ := h0; exact DataW.trod_lt m _ _ _ hm
  have lt1 : ∀ x ∈ p1, x.block < W.heap.size := by obtain ⟨m, hm⟩ := h1; exact DataW.trod_lt m _ _ _ hm
  obtain ⟨a0, f0, g0⟩ := arg_dat (tySeen) (by kernel_rfl) (hval 0 86 v0 rfl rfl) h0
  obtain ⟨s, rfl, hs⟩ := fit_seen f0
  obtain ⟨a1, f1, g1⟩ := arg_dat (tySeen) (by kernel_rfl) (hval 1 86 v1 rfl rfl) h1
  obtain ⟨t, rfl, ht⟩ := fit_seen f1
  clear hA0 hval0 hsz0
  unfold maxLen at hs ht
  refine (Pure.calls (c_DotsJoin s t (by omega) (by omega)) (w := W) (vs := #[v0, v1]) rfl (fun k c hk => ?_)).mono fun e W' ⟨he, bel⟩ => ?_
  · rcases k with _ | _ | k
    · simp at hk; subst hk; exact g0
    · simp at hk; subst hk; exact g1
    · simp at hk
  · subst he
    exact ⟨_, rfl, _, _, _, [], _, [], hW', trodAll_mk1 (shut_bool Try.underlying4 _), (trodAll_cons_mk (Below.trod laidOut (by kernel_rfl) (of_decide_eq_true (by kernel_rfl)) h0 bel lt0) (trodAll_cons_mk (Below.trod laidOut (by kernel_rfl) (of_decide_eq_true (by kernel_rfl)) h1 bel lt1) trodAll_mk0)), rfl, bel.frame _, fun h => by cases h⟩

theorem dotsJoin_over : Rows.dotsJoinRow.holds Try.pinned (OpenSpec.ofChange Rows.dotsJoinSpec) :=
  OpenClaim.holds_of_wide 10 Try.f10 rfl rfl rfl rfl rfl rfl rfl ⟨rfl, rfl, rfl, rfl, rfl⟩ rfl rfl rfl rfl rfl (by kernel_rfl) Try.func10 (by kernel_rfl)
    (of_decide_eq_true (by kernel_rfl)) (by unfold Func.isWrapper; first | (rw [if_pos (by decide +kernel)]; kernel_rfl) | (rw [if_neg (by decide +kernel)]; exact ⟨rfl, rfl⟩))
    (fun os started H enc _ => dotsJoin_lifted os started H enc)

theorem dotsJoin_holds : Rows.DotsJoinSaid := dotsJoin_over
end Go.Proofs.Ytlilmkblggifaaa
