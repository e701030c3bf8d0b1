/- Part of a proof: contracts of functions of the given program, by abstract states. -/
import Derived.Test.YtlilmkblggifaaaAmG
import Derived.Test.YtlilmkblggifaaaAmD
import Derived.Test.YtlilmkblggifaaaRows
import Derived.WalkKit
import Derived.ProofKit
import Derived.ShutString
import Derived.ChangeOld
namespace Go.AM
open Go.Proofs

def tyBytes : TT := .sl 1 (.int .u8)
def tyMsg : TT := .st [.int .i64, .int .i64, tyBytes]
def tyPact : TT := .st [.int .i64, tyMsg, .int .i64]

theorem fit_bytes {avs : List AV} (h : tyBytes.fit avs) : ∃ us : List Int, avs = [.sl .fro 1 (bytesAV us)] := by
  obtain ⟨xs, rfl, _, hx⟩ := h
  obtain ⟨us, hu⟩ := list_of (g := fun n : Int => [AV.i .u8 n]) fun x hm => by
    obtain ⟨n, rfl, _⟩ := hx x hm
    exact ⟨n, rfl⟩
  exact ⟨us, by rw [hu]; rfl⟩

theorem fit_msg {avs : List AV} (h : tyMsg.fit avs) : ∃ m : Msg, avs = msgAV m := by
  obtain ⟨a, b, rfl, ⟨s, rfl, _⟩, c, d, rfl, ⟨t, rfl, _⟩, e, f, rfl, hb, rfl⟩ := h
  obtain ⟨us, rfl⟩ := fit_bytes hb
  exact ⟨⟨s, t, us⟩, rfl⟩

theorem fit_pact {avs : List AV} (h : tyPact.fit avs) : ∃ a : PAct, avs = pactAV a := by
  obtain ⟨a, b, rfl, ⟨s, rfl, _⟩, c, d, rfl, hm, e, f, rfl, ⟨n, rfl, _⟩, rfl⟩ := h
  obtain ⟨m, rfl⟩ := fit_msg hm
  exact ⟨⟨s, m, n⟩, rfl⟩
end Go.AM

namespace Go.Proofs.Ytlilmkblggifaaa
open Go.ChangeShapes Go.WideShapes Go.ChangeAt Go.RowKit Go.AM

theorem own : ownKnob Try.prog.godebug = none := by kernel_rfl
theorem laidOut : laidOutB Try.prog = true := by kernel_rfl

set_option maxRecDepth 100000 in
theorem postActs_lifted (os : Os) (started : os.Started) (H : Type) (enc : TypeId × Value → H) :
    ReturnsInHanded {} Try.checked os 3 .any (Rows.postActsSpec.pre6 enc Try.prog Try.f3 Rows.postActsRow.domain false) (Rows.postActsSpec.post enc Try.prog Try.f3 false true false false) := by
  refine returnsInHanded_of_change_sized (C := Try.checked) own started (by kernel_rfl) Try.func3
    (ChangeSpec.witness6 (enc := enc) (C := Try.checked) false ⟨#[], #[.slice none 0 0, .int .i64 0], []⟩ 8 (by kernel_rfl) (by kernel_rfl) (by kernel_rfl) (by kernel_rfl)) ?_
  intro W base args ds gs before hval0 hW hcnd hsz0 _
  have hval : ∀ (j : Nat) t v, Try.f3.params[j]? = some t → args[j]? = some v → Value.okWide Try.prog W .any base t v := hval0
  have hW' := hW
  obtain ⟨p, q, hA0, hV, rfl, hfz, hnd⟩ := hW
  have hA : DataW.TrodAll enc Try.prog W 0 (fun _ => true) true Try.f3.params.toList args.toList ds p := hA0
  rw [Try.params3] at hA hval
  obtain ⟨v0, vs0, d0, ds0, p0, q0, hargs, rfl, rfl, h0, r0⟩ := trodAll_cons hA
  obtain ⟨v1, vs1, d1, ds1, p1, q1, rfl, rfl, rfl, h1, r1⟩ := trodAll_cons r0
  obtain ⟨rfl, rfl, rfl⟩ := trodAll_nil r1
  obtain rfl : args = #[v0, v1] := by cases args; simp_all
  obtain ⟨rfl, rfl⟩ := trodVars_none hV
  have lt0 : ∀ x ∈ p0, x.block < W.heap.size := by obtain ⟨m, hm⟩ := h0; exact DataW.trod_lt m _ _ _ hm
  have lt1 : ∀ x ∈ p1, x.block < W.heap.size := by obtain ⟨m, hm⟩ := h1; exact DataW.trod_lt m _ _ _ hm
  obtain ⟨a0, f0, g0⟩ := arg_dat (.sl 5 tyPact) (by kernel_rfl) (hval 0 22 v0 rfl rfl) h0
  obtain ⟨a1, f1, g1⟩ := arg_dat (.int .i64) (by kernel_rfl) (hval 1 3 v1 rfl rfl) h1
  obtain ⟨xs, rfl, _, hx⟩ := f0
  obtain ⟨acts, rfl⟩ := list_of fun x hm => fit_pact (hx x hm)
  obtain ⟨to, rfl, _⟩ := f1
  clear hA0 hval0 hsz0
  refine (Pure.calls (c3 acts to) (w := W) (vs := #[v0, v1]) rfl (fun k c hk => ?_)).mono fun e W' ⟨he, bel⟩ => ?_
  · rcases k with _ | _ | k
    · simp at hk; subst hk; exact g0
    · simp at hk; subst hk; exact g1
    · simp at hk
  · subst he
    exact ⟨_, rfl, _, _, _, [], _, [], hW', trodAll_mk1 (shut_bool Try.underlying4 _), (trodAll_cons_mk (Below.trod laidOut (by kernel_rfl) (of_decide_eq_true (by kernel_rfl)) h0 bel lt0) (trodAll_cons_mk (Below.trod laidOut (by kernel_rfl) (of_decide_eq_true (by kernel_rfl)) h1 bel lt1) trodAll_mk0)), rfl, bel.frame _, fun h => by cases h⟩

theorem postActs_over : Rows.postActsRow.holds Try.pinned (OpenSpec.ofChange Rows.postActsSpec) :=
  OpenClaim.holds_of_wide 3 Try.f3 rfl rfl rfl rfl rfl rfl rfl ⟨rfl, rfl, rfl, rfl, rfl⟩ rfl rfl rfl rfl rfl (by kernel_rfl) Try.func3 (by kernel_rfl)
    (of_decide_eq_true (by kernel_rfl)) (by unfold Func.isWrapper; first | (rw [if_pos (by decide +kernel)]; kernel_rfl) | (rw [if_neg (by decide +kernel)]; exact ⟨rfl, rfl⟩))
    (fun os started H enc _ => postActs_lifted os started H enc)

theorem postActs_holds : Rows.PostActsSaid := postActs_over
end Go.Proofs.Ytlilmkblggifaaa
