/- Part of a proof: contracts of functions of the given program, by abstract states. -/
import Derived.Test.YtkjbnpecjildiaaAmG
import Derived.Test.YtkjbnpecjildiaaAmH
import Derived.Test.YtkjbnpecjildiaaRows
import Derived.WalkKit
import Derived.ProofKit
import Derived.ShutString
import Derived.ChangeOld
set_option linter.unusedSimpArgs false
set_option linter.unusedVariables false
namespace Go.AM
open Go.Proofs
def tyDot : TT := .st [.int .i64, .int .i64]
def tyEff : TT := .st [.int .i64, .int .i64, .str, .int .i64, .int .i64, .str]
def tyEv : TT := .st [tyDot, .sl 1 (.int .i64), .sl 6 tyEff]
theorem fit_dot {avs : List AV} (h : tyDot.fit avs) : ∃ d : Dot, avs = dotC d := by
  obtain ⟨a, b, rfl, ⟨s, rfl, _⟩, c, d, rfl, ⟨t, rfl, _⟩, rfl⟩ := h
  exact ⟨(s, t), rfl⟩
theorem fit_eff {avs : List AV} (h : tyEff.fit avs) : ∃ x : Eff, avs = effC x := by
  obtain ⟨_, _, rfl, ⟨k, rfl, _⟩, _, _, rfl, ⟨t, rfl, _⟩, _, _, rfl, ⟨y, rfl, _⟩, _, _, rfl, ⟨n, rfl, _⟩, _, _, rfl, ⟨d, rfl, _⟩, _, _, rfl, ⟨w, rfl, _⟩, rfl⟩ := h
  exact ⟨⟨k, t, y, n, d, w⟩, rfl⟩
abbrev WEv : Type := {e : Ev // e.past.length ≤ 9223372036854775807 ∧ e.effs.length ≤ 9223372036854775807}
theorem fit_ev {avs : List AV} (h : tyEv.fit avs) : ∃ e : WEv, avs = evC e.1 := by
  obtain ⟨_, _, rfl, hd, _, _, rfl, ⟨ys, rfl, hl1, hy⟩, _, _, rfl, ⟨zs, rfl, hl2, hz⟩, rfl⟩ := h
  obtain ⟨d, rfl⟩ := fit_dot hd
  obtain ⟨p, rfl⟩ := list_of (g := fun n : Int => [AV.i .i64 n]) fun x hm => by
    obtain ⟨n, rfl, _⟩ := hy x hm
    exact ⟨n, rfl⟩
  obtain ⟨q, rfl⟩ := list_of fun x hm => fit_eff (hz x hm)
  rw [List.length_map] at hl1 hl2
  unfold maxLen at hl1 hl2
  exact ⟨⟨⟨d, p, q⟩, by dsimp only; omega, by dsimp only; omega⟩, rfl⟩
theorem wide_of (l : List WEv) : Wide (l.map (·.1)) := fun e he => by
  obtain ⟨x, _, rfl⟩ := List.mem_map.1 he
  exact x.2
abbrev U8 : Type := {n : Int // 0 ≤ n ∧ n < 256}
theorem u8_of (l : List U8) : ∀ x ∈ l.map (·.1), 0 ≤ x ∧ x < 256 := fun x hx => by
  obtain ⟨y, _, rfl⟩ := List.mem_map.1 hx
  exact y.2
theorem evs_val (l : List WEv) : (l.map fun e : WEv => evC e.1) = evsAV (l.map (·.1)) := by simp [evsAV, Function.comp_def]
theorem u8s_val (l : List U8) : (l.map fun n : U8 => [AV.i .u8 n.1]) = u8sAV (l.map (·.1)) := by simp [u8sAV, Function.comp_def]
end Go.AM

namespace Go.Proofs.Ytkjbnpecjildiaa
open Go.ChangeShapes Go.WideShapes Go.ChangeAt Go.RowKit Go.AM

theorem own : ownKnob Try.prog.godebug = none := by kernel_rfl
theorem laidOut : laidOutB Try.prog = true := by kernel_rfl

set_option maxRecDepth 100000 in
theorem rwsetFolds_lifted (os : Os) (started : os.Started) (H : Type) (enc : TypeId × Value → H) :
    ReturnsInHanded {} Try.checked os 8 .any (Rows.rwsetFoldsSpec.pre6 enc Try.prog Try.f8 Rows.rwsetFoldsRow.domain false) (Rows.rwsetFoldsSpec.post enc Try.prog Try.f8 false true false false) := by
  refine returnsInHanded_of_change_sized (C := Try.checked) own started (by kernel_rfl) Try.func8
    (ChangeSpec.witness6 (enc := enc) (C := Try.checked) false ⟨#[], #[.slice none 0 0, .slice none 0 0, .int .i64 0], []⟩ 8 (by kernel_rfl) (by kernel_rfl) (by kernel_rfl) (by kernel_rfl)) ?_
  intro W base args ds gs before hval0 hW hcnd hsz0 _
  have hval : ∀ (j : Nat) t v, Try.f8.params[j]? = some t → args[j]? = some v → Value.okWide Try.prog W .any base t v := hval0
  have hW' := hW
  obtain ⟨p, q, hA0, hV, rfl, hfz, hnd⟩ := hW
  have hA : DataW.TrodAll enc Try.prog W 0 (fun _ => true) true Try.f8.params.toList args.toList ds p := hA0
  rw [Try.params8] at hA hval
  obtain ⟨v0, vs0, d0, ds0, p0, q0, hargs, rfl, rfl, h0, r0⟩ := trodAll_cons hA
  obtain ⟨v1, vs1, d1, ds1, p1, q1, rfl, rfl, rfl, h1, r1⟩ := trodAll_cons r0
  obtain ⟨v2, vs2, d2, ds2, p2, q2, rfl, rfl, rfl, h2, r2⟩ := trodAll_cons r1
  obtain ⟨rfl, rfl, rfl⟩ := trodAll_nil r2
  obtain rfl : args = #[v0, v1, v2] := by cases args; simp_all
  obtain ⟨rfl, rfl⟩ := trodVars_none hV
  have lt0 : ∀ x ∈ p0, x.block < W.heap.size := by obtain ⟨m, hm⟩ := h0; exact DataW.trod_lt m _ _ _ hm
  have lt1 : ∀ x ∈ p1, x.block < W.heap.size := by obtain ⟨m, hm⟩ := h1; exact DataW.trod_lt m _ _ _ hm
  have lt2 : ∀ x ∈ p2, x.block < W.heap.size := by obtain ⟨m, hm⟩ := h2; exact DataW.trod_lt m _ _ _ hm
  obtain ⟨a0, f0, g0⟩ := arg_dat (.sl 4 tyEv) (by kernel_rfl) (hval 0 46 v0 rfl rfl) h0
  obtain ⟨xs, rfl, hl0, hx⟩ := f0
  obtain ⟨l, rfl⟩ := list_of fun x hm => fit_ev (hx x hm)
  obtain ⟨a1, f1, g1⟩ := arg_dat (.sl 1 (.int .u8)) (by kernel_rfl) (hval 1 47 v1 rfl rfl) h1
  obtain ⟨ys, rfl, hl1, hy⟩ := f1
  obtain ⟨us, rfl⟩ := list_of (g := fun n : U8 => [AV.i .u8 n.1]) fun x hm => by obtain ⟨n, rfl, h1, h2⟩ := hy x hm; simp [IntKind.min, IntKind.max, IntKind.bits, IntKind.signed] at h1 h2; exact ⟨⟨n, by omega, by omega⟩, rfl⟩
  obtain ⟨a2, f2, g2⟩ := arg_dat (.int .i64) (by kernel_rfl) (hval 2 3 v2 rfl rfl) h2
  obtain ⟨n, rfl, _⟩ := f2
  clear hA0 hval0 hsz0
  rw [List.length_map] at hl0 hl1
  unfold maxLen at hl0 hl1
  rw [evs_val] at g0
  rw [u8s_val] at g1
  refine (Pure.calls (c_RwsetFolds (l.map (·.1)) (us.map (·.1)) n (by simp; omega) (wide_of l) (by simp; omega) (u8_of us)) (w := W) (vs := #[v0, v1, v2]) rfl (fun k c hk => ?_)).mono fun e W' ⟨he, bel⟩ => ?_
  · rcases k with _ | _ | _ | k
    · simp at hk; subst hk; exact g0
    · simp at hk; subst hk; exact g1
    · simp at hk; subst hk; exact g2
    · simp at hk
  · subst he
    exact ⟨_, rfl, _, _, _, [], _, [], hW', trodAll_mk1 (shut_bool Try.underlying4 _), (trodAll_cons_mk (Below.trod laidOut (by kernel_rfl) (of_decide_eq_true (by kernel_rfl)) h0 bel lt0) (trodAll_cons_mk (Below.trod laidOut (by kernel_rfl) (of_decide_eq_true (by kernel_rfl)) h1 bel lt1) (trodAll_cons_mk (Below.trod laidOut (by kernel_rfl) (of_decide_eq_true (by kernel_rfl)) h2 bel lt2) trodAll_mk0))), rfl, bel.frame _, fun h => by cases h⟩

theorem rwsetFolds_over : Rows.rwsetFoldsRow.holds Try.pinned (OpenSpec.ofChange Rows.rwsetFoldsSpec) :=
  OpenClaim.holds_of_wide 8 Try.f8 rfl rfl rfl rfl rfl rfl rfl ⟨rfl, rfl, rfl, rfl, rfl⟩ rfl rfl rfl rfl rfl (by kernel_rfl) Try.func8 (by kernel_rfl)
    (of_decide_eq_true (by kernel_rfl)) (by unfold Func.isWrapper; first | (rw [if_pos (by decide +kernel)]; kernel_rfl) | (rw [if_neg (by decide +kernel)]; exact ⟨rfl, rfl⟩))
    (fun os started H enc _ => rwsetFolds_lifted os started H enc)

theorem rwsetFolds_holds : Rows.RwsetFoldsSaid := rwsetFolds_over
end Go.Proofs.Ytkjbnpecjildiaa
