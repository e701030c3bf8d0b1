/- Part of a proof: contracts of functions of the given program, by abstract states. -/
import Derived.Test.YtjpedhcgokiojaaGreatAmH
import Derived.Test.YtjpedhcgokiojaaGreatRows
import Derived.WalkKit
import Derived.ProofKit
import Derived.ShutString
import Derived.ChangeOld
set_option linter.unusedSimpArgs false
set_option linter.unusedVariables false
namespace Go.AM
open Go.Proofs
def tyFlr : TT := .st [.bool, .int .i64]
def tyKin : TT := .st [.sl 1 .bool, .sl 2 tyFlr, .int .i64]
def tyDot : TT := .st [.int .i64, .int .i64]
def tyEnt : TT := .st [.str, .sl 2 tyDot, .sl 2 tyDot]
def tyCel : TT := .st [.str, .int .i64]
def tyAcc : TT := .st [.str, .ar [.int .i64, .int .i64, .int .i64, .int .i64, .int .i64]]
def tyNt : TT := .st [.str, .int .i64, .int .i64, .str]
def tyRaw : TT := .st [.sl 1 (.sl 3 tyEnt), .sl 1 (.sl 2 tyCel), .sl 1 (.sl 6 tyAcc), .sl 1 (.sl 4 tyNt)]
theorem fit_bool {avs : List AV} (h : TT.bool.fit avs) : ∃ b : Bool, avs = [.b b] := h
theorem fit_flr {avs : List AV} (h : tyFlr.fit avs) : ∃ f : Flr, avs = flrC f := by
 obtain ⟨_, _, rfl, ⟨b, rfl⟩, _, _, rfl, ⟨n, rfl, _⟩, rfl⟩ := h
 exact ⟨⟨b, n⟩, rfl⟩
theorem fit_kin {avs : List AV} (h : tyKin.fit avs) : ∃ k : Kin, avs = kinC k := by
 obtain ⟨_, _, rfl, ⟨xs, rfl, _, hx⟩, _, _, rfl, ⟨ys, rfl, _, hy⟩, _, _, rfl, ⟨n, rfl, _⟩, rfl⟩ := h
 obtain ⟨l, rfl⟩ := list_of fun x hm => fit_bool (hx x hm)
 obtain ⟨m, rfl⟩ := list_of fun x hm => fit_flr (hy x hm)
 exact ⟨⟨l, m, n⟩, rfl⟩
theorem fit_dot {avs : List AV} (h : tyDot.fit avs) : ∃ d : Dot, avs = dotC d := by
 obtain ⟨a, b, rfl, ⟨s, rfl, _⟩, c, d, rfl, ⟨t, rfl, _⟩, rfl⟩ := h
 exact ⟨(s, t), rfl⟩
theorem fit_ent {avs : List AV} (h : tyEnt.fit avs) : ∃ e : Entry, avs = entC e := by
 obtain ⟨a, b, rfl, ⟨k, rfl, _⟩, c, d, rfl, ⟨ys, rfl, _, hy⟩, u, v, rfl, ⟨zs, rfl, _, hz⟩, rfl⟩ := h
 obtain ⟨l, rfl⟩ := list_of fun x hm => fit_dot (hy x hm)
 obtain ⟨m, rfl⟩ := list_of fun x hm => fit_dot (hz x hm)
 exact ⟨⟨k, l, m⟩, rfl⟩
theorem fit_cel {avs : List AV} (h : tyCel.fit avs) : ∃ c : Cel, avs = celC c := by
 obtain ⟨_, _, rfl, ⟨k, rfl, _⟩, _, _, rfl, ⟨n, rfl, _⟩, rfl⟩ := h
 exact ⟨⟨k, n⟩, rfl⟩
theorem fit_acc {avs : List AV} (h : tyAcc.fit avs) : ∃ x : Acc, avs = acC x := by
 obtain ⟨_, _, rfl, ⟨k, rfl, _⟩, _, _, rfl, ⟨_, _, rfl, ⟨a, rfl, _⟩, _, _, rfl, ⟨b, rfl, _⟩, _, _, rfl, ⟨c, rfl, _⟩, _, _, rfl, ⟨d, rfl, _⟩, _, _, rfl, ⟨e, rfl, _⟩, rfl⟩, rfl⟩ := h
 exact ⟨⟨k, a, b, c, d, e⟩, rfl⟩
theorem fit_nt {avs : List AV} (h : tyNt.fit avs) : ∃ n : Nt, avs = ntC n := by
 obtain ⟨_, _, rfl, ⟨k, rfl, _⟩, _, _, rfl, ⟨a, rfl, _⟩, _, _, rfl, ⟨b, rfl, _⟩, _, _, rfl, ⟨s, rfl, _⟩, rfl⟩ := h
 exact ⟨⟨k, a, b, s⟩, rfl⟩
abbrev WL (α : Type) : Type := {l : List α // l.length ≤ 9223372036854775807}
theorem fit_w {α : Type} {C : α → List AV} {T : TT} {sz : Nat} (hC : ∀ avs, T.fit avs → ∃ x, avs = C x) {avs : List AV} (h : (TT.sl sz T).fit avs) : ∃ l : WL α, avs = [.sl .fro sz (l.1.map C)] := by
 obtain ⟨xs, rfl, hl, hx⟩ := h
 obtain ⟨l, rfl⟩ := list_of fun x hm => hC x (hx x hm)
 rw [List.length_map] at hl
 unfold maxLen at hl
 exact ⟨⟨l, by omega⟩, rfl⟩
theorem fit_rows {α : Type} {C : α → List AV} {T : TT} {sz : Nat} (hC : ∀ avs, T.fit avs → ∃ x, avs = C x) {avs : List AV} (h : (TT.sl 1 (TT.sl sz T)).fit avs) : ∃ A : List (List α), avs = [.sl .fro 1 (A.map fun l => [.sl .fro sz (l.map C)])] ∧ A.length ≤ 9223372036854775807 ∧ ∀ l ∈ A, l.length ≤ 9223372036854775807 := by
 obtain ⟨xs, rfl, hl, hx⟩ := h
 obtain ⟨a, rfl⟩ := list_of fun x hm => fit_w hC (hx x hm)
 rw [List.length_map] at hl
 unfold maxLen at hl
 refine ⟨a.map (·.1), by simp [Function.comp_def], by simp; omega, fun l hm => ?_⟩
 obtain ⟨x, _, rfl⟩ := List.mem_map.1 hm
 exact x.2
theorem fit_raw {avs : List AV} (h : tyRaw.fit avs) : ∃ w : Rw, avs = rwC w ∧ MaxR w := by
 obtain ⟨_, _, rfl, h1, _, _, rfl, h2, _, _, rfl, h3, _, _, rfl, h4, rfl⟩ := h
 obtain ⟨a, rfl, a1, a2⟩ := fit_rows (fun _ h => fit_ent h) h1
 obtain ⟨b, rfl, b1, b2⟩ := fit_rows (fun _ h => fit_cel h) h2
 obtain ⟨c, rfl, c1, c2⟩ := fit_rows (fun _ h => fit_acc h) h3
 obtain ⟨d, rfl, d1, d2⟩ := fit_rows (fun _ h => fit_nt h) h4
 exact ⟨⟨a, b, c, d⟩, rfl, ⟨a1, b1, c1, d1, a2, b2, c2, d2⟩⟩
theorem fit_int {avs : List AV} (h : (TT.int .i64).fit avs) : ∃ n : Int, avs = [.i .i64 n] := by
 obtain ⟨n, rfl, _⟩ := h
 exact ⟨n, rfl⟩
end Go.AM
namespace Go.Proofs.YtjpedhcgokiojaaGreat
open Go.ChangeShapes Go.WideShapes Go.ChangeAt Go.RowKit Go.AM
theorem own : ownKnob Tryz.prog.godebug = none := by kernel_rfl
theorem laidOut : laidOutB Tryz.prog = true := by kernel_rfl
set_option maxRecDepth 100000 in
theorem rawTells_lifted (os : Os) (started : os.Started) (H : Type) (enc : TypeId × Value → H) :
  ReturnsInHanded {} Tryz.checked os 6 .any (Rows.rawTellsSpec.pre6 enc Tryz.prog Tryz.f6 Rows.rawTellsRow.domain false) (Rows.rawTellsSpec.post enc Tryz.prog Tryz.f6 false true false false) := by
 refine returnsInHanded_of_change_sized (C := Tryz.checked) own started (by kernel_rfl) Tryz.func6
  (ChangeSpec.witness6 (enc := enc) (C := Tryz.checked) false ⟨#[], #[.agg #[.slice none 0 0, .slice none 0 0, .int .i64 0], .agg #[.slice none 0 0, .slice none 0 0, .slice none 0 0, .slice none 0 0], .slice none 0 0], []⟩ 8 (by kernel_rfl) (by kernel_rfl) (by kernel_rfl) (by kernel_rfl)) ?_
 intro W base args ds gs before hval0 hW hcnd hsz0 _
 have hval : ∀ (j : Nat) t v, Tryz.f6.params[j]? = some t → args[j]? = some v → Value.okWide Tryz.prog W .any base t v := hval0
 have hW' := hW
 obtain ⟨p, q, hA0, hV, rfl, hfz, hnd⟩ := hW
 have hA : DataW.TrodAll enc Tryz.prog W 0 (fun _ => true) true Tryz.f6.params.toList args.toList ds p := hA0
 rw [Tryz.params6] at hA hval
 obtain ⟨v0, vs0, d0, ds0, p0, q0, hargs, rfl, rfl, h0, r0⟩ := trodAll_cons hA
 obtain ⟨v1, vs1, d1, ds1, p1, q1, rfl, rfl, rfl, h1, r1⟩ := trodAll_cons r0
 obtain ⟨v2, vs2, d2, ds2, p2, q2, rfl, rfl, rfl, h2, r2⟩ := trodAll_cons r1
 obtain ⟨rfl, rfl, rfl⟩ := trodAll_nil r2
 obtain rfl : args = #[v0, v1, v2] := by cases args; simp_all
 obtain ⟨rfl, rfl⟩ := trodVars_none hV
 have lt0 : ∀ x ∈ p0, x.block < W.heap.size := by obtain ⟨m, hm⟩ := h0; exact DataW.trod_lt m _ _ _ hm
 have lt1 : ∀ x ∈ p1, x.block < W.heap.size := by obtain ⟨m, hm⟩ := h1; exact DataW.trod_lt m _ _ _ hm
 have lt2 : ∀ x ∈ p2, x.block < W.heap.size := by obtain ⟨m, hm⟩ := h2; exact DataW.trod_lt m _ _ _ hm
 obtain ⟨a0, f0, g0⟩ := arg_dat (tyKin) (by kernel_rfl) (hval 0 25 v0 rfl rfl) h0
 obtain ⟨k, rfl⟩ := fit_kin f0
 obtain ⟨a1, f1, g1⟩ := arg_dat (tyRaw) (by kernel_rfl) (hval 1 31 v1 rfl rfl) h1
 obtain ⟨w, rfl, hw⟩ := fit_raw f1
 obtain ⟨a2, f2, g2⟩ := arg_dat (.sl 1 (.int .i64)) (by kernel_rfl) (hval 2 35 v2 rfl rfl) h2
 obtain ⟨xs, rfl, hl2, hx⟩ := f2
 obtain ⟨c, rfl⟩ := list_of fun x hm => fit_int (hx x hm)
 clear hA0 hval0 hsz0
 rw [List.length_map] at hl2
 unfold maxLen at hl2
 refine (Pure.calls (c_RawTells k w c hw (by omega)) (w := W) (vs := #[v0, v1, v2]) rfl (fun k c hk => ?_)).mono fun e W' ⟨he, bel⟩ => ?_
 ·rcases k with _ | _ | _ | k
  ·simp at hk; subst hk; exact g0
  ·simp at hk; subst hk; exact g1
  ·simp at hk; subst hk; exact g2
  ·simp at hk
 ·subst he
  exact ⟨_, rfl, _, _, _, [], _, [], hW', trodAll_mk1 (shut_bool Tryz.underlying4 _), (trodAll_cons_mk (Below.trod laidOut (by kernel_rfl) (of_decide_eq_true (by kernel_rfl)) h0 bel lt0) (trodAll_cons_mk (Below.trod laidOut (by kernel_rfl) (of_decide_eq_true (by kernel_rfl)) h1 bel lt1) (trodAll_cons_mk (Below.trod laidOut (by kernel_rfl) (of_decide_eq_true (by kernel_rfl)) h2 bel lt2) trodAll_mk0))), rfl, bel.frame _, fun h => by cases h⟩
theorem rawTells_over : Rows.rawTellsRow.holds Tryz.pinned (OpenSpec.ofChange Rows.rawTellsSpec) :=
 OpenClaim.holds_of_wide 6 Tryz.f6 rfl rfl rfl rfl rfl rfl rfl ⟨rfl, rfl, rfl, rfl, rfl⟩ rfl rfl rfl rfl rfl (by kernel_rfl) Tryz.func6 (by kernel_rfl)
  (of_decide_eq_true (by kernel_rfl)) (by unfold Func.isWrapper; first | (rw [if_pos (by decide +kernel)]; kernel_rfl) | (rw [if_neg (by decide +kernel)]; exact ⟨rfl, rfl⟩))
  (fun os started H enc _ => rawTells_lifted os started H enc)
theorem rawTells_holds : Rows.RawTellsSaid := rawTells_over
end Go.Proofs.YtjpedhcgokiojaaGreat
