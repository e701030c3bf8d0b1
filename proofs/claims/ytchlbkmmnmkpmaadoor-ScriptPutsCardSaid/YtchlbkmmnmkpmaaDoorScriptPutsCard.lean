/- Part of a proof: contracts of functions of the given program, by abstract states. -/
import Derived.Test.YtchlbkmmnmkpmaaDoorAmF
import Derived.Test.YtchlbkmmnmkpmaaDoorAmG
import Derived.Test.YtchlbkmmnmkpmaaDoorTie
import Derived.Test.YtchlbkmmnmkpmaaDoorCards
import Derived.SevenTiedAt
set_option linter.unusedSimpArgs false
set_option linter.unusedVariables false
namespace Go.AM
open Go.Proofs
def tyAct : TT := .st [.int .i64, .int .i64, .int .i64, .int .i64, .str, .str, .int .i64, .sl 1 (.int .i64)]
def RngI (n : Int) : Prop := IntKind.i64.min ≤ n ∧ n ≤ IntKind.i64.max
theorem fit_ints {xs : List (List AV)} (h : ∀ x ∈ xs, (TT.int .i64).fit x) : ∃ l : List Int, xs = intsAV l ∧ ∀ n ∈ l, RngI n := by
  induction xs with
  | nil => exact ⟨[], rfl, fun n hn => by cases hn⟩
  | cons x xs ih =>
    obtain ⟨l, rfl, hl⟩ := ih fun y hy => h y (by simp [hy])
    obtain ⟨n, rfl, hn⟩ := h x (by simp)
    exact ⟨n :: l, rfl, fun m hm => by rcases List.mem_cons.1 hm with rfl | hm; exact hn; exact hl m hm⟩
structure Rng (a : Sact) : Prop where
  rep : RngI a.rep
  to : RngI a.to
  of : RngI a.of
  n : RngI a.n
  all : ∀ x ∈ a.keep, RngI x
theorem fit_act {avs : List AV} (h : tyAct.fit avs) : ∃ a : Sact, avs = sactC a ∧ Rng a := by
  obtain ⟨_, _, rfl, ⟨k, rfl, h1⟩, _, _, rfl, ⟨r, rfl, h2⟩, _, _, rfl, ⟨t, rfl, h3⟩, _, _, rfl, ⟨o, rfl, h4⟩, _, _, rfl, ⟨ky, rfl, _⟩, _, _, rfl, ⟨w, rfl, _⟩, _, _, rfl, ⟨n, rfl, h7⟩, _, _, rfl, ⟨xs, rfl, _, hx⟩, rfl⟩ := h
  obtain ⟨l, rfl, hl⟩ := fit_ints hx
  exact ⟨⟨k, r, t, o, ky.data.toList, w.data.toList, n, l⟩, by simp [sactC, ← tx_of], ⟨h2, h3, h4, h7, hl⟩⟩
theorem fit_acts {xs : List (List AV)} (h : ∀ x ∈ xs, tyAct.fit x) : ∃ l : List Sact, xs = sactsAV l ∧ ∀ a ∈ l, Rng a := by
  induction xs with
  | nil => exact ⟨[], rfl, fun n hn => by cases hn⟩
  | cons x xs ih =>
    obtain ⟨l, rfl, hl⟩ := ih fun y hy => h y (by simp [hy])
    obtain ⟨a, rfl, ha⟩ := fit_act (h x (by simp))
    exact ⟨a :: l, rfl, fun m hm => by rcases List.mem_cons.1 hm with rfl | hm; exact ha; exact hl m hm⟩
theorem rng_in {L : List Sact} (h : ∀ a ∈ L, Rng a) : ∀ a ∈ L, lightS L = true → InR a := fun a ha hl => by
  obtain ⟨h1, h2, h3, h4, h5⟩ := h a ha
  obtain ⟨g1, g2, g3⟩ := ((light_iff L).1 hl).2 a ha
  unfold RngI at *
  simp only [IntKind.min, IntKind.max, IntKind.signed, IntKind.bits] at *
  exact ⟨by simpa using h1, by simpa using h2, by simpa using h3, by simpa using h4, by omega, by omega, by omega, fun x hx => by simpa using h5 x hx⟩
end Go.AM

namespace Go.Proofs.YtchlbkmmnmkpmaaDoor
open Go.ChangeShapes Go.WideShapes Go.ChangeAt Go.RowKit Go.AM

set_option maxRecDepth 100000 in
theorem scriptPuts_lifted (os : Os) (started : os.Started) (H : Type) (enc : TypeId × Value → H) :
    ReturnsInHanded {} Tryd.checked os 5 .any (fun w args => (Rows.scriptPutsSpec.pre enc Tryd.prog Tryd.f5 Rows.scriptPutsRow.domain false w args ∧ laidMetH Tryd.prog laidL w) ∧ sizedMet enc Tryd.prog Tryd.f5 (OpenSpec.ofChange Rows.scriptPutsSpec) false w args)
      (Rows.scriptPutsSpec.post enc Tryd.prog Tryd.f5 false true false false) := by
  refine handed_both (C := Tryd.checked) (X := fun w _ => laidMetH Tryd.prog laidL w) (fun _ _ _ hh h => h.of_heap hh) own started (by kernel_rfl) Tryd.func5
    (ChangeSpec.witness_shaped (enc := enc) (C := Tryd.checked) (os := os) (X := fun w _ => laidMetH Tryd.prog laidL w) false (World.laidAll Tryd.prog os laidL) #[.slice none 0 0, .slice none 0 0] 8 (World.laidAll_os _ _ _)
      (World.shaped_of_ZipB (by kernel_rfl) (by kernel_rfl)) (by kernel_rfl) (by kernel_rfl) (by kernel_rfl)
      (by rw [MakeChecks.laidMetH_plain _ _ _ (by kernel_rfl)]; exact laidMet_laidAll _ (by kernel_rfl) (by kernel_rfl))) ?_
  intro W base args ds gs before hval0 hW hL hsh
  have hval : ∀ (j : Nat) t v, Tryd.f5.params[j]? = some t → args[j]? = some v → Value.okWide Tryd.prog W .any base t v := hval0
  have hW' := hW
  obtain ⟨p, q, hA0, hV, rfl, hfz, hnd⟩ := hW
  have hA : DataW.TrodAll enc Tryd.prog W 0 (fun _ => true) true Tryd.f5.params.toList args.toList ds p := hA0
  rw [Tryd.params5] at hA hval
  obtain ⟨v0, vs0, d0, ds0, p0, q0, hargs, rfl, rfl, h0, r0⟩ := trodAll_cons hA
  obtain ⟨v1, vs1, d1, ds1, p1, q1, rfl, rfl, rfl, h1, r1⟩ := trodAll_cons r0
  obtain ⟨rfl, rfl, rfl⟩ := trodAll_nil r1
  obtain rfl : args = #[v0, v1] := by cases args; simp_all
  obtain ⟨rfl, rfl⟩ := trodVars_none hV
  have lt0 : ∀ x ∈ p0, x.block < W.heap.size := by obtain ⟨m, hm⟩ := h0; exact DataW.trod_lt m _ _ _ hm
  have lt1 : ∀ x ∈ p1, x.block < W.heap.size := by obtain ⟨m, hm⟩ := h1; exact DataW.trod_lt m _ _ _ hm
  obtain ⟨a0, f0, g0⟩ := arg_dat (.sl 8 tyAct) (by kernel_rfl) (hval 0 23 v0 rfl rfl) h0
  obtain ⟨xs, rfl, _, hx⟩ := f0
  obtain ⟨L, rfl, hR⟩ := fit_acts hx
  rw [show (TT.sl 8 tyAct).wrap [AV.sl .fro 8 (sactsAV L)] = AV.sl .fro 8 (sactsAV L) from rfl] at g0
  obtain ⟨a1, f1, g1⟩ := arg_dat (.sl 8 tyAct) (by kernel_rfl) (hval 1 23 v1 rfl rfl) h1
  obtain ⟨ys, rfl, _, hy⟩ := f1
  obtain ⟨M, rfl, _⟩ := fit_acts hy
  rw [show (TT.sl 8 tyAct).wrap [AV.sl .fro 8 (sactsAV M)] = AV.sl .fro 8 (sactsAV M) from rfl] at g1
  have hG := gl_of hL hsh
  clear hA0 hval0
  refine (Pure.calls (c_ScriptPuts L M (rng_in hR)) (w := W) (vs := #[v0, v1]) rfl (fun k c hk => ?_) hG).mono fun e W' ⟨he, bel⟩ => ?_
  · rcases k with _ | _ | k
    · simp at hk; subst hk; exact g0
    · simp at hk; subst hk; exact g1
    · simp at hk
  · subst he
    exact ⟨_, rfl, _, _, _, [], _, [], hW', trodAll_mk1 (shut_bool Tryd.underlying4 _), (trodAll_cons_mk (Below.trod laidOut (by kernel_rfl) (of_decide_eq_true (by kernel_rfl)) h0 bel lt0) (trodAll_cons_mk (Below.trod laidOut (by kernel_rfl) (of_decide_eq_true (by kernel_rfl)) h1 bel lt1) trodAll_mk0)), rfl, bel.frame _, fun h => by cases h⟩

theorem scriptPuts_over : Rows.scriptPutsRow.holds Tryd.pinned (OpenSpec.ofChange Rows.scriptPutsSpec) :=
  OpenClaim.holds_of_wide 5 Tryd.f5 rfl rfl rfl rfl rfl rfl rfl ⟨rfl, rfl, rfl, rfl, rfl⟩ rfl rfl rfl rfl rfl (by kernel_rfl) Tryd.func5 (by kernel_rfl)
    (of_decide_eq_true (by kernel_rfl)) (by unfold Func.isWrapper; first | (rw [if_pos (by decide +kernel)]; kernel_rfl) | (rw [if_neg (by decide +kernel)]; exact ⟨rfl, rfl⟩))
    (fun os started H enc _ => scriptPuts_lifted os started H enc)

theorem scriptPuts_holds : Rows.ScriptPutsCardSaid :=
  Claim7.holds_tied_plain_at .later [] [.data, .data, .data, .data, .sentinel, .sentinel, .pinned] true (true, "a038e838ec35d0249d30ddf1868697644a06bb6ac5a01309ed91546283f41274") true
    scriptPuts_over (fun _ h => by cases h) (by kernel_rfl) (fun _ h => by cases h) scriptPuts_row_tie rfl ⟨rfl, rfl⟩ (by kernel_rfl) rfl
    (fun f fn hf hfn => by
      obtain rfl : f = 5 := Option.some.inj ((show Tryd.prog.funcNamed "huckster/hucksterlaw33.ScriptPuts" = some 5 by kernel_rfl).symm.trans hf) |>.symm
      obtain rfl : fn = Tryd.f5 := (Option.some.inj (Tryd.func5.symm.trans hfn)).symm
      exact ⟨by kernel_rfl, fun j t ht => by
        rw [Tryd.params5] at ht
        rcases j with _ | _ | j
        · obtain rfl : t = 23 := by simpa using ht.symm
          exact (show Tryd.prog.wantsStandIn 23 = false by kernel_rfl)
        · obtain rfl : t = 23 := by simpa using ht.symm
          exact (show Tryd.prog.wantsStandIn 23 = false by kernel_rfl)
        · simp at ht⟩)
    (by kernel_rfl)
end Go.Proofs.YtchlbkmmnmkpmaaDoor
