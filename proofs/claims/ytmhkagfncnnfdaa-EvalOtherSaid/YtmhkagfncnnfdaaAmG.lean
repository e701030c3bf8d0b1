/- Layer 19: EvalOther. -/
import Derived.Test.YtmhkagfncnnfdaaAmF
import Derived.Test.YtmhkagfncnnfdaaAmD
import Derived.ChangeArms
import Derived.ChangeOld
import Derived.ChangeShapes
import Derived.Below
import Derived.SizedLaws
import Derived.Carry
import Derived.OpenShut
import Derived.WideShapes
set_option linter.unusedSimpArgs false
set_option linter.unusedVariables false
namespace Go.AM
open Go.Proofs
theorem thereS_at {l : List ByteArray} {k : ByteArray} (h : thereS l k = true) : ∃ hp : placeS l k < l.length, l[placeS l k] = k := by
  have hp := thereS_lt h
  refine ⟨hp, ?_⟩
  unfold thereS at h
  rw [List.getElem?_eq_getElem hp] at h
  exact eqK_eq.1 h
theorem drop_cut {α : Type} (l : List α) (i : Nat) (h : i < l.length) : l = l.take i ++ l[i] :: l.drop (i + 1) := by
  rw [← List.drop_eq_getElem_cons h, List.take_append_drop]
theorem putT_other (l : List ByteArray) (k x : ByteArray) (is : Bool) (hx : x ≠ k) : hasS (putT l k is) x = hasS l x := by
  rw [Bool.eq_iff_iff, hasS_iff, hasS_iff]
  unfold putT
  split
  · rw [List.mem_append, List.mem_cons]
    constructor
    · rintro (h | rfl | h)
      · exact List.mem_of_mem_take h
      · exact absurd rfl hx
      · exact List.mem_of_mem_drop h
    · intro h
      rw [← List.take_append_drop (placeS l k) l, List.mem_append] at h
      exact h.imp id .inr
  · split
    · rename_i h2
      simp only [Bool.and_eq_true] at h2
      obtain ⟨hp, he⟩ := thereS_at h2.2
      conv => rhs; rw [drop_cut l _ hp]
      rw [he, List.mem_append, List.mem_append, List.mem_cons]
      constructor
      · rintro (h | h)
        · exact .inl h
        · exact .inr (.inr h)
      · rintro (h | rfl | h)
        · exact .inl h
        · exact absurd rfl hx
        · exact .inr h
    · rfl
theorem getN_app (a b : List Cel) (x : ByteArray) : getN (a ++ b) x = match a.find? (fun c => eqK c.key x) with | some c => c.num | none => getN b x := by
  unfold getN
  rw [List.find?_append]
  cases a.find? (fun c => eqK c.key x) <;> rfl
theorem getN_skip {c : Cel} {b : List Cel} {x : ByteArray} (h : eqK c.key x = false) : getN (c :: b) x = getN b x := by
  unfold getN
  rw [List.find?_cons, h]
theorem eqK_ne {a b : ByteArray} (h : a ≠ b) : eqK a b = false := by rw [Bool.eq_false_iff]; exact fun e => h (eqK_eq.1 e)
theorem thereC_at {l : List Cel} {k : ByteArray} (h : thereS (celKeys l) k = true) : ∃ hp : placeS (celKeys l) k < l.length, l[placeS (celKeys l) k].key = k := by
  obtain ⟨hp, he⟩ := thereS_at h
  have hp' : placeS (celKeys l) k < l.length := by simpa using hp
  refine ⟨hp', ?_⟩
  simpa [celKeys] using he
theorem moreT_other (l : List Cel) (k x : ByteArray) (n : Int) (hx : x ≠ k) : getN (moreT l k n) x = getN l x := by
  have hk : eqK k x = false := eqK_ne fun e => hx e.symm
  unfold moreT
  split
  · rw [getN_app, getN_skip hk]
    conv => rhs; rw [← List.take_append_drop (placeS (celKeys l) k) l, getN_app]
  · rename_i h1
    have ht : thereS (celKeys l) k = true := by simpa using h1
    obtain ⟨hp, he⟩ := thereC_at ht
    rw [List.getElem?_eq_getElem hp]
    simp only
    split
    · rw [getN_app]
      conv => rhs; rw [drop_cut l _ hp, getN_app, getN_skip (by rw [he]; exact hk)]
    · rw [List.set_eq_take_append_cons_drop, if_pos hp, getN_app, getN_skip (by rw [he]; exact hk)]
      conv => rhs; rw [drop_cut l _ hp, getN_app, getN_skip (by rw [he]; exact hk)]
theorem doStep_in (k x : ByteArray) (hx : x ≠ k) (s : Sta) (d : Dg) (n : Int) : inOf (doStep k s d) n x = inOf s n x := by
  have hl := (doStep_lens k s d).1
  unfold inOf
  rw [hl]
  by_cases hn : 0 ≤ n ∧ n < s.sets.length
  · simp only [hn.1, hn.2, decide_true, Bool.true_and]
    unfold doStep
    split
    · simp only
      rw [List.getD_eq_getElem?_getD, List.getD_eq_getElem?_getD, List.getElem?_set]
      split
      · rename_i he
        rw [if_pos (by omega), Option.getD_some, putT_other _ _ _ _ hx, setOf, he, List.getD_eq_getElem?_getD]
      · rfl
    · split
      · rfl
      · split <;> rfl
  · have : (decide (0 ≤ n) && decide (n < (s.sets.length : Int))) = false := by
      rw [Bool.and_eq_false_iff, decide_eq_false_iff_not, decide_eq_false_iff_not]; omega
    rw [this, Bool.false_and, Bool.false_and]
theorem count_set {l : List (List Cel)} {a b : Nat} {x : ByteArray} {v : List Cel} (hb : b < l.length) (h : getN v x = getN (l.getD a []) x) : getN ((l.set a v).getD b []) x = getN (l.getD b []) x := by
  rw [List.getD_eq_getElem?_getD, List.getElem?_set]
  split
  · rename_i he
    subst he
    rw [if_pos hb, Option.getD_some, h]
  · rw [List.getD_eq_getElem?_getD]
theorem doStep_num (k x : ByteArray) (hx : x ≠ k) (s : Sta) (d : Dg) (n : Int) : numOf (doStep k s d) n x = numOf s n x := by
  have hl := (doStep_lens k s d).2
  unfold numOf
  rw [hl]
  split
  · rename_i hn
    unfold doStep
    split
    · rfl
    · split
      · exact count_set (by omega) (moreT_other _ _ _ _ hx)
      · split
        · exact count_set (by omega) (moreT_other _ _ _ _ hx)
        · rfl
  · rfl
theorem doTo_other (k x : ByteArray) (hx : x ≠ k) (l : List Dg) : ∀ (s : Sta) (n : Int), inOf (doTo k s l) n x = inOf s n x ∧ numOf (doTo k s l) n x = numOf s n x := by
  induction l with
  | nil => exact fun s n => ⟨rfl, rfl⟩
  | cons d l ih =>
    intro s n
    have h := ih (doStep k s d) n
    exact ⟨h.1.trans (doStep_in k x hx s d n), h.2.trans (doStep_num k x hx s d n)⟩
theorem stateB_few {r : Rul} {s : Sta} (hr : rulesB r = true) (h : stateB r s = true) : Few s := by
  have hb := stateB_bd h
  simp only [rulesB, headB, lensB, Bool.and_eq_true, Bool.not_eq_true', decide_eq_false_iff_not] at hr
  simp only [stateB, Bool.and_eq_true, decide_eq_true_eq] at h
  obtain ⟨⟨⟨⟨⟨⟨⟨⟨h1, h2⟩, h3⟩, h4⟩, h5⟩, -⟩, -⟩, -⟩, -⟩ := hr
  obtain ⟨⟨⟨e1, e2⟩, -⟩, -⟩ := h
  have m1 := flat_le_mul 4000 _ hb.1
  have m2 := flat_le_mul 4000 _ fun l hl => (hb.2 l hl).1
  exact ⟨hb.slight (by omega) (by omega) (by omega), by omega, by omega⟩
theorem doRes_ok {r : Rul} {s : Sta} {o : Int} {k : ByteArray} (h : (doRes r s o k).2 = 0) : okB r s = true ∧ ∃ l, (doRes r s o k).1 = doTo k s l ∧ stateB r (doTo k s l) = true := by
  unfold doRes at h ⊢
  split at h
  · rename_i h1
    simp only [Bool.and_eq_true] at h1
    refine ⟨h1.1, ?_⟩
    rw [if_pos (by simp [h1])]
    split at h
    · rename_i p hp
      split at h
      · rename_i h2
        refine ⟨p.does, ?_, h2⟩
        rw [if_pos h2]
      · cases h
    · cases h
  · cases h
set_option maxRecDepth 8000 in
set_option maxHeartbeats 16000000 in
theorem c_EvalOther (r : Rul) (s : Sta) (t : Int) (key : ByteArray) (n : Int) (n1 : s.sets.length ≤ 9223372036854775807) (n2 : s.counts.length ≤ 9223372036854775807) (n3 : ∀ l ∈ s.sets, l.length ≤ 9223372036854775807) (n4 : ∀ l ∈ s.counts, l.length ≤ 9223372036854775807) : Pure Try.prog 4 [.agg (rulC r), .agg (staC s), .agg [.i .i64 t, .s key, .i .i64 n]] (.b true) := by
  have g0 := c_law16_Light r
  have g0' := c_law19_Light s n1 n2 n3 n4
  have gw := c_law19_awake
  simp [rulC, staC] at g0 g0'
  refine proc_of (cx Try.prog 97 [3, 4, 5, 6, 7, 8, 9, 10, 11, 25, 38, 48, 61, 95] [6]) 94 [.tmp 6] Try.func4 rfl rfl rfl rfl rfl rfl (Nat.le_refl _) rfl ?_
  refine AWp.go [3, 4, 5] [3, 4, 5] fun K hK => ?_
  simp [rulC, staC]
  first | refine hK _ _ ?_ | refine ⟨by omega, hK _ _ ?_⟩ | refine ⟨by omega, by omega, hK _ _ ?_⟩
  clear hK K
  refine AWp.seq ?_
  refine AWp.step [3, 4, 5, 25] [3, 4, 5] [(3, .ptr 3 0), (4, .ptr 4 0), (5, .ptr 5 0), (25, .b (!(slimB r && lightS s && !decide ((100 : Int) < key.size))))] [(3, [.sl .fro 1 (strsAV r.sets), .sl .fro 1 (strsAV r.counts), .sl .fro 1 (strsAV r.notes), .sl .fro 5 (clsAV r.cls), .sl .fro 2 (opnsAV r.opers)]), (4, [.sl .fro 1 (rowsS s.sets), .sl .fro 1 (rowsK s.counts)]), (5, [.i .i64 t, .s key, .i .i64 n])] ?_ ?_
  · simp
    refine call_pure g0 (by simp) ?_
    cases q1 : slimB r
    · simp
    simp
    refine call_pure g0' (by simp) ?_
    cases q2 : lightS s
    · simp
    · simp
  cases hg : slimB r && lightS s && !decide ((100 : Int) < key.size)
  · refine AWp.cond (t := true) (by simp) (fun _ => ?_) (by simp)
    refine AWp.go [6] [4, 5] fun K hK => ?_
    simp
    refine call_pure gw (by simp) ?_
    simp
    first | refine hK _ _ ?_ | refine ⟨by omega, hK _ _ ?_⟩ | refine ⟨by omega, by omega, hK _ _ ?_⟩
    clear hK K
    refine AWp.ret ?_
    simp
  · refine AWp.cond (t := false) (by simp) (by simp) (fun _ => ?_)
    refine AWp.skip ?_
    show AWp _ _ _ _
    have hL : slimB r = true ∧ lightS s = true := by
      simp only [Bool.and_eq_true] at hg
      exact ⟨hg.1.1, hg.1.2⟩
    have hr := slim_of hL.1
    have hf := few_of hL.2
    have hs := hf.1
    clear g0 g0'
    have gD := (c_eval_Do r s hr hs n key).fro
    have hok := fun h => doRes_ok (r := r) (s := s) (o := n) (k := key) h
    obtain ⟨T, hT⟩ : ∃ T, T = (doRes r s n key).1 := ⟨_, rfl⟩
    obtain ⟨e, he⟩ : ∃ e, e = (doRes r s n key).2 := ⟨_, rfl⟩
    rw [← hT, ← he] at gD hok
    simp [rulC, staC] at gD
    refine AWp.go [4, 5, 7, 8] [4, 5, 7] fun K hK => ?_
    simp
    refine call_pure gD (by simp) ?_
    simp
    first | refine hK _ _ ?_ | refine ⟨by omega, hK _ _ ?_⟩ | refine ⟨by omega, by omega, hK _ _ ?_⟩
    clear hK K
    refine AWp.seq ?_
    refine AWp.step [4, 5, 7, 38] [4, 5, 7] [(4, .ptr 4 0), (5, .ptr 5 0), (7, .ptr 7 0), (38, .b (!decide (e = 0)))] [(4, [.sl .fro 1 (rowsS s.sets), .sl .fro 1 (rowsK s.counts)]), (5, [.i .i64 t, .s key, .i .i64 n]), (7, [.sl .fro 1 (rowsS T.sets), .sl .fro 1 (rowsK T.counts)])] ?_ ?_
    · simp
    cases h0 : decide (e = 0)
    · refine AWp.cond (t := true) (by simp) (fun _ => ?_) (by simp)
      refine AWp.go [6] [4, 5] fun K hK => ?_
      simp
      refine call_pure gw (by simp) ?_
      simp
      first | refine hK _ _ ?_ | refine ⟨by omega, hK _ _ ?_⟩ | refine ⟨by omega, by omega, hK _ _ ?_⟩
      clear hK K
      refine AWp.ret ?_
      simp
    · refine AWp.cond (t := false) (by simp) (by simp) (fun _ => ?_)
      refine AWp.skip ?_
      show AWp _ _ _ _
      obtain ⟨hoB, ds, hTd, hsT⟩ := hok (by simpa using h0)
      have hrB : rulesB r = true := by simp only [okB, Bool.and_eq_true] at hoB; exact hoB.1
      rw [← hTd] at hsT
      have hfT := stateB_few hrB hsT
      have hsT1 := hfT.1
      have hO := fun (x : ByteArray) (hx : x ≠ key) (i : Int) => doTo_other key x hx ds s i
      rw [← hTd] at hO
      have gk := c_ref19_Keys s hf
      have gkT := c_ref19_Keys T hfT
      have gI := fun (i : Int) (x : ByteArray) => c_eval_In s hs i x
      have gIT := fun (i : Int) (x : ByteArray) => c_eval_In T hsT1 i x
      have gN := fun (i : Int) (x : ByteArray) => c_eval_Number s hs i x
      have gNT := fun (i : Int) (x : ByteArray) => c_eval_Number T hsT1 i x
      have hk1 := keysS_len hf
      have hk2 := keysS_len hfT
      simp [staC] at gk gkT gI gIT gN gNT
      refine AWp.stepT (.alt 0 (.alt 1 (.alt 2 (.alt 3 (.alt 4 (.take 5 .fin) .stop) .stop) .stop) (.alt 2 (.alt 1 (.alt 3 (.alt 4 (.take 5 .fin) .stop) .stop) .stop) .stop)) (.alt 2 (.alt 0 (.alt 1 (.alt 3 (.alt 4 (.take 5 .fin) .stop) .stop) .stop) .stop) .stop)) [4, 5, 7, 9] [4, 5, 7] [(4, .ptr 4 0), (5, .ptr 5 0), (7, .ptr 7 0), (9, .sl .own 1 (strsAV (keysS s ++ keysS T)))] [(4, [.sl .fro 1 (rowsS s.sets), .sl .fro 1 (rowsK s.counts)]), (5, [.i .i64 t, .s key, .i .i64 n]), (7, [.sl .fro 1 (rowsS T.sets), .sl .fro 1 (rowsK T.counts)])] mix (by kernel_rfl) ?_ ?_
      · refine atree.al (fun K1 h1 => ?_) ?_
        · simp
          first | refine h1 _ _ ?_ | refine ⟨by omega, h1 _ _ ?_⟩ | refine ⟨by omega, by omega, h1 _ _ ?_⟩
          clear h1 K1
          refine atree.al (fun K1 h1 => ?_) ?_
          · simp
            refine call_pure gk (by simp) ?_
            simp
            first | refine h1 _ _ ?_ | refine ⟨by omega, h1 _ _ ?_⟩ | refine ⟨by omega, by omega, h1 _ _ ?_⟩
            clear h1 K1
            refine atree.a1 fun K1 h1 => ?_
            simp
            first | refine h1 _ _ ?_ | refine ⟨by omega, h1 _ _ ?_⟩ | refine ⟨by omega, by omega, h1 _ _ ?_⟩
            clear h1 K1
            refine atree.a1 fun K1 h1 => ?_
            simp
            refine call_pure gkT (by simp) ?_
            simp
            first | refine h1 _ _ ?_ | refine ⟨by omega, h1 _ _ ?_⟩ | refine ⟨by omega, by omega, h1 _ _ ?_⟩
            clear h1 K1
            refine atree.a1 fun K1 h1 => ?_
            simp
            refine ⟨by omega, ?_⟩
            first | refine h1 _ _ ?_ | refine ⟨by omega, h1 _ _ ?_⟩ | refine ⟨by omega, by omega, h1 _ _ ?_⟩
            clear h1 K1
            refine atree.tk fun K1 h1 => ?_
            simp
            first | refine h1 _ _ ?_ | refine ⟨by omega, h1 _ _ ?_⟩ | refine ⟨by omega, by omega, h1 _ _ ?_⟩
            clear h1 K1
            simp
          · refine atree.a1 fun K1 h1 => ?_
            simp
            first | refine h1 _ _ ?_ | refine ⟨by omega, h1 _ _ ?_⟩ | refine ⟨by omega, by omega, h1 _ _ ?_⟩
            clear h1 K1
            refine atree.a1 fun K1 h1 => ?_
            simp
            refine call_pure gk (by simp) ?_
            simp
            first | refine h1 _ _ ?_ | refine ⟨by omega, h1 _ _ ?_⟩ | refine ⟨by omega, by omega, h1 _ _ ?_⟩
            clear h1 K1
            refine atree.a1 fun K1 h1 => ?_
            simp
            refine call_pure gkT (by simp) ?_
            simp
            first | refine h1 _ _ ?_ | refine ⟨by omega, h1 _ _ ?_⟩ | refine ⟨by omega, by omega, h1 _ _ ?_⟩
            clear h1 K1
            refine atree.a1 fun K1 h1 => ?_
            simp
            refine ⟨by omega, ?_⟩
            first | refine h1 _ _ ?_ | refine ⟨by omega, h1 _ _ ?_⟩ | refine ⟨by omega, by omega, h1 _ _ ?_⟩
            clear h1 K1
            refine atree.tk fun K1 h1 => ?_
            simp
            first | refine h1 _ _ ?_ | refine ⟨by omega, h1 _ _ ?_⟩ | refine ⟨by omega, by omega, h1 _ _ ?_⟩
            clear h1 K1
            simp
        · refine atree.a1 fun K1 h1 => ?_
          simp
          first | refine h1 _ _ ?_ | refine ⟨by omega, h1 _ _ ?_⟩ | refine ⟨by omega, by omega, h1 _ _ ?_⟩
          clear h1 K1
          refine atree.a1 fun K1 h1 => ?_
          simp
          first | refine h1 _ _ ?_ | refine ⟨by omega, h1 _ _ ?_⟩ | refine ⟨by omega, by omega, h1 _ _ ?_⟩
          clear h1 K1
          refine atree.a1 fun K1 h1 => ?_
          simp
          refine call_pure gk (by simp) ?_
          simp
          first | refine h1 _ _ ?_ | refine ⟨by omega, h1 _ _ ?_⟩ | refine ⟨by omega, by omega, h1 _ _ ?_⟩
          clear h1 K1
          refine atree.a1 fun K1 h1 => ?_
          simp
          refine call_pure gkT (by simp) ?_
          simp
          first | refine h1 _ _ ?_ | refine ⟨by omega, h1 _ _ ?_⟩ | refine ⟨by omega, by omega, h1 _ _ ?_⟩
          clear h1 K1
          refine atree.a1 fun K1 h1 => ?_
          simp
          refine ⟨by omega, ?_⟩
          first | refine h1 _ _ ?_ | refine ⟨by omega, h1 _ _ ?_⟩ | refine ⟨by omega, by omega, h1 _ _ ?_⟩
          clear h1 K1
          refine atree.tk fun K1 h1 => ?_
          simp
          first | refine h1 _ _ ?_ | refine ⟨by omega, h1 _ _ ?_⟩ | refine ⟨by omega, by omega, h1 _ _ ?_⟩
          clear h1 K1
          simp
      obtain ⟨L, hL2⟩ : ∃ L, L = keysS s ++ keysS T := ⟨_, rfl⟩
      have hLl : L.length ≤ 400000 := by rw [hL2, List.length_append]; omega
      rw [← hL2]
      refine AWp.seq ?_
      refine AWp.go [4, 5, 7, 9, 10] [4, 5, 7] fun K hK => ?_
      simp
      first | refine hK _ _ ?_ | refine ⟨by omega, hK _ _ ?_⟩ | refine ⟨by omega, by omega, hK _ _ ?_⟩
      clear hK K
      refine AWp.block (AWp.while (fun i : Nat => [(4, .ptr 4 0), (5, .ptr 5 0), (7, .ptr 7 0), (9, .sl .own 1 (strsAV L)), (10, .i .i64 i)]) (fun i => [(4, [.sl .fro 1 (rowsS s.sets), .sl .fro 1 (rowsK s.counts)]), (5, [.i .i64 t, .s key, .i .i64 n]), (7, [.sl .fro 1 (rowsS T.sets), .sl .fro 1 (rowsK T.counts)])]) (fun i => i ≤ L.length) (fun i => L.length - i) [4, 5, 7, 9, 10] [4, 5, 7] 0 (by simp) (by simp) ?_)
      intro i hi
      refine AWp.seq ?_
      refine AWp.go [4, 5, 7, 9, 10, 48] [4, 5, 7] fun K hK => ?_
      simp
      first | refine hK _ _ ?_ | refine ⟨by omega, hK _ _ ?_⟩ | refine ⟨by omega, by omega, hK _ _ ?_⟩
      clear hK K
      by_cases h : i < L.length
      · refine AWp.cond (t := true) (by first | (simp [h]; done) | (simp [h]; omega)) (fun _ => ?_) (by simp)
        refine AWp.skip ?_
        show AWp _ _ _ _
        refine AWp.seq ?_
        refine AWp.block ?_
        refine AWp.go [4, 5, 7, 9, 10, 11] [4, 5, 7] fun K hK => ?_
        simp
        first | refine hK _ _ ?_ | refine ⟨by omega, hK _ _ ?_⟩ | refine ⟨by omega, by omega, hK _ _ ?_⟩
        clear hK K
        refine AWp.block (AWp.while (fun j : Nat => [(4, .ptr 4 0), (5, .ptr 5 0), (7, .ptr 7 0), (9, .sl .own 1 (strsAV L)), (10, .i .i64 i), (11, .i .i64 j)]) (fun j => [(4, [.sl .fro 1 (rowsS s.sets), .sl .fro 1 (rowsK s.counts)]), (5, [.i .i64 t, .s key, .i .i64 n]), (7, [.sl .fro 1 (rowsS T.sets), .sl .fro 1 (rowsK T.counts)])]) (fun j => j ≤ 6) (fun j => 6 - j) [4, 5, 7, 9, 10, 11] [4, 5, 7] 0 (by simp) (by simp) ?_)
        intro j hj
        refine AWp.seq ?_
        refine AWp.stepD 11 (fun _ => .any) [4, 5, 7, 9, 10, 11, 61] [4, 5, 7] [(4, .ptr 4 0), (5, .ptr 5 0), (7, .ptr 7 0), (9, .sl .own 1 (strsAV L)), (10, .i .i64 i), (11, .i .i64 j), (61, .b (decide ((j : Int) < 6) && !eqK L[i] key))] [(4, [.sl .fro 1 (rowsS s.sets), .sl .fro 1 (rowsK s.counts)]), (5, [.i .i64 t, .s key, .i .i64 n]), (7, [.sl .fro 1 (rowsS T.sets), .sl .fro 1 (rowsK T.counts)])] mix (by kernel_rfl) ?_ ?_
        · by_cases q : (j : Int) < 6 <;> simp [q, h, eqK]
        cases hc : decide ((j : Int) < 6) && !eqK L[i] key
        · refine AWp.cond (t := false) (by simp) (by simp) (fun _ => ?_)
          refine AWp.exit ?_
          show AWp _ _ _ _
          refine AWp.goLast [4, 5, 7, 9, 10] [4, 5, 7] fun K hK => ?_
          simp
          first | refine hK _ _ ?_ | refine ⟨by omega, hK _ _ ?_⟩ | refine ⟨by omega, by omega, hK _ _ ?_⟩
          clear hK K
          refine ⟨i + 1, by omega, by omega, ?_⟩
          simp
          exact wrap64 (by omega) (by omega)
        · refine AWp.cond (t := true) (by simp) (fun _ => ?_) (by simp)
          refine AWp.skip ?_
          show AWp _ _ _ _
          refine AWp.seq ?_
          refine AWp.block ?_
          simp only [Bool.and_eq_true, decide_eq_true_eq, Bool.not_eq_true'] at hc
          have hne : L[i] ≠ key := fun e => by rw [eqK_eq.2 e] at hc; cases hc.2
          have hO1 := hO L[i] hne j
          have g1 := gI j L[i]
          have g2 := gIT j L[i]
          have g3 := gN j L[i]
          have g4 := gNT j L[i]
          rw [hO1.1] at g2
          rw [hO1.2] at g4
          refine AWp.stepD 32 (fun k => if k = 6 ∨ k = 13 then .b (inOf s j L[i]) else if k = 22 ∨ k = 29 then .i .i64 (numOf s j L[i]) else .any) [4, 5, 7, 9, 10, 11, 95] [4, 5, 7] [(4, .ptr 4 0), (5, .ptr 5 0), (7, .ptr 7 0), (9, .sl .own 1 (strsAV L)), (10, .i .i64 i), (11, .i .i64 j), (95, .b false)] [(4, [.sl .fro 1 (rowsS s.sets), .sl .fro 1 (rowsK s.counts)]), (5, [.i .i64 t, .s key, .i .i64 n]), (7, [.sl .fro 1 (rowsS T.sets), .sl .fro 1 (rowsK T.counts)])] mix (by kernel_rfl) ?_ ?_
          · simp [h, g1, g2, g3, g4]
          refine AWp.cond (t := false) (by first | (simp; done) | (simp; omega)) (by simp) (fun _ => ?_)
          refine AWp.skip ?_
          show AWp _ _ _ _
          refine AWp.goLast [4, 5, 7, 9, 10, 11] [4, 5, 7] fun K hK => ?_
          simp
          first | refine hK _ _ ?_ | refine ⟨by omega, hK _ _ ?_⟩ | refine ⟨by omega, by omega, hK _ _ ?_⟩
          clear hK K
          refine ⟨j + 1, by omega, by omega, ?_⟩
          simp
          exact wrap64 (by omega) (by omega)
      · refine AWp.cond (t := false) (by first | (simp [h]; done) | (simp [h]; omega)) (by simp) (fun _ => ?_)
        refine AWp.exit ?_
        show AWp _ _ _ _
        refine AWp.go [6] [4, 5] fun K hK => ?_
        simp
        refine call_pure gw (by simp) ?_
        simp
        first | refine hK _ _ ?_ | refine ⟨by omega, hK _ _ ?_⟩ | refine ⟨by omega, by omega, hK _ _ ?_⟩
        clear hK K
        refine AWp.ret ?_
        simp
end Go.AM
namespace Go.AM

inductive TT where
  | int (k : IntKind)
  | bool
  | str
  | sl (sz : Nat) (e : TT)
  | st (fs : List TT)

mutual
def TT.size : TT → Nat
  | .st fs => TT.sizeL fs
  | _ => 1
def TT.sizeL : List TT → Nat
  | [] => 0
  | f :: fs => f.size + TT.sizeL fs
end

mutual
/-- Is it the shape of a type? -/
def TT.isAt (P : Program) : TT → TypeId → Bool
  | .int k, t => match P.underlying t with
    | some (.int k') => k' == k
    | _ => false
  | .bool, t => match P.underlying t with
    | some .bool => true
    | _ => false
  | .str, t => match P.underlying t with
    | some .string => true
    | _ => false
  | .sl sz e, t => match P.underlying t with
    | some (.slice et) => P.cellsOf et == sz && decide (0 < sz) && e.size == sz && e.isAt P et
    | _ => false
  | .st fs, t => match P.underlying t with
    | some (.struct fl) => P.cellsOf t == TT.sizeL fs && TT.isL P fs fl.toList 0
    | _ => false
def TT.isL (P : Program) : List TT → List Field → Nat → Bool
  | [], [], _ => true
  | f :: fs, d :: ds, off => d.offset == off && P.cellsOf d.type == f.size && f.isAt P d.type && TT.isL P fs ds (off + f.size)
  | _, _, _ => false
end

mutual
/-- Cells of such a shape. -/
def TT.fit : TT → List AV → Prop
  | .int k, avs => ∃ n, avs = [.i k n] ∧ k.min ≤ n ∧ n ≤ k.max
  | .bool, avs => ∃ b, avs = [.b b]
  | .str, avs => ∃ s, avs = [.s s] ∧ s.size ≤ maxLen
  | .sl sz e, avs => ∃ xs, avs = [.sl .fro sz xs] ∧ xs.length ≤ maxLen ∧ ∀ x ∈ xs, e.fit x
  | .st fs, avs => TT.fitL fs avs
def TT.fitL : List TT → List AV → Prop
  | [], avs => avs = []
  | f :: fs, avs => ∃ a b, avs = a ++ b ∧ f.fit a ∧ TT.fitL fs b
end

section
variable {H : Type} {enc : TypeId × Value → H} {P : Program} {w : World} {held : Bool}

/-- Cells that are read as data. -/
def AsDat (w : World) (avs : List AV) (cs : List Value) : Prop := avs.length = cs.length ∧ ∀ (k : Nat) c, avs[k]? = some c → ∃ u, cs[k]? = some u ∧ DatC (fun b => b < w.heap.size) w c u

theorem AsDat.one {w : World} {c : AV} {u : Value} (h : Dat (fun b => b < w.heap.size) w c u) (h1 : u.oneCell' = true) : AsDat w [c] [u] := ⟨rfl, fun k c' hk => by
  cases k with
  | zero => simp at hk; subst hk; exact ⟨u, rfl, h, h1⟩
  | succ k => simp at hk⟩

theorem cell_spot {w : World} {a : Addr} {v : Value} (h : w.cell? a = some v) : a.spot = none := by
  unfold World.cell? at h
  split at h
  · cases hs : a.spot with
    | none => rfl
    | some s => simp [hs] at h
  · cases h

theorem cell_lt' {w : World} {a : Addr} {v : Value} (h : w.cell? a = some v) : a.block < w.heap.size := by
  unfold World.cell? at h
  split at h
  · rename_i h1; exact (Array.getElem?_eq_some_iff.1 h1).1
  · cases h

mutual
theorem trod_dat : ∀ (T : TT) (n : Nat) (t : TypeId) (cs : List Value) (x : DataW H × List MemPlace), T.isAt P t = true → DataW.trod enc P w 0 (fun _ => true) held n t cs = some x → ∃ avs, T.fit avs ∧ avs.length = T.size ∧ AsDat w avs cs
  | .int k, n, t, cs, x, hT, h => by
    simp only [TT.isAt] at hT
    split at hT
    · rename_i k' hu
      have : k' = k := by simpa using hT
      subst this
      obtain ⟨m, rfl, _, hw⟩ := DataW.trod_int hu h
      simp only [Lit.wf, Bool.and_eq_true, decide_eq_true_eq] at hw
      exact ⟨[.i k' m], ⟨m, rfl, hw⟩, rfl, .one (.i _ _) rfl⟩
    · cases hT
  | .bool, n, t, cs, x, hT, h => by
    simp only [TT.isAt] at hT
    split at hT
    · rename_i hu
      obtain ⟨b, rfl, _⟩ := DataW.trod_bool hu h
      exact ⟨[.b b], ⟨b, rfl⟩, rfl, .one (.b _) rfl⟩
    · cases hT
  | .str, n, t, cs, x, hT, h => by
    simp only [TT.isAt] at hT
    split at hT
    · rename_i hu
      obtain ⟨s, rfl, _, hs⟩ := DataW.trod_string hu h
      exact ⟨[.s s], ⟨s, rfl, hs⟩, rfl, .one (.s _) rfl⟩
    · cases hT
  | .sl sz e, n, t, cs, x, hT, h => by
    simp only [TT.isAt] at hT
    split at hT
    · rename_i et hu
      simp only [Bool.and_eq_true, beq_iff_eq, decide_eq_true_eq] at hT
      obtain ⟨⟨⟨hc, hz⟩, hes⟩, he⟩ := hT
      rcases DataW.trod_slice hu h with ⟨rfl, _⟩ | ⟨a, len, cap, elems, rest, m, _, rfl, _, _, hlc, hm, hlen, hel, _, _⟩
      · exact ⟨[.sl .fro sz []], ⟨[], rfl, by simp, by simp⟩, rfl, .one (.sl0 sz) rfl⟩
      · have each : ∀ i, i < len → ∃ avs : List AV, e.fit avs ∧ avs.length = sz ∧ ∀ (j : Nat) c, avs[j]? = some c → ∃ u, w.cell? ((a.add (i * sz)).add j) = some u ∧ DatC (fun b => b < w.heap.size) w c u := by
          intro i hi
          have h1 := hel i hi
          rw [hc, List.getElem?_eq_getElem (by omega)] at h1
          obtain ⟨cs', h2, h3⟩ := Option.bind_eq_some_iff.1 h1
          obtain ⟨avs, g1, g2, g3, g4⟩ := trod_dat e m et cs' _ he h3
          refine ⟨avs, g1, by rw [g2, hes], fun j c hj => ?_⟩
          obtain ⟨u, hu1, hd⟩ := g4 j c hj
          have hjl := (List.getElem?_eq_some_iff.1 hj).1
          exact ⟨u, by rw [(World.cells?_some h2).2.2 j (by omega)]; exact hu1, hd⟩
        obtain ⟨xs, hxl, hxs⟩ : ∃ xs : List (List AV), xs.length = len ∧ ∀ (i : Nat) x, xs[i]? = some x → e.fit x ∧ x.length = sz ∧ ∀ (j : Nat) c, x[j]? = some c → ∃ u, w.cell? ((a.add (i * sz)).add j) = some u ∧ DatC (fun b => b < w.heap.size) w c u := by
          refine ⟨(List.range len).map fun i => if hi : i < len then Classical.choose (each i hi) else [], by simp, fun i x hx => ?_⟩
          rw [List.getElem?_map] at hx
          obtain ⟨i', hi', rfl⟩ := Option.map_eq_some_iff.1 hx
          obtain ⟨hl, hi2⟩ := List.getElem?_eq_some_iff.1 hi'
          simp at hl hi2
          subst hi2
          rw [dif_pos hl]
          exact Classical.choose_spec (each i hl)
        have hfit : ∀ x ∈ xs, e.fit x := fun x hx => by
          obtain ⟨i, hi⟩ := List.mem_iff_getElem?.1 hx
          exact (hxs i x hi).1
        refine ⟨[.sl .fro sz xs], ⟨xs, rfl, by omega, hfit⟩, rfl, .one ?_ rfl⟩
        rcases Nat.eq_zero_or_pos len with h0 | h0
        · have : xs = [] := List.eq_nil_of_length_eq_zero (by omega)
          subst this
          rw [h0]
          exact .sl1 sz a cap
        · obtain ⟨g1, g2, g3⟩ := hxs 0 _ (List.getElem?_eq_getElem (by omega))
          obtain ⟨u, hu1, _⟩ := g3 0 _ (List.getElem?_eq_getElem (by omega))
          have haa : (a.add (0 * sz)).add 0 = a := by simp [Addr.add]
          rw [haa] at hu1
          have hsp := cell_spot hu1
          have hlt := cell_lt' hu1
          obtain ⟨bk, off, sp⟩ := a
          simp only at hsp hlt
          subst hsp
          rw [← hxl]
          have hl : ∀ x ∈ xs, x.length = sz := fun x hx => by
            obtain ⟨i, hi⟩ := List.mem_iff_getElem?.1 hx
            exact (hxs i x hi).2.1
          have hcell : ∀ (k : Nat) c, xs.flatten[k]? = some c → ∃ u, w.cell? ⟨bk, off + k, none⟩ = some u ∧ DatC (fun b => b < w.heap.size) w c u := by
            intro k c hk
            have hfl := flatten_length hl
            have hk1 := (List.getElem?_eq_some_iff.1 hk).1
            have hdiv : k / sz < xs.length := by rw [Nat.div_lt_iff_lt_mul hz]; omega
            have hmod : k % sz < sz := Nat.mod_lt _ hz
            have hx := List.getElem?_eq_getElem hdiv
            obtain ⟨_, q2, q3⟩ := hxs _ _ hx
            have hj : (xs[k / sz])[k % sz]? = some ((xs[k / sz])[k % sz]'(by omega)) := List.getElem?_eq_getElem (by omega)
            have e1 := flat_get hl (k / sz) (k % sz) _ _ hx hj
            rw [show k / sz * sz + k % sz = k by rw [Nat.mul_comm]; exact Nat.div_add_mod k sz, hk] at e1
            obtain rfl := Option.some.inj e1
            obtain ⟨u, hu2, hd⟩ := q3 _ _ hj
            refine ⟨u, ?_, hd⟩
            rw [add_none, add_none, Nat.add_assoc, show k / sz * sz + k % sz = k by rw [Nat.mul_comm]; exact Nat.div_add_mod k sz] at hu2
            exact hu2
          refine .sl sz xs bk off cap (fun k => (w.cell? ⟨bk, off + k, none⟩).getD undef) hlt (by omega) hl (fun k c hk => ?_) (fun k c hk => ?_) (fun k c hk => ?_)
          · obtain ⟨u, hu2, hd⟩ := hcell k c hk
            simp [hu2]
          · obtain ⟨u, hu2, hd⟩ := hcell k c hk
            simpa [hu2] using hd.2
          · obtain ⟨u, hu2, hd⟩ := hcell k c hk
            simpa [hu2] using hd.1
    · cases hT
  | .st fs, n, t, cs, x, hT, h => by
    simp only [TT.isAt] at hT
    split at hT
    · rename_i fl hu
      simp only [Bool.and_eq_true, beq_iff_eq] at hT
      obtain ⟨xs, m, _, _, hlen, hxl, hf⟩ := DataW.trod_struct hu h
      obtain ⟨avs, g1, g2, g3⟩ := trod_datL fs m fl.toList 0 cs hT.2 (fun i f hi => by
        rw [Array.getElem?_toList] at hi
        rw [hf i f hi]
        exact ⟨_, List.getElem?_eq_getElem (by rw [hxl]; exact (Array.getElem?_eq_some_iff.1 hi).1)⟩) (by omega)
      refine ⟨avs, g1, g2, ?_, fun k c hk => ?_⟩
      · rw [g2, hlen, hT.1]
      · obtain ⟨u, hu1, hd⟩ := g3 k c hk
        exact ⟨u, by simpa using hu1, hd⟩
    · cases hT
theorem trod_datL : ∀ (fs : List TT) (n : Nat) (fl : List Field) (off : Nat) (cs : List Value), TT.isL P fs fl off = true →
    (∀ (i : Nat) f, fl[i]? = some f → ∃ x, DataW.trod enc P w 0 (fun _ => true) held n f.type ((cs.drop f.offset).take (P.cellsOf f.type)) = some x) → off + TT.sizeL fs ≤ cs.length →
    ∃ avs, TT.fitL fs avs ∧ avs.length = TT.sizeL fs ∧ ∀ (k : Nat) c, avs[k]? = some c → ∃ u, cs[off + k]? = some u ∧ DatC (fun b => b < w.heap.size) w c u
  | [], n, fl, off, cs, _, _, _ => ⟨[], rfl, rfl, by simp⟩
  | f :: fs, n, [], off, cs, hT, _, _ => by simp [TT.isL] at hT
  | f :: fs, n, d :: ds, off, cs, hT, h, hl => by
    simp only [TT.isL, Bool.and_eq_true, beq_iff_eq] at hT
    obtain ⟨⟨⟨h1, h2⟩, h3⟩, h4⟩ := hT
    simp only [TT.sizeL] at hl
    obtain ⟨x, hx⟩ := h 0 d rfl
    obtain ⟨a, a1, a2, a3, a4⟩ := trod_dat f n d.type _ x h3 hx
    obtain ⟨b, b1, b2, b3⟩ := trod_datL fs n ds (off + f.size) cs h4 (fun i g hi => h (i + 1) g (by simpa using hi)) (by omega)
    refine ⟨a ++ b, ⟨a, b, rfl, a1, b1⟩, by simp [TT.sizeL, a2, b2], fun k c hk => ?_⟩
    by_cases hlt : k < a.length
    · rw [List.getElem?_append_left hlt] at hk
      obtain ⟨u, hu, hd⟩ := a4 k c hk
      rw [List.getElem?_take, if_pos (by omega), List.getElem?_drop, h1] at hu
      exact ⟨u, hu, hd⟩
    · rw [List.getElem?_append_right (by omega)] at hk
      obtain ⟨u, hu, hd⟩ := b3 _ c hk
      exact ⟨u, by rw [← hu]; congr 1; omega, hd⟩
end
end
end Go.AM
namespace Go.AM
open Go.RowKit Go.WideShapes

/-- A law that holds over data, called. -/
theorem Pure.calls {P : Program} {f : Nat} {args : List AV} {b : Bool} (h : Pure P f args (.b b)) {w : World} {vs : Array Value} (hl : args.length = vs.size) (hv : ∀ (k : Nat) c, args[k]? = some c → Dat (fun b => b < w.heap.size) w c (vs.getD k undef)) :
    Calls P f vs w fun e w' => e = .returned (.bool b) ∧ Below w.heap.size w w' := by
  refine (h.2 w (fun _ => 0) (fun _ => none) (fun bk => bk < w.heap.size) vs (rel_empty _ _ _ fun _ h => h) (by simp) hl (fun k c hk => (hv k c hk).val (E := ⟨w, fun _ => 0, fun _ => none, fun bk => bk < w.heap.size, St.ofBoxes [], #[]⟩) _)).mono ?_
  rintro e w' ⟨v, E', rfl, rfl, I, _, _, hr⟩
  refine ⟨by cases hr; rfl, I.fr.os, I.fr.tape, I.fr.output, I.fr.size, fun k hk => I.fr.block k hk (by simp)⟩

def TT.wrap : TT → List AV → AV
  | .st _, avs => .agg avs
  | _, avs => avs.getD 0 .any

theorem arg_dat {H : Type} {enc : TypeId × Value → H} {P : Program} {w : World} {held : Bool} {r : Reach} {b0 : Nat} {t : TypeId} {v : Value} {d : DataW H} {p : List MemPlace} (T : TT) (hT : T.isAt P t = true) (hval : Value.okWide P w r b0 t v)
    (h : DataW.Trod enc P w 0 (fun _ => true) held t v d p) : ∃ avs, T.fit avs ∧ Dat (fun b => b < w.heap.size) w (T.wrap avs) v := by
  obtain ⟨n, hn⟩ := h
  obtain ⟨avs, h1, h2, h3⟩ := trod_dat T n t _ _ hT hn
  refine ⟨avs, h1, ?_⟩
  have one : v.cells.toList = [v] → avs.length = 1 → Dat (fun b => b < w.heap.size) w (avs.getD 0 .any) v := by
    intro hc hl
    match avs, hl with
    | [c], _ =>
      obtain ⟨u, hu, hd⟩ := h3.2 0 c rfl
      rw [hc] at hu
      obtain rfl := Option.some.inj hu
      exact hd.1
  cases T with
  | int k =>
    simp only [TT.isAt] at hT
    split at hT
    · rename_i k' hu
      obtain ⟨n, rfl⟩ := okWide_int hu hval
      exact one rfl h2
    · cases hT
  | bool =>
    simp only [TT.isAt] at hT
    split at hT
    · rename_i hu
      obtain ⟨n, rfl⟩ := okWide_bool hu hval
      exact one rfl h2
    · cases hT
  | str =>
    simp only [TT.isAt] at hT
    split at hT
    · rename_i hu
      obtain ⟨n, rfl⟩ := okWide_string hu hval
      exact one rfl h2
    · cases hT
  | sl sz e =>
    simp only [TT.isAt] at hT
    split at hT
    · rename_i et hu
      obtain ⟨a, len, cap, rfl⟩ := okWide_slice hu hval
      exact one rfl h2
    · cases hT
  | st fs =>
    simp only [TT.isAt] at hT
    split at hT
    · rename_i fl hu
      simp only [Value.okWide, hu] at hval
      obtain ⟨cs, rfl, _, _⟩ := hval
      refine .agg _ cs (by rw [h3.1]; simp [Value.cells]) fun k c hk => ?_
      obtain ⟨u, hu, hd⟩ := h3.2 k c hk
      simp only [Value.cells, Array.getElem?_toList] at hu
      rw [Array.getD_eq_getD_getElem?, hu]
      exact hd.1
    · cases hT

theorem list_of {α : Type} {g : α → List AV} : ∀ {xs : List (List AV)}, (∀ x ∈ xs, ∃ a, x = g a) → ∃ l : List α, xs = l.map g
  | [], _ => ⟨[], rfl⟩
  | x :: xs, h => by
    obtain ⟨a, rfl⟩ := h x (by simp)
    obtain ⟨l, rfl⟩ := list_of (xs := xs) fun y hy => h y (by simp [hy])
    exact ⟨a :: l, rfl⟩
end Go.AM
