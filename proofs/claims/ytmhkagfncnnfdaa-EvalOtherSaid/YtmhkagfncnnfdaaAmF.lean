/- States: which clauses hold; the broken ones (the program). -/
import Derived.Test.YtmhkagfncnnfdaaAmE
import Derived.Test.YtmhkagfncnnfdaaAmD
set_option linter.unusedSimpArgs false
set_option linter.unusedVariables false
namespace Go.AM
open Go.Proofs
def holdsP (s : Sta) (c : Cl) : Bool :=
  if c.kind = 4 then !(setOf s c.a).any (fun k => !thereS (setOf s c.b) k)
  else if c.kind = 5 then !(setOf s c.a).any (fun k => thereS (setOf s c.b) k)
  else if c.kind = 6 then decide (((setOf s c.a).length : Int) ≤ c.num)
  else if c.kind = 7 then !(countOf s c.a).any (fun x => decide (c.num < x.num))
  else if c.kind = 8 then !(countOf s c.a).any (fun x => decide (x.num < c.num))
  else !(countOf s c.a).any (fun x => decide (0 < x.num) && !thereS (setOf s c.b) x.key)
theorem calm_sta (s : Sta) : Calm [.sl .fro 1 (rowsS s.sets), .sl .fro 1 (rowsK s.counts)] := fun c hc => by
  simp at hc; rcases hc with rfl | rfl <;> rfl
theorem calm_cl (c : Cl) : Calm [.i .i64 c.kind, .b c.strict, .i .i64 c.a, .i .i64 c.b, .i .i64 c.num] := fun x hx => by
  simp at hx; rcases hx with rfl | rfl | rfl | rfl | rfl <;> rfl
set_option maxRecDepth 8000 in
set_option maxHeartbeats 8000000 in
theorem c_eval_holds (s : Sta) (hs : SlightS s) (c : Cl) (hf : Fit s c) : Pure Try.prog 45 [.agg (staC s), .agg (clC c)] (.b (holdsP s c)) := by
  obtain ⟨f1, f2, f3⟩ := hf
  have hs0 := hs
  obtain ⟨k1, k2, k3, k4⟩ := hs
  refine proc_of (cx Try.prog 72 [2, 3, 4, 6, 7, 18, 29, 41, 52] [4]) 70 [.tmp 4] Try.func45 rfl rfl rfl rfl rfl rfl (Nat.le_refl _) rfl ?_
  refine AWp.go [2, 3] [2, 3] fun K hK => ?_
  simp [staC, clC]
  first | refine hK _ _ ?_ | refine ⟨by omega, hK _ _ ?_⟩ | refine ⟨by omega, by omega, hK _ _ ?_⟩
  clear hK K
  refine AWp.seq ?_
  refine AWp.go [2, 3, 6] [2, 3] fun K hK => ?_
  simp
  first | refine hK _ _ ?_ | refine ⟨by omega, hK _ _ ?_⟩ | refine ⟨by omega, by omega, hK _ _ ?_⟩
  clear hK K
  refine AWp.block ?_
  refine AWp.go [2, 3, 6, 7] [2, 3] fun K hK => ?_
  simp
  first | refine hK _ _ ?_ | refine ⟨by omega, hK _ _ ?_⟩ | refine ⟨by omega, by omega, hK _ _ ?_⟩
  clear hK K
  by_cases q4 : c.kind = 4
  · refine AWp.cond (t := true) (by first | (simp [q4]; done) | (simp [q4]; omega)) (fun _ => ?_) (by simp)
    obtain ⟨m, hm, hl⟩ := inN_nat (f1 (by simp [q4]))
    have hg := c_ContainsFunc2_Str s.sets[m] 78 (fun k => !thereS (setOf s c.b) k) _ _ (calm_sta s) (calm_cl c) (fun k _ => c_eval_holds1 s hs0 c (f3 (by simp [q4])) k) (by have := k3 _ (List.getElem_mem hl); omega)
    rw [hm, q4] at hg
    refine AWp.go [4] [2, 3] fun K hK => ?_
    simp [hm, hl, q4]
    refine call_proc [(0, 2), (1, 3)] none hg (by simp) (by simp) ?_
    simp
    first | refine hK _ _ ?_ | refine ⟨by omega, hK _ _ ?_⟩ | refine ⟨by omega, by omega, hK _ _ ?_⟩
    clear hK K
    refine AWp.ret ?_
    simp [holdsP, q4, hm, setOf_at s m hl]
  · refine AWp.cond (t := false) (by first | (simp [q4]; done) | (simp [q4]; omega)) (by simp) (fun _ => ?_)
    refine AWp.go [2, 3, 6, 18] [2, 3] fun K hK => ?_
    simp
    first | refine hK _ _ ?_ | refine ⟨by omega, hK _ _ ?_⟩ | refine ⟨by omega, by omega, hK _ _ ?_⟩
    clear hK K
    by_cases q5 : c.kind = 5
    · refine AWp.cond (t := true) (by first | (simp [q5]; done) | (simp [q5]; omega)) (fun _ => ?_) (by simp)
      obtain ⟨m, hm, hl⟩ := inN_nat (f1 (by simp [q5]))
      have hg := c_ContainsFunc2_Str s.sets[m] 80 (fun k => thereS (setOf s c.b) k) _ _ (calm_sta s) (calm_cl c) (fun k _ => c_eval_holds2 s hs0 c (f3 (by simp [q5])) k) (by have := k3 _ (List.getElem_mem hl); omega)
      rw [hm, q5] at hg
      refine AWp.go [4] [2, 3] fun K hK => ?_
      simp [hm, hl, q5]
      refine call_proc [(0, 2), (1, 3)] none hg (by simp) (by simp) ?_
      simp
      first | refine hK _ _ ?_ | refine ⟨by omega, hK _ _ ?_⟩ | refine ⟨by omega, by omega, hK _ _ ?_⟩
      clear hK K
      refine AWp.ret ?_
      simp [holdsP, q5, hm, setOf_at s m hl]
    · refine AWp.cond (t := false) (by first | (simp [q5]; done) | (simp [q5]; omega)) (by simp) (fun _ => ?_)
      refine AWp.go [2, 3, 6, 29] [2, 3] fun K hK => ?_
      simp
      first | refine hK _ _ ?_ | refine ⟨by omega, hK _ _ ?_⟩ | refine ⟨by omega, by omega, hK _ _ ?_⟩
      clear hK K
      by_cases q6 : c.kind = 6
      · refine AWp.cond (t := true) (by first | (simp [q6]; done) | (simp [q6]; omega)) (fun _ => ?_) (by simp)
        obtain ⟨m, hm, hl⟩ := inN_nat (f1 (by simp [q6]))
        refine AWp.goD 11 (fun _ => .any) [4] [2, 3] mix (by kernel_rfl) fun K hK => ?_
        simp [hm, hl]
        first | refine hK _ _ ?_ | refine ⟨by omega, hK _ _ ?_⟩ | refine ⟨by omega, by omega, hK _ _ ?_⟩
        clear hK K
        refine AWp.ret ?_
        simp [holdsP, q6, hm, setOf_at s m hl]
      · refine AWp.cond (t := false) (by first | (simp [q6]; done) | (simp [q6]; omega)) (by simp) (fun _ => ?_)
        refine AWp.go [2, 3, 6, 41] [2, 3] fun K hK => ?_
        simp
        first | refine hK _ _ ?_ | refine ⟨by omega, hK _ _ ?_⟩ | refine ⟨by omega, by omega, hK _ _ ?_⟩
        clear hK K
        by_cases q7 : c.kind = 7
        · refine AWp.cond (t := true) (by first | (simp [q7]; done) | (simp [q7]; omega)) (fun _ => ?_) (by simp)
          obtain ⟨m, hm, hl⟩ := inN_nat (f2 (by simp [q7]))
          have hg := c_ContainsFunc1_Cel s.counts[m] 82 (fun x => decide (c.num < x.num)) _ (calm_cl c) (fun x _ => c_eval_holds3 c x) (by have := k4 _ (List.getElem_mem hl); omega)
          rw [hm, q7] at hg
          refine AWp.go [4] [2, 3] fun K hK => ?_
          simp [hm, hl, q7]
          refine call_proc [(0, 3)] none hg (by simp) (by simp) ?_
          simp
          first | refine hK _ _ ?_ | refine ⟨by omega, hK _ _ ?_⟩ | refine ⟨by omega, by omega, hK _ _ ?_⟩
          clear hK K
          refine AWp.ret ?_
          simp [holdsP, q7, hm, countOf_at s m hl]
        · refine AWp.cond (t := false) (by first | (simp [q7]; done) | (simp [q7]; omega)) (by simp) (fun _ => ?_)
          refine AWp.go [2, 3, 52] [2, 3] fun K hK => ?_
          simp
          first | refine hK _ _ ?_ | refine ⟨by omega, hK _ _ ?_⟩ | refine ⟨by omega, by omega, hK _ _ ?_⟩
          clear hK K
          by_cases q8 : c.kind = 8
          · refine AWp.cond (t := true) (by first | (simp [q8]; done) | (simp [q8]; omega)) (fun _ => ?_) (by simp)
            obtain ⟨m, hm, hl⟩ := inN_nat (f2 (by simp [q8]))
            have hg := c_ContainsFunc1_Cel s.counts[m] 83 (fun x => decide (x.num < c.num)) _ (calm_cl c) (fun x _ => c_eval_holds4 c x) (by have := k4 _ (List.getElem_mem hl); omega)
            rw [hm, q8] at hg
            refine AWp.go [4] [2, 3] fun K hK => ?_
            simp [hm, hl, q8]
            refine call_proc [(0, 3)] none hg (by simp) (by simp) ?_
            simp
            first | refine hK _ _ ?_ | refine ⟨by omega, hK _ _ ?_⟩ | refine ⟨by omega, by omega, hK _ _ ?_⟩
            clear hK K
            refine AWp.ret ?_
            simp [holdsP, q8, hm, countOf_at s m hl]
          · refine AWp.cond (t := false) (by first | (simp [q8]; done) | (simp [q8]; omega)) (by simp) (fun _ => ?_)
            refine AWp.skip ?_
            show AWp _ _ _ _
            obtain ⟨m, hm, hl⟩ := inN_nat (f2 (by simp [q4, q5, q6]))
            have hg := c_ContainsFunc2_Cel s.counts[m] 84 (fun x => decide (0 < x.num) && !thereS (setOf s c.b) x.key) _ _ (calm_sta s) (calm_cl c) (fun x _ => c_eval_holds5 s hs0 c (f3 (by simp [q6, q7, q8])) x) (by have := k4 _ (List.getElem_mem hl); omega)
            rw [hm] at hg
            refine AWp.go [4] [2, 3] fun K hK => ?_
            simp [hm, hl]
            refine call_proc [(0, 2), (1, 3)] none hg (by simp) (by simp) ?_
            simp
            first | refine hK _ _ ?_ | refine ⟨by omega, hK _ _ ?_⟩ | refine ⟨by omega, by omega, hK _ _ ?_⟩
            clear hK K
            refine AWp.ret ?_
            simp [holdsP, q4, q5, q6, q7, q8, hm, countOf_at s m hl]
end Go.AM
namespace Go.AM
open Go.Proofs
def okB (r : Rul) (s : Sta) : Bool := rulesB r && stateB r s
theorem fit_of {r : Rul} {s : Sta} {c : Cl} (hc : clB r c = true) (hs : stateB r s = true) : Fit s c := by
  simp only [stateB, Bool.and_eq_true, decide_eq_true_eq] at hs
  obtain ⟨⟨⟨h1, h2⟩, -⟩, -⟩ := hs
  have e1 : s.sets.length = r.sets.length := by omega
  have e2 : s.counts.length = r.counts.length := by omega
  unfold Fit
  rw [e1, e2]
  unfold clB at hc
  split at hc
  · rename_i q
    simp only [Bool.and_eq_true] at hc
    exact ⟨fun _ => hc.1.1.1, fun h => absurd q (by omega), fun _ => hc.1.1.2⟩
  · split at hc
    · simp only [Bool.and_eq_true] at hc
      exact ⟨fun h => absurd h (by omega), fun _ => hc.1.1, fun _ => hc.1.2⟩
    · split at hc
      · simp only [Bool.and_eq_true] at hc
        exact ⟨fun _ => hc.1.1.1, fun h => absurd h (by omega), fun h => absurd h (by omega)⟩
      · split at hc
        · simp only [Bool.and_eq_true] at hc
          exact ⟨fun h => absurd h (by omega), fun _ => hc.1.1.1, fun h => absurd h (by omega)⟩
        · split at hc
          · simp only [Bool.and_eq_true] at hc
            exact ⟨fun h => absurd h (by omega), fun _ => hc.1.1.1, fun h => absurd h (by omega)⟩
          · cases hc
theorem okB_fit {r : Rul} {s : Sta} (h : okB r s = true) (i : Nat) (hi : i < r.cls.length) : Fit s r.cls[i] := by
  simp only [okB, rulesB, Bool.and_eq_true] at h
  exact fit_of (List.all_eq_true.1 h.1.1.2 _ (List.getElem_mem hi)) h.2
def holdsAt (r : Rul) (s : Sta) (i : Nat) : Bool := match r.cls[i]? with
  | some c => holdsP s c
  | none => false
def heldP (r : Rul) (s : Sta) (n : Int) : Bool := okB r s && (decide (0 ≤ n) && holdsAt r s n.toNat)
set_option maxRecDepth 8000 in
set_option maxHeartbeats 8000000 in
theorem c_eval_Holds (r : Rul) (s : Sta) (hr : Slim r) (hs : SlightS s) (n : Int) : Pure Try.prog 20 [.agg (rulC r), .agg (staC s), .i .i64 n] (.b (heldP r s n)) := by
  have gc := c_eval_Check r s hr hs
  have gh : okB r s = true → ∀ i (hi : i < r.cls.length), _ := fun h i hi => c_eval_holds s hs r.cls[i] (okB_fit h i hi)
  simp [rulC, staC, clC] at gc gh
  refine proc_of (cx Try.prog 31 [2, 3, 4, 6] [6]) 28 [.tmp 6] Try.func20 rfl rfl rfl rfl rfl rfl (Nat.le_refl _) rfl ?_
  refine AWp.go [2, 3, 4] [3, 4] fun K hK => ?_
  simp [rulC, staC]
  first | refine hK _ _ ?_ | refine ⟨by omega, hK _ _ ?_⟩ | refine ⟨by omega, by omega, hK _ _ ?_⟩
  clear hK K
  refine AWp.stepD 25 (fun k => if k = 2 then .i .i64 (if okB r s then 0 else 1) else if k = 22 then .b (holdsAt r s n.toNat) else .any) [6] [3, 4] [(6, .b (heldP r s n))] [(3, [.sl .fro 1 (strsAV r.sets), .sl .fro 1 (strsAV r.counts), .sl .fro 1 (strsAV r.notes), .sl .fro 5 (clsAV r.cls), .sl .fro 2 (opnsAV r.opers)]), (4, [.sl .fro 1 (rowsS s.sets), .sl .fro 1 (rowsK s.counts)])] mix (by kernel_rfl) ?_ ?_
  · cases q0 : okB r s
    · have q0' := q0
      simp only [okB, Bool.and_eq_false_iff] at q0'
      have e : (rulesB r = true ∧ stateB r s = true) = False := by
        rw [eq_iff_iff, iff_false]; rintro ⟨h1, h2⟩; rw [h1, h2] at q0'; simp at q0'
      simp [heldP, q0, e] at gc ⊢
      exact gc
    have q0' := q0
    simp only [okB, Bool.and_eq_true] at q0'
    simp [q0'.1, q0'.2] at gc
    by_cases q1 : 0 ≤ n
    · obtain ⟨m, rfl⟩ : ∃ m : Nat, n = m := ⟨n.toNat, by omega⟩
      by_cases q2 : m < r.cls.length
      · have g := gh q0 m q2
        simp [heldP, q0, q2, holdsAt, gc, g]
      · simp [heldP, q0, q2, holdsAt, gc]
    · simp [heldP, q0, q1, gc]
  refine AWp.ret ?_
  simp
def brokenTo (p : Nat → Bool) (n : Nat) : List Int := ((List.range n).filter fun i => !p i).map Int.ofNat
theorem brokenTo_succ (p : Nat → Bool) (n : Nat) : brokenTo p (n + 1) = if p n then brokenTo p n else brokenTo p n ++ [(n : Int)] := by
  unfold brokenTo
  rw [List.range_succ, List.filter_append, List.map_append]
  cases h : p n <;> simp [List.filter, h]
theorem brokenTo_len (p : Nat → Bool) (n : Nat) : (brokenTo p n).length ≤ n := by
  unfold brokenTo
  rw [List.length_map]
  exact Nat.le_trans (List.length_filter_le _ _) (by simp)
def brokenP (r : Rul) (s : Sta) : List Int := if okB r s then brokenTo (holdsAt r s) r.cls.length else []
@[simp] theorem intsAV_one (a : Int) : intsAV [a] = [[.i .i64 a]] := rfl
set_option maxRecDepth 8000 in
set_option maxHeartbeats 8000000 in
theorem c_eval_Broken (r : Rul) (s : Sta) (hr : Slim r) (hs : SlightS s) : Pure Try.prog 19 [.agg (rulC r), .agg (staC s)] (.sl .own 1 (intsAV (brokenP r s))) := by
  have gc := c_eval_Check r s hr hs
  have gh : okB r s = true → ∀ i (hi : i < r.cls.length), _ := fun h i hi => c_eval_holds s hs r.cls[i] (okB_fit h i hi)
  have hcl : r.cls.length ≤ 1000 := by have := hr.1.2.2.2.1; omega
  simp [rulC, staC, clC] at gc gh
  refine proc_of (cx Try.prog 30 [2, 3, 4, 5, 6, 7, 11, 13, 14, 15, 16, 23] [4]) 28 [.tmp 4] Try.func19 rfl rfl rfl rfl rfl rfl (Nat.le_refl _) rfl ?_
  refine AWp.go [2, 3] [2, 3] fun K hK => ?_
  simp [rulC, staC]
  first | refine hK _ _ ?_ | refine ⟨by omega, hK _ _ ?_⟩ | refine ⟨by omega, by omega, hK _ _ ?_⟩
  clear hK K
  refine AWp.go [2, 3, 5] [2, 3] fun K hK => ?_
  simp
  first | refine hK _ _ ?_ | refine ⟨by omega, hK _ _ ?_⟩ | refine ⟨by omega, by omega, hK _ _ ?_⟩
  clear hK K
  refine AWp.seq ?_
  refine AWp.step [2, 3, 5, 11] [2, 3] [(2, .ptr 2 0), (3, .ptr 3 0), (5, .sl .nl 1 []), (11, .b (!okB r s))] [(2, [.sl .fro 1 (strsAV r.sets), .sl .fro 1 (strsAV r.counts), .sl .fro 1 (strsAV r.notes), .sl .fro 5 (clsAV r.cls), .sl .fro 2 (opnsAV r.opers)]), (3, [.sl .fro 1 (rowsS s.sets), .sl .fro 1 (rowsK s.counts)])] ?_ ?_
  · simp
    refine call_pure gc (by simp) ?_
    cases q1 : rulesB r <;> cases q2 : stateB r s <;> simp [okB, q1, q2]
  cases q0 : okB r s
  · refine AWp.cond (t := true) (by simp) (fun _ => ?_) (by simp)
    refine AWp.go [4] [] fun K hK => ?_
    simp
    first | refine hK _ _ ?_ | refine ⟨by omega, hK _ _ ?_⟩ | refine ⟨by omega, by omega, hK _ _ ?_⟩
    clear hK K
    refine AWp.ret ?_
    simp [brokenP, q0]
  · refine AWp.cond (t := false) (by simp) (by simp) (fun _ => ?_)
    refine AWp.skip ?_
    show AWp _ _ _ _
    refine AWp.seq ?_
    refine AWp.go [3, 5, 13, 14, 15] [3] fun K hK => ?_
    simp
    first | refine hK _ _ ?_ | refine ⟨by omega, hK _ _ ?_⟩ | refine ⟨by omega, by omega, hK _ _ ?_⟩
    clear hK K
    refine AWp.block (AWp.while (fun i : Nat => [(3, .ptr 3 0), (5, .sl .own 1 (intsAV (brokenTo (holdsAt r s) i))), (13, .sl .fro 5 (clsAV r.cls)), (14, .i .i64 r.cls.length), (15, .i .i64 i)]) (fun i => [(3, [.sl .fro 1 (rowsS s.sets), .sl .fro 1 (rowsK s.counts)])]) (fun i => i ≤ r.cls.length) (fun i => r.cls.length - i) [3, 5, 13, 14, 15] [3] 0 (by simp) (by simp [brokenTo]) ?_)
    intro i hi
    refine AWp.go [3, 5, 13, 14, 15, 16] [3] fun K hK => ?_
    simp
    first | refine hK _ _ ?_ | refine ⟨by omega, hK _ _ ?_⟩ | refine ⟨by omega, by omega, hK _ _ ?_⟩
    clear hK K
    refine AWp.seq ?_
    by_cases h : i < r.cls.length
    · refine AWp.cond (t := true) (by first | (simp [h]; done) | (simp [h]; omega)) (fun _ => ?_) (by simp)
      refine AWp.skip ?_
      show AWp _ _ _ _
      refine AWp.seq ?_
      refine AWp.block ?_
      refine AWp.go [3, 5, 6, 7, 13, 14, 15] [3, 7] fun K hK => ?_
      simp [h]
      first | refine hK _ _ ?_ | refine ⟨by omega, hK _ _ ?_⟩ | refine ⟨by omega, by omega, hK _ _ ?_⟩
      clear hK K
      have hg := gh q0 i h
      have hA : holdsAt r s i = holdsP s r.cls[i] := by simp [holdsAt, h]
      have hbl := brokenTo_len (holdsAt r s) i
      refine AWp.go [3, 5, 6, 13, 14, 15, 23] [3] fun K hK => ?_
      simp
      refine call_pure hg (by simp) ?_
      simp
      first | refine hK _ _ ?_ | refine ⟨by omega, hK _ _ ?_⟩ | refine ⟨by omega, by omega, hK _ _ ?_⟩
      clear hK K
      cases hp : holdsP s r.cls[i]
      · refine AWp.cond (t := true) (by simp) (fun _ => ?_) (by simp)
        refine AWp.last [3, 5, 13, 14, 15] [3] [(3, .ptr 3 0), (5, .sl .own 1 (intsAV (brokenTo (holdsAt r s) (i + 1)))), (13, .sl .fro 5 (clsAV r.cls)), (14, .i .i64 r.cls.length), (15, .i .i64 i)] [(3, [.sl .fro 1 (rowsS s.sets), .sl .fro 1 (rowsK s.counts)])] ?_ ?_
        · have e : brokenTo (holdsAt r s) (i + 1) = brokenTo (holdsAt r s) i ++ [(i : Int)] := by rw [brokenTo_succ, hA, hp]; simp
          simp [e]
          omega
        show AWp _ _ _ _
        refine AWp.goLast [3, 5, 13, 14, 15] [3] fun K hK => ?_
        simp
        first | refine hK _ _ ?_ | refine ⟨by omega, hK _ _ ?_⟩ | refine ⟨by omega, by omega, hK _ _ ?_⟩
        clear hK K
        refine ⟨i + 1, by omega, by omega, ?_⟩
        simp
        exact wrap64 (by omega) (by omega)
      · refine AWp.cond (t := false) (by simp) (by simp) (fun _ => ?_)
        refine AWp.skip ?_
        show AWp _ _ _ _
        refine AWp.goLast [3, 5, 13, 14, 15] [3] fun K hK => ?_
        simp
        first | refine hK _ _ ?_ | refine ⟨by omega, hK _ _ ?_⟩ | refine ⟨by omega, by omega, hK _ _ ?_⟩
        clear hK K
        refine ⟨i + 1, by omega, by omega, ?_⟩
        rw [brokenTo_succ, hA, hp]
        simp
        exact wrap64 (by omega) (by omega)
    · refine AWp.cond (t := false) (by first | (simp [h]; done) | (simp [h]; omega)) (by simp) (fun _ => ?_)
      refine AWp.exit ?_
      show AWp _ _ _ _
      obtain rfl : i = r.cls.length := by omega
      refine AWp.go [4] [] fun K hK => ?_
      simp
      first | refine hK _ _ ?_ | refine ⟨by omega, hK _ _ ?_⟩ | refine ⟨by omega, by omega, hK _ _ ?_⟩
      clear hK K
      refine AWp.ret ?_
      simp [brokenP, q0]
end Go.AM
namespace Go.AM
open Go.Proofs
def addK (l : List ByteArray) (k : ByteArray) : List ByteArray := if hasS l k then l else l ++ [k]
def addsK (l ks : List ByteArray) : List ByteArray := ks.foldl addK l
theorem addsK_append (l a b : List ByteArray) : addsK l (a ++ b) = addsK (addsK l a) b := List.foldl_append ..
theorem addsK_len (ks : List ByteArray) : ∀ l, (addsK l ks).length ≤ l.length + ks.length := by
  induction ks with
  | nil => intro l; exact Nat.le_refl _
  | cons k ks ih =>
    intro l
    have := ih (addK l k)
    have h2 : (addK l k).length ≤ l.length + 1 := by unfold addK; split <;> simp
    show (addsK (addK l k) ks).length ≤ _
    simp only [List.length_cons]; omega
def setKeys (s : Sta) : List ByteArray := s.sets.flatten
def celKeys (l : List Cel) : List ByteArray := l.map Cel.key
theorem celKeys_snoc (l : List Cel) (c : Cel) : celKeys (l ++ [c]) = celKeys l ++ [c.key] := by simp [celKeys]
@[simp] theorem celKeys_length (l : List Cel) : (celKeys l).length = l.length := by simp [celKeys]
def countKeys (l : List (List Cel)) : List ByteArray := celKeys l.flatten
def keysS (s : Sta) : List ByteArray := addsK (addsK [] s.sets.flatten) (countKeys s.counts)
theorem rows_snoc {α : Type} (l : List (List α)) (i : Nat) (h : i < l.length) (j : Nat) (hj : j < l[i].length) : (l.take i).flatten ++ l[i].take (j + 1) = ((l.take i).flatten ++ l[i].take j) ++ [l[i][j]] := by
  rw [List.take_succ_eq_append_getElem hj, List.append_assoc]
theorem rows_end {α : Type} (l : List (List α)) (i : Nat) (h : i < l.length) : (l.take i).flatten ++ l[i].take l[i].length = (l.take (i + 1)).flatten := by
  rw [List.take_length, List.take_succ_eq_append_getElem h, List.flatten_append]; simp
theorem flat_le {α : Type} (l : List (List α)) (i : Nat) (h : i < l.length) (j : Nat) : ((l.take i).flatten ++ l[i].take j).length ≤ l.flatten.length := by
  have e : l.flatten = (l.take i).flatten ++ l[i] ++ (l.drop (i + 1)).flatten := by
    conv => lhs; rw [← List.take_append_drop (i + 1) l, List.flatten_append, List.take_succ_eq_append_getElem h, List.flatten_append]
    simp
  rw [e, List.length_append, List.length_append, List.length_append, List.length_take]
  omega
theorem idxS_neg (l : List ByteArray) (k : ByteArray) : decide (idxS l k < 0) = !hasS l k := by
  have e : decide (0 ≤ idxS l k) = hasS l k := by unfold idxS hasS; exact idxI_ge _ _
  rw [← e, ← decide_not, decide_eq_decide]; omega
/-- A state with few keys. -/
def Few (s : Sta) : Prop := SlightS s ∧ s.sets.flatten.length ≤ 100000 ∧ s.counts.flatten.length ≤ 100000
set_option maxRecDepth 8000 in
set_option maxHeartbeats 8000000 in
theorem c_ref19_Keys (s : Sta) (hs : Few s) : Pure Try.prog 26 [.agg (staC s)] (.sl .own 1 (strsAV (keysS s))) := by
  obtain ⟨⟨k1, k2, k3, k4⟩, n1, n2⟩ := hs
  refine proc_of (cx Try.prog 90 [1, 2, 3, 4, 5, 6, 7, 13, 23, 36, 52, 62, 76] [2]) 89 [.tmp 2] Try.func26 rfl rfl rfl rfl rfl rfl (Nat.le_refl _) rfl ?_
  refine AWp.go [1] [1] fun K hK => ?_
  simp [staC]
  first | refine hK _ _ ?_ | refine ⟨by omega, hK _ _ ?_⟩ | refine ⟨by omega, by omega, hK _ _ ?_⟩
  clear hK K
  refine AWp.go [1, 3] [1] fun K hK => ?_
  simp
  first | refine hK _ _ ?_ | refine ⟨by omega, hK _ _ ?_⟩ | refine ⟨by omega, by omega, hK _ _ ?_⟩
  clear hK K
  refine AWp.seq ?_
  refine AWp.go [1, 3, 4] [1] fun K hK => ?_
  simp
  first | refine hK _ _ ?_ | refine ⟨by omega, hK _ _ ?_⟩ | refine ⟨by omega, by omega, hK _ _ ?_⟩
  clear hK K
  refine AWp.block (AWp.while (fun i : Nat => [(1, .ptr 1 0), (3, .sl .own 1 (strsAV (addsK [] (s.sets.take i).flatten))), (4, .i .i64 i)]) (fun i => [(1, [.sl .fro 1 (rowsS s.sets), .sl .fro 1 (rowsK s.counts)])]) (fun i => i ≤ s.sets.length) (fun i => s.sets.length - i) [1, 3, 4] [1] 0 (by simp) (by simp [addsK]) ?_)
  intro i hi
  refine AWp.seq ?_
  refine AWp.go [1, 3, 4, 13] [1] fun K hK => ?_
  simp
  first | refine hK _ _ ?_ | refine ⟨by omega, hK _ _ ?_⟩ | refine ⟨by omega, by omega, hK _ _ ?_⟩
  clear hK K
  by_cases h : i < s.sets.length
  · refine AWp.cond (t := true) (by first | (simp [h]; done) | (simp [h]; omega)) (fun _ => ?_) (by simp)
    refine AWp.skip ?_
    show AWp _ _ _ _
    refine AWp.seq ?_
    refine AWp.block ?_
    have hlr := k3 _ (List.getElem_mem h)
    refine AWp.go [1, 3, 4, 5] [1] fun K hK => ?_
    simp
    first | refine hK _ _ ?_ | refine ⟨by omega, hK _ _ ?_⟩ | refine ⟨by omega, by omega, hK _ _ ?_⟩
    clear hK K
    refine AWp.block (AWp.while (fun j : Nat => [(1, .ptr 1 0), (3, .sl .own 1 (strsAV (addsK [] ((s.sets.take i).flatten ++ s.sets[i].take j)))), (4, .i .i64 i), (5, .i .i64 j)]) (fun j => [(1, [.sl .fro 1 (rowsS s.sets), .sl .fro 1 (rowsK s.counts)])]) (fun j => j ≤ s.sets[i].length) (fun j => s.sets[i].length - j) [1, 3, 4, 5] [1] 0 (by simp) (by simp) ?_)
    intro j hj
    refine AWp.seq ?_
    refine AWp.go [1, 3, 4, 5, 23] [1] fun K hK => ?_
    simp [h]
    first | refine hK _ _ ?_ | refine ⟨by omega, hK _ _ ?_⟩ | refine ⟨by omega, by omega, hK _ _ ?_⟩
    clear hK K
    by_cases g : j < s.sets[i].length
    · refine AWp.cond (t := true) (by first | (simp [g]; done) | (simp [g]; omega)) (fun _ => ?_) (by simp)
      refine AWp.skip ?_
      show AWp _ _ _ _
      refine AWp.seq ?_
      refine AWp.block ?_
      have hfl := flat_le s.sets i h j
      have hal := addsK_len ((s.sets.take i).flatten ++ s.sets[i].take j) []
      simp only [List.length_nil] at hal
      obtain ⟨A, hA⟩ : ∃ A, A = addsK [] ((s.sets.take i).flatten ++ s.sets[i].take j) := ⟨_, rfl⟩
      have hA2 : addsK [] ((s.sets.take i).flatten ++ s.sets[i].take (j + 1)) = addK A s.sets[i][j] := by rw [rows_snoc _ _ h _ g, addsK_append, ← hA]; rfl
      rw [← hA] at hal ⊢
      refine AWp.step [1, 3, 4, 5, 36] [1] [(1, .ptr 1 0), (3, .sl .own 1 (strsAV A)), (4, .i .i64 i), (5, .i .i64 j), (36, .b (!hasS A s.sets[i][j]))] [(1, [.sl .fro 1 (rowsS s.sets), .sl .fro 1 (rowsK s.counts)])] ?_ ?_
      · simp [h, g]
        refine call_pure (c_ref16_At A s.sets[i][j] (by omega)) (by simp) ?_
        simp [idxS_neg]
      cases hp : hasS A s.sets[i][j]
      · refine AWp.cond (t := true) (by simp) (fun _ => ?_) (by simp)
        refine AWp.goLast [1, 3, 4, 5] [1] fun K hK => ?_
        simp [h, g]
        refine ⟨by omega, hK _ _ ?_⟩
        clear hK K
        show AWp _ _ _ _
        refine AWp.goLast [1, 3, 4, 5] [1] fun K hK => ?_
        simp
        first | refine hK _ _ ?_ | refine ⟨by omega, hK _ _ ?_⟩ | refine ⟨by omega, by omega, hK _ _ ?_⟩
        clear hK K
        refine ⟨j + 1, by omega, by omega, ?_⟩
        rw [hA2, addK, hp]
        simp
        exact wrap64 (by omega) (by omega)
      · refine AWp.cond (t := false) (by simp) (by simp) (fun _ => ?_)
        refine AWp.skip ?_
        show AWp _ _ _ _
        refine AWp.goLast [1, 3, 4, 5] [1] fun K hK => ?_
        simp
        first | refine hK _ _ ?_ | refine ⟨by omega, hK _ _ ?_⟩ | refine ⟨by omega, by omega, hK _ _ ?_⟩
        clear hK K
        refine ⟨j + 1, by omega, by omega, ?_⟩
        rw [hA2, addK, hp]
        simp
        exact wrap64 (by omega) (by omega)
    · refine AWp.cond (t := false) (by first | (simp [g]; done) | (simp [g]; omega)) (by simp) (fun _ => ?_)
      refine AWp.exit ?_
      show AWp _ _ _ _
      refine AWp.goLast [1, 3, 4] [1] fun K hK => ?_
      simp
      first | refine hK _ _ ?_ | refine ⟨by omega, hK _ _ ?_⟩ | refine ⟨by omega, by omega, hK _ _ ?_⟩
      clear hK K
      obtain rfl : j = s.sets[i].length := by omega
      refine ⟨i + 1, by omega, by omega, ?_⟩
      rw [rows_end _ _ h]
      simp
      exact wrap64 (by omega) (by omega)
  · refine AWp.cond (t := false) (by first | (simp [h]; done) | (simp [h]; omega)) (by simp) (fun _ => ?_)
    refine AWp.exit ?_
    show AWp _ _ _ _
    refine AWp.seq ?_
    obtain rfl : i = s.sets.length := by omega
    rw [List.take_length]
    obtain ⟨B, hB⟩ : ∃ B, B = addsK [] s.sets.flatten := ⟨_, rfl⟩
    have hbl := addsK_len s.sets.flatten []
    simp only [List.length_nil] at hbl
    rw [← hB] at hbl ⊢
    have hT : keysS s = addsK B (countKeys s.counts) := by rw [hB]; rfl
    rw [hT]
    refine AWp.go [1, 3, 6] [1] fun K hK => ?_
    simp
    first | refine hK _ _ ?_ | refine ⟨by omega, hK _ _ ?_⟩ | refine ⟨by omega, by omega, hK _ _ ?_⟩
    clear hK K
    refine AWp.block (AWp.while (fun i : Nat => [(1, .ptr 1 0), (3, .sl .own 1 (strsAV (addsK B (countKeys (s.counts.take i))))), (6, .i .i64 i)]) (fun i => [(1, [.sl .fro 1 (rowsS s.sets), .sl .fro 1 (rowsK s.counts)])]) (fun i => i ≤ s.counts.length) (fun i => s.counts.length - i) [1, 3, 6] [1] 0 (by simp) (by simp [addsK, countKeys, celKeys]) ?_)
    intro i hi
    refine AWp.seq ?_
    refine AWp.go [1, 3, 6, 52] [1] fun K hK => ?_
    simp
    first | refine hK _ _ ?_ | refine ⟨by omega, hK _ _ ?_⟩ | refine ⟨by omega, by omega, hK _ _ ?_⟩
    clear hK K
    by_cases h : i < s.counts.length
    · refine AWp.cond (t := true) (by first | (simp [h]; done) | (simp [h]; omega)) (fun _ => ?_) (by simp)
      refine AWp.skip ?_
      show AWp _ _ _ _
      refine AWp.seq ?_
      refine AWp.block ?_
      have hlr := k4 _ (List.getElem_mem h)
      refine AWp.go [1, 3, 6, 7] [1] fun K hK => ?_
      simp
      first | refine hK _ _ ?_ | refine ⟨by omega, hK _ _ ?_⟩ | refine ⟨by omega, by omega, hK _ _ ?_⟩
      clear hK K
      refine AWp.block (AWp.while (fun j : Nat => [(1, .ptr 1 0), (3, .sl .own 1 (strsAV (addsK B (celKeys ((s.counts.take i).flatten ++ s.counts[i].take j))))), (6, .i .i64 i), (7, .i .i64 j)]) (fun j => [(1, [.sl .fro 1 (rowsS s.sets), .sl .fro 1 (rowsK s.counts)])]) (fun j => j ≤ s.counts[i].length) (fun j => s.counts[i].length - j) [1, 3, 6, 7] [1] 0 (by simp) (by simp [countKeys]) ?_)
      intro j hj
      refine AWp.seq ?_
      refine AWp.go [1, 3, 6, 7, 62] [1] fun K hK => ?_
      simp [h]
      first | refine hK _ _ ?_ | refine ⟨by omega, hK _ _ ?_⟩ | refine ⟨by omega, by omega, hK _ _ ?_⟩
      clear hK K
      by_cases g : j < s.counts[i].length
      · refine AWp.cond (t := true) (by first | (simp [g]; done) | (simp [g]; omega)) (fun _ => ?_) (by simp)
        refine AWp.skip ?_
        show AWp _ _ _ _
        refine AWp.seq ?_
        refine AWp.block ?_
        have hfl := flat_le s.counts i h j
        have hal := addsK_len (celKeys ((s.counts.take i).flatten ++ s.counts[i].take j)) B
        rw [celKeys_length] at hal
        obtain ⟨A, hA⟩ : ∃ A, A = addsK B (celKeys ((s.counts.take i).flatten ++ s.counts[i].take j)) := ⟨_, rfl⟩
        have hA2 : addsK B (celKeys ((s.counts.take i).flatten ++ s.counts[i].take (j + 1))) = addK A s.counts[i][j].key := by rw [rows_snoc _ _ h _ g, celKeys_snoc, addsK_append, ← hA]; rfl
        rw [← hA] at hal ⊢
        refine AWp.step [1, 3, 6, 7, 76] [1] [(1, .ptr 1 0), (3, .sl .own 1 (strsAV A)), (6, .i .i64 i), (7, .i .i64 j), (76, .b (!hasS A s.counts[i][j].key))] [(1, [.sl .fro 1 (rowsS s.sets), .sl .fro 1 (rowsK s.counts)])] ?_ ?_
        · simp [h, g]
          refine call_pure (c_ref16_At A s.counts[i][j].key (by omega)) (by simp) ?_
          simp [idxS_neg]
        cases hp : hasS A s.counts[i][j].key
        · refine AWp.cond (t := true) (by simp) (fun _ => ?_) (by simp)
          refine AWp.goLast [1, 3, 6, 7] [1] fun K hK => ?_
          simp [h, g]
          refine ⟨by omega, hK _ _ ?_⟩
          clear hK K
          show AWp _ _ _ _
          refine AWp.goLast [1, 3, 6, 7] [1] fun K hK => ?_
          simp
          first | refine hK _ _ ?_ | refine ⟨by omega, hK _ _ ?_⟩ | refine ⟨by omega, by omega, hK _ _ ?_⟩
          clear hK K
          refine ⟨j + 1, by omega, by omega, ?_⟩
          rw [hA2, addK, hp]
          simp
          exact wrap64 (by omega) (by omega)
        · refine AWp.cond (t := false) (by simp) (by simp) (fun _ => ?_)
          refine AWp.skip ?_
          show AWp _ _ _ _
          refine AWp.goLast [1, 3, 6, 7] [1] fun K hK => ?_
          simp
          first | refine hK _ _ ?_ | refine ⟨by omega, hK _ _ ?_⟩ | refine ⟨by omega, by omega, hK _ _ ?_⟩
          clear hK K
          refine ⟨j + 1, by omega, by omega, ?_⟩
          rw [hA2, addK, hp]
          simp
          exact wrap64 (by omega) (by omega)
      · refine AWp.cond (t := false) (by first | (simp [g]; done) | (simp [g]; omega)) (by simp) (fun _ => ?_)
        refine AWp.exit ?_
        show AWp _ _ _ _
        refine AWp.goLast [1, 3, 6] [1] fun K hK => ?_
        simp
        first | refine hK _ _ ?_ | refine ⟨by omega, hK _ _ ?_⟩ | refine ⟨by omega, by omega, hK _ _ ?_⟩
        clear hK K
        obtain rfl : j = s.counts[i].length := by omega
        refine ⟨i + 1, by omega, by omega, ?_⟩
        rw [rows_end _ _ h]
        simp [countKeys]
        exact wrap64 (by omega) (by omega)
    · refine AWp.cond (t := false) (by first | (simp [h]; done) | (simp [h]; omega)) (by simp) (fun _ => ?_)
      refine AWp.exit ?_
      show AWp _ _ _ _
      obtain rfl : i = s.counts.length := by omega
      rw [List.take_length]
      refine AWp.go [2] [1] fun K hK => ?_
      simp
      first | refine hK _ _ ?_ | refine ⟨by omega, hK _ _ ?_⟩ | refine ⟨by omega, by omega, hK _ _ ?_⟩
      clear hK K
      refine AWp.ret ?_
      simp
end Go.AM
namespace Go.AM
open Go.Proofs
def atB (s : Sta) (c : Cl) (k : ByteArray) : Bool :=
  if c.kind = 4 then !inOf s c.a k || inOf s c.b k
  else if c.kind = 5 then !inOf s c.a k || !inOf s c.b k
  else if c.kind = 7 then decide (numOf s c.a k ≤ c.num)
  else if c.kind = 8 then decide (c.num ≤ numOf s c.a k)
  else if c.kind = 9 then decide (numOf s c.a k ≤ 0) || inOf s c.b k
  else true
def holdsR (s : Sta) (c : Cl) : Bool := if c.kind = 6 then decide (((setOf s c.a).length : Int) ≤ c.num) else (keysS s).all (atB s c)
theorem keysS_len {s : Sta} (h : Few s) : (keysS s).length ≤ 200000 := by
  have h1 := addsK_len (countKeys s.counts) (addsK [] s.sets.flatten)
  have h2 := addsK_len s.sets.flatten []
  have h3 := h.2.1
  have h4 := h.2.2
  unfold countKeys at h1
  rw [celKeys_length] at h1
  simp only [List.length_nil] at h2
  unfold keysS countKeys; omega
def holdsRAt (r : Rul) (s : Sta) (i : Nat) : Bool := match r.cls[i]? with
  | some c => holdsR s c
  | none => false
end Go.AM
namespace Go.AM
open Go.Proofs
def KL (a b : ByteArray) : Prop := a.toList < b.toList
theorem ltK_iff (a b : ByteArray) : ltK a b = true ↔ KL a b := by
  unfold ltK KL
  rw [Go.Proofs.bytesLess_eq]
  simp
theorem KL.trans {a b c : ByteArray} (h1 : KL a b) (h2 : KL b c) : KL a c := List.lt_trans h1 h2
abbrev SortS (l : List ByteArray) : Prop := l.Pairwise KL
theorem hasS_iff (l : List ByteArray) (k : ByteArray) : hasS l k = true ↔ k ∈ l := by
  simp only [hasS, List.any_eq_true, eqK_eq]
  constructor
  · rintro ⟨x, hx, rfl⟩; exact hx
  · intro h; exact ⟨k, h, rfl⟩
theorem placeS_le (l : List ByteArray) (k : ByteArray) : placeS l k ≤ l.length := bsF_le _ _ _ (Nat.zero_le _)
theorem stateB_sets {r : Rul} {s : Sta} (h : stateB r s = true) : (∀ l ∈ s.sets, setB l = true) ∧ ∀ l ∈ s.counts, countB l = true := by
  simp only [stateB, Bool.and_eq_true, List.all_eq_true] at h
  exact ⟨h.1.2, h.2⟩
end Go.AM
namespace Go.AM
open Go.Proofs

theorem c_Clone_Cel (l : List Cel) (hl : l.length ≤ 1000000) : Pure Try.prog 87 [.sl .fro 2 (celsAV l)] (.sl .own 2 (celsAV l)) := by
  refine proc_of (cx Try.prog 8 [0, 2, 4] [2]) 7 [.tmp 2] Try.func87 rfl rfl rfl rfl rfl rfl (Nat.le_refl _) rfl ?_
  refine AWp.go [0] [] fun K hK => ?_
  simp
  first | refine hK _ _ ?_ | refine ⟨by omega, hK _ _ ?_⟩ | refine ⟨by omega, by omega, hK _ _ ?_⟩
  clear hK K
  refine AWp.seq ?_
  refine AWp.go [0, 4] [] fun K hK => ?_
  simp
  refine ⟨fun h0 => hK _ _ ?_, hK _ _ ?_⟩
  · clear hK K
    refine AWp.cond (t := true) (by first | (simp; done) | (simp; omega)) (fun _ => ?_) (by simp)
    refine AWp.go [2] [] fun K hK => ?_
    simp
    first | refine hK _ _ ?_ | refine ⟨by omega, hK _ _ ?_⟩ | refine ⟨by omega, by omega, hK _ _ ?_⟩
    clear hK K
    refine AWp.ret ?_
    simp [h0]
  · clear hK K
    refine AWp.cond (t := false) (by first | (simp; done) | (simp; omega)) (by simp) (fun _ => ?_)
    refine AWp.skip ?_
    show AWp _ _ _ _
    refine AWp.go [2] [] fun K hK => ?_
    simp
    first | refine hK _ _ ?_ | refine ⟨by omega, hK _ _ ?_⟩ | refine ⟨by omega, by omega, hK _ _ ?_⟩
    clear hK K
    refine AWp.ret ?_
    simp
theorem c_Clone_Str (l : List ByteArray) (hl : l.length ≤ 1000000) : Pure Try.prog 52 [.sl .fro 1 (strsAV l)] (.sl .own 1 (strsAV l)) := by
  refine proc_of (cx Try.prog 8 [0, 2, 4] [2]) 7 [.tmp 2] Try.func52 rfl rfl rfl rfl rfl rfl (Nat.le_refl _) rfl ?_
  refine AWp.go [0] [] fun K hK => ?_
  simp
  first | refine hK _ _ ?_ | refine ⟨by omega, hK _ _ ?_⟩ | refine ⟨by omega, by omega, hK _ _ ?_⟩
  clear hK K
  refine AWp.seq ?_
  refine AWp.go [0, 4] [] fun K hK => ?_
  simp
  refine ⟨fun h0 => hK _ _ ?_, hK _ _ ?_⟩
  · clear hK K
    refine AWp.cond (t := true) (by first | (simp; done) | (simp; omega)) (fun _ => ?_) (by simp)
    refine AWp.go [2] [] fun K hK => ?_
    simp
    first | refine hK _ _ ?_ | refine ⟨by omega, hK _ _ ?_⟩ | refine ⟨by omega, by omega, hK _ _ ?_⟩
    clear hK K
    refine AWp.ret ?_
    simp [h0]
  · clear hK K
    refine AWp.cond (t := false) (by first | (simp; done) | (simp; omega)) (by simp) (fun _ => ?_)
    refine AWp.skip ?_
    show AWp _ _ _ _
    refine AWp.go [2] [] fun K hK => ?_
    simp
    first | refine hK _ _ ?_ | refine ⟨by omega, hK _ _ ?_⟩ | refine ⟨by omega, by omega, hK _ _ ?_⟩
    clear hK K
    refine AWp.ret ?_
    simp
theorem c_Clone_StrRow (l : List (List ByteArray)) (hl : l.length ≤ 1000000) : Pure Try.prog 85 [.sl .fro 1 (rowsS l)] (.sl .own 1 (rowsS l)) := by
  refine proc_of (cx Try.prog 8 [0, 2, 4] [2]) 7 [.tmp 2] Try.func85 rfl rfl rfl rfl rfl rfl (Nat.le_refl _) rfl ?_
  refine AWp.go [0] [] fun K hK => ?_
  simp
  first | refine hK _ _ ?_ | refine ⟨by omega, hK _ _ ?_⟩ | refine ⟨by omega, by omega, hK _ _ ?_⟩
  clear hK K
  refine AWp.seq ?_
  refine AWp.go [0, 4] [] fun K hK => ?_
  simp
  refine ⟨fun h0 => hK _ _ ?_, hK _ _ ?_⟩
  · clear hK K
    refine AWp.cond (t := true) (by first | (simp; done) | (simp; omega)) (fun _ => ?_) (by simp)
    refine AWp.go [2] [] fun K hK => ?_
    simp
    first | refine hK _ _ ?_ | refine ⟨by omega, hK _ _ ?_⟩ | refine ⟨by omega, by omega, hK _ _ ?_⟩
    clear hK K
    refine AWp.ret ?_
    simp [h0]
  · clear hK K
    refine AWp.cond (t := false) (by first | (simp; done) | (simp; omega)) (by simp) (fun _ => ?_)
    refine AWp.skip ?_
    show AWp _ _ _ _
    refine AWp.go [2] [] fun K hK => ?_
    simp
    first | refine hK _ _ ?_ | refine ⟨by omega, hK _ _ ?_⟩ | refine ⟨by omega, by omega, hK _ _ ?_⟩
    clear hK K
    refine AWp.ret ?_
    simp
theorem c_Clone_CelRow (l : List (List Cel)) (hl : l.length ≤ 1000000) : Pure Try.prog 86 [.sl .fro 1 (rowsK l)] (.sl .own 1 (rowsK l)) := by
  refine proc_of (cx Try.prog 8 [0, 2, 4] [2]) 7 [.tmp 2] Try.func86 rfl rfl rfl rfl rfl rfl (Nat.le_refl _) rfl ?_
  refine AWp.go [0] [] fun K hK => ?_
  simp
  first | refine hK _ _ ?_ | refine ⟨by omega, hK _ _ ?_⟩ | refine ⟨by omega, by omega, hK _ _ ?_⟩
  clear hK K
  refine AWp.seq ?_
  refine AWp.go [0, 4] [] fun K hK => ?_
  simp
  refine ⟨fun h0 => hK _ _ ?_, hK _ _ ?_⟩
  · clear hK K
    refine AWp.cond (t := true) (by first | (simp; done) | (simp; omega)) (fun _ => ?_) (by simp)
    refine AWp.go [2] [] fun K hK => ?_
    simp
    first | refine hK _ _ ?_ | refine ⟨by omega, hK _ _ ?_⟩ | refine ⟨by omega, by omega, hK _ _ ?_⟩
    clear hK K
    refine AWp.ret ?_
    simp [h0]
  · clear hK K
    refine AWp.cond (t := false) (by first | (simp; done) | (simp; omega)) (by simp) (fun _ => ?_)
    refine AWp.skip ?_
    show AWp _ _ _ _
    refine AWp.go [2] [] fun K hK => ?_
    simp
    first | refine hK _ _ ?_ | refine ⟨by omega, hK _ _ ?_⟩ | refine ⟨by omega, by omega, hK _ _ ?_⟩
    clear hK K
    refine AWp.ret ?_
    simp
theorem Cel_apart : Apart Try.prog 131 := ⟨_, 66, 4, 73, 2, Try.func131, by kernel_rfl, by kernel_rfl, by kernel_rfl, by kernel_rfl, Try.underlying66, Try.sizeOf73⟩
set_option maxRecDepth 8000 in
set_option maxHeartbeats 2000000 in
theorem c_Insert1_Cel (R : List (List AV)) (x X pad : List AV) (i cap c1 : Nat) (hR : Rows 2 R) (hx : Rows 2 [x]) (hcx : Calm X) (hxt : List.take 2 X = x) (hXl : 2 ≤ X.length) (hi : i ≤ R.length) (hpad : Calm pad) (hroom : R.length < cap) (hn : R.length ≤ 1000000) (hp : pad.length = (cap - R.length) * 2) : Proc Try.prog 2 94 [.bs 0 0 R.length cap, .i .i64 i, .bs 1 0 1 c1] [(0, boxF R pad), (1, X)] (.bs 0 0 (R.length + 1) cap) [(0, boxF (R.take i ++ x :: R.drop i) (pad.drop 2)), (1, X)] := by
  have hC : Calm (boxF R pad) := boxF_calm hR hpad
  have hL := boxF_len hR pad
  have hxl : x.length = 2 := (hx x (by simp)).1
  have hxd : allDat x = true := (hx x (by simp)).2.2
  have hw1 : IntKind.i64.wrap ((R.length : Int) + 1) = (R.length : Int) + 1 := wrap64 (by omega) (by omega)
  have hw2 : IntKind.i64.wrap ((i : Int) + 1) = (i : Int) + 1 := wrap64 (by omega) (by omega)
  obtain ⟨T, hT⟩ : ∃ T, T = R.take i ++ x :: R.drop i := ⟨_, rfl⟩
  rw [← hT]
  have hRT : Rows 2 T := by rw [hT]; exact (hR.take i).append (hx.cons (hR.drop i))
  have hCT : Calm (boxF T (pad.drop 2)) := boxF_calm hRT (hpad.drop _)
  refine proc_of (cxb Try.prog 95 2 [0, 1, 2, 6, 7, 8, 9, 16, 22, 31, 68] [] [6]) 92 [.tmp 6] Try.func94 rfl rfl rfl rfl rfl rfl (Nat.le_refl _) rfl ?_
  refine AWp.go [0, 1, 2] [0, 1] fun K hK => ?_
  simp [hC, hcx]
  first | refine hK _ _ ?_ | refine ⟨by omega, hK _ _ ?_⟩ | refine ⟨by omega, by omega, hK _ _ ?_⟩
  clear hK K
  refine AWp.go [0, 1, 2] [0, 1] fun K hK => ?_
  simp [hC, hcx]
  first | refine hK _ _ ?_ | refine ⟨by omega, hK _ _ ?_⟩ | refine ⟨by omega, by omega, hK _ _ ?_⟩
  clear hK K
  refine AWp.go [0, 1, 2, 7] [0, 1] fun K hK => ?_
  simp [hC, hcx]
  first | refine hK _ _ ?_ | refine ⟨by omega, hK _ _ ?_⟩ | refine ⟨by omega, by omega, hK _ _ ?_⟩
  clear hK K
  refine AWp.seq ?_
  refine AWp.go [0, 1, 2, 7, 16] [0, 1] fun K hK => ?_
  simp [hC, hcx]
  first | refine hK _ _ ?_ | refine ⟨by omega, hK _ _ ?_⟩ | refine ⟨by omega, by omega, hK _ _ ?_⟩
  clear hK K
  refine AWp.cond (t := false) (by first | (simp; done) | (simp; omega)) (by simp) (fun _ => ?_)
  refine AWp.skip ?_
  show AWp _ _ _ _
  refine AWp.go [0, 1, 2, 7, 8] [0, 1] fun K hK => ?_
  simp [hC, hcx]
  first | refine hK _ _ ?_ | refine ⟨by omega, hK _ _ ?_⟩ | refine ⟨by omega, by omega, hK _ _ ?_⟩
  clear hK K
  refine AWp.seq ?_
  refine AWp.go [0, 1, 2, 7, 8, 22] [0, 1] fun K hK => ?_
  simp [hC, hcx]
  first | refine hK _ _ ?_ | refine ⟨by omega, hK _ _ ?_⟩ | refine ⟨by omega, by omega, hK _ _ ?_⟩
  clear hK K
  by_cases h : i = R.length
  · refine AWp.cond (t := true) (by first | (simp [h]; done) | (simp [h]; omega)) (fun _ => ?_) (by simp)
    have hgr := boxF_grow (Y := [x]) hR pad
    have hF : AV.freeL (List.take 2 (List.drop (R.length * 2) (boxF R pad))) = true := ((hC.drop _).take _).freeL
    have e : R ++ [x] = T := by rw [hT, h]; simp
    simp [e] at hgr
    refine AWp.go [6] [0, 1] fun K hK => ?_
    simp
    refine append_room ?_
    simp [hF, hgr, hC, hL, hcx, hxl, hxd, hxt, hXl, hCT]
    refine ⟨by omega, by omega, hK _ _ ?_⟩
    clear hK K
    refine AWp.ret ?_
    simp [hCT, hcx]
    intro id cs1 hid
    rw [hid]
    have hc1 : Calm cs1 := by
      split at hid
      · cases hid; exact hCT
      · split at hid
        · cases hid; exact hcx
        · cases hid
    exact ⟨AV.fitsL_refl _, by simpa using hc1.still⟩
  · refine AWp.cond (t := false) (by first | (simp; done) | (simp; omega)) (by simp) (fun _ => ?_)
    refine AWp.skip ?_
    show AWp _ _ _ _
    refine AWp.seq ?_
    refine AWp.go [0, 1, 2, 7, 8, 31] [0, 1] fun K hK => ?_
    simp [hC, hcx, hw1]
    first | refine hK _ _ ?_ | refine ⟨by omega, hK _ _ ?_⟩ | refine ⟨by omega, by omega, hK _ _ ?_⟩
    clear hK K
    refine AWp.cond (t := false) (by first | (simp; done) | (simp; omega)) (by simp) (fun _ => ?_)
    refine AWp.skip ?_
    show AWp _ _ _ _
    refine AWp.go [0, 1, 2, 7, 8] [0, 1] fun K hK => ?_
    simp [hC, hcx, hw1]
    first | refine hK _ _ ?_ | refine ⟨by omega, hK _ _ ?_⟩ | refine ⟨by omega, by omega, hK _ _ ?_⟩
    clear hK K
    refine AWp.seq ?_
    have hne : ¬ cap = i + 1 := by omega
    refine AWp.go [0, 1, 2, 7, 8, 68] [0, 1] fun K hK => ?_
    simp [hne, hw2]
    refine ⟨by omega, ?_⟩
    refine call_apart Cel_apart (by rfl) ⟨by decide, by simp, by simp [hL]; omega⟩ ?_
    simp [hC, hcx]
    refine hK _ _ ?_
    clear hK K
    refine AWp.cond (t := true) (by first | (simp; done) | (simp; omega)) (fun _ => ?_) (by simp)
    have hch := boxF_chunk_all hR pad i hi
    have hda := boxF_dat hR pad i (R.length - i) (by omega)
    have hsh := boxF_shift hR pad i (by omega)
    have hmin : min (R.length + 1 - i) (R.length - i) = R.length - i := by omega
    have hsum := sum_len (hR.drop i)
    simp [-List.length_flatten] at hsum hsh
    have hne2 : ¬ cap = i := by omega
    have hle : i * 2 + (R.length - i) * 2 ≤ R.length * 2 + pad.length := by omega
    have hF : ∀ n, AV.freeL (List.take n (List.drop ((i + 1) * 2) (boxF R pad))) = true := fun n => ((hC.drop _).take n).freeL
    have hle3 : (i + 1) * 2 + (R.length - i) * 2 ≤ R.length * 2 + pad.length := by omega
    obtain ⟨R2, hR2⟩ : ∃ R2, R2 = List.take (i + 1) R ++ List.drop i R := ⟨_, rfl⟩
    rw [← hR2] at hsh
    have hRR : Rows 2 R2 := by rw [hR2]; exact (hR.take _).append (hR.drop _)
    have hCs : Calm (boxF R2 (pad.drop 2)) := boxF_calm hRR (hpad.drop _)
    have hR2l : R2.length = R.length + 1 := by rw [hR2]; simp; omega
    have hL2 := boxF_len hRR (pad.drop 2)
    rw [hR2l, List.length_drop] at hL2
    have hpt := boxF_put (Y := [x]) hRR (pad.drop 2) i (by simp; omega)
    have hRT2 : R2.take i ++ [x] ++ R2.drop (i + [x].length) = T := by
      rw [hT, hR2, List.take_append_of_le_length (by simp; omega), List.take_take, Nat.min_eq_left (by omega), List.drop_append_of_le_length (by simp; omega)]
      simp
    rw [hRT2] at hpt
    simp at hpt
    have hF2 : ∀ n, AV.freeL (List.take n (List.drop (i * 2) (boxF R2 (pad.drop 2)))) = true := fun n => ((hCs.drop _).take n).freeL
    have hle4 : i * 2 + 2 ≤ (R.length + 1) * 2 + (pad.length - 2) := by omega
    have hmin1 : min 1 (R.length + 1 - i) = 1 := by omega
    have hle5 : 1 ≤ R.length + 1 - i := by omega
    refine AWp.stepT (.take 0 (.take 1 (.take 2 (.take 3 (.take 4 (.take 5 (.take 6 (.take 7 (.alt 8 .fin .stop))))))))) [0, 1, 2] [0, 1] [(0, .bs 0 0 (R.length + 1) cap), (1, .i .i64 i), (2, .bs 1 0 1 c1)] [(0, boxF R2 (pad.drop 2)), (1, X)] mix (by kernel_rfl) ?_ ?_
    · refine atree.tk fun K1 h1 => ?_
      simp
      first | refine h1 _ _ ?_ | refine ⟨by omega, h1 _ _ ?_⟩ | refine ⟨by omega, by omega, h1 _ _ ?_⟩
      clear h1 K1
      refine atree.tk fun K1 h1 => ?_
      simp
      first | refine h1 _ _ ?_ | refine ⟨by omega, h1 _ _ ?_⟩ | refine ⟨by omega, by omega, h1 _ _ ?_⟩
      clear h1 K1
      refine atree.tk fun K1 h1 => ?_
      simp
      first | refine h1 _ _ ?_ | refine ⟨by omega, h1 _ _ ?_⟩ | refine ⟨by omega, by omega, h1 _ _ ?_⟩
      clear h1 K1
      refine atree.tk fun K1 h1 => ?_
      simp [hw2]
      first | refine h1 _ _ ?_ | refine ⟨by omega, h1 _ _ ?_⟩ | refine ⟨by omega, by omega, h1 _ _ ?_⟩
      clear h1 K1
      refine atree.tk fun K1 h1 => ?_
      simp [hne]
      first | refine h1 _ _ ?_ | refine ⟨by omega, h1 _ _ ?_⟩ | refine ⟨by omega, by omega, h1 _ _ ?_⟩
      clear h1 K1
      refine atree.tk fun K1 h1 => ?_
      simp
      first | refine h1 _ _ ?_ | refine ⟨by omega, h1 _ _ ?_⟩ | refine ⟨by omega, by omega, h1 _ _ ?_⟩
      clear h1 K1
      refine atree.tk fun K1 h1 => ?_
      simp
      first | refine h1 _ _ ?_ | refine ⟨by omega, h1 _ _ ?_⟩ | refine ⟨by omega, by omega, h1 _ _ ?_⟩
      clear h1 K1
      refine atree.tk fun K1 h1 => ?_
      simp [hne2]
      first | refine h1 _ _ ?_ | refine ⟨by omega, h1 _ _ ?_⟩ | refine ⟨by omega, by omega, h1 _ _ ?_⟩
      clear h1 K1
      refine atree.a1 fun K1 h1 => ?_
      simp [hle, hle3, hF, hmin, hch, hda, hsh, hsum, hL]
      first | refine h1 _ _ ?_ | refine ⟨by omega, h1 _ _ ?_⟩ | refine ⟨by omega, by omega, h1 _ _ ?_⟩
      clear h1 K1
      simp [hCs, hcx]
    refine AWp.go [0] [0, 1] fun K hK => ?_
    simp [hne2, hL2, hpt, hF2, hle4, hmin1, hle5, hcx, hxl, hxd, hxt, hXl, hCT]
    first | refine hK _ _ ?_ | refine ⟨by omega, hK _ _ ?_⟩ | refine ⟨by omega, by omega, hK _ _ ?_⟩
    clear hK K
    refine AWp.go [6] [0, 1] fun K hK => ?_
    simp [hcx, hCT]
    first | refine hK _ _ ?_ | refine ⟨by omega, hK _ _ ?_⟩ | refine ⟨by omega, by omega, hK _ _ ?_⟩
    clear hK K
    refine AWp.ret ?_
    simp [hCT, hcx]
    intro id cs1 hid
    rw [hid]
    have hc1 : Calm cs1 := by
      split at hid
      · cases hid; exact hCT
      · split at hid
        · cases hid; exact hcx
        · cases hid
    exact ⟨AV.fitsL_refl _, by simpa using hc1.still⟩
set_option maxRecDepth 8000 in
set_option maxHeartbeats 2000000 in
theorem c_Insert2_Cel (R : List (List AV)) (x X pad : List AV) (i c1 : Nat) (hR : Rows 2 R) (hx : Rows 2 [x]) (hcx : Calm X) (hxt : List.take 2 X = x) (hXl : 2 ≤ X.length) (hi : i ≤ R.length) (hpad : Calm pad) (hcap : R.length ≤ 1000000) (hp : pad.length = 0) : Proc Try.prog 2 94 [.bs 0 0 R.length R.length, .i .i64 i, .bs 1 0 1 c1] [(0, boxF R pad), (1, X)] (.sl .own 2 (R.take i ++ x :: R.drop i)) [(0, boxF R pad), (1, X)] := by
  have hC : Calm (boxF R pad) := boxF_calm hR hpad
  have hL := boxF_len hR pad
  have hxl : x.length = 2 := (hx x (by simp)).1
  have hxd : allDat x = true := (hx x (by simp)).2.2
  have hw1 : IntKind.i64.wrap ((R.length : Int) + 1) = (R.length : Int) + 1 := wrap64 (by omega) (by omega)
  have hw2 : IntKind.i64.wrap ((i : Int) + 1) = (i : Int) + 1 := wrap64 (by omega) (by omega)
  have hw3 : IntKind.i64.wrap ((R.length : Int) + 1 - i) = (R.length : Int) + 1 - i := wrap64 (by omega) (by omega)
  obtain ⟨T, hT⟩ : ∃ T, T = R.take i ++ x :: R.drop i := ⟨_, rfl⟩
  rw [← hT]
  have hRT : Rows 2 T := by rw [hT]; exact (hR.take i).append (hx.cons (hR.drop i))
  refine proc_of (cxb Try.prog 95 2 [0, 1, 2, 6, 7, 8, 9, 16, 22, 31, 68] [] [6]) 92 [.tmp 6] Try.func94 rfl rfl rfl rfl rfl rfl (Nat.le_refl _) rfl ?_
  refine AWp.go [0, 1, 2] [0, 1] fun K hK => ?_
  simp [hC, hcx]
  first | refine hK _ _ ?_ | refine ⟨by omega, hK _ _ ?_⟩ | refine ⟨by omega, by omega, hK _ _ ?_⟩
  clear hK K
  refine AWp.go [0, 1, 2] [0, 1] fun K hK => ?_
  simp [hC, hcx]
  first | refine hK _ _ ?_ | refine ⟨by omega, hK _ _ ?_⟩ | refine ⟨by omega, by omega, hK _ _ ?_⟩
  clear hK K
  refine AWp.go [0, 1, 2, 7] [0, 1] fun K hK => ?_
  simp [hC, hcx]
  first | refine hK _ _ ?_ | refine ⟨by omega, hK _ _ ?_⟩ | refine ⟨by omega, by omega, hK _ _ ?_⟩
  clear hK K
  refine AWp.seq ?_
  refine AWp.go [0, 1, 2, 7, 16] [0, 1] fun K hK => ?_
  simp [hC, hcx]
  first | refine hK _ _ ?_ | refine ⟨by omega, hK _ _ ?_⟩ | refine ⟨by omega, by omega, hK _ _ ?_⟩
  clear hK K
  refine AWp.cond (t := false) (by first | (simp; done) | (simp; omega)) (by simp) (fun _ => ?_)
  refine AWp.skip ?_
  show AWp _ _ _ _
  refine AWp.go [0, 1, 2, 7, 8] [0, 1] fun K hK => ?_
  simp [hC, hcx]
  first | refine hK _ _ ?_ | refine ⟨by omega, hK _ _ ?_⟩ | refine ⟨by omega, by omega, hK _ _ ?_⟩
  clear hK K
  refine AWp.seq ?_
  refine AWp.go [0, 1, 2, 7, 8, 22] [0, 1] fun K hK => ?_
  simp [hC, hcx]
  first | refine hK _ _ ?_ | refine ⟨by omega, hK _ _ ?_⟩ | refine ⟨by omega, by omega, hK _ _ ?_⟩
  clear hK K
  by_cases h : i = R.length
  · refine AWp.cond (t := true) (by first | (simp [h]; done) | (simp [h]; omega)) (fun _ => ?_) (by simp)
    have hall := boxF_chunk_all hR pad 0 (by omega)
    have hda := boxF_dat hR pad 0 R.length (by omega)
    have e : R ++ [x] = T := by rw [hT, h]; simp
    simp at hall hda
    refine AWp.go [6] [0, 1] fun K hK => ?_
    simp
    refine append_grow ?_
    simp [hall, hda, e, hC, hL, hcx, hxd, hxt, hXl]
    first | refine hK _ _ ?_ | refine ⟨by omega, hK _ _ ?_⟩ | refine ⟨by omega, by omega, hK _ _ ?_⟩
    clear hK K
    refine AWp.ret ?_
    simp [hC, hcx]
    intro id cs1 hid
    rw [hid]
    have hc1 : Calm cs1 := by
      split at hid
      · cases hid; exact hC
      · split at hid
        · cases hid; exact hcx
        · cases hid
    exact ⟨AV.fitsL_refl _, by simpa using hc1.still⟩
  · refine AWp.cond (t := false) (by first | (simp; done) | (simp; omega)) (by simp) (fun _ => ?_)
    refine AWp.skip ?_
    show AWp _ _ _ _
    refine AWp.seq ?_
    refine AWp.go [0, 1, 2, 7, 8, 31] [0, 1] fun K hK => ?_
    simp [hC, hcx, hw1]
    first | refine hK _ _ ?_ | refine ⟨by omega, hK _ _ ?_⟩ | refine ⟨by omega, by omega, hK _ _ ?_⟩
    clear hK K
    refine AWp.cond (t := true) (by first | (simp; done) | (simp; omega)) (fun _ => ?_) (by simp)
    have hall := boxF_chunk hR pad 0 i (by omega)
    have hda := boxF_dat hR pad 0 i (by omega)
    simp at hall hda
    have hle : i * 2 ≤ R.length * 2 + pad.length := by omega
    have htn : ((R.length : Int) + 1 - i).toNat = R.length + 1 - i := by omega
    refine AWp.go [0, 1, 2, 7, 9] [0, 1, 101] fun K hK => ?_
    simp [hw1, hw3]
    refine ⟨by omega, ?_⟩
    refine append_zeros ?_
    simp [hall, hda, hle, htn, hC, hL, hcx]
    refine ⟨by omega, by omega, by omega, hK _ _ ?_⟩
    clear hK K
    obtain ⟨Z, hZ⟩ : ∃ Z : List AV, Z = [.s ByteArray.empty, .i .i64 0] := ⟨_, rfl⟩
    have hzr : Rows 2 [Z] := fun r hr => by rw [List.mem_singleton] at hr; subst hr; rw [hZ]; exact ⟨rfl, fun c hc => by simp at hc; first | (rcases hc with rfl | rfl | rfl <;> rfl) | (rcases hc with rfl | rfl <;> rfl) | (subst hc; rfl), rfl⟩
    rw [← hZ]
    obtain ⟨R1, hR1⟩ : ∃ R1, R1 = List.take i R ++ List.replicate (R.length + 1 - i) Z := ⟨_, rfl⟩
    have hR1l : R1.length = R.length + 1 := by rw [hR1]; simp; omega
    have hr1 : Rows 2 R1 := by rw [hR1]; exact (hR.take _).append (hzr.rep _)
    rw [← hR1]
    refine AWp.unown 9 101 rfl (by simp) (fun h0 => by rw [h0] at hR1l; simp at hR1l) rfl (by simp) fun cap2 hcap2 => ?_
    rw [hR1l] at hcap2
    have e0 : R1.flatten ++ List.replicate ((cap2 - (R.length + 1)) * 2) AV.any = boxF R1 (List.replicate ((cap2 - (R.length + 1)) * 2) AV.any) := rfl
    obtain ⟨pd, hpd⟩ : ∃ pd, pd = List.replicate ((cap2 - (R.length + 1)) * 2) AV.any := ⟨_, rfl⟩
    have hcpd : Calm pd := by rw [hpd]; exact Calm.replicate _ rfl
    rw [← hpd] at e0
    have hC1 : Calm (boxF R1 pd) := boxF_calm hr1 hcpd
    have hL1 := boxF_len hr1 pd
    simp [hR1l, ← hpd, e0]
    have hmin1 : min 1 (R.length + 1 - i) = 1 := by omega
    have hle5 : 1 ≤ R.length + 1 - i := by omega
    have hne2 : ¬ cap2 = i := by omega
    rw [hR1l] at hL1
    have hpt := boxF_put (Y := [x]) hr1 pd i (by simp; omega)
    obtain ⟨R3, hR3⟩ : ∃ R3, R3 = R1.take i ++ [x] ++ R1.drop (i + [x].length) := ⟨_, rfl⟩
    rw [← hR3] at hpt
    simp at hpt
    have hle6 : i * 2 + 2 ≤ (R.length + 1) * 2 + pd.length := by omega
    have hF3 : ∀ n, AV.freeL (List.take n (List.drop (i * 2) (boxF R1 pd))) = true := fun n => ((hC1.drop _).take n).freeL
    have hr3 : Rows 2 R3 := by rw [hR3]; exact ((hr1.take _).append hx).append (hr1.drop _)
    have hR3l : R3.length = R.length + 1 := by rw [hR3]; simp [hR1l]; omega
    have hC3 : Calm (boxF R3 pd) := boxF_calm hr3 hcpd
    have hL3 := boxF_len hr3 pd
    rw [hR3l] at hL3
    refine AWp.go [0, 1, 7, 9] [0, 1, 101] fun K hK => ?_
    simp [hne2, hmin1, hle5, hL1, hF3, hle6, hpt, hC3, hC, hcx, hxl, hxd, hxt, hXl]
    first | refine hK _ _ ?_ | refine ⟨by omega, hK _ _ ?_⟩ | refine ⟨by omega, by omega, hK _ _ ?_⟩
    clear hK K
    have hch := boxF_chunk_all hR pad i hi
    have hda := boxF_dat hR pad i (R.length - i) (by omega)
    have hmin : min (R.length - i) (R.length - i) = R.length - i := by omega
    have hsum := sum_len (hR.drop i)
    have hne3 : ¬ cap2 = i + 1 := by omega
    have hne4 : ¬ R.length = i := by omega
    have hle7 : i * 2 + (R.length - i) * 2 ≤ R.length * 2 + pad.length := by omega
    have hpt2 := boxF_put (Y := R.drop i) hr3 pd (i + 1) (by simp; omega)
    have hRT2 : R3.take (i + 1) ++ R.drop i ++ R3.drop (i + 1 + (R.drop i).length) = T := by
      have h1 : R3.take (i + 1) = R.take i ++ [x] := by
        rw [hR3, List.take_append_of_le_length (by simp; omega), List.take_of_length_le (by simp; omega), hR1, List.take_append_of_le_length (by simp; omega), List.take_take, Nat.min_self]
      have h2 : R3.drop (i + 1 + (R.drop i).length) = [] := List.drop_eq_nil_of_le (by rw [hR3l, List.length_drop]; omega)
      rw [h1, h2, hT]; simp
    rw [hRT2] at hpt2
    simp at hpt2 hsum
    have hF4 : ∀ n, AV.freeL (List.take n (List.drop ((i + 1) * 2) (boxF R3 pd))) = true := fun n => ((hC3.drop _).take n).freeL
    have hle8 : (i + 1) * 2 + (R.length - i) * 2 ≤ (R.length + 1) * 2 + pd.length := by omega
    have hCT : Calm (boxF T pd) := boxF_calm hRT hcpd
    refine AWp.stepT (.take 0 (.take 1 (.take 2 (.take 3 (.take 4 (.take 5 (.take 6 (.take 7 (.alt 8 .fin .stop))))))))) [9] [0, 1, 101] [(9, .bs 101 0 (R.length + 1) cap2)] [(0, boxF R pad), (1, X), (101, boxF T pd)] mix (by kernel_rfl) ?_ ?_
    · refine atree.tk fun K1 h1 => ?_
      simp
      first | refine h1 _ _ ?_ | refine ⟨by omega, h1 _ _ ?_⟩ | refine ⟨by omega, by omega, h1 _ _ ?_⟩
      clear h1 K1
      refine atree.tk fun K1 h1 => ?_
      simp
      first | refine h1 _ _ ?_ | refine ⟨by omega, h1 _ _ ?_⟩ | refine ⟨by omega, by omega, h1 _ _ ?_⟩
      clear h1 K1
      refine atree.tk fun K1 h1 => ?_
      simp
      first | refine h1 _ _ ?_ | refine ⟨by omega, h1 _ _ ?_⟩ | refine ⟨by omega, by omega, h1 _ _ ?_⟩
      clear h1 K1
      refine atree.tk fun K1 h1 => ?_
      simp [hw2]
      first | refine h1 _ _ ?_ | refine ⟨by omega, h1 _ _ ?_⟩ | refine ⟨by omega, by omega, h1 _ _ ?_⟩
      clear h1 K1
      refine atree.tk fun K1 h1 => ?_
      simp [hne3]
      first | refine h1 _ _ ?_ | refine ⟨by omega, h1 _ _ ?_⟩ | refine ⟨by omega, by omega, h1 _ _ ?_⟩
      clear h1 K1
      refine atree.tk fun K1 h1 => ?_
      simp
      first | refine h1 _ _ ?_ | refine ⟨by omega, h1 _ _ ?_⟩ | refine ⟨by omega, by omega, h1 _ _ ?_⟩
      clear h1 K1
      refine atree.tk fun K1 h1 => ?_
      simp
      first | refine h1 _ _ ?_ | refine ⟨by omega, h1 _ _ ?_⟩ | refine ⟨by omega, by omega, h1 _ _ ?_⟩
      clear h1 K1
      refine atree.tk fun K1 h1 => ?_
      simp [hne4]
      first | refine h1 _ _ ?_ | refine ⟨by omega, h1 _ _ ?_⟩ | refine ⟨by omega, by omega, h1 _ _ ?_⟩
      clear h1 K1
      refine atree.a1 fun K1 h1 => ?_
      simp [hch, hda, hmin, hsum, hle7, hpt2, hF4, hle8, hL3, hL]
      first | refine h1 _ _ ?_ | refine ⟨by omega, h1 _ _ ?_⟩ | refine ⟨by omega, by omega, h1 _ _ ?_⟩
      clear h1 K1
      simp [hC, hcx, hCT]
    have hrl : T.flatten.length = T.length * 2 := hRT.flat
    have hTl : T.length = R.length + 1 := by rw [hT]; simp; omega
    have hpl : pd.length = (cap2 - (R.length + 1)) * 2 := by rw [hpd]; simp
    rw [← hTl]
    refine AWp.reown 9 101 cap2 (sz := 2) T pd (by simp) (by simp) rfl ?_ (fun z hz => (hRT z hz).1) ?_ hCT.freeL ?_
    · rw [List.length_append, hrl, hpl]; omega
    · have := boxF_dat hRT [] 0 T.length (by omega)
      unfold allDat boxF at this
      rw [List.append_nil, Nat.zero_mul, List.drop_zero, ← hrl, List.take_length] at this
      exact this
    simp [hC, hcx]
    refine AWp.go [6] [0, 1, 101] fun K hK => ?_
    simp [hC, hcx]
    first | refine hK _ _ ?_ | refine ⟨by omega, hK _ _ ?_⟩ | refine ⟨by omega, by omega, hK _ _ ?_⟩
    clear hK K
    refine AWp.ret ?_
    simp [hC, hcx]
    intro id cs1 hid
    rw [hid]
    have hc1 : Calm cs1 := by
      split at hid
      · cases hid; exact hC
      · split at hid
        · cases hid; exact hcx
        · cases hid
    exact ⟨AV.fitsL_refl _, by simpa using hc1.still⟩
set_option maxRecDepth 8000 in
set_option maxHeartbeats 2000000 in
theorem c_DeleteB_Cel (R : List (List AV)) (pad : List AV) (i j cap : Nat) (hR : Rows 2 R) (hij : i < j) (hj : j ≤ R.length) (hpad : Calm pad) (hc : R.length ≤ cap) (hn : R.length ≤ 1000000) (hp : pad.length = (cap - R.length) * 2) : Proc Try.prog 1 95 [.bs 0 0 R.length cap, .i .i64 i, .i .i64 j] [(0, boxF R pad)] (.bs 0 0 (R.length - (j - i)) cap) [(0, boxF (R.take i ++ R.drop j) (zerosL [.s ByteArray.empty, .i .i64 0] (j - i) ++ pad))] := by
  have hC : Calm (boxF R pad) := boxF_calm hR hpad
  have hL := boxF_len hR pad
  have hin : i ≤ R.length := by omega
  refine proc_of (cxb Try.prog 33 1 [0, 1, 2, 6, 7, 16] [] [6]) 30 [.tmp 6] Try.func95 rfl rfl rfl rfl rfl rfl (Nat.le_refl _) rfl ?_
  refine AWp.go [0, 1, 2] [0] fun K hK => ?_
  simp [hC]
  first | refine hK _ _ ?_ | refine ⟨by omega, hK _ _ ?_⟩ | refine ⟨by omega, by omega, hK _ _ ?_⟩
  clear hK K
  refine AWp.go [0, 1, 2] [0] fun K hK => ?_
  simp [hC]
  refine ⟨by omega, hK _ _ ?_⟩
  clear hK K
  refine AWp.seq ?_
  refine AWp.go [0, 1, 2, 16] [0] fun K hK => ?_
  simp [hC]
  first | refine hK _ _ ?_ | refine ⟨by omega, hK _ _ ?_⟩ | refine ⟨by omega, by omega, hK _ _ ?_⟩
  clear hK K
  refine AWp.cond (t := false) (by first | (simp; done) | (simp; omega)) (by simp) (fun _ => ?_)
  refine AWp.skip ?_
  show AWp _ _ _ _
  refine AWp.go [0, 1, 2, 7] [0] fun K hK => ?_
  simp [hC]
  first | refine hK _ _ ?_ | refine ⟨by omega, hK _ _ ?_⟩ | refine ⟨by omega, by omega, hK _ _ ?_⟩
  clear hK K
  have hch := boxF_chunk_all hR pad j hj
  have hda := boxF_dat hR pad j (R.length - j) (by omega)
  have hpt := boxF_put (Y := R.drop j) hR pad i (by simp; omega)
  obtain ⟨R3, hR3⟩ : ∃ R3, R3 = R.take i ++ R.drop j ++ R.drop (i + (R.drop j).length) := ⟨_, rfl⟩
  rw [← hR3] at hpt
  have hsum := sum_len (hR.drop j)
  simp [-List.length_flatten] at hpt hsum
  have hr3 : Rows 2 R3 := by rw [hR3]; exact ((hR.take _).append (hR.drop _)).append (hR.drop _)
  have hR3l : R3.length = R.length := by rw [hR3]; simp; omega
  have hC3 : Calm (boxF R3 pad) := boxF_calm hr3 hpad
  have hL3 := boxF_len hr3 pad
  rw [hR3l] at hL3
  have hF : ∀ n, AV.freeL (List.take n (List.drop (i * 2) (boxF R pad))) = true := fun n => ((hC.drop _).take n).freeL
  have hle : i * 2 + (R.length - j) * 2 ≤ R.length * 2 + pad.length := by omega
  have hle2 : j * 2 + (R.length - j) * 2 ≤ R.length * 2 + pad.length := by omega
  have hle3 : i + (R.length - j) ≤ cap := by omega
  obtain ⟨m, hm⟩ : ∃ m, m = i + (R.length - j) := ⟨_, rfl⟩
  have hR3t : R3.take m = R.take i ++ R.drop j := by
    rw [hR3, List.take_append_of_le_length (by simp; omega), List.take_of_length_le (by simp; omega)]
  have hch2 : chunk 2 (R.length - j) (List.drop (if cap = j then 0 else j * 2) (boxF R pad)) = R.drop j := by
    split
    · have : R.length - j = 0 := by omega
      have h2 : R.drop j = [] := List.drop_eq_nil_of_le (by omega)
      rw [this, h2]; rfl
    · exact hch
  have hda2 : allDat (List.take ((R.length - j) * 2) (List.drop (if cap = j then 0 else j * 2) (boxF R pad))) = true := by
    split
    · have : R.length - j = 0 := by omega
      rw [this]; simp [allDat]
    · exact hda
  have hle4 : (if cap = j then 0 else j * 2) + (R.length - j) * 2 ≤ R.length * 2 + pad.length := by split <;> omega
  have hnm : ¬ cap = m := by omega
  obtain ⟨Z, hZ⟩ : ∃ Z : List AV, Z = zerosL [.s ByteArray.empty, .i .i64 0] (R.length - m) := ⟨_, rfl⟩
  have hZl : Z.length = (R.length - m) * 2 := by rw [hZ, zerosL_length]; rfl
  have hcz : Calm Z := by rw [hZ]; exact Calm.zeros (fun c hc => by simp at hc; first | (rcases hc with rfl | rfl | rfl <;> rfl) | (rcases hc with rfl | rfl <;> rfl) | (subst hc; rfl)) _
  have hcl := boxF_clear hr3 pad Z m (by omega) (by rw [hZl, hR3l])
  rw [hR3t, hZl] at hcl
  have hrT : Rows 2 (R.take i ++ R.drop j) := (hR.take _).append (hR.drop _)
  have hCT : Calm (boxF (R.take i ++ R.drop j) (Z ++ pad)) := boxF_calm hrT (hcz.append hpad)
  have hF2 : ∀ n, AV.freeL (List.take n (List.drop (m * 2) (boxF R3 pad))) = true := fun n => ((hC3.drop _).take n).freeL
  have hle5 : m * 2 + (R.length - m) * 2 ≤ R.length * 2 + pad.length := by omega
  have hmj : R.length - (j - i) = m := by omega
  have hmj2 : j - i = R.length - m := by omega
  rw [hmj, hmj2, ← hZ]
  refine AWp.stepT (.take 0 (.take 1 (.take 2 (.take 3 (.take 4 (.take 5 (.alt 6 (.take 7 .fin) .stop))))))) [0, 7] [0] [(0, .bs 0 0 m cap), (7, .i .i64 R.length)] [(0, boxF R3 pad)] mix (by kernel_rfl) ?_ ?_
  · refine atree.tk fun K1 h1 => ?_
    simp
    first | refine h1 _ _ ?_ | refine ⟨by omega, h1 _ _ ?_⟩ | refine ⟨by omega, by omega, h1 _ _ ?_⟩
    clear h1 K1
    refine atree.tk fun K1 h1 => ?_
    simp
    first | refine h1 _ _ ?_ | refine ⟨by omega, h1 _ _ ?_⟩ | refine ⟨by omega, by omega, h1 _ _ ?_⟩
    clear h1 K1
    refine atree.tk fun K1 h1 => ?_
    simp
    first | refine h1 _ _ ?_ | refine ⟨by omega, h1 _ _ ?_⟩ | refine ⟨by omega, by omega, h1 _ _ ?_⟩
    clear h1 K1
    refine atree.tk fun K1 h1 => ?_
    simp
    first | refine h1 _ _ ?_ | refine ⟨by omega, h1 _ _ ?_⟩ | refine ⟨by omega, by omega, h1 _ _ ?_⟩
    clear h1 K1
    refine atree.tk fun K1 h1 => ?_
    simp
    first | refine h1 _ _ ?_ | refine ⟨by omega, h1 _ _ ?_⟩ | refine ⟨by omega, by omega, h1 _ _ ?_⟩
    clear h1 K1
    refine atree.tk fun K1 h1 => ?_
    simp
    first | refine h1 _ _ ?_ | refine ⟨by omega, h1 _ _ ?_⟩ | refine ⟨by omega, by omega, h1 _ _ ?_⟩
    clear h1 K1
    refine atree.a1 fun K1 h1 => ?_
    simp
    refine append_room ?_
    simp [hL, hch2, hda2, hle4, hpt, hsum, hF, hle, ← hm]
    first | refine h1 _ _ ?_ | refine ⟨by omega, h1 _ _ ?_⟩ | refine ⟨by omega, by omega, h1 _ _ ?_⟩
    clear h1 K1
    refine atree.tk fun K1 h1 => ?_
    simp [hC3, hC]
    first | refine h1 _ _ ?_ | refine ⟨by omega, h1 _ _ ?_⟩ | refine ⟨by omega, by omega, h1 _ _ ?_⟩
    clear h1 K1
    simp [hC3]
  refine AWp.go [0] [0] fun K hK => ?_
  simp [hL3, hnm, ← hZ, hZl, hcl, hCT, hF2, hle5]
  first | refine hK _ _ ?_ | refine ⟨by omega, hK _ _ ?_⟩ | refine ⟨by omega, by omega, hK _ _ ?_⟩
  clear hK K
  refine AWp.go [6] [0] fun K hK => ?_
  simp [hCT]
  first | refine hK _ _ ?_ | refine ⟨by omega, hK _ _ ?_⟩ | refine ⟨by omega, by omega, hK _ _ ?_⟩
  clear hK K
  refine AWp.ret ?_
  simp [hCT]
  simpa using hCT.still
end Go.AM
namespace Go.AM
open Go.Proofs

theorem Str_apart : Apart Try.prog 128 := ⟨_, 22, 4, 9, 1, Try.func128, by kernel_rfl, by kernel_rfl, by kernel_rfl, by kernel_rfl, Try.underlying22, Try.sizeOf9⟩
set_option maxRecDepth 8000 in
set_option maxHeartbeats 2000000 in
theorem c_Insert1_Str (R : List (List AV)) (x X pad : List AV) (i cap c1 : Nat) (hR : Rows 1 R) (hx : Rows 1 [x]) (hcx : Calm X) (hxt : List.take 1 X = x) (hXl : 1 ≤ X.length) (hi : i ≤ R.length) (hpad : Calm pad) (hroom : R.length < cap) (hn : R.length ≤ 1000000) (hp : pad.length = (cap - R.length)) : Proc Try.prog 2 89 [.bs 0 0 R.length cap, .i .i64 i, .bs 1 0 1 c1] [(0, boxF R pad), (1, X)] (.bs 0 0 (R.length + 1) cap) [(0, boxF (R.take i ++ x :: R.drop i) (pad.tail)), (1, X)] := by
  have hC : Calm (boxF R pad) := boxF_calm hR hpad
  have hL := boxF_len hR pad
  have hxl : x.length = 1 := (hx x (by simp)).1
  have hxd : allDat x = true := (hx x (by simp)).2.2
  have hw1 : IntKind.i64.wrap ((R.length : Int) + 1) = (R.length : Int) + 1 := wrap64 (by omega) (by omega)
  have hw2 : IntKind.i64.wrap ((i : Int) + 1) = (i : Int) + 1 := wrap64 (by omega) (by omega)
  obtain ⟨T, hT⟩ : ∃ T, T = R.take i ++ x :: R.drop i := ⟨_, rfl⟩
  rw [← hT]
  have hRT : Rows 1 T := by rw [hT]; exact (hR.take i).append (hx.cons (hR.drop i))
  have hCT : Calm (boxF T (pad.tail)) := boxF_calm hRT (by have := hpad.drop 1; simpa using this)
  try simp only [Nat.mul_one] at *
  refine proc_of (cxb Try.prog 95 2 [0, 1, 2, 6, 7, 8, 9, 16, 22, 31, 68] [] [6]) 92 [.tmp 6] Try.func89 rfl rfl rfl rfl rfl rfl (Nat.le_refl _) rfl ?_
  refine AWp.go [0, 1, 2] [0, 1] fun K hK => ?_
  simp [hC, hcx]
  first | refine hK _ _ ?_ | refine ⟨by omega, hK _ _ ?_⟩ | refine ⟨by omega, by omega, hK _ _ ?_⟩
  clear hK K
  refine AWp.go [0, 1, 2] [0, 1] fun K hK => ?_
  simp [hC, hcx]
  first | refine hK _ _ ?_ | refine ⟨by omega, hK _ _ ?_⟩ | refine ⟨by omega, by omega, hK _ _ ?_⟩
  clear hK K
  refine AWp.go [0, 1, 2, 7] [0, 1] fun K hK => ?_
  simp [hC, hcx]
  first | refine hK _ _ ?_ | refine ⟨by omega, hK _ _ ?_⟩ | refine ⟨by omega, by omega, hK _ _ ?_⟩
  clear hK K
  refine AWp.seq ?_
  refine AWp.go [0, 1, 2, 7, 16] [0, 1] fun K hK => ?_
  simp [hC, hcx]
  first | refine hK _ _ ?_ | refine ⟨by omega, hK _ _ ?_⟩ | refine ⟨by omega, by omega, hK _ _ ?_⟩
  clear hK K
  refine AWp.cond (t := false) (by first | (simp; done) | (simp; omega)) (by simp) (fun _ => ?_)
  refine AWp.skip ?_
  show AWp _ _ _ _
  refine AWp.go [0, 1, 2, 7, 8] [0, 1] fun K hK => ?_
  simp [hC, hcx]
  first | refine hK _ _ ?_ | refine ⟨by omega, hK _ _ ?_⟩ | refine ⟨by omega, by omega, hK _ _ ?_⟩
  clear hK K
  refine AWp.seq ?_
  refine AWp.go [0, 1, 2, 7, 8, 22] [0, 1] fun K hK => ?_
  simp [hC, hcx]
  first | refine hK _ _ ?_ | refine ⟨by omega, hK _ _ ?_⟩ | refine ⟨by omega, by omega, hK _ _ ?_⟩
  clear hK K
  by_cases h : i = R.length
  · refine AWp.cond (t := true) (by first | (simp [h]; done) | (simp [h]; omega)) (fun _ => ?_) (by simp)
    have hgr := boxF_grow (Y := [x]) hR pad
    have hF : AV.freeL (List.take 1 (List.drop (R.length) (boxF R pad))) = true := ((hC.drop _).take _).freeL
    have e : R ++ [x] = T := by rw [hT, h]; simp
    simp [e] at hgr
    try simp only at *
    refine AWp.go [6] [0, 1] fun K hK => ?_
    simp
    refine append_room ?_
    simp [hF, hgr, hC, hL, hcx, hxl, hxd, hxt, hXl, hCT]
    refine ⟨by omega, by omega, hK _ _ ?_⟩
    clear hK K
    refine AWp.ret ?_
    simp [hCT, hcx]
    intro id cs1 hid
    rw [hid]
    have hc1 : Calm cs1 := by
      split at hid
      · cases hid; exact hCT
      · split at hid
        · cases hid; exact hcx
        · cases hid
    exact ⟨AV.fitsL_refl _, by simpa using hc1.still⟩
  · refine AWp.cond (t := false) (by first | (simp; done) | (simp; omega)) (by simp) (fun _ => ?_)
    refine AWp.skip ?_
    show AWp _ _ _ _
    refine AWp.seq ?_
    refine AWp.go [0, 1, 2, 7, 8, 31] [0, 1] fun K hK => ?_
    simp [hC, hcx, hw1]
    first | refine hK _ _ ?_ | refine ⟨by omega, hK _ _ ?_⟩ | refine ⟨by omega, by omega, hK _ _ ?_⟩
    clear hK K
    refine AWp.cond (t := false) (by first | (simp; done) | (simp; omega)) (by simp) (fun _ => ?_)
    refine AWp.skip ?_
    show AWp _ _ _ _
    refine AWp.go [0, 1, 2, 7, 8] [0, 1] fun K hK => ?_
    simp [hC, hcx, hw1]
    first | refine hK _ _ ?_ | refine ⟨by omega, hK _ _ ?_⟩ | refine ⟨by omega, by omega, hK _ _ ?_⟩
    clear hK K
    refine AWp.seq ?_
    have hne : ¬ cap = i + 1 := by omega
    try simp only at *
    refine AWp.go [0, 1, 2, 7, 8, 68] [0, 1] fun K hK => ?_
    simp [hne, hw2]
    refine ⟨by omega, ?_⟩
    refine call_apart Str_apart (by rfl) ⟨by decide, by simp, by simp [hL]; intro h1 h2; subst h1; subst h2; simp at hp; simp at hroom; omega⟩ ?_
    simp [hC, hcx]
    refine hK _ _ ?_
    clear hK K
    refine AWp.cond (t := true) (by first | (simp; done) | (simp; omega)) (fun _ => ?_) (by simp)
    have hch := boxF_chunk_all hR pad i hi
    have hda := boxF_dat hR pad i (R.length - i) (by omega)
    have hsh := boxF_shift hR pad i (by omega)
    have hmin : min (R.length + 1 - i) (R.length - i) = R.length - i := by omega
    have hsum := sum_len (hR.drop i)
    simp [-List.length_flatten] at hsum hsh
    have hne2 : ¬ cap = i := by omega
    have hle : i + (R.length - i) ≤ R.length + pad.length := by omega
    have hF : ∀ n, AV.freeL (List.take n (List.drop ((i + 1)) (boxF R pad))) = true := fun n => ((hC.drop _).take n).freeL
    have hle3 : (i + 1) + (R.length - i) ≤ R.length + pad.length := by omega
    obtain ⟨R2, hR2⟩ : ∃ R2, R2 = List.take (i + 1) R ++ List.drop i R := ⟨_, rfl⟩
    rw [← hR2] at hsh
    have hRR : Rows 1 R2 := by rw [hR2]; exact (hR.take _).append (hR.drop _)
    have hCs : Calm (boxF R2 (pad.tail)) := boxF_calm hRR (by have := hpad.drop 1; simpa using this)
    have hR2l : R2.length = R.length + 1 := by rw [hR2]; simp; omega
    have hL2 := boxF_len hRR (pad.tail)
    rw [hR2l, List.length_tail] at hL2
    have hpt := boxF_put (Y := [x]) hRR (pad.tail) i (by simp; omega)
    have hRT2 : R2.take i ++ [x] ++ R2.drop (i + [x].length) = T := by
      rw [hT, hR2, List.take_append_of_le_length (by simp; omega), List.take_take, Nat.min_eq_left (by omega), List.drop_append_of_le_length (by simp; omega)]
      simp
    rw [hRT2] at hpt
    simp at hpt
    have hF2 : ∀ n, AV.freeL (List.take n (List.drop (i) (boxF R2 (pad.tail)))) = true := fun n => ((hCs.drop _).take n).freeL
    have hle4 : i + 1 ≤ (R.length + 1) + (pad.length - 1) := by omega
    have hmin1 : min 1 (R.length + 1 - i) = 1 := by omega
    have hle5 : 1 ≤ R.length + 1 - i := by omega
    try simp only [Nat.mul_one] at *
    refine AWp.stepT (.take 0 (.take 1 (.take 2 (.take 3 (.take 4 (.take 5 (.take 6 (.take 7 (.alt 8 .fin .stop))))))))) [0, 1, 2] [0, 1] [(0, .bs 0 0 (R.length + 1) cap), (1, .i .i64 i), (2, .bs 1 0 1 c1)] [(0, boxF R2 (pad.tail)), (1, X)] mix (by kernel_rfl) ?_ ?_
    · refine atree.tk fun K1 h1 => ?_
      simp
      first | refine h1 _ _ ?_ | refine ⟨by omega, h1 _ _ ?_⟩ | refine ⟨by omega, by omega, h1 _ _ ?_⟩
      clear h1 K1
      refine atree.tk fun K1 h1 => ?_
      simp
      first | refine h1 _ _ ?_ | refine ⟨by omega, h1 _ _ ?_⟩ | refine ⟨by omega, by omega, h1 _ _ ?_⟩
      clear h1 K1
      refine atree.tk fun K1 h1 => ?_
      simp
      first | refine h1 _ _ ?_ | refine ⟨by omega, h1 _ _ ?_⟩ | refine ⟨by omega, by omega, h1 _ _ ?_⟩
      clear h1 K1
      refine atree.tk fun K1 h1 => ?_
      simp [hw2]
      first | refine h1 _ _ ?_ | refine ⟨by omega, h1 _ _ ?_⟩ | refine ⟨by omega, by omega, h1 _ _ ?_⟩
      clear h1 K1
      refine atree.tk fun K1 h1 => ?_
      simp [hne]
      first | refine h1 _ _ ?_ | refine ⟨by omega, h1 _ _ ?_⟩ | refine ⟨by omega, by omega, h1 _ _ ?_⟩
      clear h1 K1
      refine atree.tk fun K1 h1 => ?_
      simp
      first | refine h1 _ _ ?_ | refine ⟨by omega, h1 _ _ ?_⟩ | refine ⟨by omega, by omega, h1 _ _ ?_⟩
      clear h1 K1
      refine atree.tk fun K1 h1 => ?_
      simp
      first | refine h1 _ _ ?_ | refine ⟨by omega, h1 _ _ ?_⟩ | refine ⟨by omega, by omega, h1 _ _ ?_⟩
      clear h1 K1
      refine atree.tk fun K1 h1 => ?_
      simp [hne2]
      first | refine h1 _ _ ?_ | refine ⟨by omega, h1 _ _ ?_⟩ | refine ⟨by omega, by omega, h1 _ _ ?_⟩
      clear h1 K1
      refine atree.a1 fun K1 h1 => ?_
      simp [hle, hle3, hF, hmin, hch, hda, hsh, hsum, hL]
      first | refine h1 _ _ ?_ | refine ⟨by omega, h1 _ _ ?_⟩ | refine ⟨by omega, by omega, h1 _ _ ?_⟩
      clear h1 K1
      simp [hCs, hcx]
    refine AWp.go [0] [0, 1] fun K hK => ?_
    simp [hne2, hL2, hpt, hF2, hle4, hmin1, hle5, hcx, hxl, hxd, hxt, hXl, hCT]
    first | refine hK _ _ ?_ | refine ⟨by omega, hK _ _ ?_⟩ | refine ⟨by omega, by omega, hK _ _ ?_⟩
    clear hK K
    refine AWp.go [6] [0, 1] fun K hK => ?_
    simp [hcx, hCT]
    first | refine hK _ _ ?_ | refine ⟨by omega, hK _ _ ?_⟩ | refine ⟨by omega, by omega, hK _ _ ?_⟩
    clear hK K
    refine AWp.ret ?_
    simp [hCT, hcx]
    intro id cs1 hid
    rw [hid]
    have hc1 : Calm cs1 := by
      split at hid
      · cases hid; exact hCT
      · split at hid
        · cases hid; exact hcx
        · cases hid
    exact ⟨AV.fitsL_refl _, by simpa using hc1.still⟩
set_option maxRecDepth 8000 in
set_option maxHeartbeats 2000000 in
theorem c_Insert2_Str (R : List (List AV)) (x X pad : List AV) (i c1 : Nat) (hR : Rows 1 R) (hx : Rows 1 [x]) (hcx : Calm X) (hxt : List.take 1 X = x) (hXl : 1 ≤ X.length) (hi : i ≤ R.length) (hpad : Calm pad) (hcap : R.length ≤ 1000000) (hp : pad.length = 0) : Proc Try.prog 2 89 [.bs 0 0 R.length R.length, .i .i64 i, .bs 1 0 1 c1] [(0, boxF R pad), (1, X)] (.sl .own 1 (R.take i ++ x :: R.drop i)) [(0, boxF R pad), (1, X)] := by
  have hC : Calm (boxF R pad) := boxF_calm hR hpad
  have hL := boxF_len hR pad
  have hxl : x.length = 1 := (hx x (by simp)).1
  have hxd : allDat x = true := (hx x (by simp)).2.2
  have hw1 : IntKind.i64.wrap ((R.length : Int) + 1) = (R.length : Int) + 1 := wrap64 (by omega) (by omega)
  have hw2 : IntKind.i64.wrap ((i : Int) + 1) = (i : Int) + 1 := wrap64 (by omega) (by omega)
  have hw3 : IntKind.i64.wrap ((R.length : Int) + 1 - i) = (R.length : Int) + 1 - i := wrap64 (by omega) (by omega)
  obtain ⟨T, hT⟩ : ∃ T, T = R.take i ++ x :: R.drop i := ⟨_, rfl⟩
  rw [← hT]
  have hRT : Rows 1 T := by rw [hT]; exact (hR.take i).append (hx.cons (hR.drop i))
  try simp only [Nat.mul_one] at *
  refine proc_of (cxb Try.prog 95 2 [0, 1, 2, 6, 7, 8, 9, 16, 22, 31, 68] [] [6]) 92 [.tmp 6] Try.func89 rfl rfl rfl rfl rfl rfl (Nat.le_refl _) rfl ?_
  refine AWp.go [0, 1, 2] [0, 1] fun K hK => ?_
  simp [hC, hcx]
  first | refine hK _ _ ?_ | refine ⟨by omega, hK _ _ ?_⟩ | refine ⟨by omega, by omega, hK _ _ ?_⟩
  clear hK K
  refine AWp.go [0, 1, 2] [0, 1] fun K hK => ?_
  simp [hC, hcx]
  first | refine hK _ _ ?_ | refine ⟨by omega, hK _ _ ?_⟩ | refine ⟨by omega, by omega, hK _ _ ?_⟩
  clear hK K
  refine AWp.go [0, 1, 2, 7] [0, 1] fun K hK => ?_
  simp [hC, hcx]
  first | refine hK _ _ ?_ | refine ⟨by omega, hK _ _ ?_⟩ | refine ⟨by omega, by omega, hK _ _ ?_⟩
  clear hK K
  refine AWp.seq ?_
  refine AWp.go [0, 1, 2, 7, 16] [0, 1] fun K hK => ?_
  simp [hC, hcx]
  first | refine hK _ _ ?_ | refine ⟨by omega, hK _ _ ?_⟩ | refine ⟨by omega, by omega, hK _ _ ?_⟩
  clear hK K
  refine AWp.cond (t := false) (by first | (simp; done) | (simp; omega)) (by simp) (fun _ => ?_)
  refine AWp.skip ?_
  show AWp _ _ _ _
  refine AWp.go [0, 1, 2, 7, 8] [0, 1] fun K hK => ?_
  simp [hC, hcx]
  first | refine hK _ _ ?_ | refine ⟨by omega, hK _ _ ?_⟩ | refine ⟨by omega, by omega, hK _ _ ?_⟩
  clear hK K
  refine AWp.seq ?_
  refine AWp.go [0, 1, 2, 7, 8, 22] [0, 1] fun K hK => ?_
  simp [hC, hcx]
  first | refine hK _ _ ?_ | refine ⟨by omega, hK _ _ ?_⟩ | refine ⟨by omega, by omega, hK _ _ ?_⟩
  clear hK K
  by_cases h : i = R.length
  · refine AWp.cond (t := true) (by first | (simp [h]; done) | (simp [h]; omega)) (fun _ => ?_) (by simp)
    have hall := boxF_chunk_all hR pad 0 (by omega)
    have hda := boxF_dat hR pad 0 R.length (by omega)
    have e : R ++ [x] = T := by rw [hT, h]; simp
    simp at hall hda
    try simp only at *
    refine AWp.go [6] [0, 1] fun K hK => ?_
    simp
    refine append_grow ?_
    simp [hall, hda, e, hC, hL, hcx, hxd, hxt, hXl]
    first | refine hK _ _ ?_ | refine ⟨by omega, hK _ _ ?_⟩ | refine ⟨by omega, by omega, hK _ _ ?_⟩
    clear hK K
    refine AWp.ret ?_
    simp [hC, hcx]
    intro id cs1 hid
    rw [hid]
    have hc1 : Calm cs1 := by
      split at hid
      · cases hid; exact hC
      · split at hid
        · cases hid; exact hcx
        · cases hid
    exact ⟨AV.fitsL_refl _, by simpa using hc1.still⟩
  · refine AWp.cond (t := false) (by first | (simp; done) | (simp; omega)) (by simp) (fun _ => ?_)
    refine AWp.skip ?_
    show AWp _ _ _ _
    refine AWp.seq ?_
    refine AWp.go [0, 1, 2, 7, 8, 31] [0, 1] fun K hK => ?_
    simp [hC, hcx, hw1]
    first | refine hK _ _ ?_ | refine ⟨by omega, hK _ _ ?_⟩ | refine ⟨by omega, by omega, hK _ _ ?_⟩
    clear hK K
    refine AWp.cond (t := true) (by first | (simp; done) | (simp; omega)) (fun _ => ?_) (by simp)
    have hall := boxF_chunk hR pad 0 i (by omega)
    have hda := boxF_dat hR pad 0 i (by omega)
    simp at hall hda
    have hle : i ≤ R.length + pad.length := by omega
    have htn : ((R.length : Int) + 1 - i).toNat = R.length + 1 - i := by omega
    try simp only at *
    refine AWp.go [0, 1, 2, 7, 9] [0, 1, 101] fun K hK => ?_
    simp [hw1, hw3]
    refine ⟨by omega, ?_⟩
    refine append_zeros ?_
    simp [hall, hda, hle, htn, hC, hL, hcx]
    refine ⟨by omega, by omega, by omega, hK _ _ ?_⟩
    clear hK K
    obtain ⟨Z, hZ⟩ : ∃ Z : List AV, Z = [.s ByteArray.empty] := ⟨_, rfl⟩
    have hzr : Rows 1 [Z] := fun r hr => by rw [List.mem_singleton] at hr; subst hr; rw [hZ]; exact ⟨rfl, fun c hc => by simp at hc; first | (rcases hc with rfl | rfl | rfl <;> rfl) | (rcases hc with rfl | rfl <;> rfl) | (subst hc; rfl), rfl⟩
    rw [← hZ]
    obtain ⟨R1, hR1⟩ : ∃ R1, R1 = List.take i R ++ List.replicate (R.length + 1 - i) Z := ⟨_, rfl⟩
    have hR1l : R1.length = R.length + 1 := by rw [hR1]; simp; omega
    have hr1 : Rows 1 R1 := by rw [hR1]; exact (hR.take _).append (hzr.rep _)
    rw [← hR1]
    refine AWp.unown 9 101 rfl (by simp) (fun h0 => by rw [h0] at hR1l; simp at hR1l) rfl (by simp) fun cap2 hcap2 => ?_
    rw [hR1l] at hcap2
    have e0 : R1.flatten ++ List.replicate ((cap2 - (R.length + 1))) AV.any = boxF R1 (List.replicate ((cap2 - (R.length + 1))) AV.any) := rfl
    obtain ⟨pd, hpd⟩ : ∃ pd, pd = List.replicate ((cap2 - (R.length + 1))) AV.any := ⟨_, rfl⟩
    have hcpd : Calm pd := by rw [hpd]; exact Calm.replicate _ rfl
    rw [← hpd] at e0
    have hC1 : Calm (boxF R1 pd) := boxF_calm hr1 hcpd
    have hL1 := boxF_len hr1 pd
    simp [hR1l, ← hpd, e0]
    have hmin1 : min 1 (R.length + 1 - i) = 1 := by omega
    have hle5 : 1 ≤ R.length + 1 - i := by omega
    have hne2 : ¬ cap2 = i := by omega
    rw [hR1l] at hL1
    have hpt := boxF_put (Y := [x]) hr1 pd i (by simp; omega)
    obtain ⟨R3, hR3⟩ : ∃ R3, R3 = R1.take i ++ [x] ++ R1.drop (i + [x].length) := ⟨_, rfl⟩
    rw [← hR3] at hpt
    simp at hpt
    have hle6 : i + 1 ≤ (R.length + 1) + pd.length := by omega
    have hF3 : ∀ n, AV.freeL (List.take n (List.drop (i) (boxF R1 pd))) = true := fun n => ((hC1.drop _).take n).freeL
    have hr3 : Rows 1 R3 := by rw [hR3]; exact ((hr1.take _).append hx).append (hr1.drop _)
    have hR3l : R3.length = R.length + 1 := by rw [hR3]; simp [hR1l]; omega
    have hC3 : Calm (boxF R3 pd) := boxF_calm hr3 hcpd
    have hL3 := boxF_len hr3 pd
    rw [hR3l] at hL3
    try simp only [Nat.mul_one] at *
    refine AWp.go [0, 1, 7, 9] [0, 1, 101] fun K hK => ?_
    simp [hne2, hmin1, hle5, hL1, hF3, hle6, hpt, hC3, hC, hcx, hxl, hxd, hxt, hXl]
    first | refine hK _ _ ?_ | refine ⟨by omega, hK _ _ ?_⟩ | refine ⟨by omega, by omega, hK _ _ ?_⟩
    clear hK K
    have hch := boxF_chunk_all hR pad i hi
    have hda := boxF_dat hR pad i (R.length - i) (by omega)
    have hmin : min (R.length - i) (R.length - i) = R.length - i := by omega
    have hsum := sum_len (hR.drop i)
    have hne3 : ¬ cap2 = i + 1 := by omega
    have hne4 : ¬ R.length = i := by omega
    have hle7 : i + (R.length - i) ≤ R.length + pad.length := by omega
    have hpt2 := boxF_put (Y := R.drop i) hr3 pd (i + 1) (by simp; omega)
    have hRT2 : R3.take (i + 1) ++ R.drop i ++ R3.drop (i + 1 + (R.drop i).length) = T := by
      have h1 : R3.take (i + 1) = R.take i ++ [x] := by
        rw [hR3, List.take_append_of_le_length (by simp; omega), List.take_of_length_le (by simp; omega), hR1, List.take_append_of_le_length (by simp; omega), List.take_take, Nat.min_self]
      have h2 : R3.drop (i + 1 + (R.drop i).length) = [] := List.drop_eq_nil_of_le (by rw [hR3l, List.length_drop]; omega)
      rw [h1, h2, hT]; simp
    rw [hRT2] at hpt2
    simp at hpt2 hsum
    have hF4 : ∀ n, AV.freeL (List.take n (List.drop ((i + 1)) (boxF R3 pd))) = true := fun n => ((hC3.drop _).take n).freeL
    have hle8 : (i + 1) + (R.length - i) ≤ (R.length + 1) + pd.length := by omega
    have hCT : Calm (boxF T pd) := boxF_calm hRT hcpd
    try simp only [Nat.mul_one] at *
    refine AWp.stepT (.take 0 (.take 1 (.take 2 (.take 3 (.take 4 (.take 5 (.take 6 (.take 7 (.alt 8 .fin .stop))))))))) [9] [0, 1, 101] [(9, .bs 101 0 (R.length + 1) cap2)] [(0, boxF R pad), (1, X), (101, boxF T pd)] mix (by kernel_rfl) ?_ ?_
    · refine atree.tk fun K1 h1 => ?_
      simp
      first | refine h1 _ _ ?_ | refine ⟨by omega, h1 _ _ ?_⟩ | refine ⟨by omega, by omega, h1 _ _ ?_⟩
      clear h1 K1
      refine atree.tk fun K1 h1 => ?_
      simp
      first | refine h1 _ _ ?_ | refine ⟨by omega, h1 _ _ ?_⟩ | refine ⟨by omega, by omega, h1 _ _ ?_⟩
      clear h1 K1
      refine atree.tk fun K1 h1 => ?_
      simp
      first | refine h1 _ _ ?_ | refine ⟨by omega, h1 _ _ ?_⟩ | refine ⟨by omega, by omega, h1 _ _ ?_⟩
      clear h1 K1
      refine atree.tk fun K1 h1 => ?_
      simp [hw2]
      first | refine h1 _ _ ?_ | refine ⟨by omega, h1 _ _ ?_⟩ | refine ⟨by omega, by omega, h1 _ _ ?_⟩
      clear h1 K1
      refine atree.tk fun K1 h1 => ?_
      simp [hne3]
      first | refine h1 _ _ ?_ | refine ⟨by omega, h1 _ _ ?_⟩ | refine ⟨by omega, by omega, h1 _ _ ?_⟩
      clear h1 K1
      refine atree.tk fun K1 h1 => ?_
      simp
      first | refine h1 _ _ ?_ | refine ⟨by omega, h1 _ _ ?_⟩ | refine ⟨by omega, by omega, h1 _ _ ?_⟩
      clear h1 K1
      refine atree.tk fun K1 h1 => ?_
      simp
      first | refine h1 _ _ ?_ | refine ⟨by omega, h1 _ _ ?_⟩ | refine ⟨by omega, by omega, h1 _ _ ?_⟩
      clear h1 K1
      refine atree.tk fun K1 h1 => ?_
      simp [hne4]
      first | refine h1 _ _ ?_ | refine ⟨by omega, h1 _ _ ?_⟩ | refine ⟨by omega, by omega, h1 _ _ ?_⟩
      clear h1 K1
      refine atree.a1 fun K1 h1 => ?_
      simp [hch, hda, hmin, hsum, hle7, hpt2, hF4, hle8, hL3, hL]
      first | refine h1 _ _ ?_ | refine ⟨by omega, h1 _ _ ?_⟩ | refine ⟨by omega, by omega, h1 _ _ ?_⟩
      clear h1 K1
      simp [hC, hcx, hCT]
    have hrl : T.flatten.length = T.length := by simpa using hRT.flat
    have hTl : T.length = R.length + 1 := by rw [hT]; simp; omega
    have hpl : pd.length = (cap2 - (R.length + 1)) := by rw [hpd]; simp
    rw [← hTl]
    refine AWp.reown 9 101 cap2 (sz := 1) T pd (by simp) (by simp) rfl ?_ (fun z hz => (hRT z hz).1) ?_ hCT.freeL ?_
    · rw [List.length_append, hrl, hpl]; omega
    · have := boxF_dat hRT [] 0 T.length (by omega)
      unfold allDat boxF at this
      rw [List.append_nil, Nat.zero_mul, List.drop_zero, Nat.mul_one, ← hrl, List.take_length] at this
      exact this
    simp [hC, hcx]
    try simp only [Nat.mul_one, List.drop_one] at *
    refine AWp.go [6] [0, 1, 101] fun K hK => ?_
    simp [hC, hcx]
    first | refine hK _ _ ?_ | refine ⟨by omega, hK _ _ ?_⟩ | refine ⟨by omega, by omega, hK _ _ ?_⟩
    clear hK K
    refine AWp.ret ?_
    simp [hC, hcx]
    intro id cs1 hid
    rw [hid]
    have hc1 : Calm cs1 := by
      split at hid
      · cases hid; exact hC
      · split at hid
        · cases hid; exact hcx
        · cases hid
    exact ⟨AV.fitsL_refl _, by simpa using hc1.still⟩
set_option maxRecDepth 8000 in
set_option maxHeartbeats 2000000 in
theorem c_DeleteB_Str (R : List (List AV)) (pad : List AV) (i j cap : Nat) (hR : Rows 1 R) (hij : i < j) (hj : j ≤ R.length) (hpad : Calm pad) (hc : R.length ≤ cap) (hn : R.length ≤ 1000000) (hp : pad.length = (cap - R.length)) : Proc Try.prog 1 90 [.bs 0 0 R.length cap, .i .i64 i, .i .i64 j] [(0, boxF R pad)] (.bs 0 0 (R.length - (j - i)) cap) [(0, boxF (R.take i ++ R.drop j) (zerosL [.s ByteArray.empty] (j - i) ++ pad))] := by
  have hC : Calm (boxF R pad) := boxF_calm hR hpad
  have hL := boxF_len hR pad
  have hin : i ≤ R.length := by omega
  try simp only [Nat.mul_one] at *
  refine proc_of (cxb Try.prog 33 1 [0, 1, 2, 6, 7, 16] [] [6]) 30 [.tmp 6] Try.func90 rfl rfl rfl rfl rfl rfl (Nat.le_refl _) rfl ?_
  refine AWp.go [0, 1, 2] [0] fun K hK => ?_
  simp [hC]
  first | refine hK _ _ ?_ | refine ⟨by omega, hK _ _ ?_⟩ | refine ⟨by omega, by omega, hK _ _ ?_⟩
  clear hK K
  refine AWp.go [0, 1, 2] [0] fun K hK => ?_
  simp [hC]
  refine ⟨by omega, hK _ _ ?_⟩
  clear hK K
  refine AWp.seq ?_
  refine AWp.go [0, 1, 2, 16] [0] fun K hK => ?_
  simp [hC]
  first | refine hK _ _ ?_ | refine ⟨by omega, hK _ _ ?_⟩ | refine ⟨by omega, by omega, hK _ _ ?_⟩
  clear hK K
  refine AWp.cond (t := false) (by first | (simp; done) | (simp; omega)) (by simp) (fun _ => ?_)
  refine AWp.skip ?_
  show AWp _ _ _ _
  refine AWp.go [0, 1, 2, 7] [0] fun K hK => ?_
  simp [hC]
  first | refine hK _ _ ?_ | refine ⟨by omega, hK _ _ ?_⟩ | refine ⟨by omega, by omega, hK _ _ ?_⟩
  clear hK K
  have hch := boxF_chunk_all hR pad j hj
  have hda := boxF_dat hR pad j (R.length - j) (by omega)
  have hpt := boxF_put (Y := R.drop j) hR pad i (by simp; omega)
  obtain ⟨R3, hR3⟩ : ∃ R3, R3 = R.take i ++ R.drop j ++ R.drop (i + (R.drop j).length) := ⟨_, rfl⟩
  rw [← hR3] at hpt
  have hsum := sum_len (hR.drop j)
  simp [-List.length_flatten] at hpt hsum
  have hr3 : Rows 1 R3 := by rw [hR3]; exact ((hR.take _).append (hR.drop _)).append (hR.drop _)
  have hR3l : R3.length = R.length := by rw [hR3]; simp; omega
  have hC3 : Calm (boxF R3 pad) := boxF_calm hr3 hpad
  have hL3 := boxF_len hr3 pad
  rw [hR3l] at hL3
  have hF : ∀ n, AV.freeL (List.take n (List.drop (i) (boxF R pad))) = true := fun n => ((hC.drop _).take n).freeL
  have hle : i + (R.length - j) ≤ R.length + pad.length := by omega
  have hle2 : j + (R.length - j) ≤ R.length + pad.length := by omega
  have hle3 : i + (R.length - j) ≤ cap := by omega
  obtain ⟨m, hm⟩ : ∃ m, m = i + (R.length - j) := ⟨_, rfl⟩
  have hR3t : R3.take m = R.take i ++ R.drop j := by
    rw [hR3, List.take_append_of_le_length (by simp; omega), List.take_of_length_le (by simp; omega)]
  have hch2 : chunk 1 (R.length - j) (List.drop (if cap = j then 0 else j) (boxF R pad)) = R.drop j := by
    split
    · have : R.length - j = 0 := by omega
      have h2 : R.drop j = [] := List.drop_eq_nil_of_le (by omega)
      rw [this, h2]; rfl
    · simpa using hch
  have hda2 : allDat (List.take ((R.length - j)) (List.drop (if cap = j then 0 else j) (boxF R pad))) = true := by
    split
    · have : R.length - j = 0 := by omega
      rw [this]; simp [allDat]
    · simpa using hda
  have hle4 : (if cap = j then 0 else j) + (R.length - j) ≤ R.length + pad.length := by split <;> omega
  have hnm : ¬ cap = m := by omega
  obtain ⟨Z, hZ⟩ : ∃ Z : List AV, Z = zerosL [.s ByteArray.empty] (R.length - m) := ⟨_, rfl⟩
  have hZl : Z.length = (R.length - m) := by rw [hZ, zerosL_length]; simp
  have hcz : Calm Z := by rw [hZ]; exact Calm.zeros (fun c hc => by simp at hc; first | (rcases hc with rfl | rfl | rfl <;> rfl) | (rcases hc with rfl | rfl <;> rfl) | (subst hc; rfl)) _
  have hcl := boxF_clear hr3 pad Z m (by omega) (by rw [hZl, hR3l]; simp)
  rw [hR3t, hZl] at hcl
  have hrT : Rows 1 (R.take i ++ R.drop j) := (hR.take _).append (hR.drop _)
  have hCT : Calm (boxF (R.take i ++ R.drop j) (Z ++ pad)) := boxF_calm hrT (hcz.append hpad)
  have hF2 : ∀ n, AV.freeL (List.take n (List.drop (m) (boxF R3 pad))) = true := fun n => ((hC3.drop _).take n).freeL
  have hle5 : m + (R.length - m) ≤ R.length + pad.length := by omega
  have hmj : R.length - (j - i) = m := by omega
  have hmj2 : j - i = R.length - m := by omega
  rw [hmj, hmj2, ← hZ]
  try simp only [← hm] at hpt
  try simp only [Nat.mul_one] at *
  refine AWp.stepT (.take 0 (.take 1 (.take 2 (.take 3 (.take 4 (.take 5 (.alt 6 (.take 7 .fin) .stop))))))) [0, 7] [0] [(0, .bs 0 0 m cap), (7, .i .i64 R.length)] [(0, boxF R3 pad)] mix (by kernel_rfl) ?_ ?_
  · refine atree.tk fun K1 h1 => ?_
    simp
    first | refine h1 _ _ ?_ | refine ⟨by omega, h1 _ _ ?_⟩ | refine ⟨by omega, by omega, h1 _ _ ?_⟩
    clear h1 K1
    refine atree.tk fun K1 h1 => ?_
    simp
    first | refine h1 _ _ ?_ | refine ⟨by omega, h1 _ _ ?_⟩ | refine ⟨by omega, by omega, h1 _ _ ?_⟩
    clear h1 K1
    refine atree.tk fun K1 h1 => ?_
    simp
    first | refine h1 _ _ ?_ | refine ⟨by omega, h1 _ _ ?_⟩ | refine ⟨by omega, by omega, h1 _ _ ?_⟩
    clear h1 K1
    refine atree.tk fun K1 h1 => ?_
    simp
    first | refine h1 _ _ ?_ | refine ⟨by omega, h1 _ _ ?_⟩ | refine ⟨by omega, by omega, h1 _ _ ?_⟩
    clear h1 K1
    refine atree.tk fun K1 h1 => ?_
    simp
    first | refine h1 _ _ ?_ | refine ⟨by omega, h1 _ _ ?_⟩ | refine ⟨by omega, by omega, h1 _ _ ?_⟩
    clear h1 K1
    refine atree.tk fun K1 h1 => ?_
    simp
    first | refine h1 _ _ ?_ | refine ⟨by omega, h1 _ _ ?_⟩ | refine ⟨by omega, by omega, h1 _ _ ?_⟩
    clear h1 K1
    refine atree.a1 fun K1 h1 => ?_
    simp
    refine append_room ?_
    simp [hL, hch2, hda2, hle4, hpt, hsum, hF, ← hm]
    first | refine h1 _ _ ?_ | refine ⟨by omega, h1 _ _ ?_⟩ | refine ⟨by omega, by omega, h1 _ _ ?_⟩
    clear h1 K1
    refine atree.tk fun K1 h1 => ?_
    simp [hC3, hC]
    first | refine h1 _ _ ?_ | refine ⟨by omega, h1 _ _ ?_⟩ | refine ⟨by omega, by omega, h1 _ _ ?_⟩
    clear h1 K1
    simp [hC3]
  refine AWp.go [0] [0] fun K hK => ?_
  simp [hL3, hnm, ← hZ, hZl, hcl, hCT, hF2, hle5]
  first | refine hK _ _ ?_ | refine ⟨by omega, hK _ _ ?_⟩ | refine ⟨by omega, by omega, hK _ _ ?_⟩
  clear hK K
  refine AWp.go [6] [0] fun K hK => ?_
  simp [hCT]
  first | refine hK _ _ ?_ | refine ⟨by omega, hK _ _ ?_⟩ | refine ⟨by omega, by omega, hK _ _ ?_⟩
  clear hK K
  refine AWp.ret ?_
  simp [hCT]
  simpa using hCT.still
end Go.AM
namespace Go.AM
open Go.Proofs
theorem rows_dat {k : Nat} {R : List (List AV)} (h : Rows k R) : (R.flatten.all fun c => c.data && c.cellOk) = true := by
  have := boxF_dat h [] 0 R.length (by omega)
  unfold allDat boxF at this
  rw [List.append_nil, Nat.zero_mul, List.drop_zero, ← h.flat, List.take_length] at this
  exact this
theorem strs_rows (l : List ByteArray) : Rows 1 (strsAV l) := fun r hr => by
  obtain ⟨e, _, rfl⟩ := List.mem_map.1 hr
  exact ⟨rfl, fun c hc => by simp at hc; subst hc; rfl, rfl⟩
theorem strs_ins (l : List ByteArray) (i : Nat) (k : ByteArray) : (strsAV l).take i ++ [.s k] :: (strsAV l).drop i = strsAV (l.take i ++ k :: l.drop i) := by
  unfold strsAV
  rw [List.map_append, List.map_cons, List.map_take, List.map_drop]
theorem strs_del (l : List ByteArray) (i j : Nat) : (strsAV l).take i ++ (strsAV l).drop j = strsAV (l.take i ++ l.drop j) := by
  unfold strsAV
  rw [List.map_append, List.map_take, List.map_drop]
def padN (n : Nat) : List AV := List.replicate n AV.any
theorem padN_calm (n : Nat) : Calm (padN n) := Calm.replicate _ rfl
@[simp] theorem padN_length (n : Nat) : (padN n).length = n := List.length_replicate
theorem thereS_lt {l : List ByteArray} {k : ByteArray} (h : thereS l k = true) : placeS l k < l.length := by
  unfold thereS at h
  rcases Nat.lt_or_ge (placeS l k) l.length with hp | hp
  · exact hp
  · rw [List.getElem?_eq_none hp] at h; cases h
set_option maxRecDepth 8000 in
theorem c_Insert_StrN (k : ByteArray) : Pure Try.prog 89 [.sl .nl 1 [], .i .i64 0, .sl .fro 1 [[.s k]]] (.sl .own 1 [[.s k]]) := by
  refine proc_of (cx Try.prog 95 [0, 1, 2, 6, 7, 8, 9, 16, 22, 31, 68] [6]) 92 [.tmp 6] Try.func89 rfl rfl rfl rfl rfl rfl (Nat.le_refl _) rfl ?_
  refine AWp.go [0, 1, 2] [] fun K hK => ?_
  simp
  first | refine hK _ _ ?_ | refine ⟨by omega, hK _ _ ?_⟩ | refine ⟨by omega, by omega, hK _ _ ?_⟩
  clear hK K
  refine AWp.go [0, 1, 2] [] fun K hK => ?_
  simp
  first | refine hK _ _ ?_ | refine ⟨by omega, hK _ _ ?_⟩ | refine ⟨by omega, by omega, hK _ _ ?_⟩
  clear hK K
  refine AWp.go [0, 1, 2, 7] [] fun K hK => ?_
  simp
  first | refine hK _ _ ?_ | refine ⟨by omega, hK _ _ ?_⟩ | refine ⟨by omega, by omega, hK _ _ ?_⟩
  clear hK K
  refine AWp.seq ?_
  refine AWp.go [0, 1, 2, 7, 16] [] fun K hK => ?_
  simp
  first | refine hK _ _ ?_ | refine ⟨by omega, hK _ _ ?_⟩ | refine ⟨by omega, by omega, hK _ _ ?_⟩
  clear hK K
  refine AWp.cond (t := false) (by first | (simp; done) | (simp; omega)) (by simp) (fun _ => ?_)
  refine AWp.skip ?_
  show AWp _ _ _ _
  refine AWp.go [0, 1, 2, 7, 8] [] fun K hK => ?_
  simp
  first | refine hK _ _ ?_ | refine ⟨by omega, hK _ _ ?_⟩ | refine ⟨by omega, by omega, hK _ _ ?_⟩
  clear hK K
  refine AWp.seq ?_
  refine AWp.go [0, 1, 2, 7, 8, 22] [] fun K hK => ?_
  simp
  first | refine hK _ _ ?_ | refine ⟨by omega, hK _ _ ?_⟩ | refine ⟨by omega, by omega, hK _ _ ?_⟩
  clear hK K
  refine AWp.cond (t := true) (by first | (simp; done) | (simp; omega)) (fun _ => ?_) (by simp)
  refine AWp.go [6] [] fun K hK => ?_
  simp
  first | refine hK _ _ ?_ | refine ⟨by omega, hK _ _ ?_⟩ | refine ⟨by omega, by omega, hK _ _ ?_⟩
  clear hK K
  refine AWp.ret ?_
  simp
def putT (l : List ByteArray) (k : ByteArray) (is : Bool) : List ByteArray := if is && !thereS l k then l.take (placeS l k) ++ k :: l.drop (placeS l k) else if !is && thereS l k then l.take (placeS l k) ++ l.drop (placeS l k + 1) else l
set_option maxRecDepth 8000 in
set_option maxHeartbeats 8000000 in
theorem c_eval_put (l : List ByteArray) (k : ByteArray) (is : Bool) (hl : l.length ≤ 100000) : Pure Try.prog 50 [.sl .fro 1 (strsAV l), .s k, .b is] (.sl .own 1 (strsAV (putT l k is))) := by
  have hpl := placeS_le l k
  refine proc_of (cx Try.prog 41 [0, 1, 2, 6, 7, 8, 9, 18, 29] [6]) 38 [.tmp 6] Try.func50 rfl rfl rfl rfl rfl rfl (Nat.le_refl _) rfl ?_
  refine AWp.go [0, 1, 2] [] fun K hK => ?_
  simp
  first | refine hK _ _ ?_ | refine ⟨by omega, hK _ _ ?_⟩ | refine ⟨by omega, by omega, hK _ _ ?_⟩
  clear hK K
  refine AWp.go [1, 2, 7] [] fun K hK => ?_
  simp
  refine call_pure (c_Clone_Str l (by omega)) (by simp) ?_
  simp
  first | refine hK _ _ ?_ | refine ⟨by omega, hK _ _ ?_⟩ | refine ⟨by omega, by omega, hK _ _ ?_⟩
  clear hK K
  refine AWp.go [1, 2, 7, 8, 9] [] fun K hK => ?_
  simp
  refine call_flat (c_BinarySearch_Str l k (by omega)) (by simp) rfl ?_
  simp
  first | refine hK _ _ ?_ | refine ⟨by omega, hK _ _ ?_⟩ | refine ⟨by omega, by omega, hK _ _ ?_⟩
  clear hK K
  refine AWp.seq ?_
  refine AWp.block ?_
  refine AWp.step [1, 2, 7, 8, 9, 18] [] [(1, .s k), (2, .b is), (7, .sl .own 1 (strsAV l)), (8, .i .i64 (placeS l k)), (9, .b (thereS l k)), (18, .b (is && !thereS l k))] [] ?_ ?_
  · cases is <;> simp
  cases q1 : is && !thereS l k
  · refine AWp.cond (t := false) (by simp) (by simp) (fun _ => ?_)
    refine AWp.step [7, 8, 29] [] [(7, .sl .own 1 (strsAV l)), (8, .i .i64 (placeS l k)), (29, .b (!is && thereS l k))] [] ?_ ?_
    · cases is <;> simp
    cases q2 : !is && thereS l k
    · refine AWp.cond (t := false) (by simp) (by simp) (fun _ => ?_)
      refine AWp.skip ?_
      show AWp _ _ _ _
      refine AWp.go [6] [] fun K hK => ?_
      simp
      first | refine hK _ _ ?_ | refine ⟨by omega, hK _ _ ?_⟩ | refine ⟨by omega, by omega, hK _ _ ?_⟩
      clear hK K
      refine AWp.ret ?_
      simp [putT, q1, q2]
    · refine AWp.cond (t := true) (by simp) (fun _ => ?_) (by simp)
      have hT : putT l k is = l.take (placeS l k) ++ l.drop (placeS l k + 1) := by rw [putT, if_neg (by rw [q1]; simp), if_pos q2]
      obtain ⟨L, hL⟩ : ∃ L, L = l.take (placeS l k) ++ l.drop (placeS l k + 1) := ⟨_, rfl⟩
      have hth : thereS l k = true := by simp only [Bool.and_eq_true] at q2; exact q2.2
      have hlt := thereS_lt hth
      have hLl : L.length = l.length - 1 := by rw [hL]; simp; omega
      have hw1 : IntKind.i64.wrap ((placeS l k : Int) + 1) = (placeS l k : Int) + 1 := wrap64 (by omega) (by omega)
      have hnn : strsAV l ≠ [] := fun h0 => by
        have h2 : (strsAV l).length = 0 := by rw [h0]; rfl
        simp at h2
        rw [h2] at hlt
        simp at hlt
      refine AWp.unown 7 100 rfl (by simp) hnn rfl (by simp) fun cap hcap => ?_
      obtain ⟨pd, hpd⟩ : ∃ pd, pd = padN (cap - l.length) := ⟨_, rfl⟩
      have hpc : Calm pd := by rw [hpd]; exact padN_calm _
      have hpdl : pd.length = cap - l.length := by rw [hpd]; simp
      have hcc : Calm (boxF (strsAV l) pd) := boxF_calm (strs_rows l) hpc
      have e0 : (strsAV l).flatten ++ List.replicate (cap - l.length) AV.any = boxF (strsAV l) pd := by rw [hpd]; rfl
      simp at hcap
      simp [e0]
      have hDel := c_DeleteB_Str (strsAV l) pd (placeS l k) (placeS l k + 1) cap (strs_rows l) (by omega) (by simp; omega) hpc (by simp; omega) (by simp; omega) (by simp [hpdl])
      rw [strs_del, ← hL, strsAV_length, show placeS l k + 1 - placeS l k = 1 by omega] at hDel
      obtain ⟨p2, hp2⟩ : ∃ p2, p2 = zerosL [AV.s ByteArray.empty] 1 ++ pd := ⟨_, rfl⟩
      rw [← hp2] at hDel
      have hcp2 : Calm p2 := by rw [hp2]; exact (Calm.zeros (fun c hc => by simp at hc; subst hc; rfl) 1).append hpc
      have hCT : Calm (boxF (strsAV L) p2) := boxF_calm (strs_rows L) hcp2
      refine AWp.goS [6] [] fun K hK => ?_
      refine SOps.cut 5 rfl fun K' hK' => ?_
      simp [hw1]
      refine call_proc [(0, 100)] none hDel (by simp) (by simp) ?_
      simp [hcc, hCT]
      refine ⟨by simpa using hcc.still, by simpa using hCT.still, hK' _ _ ?_⟩
      clear hK'
      rw [← hLl]
      have hrl : (strsAV L).flatten.length = L.length := by have := (strs_rows L).flat; simpa using this
      refine SOps.reown 39 100 cap (sz := 1) (strsAV L) p2 (by simp) (by simp) (by simp; rfl) ?_ (fun z hz => ?_) (rows_dat (strs_rows L)) hCT.freeL ?_
      · rw [List.length_append, hrl, hp2]; simp [zerosL, hpdl]; omega
      · obtain ⟨x, _, rfl⟩ := List.mem_map.1 hz; rfl
      simp
      refine SOps.cut 1 rfl fun K3 hK3 => ?_
      simp
      refine hK3 _ _ (SOps.nil ?_)
      simp
      refine hK _ _ (AWp.ret ?_)
      simp [hT, ← hL]
  · refine AWp.cond (t := true) (by simp) (fun _ => ?_) (by simp)
    have hT : putT l k is = l.take (placeS l k) ++ k :: l.drop (placeS l k) := by rw [putT, if_pos q1]
    obtain ⟨L, hL⟩ : ∃ L, L = l.take (placeS l k) ++ k :: l.drop (placeS l k) := ⟨_, rfl⟩
    have hLl : L.length = l.length + 1 := by rw [hL]; simp; omega
    refine AWp.unown0 7 100 rfl (by simp) rfl (by simp) (fun h0 => ?_) fun cap hcap => ?_
    · have h0 : l = [] := by simpa [strsAV] using h0
      subst h0
      have hp0 : placeS [] k = 0 := bsF_done _ 0
      rw [hp0] at hL hT ⊢
      simp
      refine AWp.go [6] [] fun K hK => ?_
      simp
      refine call_procK [] none (c_Insert_StrN k) (by simp) (by simp) ?_
      simp
      refine hK _ _ (AWp.ret ?_)
      simp [hT, strsAV]
    · obtain ⟨pd, hpd⟩ : ∃ pd, pd = padN (cap - l.length) := ⟨_, rfl⟩
      have hpc : Calm pd := by rw [hpd]; exact padN_calm _
      have hpdl : pd.length = cap - l.length := by rw [hpd]; simp
      have hcc : Calm (boxF (strsAV l) pd) := boxF_calm (strs_rows l) hpc
      have e0 : (strsAV l).flatten ++ List.replicate (cap - l.length) AV.any = boxF (strsAV l) pd := by rw [hpd]; rfl
      simp at hcap
      simp [e0]
      refine AWp.goS [6] [] fun K hK => ?_
      refine SOps.cut 4 rfl fun K' hK' => ?_
      simp [hcc]
      refine hK' _ _ ?_
      clear hK'
      refine SOps.unown 27 101 rfl (by simp) (by simp) rfl (by simp) fun c1 hc1 => ?_
      simp [hcc]
      obtain ⟨X, hX⟩ : ∃ X, X = AV.s k :: List.replicate (c1 - 1) AV.any := ⟨_, rfl⟩
      have hXc : Calm X := by rw [hX]; exact ((strs_rows [k]) _ (List.mem_singleton.2 rfl)).2.1.append (Calm.replicate _ rfl)
      have hXt : List.take 1 X = [.s k] := by rw [hX]; rfl
      have hXl : 1 ≤ X.length := by rw [hX]; simp
      rw [← hX]
      refine SOps.cut 1 rfl fun K2 hK2 => ?_
      simp
      have hins := strs_ins l (placeS l k) k
      rw [← hL] at hins
      by_cases hroom : l.length < cap
      · have hIns := c_Insert1_Str (strsAV l) [.s k] X pd (placeS l k) cap c1 (strs_rows l) (strs_rows [k]) hXc hXt hXl (by simpa using hpl) hpc (by simpa using hroom) (by simp; omega) (by simp [hpdl])
        rw [hins, strsAV_length] at hIns
        obtain ⟨p2, hp2⟩ : ∃ p2, p2 = pd.tail := ⟨_, rfl⟩
        rw [← hp2] at hIns
        have hcp : Calm p2 := by rw [hp2]; have := hpc.drop 1; simpa using this
        have hC2 : Calm (boxF (strsAV L) p2) := boxF_calm (strs_rows L) hcp
        refine call_proc [(0, 100), (1, 101)] none hIns (by simp) (by simp) ?_
        simp [hcc, hXc, hC2]
        refine ⟨⟨by simpa using hcc.still, by simpa using hXc.still⟩, ⟨by simpa using hC2.still, by simpa using hXc.still⟩, hK2 _ _ ?_⟩
        have hrl : (strsAV L).flatten.length = L.length := by have := (strs_rows L).flat; simpa using this
        rw [← hLl]
        refine SOps.reown 28 100 cap (sz := 1) (strsAV L) p2 (by simp) (by simp) rfl ?_ (fun z hz => ?_) (rows_dat (strs_rows L)) hC2.freeL ?_
        · rw [List.length_append, hrl, hp2, List.length_tail, hpdl]; omega
        · obtain ⟨x, _, rfl⟩ := List.mem_map.1 hz; rfl
        simp [hXc]
        refine SOps.cut 1 rfl fun K3 hK3 => ?_
        simp [hXc]
        refine hK3 _ _ (SOps.nil ?_)
        simp
        refine hK _ _ (AWp.ret ?_)
        simp [hT, ← hL]
      · have hcl : cap = l.length := by omega
        subst hcl
        have hIns := c_Insert2_Str (strsAV l) [.s k] X pd (placeS l k) c1 (strs_rows l) (strs_rows [k]) hXc hXt hXl (by simpa using hpl) hpc (by simp; omega) (by omega)
        rw [hins, strsAV_length] at hIns
        refine call_proc [(0, 100), (1, 101)] none hIns (by simp) (by simp) ?_
        simp [hcc, hXc]
        refine ⟨⟨by simpa using hcc.still, by simpa using hXc.still⟩, hK2 _ _ ?_⟩
        refine SOps.cut 1 rfl fun K3 hK3 => ?_
        simp [hXc]
        refine hK3 _ _ (SOps.nil ?_)
        simp
        refine hK _ _ (AWp.ret ?_)
        simp [hT, ← hL]
end Go.AM
namespace Go.AM
open Go.Proofs
theorem cels_rows (l : List Cel) : Rows 2 (celsAV l) := fun r hr => by
  obtain ⟨e, _, rfl⟩ := List.mem_map.1 hr
  exact ⟨rfl, fun c hc => by simp [celC] at hc; rcases hc with rfl | rfl <;> rfl, rfl⟩
theorem cels_ins (l : List Cel) (i : Nat) (k : Cel) : (celsAV l).take i ++ celC k :: (celsAV l).drop i = celsAV (l.take i ++ k :: l.drop i) := by
  unfold celsAV
  rw [List.map_append, List.map_cons, List.map_take, List.map_drop]
theorem cels_del (l : List Cel) (i j : Nat) : (celsAV l).take i ++ (celsAV l).drop j = celsAV (l.take i ++ l.drop j) := by
  unfold celsAV
  rw [List.map_append, List.map_take, List.map_drop]
theorem cmpB_lt : ∀ a b : List UInt8, Lib.compareBytes a b < 0 ↔ a < b
  | [], [] => by simp [Lib.compareBytes]
  | [], b :: bs => by simp [Lib.compareBytes]
  | a :: l, [] => by simp [Lib.compareBytes]
  | a :: l, b :: m => by
    rw [Lib.compareBytes, List.cons_lt_cons_iff]
    by_cases h1 : a < b
    · simp [h1]
    · by_cases h2 : b < a
      · have h3 : ¬ a = b := by rintro rfl; exact h1 h2
        simp [h1, h2, h3]
      · have h3 : a = b := UInt8.le_antisymm (UInt8.not_lt.1 h2) (UInt8.not_lt.1 h1)
        subst h3
        simp [h1, cmpB_lt l m]
theorem cmpB_eq : ∀ a b : List UInt8, Lib.compareBytes a b = 0 ↔ a = b
  | [], [] => by simp [Lib.compareBytes]
  | [], b :: bs => by simp [Lib.compareBytes]
  | a :: l, [] => by simp [Lib.compareBytes]
  | a :: l, b :: m => by
    rw [Lib.compareBytes]
    by_cases h1 : a < b
    · have h3 : ¬ a = b := by rintro rfl; exact UInt8.lt_irrefl _ h1
      simp [h1, h3]
    · by_cases h2 : b < a
      · have h3 : ¬ a = b := by rintro rfl; exact UInt8.lt_irrefl _ h2
        simp [h1, h2, h3]
      · have h3 : a = b := UInt8.le_antisymm (UInt8.not_lt.1 h2) (UInt8.not_lt.1 h1)
        subst h3
        simp [h1, cmpB_eq l m]
theorem toList_data (k : ByteArray) : k.data.toList = k.toList := (ByteArray.toList_eq k).symm
theorem cmpK_lt (a b : ByteArray) : decide (cmpK a b < 0) = ltK a b := by
  rw [Bool.eq_iff_iff, decide_eq_true_eq, ltK_iff, cmpK, toList_data, toList_data]; exact cmpB_lt _ _
theorem cmpK_eq (a b : ByteArray) : decide (cmpK a b = 0) = eqK a b := by
  rw [Bool.eq_iff_iff, decide_eq_true_eq, cmpK, toList_data, toList_data, cmpB_eq]; simp [eqK]
@[simp] theorem St.setAt_slot (st : St) (t : Nat) (x : AV) : st.setAt (.slot t []) x = st.put t x := rfl
@[simp] theorem St.setAt_cell (st : St) (id j : Nat) (x : AV) : st.setAt (.cell id j) x = st.setBox id ((st.boxes id).map fun cs => cs.set j x) := rfl
attribute [simp] selfTake
theorem c_eval_more1 (c : Cel) (k : ByteArray) : Pure Try.prog 92 [.agg (celC c), .s k] (.i .i64 (cmpK c.key k)) := by
  refine proc_of (cx Try.prog 9 [1, 2, 4] [4]) 7 [.tmp 4] Try.func92 rfl rfl rfl rfl rfl rfl (Nat.le_refl _) rfl ?_
  refine AWp.go [1, 2] [2] fun K hK => ?_
  simp [celC]
  first | refine hK _ _ ?_ | refine ⟨by omega, hK _ _ ?_⟩ | refine ⟨by omega, by omega, hK _ _ ?_⟩
  clear hK K
  refine AWp.go [4] [] fun K hK => ?_
  simp
  refine call_pure (c_Compare c.key k) (by simp) ?_
  simp
  first | refine hK _ _ ?_ | refine ⟨by omega, hK _ _ ?_⟩ | refine ⟨by omega, by omega, hK _ _ ?_⟩
  clear hK K
  refine AWp.ret ?_
  simp
theorem lessC_at (l : List Cel) (k : ByteArray) (i : Nat) (h : i < l.length) : lessS (celKeys l) k i = ltK l[i].key k := by simp [lessS, celKeys, h]
set_option maxRecDepth 8000 in
set_option maxHeartbeats 2000000 in
theorem c_BSearch_Cel (s : List Cel) (k : ByteArray) (hs : s.length ≤ 1000000) : Pure Try.prog 91 [.sl .fro 2 (celsAV s), .s k, .fn 92 [] []] (.tup [.i .i64 (placeS (celKeys s) k), .b (thereS (celKeys s) k)]) := by
  refine proc_of (cx Try.prog 49 [0, 1, 2, 6, 7, 8, 9, 10, 11, 17, 31] [6, 7]) 46 [.tmp 6, .tmp 7] Try.func91 rfl rfl rfl rfl rfl rfl (Nat.le_refl _) rfl ?_
  refine AWp.go [0, 1, 2] [] fun K hK => ?_
  simp
  first | refine hK _ _ ?_ | refine ⟨by omega, hK _ _ ?_⟩ | refine ⟨by omega, by omega, hK _ _ ?_⟩
  clear hK K
  refine AWp.go [0, 1, 2, 8] [] fun K hK => ?_
  simp
  first | refine hK _ _ ?_ | refine ⟨by omega, hK _ _ ?_⟩ | refine ⟨by omega, by omega, hK _ _ ?_⟩
  clear hK K
  refine AWp.go [0, 1, 2, 8, 9, 10] [] fun K hK => ?_
  simp
  first | refine hK _ _ ?_ | refine ⟨by omega, hK _ _ ?_⟩ | refine ⟨by omega, by omega, hK _ _ ?_⟩
  clear hK K
  refine AWp.seq ?_
  refine AWp.block (AWp.while (fun p : Nat × Nat => [(0, .sl .fro 2 (celsAV s)), (1, .s k), (2, .fn 92 [] []), (8, .i .i64 s.length), (9, .i .i64 p.1), (10, .i .i64 p.2)]) (fun p => []) (fun p => p.1 ≤ p.2 ∧ p.2 ≤ s.length ∧ bsF (lessS (celKeys s) k) p.1 p.2 = placeS (celKeys s) k) (fun p => p.2 - p.1) [0, 1, 2, 8, 9, 10] [] (0, s.length) (by exact ⟨Nat.zero_le _, Nat.le_refl _, by unfold placeS; rw [celKeys_length]⟩) (by simp) ?_)
  rintro ⟨lo, hi⟩ ⟨h1, h2, h3⟩
  refine AWp.seq ?_
  refine AWp.go [0, 1, 2, 8, 9, 10, 17] [] fun K hK => ?_
  simp
  first | refine hK _ _ ?_ | refine ⟨by omega, hK _ _ ?_⟩ | refine ⟨by omega, by omega, hK _ _ ?_⟩
  clear hK K
  by_cases h : lo < hi
  · refine AWp.cond (t := true) (by first | (simp [h]; done) | (simp [h]; omega)) (fun _ => ?_) (by simp)
    refine AWp.skip ?_
    show AWp _ _ _ _
    refine AWp.block ?_
    obtain ⟨m, hm⟩ : ∃ m : Nat, m = (lo + hi) / 2 := ⟨_, rfl⟩
    have hml : m < s.length := by omega
    refine AWp.step [0, 1, 2, 8, 9, 10, 11] [] [(0, .sl .fro 2 (celsAV s)), (1, .s k), (2, .fn 92 [] []), (8, .i .i64 s.length), (9, .i .i64 lo), (10, .i .i64 hi), (11, .i .i64 m)] [] ?_ ?_
    · have w1 : IntKind.i64.wrap ((lo : Int) + hi) = (lo : Int) + hi := wrap64 (by omega) (by omega)
      simp [w1]
      exact mid_wrap (by omega) hm
    refine AWp.step [0, 1, 2, 8, 9, 10, 11, 31] [] [(0, .sl .fro 2 (celsAV s)), (1, .s k), (2, .fn 92 [] []), (8, .i .i64 s.length), (9, .i .i64 lo), (10, .i .i64 hi), (11, .i .i64 m), (31, .b (ltK s[m].key k))] [] ?_ ?_
    · simp [hml]
      refine call_pure (c_eval_more1 s[m] k) (by simp [celC]) ?_
      simp [cmpK_lt]
    cases hp : ltK s[m].key k
    · refine AWp.cond (t := false) (by simp) (by simp) (fun _ => ?_)
      refine AWp.goLast [0, 1, 2, 8, 9, 10] [] fun K hK => ?_
      simp
      first | refine hK _ _ ?_ | refine ⟨by omega, hK _ _ ?_⟩ | refine ⟨by omega, by omega, hK _ _ ?_⟩
      clear hK K
      refine ⟨(lo, m), ⟨by simp; omega, by simp; omega, ?_⟩, by simp; omega, ?_⟩
      · rw [bsF, if_pos h, ← hm, if_neg (by rw [lessC_at s k m hml, hp]; simp)] at h3
        exact h3
      · simp
    · refine AWp.cond (t := true) (by simp) (fun _ => ?_) (by simp)
      refine AWp.goLast [0, 1, 2, 8, 9, 10] [] fun K hK => ?_
      simp (disch := omega) [wrap64]
      first | refine hK _ _ ?_ | refine ⟨by omega, hK _ _ ?_⟩ | refine ⟨by omega, by omega, hK _ _ ?_⟩
      clear hK K
      refine ⟨(m + 1, hi), ⟨by simp; omega, h2, ?_⟩, by simp; omega, ?_⟩
      · rw [bsF, if_pos h, ← hm, if_pos (by rw [lessC_at s k m hml, hp])] at h3
        exact h3
      · simp
  · refine AWp.cond (t := false) (by first | (simp [h]; done) | (simp [h]; omega)) (by simp) (fun _ => ?_)
    refine AWp.exit ?_
    show AWp _ _ _ _
    obtain rfl : lo = hi := by omega
    rw [bsF_done] at h3
    refine AWp.step [6, 7] [] [(6, .i .i64 (placeS (celKeys s) k)), (7, .b (thereS (celKeys s) k))] [] ?_ ?_
    · have hth : thereS (celKeys s) k = if h : lo < s.length then eqK s[lo].key k else false := by
        unfold thereS
        rw [← h3]
        by_cases hq : lo < s.length <;> simp [celKeys, hq]
      by_cases hq : lo < s.length
      · simp [hq, ← h3]
        refine call_pure (c_eval_more1 s[lo] k) (by simp [celC]) ?_
        simp [hth, hq, cmpK_eq]
      · simp [hq, hth, ← h3]
    refine AWp.ret ?_
    simp
set_option maxRecDepth 8000 in
theorem c_Insert_CelN (c : Cel) : Pure Try.prog 94 [.sl .nl 2 [], .i .i64 0, .sl .fro 2 [celC c]] (.sl .own 2 [celC c]) := by
  refine proc_of (cx Try.prog 95 [0, 1, 2, 6, 7, 8, 9, 16, 22, 31, 68] [6]) 92 [.tmp 6] Try.func94 rfl rfl rfl rfl rfl rfl (Nat.le_refl _) rfl ?_
  refine AWp.go [0, 1, 2] [] fun K hK => ?_
  simp
  first | refine hK _ _ ?_ | refine ⟨by omega, hK _ _ ?_⟩ | refine ⟨by omega, by omega, hK _ _ ?_⟩
  clear hK K
  refine AWp.go [0, 1, 2] [] fun K hK => ?_
  simp
  first | refine hK _ _ ?_ | refine ⟨by omega, hK _ _ ?_⟩ | refine ⟨by omega, by omega, hK _ _ ?_⟩
  clear hK K
  refine AWp.go [0, 1, 2, 7] [] fun K hK => ?_
  simp
  first | refine hK _ _ ?_ | refine ⟨by omega, hK _ _ ?_⟩ | refine ⟨by omega, by omega, hK _ _ ?_⟩
  clear hK K
  refine AWp.seq ?_
  refine AWp.go [0, 1, 2, 7, 16] [] fun K hK => ?_
  simp
  first | refine hK _ _ ?_ | refine ⟨by omega, hK _ _ ?_⟩ | refine ⟨by omega, by omega, hK _ _ ?_⟩
  clear hK K
  refine AWp.cond (t := false) (by first | (simp; done) | (simp; omega)) (by simp) (fun _ => ?_)
  refine AWp.skip ?_
  show AWp _ _ _ _
  refine AWp.go [0, 1, 2, 7, 8] [] fun K hK => ?_
  simp
  first | refine hK _ _ ?_ | refine ⟨by omega, hK _ _ ?_⟩ | refine ⟨by omega, by omega, hK _ _ ?_⟩
  clear hK K
  refine AWp.seq ?_
  refine AWp.go [0, 1, 2, 7, 8, 22] [] fun K hK => ?_
  simp
  first | refine hK _ _ ?_ | refine ⟨by omega, hK _ _ ?_⟩ | refine ⟨by omega, by omega, hK _ _ ?_⟩
  clear hK K
  refine AWp.cond (t := true) (by first | (simp; done) | (simp; omega)) (fun _ => ?_) (by simp)
  refine AWp.go [6] [] fun K hK => ?_
  simp
  first | refine hK _ _ ?_ | refine ⟨by omega, hK _ _ ?_⟩ | refine ⟨by omega, by omega, hK _ _ ?_⟩
  clear hK K
  refine AWp.ret ?_
  simp
def moreT (l : List Cel) (k : ByteArray) (n : Int) : List Cel :=
  if !thereS (celKeys l) k then l.take (placeS (celKeys l) k) ++ ⟨k, n⟩ :: l.drop (placeS (celKeys l) k)
  else match l[placeS (celKeys l) k]? with
    | some c => if c.num = -n then l.take (placeS (celKeys l) k) ++ l.drop (placeS (celKeys l) k + 1) else l.set (placeS (celKeys l) k) ⟨c.key, c.num + n⟩
    | none => l
set_option maxRecDepth 8000 in
set_option maxHeartbeats 8000000 in
theorem c_eval_more (l : List Cel) (k : ByteArray) (n : Int) (hl : l.length ≤ 100000) (hn : -1000000000 ≤ n ∧ n ≤ 1000000000) (hln : ∀ c ∈ l, -1000000000 ≤ c.num ∧ c.num ≤ 1000000000) : Pure Try.prog 51 [.sl .fro 2 (celsAV l), .s k, .i .i64 n] (.sl .own 2 (celsAV (moreT l k n))) := by
  have hpl : placeS (celKeys l) k ≤ l.length := by have := placeS_le (celKeys l) k; simpa using this
  have wn : IntKind.i64.wrap (-n) = -n := wrap64 (by omega) (by omega)
  refine proc_of (cx Try.prog 52 [0, 1, 2, 6, 7, 8, 9, 18, 28] [6]) 49 [.tmp 6] Try.func51 rfl rfl rfl rfl rfl rfl (Nat.le_refl _) rfl ?_
  refine AWp.go [0, 1, 2] [] fun K hK => ?_
  simp
  first | refine hK _ _ ?_ | refine ⟨by omega, hK _ _ ?_⟩ | refine ⟨by omega, by omega, hK _ _ ?_⟩
  clear hK K
  refine AWp.go [1, 2, 7] [] fun K hK => ?_
  simp
  refine call_pure (c_Clone_Cel l (by omega)) (by simp) ?_
  simp
  first | refine hK _ _ ?_ | refine ⟨by omega, hK _ _ ?_⟩ | refine ⟨by omega, by omega, hK _ _ ?_⟩
  clear hK K
  refine AWp.go [1, 2, 7, 8, 9] [] fun K hK => ?_
  simp
  refine call_flat (c_BSearch_Cel l k (by omega)) (by simp) rfl ?_
  simp
  first | refine hK _ _ ?_ | refine ⟨by omega, hK _ _ ?_⟩ | refine ⟨by omega, by omega, hK _ _ ?_⟩
  clear hK K
  refine AWp.seq ?_
  refine AWp.block ?_
  refine AWp.step [1, 2, 7, 8, 18] [] [(1, .s k), (2, .i .i64 n), (7, .sl .own 2 (celsAV l)), (8, .i .i64 (placeS (celKeys l) k)), (18, .b (!thereS (celKeys l) k))] [] ?_ ?_
  · simp
  cases q1 : !thereS (celKeys l) k
  · refine AWp.cond (t := false) (by simp) (by simp) (fun _ => ?_)
    have hth : thereS (celKeys l) k = true := by simpa using q1
    have hlt : placeS (celKeys l) k < l.length := by have := thereS_lt hth; simpa using this
    have hb := hln _ (List.getElem_mem hlt)
    refine AWp.step [2, 7, 8, 28] [] [(2, .i .i64 n), (7, .sl .own 2 (celsAV l)), (8, .i .i64 (placeS (celKeys l) k)), (28, .b (decide (l[placeS (celKeys l) k].num = -n)))] [] ?_ ?_
    · simp [hlt, wn]
    by_cases q2 : l[placeS (celKeys l) k].num = -n
    · refine AWp.cond (t := true) (by first | (simp [q2]; done) | (simp [q2]; omega)) (fun _ => ?_) (by simp)
      have hT : moreT l k n = l.take (placeS (celKeys l) k) ++ l.drop (placeS (celKeys l) k + 1) := by rw [moreT, if_neg (by rw [q1]; simp)]; simp [hlt, q2]
      obtain ⟨L, hL⟩ : ∃ L, L = l.take (placeS (celKeys l) k) ++ l.drop (placeS (celKeys l) k + 1) := ⟨_, rfl⟩
      have hLl : L.length = l.length - 1 := by rw [hL]; simp; omega
      have hw1 : IntKind.i64.wrap ((placeS (celKeys l) k : Int) + 1) = (placeS (celKeys l) k : Int) + 1 := wrap64 (by omega) (by omega)
      have hnn : celsAV l ≠ [] := fun h0 => by
        have h2 : (celsAV l).length = 0 := by rw [h0]; rfl
        simp at h2
        rw [h2] at hlt
        simp at hlt
      refine AWp.unown 7 100 rfl (by simp) hnn rfl (by simp) fun cap hcap => ?_
      obtain ⟨pd, hpd⟩ : ∃ pd, pd = padN ((cap - l.length) * 2) := ⟨_, rfl⟩
      have hpc : Calm pd := by rw [hpd]; exact padN_calm _
      have hpdl : pd.length = (cap - l.length) * 2 := by rw [hpd]; simp
      have hcc : Calm (boxF (celsAV l) pd) := boxF_calm (cels_rows l) hpc
      have e0 : (celsAV l).flatten ++ List.replicate ((cap - l.length) * 2) AV.any = boxF (celsAV l) pd := by rw [hpd]; rfl
      simp at hcap
      simp [e0]
      have hDel := c_DeleteB_Cel (celsAV l) pd (placeS (celKeys l) k) (placeS (celKeys l) k + 1) cap (cels_rows l) (by omega) (by simp; omega) hpc (by simp; omega) (by simp; omega) (by simp [hpdl])
      rw [cels_del, ← hL, celsAV_length, show placeS (celKeys l) k + 1 - placeS (celKeys l) k = 1 by omega] at hDel
      obtain ⟨p2, hp2⟩ : ∃ p2, p2 = zerosL [AV.s ByteArray.empty, .i .i64 0] 1 ++ pd := ⟨_, rfl⟩
      rw [← hp2] at hDel
      have hcp2 : Calm p2 := by rw [hp2]; exact (Calm.zeros (fun c hc => by simp at hc; rcases hc with rfl | rfl <;> rfl) 1).append hpc
      have hCT : Calm (boxF (celsAV L) p2) := boxF_calm (cels_rows L) hcp2
      refine AWp.goS [6] [] fun K hK => ?_
      refine SOps.cut 5 rfl fun K' hK' => ?_
      simp [hw1]
      refine call_proc [(0, 100)] none hDel (by simp) (by simp) ?_
      simp [hcc, hCT]
      refine ⟨by simpa using hcc.still, by simpa using hCT.still, hK' _ _ ?_⟩
      clear hK'
      rw [← hLl]
      have hrl : (celsAV L).flatten.length = L.length * 2 := by have := (cels_rows L).flat; rw [celsAV_length] at this; exact this
      refine SOps.reown 41 100 cap (sz := 2) (celsAV L) p2 (by simp) (by simp) (by simp; rfl) ?_ (fun z hz => ?_) (rows_dat (cels_rows L)) hCT.freeL ?_
      · rw [List.length_append, hrl, hp2]; simp [zerosL, hpdl]; omega
      · obtain ⟨x, _, rfl⟩ := List.mem_map.1 hz; rfl
      simp
      refine SOps.cut 1 rfl fun K3 hK3 => ?_
      simp
      refine hK3 _ _ (SOps.nil ?_)
      simp
      refine hK _ _ (AWp.ret ?_)
      simp [hT, ← hL]
    · refine AWp.cond (t := false) (by first | (simp [q2]; done) | (simp [q2]; omega)) (by simp) (fun _ => ?_)
      refine AWp.skip ?_
      show AWp _ _ _ _
      have hT : moreT l k n = l.set (placeS (celKeys l) k) ⟨l[placeS (celKeys l) k].key, l[placeS (celKeys l) k].num + n⟩ := by rw [moreT, if_neg (by rw [q1]; simp)]; simp [hlt, q2]
      have hw : IntKind.i64.wrap (l[placeS (celKeys l) k].num + n) = l[placeS (celKeys l) k].num + n := wrap64 (by omega) (by omega)
      have hS : celsAV (moreT l k n) = (celsAV l).set (placeS (celKeys l) k) [.s l[placeS (celKeys l) k].key, .i .i64 (l[placeS (celKeys l) k].num + n)] := by rw [hT]; unfold celsAV; rw [List.map_set]; rfl
      refine AWp.go [7] [] fun K hK => ?_
      simp [hlt, hw]
      first | refine hK _ _ ?_ | refine ⟨by omega, hK _ _ ?_⟩ | refine ⟨by omega, by omega, hK _ _ ?_⟩
      clear hK K
      refine AWp.go [6] [] fun K hK => ?_
      simp
      first | refine hK _ _ ?_ | refine ⟨by omega, hK _ _ ?_⟩ | refine ⟨by omega, by omega, hK _ _ ?_⟩
      clear hK K
      refine AWp.ret ?_
      simp [hS]
  · refine AWp.cond (t := true) (by simp) (fun _ => ?_) (by simp)
    have hT : moreT l k n = l.take (placeS (celKeys l) k) ++ ⟨k, n⟩ :: l.drop (placeS (celKeys l) k) := by rw [moreT, if_pos q1]
    obtain ⟨L, hL⟩ : ∃ L, L = l.take (placeS (celKeys l) k) ++ ⟨k, n⟩ :: l.drop (placeS (celKeys l) k) := ⟨_, rfl⟩
    have hLl : L.length = l.length + 1 := by rw [hL]; simp; omega
    refine AWp.unown0 7 100 rfl (by simp) rfl (by simp) (fun h0 => ?_) fun cap hcap => ?_
    · have h0 : l = [] := by simpa [celsAV] using h0
      subst h0
      have hp0 : placeS (celKeys []) k = 0 := bsF_done _ 0
      rw [hp0] at hL hT ⊢
      simp
      refine AWp.go [6] [] fun K hK => ?_
      simp
      refine call_procK [] none (c_Insert_CelN ⟨k, n⟩) (by simp [celC]) (by simp) ?_
      simp
      refine hK _ _ (AWp.ret ?_)
      simp [hT, celsAV, celC]
    · obtain ⟨pd, hpd⟩ : ∃ pd, pd = padN ((cap - l.length) * 2) := ⟨_, rfl⟩
      have hpc : Calm pd := by rw [hpd]; exact padN_calm _
      have hpdl : pd.length = (cap - l.length) * 2 := by rw [hpd]; simp
      have hcc : Calm (boxF (celsAV l) pd) := boxF_calm (cels_rows l) hpc
      have e0 : (celsAV l).flatten ++ List.replicate ((cap - l.length) * 2) AV.any = boxF (celsAV l) pd := by rw [hpd]; rfl
      simp at hcap
      simp [e0]
      refine AWp.goS [6] [] fun K hK => ?_
      refine SOps.cut 6 rfl fun K' hK' => ?_
      simp [hcc]
      refine hK' _ _ ?_
      clear hK'
      refine SOps.unown 26 101 rfl (by simp) (by simp) rfl (by simp) fun c1 hc1 => ?_
      simp [hcc]
      obtain ⟨X, hX⟩ : ∃ X, X = AV.s k :: AV.i .i64 n :: List.replicate ((c1 - 1) * 2) AV.any := ⟨_, rfl⟩
      have hXc : Calm X := by rw [hX]; exact ((cels_rows [⟨k, n⟩]) _ (List.mem_singleton.2 rfl)).2.1.append (Calm.replicate _ rfl)
      have hXt : List.take 2 X = (celC ⟨k, n⟩) := by rw [hX]; rfl
      have hXl : 2 ≤ X.length := by rw [hX]; simp
      rw [← hX]
      refine SOps.cut 1 rfl fun K2 hK2 => ?_
      simp
      have hins := cels_ins l (placeS (celKeys l) k) ⟨k, n⟩
      rw [← hL] at hins
      by_cases hroom : l.length < cap
      · have hIns := c_Insert1_Cel (celsAV l) (celC ⟨k, n⟩) X pd (placeS (celKeys l) k) cap c1 (cels_rows l) (cels_rows [⟨k, n⟩]) hXc hXt hXl (by simpa using hpl) hpc (by simpa using hroom) (by simp; omega) (by simp [hpdl])
        rw [hins, celsAV_length] at hIns
        obtain ⟨p2, hp2⟩ : ∃ p2, p2 = pd.drop 2 := ⟨_, rfl⟩
        rw [← hp2] at hIns
        have hcp : Calm p2 := by rw [hp2]; exact hpc.drop _
        have hC2 : Calm (boxF (celsAV L) p2) := boxF_calm (cels_rows L) hcp
        refine call_proc [(0, 100), (1, 101)] none hIns (by simp) (by simp) ?_
        simp [hcc, hXc, hC2]
        refine ⟨⟨by simpa using hcc.still, by simpa using hXc.still⟩, ⟨by simpa using hC2.still, by simpa using hXc.still⟩, hK2 _ _ ?_⟩
        have hrl : (celsAV L).flatten.length = L.length * 2 := by have := (cels_rows L).flat; rw [celsAV_length] at this; exact this
        rw [← hLl]
        refine SOps.reown 27 100 cap (sz := 2) (celsAV L) p2 (by simp) (by simp) rfl ?_ (fun z hz => ?_) (rows_dat (cels_rows L)) hC2.freeL ?_
        · rw [List.length_append, hrl, hp2, List.length_drop, hpdl]; omega
        · obtain ⟨x, _, rfl⟩ := List.mem_map.1 hz; rfl
        simp [hXc]
        refine SOps.cut 1 rfl fun K3 hK3 => ?_
        simp [hXc]
        refine hK3 _ _ (SOps.nil ?_)
        simp
        refine hK _ _ (AWp.ret ?_)
        simp [hT, ← hL]
      · have hcl : cap = l.length := by omega
        subst hcl
        have hIns := c_Insert2_Cel (celsAV l) (celC ⟨k, n⟩) X pd (placeS (celKeys l) k) c1 (cels_rows l) (cels_rows [⟨k, n⟩]) hXc hXt hXl (by simpa using hpl) hpc (by simp; omega) (by omega)
        rw [hins, celsAV_length] at hIns
        refine call_proc [(0, 100), (1, 101)] none hIns (by simp) (by simp) ?_
        simp [hcc, hXc]
        refine ⟨⟨by simpa using hcc.still, by simpa using hXc.still⟩, hK2 _ _ ?_⟩
        refine SOps.cut 1 rfl fun K3 hK3 => ?_
        simp [hXc]
        refine hK3 _ _ (SOps.nil ?_)
        simp
        refine hK _ _ (AWp.ret ?_)
        simp [hT, ← hL]
end Go.AM
namespace Go.AM
open Go.Proofs
theorem rowsS_set (l : List (List ByteArray)) (i : Nat) (x : List ByteArray) : (rowsS l).set i [.sl .fro 1 (strsAV x)] = rowsS (l.set i x) := by unfold rowsS; rw [List.map_set]
theorem rowsK_set (l : List (List Cel)) (i : Nat) (x : List Cel) : (rowsK l).set i [.sl .fro 2 (celsAV x)] = rowsK (l.set i x) := by unfold rowsK; rw [List.map_set]
set_option maxRecDepth 8000 in
set_option maxHeartbeats 4000000 in
theorem c_eval_copied (s : Sta) (hs : SlightS s) : Pure Try.prog 49 [.agg (staC s)] (.agg [.sl .own 1 (rowsS s.sets), .sl .own 1 (rowsK s.counts)]) := by
  obtain ⟨k1, k2, k3, k4⟩ := hs
  refine proc_of (cx Try.prog 48 [1, 2, 3, 4, 5, 15, 16, 17, 32, 33, 34] [2]) 47 [.cell 2 30] Try.func49 rfl rfl rfl rfl rfl rfl (Nat.le_refl _) rfl ?_
  refine AWp.go [1, 2] [1, 2] fun K hK => ?_
  simp [staC]
  first | refine hK _ _ ?_ | refine ⟨by omega, hK _ _ ?_⟩ | refine ⟨by omega, by omega, hK _ _ ?_⟩
  clear hK K
  refine AWp.stepT (.take 0 (.take 3 (.alt 1 (.alt 2 (.alt 4 (.alt 5 (.alt 6 (.alt 7 (.alt 8 .fin .stop) .stop) (.alt 7 (.alt 6 (.alt 8 .fin .stop) .stop) .stop)) (.alt 7 (.alt 5 (.alt 6 (.alt 8 .fin .stop) .stop) .stop) .stop)) (.alt 7 (.alt 4 (.alt 5 (.alt 6 (.alt 8 .fin .stop) .stop) .stop) .stop) .stop)) (.alt 4 (.alt 2 (.alt 5 (.alt 6 (.alt 7 (.alt 8 .fin .stop) .stop) (.alt 7 (.alt 6 (.alt 8 .fin .stop) .stop) .stop)) (.alt 7 (.alt 5 (.alt 6 (.alt 8 .fin .stop) .stop) .stop) .stop)) (.alt 7 (.alt 2 (.alt 5 (.alt 6 (.alt 8 .fin .stop) .stop) .stop) .stop) .stop)) (.alt 7 (.alt 2 (.alt 4 (.alt 5 (.alt 6 (.alt 8 .fin .stop) .stop) .stop) .stop) (.alt 4 (.alt 2 (.alt 5 (.alt 6 (.alt 8 .fin .stop) .stop) .stop) .stop) .stop)) .stop))) (.alt 4 (.alt 1 (.alt 2 (.alt 5 (.alt 6 (.alt 7 (.alt 8 .fin .stop) .stop) (.alt 7 (.alt 6 (.alt 8 .fin .stop) .stop) .stop)) (.alt 7 (.alt 5 (.alt 6 (.alt 8 .fin .stop) .stop) .stop) .stop)) (.alt 7 (.alt 2 (.alt 5 (.alt 6 (.alt 8 .fin .stop) .stop) .stop) .stop) .stop)) (.alt 7 (.alt 1 (.alt 2 (.alt 5 (.alt 6 (.alt 8 .fin .stop) .stop) .stop) .stop) .stop) .stop)) (.alt 7 (.alt 1 (.alt 2 (.alt 4 (.alt 5 (.alt 6 (.alt 8 .fin .stop) .stop) .stop) .stop) (.alt 4 (.alt 2 (.alt 5 (.alt 6 (.alt 8 .fin .stop) .stop) .stop) .stop) .stop)) (.alt 4 (.alt 1 (.alt 2 (.alt 5 (.alt 6 (.alt 8 .fin .stop) .stop) .stop) .stop) .stop) .stop)) .stop))))) [2, 3] [2, 3] [(2, .ptr 2 0), (3, .ptr 3 0)] [(2, [.sl .nl 1 [], .sl .nl 1 []]), (3, [.sl .own 1 (rowsS s.sets), .sl .own 1 (rowsK s.counts)])] mix (by kernel_rfl) ?_ ?_
  · refine atree.tk fun K1 h1 => ?_
    simp
    first | refine h1 _ _ ?_ | refine ⟨by omega, h1 _ _ ?_⟩ | refine ⟨by omega, by omega, h1 _ _ ?_⟩
    clear h1 K1
    refine atree.tk fun K1 h1 => ?_
    simp
    first | refine h1 _ _ ?_ | refine ⟨by omega, h1 _ _ ?_⟩ | refine ⟨by omega, by omega, h1 _ _ ?_⟩
    clear h1 K1
    refine atree.al (fun K1 h1 => ?_) ?_
    · simp
      first | refine h1 _ _ ?_ | refine ⟨by omega, h1 _ _ ?_⟩ | refine ⟨by omega, by omega, h1 _ _ ?_⟩
      clear h1 K1
      refine atree.al (fun K1 h1 => ?_) ?_
      · simp
        refine call_pure (c_Clone_StrRow s.sets (by omega)) (by simp) ?_
        simp
        first | refine h1 _ _ ?_ | refine ⟨by omega, h1 _ _ ?_⟩ | refine ⟨by omega, by omega, h1 _ _ ?_⟩
        clear h1 K1
        refine atree.al (fun K1 h1 => ?_) ?_
        · simp
          first | refine h1 _ _ ?_ | refine ⟨by omega, h1 _ _ ?_⟩ | refine ⟨by omega, by omega, h1 _ _ ?_⟩
          clear h1 K1
          refine atree.al (fun K1 h1 => ?_) ?_
          · simp
            refine call_pure (c_Clone_CelRow s.counts (by omega)) (by simp) ?_
            simp
            first | refine h1 _ _ ?_ | refine ⟨by omega, h1 _ _ ?_⟩ | refine ⟨by omega, by omega, h1 _ _ ?_⟩
            clear h1 K1
            refine atree.al (fun K1 h1 => ?_) ?_
            · simp
              first | refine h1 _ _ ?_ | refine ⟨by omega, h1 _ _ ?_⟩ | refine ⟨by omega, by omega, h1 _ _ ?_⟩
              clear h1 K1
              refine atree.a1 fun K1 h1 => ?_
              simp
              first | refine h1 _ _ ?_ | refine ⟨by omega, h1 _ _ ?_⟩ | refine ⟨by omega, by omega, h1 _ _ ?_⟩
              clear h1 K1
              refine atree.a1 fun K1 h1 => ?_
              simp
              first | refine h1 _ _ ?_ | refine ⟨by omega, h1 _ _ ?_⟩ | refine ⟨by omega, by omega, h1 _ _ ?_⟩
              clear h1 K1
              simp
            · refine atree.a1 fun K1 h1 => ?_
              simp
              first | refine h1 _ _ ?_ | refine ⟨by omega, h1 _ _ ?_⟩ | refine ⟨by omega, by omega, h1 _ _ ?_⟩
              clear h1 K1
              refine atree.a1 fun K1 h1 => ?_
              simp
              first | refine h1 _ _ ?_ | refine ⟨by omega, h1 _ _ ?_⟩ | refine ⟨by omega, by omega, h1 _ _ ?_⟩
              clear h1 K1
              refine atree.a1 fun K1 h1 => ?_
              simp
              first | refine h1 _ _ ?_ | refine ⟨by omega, h1 _ _ ?_⟩ | refine ⟨by omega, by omega, h1 _ _ ?_⟩
              clear h1 K1
              simp
          · refine atree.a1 fun K1 h1 => ?_
            simp
            first | refine h1 _ _ ?_ | refine ⟨by omega, h1 _ _ ?_⟩ | refine ⟨by omega, by omega, h1 _ _ ?_⟩
            clear h1 K1
            refine atree.a1 fun K1 h1 => ?_
            simp
            refine call_pure (c_Clone_CelRow s.counts (by omega)) (by simp) ?_
            simp
            first | refine h1 _ _ ?_ | refine ⟨by omega, h1 _ _ ?_⟩ | refine ⟨by omega, by omega, h1 _ _ ?_⟩
            clear h1 K1
            refine atree.a1 fun K1 h1 => ?_
            simp
            first | refine h1 _ _ ?_ | refine ⟨by omega, h1 _ _ ?_⟩ | refine ⟨by omega, by omega, h1 _ _ ?_⟩
            clear h1 K1
            refine atree.a1 fun K1 h1 => ?_
            simp
            first | refine h1 _ _ ?_ | refine ⟨by omega, h1 _ _ ?_⟩ | refine ⟨by omega, by omega, h1 _ _ ?_⟩
            clear h1 K1
            simp
        · refine atree.a1 fun K1 h1 => ?_
          simp
          first | refine h1 _ _ ?_ | refine ⟨by omega, h1 _ _ ?_⟩ | refine ⟨by omega, by omega, h1 _ _ ?_⟩
          clear h1 K1
          refine atree.a1 fun K1 h1 => ?_
          simp
          first | refine h1 _ _ ?_ | refine ⟨by omega, h1 _ _ ?_⟩ | refine ⟨by omega, by omega, h1 _ _ ?_⟩
          clear h1 K1
          refine atree.a1 fun K1 h1 => ?_
          simp
          refine call_pure (c_Clone_CelRow s.counts (by omega)) (by simp) ?_
          simp
          first | refine h1 _ _ ?_ | refine ⟨by omega, h1 _ _ ?_⟩ | refine ⟨by omega, by omega, h1 _ _ ?_⟩
          clear h1 K1
          refine atree.a1 fun K1 h1 => ?_
          simp
          first | refine h1 _ _ ?_ | refine ⟨by omega, h1 _ _ ?_⟩ | refine ⟨by omega, by omega, h1 _ _ ?_⟩
          clear h1 K1
          refine atree.a1 fun K1 h1 => ?_
          simp
          first | refine h1 _ _ ?_ | refine ⟨by omega, h1 _ _ ?_⟩ | refine ⟨by omega, by omega, h1 _ _ ?_⟩
          clear h1 K1
          simp
      · refine atree.al (fun K1 h1 => ?_) ?_
        · simp
          first | refine h1 _ _ ?_ | refine ⟨by omega, h1 _ _ ?_⟩ | refine ⟨by omega, by omega, h1 _ _ ?_⟩
          clear h1 K1
          refine atree.al (fun K1 h1 => ?_) ?_
          · simp
            refine call_pure (c_Clone_StrRow s.sets (by omega)) (by simp) ?_
            simp
            first | refine h1 _ _ ?_ | refine ⟨by omega, h1 _ _ ?_⟩ | refine ⟨by omega, by omega, h1 _ _ ?_⟩
            clear h1 K1
            refine atree.al (fun K1 h1 => ?_) ?_
            · simp
              refine call_pure (c_Clone_CelRow s.counts (by omega)) (by simp) ?_
              simp
              first | refine h1 _ _ ?_ | refine ⟨by omega, h1 _ _ ?_⟩ | refine ⟨by omega, by omega, h1 _ _ ?_⟩
              clear h1 K1
              refine atree.al (fun K1 h1 => ?_) ?_
              · simp
                first | refine h1 _ _ ?_ | refine ⟨by omega, h1 _ _ ?_⟩ | refine ⟨by omega, by omega, h1 _ _ ?_⟩
                clear h1 K1
                refine atree.a1 fun K1 h1 => ?_
                simp
                first | refine h1 _ _ ?_ | refine ⟨by omega, h1 _ _ ?_⟩ | refine ⟨by omega, by omega, h1 _ _ ?_⟩
                clear h1 K1
                refine atree.a1 fun K1 h1 => ?_
                simp
                first | refine h1 _ _ ?_ | refine ⟨by omega, h1 _ _ ?_⟩ | refine ⟨by omega, by omega, h1 _ _ ?_⟩
                clear h1 K1
                simp
              · refine atree.a1 fun K1 h1 => ?_
                simp
                first | refine h1 _ _ ?_ | refine ⟨by omega, h1 _ _ ?_⟩ | refine ⟨by omega, by omega, h1 _ _ ?_⟩
                clear h1 K1
                refine atree.a1 fun K1 h1 => ?_
                simp
                first | refine h1 _ _ ?_ | refine ⟨by omega, h1 _ _ ?_⟩ | refine ⟨by omega, by omega, h1 _ _ ?_⟩
                clear h1 K1
                refine atree.a1 fun K1 h1 => ?_
                simp
                first | refine h1 _ _ ?_ | refine ⟨by omega, h1 _ _ ?_⟩ | refine ⟨by omega, by omega, h1 _ _ ?_⟩
                clear h1 K1
                simp
            · refine atree.a1 fun K1 h1 => ?_
              simp
              first | refine h1 _ _ ?_ | refine ⟨by omega, h1 _ _ ?_⟩ | refine ⟨by omega, by omega, h1 _ _ ?_⟩
              clear h1 K1
              refine atree.a1 fun K1 h1 => ?_
              simp
              refine call_pure (c_Clone_CelRow s.counts (by omega)) (by simp) ?_
              simp
              first | refine h1 _ _ ?_ | refine ⟨by omega, h1 _ _ ?_⟩ | refine ⟨by omega, by omega, h1 _ _ ?_⟩
              clear h1 K1
              refine atree.a1 fun K1 h1 => ?_
              simp
              first | refine h1 _ _ ?_ | refine ⟨by omega, h1 _ _ ?_⟩ | refine ⟨by omega, by omega, h1 _ _ ?_⟩
              clear h1 K1
              refine atree.a1 fun K1 h1 => ?_
              simp
              first | refine h1 _ _ ?_ | refine ⟨by omega, h1 _ _ ?_⟩ | refine ⟨by omega, by omega, h1 _ _ ?_⟩
              clear h1 K1
              simp
          · refine atree.a1 fun K1 h1 => ?_
            simp
            first | refine h1 _ _ ?_ | refine ⟨by omega, h1 _ _ ?_⟩ | refine ⟨by omega, by omega, h1 _ _ ?_⟩
            clear h1 K1
            refine atree.a1 fun K1 h1 => ?_
            simp
            refine call_pure (c_Clone_StrRow s.sets (by omega)) (by simp) ?_
            simp
            first | refine h1 _ _ ?_ | refine ⟨by omega, h1 _ _ ?_⟩ | refine ⟨by omega, by omega, h1 _ _ ?_⟩
            clear h1 K1
            refine atree.a1 fun K1 h1 => ?_
            simp
            refine call_pure (c_Clone_CelRow s.counts (by omega)) (by simp) ?_
            simp
            first | refine h1 _ _ ?_ | refine ⟨by omega, h1 _ _ ?_⟩ | refine ⟨by omega, by omega, h1 _ _ ?_⟩
            clear h1 K1
            refine atree.a1 fun K1 h1 => ?_
            simp
            first | refine h1 _ _ ?_ | refine ⟨by omega, h1 _ _ ?_⟩ | refine ⟨by omega, by omega, h1 _ _ ?_⟩
            clear h1 K1
            refine atree.a1 fun K1 h1 => ?_
            simp
            first | refine h1 _ _ ?_ | refine ⟨by omega, h1 _ _ ?_⟩ | refine ⟨by omega, by omega, h1 _ _ ?_⟩
            clear h1 K1
            simp
        · refine atree.a1 fun K1 h1 => ?_
          simp
          first | refine h1 _ _ ?_ | refine ⟨by omega, h1 _ _ ?_⟩ | refine ⟨by omega, by omega, h1 _ _ ?_⟩
          clear h1 K1
          refine atree.al (fun K1 h1 => ?_) ?_
          · simp
            refine call_pure (c_Clone_StrRow s.sets (by omega)) (by simp) ?_
            simp
            first | refine h1 _ _ ?_ | refine ⟨by omega, h1 _ _ ?_⟩ | refine ⟨by omega, by omega, h1 _ _ ?_⟩
            clear h1 K1
            refine atree.a1 fun K1 h1 => ?_
            simp
            first | refine h1 _ _ ?_ | refine ⟨by omega, h1 _ _ ?_⟩ | refine ⟨by omega, by omega, h1 _ _ ?_⟩
            clear h1 K1
            refine atree.a1 fun K1 h1 => ?_
            simp
            refine call_pure (c_Clone_CelRow s.counts (by omega)) (by simp) ?_
            simp
            first | refine h1 _ _ ?_ | refine ⟨by omega, h1 _ _ ?_⟩ | refine ⟨by omega, by omega, h1 _ _ ?_⟩
            clear h1 K1
            refine atree.a1 fun K1 h1 => ?_
            simp
            first | refine h1 _ _ ?_ | refine ⟨by omega, h1 _ _ ?_⟩ | refine ⟨by omega, by omega, h1 _ _ ?_⟩
            clear h1 K1
            refine atree.a1 fun K1 h1 => ?_
            simp
            first | refine h1 _ _ ?_ | refine ⟨by omega, h1 _ _ ?_⟩ | refine ⟨by omega, by omega, h1 _ _ ?_⟩
            clear h1 K1
            simp
          · refine atree.a1 fun K1 h1 => ?_
            simp
            first | refine h1 _ _ ?_ | refine ⟨by omega, h1 _ _ ?_⟩ | refine ⟨by omega, by omega, h1 _ _ ?_⟩
            clear h1 K1
            refine atree.a1 fun K1 h1 => ?_
            simp
            refine call_pure (c_Clone_StrRow s.sets (by omega)) (by simp) ?_
            simp
            first | refine h1 _ _ ?_ | refine ⟨by omega, h1 _ _ ?_⟩ | refine ⟨by omega, by omega, h1 _ _ ?_⟩
            clear h1 K1
            refine atree.a1 fun K1 h1 => ?_
            simp
            refine call_pure (c_Clone_CelRow s.counts (by omega)) (by simp) ?_
            simp
            first | refine h1 _ _ ?_ | refine ⟨by omega, h1 _ _ ?_⟩ | refine ⟨by omega, by omega, h1 _ _ ?_⟩
            clear h1 K1
            refine atree.a1 fun K1 h1 => ?_
            simp
            first | refine h1 _ _ ?_ | refine ⟨by omega, h1 _ _ ?_⟩ | refine ⟨by omega, by omega, h1 _ _ ?_⟩
            clear h1 K1
            refine atree.a1 fun K1 h1 => ?_
            simp
            first | refine h1 _ _ ?_ | refine ⟨by omega, h1 _ _ ?_⟩ | refine ⟨by omega, by omega, h1 _ _ ?_⟩
            clear h1 K1
            simp
    · refine atree.al (fun K1 h1 => ?_) ?_
      · simp
        first | refine h1 _ _ ?_ | refine ⟨by omega, h1 _ _ ?_⟩ | refine ⟨by omega, by omega, h1 _ _ ?_⟩
        clear h1 K1
        refine atree.al (fun K1 h1 => ?_) ?_
        · simp
          first | refine h1 _ _ ?_ | refine ⟨by omega, h1 _ _ ?_⟩ | refine ⟨by omega, by omega, h1 _ _ ?_⟩
          clear h1 K1
          refine atree.al (fun K1 h1 => ?_) ?_
          · simp
            refine call_pure (c_Clone_StrRow s.sets (by omega)) (by simp) ?_
            simp
            first | refine h1 _ _ ?_ | refine ⟨by omega, h1 _ _ ?_⟩ | refine ⟨by omega, by omega, h1 _ _ ?_⟩
            clear h1 K1
            refine atree.al (fun K1 h1 => ?_) ?_
            · simp
              refine call_pure (c_Clone_CelRow s.counts (by omega)) (by simp) ?_
              simp
              first | refine h1 _ _ ?_ | refine ⟨by omega, h1 _ _ ?_⟩ | refine ⟨by omega, by omega, h1 _ _ ?_⟩
              clear h1 K1
              refine atree.al (fun K1 h1 => ?_) ?_
              · simp
                first | refine h1 _ _ ?_ | refine ⟨by omega, h1 _ _ ?_⟩ | refine ⟨by omega, by omega, h1 _ _ ?_⟩
                clear h1 K1
                refine atree.a1 fun K1 h1 => ?_
                simp
                first | refine h1 _ _ ?_ | refine ⟨by omega, h1 _ _ ?_⟩ | refine ⟨by omega, by omega, h1 _ _ ?_⟩
                clear h1 K1
                refine atree.a1 fun K1 h1 => ?_
                simp
                first | refine h1 _ _ ?_ | refine ⟨by omega, h1 _ _ ?_⟩ | refine ⟨by omega, by omega, h1 _ _ ?_⟩
                clear h1 K1
                simp
              · refine atree.a1 fun K1 h1 => ?_
                simp
                first | refine h1 _ _ ?_ | refine ⟨by omega, h1 _ _ ?_⟩ | refine ⟨by omega, by omega, h1 _ _ ?_⟩
                clear h1 K1
                refine atree.a1 fun K1 h1 => ?_
                simp
                first | refine h1 _ _ ?_ | refine ⟨by omega, h1 _ _ ?_⟩ | refine ⟨by omega, by omega, h1 _ _ ?_⟩
                clear h1 K1
                refine atree.a1 fun K1 h1 => ?_
                simp
                first | refine h1 _ _ ?_ | refine ⟨by omega, h1 _ _ ?_⟩ | refine ⟨by omega, by omega, h1 _ _ ?_⟩
                clear h1 K1
                simp
            · refine atree.a1 fun K1 h1 => ?_
              simp
              first | refine h1 _ _ ?_ | refine ⟨by omega, h1 _ _ ?_⟩ | refine ⟨by omega, by omega, h1 _ _ ?_⟩
              clear h1 K1
              refine atree.a1 fun K1 h1 => ?_
              simp
              refine call_pure (c_Clone_CelRow s.counts (by omega)) (by simp) ?_
              simp
              first | refine h1 _ _ ?_ | refine ⟨by omega, h1 _ _ ?_⟩ | refine ⟨by omega, by omega, h1 _ _ ?_⟩
              clear h1 K1
              refine atree.a1 fun K1 h1 => ?_
              simp
              first | refine h1 _ _ ?_ | refine ⟨by omega, h1 _ _ ?_⟩ | refine ⟨by omega, by omega, h1 _ _ ?_⟩
              clear h1 K1
              refine atree.a1 fun K1 h1 => ?_
              simp
              first | refine h1 _ _ ?_ | refine ⟨by omega, h1 _ _ ?_⟩ | refine ⟨by omega, by omega, h1 _ _ ?_⟩
              clear h1 K1
              simp
          · refine atree.a1 fun K1 h1 => ?_
            simp
            first | refine h1 _ _ ?_ | refine ⟨by omega, h1 _ _ ?_⟩ | refine ⟨by omega, by omega, h1 _ _ ?_⟩
            clear h1 K1
            refine atree.a1 fun K1 h1 => ?_
            simp
            refine call_pure (c_Clone_StrRow s.sets (by omega)) (by simp) ?_
            simp
            first | refine h1 _ _ ?_ | refine ⟨by omega, h1 _ _ ?_⟩ | refine ⟨by omega, by omega, h1 _ _ ?_⟩
            clear h1 K1
            refine atree.a1 fun K1 h1 => ?_
            simp
            refine call_pure (c_Clone_CelRow s.counts (by omega)) (by simp) ?_
            simp
            first | refine h1 _ _ ?_ | refine ⟨by omega, h1 _ _ ?_⟩ | refine ⟨by omega, by omega, h1 _ _ ?_⟩
            clear h1 K1
            refine atree.a1 fun K1 h1 => ?_
            simp
            first | refine h1 _ _ ?_ | refine ⟨by omega, h1 _ _ ?_⟩ | refine ⟨by omega, by omega, h1 _ _ ?_⟩
            clear h1 K1
            refine atree.a1 fun K1 h1 => ?_
            simp
            first | refine h1 _ _ ?_ | refine ⟨by omega, h1 _ _ ?_⟩ | refine ⟨by omega, by omega, h1 _ _ ?_⟩
            clear h1 K1
            simp
        · refine atree.a1 fun K1 h1 => ?_
          simp
          first | refine h1 _ _ ?_ | refine ⟨by omega, h1 _ _ ?_⟩ | refine ⟨by omega, by omega, h1 _ _ ?_⟩
          clear h1 K1
          refine atree.a1 fun K1 h1 => ?_
          simp
          first | refine h1 _ _ ?_ | refine ⟨by omega, h1 _ _ ?_⟩ | refine ⟨by omega, by omega, h1 _ _ ?_⟩
          clear h1 K1
          refine atree.a1 fun K1 h1 => ?_
          simp
          refine call_pure (c_Clone_StrRow s.sets (by omega)) (by simp) ?_
          simp
          first | refine h1 _ _ ?_ | refine ⟨by omega, h1 _ _ ?_⟩ | refine ⟨by omega, by omega, h1 _ _ ?_⟩
          clear h1 K1
          refine atree.a1 fun K1 h1 => ?_
          simp
          refine call_pure (c_Clone_CelRow s.counts (by omega)) (by simp) ?_
          simp
          first | refine h1 _ _ ?_ | refine ⟨by omega, h1 _ _ ?_⟩ | refine ⟨by omega, by omega, h1 _ _ ?_⟩
          clear h1 K1
          refine atree.a1 fun K1 h1 => ?_
          simp
          first | refine h1 _ _ ?_ | refine ⟨by omega, h1 _ _ ?_⟩ | refine ⟨by omega, by omega, h1 _ _ ?_⟩
          clear h1 K1
          refine atree.a1 fun K1 h1 => ?_
          simp
          first | refine h1 _ _ ?_ | refine ⟨by omega, h1 _ _ ?_⟩ | refine ⟨by omega, by omega, h1 _ _ ?_⟩
          clear h1 K1
          simp
      · refine atree.a1 fun K1 h1 => ?_
        simp
        first | refine h1 _ _ ?_ | refine ⟨by omega, h1 _ _ ?_⟩ | refine ⟨by omega, by omega, h1 _ _ ?_⟩
        clear h1 K1
        refine atree.al (fun K1 h1 => ?_) ?_
        · simp
          first | refine h1 _ _ ?_ | refine ⟨by omega, h1 _ _ ?_⟩ | refine ⟨by omega, by omega, h1 _ _ ?_⟩
          clear h1 K1
          refine atree.al (fun K1 h1 => ?_) ?_
          · simp
            refine call_pure (c_Clone_StrRow s.sets (by omega)) (by simp) ?_
            simp
            first | refine h1 _ _ ?_ | refine ⟨by omega, h1 _ _ ?_⟩ | refine ⟨by omega, by omega, h1 _ _ ?_⟩
            clear h1 K1
            refine atree.a1 fun K1 h1 => ?_
            simp
            first | refine h1 _ _ ?_ | refine ⟨by omega, h1 _ _ ?_⟩ | refine ⟨by omega, by omega, h1 _ _ ?_⟩
            clear h1 K1
            refine atree.a1 fun K1 h1 => ?_
            simp
            refine call_pure (c_Clone_CelRow s.counts (by omega)) (by simp) ?_
            simp
            first | refine h1 _ _ ?_ | refine ⟨by omega, h1 _ _ ?_⟩ | refine ⟨by omega, by omega, h1 _ _ ?_⟩
            clear h1 K1
            refine atree.a1 fun K1 h1 => ?_
            simp
            first | refine h1 _ _ ?_ | refine ⟨by omega, h1 _ _ ?_⟩ | refine ⟨by omega, by omega, h1 _ _ ?_⟩
            clear h1 K1
            refine atree.a1 fun K1 h1 => ?_
            simp
            first | refine h1 _ _ ?_ | refine ⟨by omega, h1 _ _ ?_⟩ | refine ⟨by omega, by omega, h1 _ _ ?_⟩
            clear h1 K1
            simp
          · refine atree.a1 fun K1 h1 => ?_
            simp
            first | refine h1 _ _ ?_ | refine ⟨by omega, h1 _ _ ?_⟩ | refine ⟨by omega, by omega, h1 _ _ ?_⟩
            clear h1 K1
            refine atree.a1 fun K1 h1 => ?_
            simp
            refine call_pure (c_Clone_StrRow s.sets (by omega)) (by simp) ?_
            simp
            first | refine h1 _ _ ?_ | refine ⟨by omega, h1 _ _ ?_⟩ | refine ⟨by omega, by omega, h1 _ _ ?_⟩
            clear h1 K1
            refine atree.a1 fun K1 h1 => ?_
            simp
            refine call_pure (c_Clone_CelRow s.counts (by omega)) (by simp) ?_
            simp
            first | refine h1 _ _ ?_ | refine ⟨by omega, h1 _ _ ?_⟩ | refine ⟨by omega, by omega, h1 _ _ ?_⟩
            clear h1 K1
            refine atree.a1 fun K1 h1 => ?_
            simp
            first | refine h1 _ _ ?_ | refine ⟨by omega, h1 _ _ ?_⟩ | refine ⟨by omega, by omega, h1 _ _ ?_⟩
            clear h1 K1
            refine atree.a1 fun K1 h1 => ?_
            simp
            first | refine h1 _ _ ?_ | refine ⟨by omega, h1 _ _ ?_⟩ | refine ⟨by omega, by omega, h1 _ _ ?_⟩
            clear h1 K1
            simp
        · refine atree.a1 fun K1 h1 => ?_
          simp
          first | refine h1 _ _ ?_ | refine ⟨by omega, h1 _ _ ?_⟩ | refine ⟨by omega, by omega, h1 _ _ ?_⟩
          clear h1 K1
          refine atree.a1 fun K1 h1 => ?_
          simp
          first | refine h1 _ _ ?_ | refine ⟨by omega, h1 _ _ ?_⟩ | refine ⟨by omega, by omega, h1 _ _ ?_⟩
          clear h1 K1
          refine atree.a1 fun K1 h1 => ?_
          simp
          refine call_pure (c_Clone_StrRow s.sets (by omega)) (by simp) ?_
          simp
          first | refine h1 _ _ ?_ | refine ⟨by omega, h1 _ _ ?_⟩ | refine ⟨by omega, by omega, h1 _ _ ?_⟩
          clear h1 K1
          refine atree.a1 fun K1 h1 => ?_
          simp
          refine call_pure (c_Clone_CelRow s.counts (by omega)) (by simp) ?_
          simp
          first | refine h1 _ _ ?_ | refine ⟨by omega, h1 _ _ ?_⟩ | refine ⟨by omega, by omega, h1 _ _ ?_⟩
          clear h1 K1
          refine atree.a1 fun K1 h1 => ?_
          simp
          first | refine h1 _ _ ?_ | refine ⟨by omega, h1 _ _ ?_⟩ | refine ⟨by omega, by omega, h1 _ _ ?_⟩
          clear h1 K1
          refine atree.a1 fun K1 h1 => ?_
          simp
          first | refine h1 _ _ ?_ | refine ⟨by omega, h1 _ _ ?_⟩ | refine ⟨by omega, by omega, h1 _ _ ?_⟩
          clear h1 K1
          simp
  refine AWp.seq ?_
  refine AWp.go [2, 3, 15, 16] [2, 3] fun K hK => ?_
  simp
  first | refine hK _ _ ?_ | refine ⟨by omega, hK _ _ ?_⟩ | refine ⟨by omega, by omega, hK _ _ ?_⟩
  clear hK K
  refine AWp.block (AWp.while (fun i : Nat => [(2, .ptr 2 0), (3, .ptr 3 0), (15, .i .i64 s.sets.length), (16, .i .i64 i)]) (fun i => [(2, [.sl .nl 1 [], .sl .nl 1 []]), (3, [.sl .own 1 (rowsS s.sets), .sl .own 1 (rowsK s.counts)])]) (fun i => i ≤ s.sets.length) (fun i => s.sets.length - i) [2, 3, 15, 16] [2, 3] 0 (by simp) (by simp) ?_)
  intro i hi
  refine AWp.go [2, 3, 15, 16, 17] [2, 3] fun K hK => ?_
  simp
  first | refine hK _ _ ?_ | refine ⟨by omega, hK _ _ ?_⟩ | refine ⟨by omega, by omega, hK _ _ ?_⟩
  clear hK K
  refine AWp.seq ?_
  by_cases h : i < s.sets.length
  · refine AWp.cond (t := true) (by first | (simp [h]; done) | (simp [h]; omega)) (fun _ => ?_) (by simp)
    refine AWp.skip ?_
    show AWp _ _ _ _
    refine AWp.seq ?_
    refine AWp.block ?_
    refine AWp.go [2, 3, 4, 15, 16] [2, 3] fun K hK => ?_
    simp
    first | refine hK _ _ ?_ | refine ⟨by omega, hK _ _ ?_⟩ | refine ⟨by omega, by omega, hK _ _ ?_⟩
    clear hK K
    have hg := (c_Clone_Str s.sets[i] (by have := k3 _ (List.getElem_mem h); omega)).fro
    have hst : (rowsS s.sets).set i [.sl .fro 1 (strsAV s.sets[i])] = rowsS s.sets := by rw [rowsS_set, List.set_getElem_self]
    simp at hg
    refine AWp.goLastD 9 (fun k => if k = 8 then .sl .fro 1 (strsAV s.sets[i]) else .any) [2, 3, 15, 16] [2, 3] mix (by kernel_rfl) fun K hK => ?_
    simp [h, hg, hst]
    first | refine hK _ _ ?_ | refine ⟨by omega, hK _ _ ?_⟩ | refine ⟨by omega, by omega, hK _ _ ?_⟩
    clear hK K
    show AWp _ _ _ _
    refine AWp.goLast [2, 3, 15, 16] [2, 3] fun K hK => ?_
    simp
    first | refine hK _ _ ?_ | refine ⟨by omega, hK _ _ ?_⟩ | refine ⟨by omega, by omega, hK _ _ ?_⟩
    clear hK K
    refine ⟨i + 1, by omega, by omega, ?_⟩
    simp
    exact wrap64 (by omega) (by omega)
  · refine AWp.cond (t := false) (by first | (simp [h]; done) | (simp [h]; omega)) (by simp) (fun _ => ?_)
    refine AWp.exit ?_
    show AWp _ _ _ _
    refine AWp.seq ?_
    obtain rfl : i = s.sets.length := by omega
    refine AWp.go [2, 3, 32, 33] [2, 3] fun K hK => ?_
    simp
    first | refine hK _ _ ?_ | refine ⟨by omega, hK _ _ ?_⟩ | refine ⟨by omega, by omega, hK _ _ ?_⟩
    clear hK K
    refine AWp.block (AWp.while (fun j : Nat => [(2, .ptr 2 0), (3, .ptr 3 0), (32, .i .i64 s.counts.length), (33, .i .i64 j)]) (fun j => [(2, [.sl .nl 1 [], .sl .nl 1 []]), (3, [.sl .own 1 (rowsS s.sets), .sl .own 1 (rowsK s.counts)])]) (fun j => j ≤ s.counts.length) (fun j => s.counts.length - j) [2, 3, 32, 33] [2, 3] 0 (by simp) (by simp) ?_)
    intro j hj
    refine AWp.go [2, 3, 32, 33, 34] [2, 3] fun K hK => ?_
    simp
    first | refine hK _ _ ?_ | refine ⟨by omega, hK _ _ ?_⟩ | refine ⟨by omega, by omega, hK _ _ ?_⟩
    clear hK K
    refine AWp.seq ?_
    by_cases h : j < s.counts.length
    · refine AWp.cond (t := true) (by first | (simp [h]; done) | (simp [h]; omega)) (fun _ => ?_) (by simp)
      refine AWp.skip ?_
      show AWp _ _ _ _
      refine AWp.seq ?_
      refine AWp.block ?_
      refine AWp.go [2, 3, 5, 32, 33] [2, 3] fun K hK => ?_
      simp
      first | refine hK _ _ ?_ | refine ⟨by omega, hK _ _ ?_⟩ | refine ⟨by omega, by omega, hK _ _ ?_⟩
      clear hK K
      have hg := (c_Clone_Cel s.counts[j] (by have := k4 _ (List.getElem_mem h); omega)).fro
      have hst : (rowsK s.counts).set j [.sl .fro 2 (celsAV s.counts[j])] = rowsK s.counts := by rw [rowsK_set, List.set_getElem_self]
      simp at hg
      refine AWp.goLastD 9 (fun k => if k = 8 then .sl .fro 2 (celsAV s.counts[j]) else .any) [2, 3, 32, 33] [2, 3] mix (by kernel_rfl) fun K hK => ?_
      simp [h, hg, hst]
      first | refine hK _ _ ?_ | refine ⟨by omega, hK _ _ ?_⟩ | refine ⟨by omega, by omega, hK _ _ ?_⟩
      clear hK K
      show AWp _ _ _ _
      refine AWp.goLast [2, 3, 32, 33] [2, 3] fun K hK => ?_
      simp
      first | refine hK _ _ ?_ | refine ⟨by omega, hK _ _ ?_⟩ | refine ⟨by omega, by omega, hK _ _ ?_⟩
      clear hK K
      refine ⟨j + 1, by omega, by omega, ?_⟩
      simp
      exact wrap64 (by omega) (by omega)
    · refine AWp.cond (t := false) (by first | (simp [h]; done) | (simp [h]; omega)) (by simp) (fun _ => ?_)
      refine AWp.exit ?_
      show AWp _ _ _ _
      refine AWp.go [2] [2] fun K hK => ?_
      simp
      first | refine hK _ _ ?_ | refine ⟨by omega, hK _ _ ?_⟩ | refine ⟨by omega, by omega, hK _ _ ?_⟩
      clear hK K
      refine AWp.ret ?_
      simp
def doStep (k : ByteArray) (s : Sta) (d : Dg) : Sta :=
  if d.kind = 1 ∨ d.kind = 2 then ⟨s.sets.set d.thing.toNat (putT (setOf s d.thing) k (decide (d.kind = 1))), s.counts⟩
  else if d.kind = 3 then ⟨s.sets, s.counts.set d.thing.toNat (moreT (countOf s d.thing) k d.num)⟩
  else if d.kind = 4 then ⟨s.sets, s.counts.set d.thing.toNat (moreT (countOf s d.thing) k (-d.num))⟩
  else s
def doTo (k : ByteArray) (s : Sta) (l : List Dg) : Sta := l.foldl (doStep k) s
def emptyS : Sta := ⟨[], []⟩
def doRes (r : Rul) (s : Sta) (o : Int) (k : ByteArray) : Sta × Int :=
  if okB r s && keyOk k then match (if 0 ≤ o then r.opers[o.toNat]? else none) with
    | some p => if stateB r (doTo k s p.does) then (doTo k s p.does, 0) else (emptyS, 6)
    | none => (emptyS, 3)
  else (emptyS, 1)
/-- Bounds of a state. -/
def Bd (B : Nat) (s : Sta) : Prop := (∀ l ∈ s.sets, l.length ≤ B) ∧ ∀ l ∈ s.counts, l.length ≤ B ∧ ∀ c ∈ l, -1000 * (B : Int) ≤ c.num ∧ c.num ≤ 1000 * (B : Int)
theorem putT_len (l : List ByteArray) (k : ByteArray) (is : Bool) : (putT l k is).length ≤ l.length + 1 := by
  unfold putT
  split
  · simp; omega
  · split
    · simp; omega
    · omega
theorem moreT_len (l : List Cel) (k : ByteArray) (n : Int) : (moreT l k n).length ≤ l.length + 1 := by
  unfold moreT
  split
  · simp; omega
  · split
    · split
      · simp; omega
      · simp
    · omega
theorem moreT_num {l : List Cel} {k : ByteArray} {n : Int} {B : Nat} (hn : -1000 ≤ n ∧ n ≤ 1000) (hl : ∀ c ∈ l, -1000 * (B : Int) ≤ c.num ∧ c.num ≤ 1000 * (B : Int)) : ∀ c ∈ moreT l k n, -1000 * ((B + 1 : Nat) : Int) ≤ c.num ∧ c.num ≤ 1000 * ((B + 1 : Nat) : Int) := by
  have hw : ∀ c ∈ l, -1000 * ((B + 1 : Nat) : Int) ≤ c.num ∧ c.num ≤ 1000 * ((B + 1 : Nat) : Int) := fun c hc => by have := hl c hc; omega
  unfold moreT
  intro c hc
  split at hc
  · rcases List.mem_append.1 hc with h | h
    · exact hw c (List.mem_of_mem_take h)
    · rcases List.mem_cons.1 h with rfl | h
      · simp only; omega
      · exact hw c (List.mem_of_mem_drop h)
  · split at hc
    · rename_i c0 h0
      split at hc
      · rcases List.mem_append.1 hc with h | h
        · exact hw c (List.mem_of_mem_take h)
        · exact hw c (List.mem_of_mem_drop h)
      · rcases List.mem_or_eq_of_mem_set hc with h | rfl
        · exact hw c h
        · have := hl c0 (List.mem_of_getElem? h0)
          simp only; omega
    · exact hw c hc
theorem Bd.mono {A B : Nat} {s : Sta} (h : Bd A s) (hab : A ≤ B) : Bd B s := by
  refine ⟨fun l hl => by have := h.1 l hl; omega, fun l hl => ⟨by have := (h.2 l hl).1; omega, fun c hc => by have := (h.2 l hl).2 c hc; omega⟩⟩
theorem setOf_or (s : Sta) (n : Int) : setOf s n ∈ s.sets ∨ setOf s n = [] := by
  unfold setOf
  rw [List.getD_eq_getElem?_getD]
  cases h : s.sets[n.toNat]? with
  | some x => exact .inl (by rw [Option.getD_some]; exact List.mem_of_getElem? h)
  | none => exact .inr rfl
theorem countOf_or (s : Sta) (n : Int) : countOf s n ∈ s.counts ∨ countOf s n = [] := by
  unfold countOf
  rw [List.getD_eq_getElem?_getD]
  cases h : s.counts[n.toNat]? with
  | some x => exact .inl (by rw [Option.getD_some]; exact List.mem_of_getElem? h)
  | none => exact .inr rfl
theorem Bd.setOf {B : Nat} {s : Sta} (h : Bd B s) (n : Int) : (Go.AM.setOf s n).length ≤ B := by
  rcases setOf_or s n with h1 | h1
  · exact h.1 _ h1
  · rw [h1]; simp
theorem Bd.countOf {B : Nat} {s : Sta} (h : Bd B s) (n : Int) : (Go.AM.countOf s n).length ≤ B ∧ ∀ c ∈ Go.AM.countOf s n, -1000 * (B : Int) ≤ c.num ∧ c.num ≤ 1000 * (B : Int) := by
  rcases countOf_or s n with h1 | h1
  · exact h.2 _ h1
  · rw [h1]; exact ⟨by simp, fun c hc => by simp at hc⟩
theorem Bd.step {B : Nat} {s : Sta} {k : ByteArray} {d : Dg} (h : Bd B s) (hn : -1000 ≤ d.num ∧ d.num ≤ 1000) : Bd (B + 1) (doStep k s d) := by
  have h' := h.mono (Nat.le_succ B)
  have hc := h.countOf d.thing
  unfold doStep
  split
  · refine ⟨fun l hl => ?_, h'.2⟩
    rcases List.mem_or_eq_of_mem_set hl with h1 | rfl
    · exact h'.1 l h1
    · have := putT_len (Go.AM.setOf s d.thing) k (decide (d.kind = 1))
      have := h.setOf d.thing; omega
  · split
    · refine ⟨h'.1, fun l hl => ?_⟩
      rcases List.mem_or_eq_of_mem_set hl with h1 | rfl
      · exact h'.2 l h1
      · have h3 := moreT_len (Go.AM.countOf s d.thing) k d.num
        exact ⟨by omega, moreT_num hn hc.2⟩
    · split
      · refine ⟨h'.1, fun l hl => ?_⟩
        rcases List.mem_or_eq_of_mem_set hl with h1 | rfl
        · exact h'.2 l h1
        · have h3 := moreT_len (Go.AM.countOf s d.thing) k (-d.num)
          exact ⟨by omega, moreT_num (by omega) hc.2⟩
      · exact h'
theorem doStep_lens (k : ByteArray) (s : Sta) (d : Dg) : (doStep k s d).sets.length = s.sets.length ∧ (doStep k s d).counts.length = s.counts.length := by
  unfold doStep
  split
  · simp
  · split
    · simp
    · split <;> simp
theorem doTo_snoc (k : ByteArray) (s : Sta) (l : List Dg) (d : Dg) : doTo k s (l ++ [d]) = doStep k (doTo k s l) d := by simp [doTo]
theorem doTo_lens (k : ByteArray) (l : List Dg) : ∀ s : Sta, (doTo k s l).sets.length = s.sets.length ∧ (doTo k s l).counts.length = s.counts.length := by
  induction l with
  | nil => exact fun s => ⟨rfl, rfl⟩
  | cons d l ih =>
    intro s
    have h1 := ih (doStep k s d)
    have h2 := doStep_lens k s d
    exact ⟨h1.1.trans h2.1, h1.2.trans h2.2⟩
theorem Bd.doTo {k : ByteArray} (l : List Dg) (hl : ∀ d ∈ l, -1000 ≤ d.num ∧ d.num ≤ 1000) : ∀ {B : Nat} {s : Sta}, Bd B s → Bd (B + l.length) (doTo k s l) := by
  induction l with
  | nil => exact fun h => h
  | cons d l ih =>
    intro B s h
    have h1 := ih (fun x hx => hl x (List.mem_cons_of_mem _ hx)) (h.step (k := k) (hl d (List.mem_cons_self ..)))
    rw [List.length_cons, show B + (l.length + 1) = B + 1 + l.length by omega]
    exact h1
theorem stateB_bd {r : Rul} {s : Sta} (h : stateB r s = true) : Bd 4000 s := by
  obtain ⟨h1, h2⟩ := stateB_sets h
  refine ⟨fun l hl => ?_, fun l hl => ?_⟩
  · have := h1 l hl
    simp only [setB, Bool.and_eq_true, decide_eq_true_eq] at this
    omega
  · have := h2 l hl
    simp only [countB, Bool.and_eq_true, decide_eq_true_eq, List.all_eq_true] at this
    refine ⟨by omega, fun c hc => ?_⟩
    obtain ⟨i, hi, rfl⟩ := List.mem_iff_getElem.1 hc
    have h3 := this.1 i (by simpa using hi)
    simp [celAt, hi] at h3
    omega
theorem Bd.slight {B : Nat} {s : Sta} (h : Bd B s) (hB : B ≤ 100000) (h1 : s.sets.length ≤ 100000) (h2 : s.counts.length ≤ 100000) : SlightS s :=
  ⟨h1, h2, fun l hl => by have := h.1 l hl; omega, fun l hl => by have := (h.2 l hl).1; omega⟩
theorem doB_fit {r : Rul} {d : Dg} (h : doB r d = true) : (d.kind = 1 ∨ d.kind = 2 → inN d.thing r.sets.length = true) ∧ (d.kind = 3 ∨ d.kind = 4 → inN d.thing r.counts.length = true) ∧ -1000 ≤ d.num ∧ d.num ≤ 1000 := by
  unfold doB at h
  split at h
  · rename_i q
    simp only [Bool.and_eq_true, decide_eq_true_eq] at h
    exact ⟨fun _ => h.1, fun h2 => absurd h2 (by omega), by omega⟩
  · split at h
    · simp only [Bool.and_eq_true, inB, decide_eq_true_eq] at h
      exact ⟨fun h2 => absurd h2 (by omega), fun _ => h.1, by omega⟩
    · split at h
      · simp only [Bool.and_eq_true, decide_eq_true_eq] at h
        exact ⟨fun h2 => absurd h2 (by omega), fun h2 => absurd h2 (by omega), by omega⟩
      · cases h
theorem opB_does {r : Rul} {o : Opn} (h : opB r o = true) : o.does.length ≤ 16 ∧ ∀ d ∈ o.does, doB r d = true := by
  simp only [opB, Bool.and_eq_true, inB, decide_eq_true_eq, List.all_eq_true] at h
  refine ⟨by omega, fun d hd => ?_⟩
  obtain ⟨i, hi, rfl⟩ := List.mem_iff_getElem.1 hd
  have := h.2 i (by simpa using hi)
  rw [oprAt_at r hi, Bool.and_eq_true] at this
  exact this.1
end Go.AM
namespace Go.AM
open Go.Proofs
set_option maxRecDepth 8000 in
set_option maxHeartbeats 16000000 in
theorem c_eval_Do (r : Rul) (s : Sta) (hr : Slim r) (hs : SlightS s) (o : Int) (k : ByteArray) : Pure Try.prog 25 [.agg (rulC r), .agg (staC s), .i .i64 o, .s k] (.tup [.agg [.sl .own 1 (rowsS (doRes r s o k).1.sets), .sl .own 1 (rowsK (doRes r s o k).1.counts)], .i .i64 (doRes r s o k).2]) := by
  have gC := c_eval_Check r s hr hs
  have gcp := c_eval_copied s hs
  simp [rulC, staC] at gC gcp
  obtain ⟨k1, k2, k3, k4⟩ := id hs
  refine proc_of (cx Try.prog 111 [2, 3, 4, 5, 8, 9, 10, 12, 13, 24, 42, 43, 44, 45, 49, 50, 69, 86, 108] [8, 9]) 107 [.cell 8 30, .tmp 9] Try.func25 rfl rfl rfl rfl rfl rfl (Nat.le_refl _) rfl ?_
  refine AWp.go [2, 3, 4, 5, 8] [4, 5, 8] fun K hK => ?_
  simp [rulC, staC]
  first | refine hK _ _ ?_ | refine ⟨by omega, hK _ _ ?_⟩ | refine ⟨by omega, by omega, hK _ _ ?_⟩
  clear hK K
  refine AWp.seq ?_
  refine AWp.block ?_
  refine AWp.step [2, 3, 4, 5, 8, 13] [4, 5, 8] [(2, .i .i64 o), (3, .s k), (4, .ptr 4 0), (5, .ptr 5 0), (8, .ptr 8 0), (13, .b (!(okB r s && keyOk k)))] [(4, [.sl .fro 1 (strsAV r.sets), .sl .fro 1 (strsAV r.counts), .sl .fro 1 (strsAV r.notes), .sl .fro 5 (clsAV r.cls), .sl .fro 2 (opnsAV r.opers)]), (5, [.sl .fro 1 (rowsS s.sets), .sl .fro 1 (rowsK s.counts)]), (8, [.sl .nl 1 [], .sl .nl 1 []])] ?_ ?_
  · simp
    refine call_pure gC (by simp) ?_
    cases q1 : rulesB r
    · simp [okB, q1]
    cases q2 : stateB r s
    · simp [okB, q2]
    simp
    refine call_pure (c_eval_right k) (by simp) ?_
    simp [okB, q1, q2]
  cases hh : okB r s && keyOk k
  · refine AWp.cond (t := true) (by simp) (fun _ => ?_) (by simp)
    refine AWp.go [8, 9] [4, 5, 8] fun K hK => ?_
    simp
    first | refine hK _ _ ?_ | refine ⟨by omega, hK _ _ ?_⟩ | refine ⟨by omega, by omega, hK _ _ ?_⟩
    clear hK K
    refine AWp.ret ?_
    simp [doRes, hh, emptyS, rowsS, rowsK]
  · refine AWp.cond (t := false) (by simp) (by simp) (fun _ => ?_)
    refine AWp.step [2, 3, 4, 5, 8, 24] [4, 5, 8] [(2, .i .i64 o), (3, .s k), (4, .ptr 4 0), (5, .ptr 5 0), (8, .ptr 8 0), (24, .b (decide (o < 0) || decide ((r.opers.length : Int) ≤ o)))] [(4, [.sl .fro 1 (strsAV r.sets), .sl .fro 1 (strsAV r.counts), .sl .fro 1 (strsAV r.notes), .sl .fro 5 (clsAV r.cls), .sl .fro 2 (opnsAV r.opers)]), (5, [.sl .fro 1 (rowsS s.sets), .sl .fro 1 (rowsK s.counts)]), (8, [.sl .nl 1 [], .sl .nl 1 []])] ?_ ?_
    · by_cases q : o < 0 <;> simp [q]
    cases ho : decide (o < 0) || decide ((r.opers.length : Int) ≤ o)
    · refine AWp.cond (t := false) (by simp) (by simp) (fun _ => ?_)
      refine AWp.skip ?_
      show AWp _ _ _ _
      refine AWp.go [2, 3, 4, 8, 10] [4, 5, 8, 10] fun K hK => ?_
      simp
      refine call_pure gcp (by simp) ?_
      simp
      first | refine hK _ _ ?_ | refine ⟨by omega, hK _ _ ?_⟩ | refine ⟨by omega, by omega, hK _ _ ?_⟩
      clear hK K
      refine AWp.seq ?_
      simp only [Bool.or_eq_false_iff, decide_eq_false_iff_not] at ho
      obtain ⟨m, rfl⟩ : ∃ m : Nat, o = m := ⟨o.toNat, by omega⟩
      have hml : m < r.opers.length := by omega
      obtain ⟨p, hp⟩ : ∃ p, p = r.opers[m] := ⟨_, rfl⟩
      have hok : rulesB r = true ∧ stateB r s = true ∧ keyOk k = true := by
        simp only [okB, Bool.and_eq_true] at hh
        exact ⟨hh.1.1, hh.1.2, hh.2⟩
      have hopB : opB r p = true := by
        have := hok.1
        simp only [rulesB, Bool.and_eq_true, List.all_eq_true] at this
        rw [hp]; exact this.2 _ (List.getElem_mem hml)
      obtain ⟨hdl, hdo⟩ := opB_does hopB
      have hnum : ∀ d ∈ p.does, -1000 ≤ d.num ∧ d.num ≤ 1000 := fun d hd => (doB_fit (hdo d hd)).2.2
      have hlen : s.sets.length = r.sets.length ∧ s.counts.length = r.counts.length := by
        have := hok.2.1
        simp only [stateB, Bool.and_eq_true, decide_eq_true_eq] at this
        omega
      have hR : doRes r s m k = if stateB r (doTo k s p.does) then (doTo k s p.does, 0) else (emptyS, 6) := by
        simp [doRes, hh, hml, ← hp]
      rw [hR]
      refine AWp.go [3, 4, 8, 10, 42, 43, 44] [4, 5, 8, 10] fun K hK => ?_
      simp [hml, ← hp]
      first | refine hK _ _ ?_ | refine ⟨by omega, hK _ _ ?_⟩ | refine ⟨by omega, by omega, hK _ _ ?_⟩
      clear hK K
      refine AWp.block (AWp.while (fun i : Nat => [(3, .s k), (4, .ptr 4 0), (8, .ptr 8 0), (10, .ptr 10 0), (42, .sl .fro 3 (dgsAV p.does)), (43, .i .i64 p.does.length), (44, .i .i64 i)]) (fun i => [(4, [.sl .fro 1 (strsAV r.sets), .sl .fro 1 (strsAV r.counts), .sl .fro 1 (strsAV r.notes), .sl .fro 5 (clsAV r.cls), .sl .fro 2 (opnsAV r.opers)]), (5, [.sl .fro 1 (rowsS s.sets), .sl .fro 1 (rowsK s.counts)]), (8, [.sl .nl 1 [], .sl .nl 1 []]), (10, [.sl .own 1 (rowsS (doTo k s (p.does.take i)).sets), .sl .own 1 (rowsK (doTo k s (p.does.take i)).counts)])]) (fun i => i ≤ p.does.length) (fun i => p.does.length - i) [3, 4, 8, 10, 42, 43, 44] [4, 5, 8, 10] 0 (by simp) (by simp [doTo]) ?_)
      intro i hi
      refine AWp.go [3, 4, 8, 10, 42, 43, 44, 45] [4, 5, 8, 10] fun K hK => ?_
      simp
      first | refine hK _ _ ?_ | refine ⟨by omega, hK _ _ ?_⟩ | refine ⟨by omega, by omega, hK _ _ ?_⟩
      clear hK K
      refine AWp.seq ?_
      by_cases h : i < p.does.length
      · refine AWp.cond (t := true) (by first | (simp [h]; done) | (simp [h]; omega)) (fun _ => ?_) (by simp)
        refine AWp.skip ?_
        show AWp _ _ _ _
        refine AWp.seq ?_
        refine AWp.block ?_
        have hbd : Bd (4000 + (p.does.take i).length) (doTo k s (p.does.take i)) := Bd.doTo _ (fun d hd => hnum d (List.mem_of_mem_take hd)) (stateB_bd hok.2.1)
        have hln := doTo_lens k (p.does.take i) s
        have hnx : doTo k s (p.does.take (i + 1)) = doStep k (doTo k s (p.does.take i)) p.does[i] := by rw [List.take_succ_eq_append_getElem h, doTo_snoc]
        obtain ⟨S, hS⟩ : ∃ S, S = doTo k s (p.does.take i) := ⟨_, rfl⟩
        rw [← hS] at hbd hln hnx ⊢
        rw [List.length_take, Nat.min_eq_left hi] at hbd
        obtain ⟨d, hd⟩ : ∃ d, d = p.does[i] := ⟨_, rfl⟩
        have hdf := doB_fit (hdo _ (List.getElem_mem h))
        rw [← hd] at hnx hdf
        refine AWp.go [3, 4, 8, 10, 12, 42, 43, 44] [4, 5, 8, 10, 12] fun K hK => ?_
        simp [h, ← hd]
        first | refine hK _ _ ?_ | refine ⟨by omega, hK _ _ ?_⟩ | refine ⟨by omega, by omega, hK _ _ ?_⟩
        clear hK K
        refine AWp.go [3, 4, 8, 10, 12, 42, 43, 44, 49] [4, 5, 8, 10, 12] fun K hK => ?_
        simp
        first | refine hK _ _ ?_ | refine ⟨by omega, hK _ _ ?_⟩ | refine ⟨by omega, by omega, hK _ _ ?_⟩
        clear hK K
        refine AWp.block ?_
        refine AWp.mid [3, 4, 8, 10, 12, 42, 43, 44, 49, 50] [4, 5, 8, 10, 12] [(3, .s k), (4, .ptr 4 0), (8, .ptr 8 0), (10, .ptr 10 0), (12, .ptr 12 0), (42, .sl .fro 3 (dgsAV p.does)), (43, .i .i64 p.does.length), (44, .i .i64 i), (49, .i .i64 d.kind), (50, .b (decide (d.kind = 1) || decide (d.kind = 2)))] [(4, [.sl .fro 1 (strsAV r.sets), .sl .fro 1 (strsAV r.counts), .sl .fro 1 (strsAV r.notes), .sl .fro 5 (clsAV r.cls), .sl .fro 2 (opnsAV r.opers)]), (5, [.sl .fro 1 (rowsS s.sets), .sl .fro 1 (rowsK s.counts)]), (8, [.sl .nl 1 [], .sl .nl 1 []]), (10, [.sl .own 1 (rowsS S.sets), .sl .own 1 (rowsK S.counts)]), (12, [.i .i64 d.kind, .i .i64 d.thing, .i .i64 d.num])] ?_ ?_
        · refine AWp.go [3, 4, 8, 10, 12, 42, 43, 44, 49, 50] [4, 5, 8, 10, 12] fun K hK => ?_
          simp
          first | refine hK _ _ ?_ | refine ⟨by omega, hK _ _ ?_⟩ | refine ⟨by omega, by omega, hK _ _ ?_⟩
          clear hK K
          by_cases q1 : d.kind = 1
          · refine AWp.cond (t := true) (by first | (simp [q1]; done) | (simp [q1]; omega)) (fun _ => ?_) (by simp)
            refine AWp.skip ?_
            simp [q1]
          · refine AWp.cond (t := false) (by first | (simp [q1]; done) | (simp [q1]; omega)) (by simp) (fun _ => ?_)
            refine AWp.goLast [3, 4, 8, 10, 12, 42, 43, 44, 49, 50] [4, 5, 8, 10, 12] fun K hK => ?_
            simp
            first | refine hK _ _ ?_ | refine ⟨by omega, hK _ _ ?_⟩ | refine ⟨by omega, by omega, hK _ _ ?_⟩
            clear hK K
            simp [q1]
        by_cases q12 : d.kind = 1 ∨ d.kind = 2
        · refine AWp.cond (t := true) (by first | (simp [q12]; done) | (simp [q12]; omega)) (fun _ => ?_) (by simp)
          obtain ⟨a, ha, hal⟩ := inN_nat (hdf.1 q12)
          have hal : a < S.sets.length := by omega
          have hg := (c_eval_put S.sets[a] k (decide (d.kind = 1)) (by have := hbd.1 _ (List.getElem_mem hal); omega)).fro
          simp at hg
          have hD : doStep k S d = ⟨S.sets.set a (putT S.sets[a] k (decide (d.kind = 1))), S.counts⟩ := by rw [doStep, if_pos q12, ha, setOf_at _ _ hal]; rfl
          refine AWp.goLastD 15 (fun j => if j = 14 then .sl .fro 1 (strsAV (putT S.sets[a] k (decide (d.kind = 1)))) else .any) [3, 4, 8, 10, 42, 43, 44] [4, 5, 8, 10] mix (by kernel_rfl) fun K hK => ?_
          simp [ha, hal, hg, rowsS_set]
          first | refine hK _ _ ?_ | refine ⟨by omega, hK _ _ ?_⟩ | refine ⟨by omega, by omega, hK _ _ ?_⟩
          clear hK K
          show AWp _ _ _ _
          refine AWp.goLast [3, 4, 8, 10, 42, 43, 44] [4, 5, 8, 10] fun K hK => ?_
          simp
          first | refine hK _ _ ?_ | refine ⟨by omega, hK _ _ ?_⟩ | refine ⟨by omega, by omega, hK _ _ ?_⟩
          clear hK K
          refine ⟨i + 1, by omega, by omega, ?_⟩
          rw [hnx, hD]
          simp
          exact wrap64 (by omega) (by omega)
        · refine AWp.cond (t := false) (by first | (simp; done) | (simp; omega)) (by simp) (fun _ => ?_)
          refine AWp.go [3, 4, 8, 10, 12, 42, 43, 44, 49, 69] [4, 5, 8, 10, 12] fun K hK => ?_
          simp
          first | refine hK _ _ ?_ | refine ⟨by omega, hK _ _ ?_⟩ | refine ⟨by omega, by omega, hK _ _ ?_⟩
          clear hK K
          by_cases q3 : d.kind = 3
          · refine AWp.cond (t := true) (by first | (simp [q3]; done) | (simp [q3]; omega)) (fun _ => ?_) (by simp)
            obtain ⟨a, ha, hal⟩ := inN_nat (hdf.2.1 (.inl q3))
            have hal : a < S.counts.length := by omega
            have hbc := hbd.2 _ (List.getElem_mem hal)
            have hg := (c_eval_more S.counts[a] k d.num (by omega) (by omega) (fun c hc => by have := hbc.2 c hc; omega)).fro
            simp at hg
            have hD : doStep k S d = ⟨S.sets, S.counts.set a (moreT S.counts[a] k d.num)⟩ := by rw [doStep, if_neg q12, if_pos q3, ha, countOf_at _ _ hal]; rfl
            refine AWp.goLastD 14 (fun j => if j = 13 then .sl .fro 2 (celsAV (moreT S.counts[a] k d.num)) else .any) [3, 4, 8, 10, 42, 43, 44] [4, 5, 8, 10] mix (by kernel_rfl) fun K hK => ?_
            simp [ha, hal, hg, rowsK_set]
            first | refine hK _ _ ?_ | refine ⟨by omega, hK _ _ ?_⟩ | refine ⟨by omega, by omega, hK _ _ ?_⟩
            clear hK K
            show AWp _ _ _ _
            refine AWp.goLast [3, 4, 8, 10, 42, 43, 44] [4, 5, 8, 10] fun K hK => ?_
            simp
            first | refine hK _ _ ?_ | refine ⟨by omega, hK _ _ ?_⟩ | refine ⟨by omega, by omega, hK _ _ ?_⟩
            clear hK K
            refine ⟨i + 1, by omega, by omega, ?_⟩
            rw [hnx, hD]
            simp
            exact wrap64 (by omega) (by omega)
          · refine AWp.cond (t := false) (by first | (simp [q3]; done) | (simp [q3]; omega)) (by simp) (fun _ => ?_)
            refine AWp.go [3, 4, 8, 10, 12, 42, 43, 44, 86] [4, 5, 8, 10, 12] fun K hK => ?_
            simp
            first | refine hK _ _ ?_ | refine ⟨by omega, hK _ _ ?_⟩ | refine ⟨by omega, by omega, hK _ _ ?_⟩
            clear hK K
            by_cases q4 : d.kind = 4
            · refine AWp.cond (t := true) (by first | (simp [q4]; done) | (simp [q4]; omega)) (fun _ => ?_) (by simp)
              obtain ⟨a, ha, hal⟩ := inN_nat (hdf.2.1 (.inr q4))
              have hal : a < S.counts.length := by omega
              have hbc := hbd.2 _ (List.getElem_mem hal)
              have hg := (c_eval_more S.counts[a] k (-d.num) (by omega) (by omega) (fun c hc => by have := hbc.2 c hc; omega)).fro
              simp at hg
              have wn : IntKind.i64.wrap (-d.num) = -d.num := wrap64 (by omega) (by omega)
              have hD : doStep k S d = ⟨S.sets, S.counts.set a (moreT S.counts[a] k (-d.num))⟩ := by rw [doStep, if_neg q12, if_neg q3, if_pos q4, ha, countOf_at _ _ hal]; rfl
              refine AWp.goLastD 15 (fun j => if j = 14 then .sl .fro 2 (celsAV (moreT S.counts[a] k (-d.num))) else .any) [3, 4, 8, 10, 42, 43, 44] [4, 5, 8, 10] mix (by kernel_rfl) fun K hK => ?_
              simp [ha, hal, hg, rowsK_set, wn]
              first | refine hK _ _ ?_ | refine ⟨by omega, hK _ _ ?_⟩ | refine ⟨by omega, by omega, hK _ _ ?_⟩
              clear hK K
              show AWp _ _ _ _
              refine AWp.goLast [3, 4, 8, 10, 42, 43, 44] [4, 5, 8, 10] fun K hK => ?_
              simp
              first | refine hK _ _ ?_ | refine ⟨by omega, hK _ _ ?_⟩ | refine ⟨by omega, by omega, hK _ _ ?_⟩
              clear hK K
              refine ⟨i + 1, by omega, by omega, ?_⟩
              rw [hnx, hD]
              simp
              exact wrap64 (by omega) (by omega)
            · refine AWp.cond (t := false) (by first | (simp [q4]; done) | (simp [q4]; omega)) (by simp) (fun _ => ?_)
              refine AWp.skip ?_
              show AWp _ _ _ _
              refine AWp.goLast [3, 4, 8, 10, 42, 43, 44] [4, 5, 8, 10] fun K hK => ?_
              simp
              first | refine hK _ _ ?_ | refine ⟨by omega, hK _ _ ?_⟩ | refine ⟨by omega, by omega, hK _ _ ?_⟩
              clear hK K
              have hD : doStep k S d = S := by rw [doStep, if_neg q12, if_neg q3, if_neg q4]
              refine ⟨i + 1, by omega, by omega, ?_⟩
              rw [hnx, hD]
              simp
              exact wrap64 (by omega) (by omega)
      · refine AWp.cond (t := false) (by first | (simp [h]; done) | (simp [h]; omega)) (by simp) (fun _ => ?_)
        refine AWp.exit ?_
        show AWp _ _ _ _
        refine AWp.seq ?_
        obtain rfl : i = p.does.length := by omega
        rw [List.take_length]
        have hbd : Bd (4000 + p.does.length) (doTo k s p.does) := Bd.doTo _ hnum (stateB_bd hok.2.1)
        have hln := doTo_lens k p.does s
        obtain ⟨T, hT⟩ : ∃ T, T = doTo k s p.does := ⟨_, rfl⟩
        rw [← hT] at hbd hln ⊢
        have hgm := c_eval_may r T hr.1 (hbd.slight (by omega) (by omega) (by omega))
        simp [rulC, staC] at hgm
        refine AWp.step [8, 10, 108] [4, 5, 8, 10] [(8, .ptr 8 0), (10, .ptr 10 0), (108, .b (!stateB r T))] [(4, [.sl .fro 1 (strsAV r.sets), .sl .fro 1 (strsAV r.counts), .sl .fro 1 (strsAV r.notes), .sl .fro 5 (clsAV r.cls), .sl .fro 2 (opnsAV r.opers)]), (5, [.sl .fro 1 (rowsS s.sets), .sl .fro 1 (rowsK s.counts)]), (8, [.sl .nl 1 [], .sl .nl 1 []]), (10, [.sl .own 1 (rowsS T.sets), .sl .own 1 (rowsK T.counts)])] ?_ ?_
        · simp
          refine call_flat hgm (by simp) rfl ?_
          simp
        cases hst : stateB r T
        · refine AWp.cond (t := true) (by simp) (fun _ => ?_) (by simp)
          refine AWp.go [8, 9] [4, 5, 8, 10] fun K hK => ?_
          simp
          first | refine hK _ _ ?_ | refine ⟨by omega, hK _ _ ?_⟩ | refine ⟨by omega, by omega, hK _ _ ?_⟩
          clear hK K
          refine AWp.ret ?_
          simp [emptyS, rowsS, rowsK]
        · refine AWp.cond (t := false) (by simp) (by simp) (fun _ => ?_)
          refine AWp.skip ?_
          show AWp _ _ _ _
          refine AWp.go [8, 9] [4, 5, 8, 10] fun K hK => ?_
          simp
          first | refine hK _ _ ?_ | refine ⟨by omega, hK _ _ ?_⟩ | refine ⟨by omega, by omega, hK _ _ ?_⟩
          clear hK K
          refine AWp.ret ?_
          simp
    · refine AWp.cond (t := true) (by simp) (fun _ => ?_) (by simp)
      have hn : (if 0 ≤ o then r.opers[o.toNat]? else none) = none := by
        simp only [Bool.or_eq_true, decide_eq_true_eq] at ho
        split
        · exact List.getElem?_eq_none (by omega)
        · rfl
      refine AWp.go [8, 9] [4, 5, 8] fun K hK => ?_
      simp
      first | refine hK _ _ ?_ | refine ⟨by omega, hK _ _ ?_⟩ | refine ⟨by omega, by omega, hK _ _ ?_⟩
      clear hK K
      refine AWp.ret ?_
      simp [doRes, hh, hn, emptyS, rowsS, rowsK]
end Go.AM
namespace Go.AM
open Go.Proofs
def lightK (l : List Cel) : Bool := l.all (fun c => !decide ((100 : Int) < c.key.size)) && decide ((l.length : Int) ≤ 60)
theorem lightK_not {l : List Cel} {i : Nat} (h : i < l.length) (hp : (100 : Int) < l[i].key.size) : lightK l = false := by
  have : (l.all fun c => !decide ((100 : Int) < c.key.size)) = false := all_not h (by simpa using hp)
  simp [lightK, this]
set_option maxRecDepth 8000 in
set_option maxHeartbeats 1000000 in
theorem c_law10_Light (l : List Cel) (hlen : l.length ≤ 9223372036854775807) : Pure Try.prog 32 [.sl .fro 2 (celsAV l)] (.b (lightK l)) := by
  refine proc_of (cx Try.prog 24 [0, 2, 3, 11, 20] [2]) 23 [.tmp 2] Try.func32 rfl rfl rfl rfl rfl rfl (Nat.le_refl _) rfl ?_
  refine AWp.go [0] [] fun K hK => ?_
  simp
  first | refine hK _ _ ?_ | refine ⟨by omega, hK _ _ ?_⟩ | refine ⟨by omega, by omega, hK _ _ ?_⟩
  clear hK K
  refine AWp.seq ?_
  refine AWp.go [0, 3] [] fun K hK => ?_
  simp
  first | refine hK _ _ ?_ | refine ⟨by omega, hK _ _ ?_⟩ | refine ⟨by omega, by omega, hK _ _ ?_⟩
  clear hK K
  refine AWp.block (AWp.while (fun i : Nat => [(0, .sl .fro 2 (celsAV l)), (3, .i .i64 i)]) (fun i => []) (fun i => i ≤ l.length ∧ i ≤ 61 ∧ ∀ k (hk : k < i) (hk2 : k < l.length), (!decide ((100 : Int) < l[k].key.size)) = true) (fun i => l.length - i) [0, 3] [] 0 (by simp) (by simp) ?_)
  rintro i ⟨hi, hi2, hall⟩
  refine AWp.seq ?_
  refine AWp.step [0, 3, 11] [] [(0, .sl .fro 2 (celsAV l)), (3, .i .i64 i), (11, .b (decide (i < l.length) && decide (i ≤ 60)))] [] ?_ ?_
  · by_cases q : i < l.length <;> simp [q]
    omega
  cases h0 : decide (i < l.length) && decide (i ≤ 60)
  · refine AWp.cond (t := false) (by simp) (by simp) (fun _ => ?_)
    refine AWp.exit ?_
    show AWp _ _ _ _
    simp only [Bool.and_eq_false_iff, decide_eq_false_iff_not] at h0
    have hE : decide ((l.length : Int) ≤ 60) = lightK l := by
      by_cases q : l.length ≤ 60
      · have : (l.all fun c => !decide ((100 : Int) < c.key.size)) = true := all_of fun k hk => hall k (by omega) hk
        simp [lightK, this]
      · have e : decide ((l.length : Int) ≤ 60) = false := by simp; omega
        simp only [lightK, e, Bool.and_false]
    refine AWp.go [2] [] fun K hK => ?_
    simp
    first | refine hK _ _ ?_ | refine ⟨by omega, hK _ _ ?_⟩ | refine ⟨by omega, by omega, hK _ _ ?_⟩
    clear hK K
    refine AWp.ret ?_
    simp [← hE]
  · refine AWp.cond (t := true) (by simp) (fun _ => ?_) (by simp)
    refine AWp.skip ?_
    show AWp _ _ _ _
    refine AWp.seq ?_
    refine AWp.block ?_
    simp only [Bool.and_eq_true, decide_eq_true_eq] at h0
    obtain ⟨h, h60⟩ := h0
    refine AWp.go [0, 3, 20] [] fun K hK => ?_
    simp [h]
    first | refine hK _ _ ?_ | refine ⟨by omega, hK _ _ ?_⟩ | refine ⟨by omega, by omega, hK _ _ ?_⟩
    clear hK K
    by_cases hp : (100 : Int) < l[i].key.size
    · refine AWp.cond (t := true) (by first | (simp [hp]; done) | (simp [hp]; omega)) (fun _ => ?_) (by simp)
      refine AWp.go [2] [] fun K hK => ?_
      simp
      first | refine hK _ _ ?_ | refine ⟨by omega, hK _ _ ?_⟩ | refine ⟨by omega, by omega, hK _ _ ?_⟩
      clear hK K
      refine AWp.ret ?_
      simp [lightK_not h hp]
    · refine AWp.cond (t := false) (by first | (simp [hp]; done) | (simp [hp]; omega)) (by simp) (fun _ => ?_)
      refine AWp.skip ?_
      show AWp _ _ _ _
      refine AWp.goLast [0, 3] [] fun K hK => ?_
      simp
      first | refine hK _ _ ?_ | refine ⟨by omega, hK _ _ ?_⟩ | refine ⟨by omega, by omega, hK _ _ ?_⟩
      clear hK K
      refine ⟨i + 1, ⟨by omega, by omega, fun k hk hk2 => ?_⟩, by omega, ?_⟩
      · by_cases hki : k = i
        · subst hki; simpa using hp
        · exact hall k (by omega) hk2
      · simp
        exact wrap64 (by omega) (by omega)
def lightL (l : List ByteArray) : Bool := !decide ((30 : Int) < l.length) && l.all (fun k => !decide ((100 : Int) < k.size))
def lightC (l : List Cel) : Bool := lightK l && !decide ((30 : Int) < l.length)
def lightS (s : Sta) : Bool := s.sets.all lightL && s.counts.all lightC && decide ((s.sets.length : Int) ≤ 20) && decide ((s.counts.length : Int) ≤ 20)
theorem lightS_set {s : Sta} {i : Nat} (h : i < s.sets.length) (hp : lightL s.sets[i] = false) : lightS s = false := by
  have : s.sets.all lightL = false := all_not h hp
  simp [lightS, this]
theorem lightS_count {s : Sta} {i : Nat} (h : i < s.counts.length) (hp : lightC s.counts[i] = false) : lightS s = false := by
  have : s.counts.all lightC = false := all_not h hp
  simp [lightS, this]
set_option maxRecDepth 8000 in
set_option maxHeartbeats 8000000 in
theorem c_law19_Light (s : Sta) (n1 : s.sets.length ≤ 9223372036854775807) (n2 : s.counts.length ≤ 9223372036854775807) (n3 : ∀ l ∈ s.sets, l.length ≤ 9223372036854775807) (n4 : ∀ l ∈ s.counts, l.length ≤ 9223372036854775807) : Pure Try.prog 7 [.agg (staC s)] (.b (lightS s)) := by
  refine proc_of (cx Try.prog 81 [1, 2, 3, 4, 5, 14, 23, 31, 43, 52, 70] [2]) 80 [.tmp 2] Try.func7 rfl rfl rfl rfl rfl rfl (Nat.le_refl _) rfl ?_
  refine AWp.go [1] [1] fun K hK => ?_
  simp [staC]
  first | refine hK _ _ ?_ | refine ⟨by omega, hK _ _ ?_⟩ | refine ⟨by omega, by omega, hK _ _ ?_⟩
  clear hK K
  refine AWp.seq ?_
  refine AWp.go [1, 3] [1] fun K hK => ?_
  simp
  first | refine hK _ _ ?_ | refine ⟨by omega, hK _ _ ?_⟩ | refine ⟨by omega, by omega, hK _ _ ?_⟩
  clear hK K
  refine AWp.block (AWp.while (fun i : Nat => [(1, .ptr 1 0), (3, .i .i64 i)]) (fun i => [(1, [.sl .fro 1 (rowsS s.sets), .sl .fro 1 (rowsK s.counts)])]) (fun i => i ≤ s.sets.length ∧ i ≤ 21 ∧ ∀ k (hk : k < i) (hk2 : k < s.sets.length), lightL s.sets[k] = true) (fun i => s.sets.length - i) [1, 3] [1] 0 (by simp) (by simp) ?_)
  rintro i ⟨hi, hi2, hall⟩
  refine AWp.seq ?_
  refine AWp.step [1, 3, 14] [1] [(1, .ptr 1 0), (3, .i .i64 i), (14, .b (decide (i < s.sets.length) && decide (i ≤ 20)))] [(1, [.sl .fro 1 (rowsS s.sets), .sl .fro 1 (rowsK s.counts)])] ?_ ?_
  · by_cases q : i < s.sets.length <;> simp [q]
    omega
  cases h0 : decide (i < s.sets.length) && decide (i ≤ 20)
  · refine AWp.cond (t := false) (by simp) (by simp) (fun _ => ?_)
    refine AWp.exit ?_
    show AWp _ _ _ _
    refine AWp.seq ?_
    simp only [Bool.and_eq_false_iff, decide_eq_false_iff_not] at h0
    have hA : s.sets.all lightL = true ∨ 20 < s.sets.length := by
      by_cases q : s.sets.length ≤ 20
      · exact .inl (all_of fun k hk => hall k (by omega) hk)
      · exact .inr (by omega)
    clear hall h0
    refine AWp.go [1, 5] [1] fun K hK => ?_
    simp
    first | refine hK _ _ ?_ | refine ⟨by omega, hK _ _ ?_⟩ | refine ⟨by omega, by omega, hK _ _ ?_⟩
    clear hK K
    refine AWp.block (AWp.while (fun c : Nat => [(1, .ptr 1 0), (5, .i .i64 c)]) (fun c => [(1, [.sl .fro 1 (rowsS s.sets), .sl .fro 1 (rowsK s.counts)])]) (fun c => c ≤ s.counts.length ∧ c ≤ 21 ∧ ∀ k (hk : k < c) (hk2 : k < s.counts.length), lightC s.counts[k] = true) (fun c => s.counts.length - c) [1, 5] [1] 0 (by simp) (by simp) ?_)
    rintro c ⟨hc, hc2, hall⟩
    refine AWp.seq ?_
    refine AWp.step [1, 5, 52] [1] [(1, .ptr 1 0), (5, .i .i64 c), (52, .b (decide (c < s.counts.length) && decide (c ≤ 20)))] [(1, [.sl .fro 1 (rowsS s.sets), .sl .fro 1 (rowsK s.counts)])] ?_ ?_
    · by_cases q : c < s.counts.length <;> simp [q]
      omega
    cases h0 : decide (c < s.counts.length) && decide (c ≤ 20)
    · refine AWp.cond (t := false) (by simp) (by simp) (fun _ => ?_)
      refine AWp.exit ?_
      show AWp _ _ _ _
      simp only [Bool.and_eq_false_iff, decide_eq_false_iff_not] at h0
      have hC : s.counts.all lightC = true ∨ 20 < s.counts.length := by
        by_cases q : s.counts.length ≤ 20
        · exact .inl (all_of fun k hk => hall k (by omega) hk)
        · exact .inr (by omega)
      have hE : (decide ((s.sets.length : Int) ≤ 20) && decide ((s.counts.length : Int) ≤ 20)) = lightS s := by
        unfold lightS
        by_cases q1 : (s.sets.length : Int) ≤ 20
        · by_cases q2 : (s.counts.length : Int) ≤ 20
          · rw [hA.resolve_right (by omega), hC.resolve_right (by omega)]; simp
          · simp [q2]
        · simp [q1]
      refine AWp.step [2] [1] [(2, .b (lightS s))] [(1, [.sl .fro 1 (rowsS s.sets), .sl .fro 1 (rowsK s.counts)])] ?_ ?_
      · rw [← hE]
        by_cases q1 : (s.sets.length : Int) ≤ 20 <;> simp [q1]
      refine AWp.ret ?_
      simp
    · refine AWp.cond (t := true) (by simp) (fun _ => ?_) (by simp)
      refine AWp.skip ?_
      show AWp _ _ _ _
      refine AWp.seq ?_
      refine AWp.block ?_
      simp only [Bool.and_eq_true, decide_eq_true_eq] at h0
      obtain ⟨h, h20⟩ := h0
      have hn := n4 _ (List.getElem_mem h)
      refine AWp.step [1, 5, 70] [1] [(1, .ptr 1 0), (5, .i .i64 c), (70, .b (!lightC s.counts[c]))] [(1, [.sl .fro 1 (rowsS s.sets), .sl .fro 1 (rowsK s.counts)])] ?_ ?_
      · simp [h]
        refine call_pure (c_law10_Light s.counts[c] (by omega)) (by simp) ?_
        cases q1 : lightK s.counts[c] <;> simp [h, lightC, q1]
      cases hp : lightC s.counts[c]
      · refine AWp.cond (t := true) (by simp) (fun _ => ?_) (by simp)
        refine AWp.go [2] [1] fun K hK => ?_
        simp
        first | refine hK _ _ ?_ | refine ⟨by omega, hK _ _ ?_⟩ | refine ⟨by omega, by omega, hK _ _ ?_⟩
        clear hK K
        refine AWp.ret ?_
        simp [lightS_count h hp]
      · refine AWp.cond (t := false) (by simp) (by simp) (fun _ => ?_)
        refine AWp.skip ?_
        show AWp _ _ _ _
        refine AWp.goLast [1, 5] [1] fun K hK => ?_
        simp
        first | refine hK _ _ ?_ | refine ⟨by omega, hK _ _ ?_⟩ | refine ⟨by omega, by omega, hK _ _ ?_⟩
        clear hK K
        refine ⟨c + 1, ⟨by omega, by omega, fun k hk hk2 => ?_⟩, by omega, ?_⟩
        · by_cases hki : k = c
          · subst hki; exact hp
          · exact hall k (by omega) hk2
        · simp
          exact wrap64 (by omega) (by omega)
  · refine AWp.cond (t := true) (by simp) (fun _ => ?_) (by simp)
    refine AWp.skip ?_
    show AWp _ _ _ _
    refine AWp.seq ?_
    refine AWp.block ?_
    refine AWp.seq ?_
    simp only [Bool.and_eq_true, decide_eq_true_eq] at h0
    obtain ⟨h, h20⟩ := h0
    have hn := n3 _ (List.getElem_mem h)
    refine AWp.go [1, 3, 23] [1] fun K hK => ?_
    simp [h]
    first | refine hK _ _ ?_ | refine ⟨by omega, hK _ _ ?_⟩ | refine ⟨by omega, by omega, hK _ _ ?_⟩
    clear hK K
    by_cases hp : (30 : Int) < s.sets[i].length
    · refine AWp.cond (t := true) (by first | (simp [hp]; done) | (simp [hp]; omega)) (fun _ => ?_) (by simp)
      refine AWp.go [2] [1] fun K hK => ?_
      simp
      first | refine hK _ _ ?_ | refine ⟨by omega, hK _ _ ?_⟩ | refine ⟨by omega, by omega, hK _ _ ?_⟩
      clear hK K
      refine AWp.ret ?_
      simp [lightS_set h (by simp [lightL, hp])]
    · refine AWp.cond (t := false) (by first | (simp [hp]; done) | (simp [hp]; omega)) (by simp) (fun _ => ?_)
      refine AWp.skip ?_
      show AWp _ _ _ _
      refine AWp.go [1, 3, 4] [1] fun K hK => ?_
      simp
      first | refine hK _ _ ?_ | refine ⟨by omega, hK _ _ ?_⟩ | refine ⟨by omega, by omega, hK _ _ ?_⟩
      clear hK K
      refine AWp.block (AWp.while (fun j : Nat => [(1, .ptr 1 0), (3, .i .i64 i), (4, .i .i64 j)]) (fun j => [(1, [.sl .fro 1 (rowsS s.sets), .sl .fro 1 (rowsK s.counts)])]) (fun j => j ≤ s.sets[i].length ∧ ∀ k (hk : k < j) (hk2 : k < s.sets[i].length), (!decide ((100 : Int) < s.sets[i][k].size)) = true) (fun j => s.sets[i].length - j) [1, 3, 4] [1] 0 (by simp) (by simp) ?_)
      rintro j ⟨hj, hallj⟩
      refine AWp.seq ?_
      refine AWp.go [1, 3, 4, 31] [1] fun K hK => ?_
      simp [h]
      first | refine hK _ _ ?_ | refine ⟨by omega, hK _ _ ?_⟩ | refine ⟨by omega, by omega, hK _ _ ?_⟩
      clear hK K
      by_cases g : j < s.sets[i].length
      · refine AWp.cond (t := true) (by first | (simp [g]; done) | (simp [g]; omega)) (fun _ => ?_) (by simp)
        refine AWp.skip ?_
        show AWp _ _ _ _
        refine AWp.seq ?_
        refine AWp.block ?_
        refine AWp.go [1, 3, 4, 43] [1] fun K hK => ?_
        simp [h, g]
        first | refine hK _ _ ?_ | refine ⟨by omega, hK _ _ ?_⟩ | refine ⟨by omega, by omega, hK _ _ ?_⟩
        clear hK K
        by_cases hq : (100 : Int) < s.sets[i][j].size
        · refine AWp.cond (t := true) (by first | (simp [hq]; done) | (simp [hq]; omega)) (fun _ => ?_) (by simp)
          have hz : lightL s.sets[i] = false := by
            have : (s.sets[i].all fun k => !decide ((100 : Int) < k.size)) = false := all_not g (by simpa using hq)
            simp [lightL, this]
          refine AWp.go [2] [1] fun K hK => ?_
          simp
          first | refine hK _ _ ?_ | refine ⟨by omega, hK _ _ ?_⟩ | refine ⟨by omega, by omega, hK _ _ ?_⟩
          clear hK K
          refine AWp.ret ?_
          simp [lightS_set h hz]
        · refine AWp.cond (t := false) (by first | (simp [hq]; done) | (simp [hq]; omega)) (by simp) (fun _ => ?_)
          refine AWp.skip ?_
          show AWp _ _ _ _
          refine AWp.goLast [1, 3, 4] [1] fun K hK => ?_
          simp
          first | refine hK _ _ ?_ | refine ⟨by omega, hK _ _ ?_⟩ | refine ⟨by omega, by omega, hK _ _ ?_⟩
          clear hK K
          refine ⟨j + 1, ⟨by omega, fun k hk hk2 => ?_⟩, by omega, ?_⟩
          · by_cases hki : k = j
            · subst hki; simpa using hq
            · exact hallj k (by omega) hk2
          · simp
            exact wrap64 (by omega) (by omega)
      · refine AWp.cond (t := false) (by first | (simp [g]; done) | (simp [g]; omega)) (by simp) (fun _ => ?_)
        refine AWp.exit ?_
        show AWp _ _ _ _
        refine AWp.goLast [1, 3] [1] fun K hK => ?_
        simp
        first | refine hK _ _ ?_ | refine ⟨by omega, hK _ _ ?_⟩ | refine ⟨by omega, by omega, hK _ _ ?_⟩
        clear hK K
        have hz : lightL s.sets[i] = true := by
          have : (s.sets[i].all fun k => !decide ((100 : Int) < k.size)) = true := all_of fun k hk => hallj k (by omega) hk
          simp [lightL, this]; omega
        refine ⟨i + 1, ⟨by omega, by omega, fun k hk hk2 => ?_⟩, by omega, ?_⟩
        · by_cases hki : k = i
          · subst hki; exact hz
          · exact hall k (by omega) hk2
        · simp
          exact wrap64 (by omega) (by omega)
theorem flat_le_mul {α : Type} (n : Nat) : ∀ (l : List (List α)), (∀ x ∈ l, x.length ≤ n) → l.flatten.length ≤ l.length * n
  | [], _ => by simp
  | a :: l, h => by
    have h1 := flat_le_mul n l fun x hx => h x (List.mem_cons_of_mem _ hx)
    have h2 := h a (List.mem_cons_self ..)
    rw [List.flatten_cons, List.length_append, List.length_cons, Nat.succ_mul]; omega
theorem few_of {s : Sta} (h : lightS s = true) : Few s := by
  simp only [lightS, Bool.and_eq_true, decide_eq_true_eq, List.all_eq_true] at h
  obtain ⟨⟨⟨h1, h2⟩, h3⟩, h4⟩ := h
  have k1 : ∀ l ∈ s.sets, l.length ≤ 30 := fun l hl => by
    have := h1 l hl
    simp only [lightL, Bool.and_eq_true, Bool.not_eq_true', decide_eq_false_iff_not] at this
    omega
  have k2 : ∀ l ∈ s.counts, l.length ≤ 30 := fun l hl => by
    have := h2 l hl
    simp only [lightC, Bool.and_eq_true, Bool.not_eq_true', decide_eq_false_iff_not] at this
    omega
  have m1 := flat_le_mul 30 _ k1
  have m2 := flat_le_mul 30 _ k2
  refine ⟨⟨by omega, by omega, fun l hl => ?_, fun l hl => ?_⟩, by omega, by omega⟩
  · have := k1 l hl; omega
  · have := k2 l hl; omega
def placeI (n m : Int) : Int := if n < 0 ∨ m ≤ n then 0 else n
end Go.AM
namespace Go.AM
open Go.Proofs
def kA : ByteArray := ⟨#[97]⟩
def kB : ByteArray := ⟨#[98]⟩
def kK : ByteArray := ⟨#[107]⟩
def kL : ByteArray := ⟨#[108]⟩
def awR : Rul := ⟨[kA, kB], [], [], [⟨4, false, 0, 1, 0⟩], []⟩
def awS : Sta := ⟨[[kK], []], []⟩
def awT : Sta := ⟨[[kK], [kK, kL]], []⟩
theorem aw_broken : brokenP awR awS = [0] := by kernel_rfl
theorem aw_holds : heldP awR awS 0 = false := by kernel_rfl
theorem aw_holdsT : heldP awR awT 0 = true := by kernel_rfl
theorem aw_in : inOf awT 1 kL = true := by kernel_rfl
theorem awR_slim : Slim awR := by
  refine ⟨⟨by decide, by decide, by decide, by decide, by decide⟩, fun o ho => ?_, fun s hs => ?_⟩
  · cases ho
  · simp [allN, awR] at hs
    rcases hs with rfl | rfl <;> decide
theorem awS_slight : SlightS awS := by
  refine ⟨by decide, by decide, fun l hl => ?_, fun l hl => ?_⟩
  · simp [awS] at hl
    rcases hl with rfl | rfl <;> decide
  · cases hl
theorem awT_slight : SlightS awT := by
  refine ⟨by decide, by decide, fun l hl => ?_, fun l hl => ?_⟩
  · simp [awT] at hl
    rcases hl with rfl | rfl <;> decide
  · cases hl
set_option maxRecDepth 8000 in
set_option maxHeartbeats 8000000 in
theorem c_law19_awake : Pure Try.prog 8 [] (.b true) := by
  have g1 := c_eval_Broken awR awS awR_slim awS_slight
  have g2 := c_eval_Holds awR awS awR_slim awS_slight 0
  have g3 := c_eval_Holds awR awT awR_slim awT_slight 0
  have g4 := c_eval_In awT awT_slight 1 kL
  rw [aw_broken] at g1
  rw [aw_holds] at g2
  rw [aw_holdsT] at g3
  rw [aw_in] at g4
  simp [rulC, staC, awR, awS, awT, strsAV, clsAV, clC, rowsS, rowsK, opnsAV, kA, kB, kK, kL] at g1 g2 g3 g4
  refine proc_of (cx Try.prog 36 [0, 1, 2, 3] [0]) 36 [.tmp 0] Try.func8 rfl rfl rfl rfl rfl rfl (Nat.le_refl _) rfl ?_
  refine AWp.go [] [] fun K hK => ?_
  simp
  first | refine hK _ _ ?_ | refine ⟨by omega, hK _ _ ?_⟩ | refine ⟨by omega, by omega, hK _ _ ?_⟩
  clear hK K
  refine AWp.go [1] [1] fun K hK => ?_
  simp
  first | refine hK _ _ ?_ | refine ⟨by omega, hK _ _ ?_⟩ | refine ⟨by omega, by omega, hK _ _ ?_⟩
  clear hK K
  refine AWp.frzc [(1, 0)] ?_
  simp
  refine AWp.frzc [(1, 3)] ?_
  simp
  refine AWp.go [1, 2] [1, 2] fun K hK => ?_
  simp [-rowsS_nils, -rowsK_nils]
  first | refine hK _ _ ?_ | refine ⟨by omega, hK _ _ ?_⟩ | refine ⟨by omega, by omega, hK _ _ ?_⟩
  clear hK K
  refine AWp.frzc [(2, 0)] ?_
  simp
  refine AWp.go [1, 2, 3] [1, 2, 3] fun K hK => ?_
  simp [-rowsS_nils, -rowsK_nils]
  first | refine hK _ _ ?_ | refine ⟨by omega, hK _ _ ?_⟩ | refine ⟨by omega, by omega, hK _ _ ?_⟩
  clear hK K
  refine AWp.frzc [(3, 0)] ?_
  simp
  refine AWp.go [0] [1] fun K hK => ?_
  simp
  refine call_pure g1 (by simp) ?_
  simp
  refine call_pure g2 (by simp) ?_
  simp
  refine call_pure g3 (by simp) ?_
  simp
  refine call_pure g4 (by simp) ?_
  simp
  first | refine hK _ _ ?_ | refine ⟨by omega, hK _ _ ?_⟩ | refine ⟨by omega, by omega, hK _ _ ?_⟩
  clear hK K
  refine AWp.ret ?_
  simp
end Go.AM
namespace Go.AM
open Go.Proofs
end Go.AM
