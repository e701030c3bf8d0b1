/- The program's forms, texts and raw bytes. -/
import Derived.Test.YtchlbkmmnmkpmaaDoorAmE
import Derived.Below
import Derived.Handy
import Derived.Lib.ItoaLen
set_option linter.unusedSimpArgs false
set_option linter.unusedVariables false
namespace Go.AM
open Go.Proofs
/-- A kind's first word, and what stands behind. -/
def wordOf (k : Int) : List UInt8 :=
  if k = 1 then [100, 111] else if k = 2 then [109, 111, 118, 101] else if k = 3 then [114, 101, 97, 100] else if k = 4 then [97, 115, 107] else if k = 5 then [116, 97, 107, 101]
  else if k = 6 then [99, 111, 112, 121] else if k = 7 then [108, 111, 115, 101] else if k = 8 then [115, 121, 110, 99] else if k = 9 then [114, 101, 110, 101, 119] else if k = 10 then [115, 116, 111, 112]
  else if k = 11 then [99, 114, 97, 115, 104] else if k = 12 then [111, 112, 101, 110] else []
def partsOf (k : Int) : List UInt8 :=
  if k = 1 then [114, 111, 107, 119] else if k = 2 then [114, 116, 111, 107, 110] else if k = 3 then [114] else if k = 4 then [114, 116] else if k = 5 then [111]
  else if k = 6 then [111] else if k = 7 then [111] else if k = 8 then [114] else if k = 9 then [114] else if k = 10 then [114, 110]
  else if k = 11 then [114, 42] else if k = 12 then [114] else []
set_option maxRecDepth 8000 in
set_option maxHeartbeats 4000000 in
theorem c_formOf (k : Int) : Pure Tryd.prog 34 [.i .i64 k] (.agg [.s (tx (wordOf k)), .s (tx (partsOf k))]) := by
  refine proc_of (cx Tryd.prog 41 [0, 2, 3, 4, 7, 10, 13, 16, 19, 22, 25, 28, 31, 34, 37] [2]) 40 [.cell 2 66] Tryd.func34 rfl rfl rfl rfl rfl rfl (Nat.le_refl _) rfl ?_
  refine AWp.go [0, 2] [2] fun K hK => ?_
  simp
  first | refine hK _ _ ?_ | refine ⟨by omega, hK _ _ ?_⟩ | refine ⟨by omega, by omega, hK _ _ ?_⟩
  clear hK K
  refine AWp.seq ?_
  refine AWp.go [2, 3] [2] fun K hK => ?_
  simp
  first | refine hK _ _ ?_ | refine ⟨by omega, hK _ _ ?_⟩ | refine ⟨by omega, by omega, hK _ _ ?_⟩
  clear hK K
  refine AWp.block ?_
  refine AWp.go [2, 3, 4] [2] fun K hK => ?_
  simp
  first | refine hK _ _ ?_ | refine ⟨by omega, hK _ _ ?_⟩ | refine ⟨by omega, by omega, hK _ _ ?_⟩
  clear hK K
  by_cases q1 : k = 1
  · refine AWp.cond (t := true) (by first | (simp [q1]; done) | (simp [q1]; omega)) (fun _ => ?_) (by simp)
    refine AWp.step [2] [2] [(2, .ptr 2 0)] [(2, [.s (tx (wordOf k)), .s (tx (partsOf k))])] ?_ ?_
    · simp [wordOf, partsOf, q1]
    refine AWp.ret ?_
    simp
  · refine AWp.cond (t := false) (by first | (simp [q1]; done) | (simp [q1]; omega)) (by simp) (fun _ => ?_)
    refine AWp.go [2, 3, 7] [2] fun K hK => ?_
    simp
    first | refine hK _ _ ?_ | refine ⟨by omega, hK _ _ ?_⟩ | refine ⟨by omega, by omega, hK _ _ ?_⟩
    clear hK K
    by_cases q2 : k = 2
    · refine AWp.cond (t := true) (by first | (simp [q2]; done) | (simp [q2]; omega)) (fun _ => ?_) (by simp)
      refine AWp.step [2] [2] [(2, .ptr 2 0)] [(2, [.s (tx (wordOf k)), .s (tx (partsOf k))])] ?_ ?_
      · simp [wordOf, partsOf, q2]
      refine AWp.ret ?_
      simp
    · refine AWp.cond (t := false) (by first | (simp [q2]; done) | (simp [q2]; omega)) (by simp) (fun _ => ?_)
      refine AWp.go [2, 3, 10] [2] fun K hK => ?_
      simp
      first | refine hK _ _ ?_ | refine ⟨by omega, hK _ _ ?_⟩ | refine ⟨by omega, by omega, hK _ _ ?_⟩
      clear hK K
      by_cases q3 : k = 3
      · refine AWp.cond (t := true) (by first | (simp [q3]; done) | (simp [q3]; omega)) (fun _ => ?_) (by simp)
        refine AWp.step [2] [2] [(2, .ptr 2 0)] [(2, [.s (tx (wordOf k)), .s (tx (partsOf k))])] ?_ ?_
        · simp [wordOf, partsOf, q3]
        refine AWp.ret ?_
        simp
      · refine AWp.cond (t := false) (by first | (simp [q3]; done) | (simp [q3]; omega)) (by simp) (fun _ => ?_)
        refine AWp.go [2, 3, 13] [2] fun K hK => ?_
        simp
        first | refine hK _ _ ?_ | refine ⟨by omega, hK _ _ ?_⟩ | refine ⟨by omega, by omega, hK _ _ ?_⟩
        clear hK K
        by_cases q4 : k = 4
        · refine AWp.cond (t := true) (by first | (simp [q4]; done) | (simp [q4]; omega)) (fun _ => ?_) (by simp)
          refine AWp.step [2] [2] [(2, .ptr 2 0)] [(2, [.s (tx (wordOf k)), .s (tx (partsOf k))])] ?_ ?_
          · simp [wordOf, partsOf, q4]
          refine AWp.ret ?_
          simp
        · refine AWp.cond (t := false) (by first | (simp [q4]; done) | (simp [q4]; omega)) (by simp) (fun _ => ?_)
          refine AWp.go [2, 3, 16] [2] fun K hK => ?_
          simp
          first | refine hK _ _ ?_ | refine ⟨by omega, hK _ _ ?_⟩ | refine ⟨by omega, by omega, hK _ _ ?_⟩
          clear hK K
          by_cases q5 : k = 5
          · refine AWp.cond (t := true) (by first | (simp [q5]; done) | (simp [q5]; omega)) (fun _ => ?_) (by simp)
            refine AWp.step [2] [2] [(2, .ptr 2 0)] [(2, [.s (tx (wordOf k)), .s (tx (partsOf k))])] ?_ ?_
            · simp [wordOf, partsOf, q5]
            refine AWp.ret ?_
            simp
          · refine AWp.cond (t := false) (by first | (simp [q5]; done) | (simp [q5]; omega)) (by simp) (fun _ => ?_)
            refine AWp.go [2, 3, 19] [2] fun K hK => ?_
            simp
            first | refine hK _ _ ?_ | refine ⟨by omega, hK _ _ ?_⟩ | refine ⟨by omega, by omega, hK _ _ ?_⟩
            clear hK K
            by_cases q6 : k = 6
            · refine AWp.cond (t := true) (by first | (simp [q6]; done) | (simp [q6]; omega)) (fun _ => ?_) (by simp)
              refine AWp.step [2] [2] [(2, .ptr 2 0)] [(2, [.s (tx (wordOf k)), .s (tx (partsOf k))])] ?_ ?_
              · simp [wordOf, partsOf, q6]
              refine AWp.ret ?_
              simp
            · refine AWp.cond (t := false) (by first | (simp [q6]; done) | (simp [q6]; omega)) (by simp) (fun _ => ?_)
              refine AWp.go [2, 3, 22] [2] fun K hK => ?_
              simp
              first | refine hK _ _ ?_ | refine ⟨by omega, hK _ _ ?_⟩ | refine ⟨by omega, by omega, hK _ _ ?_⟩
              clear hK K
              by_cases q7 : k = 7
              · refine AWp.cond (t := true) (by first | (simp [q7]; done) | (simp [q7]; omega)) (fun _ => ?_) (by simp)
                refine AWp.step [2] [2] [(2, .ptr 2 0)] [(2, [.s (tx (wordOf k)), .s (tx (partsOf k))])] ?_ ?_
                · simp [wordOf, partsOf, q7]
                refine AWp.ret ?_
                simp
              · refine AWp.cond (t := false) (by first | (simp [q7]; done) | (simp [q7]; omega)) (by simp) (fun _ => ?_)
                refine AWp.go [2, 3, 25] [2] fun K hK => ?_
                simp
                first | refine hK _ _ ?_ | refine ⟨by omega, hK _ _ ?_⟩ | refine ⟨by omega, by omega, hK _ _ ?_⟩
                clear hK K
                by_cases q8 : k = 8
                · refine AWp.cond (t := true) (by first | (simp [q8]; done) | (simp [q8]; omega)) (fun _ => ?_) (by simp)
                  refine AWp.step [2] [2] [(2, .ptr 2 0)] [(2, [.s (tx (wordOf k)), .s (tx (partsOf k))])] ?_ ?_
                  · simp [wordOf, partsOf, q8]
                  refine AWp.ret ?_
                  simp
                · refine AWp.cond (t := false) (by first | (simp [q8]; done) | (simp [q8]; omega)) (by simp) (fun _ => ?_)
                  refine AWp.go [2, 3, 28] [2] fun K hK => ?_
                  simp
                  first | refine hK _ _ ?_ | refine ⟨by omega, hK _ _ ?_⟩ | refine ⟨by omega, by omega, hK _ _ ?_⟩
                  clear hK K
                  by_cases q9 : k = 9
                  · refine AWp.cond (t := true) (by first | (simp [q9]; done) | (simp [q9]; omega)) (fun _ => ?_) (by simp)
                    refine AWp.step [2] [2] [(2, .ptr 2 0)] [(2, [.s (tx (wordOf k)), .s (tx (partsOf k))])] ?_ ?_
                    · simp [wordOf, partsOf, q9]
                    refine AWp.ret ?_
                    simp
                  · refine AWp.cond (t := false) (by first | (simp [q9]; done) | (simp [q9]; omega)) (by simp) (fun _ => ?_)
                    refine AWp.go [2, 3, 31] [2] fun K hK => ?_
                    simp
                    first | refine hK _ _ ?_ | refine ⟨by omega, hK _ _ ?_⟩ | refine ⟨by omega, by omega, hK _ _ ?_⟩
                    clear hK K
                    by_cases q10 : k = 10
                    · refine AWp.cond (t := true) (by first | (simp [q10]; done) | (simp [q10]; omega)) (fun _ => ?_) (by simp)
                      refine AWp.step [2] [2] [(2, .ptr 2 0)] [(2, [.s (tx (wordOf k)), .s (tx (partsOf k))])] ?_ ?_
                      · simp [wordOf, partsOf, q10]
                      refine AWp.ret ?_
                      simp
                    · refine AWp.cond (t := false) (by first | (simp [q10]; done) | (simp [q10]; omega)) (by simp) (fun _ => ?_)
                      refine AWp.go [2, 3, 34] [2] fun K hK => ?_
                      simp
                      first | refine hK _ _ ?_ | refine ⟨by omega, hK _ _ ?_⟩ | refine ⟨by omega, by omega, hK _ _ ?_⟩
                      clear hK K
                      by_cases q11 : k = 11
                      · refine AWp.cond (t := true) (by first | (simp [q11]; done) | (simp [q11]; omega)) (fun _ => ?_) (by simp)
                        refine AWp.step [2] [2] [(2, .ptr 2 0)] [(2, [.s (tx (wordOf k)), .s (tx (partsOf k))])] ?_ ?_
                        · simp [wordOf, partsOf, q11]
                        refine AWp.ret ?_
                        simp
                      · refine AWp.cond (t := false) (by first | (simp [q11]; done) | (simp [q11]; omega)) (by simp) (fun _ => ?_)
                        refine AWp.go [2, 37] [2] fun K hK => ?_
                        simp
                        first | refine hK _ _ ?_ | refine ⟨by omega, hK _ _ ?_⟩ | refine ⟨by omega, by omega, hK _ _ ?_⟩
                        clear hK K
                        by_cases q12 : k = 12
                        · refine AWp.cond (t := true) (by first | (simp [q12]; done) | (simp [q12]; omega)) (fun _ => ?_) (by simp)
                          refine AWp.step [2] [2] [(2, .ptr 2 0)] [(2, [.s (tx (wordOf k)), .s (tx (partsOf k))])] ?_ ?_
                          · simp [wordOf, partsOf, q12]
                          refine AWp.ret ?_
                          simp
                        · refine AWp.cond (t := false) (by first | (simp [q12]; done) | (simp [q12]; omega)) (by simp) (fun _ => ?_)
                          refine AWp.skip ?_
                          show AWp _ _ _ _
                          refine AWp.step [2] [2] [(2, .ptr 2 0)] [(2, [.s (tx (wordOf k)), .s (tx (partsOf k))])] ?_ ?_
                          · simp [wordOf, partsOf, q1, q2, q3, q4, q5, q6, q7, q8, q9, q10, q11, q12]
                          refine AWp.ret ?_
                          simp
theorem hexT_at {n : Nat} (h : n < 16) : hexT[n]? = some (hexD n) := by
  have hc : n = 0 ∨ n = 1 ∨ n = 2 ∨ n = 3 ∨ n = 4 ∨ n = 5 ∨ n = 6 ∨ n = 7 ∨ n = 8 ∨ n = 9 ∨ n = 10 ∨ n = 11 ∨ n = 12 ∨ n = 13 ∨ n = 14 ∨ n = 15 := by omega
  rcases hc with rfl | rfl | rfl | rfl | rfl | rfl | rfl | rfl | rfl | rfl | rfl | rfl | rfl | rfl | rfl | rfl <;> rfl
theorem hex2_at (b : UInt8) : ∃ p q : Nat, IntKind.u8.wrap ((b.toNat : Int) / 16) = p ∧ (b.toNat : Int).tmod 16 = q ∧ p < 16 ∧ q < 16 ∧ ∃ x y, hexT[p]? = some x ∧ hexT[q]? = some y ∧ hex2 b = [x, y] := by
  have h := UInt8.toNat_lt b
  refine ⟨b.toNat / 16, b.toNat % 16, ?_, ?_, by omega, by omega, _, _, hexT_at (by omega), hexT_at (by omega), rfl⟩
  · rw [show (b.toNat : Int) / 16 = ((b.toNat / 16 : Nat) : Int) by omega]
    exact u8_wrap (by omega)
  · rw [Int.tmod_eq_emod_of_nonneg (by omega)]; omega
theorem byAV_snoc2 (l : List UInt8) (x y : UInt8) : byAV (l ++ [x, y]) = byAV l ++ [[.i .u8 (x.toNat : Int)], [.i .u8 (y.toNat : Int)]] := by simp [byAV]
set_option maxRecDepth 8000 in
set_option maxHeartbeats 2000000 in
theorem c_text (s : List UInt8) (hs : s.length ≤ 1000000) : Pure Tryd.prog 40 [.s (tx s)] (.s (tx (61 :: hexL s))) := by
  refine proc_of (cx Tryd.prog 27 [0, 2, 3, 4, 7, 8, 9] [2]) 26 [.tmp 2] Tryd.func40 rfl rfl rfl rfl rfl rfl (Nat.le_refl _) rfl ?_
  refine AWp.go [0] [] fun K hK => ?_
  simp
  first | refine hK _ _ ?_ | refine ⟨by omega, hK _ _ ?_⟩ | refine ⟨by omega, by omega, hK _ _ ?_⟩
  clear hK K
  refine AWp.step [0, 3] [] [(0, .s (tx s)), (3, .sl .own 1 (byAV (61 :: hexL (s.take 0))))] [] ?_ ?_
  · simp [byAV, hexL]
  refine AWp.seq ?_
  refine AWp.go [0, 3, 7, 8] [] fun K hK => ?_
  simp
  first | refine hK _ _ ?_ | refine ⟨by omega, hK _ _ ?_⟩ | refine ⟨by omega, by omega, hK _ _ ?_⟩
  clear hK K
  refine AWp.block (AWp.while (fun i : Nat => [(0, .s (tx s)), (3, .sl .own 1 (byAV (61 :: hexL (s.take i)))), (7, .i .i64 s.length), (8, .i .i64 i)]) (fun i => []) (fun i => i ≤ s.length) (fun i => s.length - i) [0, 3, 7, 8] [] 0 (by simp) (by simp) ?_)
  intro i hi
  refine AWp.go [0, 3, 7, 8, 9] [] fun K hK => ?_
  simp
  first | refine hK _ _ ?_ | refine ⟨by omega, hK _ _ ?_⟩ | refine ⟨by omega, by omega, hK _ _ ?_⟩
  clear hK K
  refine AWp.seq ?_
  by_cases h : i < s.length
  · refine AWp.cond (t := true) (by first | (simp [h]; done) | (simp [h]; omega)) (fun _ => ?_) (by simp)
    refine AWp.skip ?_
    show AWp _ _ _ _
    refine AWp.seq ?_
    refine AWp.block ?_
    refine AWp.go [0, 3, 4, 7, 8] [] fun K hK => ?_
    simp
    first | refine hK _ _ ?_ | refine ⟨by omega, hK _ _ ?_⟩ | refine ⟨by omega, by omega, hK _ _ ?_⟩
    clear hK K
    obtain ⟨p, q, e1, e2, hp, hq, x, y, hx, hy, h2⟩ := hex2_at s[i]
    have b3 := hexL_length (s.take i)
    have b4 : (s.take i).length ≤ s.length := by simp; omega
    have b6 : hexT.length = 16 := rfl
    have hs2 : (61 :: hexL (s.take (i + 1)) : List UInt8) = (61 :: hexL (s.take i)) ++ [x, y] := by rw [hexL_succ s i h, h2]; rfl
    have hT : ([48, 49, 50, 51, 52, 53, 54, 55, 56, 57, 97, 98, 99, 100, 101, 102] : List UInt8) = hexT := rfl
    refine AWp.lastA 12 (fun _ => .any) [0, 3, 7, 8] [] [(0, .s (tx s)), (3, .sl .own 1 (byAV (61 :: hexL (s.take (i + 1))))), (7, .i .i64 s.length), (8, .i .i64 i)] [] mix (by kernel_rfl) ?_ ?_
    · rw [hs2, byAV_snoc2]
      simp [h, e1, e2, hT, hx, hy, b6]
      omega
    show AWp _ _ _ _
    refine AWp.goLast [0, 3, 7, 8] [] fun K hK => ?_
    simp
    first | refine hK _ _ ?_ | refine ⟨by omega, hK _ _ ?_⟩ | refine ⟨by omega, by omega, hK _ _ ?_⟩
    clear hK K
    refine ⟨i + 1, by omega, by omega, ?_⟩
    simp
    exact wrap64 (by omega) (by omega)
  · refine AWp.cond (t := false) (by first | (simp [h]; done) | (simp [h]; omega)) (by simp) (fun _ => ?_)
    refine AWp.exit ?_
    show AWp _ _ _ _
    obtain rfl : i = s.length := by omega
    rw [List.take_length]
    refine AWp.go [2] [] fun K hK => ?_
    simp
    first | refine hK _ _ ?_ | refine ⟨by omega, hK _ _ ?_⟩ | refine ⟨by omega, by omega, hK _ _ ?_⟩
    clear hK K
    refine AWp.ret ?_
    simp
theorem range_all {n : Nat} {p : Nat → Bool} (h : ∀ k, k < n → p k = true) : (List.range n).all p = true := by
  rw [List.all_eq_true]
  intro x hx
  exact h x (List.mem_range.1 hx)
theorem range_not {n : Nat} {p : Nat → Bool} {i : Nat} (hi : i < n) (h : p i = false) : (List.range n).all p = false := by
  rw [List.all_eq_false]
  exact ⟨i, List.mem_range.2 hi, by simp [h]⟩
/-- The place of a digit of sixteen; below 0: it is none. -/
def hexI (c : UInt8) : Int := Lib.indexByte hexT c
def hxOk (s : List UInt8) (j : Nat) : Bool := decide (0 ≤ hexI (s.getD (2 * j + 1) 0)) && decide (0 ≤ hexI (s.getD (2 * j + 2) 0))
def hxAt (s : List UInt8) (j : Nat) : UInt8 := UInt8.ofNat (16 * (hexI (s.getD (2 * j + 1) 0)).toNat + (hexI (s.getD (2 * j + 2) 0)).toNat)
/-- The bytes that a word is, and whether it is such. -/
def rawS (s : List UInt8) : List UInt8 × Bool :=
  if s.length % 2 = 0 ∨ s.getD 0 0 ≠ 61 ∨ 129 < s.length then ([], false)
  else if (List.range ((s.length - 1) / 2)).all (hxOk s) then ((List.range ((s.length - 1) / 2)).map (hxAt s), true) else ([], false)
theorem hexI_rng (c : UInt8) : -1 ≤ hexI c ∧ hexI c ≤ 15 := by
  refine ⟨Lib.indexByte_ge _ _, ?_⟩
  unfold hexI
  rcases byte_cases c hexT with ⟨h1, _⟩ | ⟨a, r, he, _, h3⟩
  · rw [h1]; decide
  · have := congrArg List.length he
    have hT : hexT.length = 16 := rfl
    rw [hT] at this
    simp at this
    omega
theorem c_hexI (b : UInt8) : Pure Tryd.prog 63 [.s (tx hexT), .i .u8 (b.toNat : Int)] (.i .i64 (hexI b)) := by
  have := c_IndexByte hexT (b.toNat : Int)
  simpa [hexI] using this
set_option maxRecDepth 8000 in
set_option maxHeartbeats 4000000 in
theorem c_raw (s : List UInt8) (hs : s.length ≤ 1000000) : Pure Tryd.prog 47 [.s (tx s)] (.tup [.s (tx (rawS s).1), .b (rawS s).2]) := by
  refine proc_of (cx Tryd.prog 53 [0, 2, 3, 4, 5, 6, 7, 21, 25, 42] [2, 3]) 52 [.tmp 2, .tmp 3] Tryd.func47 rfl rfl rfl rfl rfl rfl (Nat.le_refl _) rfl ?_
  refine AWp.go [0] [] fun K hK => ?_
  simp
  first | refine hK _ _ ?_ | refine ⟨by omega, hK _ _ ?_⟩ | refine ⟨by omega, by omega, hK _ _ ?_⟩
  clear hK K
  refine AWp.seq ?_
  refine AWp.step [0, 21] [] [(0, .s (tx s)), (21, .b (decide (s.length % 2 = 0) || (decide (s.getD 0 0 ≠ 61) || decide (129 < s.length))))] [] ?_ ?_
  · have w1 : (s.length : Int).tmod 2 = (s.length : Int) % 2 := Int.tmod_eq_emod_of_nonneg (by omega)
    have h61 : ((s.getD 0 0).toNat : Int) = 61 ↔ s.getD 0 0 = 61 := by
      rw [← UInt8.toNat_inj]
      simp
      omega
    by_cases h1 : s.length % 2 = 0
    · have h2 : (s.length : Int) % 2 = 0 := by omega
      simp [w1, h1, h2]
    · have h2 : (s.length : Int) % 2 = 1 := by omega
      have h3 : 0 < s.length := by omega
      have e0 : s.getD 0 0 = s[0] := by simp [h3]
      rw [e0] at h61 ⊢
      by_cases h4 : s[0] = 61
      · simp [w1, h1, h2, h3, h4]
        omega
      · have h5 : ¬ (s[0].toNat : Int) = 61 := fun h => h4 (h61.1 h)
        simp [w1, h1, h2, h3, h4, h5]
  cases hq : decide (s.length % 2 = 0) || (decide (s.getD 0 0 ≠ 61) || decide (129 < s.length))
  · refine AWp.cond (t := false) (by simp) (by simp) (fun _ => ?_)
    refine AWp.skip ?_
    show AWp _ _ _ _
    have hq2 : ¬ (s.length % 2 = 0 ∨ s.getD 0 0 ≠ 61 ∨ 129 < s.length) := by
      intro h
      simp only [Bool.or_eq_false_iff, decide_eq_false_iff_not] at hq
      rcases h with h | h | h
      · exact hq.1 h
      · exact hq.2.1 h
      · exact hq.2.2 h
    have hr : rawS s = if (List.range ((s.length - 1) / 2)).all (hxOk s) then ((List.range ((s.length - 1) / 2)).map (hxAt s), true) else ([], false) := by rw [rawS, if_neg hq2]
    have hodd : s.length % 2 = 1 := by omega
    clear hq
    refine AWp.go [0, 4] [] fun K hK => ?_
    simp
    first | refine hK _ _ ?_ | refine ⟨by omega, hK _ _ ?_⟩ | refine ⟨by omega, by omega, hK _ _ ?_⟩
    clear hK K
    refine AWp.seq ?_
    refine AWp.go [0, 4, 5] [] fun K hK => ?_
    simp
    first | refine hK _ _ ?_ | refine ⟨by omega, hK _ _ ?_⟩ | refine ⟨by omega, by omega, hK _ _ ?_⟩
    clear hK K
    refine AWp.block (AWp.while (fun i : Nat => [(0, .s (tx s)), (4, .sl .own 1 (byAV ((List.range i).map (hxAt s)))), (5, .i .i64 (2 * (i : Int) + 1))]) (fun i => []) (fun i => i ≤ (s.length - 1) / 2 ∧ ∀ k, k < i → hxOk s k = true) (fun i => s.length - i) [0, 4, 5] [] 0 (by simp) (by simp [byAV]) ?_)
    rintro i ⟨hi, hall⟩
    refine AWp.seq ?_
    refine AWp.go [0, 4, 5, 25] [] fun K hK => ?_
    simp
    first | refine hK _ _ ?_ | refine ⟨by omega, hK _ _ ?_⟩ | refine ⟨by omega, by omega, hK _ _ ?_⟩
    clear hK K
    by_cases h : 2 * i + 1 < s.length
    · refine AWp.cond (t := true) (by first | (simp [h]; done) | (simp [h]; omega)) (fun _ => ?_) (by simp)
      refine AWp.skip ?_
      show AWp _ _ _ _
      refine AWp.seq ?_
      refine AWp.block ?_
      have h1 : 2 * i + 2 < s.length := by omega
      have e1 : (2 * (i : Int) + 1).toNat = 2 * i + 1 := by omega
      have e2 : (2 * (i : Int) + 1 + 1).toNat = 2 * i + 2 := by omega
      have w1 : IntKind.i64.wrap (2 * (i : Int) + 1 + 1) = 2 * (i : Int) + 1 + 1 := wrap64 (by omega) (by omega)
      obtain ⟨x, hx⟩ : ∃ x, x = hexI s[2 * i + 1] := ⟨_, rfl⟩
      obtain ⟨y, hy⟩ : ∃ y, y = hexI s[2 * i + 2] := ⟨_, rfl⟩
      have g1 := c_hexI s[2 * i + 1]
      have g2 := c_hexI s[2 * i + 2]
      have rx := hexI_rng s[2 * i + 1]
      have ry := hexI_rng s[2 * i + 2]
      have hok : hxOk s i = (decide (0 ≤ x) && decide (0 ≤ y)) := by simp [hxOk, h, h1, hx, hy]
      have hat : hxAt s i = UInt8.ofNat (16 * x.toNat + y.toNat) := by simp [hxAt, h, h1, hx, hy]
      rw [← hx] at g1 rx
      rw [← hy] at g2 ry
      have hT : ([48, 49, 50, 51, 52, 53, 54, 55, 56, 57, 97, 98, 99, 100, 101, 102] : List UInt8) = hexT := rfl
      refine AWp.stepD 11 (fun k => if k = 3 then .i .i64 x else .i .i64 y) [0, 4, 5, 6, 7] [] [(0, .s (tx s)), (4, .sl .own 1 (byAV ((List.range i).map (hxAt s)))), (5, .i .i64 (2 * (i : Int) + 1)), (6, .i .i64 x), (7, .i .i64 y)] [] mix (by kernel_rfl) ?_ ?_
      · simp [w1, e1, e2, h, h1, hT, g1, g2]
        omega
      refine AWp.seq ?_
      refine AWp.step [0, 4, 5, 6, 7, 42] [] [(0, .s (tx s)), (4, .sl .own 1 (byAV ((List.range i).map (hxAt s)))), (5, .i .i64 (2 * (i : Int) + 1)), (6, .i .i64 x), (7, .i .i64 y), (42, .b (!hxOk s i))] [] ?_ ?_
      · rw [hok]
        by_cases p1 : 0 ≤ x
        · have p1' : ¬ x < 0 := by omega
          by_cases p2 : 0 ≤ y <;> simp [p1, p1', p2] <;> omega
        · have p1' : x < 0 := by omega
          simp [p1']
      cases hp : hxOk s i
      · refine AWp.cond (t := true) (by simp) (fun _ => ?_) (by simp)
        refine AWp.go [2, 3] [] fun K hK => ?_
        simp
        first | refine hK _ _ ?_ | refine ⟨by omega, hK _ _ ?_⟩ | refine ⟨by omega, by omega, hK _ _ ?_⟩
        clear hK K
        refine AWp.ret ?_
        rw [hr, if_neg (by rw [range_not (i := i) (by omega) hp]; simp)]
        simp
      · refine AWp.cond (t := false) (by simp) (by simp) (fun _ => ?_)
        refine AWp.skip ?_
        show AWp _ _ _ _
        have hxy : 0 ≤ x ∧ 0 ≤ y := by
          rw [hok] at hp
          simpa using hp
        have hs2 : (List.range (i + 1)).map (hxAt s) = (List.range i).map (hxAt s) ++ [hxAt s i] := by simp [List.range_succ]
        have w2 : IntKind.i64.wrap (16 * x) = 16 * x := wrap64 (by omega) (by omega)
        have w3 : IntKind.i64.wrap (16 * x + y) = 16 * x + y := wrap64 (by omega) (by omega)
        refine AWp.last [0, 4, 5] [] [(0, .s (tx s)), (4, .sl .own 1 (byAV ((List.range (i + 1)).map (hxAt s)))), (5, .i .i64 (2 * (i : Int) + 1))] [] ?_ ?_
        · rw [hs2, byAV_snoc, hat]
          simp [w2, w3, u8_wrapI]
          omega
        show AWp _ _ _ _
        refine AWp.goLast [0, 4, 5] [] fun K hK => ?_
        simp
        first | refine hK _ _ ?_ | refine ⟨by omega, hK _ _ ?_⟩ | refine ⟨by omega, by omega, hK _ _ ?_⟩
        clear hK K
        refine ⟨i + 1, ⟨by omega, fun k hk => ?_⟩, by omega, ?_⟩
        · by_cases hki : k = i
          · subst hki; exact hp
          · exact hall k (by omega)
        · simp
          rw [wrap64 (by omega) (by omega)]
          omega
    · refine AWp.cond (t := false) (by first | (simp [h]; done) | (simp [h]; omega)) (by simp) (fun _ => ?_)
      refine AWp.exit ?_
      show AWp _ _ _ _
      have hil : i = (s.length - 1) / 2 := by omega
      rw [hil] at hall ⊢
      refine AWp.go [2, 3] [] fun K hK => ?_
      simp
      first | refine hK _ _ ?_ | refine ⟨by omega, hK _ _ ?_⟩ | refine ⟨by omega, by omega, hK _ _ ?_⟩
      clear hK K
      refine AWp.ret ?_
      rw [hr, if_pos (range_all hall)]
      simp
  · refine AWp.cond (t := true) (by simp) (fun _ => ?_) (by simp)
    refine AWp.go [2, 3] [] fun K hK => ?_
    simp
    first | refine hK _ _ ?_ | refine ⟨by omega, hK _ _ ?_⟩ | refine ⟨by omega, by omega, hK _ _ ?_⟩
    clear hK K
    refine AWp.ret ?_
    have hq2 : s.length % 2 = 0 ∨ s.getD 0 0 ≠ 61 ∨ 129 < s.length := by simpa using hq
    rw [rawS, if_pos hq2]
    simp
end Go.AM
namespace Go.AM
open Go.Proofs
def boundsB (a : Sact) : Bool := decide ((1 : Int) ≤ a.kind) && (decide (a.kind ≤ 12) && (inN a.rep && (inN a.to && (inN a.of && (inN a.n && (decide ((a.key.length : Int) ≤ 64) && (decide ((a.word.length : Int) ≤ 64) && (decide ((a.keep.length : Int) ≤ 4) && decide (a = bareA a)))))))))
/-- May an act be? -/
def mayA (a : Sact) : Bool := a.keep.all inN && boundsB a
theorem take_all_succ {α : Type} {p : α → Bool} {l : List α} {i : Nat} (h : i < l.length) (h1 : (l.take i).all p = true) (h2 : p l[i] = true) : (l.take (i + 1)).all p = true := by
  rw [List.take_succ_eq_append_getElem h, List.all_append, h1]
  simpa using h2
theorem all_not {α : Type} {p : α → Bool} {l : List α} {i : Nat} (h : i < l.length) (h2 : p l[i] = false) : l.all p = false := by
  rw [List.all_eq_false]
  exact ⟨_, List.getElem_mem h, by simp [h2]⟩
set_option maxRecDepth 8000 in
set_option maxHeartbeats 8000000 in
theorem c_ref33_May (a : Sact) (ha : Mild a) : Pure Tryd.prog 13 [.agg (sactC a)] (.b (mayA a)) := by
  have hm : a.keep.length ≤ 140737488355328 := ha
  refine proc_of (cx Tryd.prog 70 [1, 2, 3, 8, 17] [2]) 69 [.tmp 2] Tryd.func13 rfl rfl rfl rfl rfl rfl (Nat.le_refl _) rfl ?_
  refine AWp.go [1] [1] fun K hK => ?_
  simp [sactC]
  first | refine hK _ _ ?_ | refine ⟨by omega, hK _ _ ?_⟩ | refine ⟨by omega, by omega, hK _ _ ?_⟩
  clear hK K
  refine AWp.seq ?_
  refine AWp.go [1, 3] [1] fun K hK => ?_
  simp
  first | refine hK _ _ ?_ | refine ⟨by omega, hK _ _ ?_⟩ | refine ⟨by omega, by omega, hK _ _ ?_⟩
  clear hK K
  refine AWp.block (AWp.while (fun i : Nat => [(1, .ptr 1 0), (3, .i .i64 i)]) (fun i => [(1, [.i .i64 a.kind, .i .i64 a.rep, .i .i64 a.to, .i .i64 a.of, .s (tx a.key), .s (tx a.word), .i .i64 a.n, .sl .fro 1 (intsAV a.keep)])]) (fun i => i ≤ a.keep.length ∧ (a.keep.take i).all inN = true) (fun i => a.keep.length - i) [1, 3] [1] 0 (by simp) (by simp) ?_)
  rintro i ⟨hi, hall⟩
  refine AWp.seq ?_
  refine AWp.go [1, 3, 8] [1] fun K hK => ?_
  simp
  first | refine hK _ _ ?_ | refine ⟨by omega, hK _ _ ?_⟩ | refine ⟨by omega, by omega, hK _ _ ?_⟩
  clear hK K
  by_cases h : i < a.keep.length
  · refine AWp.cond (t := true) (by first | (simp [h]; done) | (simp [h]; omega)) (fun _ => ?_) (by simp)
    refine AWp.skip ?_
    show AWp _ _ _ _
    refine AWp.seq ?_
    refine AWp.block ?_
    refine AWp.go [1, 3, 17] [1] fun K hK => ?_
    simp [h]
    refine call_pure (c_ref33_in a.keep[i]) (by simp) ?_
    simp [h]
    first | refine hK _ _ ?_ | refine ⟨by omega, hK _ _ ?_⟩ | refine ⟨by omega, by omega, hK _ _ ?_⟩
    clear hK K
    cases hp : inN a.keep[i]
    · refine AWp.cond (t := true) (by simp) (fun _ => ?_) (by simp)
      refine AWp.go [2] [1] fun K hK => ?_
      simp
      first | refine hK _ _ ?_ | refine ⟨by omega, hK _ _ ?_⟩ | refine ⟨by omega, by omega, hK _ _ ?_⟩
      clear hK K
      refine AWp.ret ?_
      simp [mayA, all_not h hp]
    · refine AWp.cond (t := false) (by simp) (by simp) (fun _ => ?_)
      refine AWp.skip ?_
      show AWp _ _ _ _
      refine AWp.goLast [1, 3] [1] fun K hK => ?_
      simp
      first | refine hK _ _ ?_ | refine ⟨by omega, hK _ _ ?_⟩ | refine ⟨by omega, by omega, hK _ _ ?_⟩
      clear hK K
      refine ⟨i + 1, ⟨by omega, take_all_succ h hall hp⟩, by omega, ?_⟩
      simp
      exact wrap64 (by omega) (by omega)
  · refine AWp.cond (t := false) (by first | (simp [h]; done) | (simp [h]; omega)) (by simp) (fun _ => ?_)
    refine AWp.exit ?_
    show AWp _ _ _ _
    have hall2 : a.keep.all inN = true := by
      have hil : i = a.keep.length := by omega
      rw [hil, List.take_length] at hall
      exact hall
    have hmb : mayA a = boundsB a := by simp [mayA, hall2]
    clear hall
    refine AWp.stepD 53 (fun k => if k = 11 then .b (inN a.rep) else if k = 16 then .b (inN a.to) else if k = 21 then .b (inN a.of) else if k = 26 then .b (inN a.n) else if k = 49 then .agg (sactC (bareA a)) else .b (decide (a = bareA a))) [2] [1] [(2, .b (mayA a))] [(1, [.i .i64 a.kind, .i .i64 a.rep, .i .i64 a.to, .i .i64 a.of, .s (tx a.key), .s (tx a.word), .i .i64 a.n, .sl .fro 1 (intsAV a.keep)])] mix (by kernel_rfl) ?_ ?_
    · rw [hmb]
      unfold boundsB
      have g1 := c_ref33_in a.rep
      have g2 := c_ref33_in a.to
      have g3 := c_ref33_in a.of
      have g4 := c_ref33_in a.n
      have g5 := c_ref33_bare a
      have g6 := c_ref33_One a (bareA a) ha
      simp only [sactC] at g5 g6 ⊢
      by_cases q1 : 1 ≤ a.kind
      · by_cases q2 : a.kind ≤ 12
        · cases q3 : inN a.rep
          · rw [q3] at g1
            simp [q1, q2, g1]
          rw [q3] at g1
          cases q4 : inN a.to
          · rw [q4] at g2
            simp [q1, q2, g1, g2]
          rw [q4] at g2
          cases q5 : inN a.of
          · rw [q5] at g3
            simp [q1, q2, g1, g2, g3]
          rw [q5] at g3
          cases q6 : inN a.n
          · rw [q6] at g4
            simp [q1, q2, g1, g2, g3, g4]
          rw [q6] at g4
          by_cases q7 : (a.key.length : Int) ≤ 64
          · by_cases q8 : (a.word.length : Int) ≤ 64
            · by_cases q9 : (a.keep.length : Int) ≤ 4
              · try simp at g5
                try simp at g6
                simp [q1, q2, g1, g2, g3, g4, q7, q8, q9, g5, g6]
              · simp [q1, q2, g1, g2, g3, g4, q7, q8, q9]
            · simp [q1, q2, g1, g2, g3, g4, q7, q8]
          · simp [q1, q2, g1, g2, g3, g4, q7]
        · simp [q1, q2]
      · simp [q1]
    refine AWp.ret ?_
    simp
/-- Is an act not too great for the statements? -/
def lightA (a : Sact) : Bool := !(decide ((100 : Int) < a.key.length) || (decide ((100 : Int) < a.word.length) || decide ((20 : Int) < a.keep.length)))
def lightS (l : List Sact) : Bool := (List.range l.length).all (fun i => decide (60 < i) || (match l[i]? with | some a => lightA a | none => true)) && decide ((l.length : Int) ≤ 60)
set_option maxRecDepth 8000 in
set_option maxHeartbeats 4000000 in
theorem c_Light (l : List Sact) : Pure Tryd.prog 10 [.sl .fro 8 (sactsAV l)] (.b (lightS l)) := by
  refine proc_of (cx Tryd.prog 42 [0, 2, 3, 11, 38] [2]) 41 [.tmp 2] Tryd.func10 rfl rfl rfl rfl rfl rfl (Nat.le_refl _) rfl ?_
  refine AWp.go [0] [] fun K hK => ?_
  simp
  first | refine hK _ _ ?_ | refine ⟨by omega, hK _ _ ?_⟩ | refine ⟨by omega, by omega, hK _ _ ?_⟩
  clear hK K
  refine AWp.seq ?_
  refine AWp.go [0, 3] [] fun K hK => ?_
  simp
  first | refine hK _ _ ?_ | refine ⟨by omega, hK _ _ ?_⟩ | refine ⟨by omega, by omega, hK _ _ ?_⟩
  clear hK K
  refine AWp.block (AWp.while (fun i : Nat => [(0, .sl .fro 8 (sactsAV l)), (3, .i .i64 i)]) (fun i => []) (fun i => i ≤ l.length ∧ i ≤ 61 ∧ ∀ k (hk : k < i) (hk2 : k < l.length), lightA l[k] = true) (fun i => l.length - i) [0, 3] [] 0 (by simp) (by simp) ?_)
  rintro i ⟨hi, hi2, hall⟩
  refine AWp.seq ?_
  refine AWp.step [0, 3, 11] [] [(0, .sl .fro 8 (sactsAV l)), (3, .i .i64 i), (11, .b (decide ((i : Int) < l.length) && decide ((i : Int) ≤ 60)))] [] ?_ ?_
  · by_cases h1 : i < l.length <;> simp [h1]
  cases hq : decide ((i : Int) < l.length) && decide ((i : Int) ≤ 60)
  · refine AWp.cond (t := false) (by simp) (by simp) (fun _ => ?_)
    refine AWp.exit ?_
    show AWp _ _ _ _
    refine AWp.go [2] [] fun K hK => ?_
    simp
    first | refine hK _ _ ?_ | refine ⟨by omega, hK _ _ ?_⟩ | refine ⟨by omega, by omega, hK _ _ ?_⟩
    clear hK K
    refine AWp.ret ?_
    simp
    by_cases hl : (l.length : Int) ≤ 60
    · have : (List.range l.length).all (fun i => decide (60 < i) || (match l[i]? with | some a => lightA a | none => true)) = true := range_all fun k hk => by
        have hki : k < i := by
          simp at hq
          by_cases h1 : i < l.length
          · have := hq (by omega); omega
          · omega
        simp [hk, hall k hki hk]
      simp [lightS, this]
    · simp [lightS, hl]
  · refine AWp.cond (t := true) (by simp) (fun _ => ?_) (by simp)
    refine AWp.skip ?_
    show AWp _ _ _ _
    refine AWp.seq ?_
    refine AWp.block ?_
    have h : i < l.length := by simp at hq; omega
    have h60 : i ≤ 60 := by simp at hq; omega
    refine AWp.step [0, 3, 38] [] [(0, .sl .fro 8 (sactsAV l)), (3, .i .i64 i), (38, .b (!lightA l[i]))] [] ?_ ?_
    · unfold lightA
      by_cases p1 : (100 : Int) < l[i].key.length
      · simp [h, sactC, p1]
      by_cases p2 : (100 : Int) < l[i].word.length
      · simp [h, sactC, p1, p2]
      simp [h, sactC, p1, p2]
    cases hp : lightA l[i]
    · refine AWp.cond (t := true) (by simp) (fun _ => ?_) (by simp)
      refine AWp.go [2] [] fun K hK => ?_
      simp
      first | refine hK _ _ ?_ | refine ⟨by omega, hK _ _ ?_⟩ | refine ⟨by omega, by omega, hK _ _ ?_⟩
      clear hK K
      refine AWp.ret ?_
      simp
      have : (List.range l.length).all (fun i => decide (60 < i) || (match l[i]? with | some a => lightA a | none => true)) = false := range_not h (by simp [h, hp]; omega)
      simp [lightS, this]
    · refine AWp.cond (t := false) (by simp) (by simp) (fun _ => ?_)
      refine AWp.skip ?_
      show AWp _ _ _ _
      refine AWp.goLast [0, 3] [] fun K hK => ?_
      simp
      first | refine hK _ _ ?_ | refine ⟨by omega, hK _ _ ?_⟩ | refine ⟨by omega, by omega, hK _ _ ?_⟩
      clear hK K
      refine ⟨i + 1, ⟨by omega, by omega, fun k hk hk2 => ?_⟩, by omega, ?_⟩
      · by_cases hki : k = i
        · subst hki; exact hp
        · exact hall k (by omega) hk2
      · simp
        exact wrap64 (by omega) (by omega)
end Go.AM
namespace Go.AM
open Go.Proofs
theorem c_Digits (n : Int) (h : inN n = true) : Pure Tryd.prog 31 [.i .i64 n] (.s (tx (Lib.decDigits n.toNat))) := by
  simp [inN] at h
  have := c_ref14_Digits n.toNat (by omega)
  rwa [show ((n.toNat : Nat) : Int) = n by omega] at this
def dd (n : Int) : List UInt8 := 32 :: Lib.decDigits n.toNat
def hh (s : List UInt8) : List UInt8 := 32 :: 61 :: hexL s
theorem dd_len {n : Int} (h : inN n = true) : (dd n).length ≤ 8 := by
  simp [inN] at h
  have := dec_len7 (u := n.toNat) (by omega)
  simp [dd]; omega
theorem hh_len (s : List UInt8) : (hh s).length = 2 * s.length + 2 := by simp [hh, hexL_length]
/-- An act's line. -/
def lineL (a : Sact) : List UInt8 :=
  if a.kind = 1 then [100, 111] ++ (dd a.rep ++ (dd a.of ++ (hh a.key ++ hh a.word)))
  else if a.kind = 2 then [109, 111, 118, 101] ++ (dd a.rep ++ (dd a.to ++ (dd a.of ++ (hh a.key ++ dd a.n))))
  else if a.kind = 3 then [114, 101, 97, 100] ++ dd a.rep
  else if a.kind = 4 then [97, 115, 107] ++ (dd a.rep ++ dd a.to)
  else if a.kind = 5 then [116, 97, 107, 101] ++ dd a.of
  else if a.kind = 6 then [99, 111, 112, 121] ++ dd a.of
  else if a.kind = 7 then [108, 111, 115, 101] ++ dd a.of
  else if a.kind = 8 then [115, 121, 110, 99] ++ dd a.rep
  else if a.kind = 9 then [114, 101, 110, 101, 119] ++ dd a.rep
  else if a.kind = 10 then [115, 116, 111, 112] ++ (dd a.rep ++ dd a.n)
  else if a.kind = 11 then [99, 114, 97, 115, 104] ++ (dd a.rep ++ a.keep.flatMap dd)
  else if a.kind = 12 then [111, 112, 101, 110] ++ dd a.rep
  else []
/-- What a line's numbers and texts must be, to be written. -/
structure Near (a : Sact) : Prop where
  rep : inN a.rep = true
  to : inN a.to = true
  of : inN a.of = true
  n : inN a.n = true
  key : a.key.length ≤ 64
  word : a.word.length ≤ 64
  keep : a.keep.length ≤ 4
  all : a.keep.all inN = true
theorem near_of {a : Sact} (h : mayA a = true) : Near a := by
  simp only [mayA, boundsB, Bool.and_eq_true, decide_eq_true_eq] at h
  obtain ⟨h0, h1, h2, h3, h4, h5, h6, h7, h8, h9, h10⟩ := h
  exact ⟨h3, h4, h5, h6, by omega, by omega, by omega, h0⟩
theorem keeps_len {l : List Int} (h : l.all inN = true) : (l.flatMap dd).length ≤ 8 * l.length := by
  induction l with
  | nil => simp
  | cons x l ih =>
    simp only [List.all_cons, Bool.and_eq_true] at h
    have h1 := dd_len h.1
    have h2 := ih h.2
    simp only [List.flatMap_cons, List.length_append, List.length_cons]
    omega
set_option maxRecDepth 8000 in
set_option maxHeartbeats 8000000 in
theorem c_ref33_Line (a : Sact) (ha : Near a) : Pure Tryd.prog 14 [.agg (sactC a)] (.s (tx (lineL a))) := by
  obtain ⟨h1, h2, h3, h4, h5, h6, h7, h8⟩ := ha
  have b1 := dd_len h1
  have b2 := dd_len h2
  have b3 := dd_len h3
  have b4 := dd_len h4
  have b5 := hh_len a.key
  have b6 := hh_len a.word
  refine proc_of (cx Tryd.prog 120 [1, 2, 3, 4, 5, 6, 7, 8, 9, 10, 36, 37, 47, 59, 63, 69, 73, 77, 81, 85, 89, 95, 103, 116] [2]) 119 [.tmp 2] Tryd.func14 rfl rfl rfl rfl rfl rfl (Nat.le_refl _) rfl ?_
  refine AWp.go [1] [1] fun K hK => ?_
  simp [sactC]
  first | refine hK _ _ ?_ | refine ⟨by omega, hK _ _ ?_⟩ | refine ⟨by omega, by omega, hK _ _ ?_⟩
  clear hK K
  refine AWp.stepD 20 (fun k => if k = 2 then .s (tx (Lib.decDigits a.rep.toNat)) else if k = 6 then .s (tx (Lib.decDigits a.to.toNat)) else if k = 10 then .s (tx (Lib.decDigits a.of.toNat)) else .s (tx (Lib.decDigits a.n.toNat))) [1, 3, 4, 5, 6] [1] [(1, .ptr 1 0), (3, .s (tx (dd a.rep))), (4, .s (tx (dd a.to))), (5, .s (tx (dd a.of))), (6, .s (tx (dd a.n)))] [(1, [.i .i64 a.kind, .i .i64 a.rep, .i .i64 a.to, .i .i64 a.of, .s (tx a.key), .s (tx a.word), .i .i64 a.n, .sl .fro 1 (intsAV a.keep)])] mix (by kernel_rfl) ?_ ?_
  · have g1 := c_Digits a.rep h1
    have g2 := c_Digits a.to h2
    have g3 := c_Digits a.of h3
    have g4 := c_Digits a.n h4
    unfold dd at b1 b2 b3 b4 ⊢
    simp at b1 b2 b3 b4
    simp [g1, g2, g3, g4]
    omega
  refine AWp.stepD 10 (fun k => if k = 2 then .s (tx (61 :: hexL a.key)) else .s (tx (61 :: hexL a.word))) [1, 3, 4, 5, 6, 7, 8] [1] [(1, .ptr 1 0), (3, .s (tx (dd a.rep))), (4, .s (tx (dd a.to))), (5, .s (tx (dd a.of))), (6, .s (tx (dd a.n))), (7, .s (tx (hh a.key))), (8, .s (tx (hh a.word)))] [(1, [.i .i64 a.kind, .i .i64 a.rep, .i .i64 a.to, .i .i64 a.of, .s (tx a.key), .s (tx a.word), .i .i64 a.n, .sl .fro 1 (intsAV a.keep)])] mix (by kernel_rfl) ?_ ?_
  · have g1 := c_ref33_Hex a.key (by omega)
    have g2 := c_ref33_Hex a.word (by omega)
    unfold hh at b5 b6 ⊢
    simp at b5 b6
    simp [g1, g2]
    omega
  refine AWp.seq ?_
  refine AWp.go [1, 3, 4, 5, 6, 7, 8, 36] [1] fun K hK => ?_
  simp
  first | refine hK _ _ ?_ | refine ⟨by omega, hK _ _ ?_⟩ | refine ⟨by omega, by omega, hK _ _ ?_⟩
  clear hK K
  refine AWp.block ?_
  refine AWp.go [1, 3, 4, 5, 6, 7, 8, 36, 37] [1] fun K hK => ?_
  simp
  first | refine hK _ _ ?_ | refine ⟨by omega, hK _ _ ?_⟩ | refine ⟨by omega, by omega, hK _ _ ?_⟩
  clear hK K
  by_cases q1 : a.kind = 1
  · refine AWp.cond (t := true) (by first | (simp [q1]; done) | (simp [q1]; omega)) (fun _ => ?_) (by simp)
    refine AWp.step [2] [1] [(2, .s (tx (lineL a)))] [(1, [.i .i64 a.kind, .i .i64 a.rep, .i .i64 a.to, .i .i64 a.of, .s (tx a.key), .s (tx a.word), .i .i64 a.n, .sl .fro 1 (intsAV a.keep)])] ?_ ?_
    · simp [lineL, q1]
      omega
    refine AWp.ret ?_
    simp
  · refine AWp.cond (t := false) (by first | (simp [q1]; done) | (simp [q1]; omega)) (by simp) (fun _ => ?_)
    refine AWp.go [1, 3, 4, 5, 6, 7, 36, 47] [1] fun K hK => ?_
    simp
    first | refine hK _ _ ?_ | refine ⟨by omega, hK _ _ ?_⟩ | refine ⟨by omega, by omega, hK _ _ ?_⟩
    clear hK K
    by_cases q2 : a.kind = 2
    · refine AWp.cond (t := true) (by first | (simp [q2]; done) | (simp [q2]; omega)) (fun _ => ?_) (by simp)
      refine AWp.step [2] [1] [(2, .s (tx (lineL a)))] [(1, [.i .i64 a.kind, .i .i64 a.rep, .i .i64 a.to, .i .i64 a.of, .s (tx a.key), .s (tx a.word), .i .i64 a.n, .sl .fro 1 (intsAV a.keep)])] ?_ ?_
      · simp [lineL, q1, q2]
        omega
      refine AWp.ret ?_
      simp
    · refine AWp.cond (t := false) (by first | (simp [q2]; done) | (simp [q2]; omega)) (by simp) (fun _ => ?_)
      refine AWp.go [1, 3, 4, 5, 6, 36, 59] [1] fun K hK => ?_
      simp
      first | refine hK _ _ ?_ | refine ⟨by omega, hK _ _ ?_⟩ | refine ⟨by omega, by omega, hK _ _ ?_⟩
      clear hK K
      by_cases q3 : a.kind = 3
      · refine AWp.cond (t := true) (by first | (simp [q3]; done) | (simp [q3]; omega)) (fun _ => ?_) (by simp)
        refine AWp.step [2] [1] [(2, .s (tx (lineL a)))] [(1, [.i .i64 a.kind, .i .i64 a.rep, .i .i64 a.to, .i .i64 a.of, .s (tx a.key), .s (tx a.word), .i .i64 a.n, .sl .fro 1 (intsAV a.keep)])] ?_ ?_
        · simp [lineL, q3]
          omega
        refine AWp.ret ?_
        simp
      · refine AWp.cond (t := false) (by first | (simp [q3]; done) | (simp [q3]; omega)) (by simp) (fun _ => ?_)
        refine AWp.go [1, 3, 4, 5, 6, 36, 63] [1] fun K hK => ?_
        simp
        first | refine hK _ _ ?_ | refine ⟨by omega, hK _ _ ?_⟩ | refine ⟨by omega, by omega, hK _ _ ?_⟩
        clear hK K
        by_cases q4 : a.kind = 4
        · refine AWp.cond (t := true) (by first | (simp [q4]; done) | (simp [q4]; omega)) (fun _ => ?_) (by simp)
          refine AWp.step [2] [1] [(2, .s (tx (lineL a)))] [(1, [.i .i64 a.kind, .i .i64 a.rep, .i .i64 a.to, .i .i64 a.of, .s (tx a.key), .s (tx a.word), .i .i64 a.n, .sl .fro 1 (intsAV a.keep)])] ?_ ?_
          · simp [lineL, q4]
            omega
          refine AWp.ret ?_
          simp
        · refine AWp.cond (t := false) (by first | (simp [q4]; done) | (simp [q4]; omega)) (by simp) (fun _ => ?_)
          refine AWp.go [1, 3, 5, 6, 36, 69] [1] fun K hK => ?_
          simp
          first | refine hK _ _ ?_ | refine ⟨by omega, hK _ _ ?_⟩ | refine ⟨by omega, by omega, hK _ _ ?_⟩
          clear hK K
          by_cases q5 : a.kind = 5
          · refine AWp.cond (t := true) (by first | (simp [q5]; done) | (simp [q5]; omega)) (fun _ => ?_) (by simp)
            refine AWp.step [2] [1] [(2, .s (tx (lineL a)))] [(1, [.i .i64 a.kind, .i .i64 a.rep, .i .i64 a.to, .i .i64 a.of, .s (tx a.key), .s (tx a.word), .i .i64 a.n, .sl .fro 1 (intsAV a.keep)])] ?_ ?_
            · simp [lineL, q5]
              omega
            refine AWp.ret ?_
            simp
          · refine AWp.cond (t := false) (by first | (simp [q5]; done) | (simp [q5]; omega)) (by simp) (fun _ => ?_)
            refine AWp.go [1, 3, 5, 6, 36, 73] [1] fun K hK => ?_
            simp
            first | refine hK _ _ ?_ | refine ⟨by omega, hK _ _ ?_⟩ | refine ⟨by omega, by omega, hK _ _ ?_⟩
            clear hK K
            by_cases q6 : a.kind = 6
            · refine AWp.cond (t := true) (by first | (simp [q6]; done) | (simp [q6]; omega)) (fun _ => ?_) (by simp)
              refine AWp.step [2] [1] [(2, .s (tx (lineL a)))] [(1, [.i .i64 a.kind, .i .i64 a.rep, .i .i64 a.to, .i .i64 a.of, .s (tx a.key), .s (tx a.word), .i .i64 a.n, .sl .fro 1 (intsAV a.keep)])] ?_ ?_
              · simp [lineL, q6]
                omega
              refine AWp.ret ?_
              simp
            · refine AWp.cond (t := false) (by first | (simp [q6]; done) | (simp [q6]; omega)) (by simp) (fun _ => ?_)
              refine AWp.go [1, 3, 5, 6, 36, 77] [1] fun K hK => ?_
              simp
              first | refine hK _ _ ?_ | refine ⟨by omega, hK _ _ ?_⟩ | refine ⟨by omega, by omega, hK _ _ ?_⟩
              clear hK K
              by_cases q7 : a.kind = 7
              · refine AWp.cond (t := true) (by first | (simp [q7]; done) | (simp [q7]; omega)) (fun _ => ?_) (by simp)
                refine AWp.step [2] [1] [(2, .s (tx (lineL a)))] [(1, [.i .i64 a.kind, .i .i64 a.rep, .i .i64 a.to, .i .i64 a.of, .s (tx a.key), .s (tx a.word), .i .i64 a.n, .sl .fro 1 (intsAV a.keep)])] ?_ ?_
                · simp [lineL, q7]
                  omega
                refine AWp.ret ?_
                simp
              · refine AWp.cond (t := false) (by first | (simp [q7]; done) | (simp [q7]; omega)) (by simp) (fun _ => ?_)
                refine AWp.go [1, 3, 6, 36, 81] [1] fun K hK => ?_
                simp
                first | refine hK _ _ ?_ | refine ⟨by omega, hK _ _ ?_⟩ | refine ⟨by omega, by omega, hK _ _ ?_⟩
                clear hK K
                by_cases q8 : a.kind = 8
                · refine AWp.cond (t := true) (by first | (simp [q8]; done) | (simp [q8]; omega)) (fun _ => ?_) (by simp)
                  refine AWp.step [2] [1] [(2, .s (tx (lineL a)))] [(1, [.i .i64 a.kind, .i .i64 a.rep, .i .i64 a.to, .i .i64 a.of, .s (tx a.key), .s (tx a.word), .i .i64 a.n, .sl .fro 1 (intsAV a.keep)])] ?_ ?_
                  · simp [lineL, q8]
                    omega
                  refine AWp.ret ?_
                  simp
                · refine AWp.cond (t := false) (by first | (simp [q8]; done) | (simp [q8]; omega)) (by simp) (fun _ => ?_)
                  refine AWp.go [1, 3, 6, 36, 85] [1] fun K hK => ?_
                  simp
                  first | refine hK _ _ ?_ | refine ⟨by omega, hK _ _ ?_⟩ | refine ⟨by omega, by omega, hK _ _ ?_⟩
                  clear hK K
                  by_cases q9 : a.kind = 9
                  · refine AWp.cond (t := true) (by first | (simp [q9]; done) | (simp [q9]; omega)) (fun _ => ?_) (by simp)
                    refine AWp.step [2] [1] [(2, .s (tx (lineL a)))] [(1, [.i .i64 a.kind, .i .i64 a.rep, .i .i64 a.to, .i .i64 a.of, .s (tx a.key), .s (tx a.word), .i .i64 a.n, .sl .fro 1 (intsAV a.keep)])] ?_ ?_
                    · simp [lineL, q9]
                      omega
                    refine AWp.ret ?_
                    simp
                  · refine AWp.cond (t := false) (by first | (simp [q9]; done) | (simp [q9]; omega)) (by simp) (fun _ => ?_)
                    refine AWp.go [1, 3, 6, 36, 89] [1] fun K hK => ?_
                    simp
                    first | refine hK _ _ ?_ | refine ⟨by omega, hK _ _ ?_⟩ | refine ⟨by omega, by omega, hK _ _ ?_⟩
                    clear hK K
                    by_cases q10 : a.kind = 10
                    · refine AWp.cond (t := true) (by first | (simp [q10]; done) | (simp [q10]; omega)) (fun _ => ?_) (by simp)
                      refine AWp.step [2] [1] [(2, .s (tx (lineL a)))] [(1, [.i .i64 a.kind, .i .i64 a.rep, .i .i64 a.to, .i .i64 a.of, .s (tx a.key), .s (tx a.word), .i .i64 a.n, .sl .fro 1 (intsAV a.keep)])] ?_ ?_
                      · simp [lineL, q10]
                        omega
                      refine AWp.ret ?_
                      simp
                    · refine AWp.cond (t := false) (by first | (simp [q10]; done) | (simp [q10]; omega)) (by simp) (fun _ => ?_)
                      refine AWp.go [1, 3, 36, 95] [1] fun K hK => ?_
                      simp
                      first | refine hK _ _ ?_ | refine ⟨by omega, hK _ _ ?_⟩ | refine ⟨by omega, by omega, hK _ _ ?_⟩
                      clear hK K
                      by_cases q11 : a.kind = 11
                      · refine AWp.cond (t := true) (by first | (simp [q11]; done) | (simp [q11]; omega)) (fun _ => ?_) (by simp)
                        refine AWp.step [1, 9] [1] [(1, .ptr 1 0), (9, .s (tx ([99, 114, 97, 115, 104] ++ dd a.rep)))] [(1, [.i .i64 a.kind, .i .i64 a.rep, .i .i64 a.to, .i .i64 a.of, .s (tx a.key), .s (tx a.word), .i .i64 a.n, .sl .fro 1 (intsAV a.keep)])] ?_ ?_
                        · simp
                          omega
                        refine AWp.seq ?_
                        refine AWp.go [1, 9, 10] [1] fun K hK => ?_
                        simp
                        first | refine hK _ _ ?_ | refine ⟨by omega, hK _ _ ?_⟩ | refine ⟨by omega, by omega, hK _ _ ?_⟩
                        clear hK K
                        refine AWp.block (AWp.while (fun i : Nat => [(1, .ptr 1 0), (9, .s (tx ([99, 114, 97, 115, 104] ++ (dd a.rep ++ (a.keep.take i).flatMap dd)))), (10, .i .i64 i)]) (fun i => [(1, [.i .i64 a.kind, .i .i64 a.rep, .i .i64 a.to, .i .i64 a.of, .s (tx a.key), .s (tx a.word), .i .i64 a.n, .sl .fro 1 (intsAV a.keep)])]) (fun i => i ≤ a.keep.length) (fun i => a.keep.length - i) [1, 9, 10] [1] 0 (by simp) (by simp) ?_)
                        intro i hi
                        refine AWp.seq ?_
                        refine AWp.go [1, 9, 10, 103] [1] fun K hK => ?_
                        simp
                        first | refine hK _ _ ?_ | refine ⟨by omega, hK _ _ ?_⟩ | refine ⟨by omega, by omega, hK _ _ ?_⟩
                        clear hK K
                        by_cases h : i < a.keep.length
                        · refine AWp.cond (t := true) (by first | (simp [h]; done) | (simp [h]; omega)) (fun _ => ?_) (by simp)
                          refine AWp.skip ?_
                          show AWp _ _ _ _
                          refine AWp.seq ?_
                          refine AWp.block ?_
                          have hk : inN a.keep[i] = true := by
                            rw [List.all_eq_true] at h8
                            exact h8 _ (List.getElem_mem h)
                          have g := c_Digits a.keep[i] hk
                          have bk := dd_len hk
                          have bl : ((a.keep.take i).flatMap dd).length ≤ 8 * (a.keep.take i).length := keeps_len (by
                            rw [List.all_eq_true] at h8 ⊢
                            exact fun x hx => h8 x (List.mem_of_mem_take hx))
                          rw [List.length_take] at bl
                          have he : (a.keep.take (i + 1)).flatMap dd = (a.keep.take i).flatMap dd ++ dd a.keep[i] := by
                            rw [List.take_succ_eq_append_getElem h]
                            simp only [List.flatMap_append]
                            simp
                          generalize (a.keep.take i).flatMap dd = F at he bl
                          refine AWp.last [1, 9, 10] [1] [(1, .ptr 1 0), (9, .s (tx ([99, 114, 97, 115, 104] ++ (dd a.rep ++ (a.keep.take (i + 1)).flatMap dd)))), (10, .i .i64 i)] [(1, [.i .i64 a.kind, .i .i64 a.rep, .i .i64 a.to, .i .i64 a.of, .s (tx a.key), .s (tx a.word), .i .i64 a.n, .sl .fro 1 (intsAV a.keep)])] ?_ ?_
                          · rw [he]
                            simp [h]
                            refine ⟨by omega, ?_⟩
                            refine call_pure g (by simp) ?_
                            simp only [dd] at bk b1 ⊢
                            simp at bk b1
                            simp
                            omega
                          show AWp _ _ _ _
                          refine AWp.goLast [1, 9, 10] [1] fun K hK => ?_
                          simp
                          first | refine hK _ _ ?_ | refine ⟨by omega, hK _ _ ?_⟩ | refine ⟨by omega, by omega, hK _ _ ?_⟩
                          clear hK K
                          refine ⟨i + 1, by omega, by omega, ?_⟩
                          simp
                          exact wrap64 (by omega) (by omega)
                        · refine AWp.cond (t := false) (by first | (simp [h]; done) | (simp [h]; omega)) (by simp) (fun _ => ?_)
                          refine AWp.exit ?_
                          show AWp _ _ _ _
                          obtain rfl : i = a.keep.length := by omega
                          rw [List.take_length]
                          refine AWp.go [2] [1] fun K hK => ?_
                          simp
                          first | refine hK _ _ ?_ | refine ⟨by omega, hK _ _ ?_⟩ | refine ⟨by omega, by omega, hK _ _ ?_⟩
                          clear hK K
                          refine AWp.ret ?_
                          simp [lineL, q11]
                      · refine AWp.cond (t := false) (by first | (simp [q11]; done) | (simp [q11]; omega)) (by simp) (fun _ => ?_)
                        refine AWp.go [3, 116] [1] fun K hK => ?_
                        simp
                        first | refine hK _ _ ?_ | refine ⟨by omega, hK _ _ ?_⟩ | refine ⟨by omega, by omega, hK _ _ ?_⟩
                        clear hK K
                        by_cases q12 : a.kind = 12
                        · refine AWp.cond (t := true) (by first | (simp [q12]; done) | (simp [q12]; omega)) (fun _ => ?_) (by simp)
                          refine AWp.step [2] [1] [(2, .s (tx (lineL a)))] [(1, [.i .i64 a.kind, .i .i64 a.rep, .i .i64 a.to, .i .i64 a.of, .s (tx a.key), .s (tx a.word), .i .i64 a.n, .sl .fro 1 (intsAV a.keep)])] ?_ ?_
                          · simp [lineL, q12]
                            omega
                          refine AWp.ret ?_
                          simp
                        · refine AWp.cond (t := false) (by first | (simp [q12]; done) | (simp [q12]; omega)) (by simp) (fun _ => ?_)
                          refine AWp.skip ?_
                          show AWp _ _ _ _
                          refine AWp.go [2] [1] fun K hK => ?_
                          simp
                          first | refine hK _ _ ?_ | refine ⟨by omega, hK _ _ ?_⟩ | refine ⟨by omega, by omega, hK _ _ ?_⟩
                          clear hK K
                          refine AWp.ret ?_
                          simp [lineL, q1, q2, q3, q4, q5, q6, q7, q8, q9, q10, q11, q12]
end Go.AM
namespace Go.AM
open Go.Proofs
def wd (w : List (List UInt8)) (i : Nat) : List UInt8 := w.getD i []
/-- Words that are not too many, and not too long. -/
def Brief (w : List (List UInt8)) : Prop := w.length ≤ 1000000 ∧ ∀ x ∈ w, x.length ≤ 1000000
/-- An act whose numbers kept are its own row. -/
def sactO (a : Sact) : List AV := [.i .i64 a.kind, .i .i64 a.rep, .i .i64 a.to, .i .i64 a.of, .s (tx a.key), .s (tx a.word), .i .i64 a.n, .sl .own 1 (intsAV a.keep)]
def guessA (w : List (List UInt8)) (k : Int) : Sact :=
  if k = 1 then ⟨k, numR (wd w 1), 0, numR (wd w 2), bytR (wd w 3), bytR (wd w 4), 0, []⟩
  else if k = 2 then ⟨k, numR (wd w 1), numR (wd w 2), numR (wd w 3), bytR (wd w 4), [], numR (wd w 5), []⟩
  else if k = 5 ∨ k = 6 ∨ k = 7 then ⟨k, 0, 0, numR (wd w 1), [], [], 0, []⟩
  else if k = 4 then ⟨k, numR (wd w 1), numR (wd w 2), 0, [], [], 0, []⟩
  else if k = 10 then ⟨k, numR (wd w 1), 0, 0, [], [], numR (wd w 2), []⟩
  else if k = 11 then ⟨k, numR (wd w 1), 0, 0, [], [], 0, ((w.drop 2).take 5).map fun x => (numR x : Int)⟩
  else ⟨k, numR (wd w 1), 0, 0, [], [], 0, []⟩
def keepTo (w : List (List UInt8)) (i : Nat) : List Int := ((w.drop 2).take i).map fun x => (numR x : Int)
end Go.AM
namespace Go.AM
open Go.Proofs
theorem spl_len (c : UInt8) (l : List UInt8) : (spl c l).length ≤ l.length + 1 ∧ ∀ x ∈ spl c l, x.length ≤ l.length := by
  induction l with
  | nil => simp [spl]
  | cons b l ih =>
    obtain ⟨h1, h2⟩ := ih
    unfold spl
    split
    · refine ⟨by simp; omega, fun x hx => ?_⟩
      rcases List.mem_cons.1 hx with rfl | hx
      · simp
      · have := h2 x hx; simp; omega
    · split
      · exact ⟨by simp, fun x hx => by simp at hx; subst hx; simp⟩
      · rename_i y r hq
        rw [hq] at h1 h2
        refine ⟨by simp at h1 ⊢; omega, fun x hx => ?_⟩
        rcases List.mem_cons.1 hx with rfl | hx
        · have := h2 y (by simp); simp; omega
        · have := h2 x (by simp [hx]); simp; omega
theorem spl_brief {c : UInt8} {l : List UInt8} (h : l.length ≤ 999999) : Brief (spl c l) := by
  obtain ⟨h1, h2⟩ := spl_len c l
  exact ⟨by omega, fun x hx => by have := h2 x hx; omega⟩
def okK (s : List UInt8) (k : Nat) : Bool := mayA (guessA (spl 32 s) ((k : Int) + 1)) && decide (lineL (guessA (spl 32 s) ((k : Int) + 1)) = s)
/-- The act that a line is, and whether it is one. -/
def actR (s : List UInt8) : Sact × Bool := match (List.range 12).find? (okK s) with
  | some k => (guessA (spl 32 s) ((k : Int) + 1), true)
  | none => (zeroA 0, false)
def getL : List (List UInt8) → List Sact → List Sact × Int × Int
  | [], out => (out, 0, 0)
  | [x], out => if x = [] then (out, 0, 0) else ([], out.length + 1, 2)
  | x :: y :: r, out => if (actR x).2 && !decide (out.length = 400) then getL (y :: r) (out ++ [(actR x).1]) else ([], out.length + 1, 2)
/-- A script's acts, or where it is none. -/
def getR (s : List UInt8) : List Sact × Int × Int := getL (spl 10 s) []
theorem sactsAV_snoc (l : List Sact) (x : Sact) : sactsAV (l ++ [x]) = sactsAV l ++ [sactC x] := by simp [sactsAV]
end Go.AM
namespace Go.AM
open Go.Proofs
/-- An act whose numbers are ints, and whose texts are short. -/
structure InR (a : Sact) : Prop where
  rep : -9223372036854775808 ≤ a.rep ∧ a.rep ≤ 9223372036854775807
  to : -9223372036854775808 ≤ a.to ∧ a.to ≤ 9223372036854775807
  of : -9223372036854775808 ≤ a.of ∧ a.of ≤ 9223372036854775807
  n : -9223372036854775808 ≤ a.n ∧ a.n ≤ 9223372036854775807
  key : a.key.length ≤ 1000000
  word : a.word.length ≤ 1000000
  keep : a.keep.length ≤ 1000000
  all : ∀ x ∈ a.keep, -9223372036854775808 ≤ x ∧ x ≤ 9223372036854775807
/-- What a part of a form says of an act. -/
def wordsC (a : Sact) (c : UInt8) : List (List UInt8) :=
  if c = 114 then [Lib.itoa a.rep] else if c = 116 then [Lib.itoa a.to] else if c = 111 then [Lib.itoa a.of] else if c = 110 then [Lib.itoa a.n]
  else if c = 107 then [61 :: hexL a.key] else if c = 119 then [61 :: hexL a.word] else if c = 42 then a.keep.map Lib.itoa else []
/-- An act's words. -/
def wordsA (a : Sact) : List (List UInt8) := wordOf a.kind :: (partsOf a.kind).flatMap (wordsC a)
theorem decode_tx {l : List UInt8} {i : Nat} (h : i < l.length) (hb : l[i].toNat < 128) : Utf8.decode (tx l) i = (l[i].toNat, 1) := by
  have e : (tx l).get! i = l[i] := by
    show (tx l).data[i]! = _
    simp [h]
  unfold Utf8.decode
  simp only [Nat.add_zero, e]
  rw [if_pos (by omega)]
theorem parts_low (k : Int) : ∀ c ∈ partsOf k, c.toNat < 128 := by
  intro c
  unfold partsOf
  repeat' split
  all_goals (revert c; decide)
theorem parts_len (k : Int) : (partsOf k).length ≤ 5 := by
  unfold partsOf
  repeat' split
  all_goals decide
theorem i32_eq (c : UInt8) (n : Nat) (hn : n < 256) : ((c.toNat : Int) = (n : Int)) ↔ c = UInt8.ofNat n := by
  rw [← UInt8.toNat_inj]
  simp
  omega
def wordsTo (a : Sact) (i : Nat) : List (List UInt8) := wordOf a.kind :: ((partsOf a.kind).take i).flatMap (wordsC a)
theorem wordsTo_succ (a : Sact) {i : Nat} (h : i < (partsOf a.kind).length) : wordsTo a (i + 1) = wordsTo a i ++ wordsC a (partsOf a.kind)[i] := by
  unfold wordsTo
  rw [List.take_succ_eq_append_getElem h]
  simp only [List.flatMap_append]
  simp
theorem wordsC_len (a : Sact) (c : UInt8) : (wordsC a c).length ≤ 1 + a.keep.length := by
  unfold wordsC
  repeat' split
  all_goals simp
  all_goals omega
theorem wordsTo_len (a : Sact) (i : Nat) : (wordsTo a i).length ≤ 1 + i * (1 + a.keep.length) := by
  unfold wordsTo
  have : ∀ l : List UInt8, (l.flatMap (wordsC a)).length ≤ l.length * (1 + a.keep.length) := by
    intro l
    induction l with
    | nil => simp
    | cons c l ih =>
      have := wordsC_len a c
      rw [List.flatMap_cons, List.length_append, List.length_cons, Nat.succ_mul]
      omega
  have h1 := this ((partsOf a.kind).take i)
  have h2 : ((partsOf a.kind).take i).length * (1 + a.keep.length) ≤ i * (1 + a.keep.length) := Nat.mul_le_mul_right _ (by simp; omega)
  rw [List.length_cons]
  omega

set_option maxRecDepth 8000 in
set_option maxHeartbeats 8000000 in
theorem c_words (a : Sact) (ha : InR a) : Pure Tryd.prog 21 [.agg (sactC a)] (.sl .own 1 (txs (wordsA a))) := by
  obtain ⟨h1, h2, h3, h4, h5, h6, h7, h8⟩ := ha
  have gf := c_formOf a.kind
  have g1 := c_Itoa a.rep h1.1 h1.2
  have g2 := c_Itoa a.to h2.1 h2.2
  have g3 := c_Itoa a.of h3.1 h3.2
  have g4 := c_Itoa a.n h4.1 h4.2
  have g5 := c_text a.key h5
  have g6 := c_text a.word h6
  have hlow := parts_low a.kind
  have hplen := parts_len a.kind
  obtain ⟨P, hP⟩ : ∃ P, P = partsOf a.kind := ⟨_, rfl⟩
  rw [← hP] at gf hlow hplen
  refine proc_of (cx Tryd.prog 86 [1, 2, 3, 4, 6, 8, 17, 18, 19, 21, 22, 30, 38, 46, 54, 62, 70, 73, 74, 75, 76] [2]) 85 [.tmp 2] Tryd.func21 rfl rfl rfl rfl rfl rfl (Nat.le_refl _) rfl ?_
  refine AWpM.toAWp (M := (⟨0, 0, 0, fun _ => False⟩ : MapLaw)) ?_
  refine AWpM.go [1] [1] fun K hK => ?_
  simp [sactC]
  first | refine hK _ _ ?_ | refine ⟨by omega, hK _ _ ?_⟩ | refine ⟨by omega, by omega, hK _ _ ?_⟩
  clear hK K
  refine AWpM.go [1, 3] [1, 3] fun K hK => ?_
  simp
  refine call_pure (gf) (by simp) ?_
  simp
  first | refine hK _ _ ?_ | refine ⟨by omega, hK _ _ ?_⟩ | refine ⟨by omega, by omega, hK _ _ ?_⟩
  clear hK K
  refine AWpM.step [1, 3, 4] [1, 3] [(1, .ptr 1 0), (3, .ptr 3 0), (4, .sl .own 1 (txs (wordsTo a 0)))] [(1, [.i .i64 a.kind, .i .i64 a.rep, .i .i64 a.to, .i .i64 a.of, .s (tx a.key), .s (tx a.word), .i .i64 a.n, .sl .fro 1 (intsAV a.keep)]), (3, [.s (tx (wordOf a.kind)), .s (tx P)])] ?_ ?_
  · simp [wordsTo, txs, strsAV]
  refine AWpM.seq ?_
  refine AWpM.goS [1, 4, 17] [1] fun K hK => ?_
  refine SOpsM.cut 2 rfl fun K' hK' => ?_
  simp
  refine hK' _ _ ?_
  clear hK'
  refine SOpsM.read (s := tx P) (sz := 0) Tryd.underlying9 rfl rfl rfl (by simp [asked]) (by simp) (by simp) (by simp) fun b => ?_
  refine SOpsM.nil ?_
  simp
  refine hK _ _ _ ?_
  clear hK K K'
  refine AWpM.block (AWpM.while (fun i : Nat => [(1, .ptr 1 0), (4, .sl .own 1 (txs (wordsTo a i))), (17, .it b)]) (fun i => [(1, [.i .i64 a.kind, .i .i64 a.rep, .i .i64 a.to, .i .i64 a.of, .s (tx a.key), .s (tx a.word), .i .i64 a.n, .sl .fro 1 (intsAV a.keep)])]) (fun i => some (.it b (tx P) i)) (fun i => i ≤ P.length) (fun i => P.length - i) [1, 4, 17] [1] 0 (by simp) (by simp) ?_)
  intro i hi
  skip
  refine AWpM.goS [1, 4, 17, 18, 19] [1] fun K hK => ?_
  refine SOpsM.next (s := tx P) rfl rfl rfl (by simp [asked]) (by simp) (by simp) (by simp) (fun hp => ?_) (fun hp => ?_)
  all_goals (
    refine SOpsM.cut 1 rfl fun K' hK' => ?_
    simp
    refine hK' _ _ ?_
    clear hK'
    refine SOpsM.nil ?_
    simp
    refine hK _ _ _ ?_
    clear hK K K')
  · have hlt : i < P.length := by simpa using hp
    have hd := decode_tx hlt (hlow _ (List.getElem_mem hlt))
    rw [hd]
    have hs := wordsTo_succ a (i := i) (by rw [← hP]; exact hlt)
    have hwl := wordsTo_len a i
    have hmul : i * (1 + a.keep.length) ≤ 5 * (1 + a.keep.length) := Nat.mul_le_mul_right _ (by omega)
    obtain ⟨W, hW⟩ : ∃ W, W = wordsTo a i := ⟨_, rfl⟩
    obtain ⟨c, hc⟩ : ∃ c, c = P[i] := ⟨_, rfl⟩
    have hc2 : (partsOf a.kind)[i]'(by rw [← hP]; exact hlt) = c := by rw [hc]; simp [hP]
    rw [hc2] at hs
    rw [← hW] at hs hwl ⊢
    rw [← hc]
    refine AWpM.seq ?_
    refine AWpM.cond (t := true) (by first | (simp; done) | (simp; omega)) (fun _ => ?_) (by simp)
    refine AWpM.skip ?_
    show AWpM _ _ _ _ _ _
    refine AWpM.block ?_
    refine AWpM.go [1, 4, 6, 17] [1] fun K hK => ?_
    simp
    first | refine hK _ _ ?_ | refine ⟨by omega, hK _ _ ?_⟩ | refine ⟨by omega, by omega, hK _ _ ?_⟩
    clear hK K
    refine AWpM.go [1, 4, 17, 21] [1] fun K hK => ?_
    simp
    first | refine hK _ _ ?_ | refine ⟨by omega, hK _ _ ?_⟩ | refine ⟨by omega, by omega, hK _ _ ?_⟩
    clear hK K
    refine AWpM.block ?_
    have q114 : ((c.toNat : Int) = 114) ↔ c = 114 := i32_eq c 114 (by omega)
    refine AWpM.go [1, 4, 17, 21, 22] [1] fun K hK => ?_
    simp
    first | refine hK _ _ ?_ | refine ⟨by omega, hK _ _ ?_⟩ | refine ⟨by omega, by omega, hK _ _ ?_⟩
    clear hK K
    by_cases p114 : c = 114
    · refine AWpM.cond (t := true) (by simp [q114, p114]) (fun _ => ?_) (by simp)
      have hw : wordsTo a (i + 1) = W ++ [Lib.itoa a.rep] := by rw [hs, wordsC]; simp [p114]
      refine AWpM.last [1, 4, 17] [1] [(1, .ptr 1 0), (4, .sl .own 1 (txs (wordsTo a (i + 1)))), (17, .it b)] [(1, [.i .i64 a.kind, .i .i64 a.rep, .i .i64 a.to, .i .i64 a.of, .s (tx a.key), .s (tx a.word), .i .i64 a.n, .sl .fro 1 (intsAV a.keep)])] ?_ ?_
      · simp
        refine call_pure g1 (by simp) ?_
        simp [hw, txs_snoc]
        omega
      refine ⟨i + 1, by omega, by omega, ?_⟩
      simp
    · refine AWpM.cond (t := false) (by simp [q114, p114]) (by simp) (fun _ => ?_)
      have q116 : ((c.toNat : Int) = 116) ↔ c = 116 := i32_eq c 116 (by omega)
      refine AWpM.go [1, 4, 17, 21, 30] [1] fun K hK => ?_
      simp
      first | refine hK _ _ ?_ | refine ⟨by omega, hK _ _ ?_⟩ | refine ⟨by omega, by omega, hK _ _ ?_⟩
      clear hK K
      by_cases p116 : c = 116
      · refine AWpM.cond (t := true) (by simp [q116, p116]) (fun _ => ?_) (by simp)
        have hw : wordsTo a (i + 1) = W ++ [Lib.itoa a.to] := by rw [hs, wordsC]; simp [p116]
        refine AWpM.last [1, 4, 17] [1] [(1, .ptr 1 0), (4, .sl .own 1 (txs (wordsTo a (i + 1)))), (17, .it b)] [(1, [.i .i64 a.kind, .i .i64 a.rep, .i .i64 a.to, .i .i64 a.of, .s (tx a.key), .s (tx a.word), .i .i64 a.n, .sl .fro 1 (intsAV a.keep)])] ?_ ?_
        · simp
          refine call_pure g2 (by simp) ?_
          simp [hw, txs_snoc]
          omega
        refine ⟨i + 1, by omega, by omega, ?_⟩
        simp
      · refine AWpM.cond (t := false) (by simp [q116, p116]) (by simp) (fun _ => ?_)
        have q111 : ((c.toNat : Int) = 111) ↔ c = 111 := i32_eq c 111 (by omega)
        refine AWpM.go [1, 4, 17, 21, 38] [1] fun K hK => ?_
        simp
        first | refine hK _ _ ?_ | refine ⟨by omega, hK _ _ ?_⟩ | refine ⟨by omega, by omega, hK _ _ ?_⟩
        clear hK K
        by_cases p111 : c = 111
        · refine AWpM.cond (t := true) (by simp [q111, p111]) (fun _ => ?_) (by simp)
          have hw : wordsTo a (i + 1) = W ++ [Lib.itoa a.of] := by rw [hs, wordsC]; simp [p111]
          refine AWpM.last [1, 4, 17] [1] [(1, .ptr 1 0), (4, .sl .own 1 (txs (wordsTo a (i + 1)))), (17, .it b)] [(1, [.i .i64 a.kind, .i .i64 a.rep, .i .i64 a.to, .i .i64 a.of, .s (tx a.key), .s (tx a.word), .i .i64 a.n, .sl .fro 1 (intsAV a.keep)])] ?_ ?_
          · simp
            refine call_pure g3 (by simp) ?_
            simp [hw, txs_snoc]
            omega
          refine ⟨i + 1, by omega, by omega, ?_⟩
          simp
        · refine AWpM.cond (t := false) (by simp [q111, p111]) (by simp) (fun _ => ?_)
          have q110 : ((c.toNat : Int) = 110) ↔ c = 110 := i32_eq c 110 (by omega)
          refine AWpM.go [1, 4, 17, 21, 46] [1] fun K hK => ?_
          simp
          first | refine hK _ _ ?_ | refine ⟨by omega, hK _ _ ?_⟩ | refine ⟨by omega, by omega, hK _ _ ?_⟩
          clear hK K
          by_cases p110 : c = 110
          · refine AWpM.cond (t := true) (by simp [q110, p110]) (fun _ => ?_) (by simp)
            have hw : wordsTo a (i + 1) = W ++ [Lib.itoa a.n] := by rw [hs, wordsC]; simp [p110]
            refine AWpM.last [1, 4, 17] [1] [(1, .ptr 1 0), (4, .sl .own 1 (txs (wordsTo a (i + 1)))), (17, .it b)] [(1, [.i .i64 a.kind, .i .i64 a.rep, .i .i64 a.to, .i .i64 a.of, .s (tx a.key), .s (tx a.word), .i .i64 a.n, .sl .fro 1 (intsAV a.keep)])] ?_ ?_
            · simp
              refine call_pure g4 (by simp) ?_
              simp [hw, txs_snoc]
              omega
            refine ⟨i + 1, by omega, by omega, ?_⟩
            simp
          · refine AWpM.cond (t := false) (by simp [q110, p110]) (by simp) (fun _ => ?_)
            have q107 : ((c.toNat : Int) = 107) ↔ c = 107 := i32_eq c 107 (by omega)
            refine AWpM.go [1, 4, 17, 21, 54] [1] fun K hK => ?_
            simp
            first | refine hK _ _ ?_ | refine ⟨by omega, hK _ _ ?_⟩ | refine ⟨by omega, by omega, hK _ _ ?_⟩
            clear hK K
            by_cases p107 : c = 107
            · refine AWpM.cond (t := true) (by simp [q107, p107]) (fun _ => ?_) (by simp)
              have hw : wordsTo a (i + 1) = W ++ [61 :: hexL a.key] := by rw [hs, wordsC]; simp [p107]
              refine AWpM.last [1, 4, 17] [1] [(1, .ptr 1 0), (4, .sl .own 1 (txs (wordsTo a (i + 1)))), (17, .it b)] [(1, [.i .i64 a.kind, .i .i64 a.rep, .i .i64 a.to, .i .i64 a.of, .s (tx a.key), .s (tx a.word), .i .i64 a.n, .sl .fro 1 (intsAV a.keep)])] ?_ ?_
              · simp
                refine call_pure g5 (by simp) ?_
                simp [hw, txs_snoc]
                omega
              refine ⟨i + 1, by omega, by omega, ?_⟩
              simp
            · refine AWpM.cond (t := false) (by simp [q107, p107]) (by simp) (fun _ => ?_)
              have q119 : ((c.toNat : Int) = 119) ↔ c = 119 := i32_eq c 119 (by omega)
              refine AWpM.go [1, 4, 17, 21, 62] [1] fun K hK => ?_
              simp
              first | refine hK _ _ ?_ | refine ⟨by omega, hK _ _ ?_⟩ | refine ⟨by omega, by omega, hK _ _ ?_⟩
              clear hK K
              by_cases p119 : c = 119
              · refine AWpM.cond (t := true) (by simp [q119, p119]) (fun _ => ?_) (by simp)
                have hw : wordsTo a (i + 1) = W ++ [61 :: hexL a.word] := by rw [hs, wordsC]; simp [p119]
                refine AWpM.last [1, 4, 17] [1] [(1, .ptr 1 0), (4, .sl .own 1 (txs (wordsTo a (i + 1)))), (17, .it b)] [(1, [.i .i64 a.kind, .i .i64 a.rep, .i .i64 a.to, .i .i64 a.of, .s (tx a.key), .s (tx a.word), .i .i64 a.n, .sl .fro 1 (intsAV a.keep)])] ?_ ?_
                · simp
                  refine call_pure g6 (by simp) ?_
                  simp [hw, txs_snoc]
                  omega
                refine ⟨i + 1, by omega, by omega, ?_⟩
                simp
              · refine AWpM.cond (t := false) (by simp [q119, p119]) (by simp) (fun _ => ?_)
                have q42 : ((c.toNat : Int) = 42) ↔ c = 42 := i32_eq c 42 (by omega)
                refine AWpM.go [1, 4, 17, 70] [1] fun K hK => ?_
                simp
                first | refine hK _ _ ?_ | refine ⟨by omega, hK _ _ ?_⟩ | refine ⟨by omega, by omega, hK _ _ ?_⟩
                clear hK K
                by_cases p42 : c = 42
                · refine AWpM.cond (t := true) (by simp [q42, p42]) (fun _ => ?_) (by simp)
                  refine AWpM.go [1, 4, 17, 73, 74, 75] [1] fun K hK => ?_
                  simp
                  first | refine hK _ _ ?_ | refine ⟨by omega, hK _ _ ?_⟩ | refine ⟨by omega, by omega, hK _ _ ?_⟩
                  clear hK K
                  refine AWpM.block (AWpM.while (fun j : Nat => [(1, .ptr 1 0), (4, .sl .own 1 (txs (W ++ (a.keep.map Lib.itoa).take j))), (17, .it b), (73, .sl .fro 1 (intsAV a.keep)), (74, .i .i64 a.keep.length), (75, .i .i64 j)]) (fun j => [(1, [.i .i64 a.kind, .i .i64 a.rep, .i .i64 a.to, .i .i64 a.of, .s (tx a.key), .s (tx a.word), .i .i64 a.n, .sl .fro 1 (intsAV a.keep)])]) (fun j => some (.it b (tx P) (i + 1))) (fun j => j ≤ a.keep.length) (fun j => a.keep.length - j) [1, 4, 17, 73, 74, 75] [1] 0 (by simp) (by simp) ?_)
                  intro j hj
                  refine AWpM.go [1, 4, 17, 73, 74, 75, 76] [1] fun K hK => ?_
                  simp
                  first | refine hK _ _ ?_ | refine ⟨by omega, hK _ _ ?_⟩ | refine ⟨by omega, by omega, hK _ _ ?_⟩
                  clear hK K
                  refine AWpM.seq ?_
                  by_cases hjl : j < a.keep.length
                  · refine AWpM.cond (t := true) (by first | (simp [hjl]; done) | (simp [hjl]; omega)) (fun _ => ?_) (by simp)
                    refine AWpM.skip ?_
                    show AWpM _ _ _ _ _ _
                    refine AWpM.seq ?_
                    refine AWpM.block ?_
                    refine AWpM.go [1, 4, 8, 17, 73, 74, 75] [1] fun K hK => ?_
                    simp [hjl]
                    first | refine hK _ _ ?_ | refine ⟨by omega, hK _ _ ?_⟩ | refine ⟨by omega, by omega, hK _ _ ?_⟩
                    clear hK K
                    have hr := h8 _ (List.getElem_mem hjl)
                    have g7 := c_Itoa a.keep[j] hr.1 hr.2
                    have hw : W ++ (a.keep.map Lib.itoa).take (j + 1) = (W ++ (a.keep.map Lib.itoa).take j) ++ [Lib.itoa a.keep[j]] := by
                      rw [List.take_succ_eq_append_getElem (by simpa using hjl)]
                      simp
                    refine AWpM.last [1, 4, 17, 73, 74, 75] [1] [(1, .ptr 1 0), (4, .sl .own 1 (txs (W ++ (a.keep.map Lib.itoa).take (j + 1)))), (17, .it b), (73, .sl .fro 1 (intsAV a.keep)), (74, .i .i64 a.keep.length), (75, .i .i64 j)] [(1, [.i .i64 a.kind, .i .i64 a.rep, .i .i64 a.to, .i .i64 a.of, .s (tx a.key), .s (tx a.word), .i .i64 a.n, .sl .fro 1 (intsAV a.keep)])] ?_ ?_
                    · rw [hw, txs_snoc]
                      simp
                      refine call_pure g7 (by simp) ?_
                      simp
                      omega
                    show AWpM _ _ _ _ _ _
                    refine AWpM.goLast [1, 4, 17, 73, 74, 75] [1] fun K hK => ?_
                    simp
                    first | refine hK _ _ ?_ | refine ⟨by omega, hK _ _ ?_⟩ | refine ⟨by omega, by omega, hK _ _ ?_⟩
                    clear hK K
                    refine ⟨j + 1, by omega, by omega, ?_⟩
                    simp
                    exact wrap64 (by omega) (by omega)
                  · refine AWpM.cond (t := false) (by first | (simp [hjl]; done) | (simp [hjl]; omega)) (by simp) (fun _ => ?_)
                    refine AWpM.exit ?_
                    have hw : wordsTo a (i + 1) = W ++ a.keep.map Lib.itoa := by rw [hs, wordsC]; simp [p42]
                    obtain rfl : j = a.keep.length := by omega
                    rw [List.take_of_length_le (by simp), ← hw]
                    refine ⟨i + 1, by omega, by omega, ?_⟩
                    simp
                · refine AWpM.cond (t := false) (by simp [q42, p42]) (by simp) (fun _ => ?_)
                  refine AWpM.skip ?_
                  have hw : wordsTo a (i + 1) = W := by rw [hs, wordsC]; simp [p114, p116, p111, p110, p107, p119, p42]
                  rw [← hw]
                  refine ⟨i + 1, by omega, by omega, ?_⟩
                  simp
  · refine AWpM.seq ?_
    refine AWpM.cond (t := false) (by first | (simp; done) | (simp; omega)) (by simp) (fun _ => ?_)
    refine AWpM.exit ?_
    show AWpM _ _ _ _ _ _
    refine AWpM.go [2] [1] fun K hK => ?_
    simp
    first | refine hK _ _ ?_ | refine ⟨by omega, hK _ _ ?_⟩ | refine ⟨by omega, by omega, hK _ _ ?_⟩
    clear hK K
    refine AWpM.ret ?_
    have hil : i = P.length := by
      have : ¬ i < P.length := by simpa using hp
      omega
    have : wordsTo a i = wordsA a := by
      unfold wordsTo wordsA
      rw [hil, hP, List.take_length]
    rw [this]
    simp
end Go.AM
namespace Go.AM
open Go.Proofs
/-- An act filled with a word. -/
def fillA (a : Sact) (c : UInt8) (s : List UInt8) : Sact × Bool :=
  if c = 114 then (⟨a.kind, (numS s).1, a.to, a.of, a.key, a.word, a.n, a.keep⟩, (numS s).2)
  else if c = 116 then (⟨a.kind, a.rep, (numS s).1, a.of, a.key, a.word, a.n, a.keep⟩, (numS s).2)
  else if c = 111 then (⟨a.kind, a.rep, a.to, (numS s).1, a.key, a.word, a.n, a.keep⟩, (numS s).2)
  else if c = 110 then (⟨a.kind, a.rep, a.to, a.of, a.key, a.word, (numS s).1, a.keep⟩, (numS s).2)
  else if c = 107 then (⟨a.kind, a.rep, a.to, a.of, (rawS s).1, a.word, a.n, a.keep⟩, (rawS s).2)
  else if c = 119 then (⟨a.kind, a.rep, a.to, a.of, a.key, (rawS s).1, a.n, a.keep⟩, (rawS s).2)
  else if c = 42 then (⟨a.kind, a.rep, a.to, a.of, a.key, a.word, a.n, a.keep ++ [(numS s).1]⟩, (numS s).2)
  else (a, (numS s).2)
set_option maxRecDepth 8000 in
set_option maxHeartbeats 8000000 in
theorem c_fill (a : Sact) (c : UInt8) (s : List UInt8) (hs : s.length ≤ 1000000) (hk : a.keep.length ≤ 1000000) : Proc Tryd.prog 1 36 [.ptr 0 0, .i .i32 (c.toNat : Int), .s (tx s)] [(0, [.i .i64 a.kind, .i .i64 a.rep, .i .i64 a.to, .i .i64 a.of, .s (tx a.key), .s (tx a.word), .i .i64 a.n, .sl .own 1 (intsAV a.keep)])] (.b (fillA a c s).2) [(0, sactO (fillA a c s).1)] := by
  have g1 := c_number s (by omega)
  have g2 := c_raw s hs
  refine proc_of (cxb Tryd.prog 73 1 [0, 1, 2, 6, 7, 8, 9, 10, 21, 22, 28, 34, 40, 46, 53, 60] [] [6]) 70 [.tmp 6] Tryd.func36 rfl rfl rfl rfl rfl rfl (Nat.le_refl _) rfl ?_
  refine AWp.go [0, 1, 2] [0] fun K hK => ?_
  simp
  first | refine hK _ _ ?_ | refine ⟨by omega, hK _ _ ?_⟩ | refine ⟨by omega, by omega, hK _ _ ?_⟩
  clear hK K
  refine AWp.go [0, 1, 2, 7, 8] [0] fun K hK => ?_
  simp
  refine call_pure (g1) (by simp) ?_
  simp
  first | refine hK _ _ ?_ | refine ⟨by omega, hK _ _ ?_⟩ | refine ⟨by omega, by omega, hK _ _ ?_⟩
  clear hK K
  refine AWp.go [0, 1, 7, 8, 9, 10] [0] fun K hK => ?_
  simp
  refine call_pure (g2) (by simp) ?_
  simp
  first | refine hK _ _ ?_ | refine ⟨by omega, hK _ _ ?_⟩ | refine ⟨by omega, by omega, hK _ _ ?_⟩
  clear hK K
  refine AWp.seq ?_
  refine AWp.go [0, 7, 8, 9, 10, 21] [0] fun K hK => ?_
  simp
  first | refine hK _ _ ?_ | refine ⟨by omega, hK _ _ ?_⟩ | refine ⟨by omega, by omega, hK _ _ ?_⟩
  clear hK K
  refine AWp.block ?_
  have q114 : ((c.toNat : Int) = 114) ↔ c = 114 := i32_eq c 114 (by omega)
  refine AWp.go [0, 7, 8, 9, 10, 21, 22] [0] fun K hK => ?_
  simp
  first | refine hK _ _ ?_ | refine ⟨by omega, hK _ _ ?_⟩ | refine ⟨by omega, by omega, hK _ _ ?_⟩
  clear hK K
  by_cases p114 : c = 114
  · refine AWp.cond (t := true) (by simp [q114, p114]) (fun _ => ?_) (by simp)
    refine AWp.goLast [8] [0] fun K hK => ?_
    simp
    first | refine hK _ _ ?_ | refine ⟨by omega, hK _ _ ?_⟩ | refine ⟨by omega, by omega, hK _ _ ?_⟩
    clear hK K
    show AWp _ _ _ _
    refine AWp.go [6] [0] fun K hK => ?_
    simp
    first | refine hK _ _ ?_ | refine ⟨by omega, hK _ _ ?_⟩ | refine ⟨by omega, by omega, hK _ _ ?_⟩
    clear hK K
    refine AWp.ret ?_
    simp [fillA, sactO, *]
  · refine AWp.cond (t := false) (by simp [q114, p114]) (by simp) (fun _ => ?_)
    have q116 : ((c.toNat : Int) = 116) ↔ c = 116 := i32_eq c 116 (by omega)
    refine AWp.go [0, 7, 8, 9, 10, 21, 28] [0] fun K hK => ?_
    simp
    first | refine hK _ _ ?_ | refine ⟨by omega, hK _ _ ?_⟩ | refine ⟨by omega, by omega, hK _ _ ?_⟩
    clear hK K
    by_cases p116 : c = 116
    · refine AWp.cond (t := true) (by simp [q116, p116]) (fun _ => ?_) (by simp)
      refine AWp.goLast [8] [0] fun K hK => ?_
      simp
      first | refine hK _ _ ?_ | refine ⟨by omega, hK _ _ ?_⟩ | refine ⟨by omega, by omega, hK _ _ ?_⟩
      clear hK K
      show AWp _ _ _ _
      refine AWp.go [6] [0] fun K hK => ?_
      simp
      first | refine hK _ _ ?_ | refine ⟨by omega, hK _ _ ?_⟩ | refine ⟨by omega, by omega, hK _ _ ?_⟩
      clear hK K
      refine AWp.ret ?_
      simp [fillA, sactO, *]
    · refine AWp.cond (t := false) (by simp [q116, p116]) (by simp) (fun _ => ?_)
      have q111 : ((c.toNat : Int) = 111) ↔ c = 111 := i32_eq c 111 (by omega)
      refine AWp.go [0, 7, 8, 9, 10, 21, 34] [0] fun K hK => ?_
      simp
      first | refine hK _ _ ?_ | refine ⟨by omega, hK _ _ ?_⟩ | refine ⟨by omega, by omega, hK _ _ ?_⟩
      clear hK K
      by_cases p111 : c = 111
      · refine AWp.cond (t := true) (by simp [q111, p111]) (fun _ => ?_) (by simp)
        refine AWp.goLast [8] [0] fun K hK => ?_
        simp
        first | refine hK _ _ ?_ | refine ⟨by omega, hK _ _ ?_⟩ | refine ⟨by omega, by omega, hK _ _ ?_⟩
        clear hK K
        show AWp _ _ _ _
        refine AWp.go [6] [0] fun K hK => ?_
        simp
        first | refine hK _ _ ?_ | refine ⟨by omega, hK _ _ ?_⟩ | refine ⟨by omega, by omega, hK _ _ ?_⟩
        clear hK K
        refine AWp.ret ?_
        simp [fillA, sactO, *]
      · refine AWp.cond (t := false) (by simp [q111, p111]) (by simp) (fun _ => ?_)
        have q110 : ((c.toNat : Int) = 110) ↔ c = 110 := i32_eq c 110 (by omega)
        refine AWp.go [0, 7, 8, 9, 10, 21, 40] [0] fun K hK => ?_
        simp
        first | refine hK _ _ ?_ | refine ⟨by omega, hK _ _ ?_⟩ | refine ⟨by omega, by omega, hK _ _ ?_⟩
        clear hK K
        by_cases p110 : c = 110
        · refine AWp.cond (t := true) (by simp [q110, p110]) (fun _ => ?_) (by simp)
          refine AWp.goLast [8] [0] fun K hK => ?_
          simp
          first | refine hK _ _ ?_ | refine ⟨by omega, hK _ _ ?_⟩ | refine ⟨by omega, by omega, hK _ _ ?_⟩
          clear hK K
          show AWp _ _ _ _
          refine AWp.go [6] [0] fun K hK => ?_
          simp
          first | refine hK _ _ ?_ | refine ⟨by omega, hK _ _ ?_⟩ | refine ⟨by omega, by omega, hK _ _ ?_⟩
          clear hK K
          refine AWp.ret ?_
          simp [fillA, sactO, *]
        · refine AWp.cond (t := false) (by simp [q110, p110]) (by simp) (fun _ => ?_)
          have q107 : ((c.toNat : Int) = 107) ↔ c = 107 := i32_eq c 107 (by omega)
          refine AWp.go [0, 7, 8, 9, 10, 21, 46] [0] fun K hK => ?_
          simp
          first | refine hK _ _ ?_ | refine ⟨by omega, hK _ _ ?_⟩ | refine ⟨by omega, by omega, hK _ _ ?_⟩
          clear hK K
          by_cases p107 : c = 107
          · refine AWp.cond (t := true) (by simp [q107, p107]) (fun _ => ?_) (by simp)
            refine AWp.go [10] [0] fun K hK => ?_
            simp
            first | refine hK _ _ ?_ | refine ⟨by omega, hK _ _ ?_⟩ | refine ⟨by omega, by omega, hK _ _ ?_⟩
            clear hK K
            refine AWp.go [6] [0] fun K hK => ?_
            simp
            first | refine hK _ _ ?_ | refine ⟨by omega, hK _ _ ?_⟩ | refine ⟨by omega, by omega, hK _ _ ?_⟩
            clear hK K
            refine AWp.ret ?_
            simp [fillA, sactO, p107]
          · refine AWp.cond (t := false) (by simp [q107, p107]) (by simp) (fun _ => ?_)
            have q119 : ((c.toNat : Int) = 119) ↔ c = 119 := i32_eq c 119 (by omega)
            refine AWp.go [0, 7, 8, 9, 10, 21, 53] [0] fun K hK => ?_
            simp
            first | refine hK _ _ ?_ | refine ⟨by omega, hK _ _ ?_⟩ | refine ⟨by omega, by omega, hK _ _ ?_⟩
            clear hK K
            by_cases p119 : c = 119
            · refine AWp.cond (t := true) (by simp [q119, p119]) (fun _ => ?_) (by simp)
              refine AWp.go [10] [0] fun K hK => ?_
              simp
              first | refine hK _ _ ?_ | refine ⟨by omega, hK _ _ ?_⟩ | refine ⟨by omega, by omega, hK _ _ ?_⟩
              clear hK K
              refine AWp.go [6] [0] fun K hK => ?_
              simp
              first | refine hK _ _ ?_ | refine ⟨by omega, hK _ _ ?_⟩ | refine ⟨by omega, by omega, hK _ _ ?_⟩
              clear hK K
              refine AWp.ret ?_
              simp [fillA, sactO, p119]
            · refine AWp.cond (t := false) (by simp [q119, p119]) (by simp) (fun _ => ?_)
              have q42 : ((c.toNat : Int) = 42) ↔ c = 42 := i32_eq c 42 (by omega)
              refine AWp.go [0, 7, 8, 60] [0] fun K hK => ?_
              simp
              first | refine hK _ _ ?_ | refine ⟨by omega, hK _ _ ?_⟩ | refine ⟨by omega, by omega, hK _ _ ?_⟩
              clear hK K
              by_cases p42 : c = 42
              · refine AWp.cond (t := true) (by simp [q42, p42]) (fun _ => ?_) (by simp)
                refine AWp.last [8] [0] [(8, .b (numS s).2)] [(0, [.i .i64 a.kind, .i .i64 a.rep, .i .i64 a.to, .i .i64 a.of, .s (tx a.key), .s (tx a.word), .i .i64 a.n, .sl .own 1 (intsAV (a.keep ++ [(numS s).1]))])] ?_ ?_
                · simp [intsAV_snoc]
                  omega
                show AWp _ _ _ _
                refine AWp.go [6] [0] fun K hK => ?_
                simp
                first | refine hK _ _ ?_ | refine ⟨by omega, hK _ _ ?_⟩ | refine ⟨by omega, by omega, hK _ _ ?_⟩
                clear hK K
                refine AWp.ret ?_
                simp [fillA, sactO, *]
              · refine AWp.cond (t := false) (by simp [q42, p42]) (by simp) (fun _ => ?_)
                refine AWp.skip ?_
                show AWp _ _ _ _
                refine AWp.go [6] [0] fun K hK => ?_
                simp
                first | refine hK _ _ ?_ | refine ⟨by omega, hK _ _ ?_⟩ | refine ⟨by omega, by omega, hK _ _ ?_⟩
                clear hK K
                refine AWp.ret ?_
                simp [fillA, sactO, *]
end Go.AM
namespace Go.AM
open Go.Proofs
/-- Words fill an act, one behind the other. -/
def goA (p : List UInt8) : Nat → List (List UInt8) → Sact → Sact × Bool
  | _, [], a => (a, true)
  | i, s :: r, a => if s = [] then (a, false) else if (fillA a (p.getD i 42) s).2 then goA p (i + 1) r (fillA a (p.getD i 42) s).1 else ((fillA a (p.getD i 42) s).1, false)
def oddB (p q : List UInt8) (n : Nat) : Bool := decide (n < p.length) || (decide (p.length < n) && (decide (p = q) || decide (p.length + 4 < n)))
/-- The act of a kind that words are. -/
def actK (l : List (List UInt8)) (k : Int) : Sact × Bool :=
  if oddB (Lib.trimSuffix (partsOf k) [42]) (partsOf k) (l.length - 1) then (zeroA k, false) else goA (Lib.trimSuffix (partsOf k) [42]) 0 (l.drop 1) (zeroA k)
def isK (l : List (List UInt8)) (k : Nat) : Bool := decide (wordOf ((k : Int) + 1) = wd l 0)
/-- The act that words are. -/
def actS (l : List (List UInt8)) : Sact × Bool := match (List.range 12).find? (isK l) with
  | some k => actK l ((k : Int) + 1)
  | none => (zeroA 0, false)
theorem actS_at {l : List (List UInt8)} {i : Nat} (hi : i < 12) (h0 : ∀ k, k < i → isK l k = false) (h1 : isK l i = true) : actS l = actK l ((i : Int) + 1) := by
  have : (List.range 12).find? (isK l) = some i := by
    rw [List.find?_range_eq_some]
    exact ⟨h1, by simpa using hi, fun j hj => by simpa using h0 j hj⟩
  simp [actS, this]
theorem actS_none {l : List (List UInt8)} (h0 : ∀ k, k < 12 → isK l k = false) : actS l = (zeroA 0, false) := by
  have : (List.range 12).find? (isK l) = none := by
    rw [List.find?_eq_none]
    intro x hx
    simpa using h0 x (List.mem_range.1 hx)
  simp [actS, this]
theorem trim_len (p c : List UInt8) : (Lib.trimSuffix p c).length ≤ p.length := by
  unfold Lib.trimSuffix
  split
  · simp
  · simp
theorem fillA_keep (a : Sact) (c : UInt8) (s : List UInt8) : (fillA a c s).1.keep.length ≤ a.keep.length + 1 := by
  unfold fillA
  repeat' split
  all_goals simp
theorem i32_wrap {n : Nat} (h : n < 256) : IntKind.i32.wrap (n : Int) = n := by
  unfold IntKind.wrap
  simp [IntKind.bits, IntKind.signed]
  omega
set_option maxRecDepth 8000 in
set_option maxHeartbeats 8000000 in
theorem c_act0 (l : List (List UInt8)) (hl : Brief l) (hne : l ≠ []) : Pure Tryd.prog 16 [.sl .fro 1 (txs l)] (.tup [.agg (sactO (actS l).1), .b (actS l).2]) := by
  have hpos : 0 < l.length := List.length_pos_iff.2 hne
  have hlen := hl.1
  refine proc_of (cx Tryd.prog 81 [0, 2, 3, 4, 5, 6, 7, 8, 9, 10, 11, 12, 14, 24, 52, 54, 55, 56, 57, 64, 76] [2, 3]) 80 [.cell 2 36, .tmp 3] Tryd.func16 rfl rfl rfl rfl rfl rfl (Nat.le_refl _) rfl ?_
  refine AWp.go [0, 2] [2] fun K hK => ?_
  simp
  first | refine hK _ _ ?_ | refine ⟨by omega, hK _ _ ?_⟩ | refine ⟨by omega, by omega, hK _ _ ?_⟩
  clear hK K
  refine AWp.seq ?_
  refine AWp.go [0, 2, 4] [2] fun K hK => ?_
  simp
  first | refine hK _ _ ?_ | refine ⟨by omega, hK _ _ ?_⟩ | refine ⟨by omega, by omega, hK _ _ ?_⟩
  clear hK K
  refine AWp.block (AWp.while (fun i : Nat => [(0, .sl .fro 1 (txs l)), (2, .ptr 2 0), (4, .i .i64 ((i : Int) + 1))]) (fun i => [(2, [.i .i64 0, .i .i64 0, .i .i64 0, .i .i64 0, .s (tx []), .s (tx []), .i .i64 0, .sl .nl 1 []])]) (fun i => i ≤ 12 ∧ ∀ k, k < i → isK l k = false) (fun i => 12 - i) [0, 2, 4] [2] 0 (by simp) (by simp) ?_)
  rintro i ⟨hi, hall⟩
  refine AWp.seq ?_
  refine AWp.go [0, 2, 4, 14] [2] fun K hK => ?_
  simp
  first | refine hK _ _ ?_ | refine ⟨by omega, hK _ _ ?_⟩ | refine ⟨by omega, by omega, hK _ _ ?_⟩
  clear hK K
  by_cases h : i < 12
  · refine AWp.cond (t := true) (by first | (simp [h]; done) | (simp [h]; omega)) (fun _ => ?_) (by simp)
    refine AWp.skip ?_
    show AWp _ _ _ _
    refine AWp.seq ?_
    refine AWp.block ?_
    obtain ⟨k, hk⟩ : ∃ k, k = (i : Int) + 1 := ⟨_, rfl⟩
    have hik : isK l i = decide (wordOf k = wd l 0) := by rw [hk]; rfl
    have gf := c_formOf k
    rw [← hk]
    have e0 : wd l 0 = l[0] := by simp [wd, hpos]
    refine AWp.go [0, 2, 4, 5] [2, 5] fun K hK => ?_
    simp
    refine call_pure (gf) (by simp) ?_
    simp
    first | refine hK _ _ ?_ | refine ⟨by omega, hK _ _ ?_⟩ | refine ⟨by omega, by omega, hK _ _ ?_⟩
    clear hK K
    refine AWp.seq ?_
    refine AWp.stepD 6 (fun _ => .any) [0, 2, 4, 5, 24] [2, 5] [(0, .sl .fro 1 (txs l)), (2, .ptr 2 0), (4, .i .i64 k), (5, .ptr 5 0), (24, .b (!isK l i))] [(2, [.i .i64 0, .i .i64 0, .i .i64 0, .i .i64 0, .s (tx []), .s (tx []), .i .i64 0, .sl .nl 1 []]), (5, [.s (tx (wordOf k)), .s (tx (partsOf k))])] mix (by kernel_rfl) ?_ ?_
    · rw [hik, e0]
      simp [hpos]
      rw [Bool.eq_iff_iff]
      simp
    cases hq : isK l i
    · refine AWp.cond (t := true) (by simp) (fun _ => ?_) (by simp)
      refine AWp.exit ?_
      show AWp _ _ _ _
      refine AWp.goLast [0, 2, 4] [2] fun K hK => ?_
      simp
      first | refine hK _ _ ?_ | refine ⟨by omega, hK _ _ ?_⟩ | refine ⟨by omega, by omega, hK _ _ ?_⟩
      clear hK K
      refine ⟨i + 1, ⟨by omega, fun j hj => ?_⟩, by omega, ?_⟩
      · by_cases hji : j = i
        · subst hji; exact hq
        · exact hall j (by omega)
      · rw [hk]
        simp
        rw [wrap64 (by omega) (by omega)]
    · refine AWp.cond (t := false) (by simp) (by simp) (fun _ => ?_)
      refine AWp.skip ?_
      show AWp _ _ _ _
      have hA : actS l = actK l k := by rw [hk]; exact actS_at h hall hq
      rw [hA]
      have hpl := parts_len k
      have gt := c_TrimSuffix (partsOf k) [42] (by omega)
      have htl := trim_len (partsOf k) [42]
      obtain ⟨p, hp⟩ : ∃ p, p = Lib.trimSuffix (partsOf k) [42] := ⟨_, rfl⟩
      have hK : actK l k = if oddB p (partsOf k) (l.length - 1) then (zeroA k, false) else goA p 0 (l.drop 1) (zeroA k) := by rw [hp]; rfl
      rw [← hp] at gt htl
      obtain ⟨R, hR⟩ : ∃ R, R = l.drop 1 := ⟨_, rfl⟩
      have hRl : R.length = l.length - 1 := by rw [hR]; simp
      have hRw : ∀ x ∈ R, x.length ≤ 1000000 := fun x hx => hl.2 x (by rw [hR] at hx; exact List.mem_of_mem_drop hx)
      refine AWp.go [0, 2, 5, 6] [2, 5, 6] fun K hK => ?_
      simp
      first | refine hK _ _ ?_ | refine ⟨by omega, hK _ _ ?_⟩ | refine ⟨by omega, by omega, hK _ _ ?_⟩
      clear hK K
      refine AWp.step [2, 5, 6, 7] [2, 5, 6] [(2, .ptr 2 0), (5, .ptr 5 0), (6, .ptr 6 0), (7, .sl .fro 1 (txs R))] [(2, [.i .i64 0, .i .i64 0, .i .i64 0, .i .i64 0, .s (tx []), .s (tx []), .i .i64 0, .sl .nl 1 []]), (5, [.s (tx (wordOf k)), .s (tx (partsOf k))]), (6, [.i .i64 k, .i .i64 0, .i .i64 0, .i .i64 0, .s (tx []), .s (tx []), .i .i64 0, .sl .nl 1 []])] ?_ ?_
      · have h9 : (txs l).take l.length = txs l := List.take_of_length_le (by simp)
        have h10 : (txs l).drop 1 = txs R := by rw [hR]; simp [txs, strsAV]
        simp [h9, h10]
        omega
      refine AWp.go [2, 5, 6, 7, 8] [2, 5, 6] fun K hK => ?_
      simp
      refine call_pure (gt) (by simp) ?_
      simp
      first | refine hK _ _ ?_ | refine ⟨by omega, hK _ _ ?_⟩ | refine ⟨by omega, by omega, hK _ _ ?_⟩
      clear hK K
      refine AWp.step [2, 5, 6, 7, 8, 9] [2, 5, 6] [(2, .ptr 2 0), (5, .ptr 5 0), (6, .ptr 6 0), (7, .sl .fro 1 (txs R)), (8, .s (tx p)), (9, .i .i64 ((R.length : Int) - p.length))] [(2, [.i .i64 0, .i .i64 0, .i .i64 0, .i .i64 0, .s (tx []), .s (tx []), .i .i64 0, .sl .nl 1 []]), (5, [.s (tx (wordOf k)), .s (tx (partsOf k))]), (6, [.i .i64 k, .i .i64 0, .i .i64 0, .i .i64 0, .s (tx []), .s (tx []), .i .i64 0, .sl .nl 1 []])] ?_ ?_
      · simp
        exact wrap64 (by omega) (by omega)
      refine AWp.seq ?_
      refine AWp.step [2, 6, 7, 8, 52] [2, 6] [(2, .ptr 2 0), (6, .ptr 6 0), (7, .sl .fro 1 (txs R)), (8, .s (tx p)), (52, .b (oddB p (partsOf k) R.length))] [(2, [.i .i64 0, .i .i64 0, .i .i64 0, .i .i64 0, .s (tx []), .s (tx []), .i .i64 0, .sl .nl 1 []]), (6, [.i .i64 k, .i .i64 0, .i .i64 0, .i .i64 0, .s (tx []), .s (tx []), .i .i64 0, .sl .nl 1 []])] ?_ ?_
      · unfold oddB
        by_cases h1 : R.length < p.length
        · have h2 : (R.length : Int) - p.length < 0 := by omega
          simp [h1, h2]
        · have h2 : ¬ (R.length : Int) - p.length < 0 := by omega
          by_cases h3 : p.length < R.length
          · have h4 : (0 : Int) < (R.length : Int) - p.length := by omega
            by_cases h5 : p = partsOf k
            · have h6 : (p == partsOf k) = true := by simpa using h5
              have h7 : (p = partsOf k) = True := eq_true h5
              simp [h1, h2, h3, h4, h6, h7]
            · have h6 : (p == partsOf k) = false := by simpa using h5
              simp [h1, h2, h3, h4, h5, h6]
              omega
          · have h4 : ¬ (0 : Int) < (R.length : Int) - p.length := by omega
            simp [h1, h2, h3, h4]
      cases ho : oddB p (partsOf k) R.length
      · refine AWp.cond (t := false) (by simp) (by simp) (fun _ => ?_)
        refine AWp.skip ?_
        show AWp _ _ _ _
        refine AWp.seq ?_
        have hG : actK l k = goA p 0 R (zeroA k) := by rw [hK, ← hRl, if_neg (by rw [ho]; simp), hR]
        rw [hG]
        refine AWp.go [2, 6, 8, 54, 55, 56] [2, 6] fun K hK => ?_
        simp
        first | refine hK _ _ ?_ | refine ⟨by omega, hK _ _ ?_⟩ | refine ⟨by omega, by omega, hK _ _ ?_⟩
        clear hK K
        refine AWp.block (AWp.while (fun q : Nat × Sact => [(2, .ptr 2 0), (6, .ptr 6 0), (8, .s (tx p)), (54, .sl .fro 1 (txs R)), (55, .i .i64 R.length), (56, .i .i64 q.1)]) (fun q => [(2, [.i .i64 0, .i .i64 0, .i .i64 0, .i .i64 0, .s (tx []), .s (tx []), .i .i64 0, .sl .nl 1 []]), (6, [.i .i64 q.2.kind, .i .i64 q.2.rep, .i .i64 q.2.to, .i .i64 q.2.of, .s (tx q.2.key), .s (tx q.2.word), .i .i64 q.2.n, .sl .own 1 (intsAV q.2.keep)])]) (fun q => q.1 ≤ R.length ∧ q.2.keep.length ≤ q.1 ∧ goA p q.1 (R.drop q.1) q.2 = goA p 0 R (zeroA k)) (fun q => R.length - q.1) [2, 6, 8, 54, 55, 56] [2, 6] (0, zeroA k) (by simp [zeroA]) (by simp [zeroA, intsAV]) ?_)
        rintro ⟨j, a⟩ ⟨hj, hak, hinv⟩
        dsimp only at hj hak hinv
        refine AWp.go [2, 6, 8, 54, 55, 56, 57] [2, 6] fun K hK => ?_
        simp
        first | refine hK _ _ ?_ | refine ⟨by omega, hK _ _ ?_⟩ | refine ⟨by omega, by omega, hK _ _ ?_⟩
        clear hK K
        refine AWp.seq ?_
        by_cases h2 : j < R.length
        · refine AWp.cond (t := true) (by first | (simp [h2]; done) | (simp [h2]; omega)) (fun _ => ?_) (by simp)
          refine AWp.skip ?_
          show AWp _ _ _ _
          refine AWp.seq ?_
          refine AWp.block ?_
          have hjw := hRw _ (List.getElem_mem h2)
          have hdr : R.drop j = R[j] :: R.drop (j + 1) := List.drop_eq_getElem_cons h2
          rw [hdr, goA] at hinv
          obtain ⟨c, hcd⟩ : ∃ c, c = p.getD j 42 := ⟨_, rfl⟩
          have hcl := UInt8.toNat_lt c
          rw [← hcd] at hinv
          refine AWp.go [2, 6, 8, 10, 11, 54, 55, 56] [2, 6] fun K hK => ?_
          simp [h2]
          first | refine hK _ _ ?_ | refine ⟨by omega, hK _ _ ?_⟩ | refine ⟨by omega, by omega, hK _ _ ?_⟩
          clear hK K
          refine AWp.go [2, 6, 8, 10, 11, 12, 54, 55, 56] [2, 6] fun K hK => ?_
          simp
          first | refine hK _ _ ?_ | refine ⟨by omega, hK _ _ ?_⟩ | refine ⟨by omega, by omega, hK _ _ ?_⟩
          clear hK K
          refine AWp.mid [2, 6, 8, 11, 12, 54, 55, 56] [2, 6] [(2, .ptr 2 0), (6, .ptr 6 0), (8, .s (tx p)), (11, .s (tx R[j])), (12, .i .i32 (c.toNat : Int)), (54, .sl .fro 1 (txs R)), (55, .i .i64 R.length), (56, .i .i64 j)] [(2, [.i .i64 0, .i .i64 0, .i .i64 0, .i .i64 0, .s (tx []), .s (tx []), .i .i64 0, .sl .nl 1 []]), (6, [.i .i64 a.kind, .i .i64 a.rep, .i .i64 a.to, .i .i64 a.of, .s (tx a.key), .s (tx a.word), .i .i64 a.n, .sl .own 1 (intsAV a.keep)])] ?_ ?_
          · refine AWp.go [2, 6, 8, 10, 11, 12, 54, 55, 56, 64] [2, 6] fun K hK => ?_
            simp
            first | refine hK _ _ ?_ | refine ⟨by omega, hK _ _ ?_⟩ | refine ⟨by omega, by omega, hK _ _ ?_⟩
            clear hK K
            by_cases hc : j < p.length
            · refine AWp.cond (t := true) (by first | (simp [hc]; done) | (simp [hc]; omega)) (fun _ => ?_) (by simp)
              have e1 : c = p[j] := by rw [hcd]; simp [hc]
              refine AWp.last [2, 6, 8, 11, 12, 54, 55, 56] [2, 6] [(2, .ptr 2 0), (6, .ptr 6 0), (8, .s (tx p)), (11, .s (tx R[j])), (12, .i .i32 (c.toNat : Int)), (54, .sl .fro 1 (txs R)), (55, .i .i64 R.length), (56, .i .i64 j)] [(2, [.i .i64 0, .i .i64 0, .i .i64 0, .i .i64 0, .s (tx []), .s (tx []), .i .i64 0, .sl .nl 1 []]), (6, [.i .i64 a.kind, .i .i64 a.rep, .i .i64 a.to, .i .i64 a.of, .s (tx a.key), .s (tx a.word), .i .i64 a.n, .sl .own 1 (intsAV a.keep)])] ?_ ?_
              · simp [hc, e1]
                exact i32_wrap (UInt8.toNat_lt _)
              simp <;> (try (rw [hcd]; simp [hc]))
            · refine AWp.cond (t := false) (by first | (simp [hc]; done) | (simp [hc]; omega)) (by simp) (fun _ => ?_)
              refine AWp.skip ?_
              simp <;> (try (rw [hcd]; simp [hc]))
          skip
          by_cases hs : R[j] = []
          rw [if_pos hs] at hinv
          refine AWp.go [0, 2, 4, 6, 8, 54, 55, 56, 76] [2, 6] fun K hK => ?_
          simp [hs]
          refine hK _ _ ?_
          clear hK K
          rotate_left
          rw [if_neg hs] at hinv
          obtain ⟨a2, ok, hao⟩ : ∃ a2 ok, fillA a c R[j] = (a2, ok) := ⟨_, _, rfl⟩
          have g := c_fill a c R[j] hjw (by omega)
          have hk2 := fillA_keep a c R[j]
          rw [hao] at g hk2 hinv
          simp only [sactO] at g
          have hs2 : (R[j] == ([] : List UInt8)) = false := by simpa using hs
          refine AWp.go [0, 2, 4, 6, 8, 54, 55, 56, 76] [2, 6] fun K hK => ?_
          simp [hs, hs2]
          refine call_proc [(0, 6)] none g (by simp) (by simp) ?_
          simp
          refine hK _ _ ?_
          clear hK K
          rotate_left
          · refine AWp.cond (t := true) (by first | (simp; done) | (simp; omega)) (fun _ => ?_) (by simp)
            try rw [hok] at hinv
            try simp only [Bool.false_eq_true, if_false] at hinv
            rw [← hinv]
            refine AWp.go [2, 3] [2] fun K hK => ?_
            simp
            first | refine hK _ _ ?_ | refine ⟨by omega, hK _ _ ?_⟩ | refine ⟨by omega, by omega, hK _ _ ?_⟩
            clear hK K
            refine AWp.ret ?_
            simp [sactO]
          · cases hok : ok
            · refine AWp.cond (t := true) (by simp) (fun _ => ?_) (by simp)
              try rw [hok] at hinv
              try simp only [Bool.false_eq_true, if_false] at hinv
              rw [← hinv]
              refine AWp.go [2, 3] [2] fun K hK => ?_
              simp
              first | refine hK _ _ ?_ | refine ⟨by omega, hK _ _ ?_⟩ | refine ⟨by omega, by omega, hK _ _ ?_⟩
              clear hK K
              refine AWp.ret ?_
              simp [sactO]
            · refine AWp.cond (t := false) (by simp) (by simp) (fun _ => ?_)
              refine AWp.skip ?_
              show AWp _ _ _ _
              refine AWp.goLast [2, 6, 8, 54, 55, 56] [2, 6] fun K hK => ?_
              simp
              first | refine hK _ _ ?_ | refine ⟨by omega, hK _ _ ?_⟩ | refine ⟨by omega, by omega, hK _ _ ?_⟩
              clear hK K
              rw [hok] at hinv
              simp only [if_true] at hinv
              simp only at hk2
              refine ⟨(j + 1, a2), ⟨by simp only; omega, by simp only; omega, hinv⟩, by simp only; omega, ?_⟩
              simp
              exact wrap64 (by omega) (by omega)
        · refine AWp.cond (t := false) (by first | (simp [h2]; done) | (simp [h2]; omega)) (by simp) (fun _ => ?_)
          refine AWp.exit ?_
          show AWp _ _ _ _
          have hd : R.drop j = [] := List.drop_of_length_le (by omega)
          rw [hd, goA] at hinv
          rw [← hinv]
          refine AWp.go [2, 3] [2] fun K hK => ?_
          simp
          first | refine hK _ _ ?_ | refine ⟨by omega, hK _ _ ?_⟩ | refine ⟨by omega, by omega, hK _ _ ?_⟩
          clear hK K
          refine AWp.ret ?_
          simp [sactO]
      · refine AWp.cond (t := true) (by simp) (fun _ => ?_) (by simp)
        refine AWp.go [2, 3] [2] fun K hK => ?_
        simp
        first | refine hK _ _ ?_ | refine ⟨by omega, hK _ _ ?_⟩ | refine ⟨by omega, by omega, hK _ _ ?_⟩
        clear hK K
        refine AWp.ret ?_
        rw [hK, ← hRl, if_pos ho]
        simp [sactO, zeroA, intsAV]
  · refine AWp.cond (t := false) (by first | (simp [h]; done) | (simp [h]; omega)) (by simp) (fun _ => ?_)
    refine AWp.exit ?_
    show AWp _ _ _ _
    refine AWp.go [2, 3] [2] fun K hK => ?_
    simp
    first | refine hK _ _ ?_ | refine ⟨by omega, hK _ _ ?_⟩ | refine ⟨by omega, by omega, hK _ _ ?_⟩
    clear hK K
    refine AWp.ret ?_
    rw [actS_none fun k hk => hall k (by omega)]
    simp [sactO, zeroA, intsAV]
theorem c_act (l : List (List UInt8)) (hl : Brief l) (hne : l ≠ []) : Pure Tryd.prog 16 [.sl .fro 1 (txs l)] (.tup [.agg (sactC (actS l).1), .b (actS l).2]) := by
  have := (c_act0 l hl hne).fro
  simpa [sactO, sactC] using this
end Go.AM
namespace Go.AM
open Go.Proofs
/-- A script's acts, line for line. -/
def getP : Nat → List UInt8 → List Sact → List Sact × Int × Int
  | 0, _, out => (out, 0, 0)
  | n + 1, s, out => if s = [] then (out, 0, 0) else
    if (cutS 10 s).2.2 && ((actS (spl 32 (cutS 10 s).1)).2 && !decide (out.length = 400)) then getP n (cutS 10 s).2.1 (out ++ [(actS (spl 32 (cutS 10 s).1)).1]) else ([], out.length + 1, 2)
def getF (s : List UInt8) : List Sact × Int × Int := if 65536 < s.length then ([], 0, 7) else getP s.length s []
theorem cutS_len (c : UInt8) (s : List UInt8) : (cutS c s).1.length ≤ s.length ∧ (s ≠ [] → (cutS c s).2.1.length < s.length) := by
  rcases byte_cases c s with ⟨_, h2⟩ | ⟨a, r, rfl, h2, _⟩
  · rw [cutS_none h2]
    refine ⟨Nat.le_refl _, fun h => ?_⟩
    simp only [List.length_nil]
    exact List.length_pos_iff.2 h
  · rw [cutS_hit h2]
    simp
    omega
set_option maxRecDepth 8000 in
set_option maxHeartbeats 8000000 in
theorem c_script_Get (s : List UInt8) (hs : s.length ≤ 999999) : Pure Tryd.prog 7 [.s (tx s)] (.tup [.sl .own 8 (sactsAV (getF s).1), .i .i64 (getF s).2.1, .i .i64 (getF s).2.2]) := by
  refine proc_of (cx Tryd.prog 48 [0, 2, 3, 4, 5, 6, 7, 8, 9, 10, 13, 15, 38] [2, 3, 4]) 47 [.tmp 2, .tmp 3, .tmp 4] Tryd.func7 rfl rfl rfl rfl rfl rfl (Nat.le_refl _) rfl ?_
  refine AWp.go [0] [] fun K hK => ?_
  simp
  first | refine hK _ _ ?_ | refine ⟨by omega, hK _ _ ?_⟩ | refine ⟨by omega, by omega, hK _ _ ?_⟩
  clear hK K
  refine AWp.seq ?_
  refine AWp.go [0, 13] [] fun K hK => ?_
  simp
  first | refine hK _ _ ?_ | refine ⟨by omega, hK _ _ ?_⟩ | refine ⟨by omega, by omega, hK _ _ ?_⟩
  clear hK K
  by_cases hbig : 65536 < s.length
  · refine AWp.cond (t := true) (by first | (simp [hbig]; done) | (simp [hbig]; omega)) (fun _ => ?_) (by simp)
    refine AWp.go [2, 3, 4] [] fun K hK => ?_
    simp
    first | refine hK _ _ ?_ | refine ⟨by omega, hK _ _ ?_⟩ | refine ⟨by omega, by omega, hK _ _ ?_⟩
    clear hK K
    refine AWp.ret ?_
    simp [getF, hbig, sactsAV]
  · refine AWp.cond (t := false) (by first | (simp [hbig]; done) | (simp [hbig]; omega)) (by simp) (fun _ => ?_)
    refine AWp.skip ?_
    show AWp _ _ _ _
    have hF : getF s = getP s.length s [] := by rw [getF, if_neg hbig]
    rw [hF]
    refine AWp.go [0, 5] [] fun K hK => ?_
    simp
    first | refine hK _ _ ?_ | refine ⟨by omega, hK _ _ ?_⟩ | refine ⟨by omega, by omega, hK _ _ ?_⟩
    clear hK K
    refine AWp.seq ?_
    refine AWp.block (AWp.while (fun p : Nat × List UInt8 × List Sact => [(0, .s (tx p.2.1)), (5, .sl .own 8 (sactsAV p.2.2))]) (fun p => []) (fun p => p.2.1.length ≤ p.1 ∧ p.1 + p.2.2.length ≤ s.length ∧ getP p.1 p.2.1 p.2.2 = getP s.length s []) (fun p => p.1) [0, 5] [] (s.length, s, []) (by simp) (by simp [sactsAV]) ?_)
    rintro ⟨n, t, out⟩ ⟨htn, hno, hinv⟩
    dsimp only at htn hno hinv
    refine AWp.seq ?_
    refine AWp.step [0, 5, 15] [] [(0, .s (tx t)), (5, .sl .own 8 (sactsAV out)), (15, .b (!decide (t = [])))] [] ?_ ?_
    · simp
      cases t <;> simp
    by_cases ht : t = []
    · refine AWp.cond (t := false) (by first | (simp [ht]; done) | (simp [ht]; omega)) (by simp) (fun _ => ?_)
      refine AWp.exit ?_
      show AWp _ _ _ _
      have hG : getP s.length s [] = (out, 0, 0) := by
        rw [← hinv]
        cases n <;> simp [getP, ht]
      rw [hG]
      refine AWp.go [2, 3, 4] [] fun K hK => ?_
      simp
      first | refine hK _ _ ?_ | refine ⟨by omega, hK _ _ ?_⟩ | refine ⟨by omega, by omega, hK _ _ ?_⟩
      clear hK K
      refine AWp.ret ?_
      simp
    · refine AWp.cond (t := true) (by first | (simp [ht]; done) | (simp [ht]; omega)) (fun _ => ?_) (by simp)
      refine AWp.skip ?_
      show AWp _ _ _ _
      refine AWp.block ?_
      obtain ⟨x, y, ended, hcut⟩ : ∃ x y ended, cutS 10 t = (x, y, ended) := ⟨_, _, _, rfl⟩
      have gc := c_Cut t 10 (by omega)
      have hcl := cutS_len 10 t
      rw [hcut] at gc hcl
      have hcl2 := hcl.2 ht
      simp only at hcl hcl2
      refine AWp.go [5, 6, 7, 8] [] fun K hK => ?_
      simp
      refine call_pure (gc) (by simp) ?_
      simp
      first | refine hK _ _ ?_ | refine ⟨by omega, hK _ _ ?_⟩ | refine ⟨by omega, by omega, hK _ _ ?_⟩
      clear hK K
      obtain ⟨a, ok, hao⟩ : ∃ a ok, actS (spl 32 x) = (a, ok) := ⟨_, _, rfl⟩
      have gs : Pure Tryd.prog 17 [.s (tx x), .s (tx [32])] (.sl .fro 1 (txs (spl 32 x))) := c_Split x 32 (by omega)
      have ga := c_act (spl 32 x) (spl_brief (by omega)) (spl_ne _ _)
      rw [hao] at ga
      refine AWp.go [5, 7, 8, 9, 10] [9] fun K hK => ?_
      simp [sactC]
      refine call_pure (gs) (by simp) ?_
      simp [sactC]
      refine call_pure (ga) (by simp) ?_
      simp [sactC]
      first | refine hK _ _ ?_ | refine ⟨by omega, hK _ _ ?_⟩ | refine ⟨by omega, by omega, hK _ _ ?_⟩
      clear hK K
      refine AWp.seq ?_
      refine AWp.step [5, 7, 9, 38] [9] [(5, .sl .own 8 (sactsAV out)), (7, .s (tx y)), (9, .ptr 9 0), (38, .b (!(ended && (ok && !decide (out.length = 400)))))] [(9, [.i .i64 a.kind, .i .i64 a.rep, .i .i64 a.to, .i .i64 a.of, .s (tx a.key), .s (tx a.word), .i .i64 a.n, .sl .fro 1 (intsAV a.keep)])] ?_ ?_
      · cases ended
        · simp
        · cases ok
          · simp
          · simp
            omega
      cases hq : ended && (ok && !decide (out.length = 400))
      · refine AWp.cond (t := true) (by simp) (fun _ => ?_) (by simp)
        obtain ⟨m, rfl⟩ : ∃ m, n = m + 1 := ⟨n - 1, by have := List.length_pos_iff.2 ht; omega⟩
        have herr : getP s.length s [] = ([], (out.length : Int) + 1, 2) := by
          rw [← hinv, getP, if_neg ht, hcut]
          simp only [hao]
          rw [if_neg (by rw [hq]; simp)]
        rw [herr]
        refine AWp.go [2, 3, 4] [] fun K hK => ?_
        simp
        first | refine hK _ _ ?_ | refine ⟨by omega, hK _ _ ?_⟩ | refine ⟨by omega, by omega, hK _ _ ?_⟩
        clear hK K
        refine AWp.ret ?_
        simp [sactsAV]
        exact wrap64 (by omega) (by omega)
      · refine AWp.cond (t := false) (by simp) (by simp) (fun _ => ?_)
        refine AWp.skip ?_
        show AWp _ _ _ _
        refine AWp.step [5, 7] [] [(5, .sl .own 8 (sactsAV (out ++ [a]))), (7, .s (tx y))] [] ?_ ?_
        · simp [sactsAV_snoc, sactC]
          omega
        refine AWp.goLast [0, 5] [] fun K hK => ?_
        simp
        first | refine hK _ _ ?_ | refine ⟨by omega, hK _ _ ?_⟩ | refine ⟨by omega, by omega, hK _ _ ?_⟩
        clear hK K
        obtain ⟨m, rfl⟩ : ∃ m, n = m + 1 := ⟨n - 1, by have := List.length_pos_iff.2 ht; omega⟩
        refine ⟨(m, y, out ++ [a]), ⟨by simp only; omega, by simp; omega, ?_⟩, by simp, ?_⟩
        · rw [← hinv, getP, if_neg ht, hcut]
          simp only [hao]
          rw [if_pos hq]
        · simp
end Go.AM
namespace Go.AM
open Go.Proofs
/-! ### Numbers -/
theorem dec_dg (u : Nat) : ∀ b ∈ Lib.decDigits u, isDg b = true := by
  induction u using Nat.strongRecOn with
  | _ u ih =>
    intro b hb
    have dig : ∀ d, d < 10 → isDg (UInt8.ofNat (48 + d)) = true := fun d hd => by
      have : (UInt8.ofNat (48 + d)).toNat = 48 + d := by simp; omega
      simp [isDg, this]
      omega
    by_cases h : u < 10
    · rw [dec_small h] at hb
      simp only [List.mem_singleton] at hb
      subst hb
      exact dig u h
    · rw [← dec_big h] at hb
      rcases List.mem_append.1 hb with hb | hb
      · exact ih (u / 10) (by omega) b hb
      · rw [dec_small (Nat.mod_lt _ (by omega))] at hb
        simp only [List.mem_singleton] at hb
        subst hb
        exact dig _ (Nat.mod_lt _ (by omega))
theorem dec_ne (u : Nat) : Lib.decDigits u ≠ [] := by
  rw [Lib.decDigits]
  split <;> simp
def valF (n : Nat) (b : UInt8) : Nat := n * 10 + (b.toNat - 48)
theorem val_dec (u : Nat) : (Lib.decDigits u).foldl valF 0 = u := by
  induction u using Nat.strongRecOn with
  | _ u ih =>
    by_cases h : u < 10
    · rw [dec_small h]
      have : (UInt8.ofNat (48 + u)).toNat = 48 + u := by simp; omega
      show 0 * 10 + ((UInt8.ofNat (48 + u)).toNat - 48) = u
      rw [this]
      omega
    · rw [← dec_big h, List.foldl_append, ih (u / 10) (by omega), dec_small (Nat.mod_lt _ (by omega))]
      have : (UInt8.ofNat (48 + u % 10)).toNat = 48 + u % 10 := by simp; omega
      show (u / 10) * 10 + ((UInt8.ofNat (48 + u % 10)).toNat - 48) = u
      rw [this]
      omega
theorem val_ge (l : List UInt8) : ∀ n, n ≤ l.foldl valF n := by
  induction l with
  | nil => intro n; simp
  | cons b l ih =>
    intro n
    have := ih (valF n b)
    simp only [List.foldl_cons]
    unfold valF at this ⊢
    omega
theorem parse_val (l : List UInt8) : ∀ n, (∀ b ∈ l, isDg b = true) → l.foldl valF n < 1000000000 → Lib.parseUint10 n l = .ok (l.foldl valF n) := by
  induction l with
  | nil => intro n _ _; rfl
  | cons b l ih =>
    intro n hd hv
    have hb := hd b (by simp)
    simp only [isDg, Bool.and_eq_true, decide_eq_true_eq] at hb
    simp only [List.foldl_cons] at hv ⊢
    have h1 := val_ge l (valF n b)
    have h2 : valF n b = n * 10 + (b.toNat - 48) := rfl
    rw [Lib.parseUint10, if_pos hb, if_neg (by omega), if_neg (by omega)]
    exact ih _ (fun x hx => hd x (by simp [hx])) hv
theorem atoi_dec {u : Nat} (h : u ≤ 1048576) : Lib.atoiAll (Lib.decDigits u) = .ok (u : Int) := by
  cases hl : Lib.decDigits u with
  | nil => exact absurd hl (dec_ne u)
  | cons c r =>
    have hd := dec_dg u
    have hv := val_dec u
    rw [hl] at hd hv
    have hc := hd c (by simp)
    simp only [isDg, Bool.and_eq_true, decide_eq_true_eq] at hc
    have hp := parse_val (c :: r) 0 hd (by omega)
    rw [hv] at hp
    rw [Lib.atoiAll_plain c r (by omega) (by omega), Lib.parseMag, if_neg (by simp), hp]
    unfold Lib.signless
    simp
    omega
theorem itoa_pos {n : Int} (h : 0 ≤ n) : Lib.itoa n = Lib.decDigits n.toNat := by rw [Lib.itoa, if_neg (by omega)]
theorem inN_iff (n : Int) : inN n = true ↔ 0 ≤ n ∧ n ≤ 1048576 := by simp [inN]
theorem numS_dec {n : Int} (h : inN n = true) : numS (Lib.decDigits n.toNat) = (n, true) := by
  rw [inN_iff] at h
  have h1 := atoi_dec (u := n.toNat) (by omega)
  rw [show ((n.toNat : Nat) : Int) = n by omega] at h1
  simp [numS, h1, itoa_pos h.1, h.1, h.2]
theorem numS_true {s : List UInt8} (h : (numS s).2 = true) : inN (numS s).1 = true ∧ s = Lib.decDigits (numS s).1.toNat := by
  unfold numS at h ⊢
  split at h
  · rename_i v hv
    simp only [Bool.and_eq_true, decide_eq_true_eq, beq_iff_eq] at h
    simp only [hv]
    rw [inN_iff]
    refine ⟨h.1, ?_⟩
    rw [← itoa_pos h.1.1, h.2]
  · cases h
  · cases h
/-! ### Bytes -/
theorem hexI_hexD : ∀ n : Fin 16, hexI (hexD n.val) = (n.val : Int) := by decide
theorem hexD_ge : ∀ n : Fin 16, 33 ≤ (hexD n.val).toNat := by decide
theorem hexI_some {c : UInt8} (h : 0 ≤ hexI c) : hexI c < 16 ∧ c = hexD (hexI c).toNat := by
  have hr := hexI_rng c
  refine ⟨by omega, ?_⟩
  unfold hexI at h ⊢
  rcases byte_cases c hexT with ⟨h1, _⟩ | ⟨a, r, he, _, h3⟩
  · rw [h1] at h
    exact absurd h (by decide)
  · rw [h3]
    have hl := congrArg List.length he
    have hT : hexT.length = 16 := rfl
    rw [hT] at hl
    simp at hl
    have h4 := hexT_at (n := a.length) (by omega)
    rw [he] at h4
    simp at h4
    simp [h4]
theorem hexL_at (t : List UInt8) : ∀ j (h : j < t.length), (hexL t)[2 * j]? = some (hexD (t[j].toNat / 16)) ∧ (hexL t)[2 * j + 1]? = some (hexD (t[j].toNat % 16)) := by
  induction t with
  | nil => intro j h; simp at h
  | cons b t ih =>
    intro j h
    cases j with
    | zero => exact ⟨rfl, rfl⟩
    | succ j =>
      have := ih j (by simpa using h)
      have e : hexL (b :: t) = hexD (b.toNat / 16) :: hexD (b.toNat % 16) :: hexL t := rfl
      rw [e, show 2 * (j + 1) = 2 * j + 2 by omega]
      simpa using this
theorem hexW_at {t : List UInt8} {j : Nat} (h : j < t.length) : (61 :: hexL t : List UInt8).getD (2 * j + 1) 0 = hexD (t[j].toNat / 16) ∧ (61 :: hexL t : List UInt8).getD (2 * j + 2) 0 = hexD (t[j].toNat % 16) := by
  obtain ⟨h1, h2⟩ := hexL_at t j h
  simp [List.getD_eq_getElem?_getD, h1, h2]
theorem map_range {t : List UInt8} {f : Nat → UInt8} (h : ∀ j (hj : j < t.length), f j = t[j]) : (List.range t.length).map f = t := by
  apply List.ext_getElem
  · simp
  · intro j h1 h2
    simp
    exact h j h2
theorem div16 (b : UInt8) : b.toNat / 16 < 16 := by have := UInt8.toNat_lt b; omega
theorem raw_hex {t : List UInt8} (h : t.length ≤ 64) : rawS (61 :: hexL t) = (t, true) := by
  have hl : (61 :: hexL t : List UInt8).length = 2 * t.length + 1 := by simp [hexL_length]
  have hi : ∀ j (hj : j < t.length), hexI ((61 :: hexL t : List UInt8).getD (2 * j + 1) 0) = ((t[j].toNat / 16 : Nat) : Int) ∧ hexI ((61 :: hexL t : List UInt8).getD (2 * j + 2) 0) = ((t[j].toNat % 16 : Nat) : Int) := fun j hj => by
    obtain ⟨h1, h2⟩ := hexW_at hj
    rw [h1, h2]
    exact ⟨hexI_hexD ⟨_, div16 _⟩, hexI_hexD ⟨_, Nat.mod_lt _ (by omega)⟩⟩
  unfold rawS
  rw [hl, if_neg (by simp; omega), show (2 * t.length + 1 - 1) / 2 = t.length by omega, if_pos]
  · rw [map_range fun j hj => ?_]
    obtain ⟨h1, h2⟩ := hi j hj
    unfold hxAt
    rw [h1, h2]
    apply UInt8.toNat_inj.1
    have := UInt8.toNat_lt t[j]
    simp
    omega
  · refine range_all fun j hj => ?_
    obtain ⟨h1, h2⟩ := hi j hj
    unfold hxOk
    rw [h1, h2]
    simp
    omega
theorem raw_true {s : List UInt8} (h : (rawS s).2 = true) : (rawS s).1.length ≤ 64 ∧ s = 61 :: hexL (rawS s).1 := by
  unfold rawS at h ⊢
  split at h
  · cases h
  · rename_i hc
    rw [if_neg hc]
    split at h
    · rename_i ha
      rw [if_pos ha]
      simp only
      have h0 : s.length % 2 = 1 := by omega
      have h1 : s.getD 0 0 = 61 := by
        rcases Classical.em (s.getD 0 0 = 61) with h | h
        · exact h
        · exact absurd (.inr (.inl h)) hc
      have h2 : s.length ≤ 129 := by omega
      obtain ⟨m, hm⟩ : ∃ m, m = (s.length - 1) / 2 := ⟨_, rfl⟩
      rw [← hm] at ha ⊢
      refine ⟨by simp; omega, ?_⟩
      have hl : s.length = 2 * m + 1 := by omega
      rw [List.all_eq_true] at ha
      have key : ∀ j, j < m → s.getD (2 * j + 1) 0 = hexD ((hxAt s j).toNat / 16) ∧ s.getD (2 * j + 2) 0 = hexD ((hxAt s j).toNat % 16) := fun j hj => by
        have hk := ha j (List.mem_range.2 hj)
        simp only [hxOk, Bool.and_eq_true, decide_eq_true_eq] at hk
        obtain ⟨x1, x2⟩ := hexI_some hk.1
        obtain ⟨y1, y2⟩ := hexI_some hk.2
        have e : (hxAt s j).toNat = 16 * (hexI (s.getD (2 * j + 1) 0)).toNat + (hexI (s.getD (2 * j + 2) 0)).toNat := by
          unfold hxAt
          generalize hexI (s.getD (2 * j + 1) 0) = p at x1
          generalize hexI (s.getD (2 * j + 2) 0) = q at y1
          simp
          omega
        rw [e]
        refine ⟨x2.trans (congrArg hexD ?_), y2.trans (congrArg hexD ?_)⟩ <;> omega
      have getD_at : ∀ i, i < s.length → s[i]? = some (s.getD i 0) := fun i hi => by simp [hi]
      apply List.ext_getElem?
      intro i
      by_cases hi : i < s.length
      · rw [getD_at i hi]
        cases i with
        | zero => rw [h1]; rfl
        | succ i =>
          rw [List.getElem?_cons_succ]
          obtain ⟨j, hj⟩ : ∃ j, i = 2 * j ∨ i = 2 * j + 1 := ⟨i / 2, by omega⟩
          have hjm : j < m := by omega
          obtain ⟨e1, e2⟩ := hexL_at ((List.range m).map (hxAt s)) j (by simpa using hjm)
          obtain ⟨k1, k2⟩ := key j hjm
          simp only [List.getElem_map, List.getElem_range] at e1 e2
          rcases hj with rfl | rfl
          · rw [e1, k1]
          · rw [e2, ← k2]
      · rw [List.getElem?_eq_none (by omega), List.getElem?_eq_none (by simp [hexL_length]; omega)]
    · cases h
/-! ### Parts -/
/-- Words with a byte between them. -/
def jn (c : UInt8) : List (List UInt8) → List UInt8
  | [] => []
  | w :: r => w ++ r.flatMap (c :: ·)
theorem jn_spl (c : UInt8) (x : List UInt8) : jn c (spl c x) = x := by
  induction x with
  | nil => rfl
  | cons b l ih =>
    unfold spl
    cases hq : spl c l with
    | nil => exact absurd hq (spl_ne c l)
    | cons w r =>
      rw [hq] at ih
      simp only [jn] at ih
      split
      · rename_i hb
        subst hb
        simp only [jn, List.nil_append, List.flatMap_cons, List.cons_append, ih]
      · simp only [jn, List.cons_append, ih]
theorem spl_inj {c : UInt8} {x y : List UInt8} (h : spl c x = spl c y) : x = y := by
  rw [← jn_spl c x, h, jn_spl]
theorem spl_jn {c : UInt8} : ∀ (r : List (List UInt8)) (w : List UInt8), (∀ x ∈ w :: r, c ∉ x) → spl c (jn c (w :: r)) = w :: r := by
  intro r
  induction r with
  | nil =>
    intro w h
    have := h w (by simp)
    simp [jn, spl_none this]
  | cons y r ih =>
    intro w h
    have h1 := ih y fun x hx => h x (by simp at hx ⊢; exact .inr hx)
    simp only [jn] at h1 ⊢
    rw [List.flatMap_cons, List.cons_append, spl_hit (h w (by simp)), h1]
end Go.AM
namespace Go.AM
open Go.Proofs
theorem kinds {k : Int} (h1 : 1 ≤ k) (h2 : k ≤ 12) : k = 1 ∨ k = 2 ∨ k = 3 ∨ k = 4 ∨ k = 5 ∨ k = 6 ∨ k = 7 ∨ k = 8 ∨ k = 9 ∨ k = 10 ∨ k = 11 ∨ k = 12 := by omega
theorem may_iff (a : Sact) : mayA a = true ↔ a.keep.all inN = true ∧ 1 ≤ a.kind ∧ a.kind ≤ 12 ∧ inN a.rep = true ∧ inN a.to = true ∧ inN a.of = true ∧ inN a.n = true ∧ a.key.length ≤ 64 ∧ a.word.length ≤ 64 ∧ a.keep.length ≤ 4 ∧ a = bareA a := by
  simp only [mayA, boundsB, Bool.and_eq_true, decide_eq_true_eq]
  constructor
  · rintro ⟨h0, h1, h2, h3, h4, h5, h6, h7, h8, h9, h10⟩
    exact ⟨h0, h1, h2, h3, h4, h5, h6, by omega, by omega, by omega, h10⟩
  · rintro ⟨h0, h1, h2, h3, h4, h5, h6, h7, h8, h9, h10⟩
    exact ⟨h0, h1, h2, h3, h4, h5, h6, by omega, by omega, by omega, h10⟩
theorem itoaN {n : Int} (h : inN n = true) : Lib.itoa n = Lib.decDigits n.toNat := itoa_pos ((inN_iff n).1 h).1
theorem keeps_map {l : List Int} (h : l.all inN = true) : l.map Lib.itoa = l.map fun n => Lib.decDigits n.toNat := by
  apply List.map_congr_left
  intro n hn
  rw [List.all_eq_true] at h
  exact itoaN (h n hn)
theorem keeps_flat (l : List Int) : (l.map fun n => Lib.decDigits n.toNat).flatMap (fun w => 32 :: w) = l.flatMap dd := by
  induction l with
  | nil => rfl
  | cons n l ih =>
    rw [List.map_cons, List.flatMap_cons, List.flatMap_cons, ih]
    rfl
/-- A line is its words, parted by blanks. -/
theorem line_words {a : Sact} (h : mayA a = true) : lineL a = jn 32 (wordsA a) := by
  obtain ⟨h0, h1, h2, h3, h4, h5, h6, h7, h8, h9, h10⟩ := (may_iff a).1 h
  have k0 := keeps_flat a.keep
  unfold lineL wordsA wordOf partsOf
  rcases kinds h1 h2 with hk | hk | hk | hk | hk | hk | hk | hk | hk | hk | hk | hk <;> simp [hk, jn, wordsC, dd, hh, itoaN h3, itoaN h4, itoaN h5, itoaN h6, keeps_map h0]
  rw [← k0]
/-- Bytes that part no words, and no lines. -/
def Solid (w : List UInt8) : Prop := ∀ b ∈ w, 33 ≤ b.toNat
theorem solid_dec (u : Nat) : Solid (Lib.decDigits u) := fun b hb => by
  have := dec_dg u b hb
  simp only [isDg, Bool.and_eq_true, decide_eq_true_eq] at this
  omega
theorem solid_hex (t : List UInt8) : Solid (61 :: hexL t) := by
  intro b hb
  rcases List.mem_cons.1 hb with rfl | hb
  · decide
  · simp only [hexL, List.mem_flatMap, hex2, List.mem_cons, List.not_mem_nil, or_false] at hb
    obtain ⟨x, _, rfl | rfl⟩ := hb
    · exact hexD_ge ⟨_, div16 x⟩
    · exact hexD_ge ⟨_, Nat.mod_lt _ (by omega)⟩
theorem solid_word (k : Int) : Solid (wordOf k) := by
  intro b hb
  unfold wordOf at hb
  by_cases q1 : k = 1
  · rw [if_pos q1] at hb
    revert b; decide
  rw [if_neg q1] at hb
  by_cases q2 : k = 2
  · rw [if_pos q2] at hb
    revert b; decide
  rw [if_neg q2] at hb
  by_cases q3 : k = 3
  · rw [if_pos q3] at hb
    revert b; decide
  rw [if_neg q3] at hb
  by_cases q4 : k = 4
  · rw [if_pos q4] at hb
    revert b; decide
  rw [if_neg q4] at hb
  by_cases q5 : k = 5
  · rw [if_pos q5] at hb
    revert b; decide
  rw [if_neg q5] at hb
  by_cases q6 : k = 6
  · rw [if_pos q6] at hb
    revert b; decide
  rw [if_neg q6] at hb
  by_cases q7 : k = 7
  · rw [if_pos q7] at hb
    revert b; decide
  rw [if_neg q7] at hb
  by_cases q8 : k = 8
  · rw [if_pos q8] at hb
    revert b; decide
  rw [if_neg q8] at hb
  by_cases q9 : k = 9
  · rw [if_pos q9] at hb
    revert b; decide
  rw [if_neg q9] at hb
  by_cases q10 : k = 10
  · rw [if_pos q10] at hb
    revert b; decide
  rw [if_neg q10] at hb
  by_cases q11 : k = 11
  · rw [if_pos q11] at hb
    revert b; decide
  rw [if_neg q11] at hb
  by_cases q12 : k = 12
  · rw [if_pos q12] at hb
    revert b; decide
  rw [if_neg q12] at hb
  cases hb
theorem solid_words {a : Sact} (h : mayA a = true) : ∀ w ∈ wordsA a, Solid w := by
  obtain ⟨h0, h1, h2, h3, h4, h5, h6, h7, h8, h9, h10⟩ := (may_iff a).1 h
  intro w hw
  rcases List.mem_cons.1 hw with rfl | hw
  · exact solid_word _
  · obtain ⟨c, _, hw⟩ := List.mem_flatMap.1 hw
    unfold wordsC at hw
    repeat' split at hw
    all_goals (try simp only [List.mem_cons, List.not_mem_nil, or_false] at hw)
    · subst hw; rw [itoaN h3]; exact solid_dec _
    · subst hw; rw [itoaN h4]; exact solid_dec _
    · subst hw; rw [itoaN h5]; exact solid_dec _
    · subst hw; rw [itoaN h6]; exact solid_dec _
    · subst hw; exact solid_hex _
    · subst hw; exact solid_hex _
    · obtain ⟨n, hn, rfl⟩ := List.mem_map.1 hw
      rw [List.all_eq_true] at h0
      rw [itoaN (h0 n hn)]
      exact solid_dec _
theorem solid_not {w : List UInt8} {c : UInt8} (h : Solid w) (hc : c.toNat < 33) : c ∉ w := fun hm => by
  have := h c hm
  omega
theorem spl_line {a : Sact} (h : mayA a = true) : spl 32 (lineL a) = wordsA a := by
  rw [line_words h]
  exact spl_jn _ _ fun x hx => solid_not (solid_words h x hx) (by decide)
theorem line_no10 {a : Sact} (h : mayA a = true) : (10 : UInt8) ∉ lineL a := by
  rw [line_words h]
  have hs := solid_words h
  unfold wordsA at hs ⊢
  simp only [jn]
  intro hm
  rcases List.mem_append.1 hm with hm | hm
  · exact solid_not (hs _ (by simp)) (by decide) hm
  · obtain ⟨w, hw, hm⟩ := List.mem_flatMap.1 hm
    rcases List.mem_cons.1 hm with hm | hm
    · exact absurd hm (by decide)
    · exact solid_not (hs w (List.mem_cons_of_mem _ hw)) (by decide) hm
/-! ### The program's act -/
theorem goA_iff (p : List UInt8) (i : Nat) (s : List UInt8) (r : List (List UInt8)) (a b : Sact) : goA p i (s :: r) a = (b, true) ↔ s ≠ [] ∧ (fillA a (p.getD i 42) s).2 = true ∧ goA p (i + 1) r (fillA a (p.getD i 42) s).1 = (b, true) := by
  rw [goA]
  by_cases hs : s = []
  · simp [hs]
  · rw [if_neg hs]
    cases hf : (fillA a (p.getD i 42) s).2
    · simp [hs]
    · simp [hs]
theorem goA_nil (p : List UInt8) (i : Nat) (a b : Sact) : goA p i [] a = (b, true) ↔ a = b := by simp [goA]
theorem goA_star (p : List UInt8) : ∀ (r : List (List UInt8)) (i : Nat) (a b : Sact), p.length ≤ i → (goA p i r a = (b, true) ↔ (∀ s ∈ r, s ≠ [] ∧ (numS s).2 = true) ∧ b = ⟨a.kind, a.rep, a.to, a.of, a.key, a.word, a.n, a.keep ++ r.map fun s => (numS s).1⟩) := by
  intro r
  induction r with
  | nil =>
    intro i a b _
    rw [goA_nil]
    constructor
    · rintro rfl; simp
    · rintro ⟨_, rfl⟩; simp
  | cons s r ih =>
    intro i a b hi
    have hc : p.getD i 42 = 42 := by simp [hi]
    rw [goA_iff, hc]
    have h1 : fillA a 42 s = (⟨a.kind, a.rep, a.to, a.of, a.key, a.word, a.n, a.keep ++ [(numS s).1]⟩, (numS s).2) := by
      unfold fillA
      rfl
    rw [h1, ih (i + 1) _ b (by omega)]
    simp only [List.mem_cons, forall_eq_or_imp, List.map_cons, List.append_assoc, List.singleton_append]
    constructor
    · rintro ⟨g1, g2, g3, g4⟩; exact ⟨⟨⟨g1, g2⟩, g3⟩, g4⟩
    · rintro ⟨⟨⟨g1, g2⟩, g3⟩, g4⟩; exact ⟨g1, g2, g3, g4⟩
theorem trim_parts (k : Int) : Lib.trimSuffix (partsOf k) [42] = if k = 11 then [114] else partsOf k := by
  by_cases h11 : k = 11
  · subst h11; decide
  · rw [if_neg h11]
    unfold partsOf
    rw [if_neg h11]
    repeat' split
    all_goals decide
theorem word_inj {j k : Int} (h1 : 1 ≤ j) (h2 : j ≤ 12) (h3 : 1 ≤ k) (h4 : k ≤ 12) (h : wordOf j = wordOf k) : j = k := by
  rcases kinds h1 h2 with rfl | rfl | rfl | rfl | rfl | rfl | rfl | rfl | rfl | rfl | rfl | rfl <;> rcases kinds h3 h4 with rfl | rfl | rfl | rfl | rfl | rfl | rfl | rfl | rfl | rfl | rfl | rfl <;> first | rfl | exact absurd h (by decide)
end Go.AM
namespace Go.AM
open Go.Proofs
theorem numX {s : List UInt8} (h : (numS s).2 = true) : ∃ n, inN n = true ∧ s = Lib.decDigits n.toNat ∧ (numS s).1 = n := ⟨_, (numS_true h).1, (numS_true h).2, rfl⟩
theorem rawX {s : List UInt8} (h : (rawS s).2 = true) : ∃ t, t.length ≤ 64 ∧ s = 61 :: hexL t ∧ (rawS s).1 = t := ⟨_, (raw_true h).1, (raw_true h).2, rfl⟩
theorem in0 : inN 0 = true := rfl
theorem nums_all {r : List (List UInt8)} (h : ∀ s ∈ r, s ≠ [] ∧ (numS s).2 = true) : ∃ l : List Int, l.all inN = true ∧ r = l.map Lib.itoa ∧ r.map (fun s => (numS s).1) = l := by
  refine ⟨r.map fun s => (numS s).1, ?_, ?_, rfl⟩
  · rw [List.all_eq_true]
    intro x hx
    obtain ⟨s, hs, rfl⟩ := List.mem_map.1 hx
    exact (numS_true (h s hs).2).1
  · rw [List.map_map]
    conv => lhs; rw [← List.map_id r]
    apply List.map_congr_left
    intro s hs
    obtain ⟨h1, h2⟩ := numS_true (h s hs).2
    simp only [id, Function.comp]
    rw [itoaN h1]
    exact h2
theorem keepS {l : List Int} (h : l.all inN = true) : (∀ s ∈ l.map Lib.itoa, s ≠ [] ∧ (numS s).2 = true) ∧ (l.map Lib.itoa).map (fun s => (numS s).1) = l := by
  rw [List.all_eq_true] at h
  refine ⟨fun s hs => ?_, ?_⟩
  · obtain ⟨n, hn, rfl⟩ := List.mem_map.1 hs
    rw [itoaN (h n hn)]
    exact ⟨dec_ne _, by rw [numS_dec (h n hn)]⟩
  · rw [List.map_map]
    conv => rhs; rw [← List.map_id l]
    apply List.map_congr_left
    intro n hn
    simp only [id, Function.comp]
    rw [itoaN (h n hn), numS_dec (h n hn)]
theorem go_o (k : Int) (r : List (List UInt8)) (a : Sact) (hl : r.length = 1) : goA [111] 0 r (zeroA k) = (a, true) ↔ ∃ x0, (inN x0 = true) ∧ r = [Lib.decDigits x0.toNat] ∧ a = ⟨k, 0, 0, x0, [], [], 0, []⟩ := by
  constructor
  · intro h
    match r, hl with
    | [s0], _ =>
      simp only [goA_iff, goA_nil] at h
      obtain ⟨_, e0, hx⟩ := h
      obtain ⟨y0, i0, w0, v0⟩ := numX (s := s0) e0
      refine ⟨y0, i0, by rw [← w0], ?_⟩
      rw [← hx, ← v0]
      rfl
  · rintro ⟨x0, i0, rfl, rfl⟩
    simp only [goA_iff, goA_nil]
    refine ⟨dec_ne _, (congrArg Prod.snd (numS_dec i0) :), ?_⟩
    have n0 := congrArg Prod.fst (numS_dec i0)
    simp only at n0
    conv => rhs; rw [← n0]
    rfl
theorem go_r (k : Int) (r : List (List UInt8)) (a : Sact) (hl : r.length = 1) : goA [114] 0 r (zeroA k) = (a, true) ↔ ∃ x0, (inN x0 = true) ∧ r = [Lib.decDigits x0.toNat] ∧ a = ⟨k, x0, 0, 0, [], [], 0, []⟩ := by
  constructor
  · intro h
    match r, hl with
    | [s0], _ =>
      simp only [goA_iff, goA_nil] at h
      obtain ⟨_, e0, hx⟩ := h
      obtain ⟨y0, i0, w0, v0⟩ := numX (s := s0) e0
      refine ⟨y0, i0, by rw [← w0], ?_⟩
      rw [← hx, ← v0]
      rfl
  · rintro ⟨x0, i0, rfl, rfl⟩
    simp only [goA_iff, goA_nil]
    refine ⟨dec_ne _, (congrArg Prod.snd (numS_dec i0) :), ?_⟩
    have n0 := congrArg Prod.fst (numS_dec i0)
    simp only at n0
    conv => rhs; rw [← n0]
    rfl
theorem go_rn (k : Int) (r : List (List UInt8)) (a : Sact) (hl : r.length = 2) : goA [114, 110] 0 r (zeroA k) = (a, true) ↔ ∃ x0 x1, (inN x0 = true ∧ inN x1 = true) ∧ r = [Lib.decDigits x0.toNat, Lib.decDigits x1.toNat] ∧ a = ⟨k, x0, 0, 0, [], [], x1, []⟩ := by
  constructor
  · intro h
    match r, hl with
    | [s0, s1], _ =>
      simp only [goA_iff, goA_nil] at h
      obtain ⟨_, e0, ⟨_, e1, hx⟩⟩ := h
      obtain ⟨y0, i0, w0, v0⟩ := numX (s := s0) e0
      obtain ⟨y1, i1, w1, v1⟩ := numX (s := s1) e1
      refine ⟨y0, y1, ⟨i0, i1⟩, by rw [← w0, ← w1], ?_⟩
      rw [← hx, ← v0, ← v1]
      rfl
  · rintro ⟨x0, x1, ⟨i0, i1⟩, rfl, rfl⟩
    simp only [goA_iff, goA_nil]
    refine ⟨dec_ne _, (congrArg Prod.snd (numS_dec i0) :), ⟨dec_ne _, (congrArg Prod.snd (numS_dec i1) :), ?_⟩⟩
    have n0 := congrArg Prod.fst (numS_dec i0)
    have n1 := congrArg Prod.fst (numS_dec i1)
    simp only at n0 n1
    conv => rhs; rw [← n0, ← n1]
    rfl
theorem go_rokw (k : Int) (r : List (List UInt8)) (a : Sact) (hl : r.length = 4) : goA [114, 111, 107, 119] 0 r (zeroA k) = (a, true) ↔ ∃ x0 x1 x2 x3, (inN x0 = true ∧ inN x1 = true ∧ x2.length ≤ 64 ∧ x3.length ≤ 64) ∧ r = [Lib.decDigits x0.toNat, Lib.decDigits x1.toNat, 61 :: hexL x2, 61 :: hexL x3] ∧ a = ⟨k, x0, 0, x1, x2, x3, 0, []⟩ := by
  constructor
  · intro h
    match r, hl with
    | [s0, s1, s2, s3], _ =>
      simp only [goA_iff, goA_nil] at h
      obtain ⟨_, e0, ⟨_, e1, ⟨_, e2, ⟨_, e3, hx⟩⟩⟩⟩ := h
      obtain ⟨y0, i0, w0, v0⟩ := numX (s := s0) e0
      obtain ⟨y1, i1, w1, v1⟩ := numX (s := s1) e1
      obtain ⟨y2, i2, w2, v2⟩ := rawX (s := s2) e2
      obtain ⟨y3, i3, w3, v3⟩ := rawX (s := s3) e3
      refine ⟨y0, y1, y2, y3, ⟨i0, i1, i2, i3⟩, by rw [← w0, ← w1, ← w2, ← w3], ?_⟩
      rw [← hx, ← v0, ← v1, ← v2, ← v3]
      rfl
  · rintro ⟨x0, x1, x2, x3, ⟨i0, i1, i2, i3⟩, rfl, rfl⟩
    simp only [goA_iff, goA_nil]
    refine ⟨dec_ne _, (congrArg Prod.snd (numS_dec i0) :), ⟨dec_ne _, (congrArg Prod.snd (numS_dec i1) :), ⟨by simp, (congrArg Prod.snd (raw_hex i2) :), ⟨by simp, (congrArg Prod.snd (raw_hex i3) :), ?_⟩⟩⟩⟩
    have n0 := congrArg Prod.fst (numS_dec i0)
    have n1 := congrArg Prod.fst (numS_dec i1)
    have n2 := congrArg Prod.fst (raw_hex i2)
    have n3 := congrArg Prod.fst (raw_hex i3)
    simp only at n0 n1 n2 n3
    conv => rhs; rw [← n0, ← n1, ← n2, ← n3]
    rfl
theorem go_rt (k : Int) (r : List (List UInt8)) (a : Sact) (hl : r.length = 2) : goA [114, 116] 0 r (zeroA k) = (a, true) ↔ ∃ x0 x1, (inN x0 = true ∧ inN x1 = true) ∧ r = [Lib.decDigits x0.toNat, Lib.decDigits x1.toNat] ∧ a = ⟨k, x0, x1, 0, [], [], 0, []⟩ := by
  constructor
  · intro h
    match r, hl with
    | [s0, s1], _ =>
      simp only [goA_iff, goA_nil] at h
      obtain ⟨_, e0, ⟨_, e1, hx⟩⟩ := h
      obtain ⟨y0, i0, w0, v0⟩ := numX (s := s0) e0
      obtain ⟨y1, i1, w1, v1⟩ := numX (s := s1) e1
      refine ⟨y0, y1, ⟨i0, i1⟩, by rw [← w0, ← w1], ?_⟩
      rw [← hx, ← v0, ← v1]
      rfl
  · rintro ⟨x0, x1, ⟨i0, i1⟩, rfl, rfl⟩
    simp only [goA_iff, goA_nil]
    refine ⟨dec_ne _, (congrArg Prod.snd (numS_dec i0) :), ⟨dec_ne _, (congrArg Prod.snd (numS_dec i1) :), ?_⟩⟩
    have n0 := congrArg Prod.fst (numS_dec i0)
    have n1 := congrArg Prod.fst (numS_dec i1)
    simp only at n0 n1
    conv => rhs; rw [← n0, ← n1]
    rfl
theorem go_rtokn (k : Int) (r : List (List UInt8)) (a : Sact) (hl : r.length = 5) : goA [114, 116, 111, 107, 110] 0 r (zeroA k) = (a, true) ↔ ∃ x0 x1 x2 x3 x4, (inN x0 = true ∧ inN x1 = true ∧ inN x2 = true ∧ x3.length ≤ 64 ∧ inN x4 = true) ∧ r = [Lib.decDigits x0.toNat, Lib.decDigits x1.toNat, Lib.decDigits x2.toNat, 61 :: hexL x3, Lib.decDigits x4.toNat] ∧ a = ⟨k, x0, x1, x2, x3, [], x4, []⟩ := by
  constructor
  · intro h
    match r, hl with
    | [s0, s1, s2, s3, s4], _ =>
      simp only [goA_iff, goA_nil] at h
      obtain ⟨_, e0, ⟨_, e1, ⟨_, e2, ⟨_, e3, ⟨_, e4, hx⟩⟩⟩⟩⟩ := h
      obtain ⟨y0, i0, w0, v0⟩ := numX (s := s0) e0
      obtain ⟨y1, i1, w1, v1⟩ := numX (s := s1) e1
      obtain ⟨y2, i2, w2, v2⟩ := numX (s := s2) e2
      obtain ⟨y3, i3, w3, v3⟩ := rawX (s := s3) e3
      obtain ⟨y4, i4, w4, v4⟩ := numX (s := s4) e4
      refine ⟨y0, y1, y2, y3, y4, ⟨i0, i1, i2, i3, i4⟩, by rw [← w0, ← w1, ← w2, ← w3, ← w4], ?_⟩
      rw [← hx, ← v0, ← v1, ← v2, ← v3, ← v4]
      rfl
  · rintro ⟨x0, x1, x2, x3, x4, ⟨i0, i1, i2, i3, i4⟩, rfl, rfl⟩
    simp only [goA_iff, goA_nil]
    refine ⟨dec_ne _, (congrArg Prod.snd (numS_dec i0) :), ⟨dec_ne _, (congrArg Prod.snd (numS_dec i1) :), ⟨dec_ne _, (congrArg Prod.snd (numS_dec i2) :), ⟨by simp, (congrArg Prod.snd (raw_hex i3) :), ⟨dec_ne _, (congrArg Prod.snd (numS_dec i4) :), ?_⟩⟩⟩⟩⟩
    have n0 := congrArg Prod.fst (numS_dec i0)
    have n1 := congrArg Prod.fst (numS_dec i1)
    have n2 := congrArg Prod.fst (numS_dec i2)
    have n3 := congrArg Prod.fst (raw_hex i3)
    have n4 := congrArg Prod.fst (numS_dec i4)
    simp only at n0 n1 n2 n3 n4
    conv => rhs; rw [← n0, ← n1, ← n2, ← n3, ← n4]
    rfl
theorem go_star (k : Int) (r : List (List UInt8)) (a : Sact) (hl : 1 ≤ r.length) : goA [114] 0 r (zeroA k) = (a, true) ↔ ∃ x0 l, (inN x0 = true ∧ l.all inN = true) ∧ r = Lib.decDigits x0.toNat :: l.map Lib.itoa ∧ a = ⟨k, x0, 0, 0, [], [], 0, l⟩ := by
  constructor
  · intro h
    match r, hl with
    | s0 :: r, _ =>
      rw [goA_iff, goA_star _ _ _ _ _ (by simp)] at h
      obtain ⟨_, e0, hr, hx⟩ := h
      obtain ⟨y0, i0, w0, v0⟩ := numX (s := s0) e0
      obtain ⟨l, hl1, hl2, hl3⟩ := nums_all hr
      refine ⟨y0, l, ⟨i0, hl1⟩, by rw [← w0, ← hl2], ?_⟩
      rw [hx, ← hl3, ← v0]
      rfl
  · rintro ⟨x0, l, ⟨i0, i1⟩, rfl, rfl⟩
    have hk := keepS i1
    have n0 := congrArg Prod.fst (numS_dec i0)
    simp only at n0
    rw [goA_iff, goA_star _ _ _ _ _ (by simp)]
    refine ⟨dec_ne _, (congrArg Prod.snd (numS_dec i0) :), hk.1, ?_⟩
    rw [hk.2]
    conv => lhs; rw [← n0]
    rfl
end Go.AM
namespace Go.AM
open Go.Proofs
theorem odd_same {p : List UInt8} {n : Nat} : oddB p p n = false ↔ n = p.length := by
  simp only [oddB, Bool.or_eq_false_iff, Bool.and_eq_false_iff, decide_eq_false_iff_not, decide_true, Bool.true_or, Bool.true_eq_false, or_false]
  omega
theorem odd_star {n : Nat} : oddB [114] [114, 42] n = false ↔ 1 ≤ n ∧ n ≤ 5 := by
  have h : ¬ ([114] : List UInt8) = [114, 42] := by decide
  simp only [oddB, Bool.or_eq_false_iff, Bool.and_eq_false_iff, decide_eq_false_iff_not, h, not_false_eq_true, true_and, List.length_cons, List.length_nil]
  omega
theorem isK_iff (l : List (List UInt8)) (k : Nat) : isK l k = true ↔ wordOf ((k : Int) + 1) = wd l 0 := by simp [isK]
theorem fwd_1 {l : List (List UInt8)} {a : Sact} (h0 : wordOf 1 = wd l 0) (h : actK l 1 = (a, true)) : mayA a = true ∧ wordsA a = l := by
  cases l with
  | nil => exact absurd h0 (by decide)
  | cons w0 R =>
    have hw : w0 = wordOf 1 := h0.symm
    subst hw
    unfold actK at h
    cases ho : oddB (Lib.trimSuffix (partsOf 1) [42]) (partsOf 1) ((wordOf 1 :: R).length - 1) with
    | true => rw [if_pos ho] at h; cases h
    | false =>
      rw [if_neg (by rw [ho]; simp), trim_parts] at h
      rw [trim_parts] at ho
      have hl : R.length = 4 := odd_same.1 ho
      obtain ⟨x0, x1, x2, x3, ⟨i0, i1, i2, i3⟩, hR, rfl⟩ := (go_rokw 1 R a hl).1 h
      refine ⟨?_, ?_⟩
      · rw [may_iff]
        simp [bareA, in0, i0, i1, i2, i3]
      · rw [hR]
        simp [wordsA, partsOf, wordsC, itoaN i0, itoaN i1]
theorem fwd_2 {l : List (List UInt8)} {a : Sact} (h0 : wordOf 2 = wd l 0) (h : actK l 2 = (a, true)) : mayA a = true ∧ wordsA a = l := by
  cases l with
  | nil => exact absurd h0 (by decide)
  | cons w0 R =>
    have hw : w0 = wordOf 2 := h0.symm
    subst hw
    unfold actK at h
    cases ho : oddB (Lib.trimSuffix (partsOf 2) [42]) (partsOf 2) ((wordOf 2 :: R).length - 1) with
    | true => rw [if_pos ho] at h; cases h
    | false =>
      rw [if_neg (by rw [ho]; simp), trim_parts] at h
      rw [trim_parts] at ho
      have hl : R.length = 5 := odd_same.1 ho
      obtain ⟨x0, x1, x2, x3, x4, ⟨i0, i1, i2, i3, i4⟩, hR, rfl⟩ := (go_rtokn 2 R a hl).1 h
      refine ⟨?_, ?_⟩
      · rw [may_iff]
        simp [bareA, in0, i0, i1, i2, i3, i4]
      · rw [hR]
        simp [wordsA, partsOf, wordsC, itoaN i0, itoaN i1, itoaN i2, itoaN i4]
theorem fwd_3 {l : List (List UInt8)} {a : Sact} (h0 : wordOf 3 = wd l 0) (h : actK l 3 = (a, true)) : mayA a = true ∧ wordsA a = l := by
  cases l with
  | nil => exact absurd h0 (by decide)
  | cons w0 R =>
    have hw : w0 = wordOf 3 := h0.symm
    subst hw
    unfold actK at h
    cases ho : oddB (Lib.trimSuffix (partsOf 3) [42]) (partsOf 3) ((wordOf 3 :: R).length - 1) with
    | true => rw [if_pos ho] at h; cases h
    | false =>
      rw [if_neg (by rw [ho]; simp), trim_parts] at h
      rw [trim_parts] at ho
      have hl : R.length = 1 := odd_same.1 ho
      obtain ⟨x0, i0, hR, rfl⟩ := (go_r 3 R a hl).1 h
      refine ⟨?_, ?_⟩
      · rw [may_iff]
        simp [bareA, in0, i0]
      · rw [hR]
        simp [wordsA, partsOf, wordsC, itoaN i0]
theorem fwd_4 {l : List (List UInt8)} {a : Sact} (h0 : wordOf 4 = wd l 0) (h : actK l 4 = (a, true)) : mayA a = true ∧ wordsA a = l := by
  cases l with
  | nil => exact absurd h0 (by decide)
  | cons w0 R =>
    have hw : w0 = wordOf 4 := h0.symm
    subst hw
    unfold actK at h
    cases ho : oddB (Lib.trimSuffix (partsOf 4) [42]) (partsOf 4) ((wordOf 4 :: R).length - 1) with
    | true => rw [if_pos ho] at h; cases h
    | false =>
      rw [if_neg (by rw [ho]; simp), trim_parts] at h
      rw [trim_parts] at ho
      have hl : R.length = 2 := odd_same.1 ho
      obtain ⟨x0, x1, ⟨i0, i1⟩, hR, rfl⟩ := (go_rt 4 R a hl).1 h
      refine ⟨?_, ?_⟩
      · rw [may_iff]
        simp [bareA, in0, i0, i1]
      · rw [hR]
        simp [wordsA, partsOf, wordsC, itoaN i0, itoaN i1]
theorem fwd_5 {l : List (List UInt8)} {a : Sact} (h0 : wordOf 5 = wd l 0) (h : actK l 5 = (a, true)) : mayA a = true ∧ wordsA a = l := by
  cases l with
  | nil => exact absurd h0 (by decide)
  | cons w0 R =>
    have hw : w0 = wordOf 5 := h0.symm
    subst hw
    unfold actK at h
    cases ho : oddB (Lib.trimSuffix (partsOf 5) [42]) (partsOf 5) ((wordOf 5 :: R).length - 1) with
    | true => rw [if_pos ho] at h; cases h
    | false =>
      rw [if_neg (by rw [ho]; simp), trim_parts] at h
      rw [trim_parts] at ho
      have hl : R.length = 1 := odd_same.1 ho
      obtain ⟨x0, i0, hR, rfl⟩ := (go_o 5 R a hl).1 h
      refine ⟨?_, ?_⟩
      · rw [may_iff]
        simp [bareA, in0, i0]
      · rw [hR]
        simp [wordsA, partsOf, wordsC, itoaN i0]
theorem fwd_6 {l : List (List UInt8)} {a : Sact} (h0 : wordOf 6 = wd l 0) (h : actK l 6 = (a, true)) : mayA a = true ∧ wordsA a = l := by
  cases l with
  | nil => exact absurd h0 (by decide)
  | cons w0 R =>
    have hw : w0 = wordOf 6 := h0.symm
    subst hw
    unfold actK at h
    cases ho : oddB (Lib.trimSuffix (partsOf 6) [42]) (partsOf 6) ((wordOf 6 :: R).length - 1) with
    | true => rw [if_pos ho] at h; cases h
    | false =>
      rw [if_neg (by rw [ho]; simp), trim_parts] at h
      rw [trim_parts] at ho
      have hl : R.length = 1 := odd_same.1 ho
      obtain ⟨x0, i0, hR, rfl⟩ := (go_o 6 R a hl).1 h
      refine ⟨?_, ?_⟩
      · rw [may_iff]
        simp [bareA, in0, i0]
      · rw [hR]
        simp [wordsA, partsOf, wordsC, itoaN i0]
theorem fwd_7 {l : List (List UInt8)} {a : Sact} (h0 : wordOf 7 = wd l 0) (h : actK l 7 = (a, true)) : mayA a = true ∧ wordsA a = l := by
  cases l with
  | nil => exact absurd h0 (by decide)
  | cons w0 R =>
    have hw : w0 = wordOf 7 := h0.symm
    subst hw
    unfold actK at h
    cases ho : oddB (Lib.trimSuffix (partsOf 7) [42]) (partsOf 7) ((wordOf 7 :: R).length - 1) with
    | true => rw [if_pos ho] at h; cases h
    | false =>
      rw [if_neg (by rw [ho]; simp), trim_parts] at h
      rw [trim_parts] at ho
      have hl : R.length = 1 := odd_same.1 ho
      obtain ⟨x0, i0, hR, rfl⟩ := (go_o 7 R a hl).1 h
      refine ⟨?_, ?_⟩
      · rw [may_iff]
        simp [bareA, in0, i0]
      · rw [hR]
        simp [wordsA, partsOf, wordsC, itoaN i0]
theorem fwd_8 {l : List (List UInt8)} {a : Sact} (h0 : wordOf 8 = wd l 0) (h : actK l 8 = (a, true)) : mayA a = true ∧ wordsA a = l := by
  cases l with
  | nil => exact absurd h0 (by decide)
  | cons w0 R =>
    have hw : w0 = wordOf 8 := h0.symm
    subst hw
    unfold actK at h
    cases ho : oddB (Lib.trimSuffix (partsOf 8) [42]) (partsOf 8) ((wordOf 8 :: R).length - 1) with
    | true => rw [if_pos ho] at h; cases h
    | false =>
      rw [if_neg (by rw [ho]; simp), trim_parts] at h
      rw [trim_parts] at ho
      have hl : R.length = 1 := odd_same.1 ho
      obtain ⟨x0, i0, hR, rfl⟩ := (go_r 8 R a hl).1 h
      refine ⟨?_, ?_⟩
      · rw [may_iff]
        simp [bareA, in0, i0]
      · rw [hR]
        simp [wordsA, partsOf, wordsC, itoaN i0]
theorem fwd_9 {l : List (List UInt8)} {a : Sact} (h0 : wordOf 9 = wd l 0) (h : actK l 9 = (a, true)) : mayA a = true ∧ wordsA a = l := by
  cases l with
  | nil => exact absurd h0 (by decide)
  | cons w0 R =>
    have hw : w0 = wordOf 9 := h0.symm
    subst hw
    unfold actK at h
    cases ho : oddB (Lib.trimSuffix (partsOf 9) [42]) (partsOf 9) ((wordOf 9 :: R).length - 1) with
    | true => rw [if_pos ho] at h; cases h
    | false =>
      rw [if_neg (by rw [ho]; simp), trim_parts] at h
      rw [trim_parts] at ho
      have hl : R.length = 1 := odd_same.1 ho
      obtain ⟨x0, i0, hR, rfl⟩ := (go_r 9 R a hl).1 h
      refine ⟨?_, ?_⟩
      · rw [may_iff]
        simp [bareA, in0, i0]
      · rw [hR]
        simp [wordsA, partsOf, wordsC, itoaN i0]
theorem fwd_10 {l : List (List UInt8)} {a : Sact} (h0 : wordOf 10 = wd l 0) (h : actK l 10 = (a, true)) : mayA a = true ∧ wordsA a = l := by
  cases l with
  | nil => exact absurd h0 (by decide)
  | cons w0 R =>
    have hw : w0 = wordOf 10 := h0.symm
    subst hw
    unfold actK at h
    cases ho : oddB (Lib.trimSuffix (partsOf 10) [42]) (partsOf 10) ((wordOf 10 :: R).length - 1) with
    | true => rw [if_pos ho] at h; cases h
    | false =>
      rw [if_neg (by rw [ho]; simp), trim_parts] at h
      rw [trim_parts] at ho
      have hl : R.length = 2 := odd_same.1 ho
      obtain ⟨x0, x1, ⟨i0, i1⟩, hR, rfl⟩ := (go_rn 10 R a hl).1 h
      refine ⟨?_, ?_⟩
      · rw [may_iff]
        simp [bareA, in0, i0, i1]
      · rw [hR]
        simp [wordsA, partsOf, wordsC, itoaN i0, itoaN i1]
theorem fwd_11 {l : List (List UInt8)} {a : Sact} (h0 : wordOf 11 = wd l 0) (h : actK l 11 = (a, true)) : mayA a = true ∧ wordsA a = l := by
  cases l with
  | nil => exact absurd h0 (by decide)
  | cons w0 R =>
    have hw : w0 = wordOf 11 := h0.symm
    subst hw
    unfold actK at h
    cases ho : oddB (Lib.trimSuffix (partsOf 11) [42]) (partsOf 11) ((wordOf 11 :: R).length - 1) with
    | true => rw [if_pos ho] at h; cases h
    | false =>
      rw [if_neg (by rw [ho]; simp), trim_parts] at h
      rw [trim_parts] at ho
      have hl : 1 ≤ R.length ∧ R.length ≤ 5 := odd_star.1 ho
      obtain ⟨x0, ks, ⟨i0, i1⟩, hR, rfl⟩ := (go_star 11 R a hl.1).1 h
      have hk : ks.length ≤ 4 := by
        have := congrArg List.length hR
        simp at this
        omega
      refine ⟨?_, ?_⟩
      · rw [may_iff]
        simp only [i1]
        simp [bareA, in0, i0, hk]
      · rw [hR]
        simp [wordsA, partsOf, wordsC, itoaN i0]
theorem fwd_12 {l : List (List UInt8)} {a : Sact} (h0 : wordOf 12 = wd l 0) (h : actK l 12 = (a, true)) : mayA a = true ∧ wordsA a = l := by
  cases l with
  | nil => exact absurd h0 (by decide)
  | cons w0 R =>
    have hw : w0 = wordOf 12 := h0.symm
    subst hw
    unfold actK at h
    cases ho : oddB (Lib.trimSuffix (partsOf 12) [42]) (partsOf 12) ((wordOf 12 :: R).length - 1) with
    | true => rw [if_pos ho] at h; cases h
    | false =>
      rw [if_neg (by rw [ho]; simp), trim_parts] at h
      rw [trim_parts] at ho
      have hl : R.length = 1 := odd_same.1 ho
      obtain ⟨x0, i0, hR, rfl⟩ := (go_r 12 R a hl).1 h
      refine ⟨?_, ?_⟩
      · rw [may_iff]
        simp [bareA, in0, i0]
      · rw [hR]
        simp [wordsA, partsOf, wordsC, itoaN i0]
theorem bwd_1 {a : Sact} (h : mayA a = true) (hk : a.kind = 1) : actK (wordsA a) 1 = (a, true) := by
  obtain ⟨h0, _, _, h3, h4, h5, h6, h7, h8, h9, h10⟩ := (may_iff a).1 h
  have hw : wordsA a = wordOf 1 :: [Lib.decDigits a.rep.toNat, Lib.decDigits a.of.toNat, 61 :: hexL a.key, 61 :: hexL a.word] := by simp [wordsA, hk, partsOf, wordsC, itoaN h3, itoaN h5]
  have ha : a = ⟨1, a.rep, 0, a.of, a.key, a.word, 0, []⟩ := by
    conv => lhs; rw [h10]
    simp [bareA, hk]
  have hg := (go_rokw 1 [Lib.decDigits a.rep.toNat, Lib.decDigits a.of.toNat, 61 :: hexL a.key, 61 :: hexL a.word] a rfl).2 ⟨a.rep, a.of, a.key, a.word, ⟨h3, h5, h7, h8⟩, rfl, ha⟩
  rw [hw]
  have ht : Lib.trimSuffix (partsOf 1) [42] = partsOf 1 := by rw [trim_parts]; rfl
  unfold actK
  rw [ht, if_neg (by rw [odd_same.2 (by rfl)]; simp)]
  exact hg
theorem bwd_2 {a : Sact} (h : mayA a = true) (hk : a.kind = 2) : actK (wordsA a) 2 = (a, true) := by
  obtain ⟨h0, _, _, h3, h4, h5, h6, h7, h8, h9, h10⟩ := (may_iff a).1 h
  have hw : wordsA a = wordOf 2 :: [Lib.decDigits a.rep.toNat, Lib.decDigits a.to.toNat, Lib.decDigits a.of.toNat, 61 :: hexL a.key, Lib.decDigits a.n.toNat] := by simp [wordsA, hk, partsOf, wordsC, itoaN h3, itoaN h4, itoaN h5, itoaN h6]
  have ha : a = ⟨2, a.rep, a.to, a.of, a.key, [], a.n, []⟩ := by
    conv => lhs; rw [h10]
    simp [bareA, hk]
  have hg := (go_rtokn 2 [Lib.decDigits a.rep.toNat, Lib.decDigits a.to.toNat, Lib.decDigits a.of.toNat, 61 :: hexL a.key, Lib.decDigits a.n.toNat] a rfl).2 ⟨a.rep, a.to, a.of, a.key, a.n, ⟨h3, h4, h5, h7, h6⟩, rfl, ha⟩
  rw [hw]
  have ht : Lib.trimSuffix (partsOf 2) [42] = partsOf 2 := by rw [trim_parts]; rfl
  unfold actK
  rw [ht, if_neg (by rw [odd_same.2 (by rfl)]; simp)]
  exact hg
theorem bwd_3 {a : Sact} (h : mayA a = true) (hk : a.kind = 3) : actK (wordsA a) 3 = (a, true) := by
  obtain ⟨h0, _, _, h3, h4, h5, h6, h7, h8, h9, h10⟩ := (may_iff a).1 h
  have hw : wordsA a = wordOf 3 :: [Lib.decDigits a.rep.toNat] := by simp [wordsA, hk, partsOf, wordsC, itoaN h3]
  have ha : a = ⟨3, a.rep, 0, 0, [], [], 0, []⟩ := by
    conv => lhs; rw [h10]
    simp [bareA, hk]
  have hg := (go_r 3 [Lib.decDigits a.rep.toNat] a rfl).2 ⟨a.rep, h3, rfl, ha⟩
  rw [hw]
  have ht : Lib.trimSuffix (partsOf 3) [42] = partsOf 3 := by rw [trim_parts]; rfl
  unfold actK
  rw [ht, if_neg (by rw [odd_same.2 (by rfl)]; simp)]
  exact hg
theorem bwd_4 {a : Sact} (h : mayA a = true) (hk : a.kind = 4) : actK (wordsA a) 4 = (a, true) := by
  obtain ⟨h0, _, _, h3, h4, h5, h6, h7, h8, h9, h10⟩ := (may_iff a).1 h
  have hw : wordsA a = wordOf 4 :: [Lib.decDigits a.rep.toNat, Lib.decDigits a.to.toNat] := by simp [wordsA, hk, partsOf, wordsC, itoaN h3, itoaN h4]
  have ha : a = ⟨4, a.rep, a.to, 0, [], [], 0, []⟩ := by
    conv => lhs; rw [h10]
    simp [bareA, hk]
  have hg := (go_rt 4 [Lib.decDigits a.rep.toNat, Lib.decDigits a.to.toNat] a rfl).2 ⟨a.rep, a.to, ⟨h3, h4⟩, rfl, ha⟩
  rw [hw]
  have ht : Lib.trimSuffix (partsOf 4) [42] = partsOf 4 := by rw [trim_parts]; rfl
  unfold actK
  rw [ht, if_neg (by rw [odd_same.2 (by rfl)]; simp)]
  exact hg
theorem bwd_5 {a : Sact} (h : mayA a = true) (hk : a.kind = 5) : actK (wordsA a) 5 = (a, true) := by
  obtain ⟨h0, _, _, h3, h4, h5, h6, h7, h8, h9, h10⟩ := (may_iff a).1 h
  have hw : wordsA a = wordOf 5 :: [Lib.decDigits a.of.toNat] := by simp [wordsA, hk, partsOf, wordsC, itoaN h5]
  have ha : a = ⟨5, 0, 0, a.of, [], [], 0, []⟩ := by
    conv => lhs; rw [h10]
    simp [bareA, hk]
  have hg := (go_o 5 [Lib.decDigits a.of.toNat] a rfl).2 ⟨a.of, h5, rfl, ha⟩
  rw [hw]
  have ht : Lib.trimSuffix (partsOf 5) [42] = partsOf 5 := by rw [trim_parts]; rfl
  unfold actK
  rw [ht, if_neg (by rw [odd_same.2 (by rfl)]; simp)]
  exact hg
theorem bwd_6 {a : Sact} (h : mayA a = true) (hk : a.kind = 6) : actK (wordsA a) 6 = (a, true) := by
  obtain ⟨h0, _, _, h3, h4, h5, h6, h7, h8, h9, h10⟩ := (may_iff a).1 h
  have hw : wordsA a = wordOf 6 :: [Lib.decDigits a.of.toNat] := by simp [wordsA, hk, partsOf, wordsC, itoaN h5]
  have ha : a = ⟨6, 0, 0, a.of, [], [], 0, []⟩ := by
    conv => lhs; rw [h10]
    simp [bareA, hk]
  have hg := (go_o 6 [Lib.decDigits a.of.toNat] a rfl).2 ⟨a.of, h5, rfl, ha⟩
  rw [hw]
  have ht : Lib.trimSuffix (partsOf 6) [42] = partsOf 6 := by rw [trim_parts]; rfl
  unfold actK
  rw [ht, if_neg (by rw [odd_same.2 (by rfl)]; simp)]
  exact hg
theorem bwd_7 {a : Sact} (h : mayA a = true) (hk : a.kind = 7) : actK (wordsA a) 7 = (a, true) := by
  obtain ⟨h0, _, _, h3, h4, h5, h6, h7, h8, h9, h10⟩ := (may_iff a).1 h
  have hw : wordsA a = wordOf 7 :: [Lib.decDigits a.of.toNat] := by simp [wordsA, hk, partsOf, wordsC, itoaN h5]
  have ha : a = ⟨7, 0, 0, a.of, [], [], 0, []⟩ := by
    conv => lhs; rw [h10]
    simp [bareA, hk]
  have hg := (go_o 7 [Lib.decDigits a.of.toNat] a rfl).2 ⟨a.of, h5, rfl, ha⟩
  rw [hw]
  have ht : Lib.trimSuffix (partsOf 7) [42] = partsOf 7 := by rw [trim_parts]; rfl
  unfold actK
  rw [ht, if_neg (by rw [odd_same.2 (by rfl)]; simp)]
  exact hg
theorem bwd_8 {a : Sact} (h : mayA a = true) (hk : a.kind = 8) : actK (wordsA a) 8 = (a, true) := by
  obtain ⟨h0, _, _, h3, h4, h5, h6, h7, h8, h9, h10⟩ := (may_iff a).1 h
  have hw : wordsA a = wordOf 8 :: [Lib.decDigits a.rep.toNat] := by simp [wordsA, hk, partsOf, wordsC, itoaN h3]
  have ha : a = ⟨8, a.rep, 0, 0, [], [], 0, []⟩ := by
    conv => lhs; rw [h10]
    simp [bareA, hk]
  have hg := (go_r 8 [Lib.decDigits a.rep.toNat] a rfl).2 ⟨a.rep, h3, rfl, ha⟩
  rw [hw]
  have ht : Lib.trimSuffix (partsOf 8) [42] = partsOf 8 := by rw [trim_parts]; rfl
  unfold actK
  rw [ht, if_neg (by rw [odd_same.2 (by rfl)]; simp)]
  exact hg
theorem bwd_9 {a : Sact} (h : mayA a = true) (hk : a.kind = 9) : actK (wordsA a) 9 = (a, true) := by
  obtain ⟨h0, _, _, h3, h4, h5, h6, h7, h8, h9, h10⟩ := (may_iff a).1 h
  have hw : wordsA a = wordOf 9 :: [Lib.decDigits a.rep.toNat] := by simp [wordsA, hk, partsOf, wordsC, itoaN h3]
  have ha : a = ⟨9, a.rep, 0, 0, [], [], 0, []⟩ := by
    conv => lhs; rw [h10]
    simp [bareA, hk]
  have hg := (go_r 9 [Lib.decDigits a.rep.toNat] a rfl).2 ⟨a.rep, h3, rfl, ha⟩
  rw [hw]
  have ht : Lib.trimSuffix (partsOf 9) [42] = partsOf 9 := by rw [trim_parts]; rfl
  unfold actK
  rw [ht, if_neg (by rw [odd_same.2 (by rfl)]; simp)]
  exact hg
theorem bwd_10 {a : Sact} (h : mayA a = true) (hk : a.kind = 10) : actK (wordsA a) 10 = (a, true) := by
  obtain ⟨h0, _, _, h3, h4, h5, h6, h7, h8, h9, h10⟩ := (may_iff a).1 h
  have hw : wordsA a = wordOf 10 :: [Lib.decDigits a.rep.toNat, Lib.decDigits a.n.toNat] := by simp [wordsA, hk, partsOf, wordsC, itoaN h3, itoaN h6]
  have ha : a = ⟨10, a.rep, 0, 0, [], [], a.n, []⟩ := by
    conv => lhs; rw [h10]
    simp [bareA, hk]
  have hg := (go_rn 10 [Lib.decDigits a.rep.toNat, Lib.decDigits a.n.toNat] a rfl).2 ⟨a.rep, a.n, ⟨h3, h6⟩, rfl, ha⟩
  rw [hw]
  have ht : Lib.trimSuffix (partsOf 10) [42] = partsOf 10 := by rw [trim_parts]; rfl
  unfold actK
  rw [ht, if_neg (by rw [odd_same.2 (by rfl)]; simp)]
  exact hg
theorem bwd_11 {a : Sact} (h : mayA a = true) (hk : a.kind = 11) : actK (wordsA a) 11 = (a, true) := by
  obtain ⟨h0, _, _, h3, h4, h5, h6, h7, h8, h9, h10⟩ := (may_iff a).1 h
  have hw : wordsA a = wordOf 11 :: Lib.decDigits a.rep.toNat :: a.keep.map Lib.itoa := by simp [wordsA, hk, partsOf, wordsC, itoaN h3]
  have ha : a = ⟨11, a.rep, 0, 0, [], [], 0, a.keep⟩ := by
    conv => lhs; rw [h10]
    simp [bareA, hk]
  have hg := (go_star 11 (Lib.decDigits a.rep.toNat :: a.keep.map Lib.itoa) a (by simp)).2 ⟨a.rep, a.keep, ⟨h3, h0⟩, rfl, ha⟩
  rw [hw]
  have ht : Lib.trimSuffix (partsOf 11) [42] = [114] := by rw [trim_parts]; rfl
  unfold actK
  rw [ht, if_neg ?_]
  · exact hg
  · have ho : oddB [114] [114, 42] ((wordOf 11 :: Lib.decDigits a.rep.toNat :: a.keep.map Lib.itoa).length - 1) = false := odd_star.2 (by simp; omega)
    intro hc
    exact absurd (hc.symm.trans ho) (by simp)
theorem bwd_12 {a : Sact} (h : mayA a = true) (hk : a.kind = 12) : actK (wordsA a) 12 = (a, true) := by
  obtain ⟨h0, _, _, h3, h4, h5, h6, h7, h8, h9, h10⟩ := (may_iff a).1 h
  have hw : wordsA a = wordOf 12 :: [Lib.decDigits a.rep.toNat] := by simp [wordsA, hk, partsOf, wordsC, itoaN h3]
  have ha : a = ⟨12, a.rep, 0, 0, [], [], 0, []⟩ := by
    conv => lhs; rw [h10]
    simp [bareA, hk]
  have hg := (go_r 12 [Lib.decDigits a.rep.toNat] a rfl).2 ⟨a.rep, h3, rfl, ha⟩
  rw [hw]
  have ht : Lib.trimSuffix (partsOf 12) [42] = partsOf 12 := by rw [trim_parts]; rfl
  unfold actK
  rw [ht, if_neg (by rw [odd_same.2 (by rfl)]; simp)]
  exact hg
/-- Words are an act just where they are the act's words, and the act may be. -/
theorem actS_iff (l : List (List UInt8)) (a : Sact) : actS l = (a, true) ↔ mayA a = true ∧ wordsA a = l := by
  constructor
  · intro h
    unfold actS at h
    split at h
    · rename_i k hk
      have hk2 := List.find?_some hk
      have hk3 := List.mem_range.1 (List.mem_of_find?_eq_some hk)
      rw [isK_iff] at hk2
      obtain ⟨K, hK⟩ : ∃ K, K = (k : Int) + 1 := ⟨_, rfl⟩
      rw [← hK] at hk2 h
      rcases kinds (k := K) (by omega) (by omega) with rfl | rfl | rfl | rfl | rfl | rfl | rfl | rfl | rfl | rfl | rfl | rfl
      · exact fwd_1 hk2 h
      · exact fwd_2 hk2 h
      · exact fwd_3 hk2 h
      · exact fwd_4 hk2 h
      · exact fwd_5 hk2 h
      · exact fwd_6 hk2 h
      · exact fwd_7 hk2 h
      · exact fwd_8 hk2 h
      · exact fwd_9 hk2 h
      · exact fwd_10 hk2 h
      · exact fwd_11 hk2 h
      · exact fwd_12 hk2 h
    · cases h
  · rintro ⟨h, rfl⟩
    obtain ⟨_, h1, h2, _⟩ := (may_iff a).1 h
    obtain ⟨i, hi⟩ : ∃ i : Nat, (i : Int) + 1 = a.kind := ⟨(a.kind - 1).toNat, by omega⟩
    have hw : wd (wordsA a) 0 = wordOf a.kind := rfl
    rw [actS_at (i := i) (by omega) (fun k hk => ?_) ((isK_iff _ _).2 (by rw [hi, hw])), hi]
    · rcases kinds h1 h2 with hk | hk | hk | hk | hk | hk | hk | hk | hk | hk | hk | hk <;> rw [hk]
      · exact bwd_1 h hk
      · exact bwd_2 h hk
      · exact bwd_3 h hk
      · exact bwd_4 h hk
      · exact bwd_5 h hk
      · exact bwd_6 h hk
      · exact bwd_7 h hk
      · exact bwd_8 h hk
      · exact bwd_9 h hk
      · exact bwd_10 h hk
      · exact bwd_11 h hk
      · exact bwd_12 h hk
    · cases hc : isK (wordsA a) k with
      | false => rfl
      | true =>
        rw [isK_iff, hw] at hc
        have := word_inj (by omega) (by omega) h1 h2 hc
        omega
end Go.AM
namespace Go.AM
open Go.Proofs
theorem act_line (x : List UInt8) (a : Sact) : actS (spl 32 x) = (a, true) ↔ mayA a = true ∧ lineL a = x := by
  rw [actS_iff]
  constructor
  · rintro ⟨h, hw⟩
    rw [← spl_line h] at hw
    exact ⟨h, spl_inj hw⟩
  · rintro ⟨h, rfl⟩
    exact ⟨h, (spl_line h).symm⟩
/-- A script. -/
def linesL (L : List Sact) : List UInt8 := L.flatMap fun a => lineL a ++ [10]
theorem getP_lines : ∀ (L : List Sact) (n : Nat) (out : List Sact), L.all mayA = true → (linesL L).length ≤ n → out.length + L.length ≤ 400 → getP n (linesL L) out = (out ++ L, 0, 0) := by
  intro L
  induction L with
  | nil =>
    intro n out _ _ _
    cases n <;> simp [linesL, getP]
  | cons a L ih =>
    intro n out hm hn h4
    simp only [List.all_cons, Bool.and_eq_true] at hm
    have e : linesL (a :: L) = lineL a ++ 10 :: linesL L := by simp [linesL]
    rw [e] at hn ⊢
    simp at hn h4
    obtain ⟨n, rfl⟩ : ∃ m, n = m + 1 := ⟨n - 1, by omega⟩
    have hx := (act_line (lineL a) a).2 ⟨hm.1, rfl⟩
    rw [getP, if_neg (by simp), cutS_hit (line_no10 hm.1)]
    simp only [hx, Bool.true_and]
    rw [if_pos (by simp; omega), ih n (out ++ [a]) hm.2 (by omega) (by simp; omega)]
    simp
theorem may_words (a : Sact) : (actS (wordsA a)).2 = true ∧ a = (actS (wordsA a)).1 ↔ mayA a = true := by
  constructor
  · rintro ⟨h1, h2⟩
    have h3 : actS (wordsA a) = (a, true) := by rw [Prod.ext_iff]; exact ⟨h2.symm, h1⟩
    exact ((actS_iff _ _).1 h3).1
  · intro h
    rw [(actS_iff _ _).2 ⟨h, rfl⟩]
    exact ⟨rfl, rfl⟩
theorem join_words {a : Sact} (h : mayA a = true) : Lib.join (wordsA a) [32] = lineL a := by
  rw [line_words h]
  unfold wordsA
  rw [Lib.join_cons]
  simp only [jn, Lib.joinTail]
  rw [List.flatMap_def]
  rfl
end Go.AM
namespace Go.AM
open Go.Proofs
def aw1 : Sact := ⟨1, 1, 0, 0, [107], [], 0, []⟩
def aw2 : Sact := ⟨11, 2, 0, 0, [], [], 0, [0, 3]⟩
def awT : List UInt8 := [100, 111, 32, 49, 32, 48, 32, 61, 54, 98, 32, 61, 10, 99, 114, 97, 115, 104, 32, 50, 32, 48, 32, 51, 10]
theorem aw_lines : linesL [aw1, aw2] = awT := by
  have d0 : Lib.decDigits 0 = [48] := dec_small (by omega)
  have d1 : Lib.decDigits 1 = [49] := dec_small (by omega)
  have d2 : Lib.decDigits 2 = [50] := dec_small (by omega)
  have d3 : Lib.decDigits 3 = [51] := dec_small (by omega)
  have hx : hexL [107] = [54, 98] := by decide
  have hn : hexL [] = [] := rfl
  simp [linesL, lineL, aw1, aw2, dd, hh, d0, d1, d2, d3, hx, hn, awT]
theorem aw_get : getF awT = ([aw1, aw2], 0, 0) := by
  unfold getF
  rw [if_neg (by decide), ← aw_lines]
  exact getP_lines [aw1, aw2] _ [] (by decide) (Nat.le_refl _) (by decide)
set_option maxRecDepth 8000 in
set_option maxHeartbeats 2000000 in
theorem c_awake : Pure Tryd.prog 6 [] (.b true) := by
  have g := c_script_Get awT (by decide)
  rw [aw_get] at g
  refine proc_of (cx Tryd.prog 35 [0, 1, 2, 3] [0]) 35 [.tmp 0] Tryd.func6 rfl rfl rfl rfl rfl rfl (Nat.le_refl _) rfl ?_
  refine AWp.go [] [] fun K hK => ?_
  simp
  first | refine hK _ _ ?_ | refine ⟨by omega, hK _ _ ?_⟩ | refine ⟨by omega, by omega, hK _ _ ?_⟩
  clear hK K
  refine AWp.go [1, 2, 3] [] fun K hK => ?_
  simp
  refine call_pure g (by simp [awT]) ?_
  simp
  first | refine hK _ _ ?_ | refine ⟨by omega, hK _ _ ?_⟩ | refine ⟨by omega, by omega, hK _ _ ?_⟩
  clear hK K
  refine AWp.go [0] [] fun K hK => ?_
  simp [sactsAV, sactC, aw1, aw2, intsAV]
  first | refine hK _ _ ?_ | refine ⟨by omega, hK _ _ ?_⟩ | refine ⟨by omega, by omega, hK _ _ ?_⟩
  clear hK K
  refine AWp.ret ?_
  simp
end Go.AM
namespace Go.AM
open Go.Proofs Go.Shelf Go.RowKit Go.Lib
/-- Data in a world. -/
def D (w : World) (x : AV) (v : Value) : Prop := Dat (fun b => b < w.heap.size) w x v
theorem D.keep {w w' : World} {x : AV} {v : Value} (h : D w x v) (hb : Below w.heap.size w w') : D w' x v :=
  Dat.mono (fun bk h => ⟨Nat.lt_of_lt_of_le h hb.size, hb.block bk h⟩) h
theorem gl_keep {w w' : World} (h : Gl (fun b => b < w.heap.size) w) (hb : Below w.heap.size w w') : Gl (fun b => b < w'.heap.size) w' :=
  h.mono fun bk h => ⟨Nat.lt_of_lt_of_le h hb.size, hb.block bk h⟩
/-- A contract over data, in the model's own words. -/
theorem callsD {P : Program} {f : Nat} {args : List AV} {r : AV} (h : Pure P f args r) {w : World} {vs : Array Value} (hl : args.length = vs.size) (hv : ∀ (k : Nat) c, args[k]? = some c → D w c (vs.getD k undef)) (hG : Gl (fun b => b < w.heap.size) w) (hr : r.data = true) :
    Calls P f vs w fun e w' => ∃ v, e = .returned v ∧ D w' r v ∧ Below w.heap.size w w' := by
  refine (h.2 w (fun _ => 0) (fun _ => none) (fun bk => bk < w.heap.size) vs (rel_empty _ _ _ (fun _ h => h) hG) (by simp) hl (fun k c hk => (hv k c hk).val (E := ⟨w, fun _ => 0, fun _ => none, fun bk => bk < w.heap.size, St.ofBoxes [], #[]⟩) _)).mono ?_
  rintro e w' ⟨v, E', rfl, rfl, I, _, _, hv⟩
  refine ⟨v, rfl, Dat.mono (fun bk hb => ⟨(I.rel.pub bk hb).1, rfl⟩) (hv.dat hr), I.fr.os.1, I.fr.tape, I.fr.output, I.fr.size, fun k hk => I.fr.block k hk (by simp)⟩
/-- The same, where what comes back is a value and a truth value. -/
theorem callsT {P : Program} {f : Nat} {args : List AV} {r : AV} {b : Bool} (h : Pure P f args (.tup [r, .b b])) {w : World} {vs : Array Value} (hl : args.length = vs.size) (hv : ∀ (k : Nat) c, args[k]? = some c → D w c (vs.getD k undef)) (hG : Gl (fun b => b < w.heap.size) w) (hr : r.data = true) :
    Calls P f vs w fun e w' => ∃ v, e = .returned (.tuple #[v, .bool b]) ∧ D w' r v ∧ Below w.heap.size w w' := by
  refine (h.2 w (fun _ => 0) (fun _ => none) (fun bk => bk < w.heap.size) vs (rel_empty _ _ _ (fun _ h => h) hG) (by simp) hl (fun k c hk => (hv k c hk).val (E := ⟨w, fun _ => 0, fun _ => none, fun bk => bk < w.heap.size, St.ofBoxes [], #[]⟩) _)).mono ?_
  rintro e w' ⟨v, E', rfl, rfl, I, _, _, hv⟩
  cases hv with
  | tup _ _ arr hs hc =>
    have h2 : arr.size = 2 := hs.symm
    have e0 := hc 0 _ rfl
    have e1 := hc 1 _ rfl
    obtain ⟨l⟩ := arr
    match l, h2 with
    | [x, y], _ =>
      have hy : y = .bool b := by
        have e1 : Val E' ((Place.slot 0 []).sub 1) (.b b) y := e1
        cases e1; rfl
      subst hy
      exact ⟨x, rfl, Dat.mono (fun bk hb => ⟨(I.rel.pub bk hb).1, rfl⟩) (Val.dat (show Val E' ((Place.slot 0 []).sub 0) r x from e0) hr), I.fr.os.1, I.fr.tape, I.fr.output, I.fr.size, fun k hk => I.fr.block k hk (by simp)⟩
theorem two {w : World} {a b : AV} {x y : Value} (h0 : D w a x) (h1 : D w b y) : ∀ (k : Nat) c, [a, b][k]? = some c → D w c ((#[x, y] : Array Value).getD k undef) := by
  intro k c hk
  match k, hk with
  | 0, hk => obtain rfl := Option.some.inj hk; exact h0
  | 1, hk => obtain rfl := Option.some.inj hk; exact h1
theorem one1 {w : World} {a : AV} {x : Value} (h0 : D w a x) : ∀ (k : Nat) c, [a][k]? = some c → D w c ((#[x] : Array Value).getD k undef) := by
  intro k c hk
  match k, hk with
  | 0, hk => obtain rfl := Option.some.inj hk; exact h0
theorem c_wordsF (a : Sact) (ha : InR a) : Pure Tryd.prog 21 [.agg (sactC a)] (.sl .fro 1 (txs (wordsA a))) := (c_words a ha).fro
/-- What a row of texts gives Join. -/
theorem D.texts {w : World} {l : List (List UInt8)} {v : Value} (h : D w (.sl .fro 1 (txs l)) v) (hne : l ≠ []) : ∃ bk o c, v = .slice (some ⟨bk, o, none⟩) l.length c ∧ l.length ≤ c ∧ bk < w.heap.size ∧ ∀ (j : Nat) x, (l.map tx)[j]? = some x → w.cell? ⟨bk, o + j, none⟩ = some (.string x) := by
  unfold D at h
  generalize hX : txs l = X at h
  cases h with
  | sl0 => exact absurd (by simpa [txs, strsAV] using hX) hne
  | sl1 => exact absurd (by simpa [txs, strsAV] using hX) hne
  | sl _ _ bk off cap U hp hc hl hU h1 hd =>
    subst hX
    refine ⟨bk, off, cap, by simp, by simpa using hc, hp, fun j x hx => ?_⟩
    have hf : (txs l).flatten = (l.map tx).map AV.s := by
      unfold txs
      generalize l.map tx = ls
      induction ls with
      | nil => rfl
      | cons x ls ih => simpa [strsAV] using ih
    have hk : (txs l).flatten[j]? = some (.s x) := by rw [hf, List.getElem?_map, hx]; rfl
    have h2 := hU j _ hk
    have h3 := hd j _ hk
    rw [h2]
    generalize U j = u at h3
    cases h3; rfl
theorem flatG {α β : Type} {g : α → List β} {n : Nat} (hg : ∀ a, (g a).length = n) : ∀ (l : List α) (j : Nat) (a : α), l[j]? = some a → ∀ {i : Nat}, i < n → (l.map g).flatten[n * j + i]? = (g a)[i]? := by
  intro l
  induction l with
  | nil => intro j a h; simp at h
  | cons x l ih =>
    intro j a h i hi
    rw [List.map_cons, List.flatten_cons]
    cases j with
    | zero =>
      obtain rfl := Option.some.inj (by simpa using h)
      rw [Nat.mul_zero, Nat.zero_add, List.getElem?_append_left (by rw [hg]; exact hi)]
    | succ j =>
      rw [List.getElem?_append_right (by rw [hg, Nat.mul_succ]; omega), hg]
      rw [show n * (j + 1) + i - n = n * j + i by rw [Nat.mul_succ]; omega]
      exact ih j a (by simpa using h) hi
/-- What a row of acts gives a walk. -/
theorem D.acts {w : World} {L : List Sact} {v : Value} (h : D w (.sl .fro 8 (sactsAV L)) v) (hne : L ≠ []) : ∃ bk o c, v = .slice (some ⟨bk, o, none⟩) L.length c ∧ L.length ≤ c ∧ bk < w.heap.size ∧ ∀ (j : Nat) a, L[j]? = some a →
    ∃ us : Fin 8 → Value, (∀ i : Fin 8, w.cell? ⟨bk, o + (8 * j + i.val), none⟩ = some (us i)) ∧ D w (.agg (sactC a)) (.agg #[us 0, us 1, us 2, us 3, us 4, us 5, us 6, us 7]) := by
  unfold D at h
  generalize hX : sactsAV L = X at h
  cases h with
  | sl0 => exact absurd (by simpa [sactsAV] using hX) hne
  | sl1 => exact absurd (by simpa [sactsAV] using hX) hne
  | sl _ _ bk off cap U hp hc hl hU h1 hd =>
    subst hX
    refine ⟨bk, off, cap, by simp, by simpa using hc, hp, fun j a ha => ?_⟩
    have hfl : ∀ i : Fin 8, (sactsAV L).flatten[8 * j + i.val]? = (sactC a)[i.val]? := fun i => flatG sactC_length L j a ha i.2
    refine ⟨fun i => U (8 * j + i.val), fun i => ?_, .agg _ _ rfl fun k c hk => ?_⟩
    · obtain ⟨c, hc⟩ : ∃ c, (sactC a)[i.val]? = some c := ⟨(sactC a)[i.val]'(by rw [sactC_length]; exact i.2), List.getElem?_eq_getElem _⟩
      exact hU _ c (by rw [hfl i, hc])
    · have hk8 : k < 8 := by
        rcases Nat.lt_or_ge k 8 with h | h
        · exact h
        · rw [List.getElem?_eq_none (by rw [sactC_length]; exact h)] at hk; cases hk
      have h3 := hd (8 * j + k) c (by rw [hfl ⟨k, hk8⟩]; exact hk)
      have e : (#[U (8 * j + 0), U (8 * j + 1), U (8 * j + 2), U (8 * j + 3), U (8 * j + 4), U (8 * j + 5), U (8 * j + 6), U (8 * j + 7)] : Array Value).getD k undef = U (8 * j + k) := by
        match k, hk8 with
        | 0, _ => rfl
        | 1, _ => rfl
        | 2, _ => rfl
        | 3, _ => rfl
        | 4, _ => rfl
        | 5, _ => rfl
        | 6, _ => rfl
        | 7, _ => rfl
      show Dat _ _ c ((#[U (8 * j + 0), U (8 * j + 1), U (8 * j + 2), U (8 * j + 3), U (8 * j + 4), U (8 * j + 5), U (8 * j + 6), U (8 * j + 7)] : Array Value).getD k undef)
      rw [e]
      exact h3
theorem D.act {w : World} {a : Sact} {v : Value} (h : D w (.agg (sactC a)) v) : ∃ p n c, v = .agg #[.int .i64 a.kind, .int .i64 a.rep, .int .i64 a.to, .int .i64 a.of, .string (tx a.key), .string (tx a.word), .int .i64 a.n, .slice p n c] := by
  unfold D at h
  cases h with
  | agg _ arr hs hc =>
    have h8 : arr.size = 8 := by rw [← hs]; rfl
    have d0 := hc 0 _ rfl
    have d1 := hc 1 _ rfl
    have d2 := hc 2 _ rfl
    have d3 := hc 3 _ rfl
    have d4 := hc 4 _ rfl
    have d5 := hc 5 _ rfl
    have d6 := hc 6 _ rfl
    have d7 := hc 7 _ rfl
    obtain ⟨l⟩ := arr
    match l, h8 with
    | [x0, x1, x2, x3, x4, x5, x6, x7], _ =>
      have e0 : x0 = .int .i64 a.kind := by
        have d0 : Dat _ _ (.i .i64 a.kind) x0 := d0
        cases d0; rfl
      have e1 : x1 = .int .i64 a.rep := by
        have d1 : Dat _ _ (.i .i64 a.rep) x1 := d1
        cases d1; rfl
      have e2 : x2 = .int .i64 a.to := by
        have d2 : Dat _ _ (.i .i64 a.to) x2 := d2
        cases d2; rfl
      have e3 : x3 = .int .i64 a.of := by
        have d3 : Dat _ _ (.i .i64 a.of) x3 := d3
        cases d3; rfl
      have e4 : x4 = .string (tx a.key) := by
        have d4 : Dat _ _ (.s (tx a.key)) x4 := d4
        cases d4; rfl
      have e5 : x5 = .string (tx a.word) := by
        have d5 : Dat _ _ (.s (tx a.word)) x5 := d5
        cases d5; rfl
      have e6 : x6 = .int .i64 a.n := by
        have d6 : Dat _ _ (.i .i64 a.n) x6 := d6
        cases d6; rfl
      have e7 : ∃ p n c, x7 = .slice p n c := by
        have d7 : Dat _ _ (.sl .fro 1 (intsAV a.keep)) x7 := d7
        generalize intsAV a.keep = X at d7
        cases d7 with
        | sl0 => exact ⟨_, _, _, rfl⟩
        | sl1 => exact ⟨_, _, _, rfl⟩
        | sl => exact ⟨_, _, _, rfl⟩
      obtain ⟨p, n, c, e7⟩ := e7
      exact ⟨p, n, c, by rw [e0, e1, e2, e3, e4, e5, e6, e7]⟩
/-- What Put makes of acts. -/
def putS (L : List Sact) : List UInt8 × Int := if L.all mayA then (if 65536 < (linesL L).length then ([], 7) else (linesL L, 0)) else ([], 1)
/-- An act that is not too great. -/
def Lite (a : Sact) : Prop := a.key.length ≤ 100 ∧ a.word.length ≤ 100 ∧ a.keep.length ≤ 20
theorem words_brief {a : Sact} (h : Lite a) (hr : InR a) : Brief (wordsA a) := by
  obtain ⟨h1, h2, h3⟩ := h
  have hw : ∀ n : Int, (-9223372036854775808 ≤ n ∧ n ≤ 9223372036854775807) → (Lib.itoa n).length ≤ 1000000 := fun n hn => Nat.le_trans (Lib.itoa_length_le n hn.1 hn.2) (by omega)
  constructor
  · have h5 := parts_len a.kind
    have : ∀ l : List UInt8, (l.flatMap (wordsC a)).length ≤ l.length * (1 + a.keep.length) := by
      intro l
      induction l with
      | nil => simp
      | cons c l ih =>
        have := wordsC_len a c
        rw [List.flatMap_cons, List.length_append, List.length_cons, Nat.succ_mul]
        omega
    have h6 := this (partsOf a.kind)
    have h7 : (partsOf a.kind).length * (1 + a.keep.length) ≤ 5 * 21 := Nat.mul_le_mul h5 (by omega)
    unfold wordsA
    rw [List.length_cons]
    omega
  · intro x hx
    rcases List.mem_cons.1 hx with rfl | hx
    · have : ∀ k : Int, (wordOf k).length ≤ 5 := by
        intro k
        unfold wordOf
        by_cases q1 : k = 1
        · rw [if_pos q1]; decide
        rw [if_neg q1]
        by_cases q2 : k = 2
        · rw [if_pos q2]; decide
        rw [if_neg q2]
        by_cases q3 : k = 3
        · rw [if_pos q3]; decide
        rw [if_neg q3]
        by_cases q4 : k = 4
        · rw [if_pos q4]; decide
        rw [if_neg q4]
        by_cases q5 : k = 5
        · rw [if_pos q5]; decide
        rw [if_neg q5]
        by_cases q6 : k = 6
        · rw [if_pos q6]; decide
        rw [if_neg q6]
        by_cases q7 : k = 7
        · rw [if_pos q7]; decide
        rw [if_neg q7]
        by_cases q8 : k = 8
        · rw [if_pos q8]; decide
        rw [if_neg q8]
        by_cases q9 : k = 9
        · rw [if_pos q9]; decide
        rw [if_neg q9]
        by_cases q10 : k = 10
        · rw [if_pos q10]; decide
        rw [if_neg q10]
        by_cases q11 : k = 11
        · rw [if_pos q11]; decide
        rw [if_neg q11]
        by_cases q12 : k = 12
        · rw [if_pos q12]; decide
        rw [if_neg q12]
        decide
      exact Nat.le_trans (this _) (by omega)
    · obtain ⟨c, _, hx⟩ := List.mem_flatMap.1 hx
      unfold wordsC at hx
      by_cases q1 : c = 114
      · rw [if_pos q1, List.mem_singleton] at hx; subst hx; exact hw _ hr.rep
      rw [if_neg q1] at hx
      by_cases q2 : c = 116
      · rw [if_pos q2, List.mem_singleton] at hx; subst hx; exact hw _ hr.to
      rw [if_neg q2] at hx
      by_cases q3 : c = 111
      · rw [if_pos q3, List.mem_singleton] at hx; subst hx; exact hw _ hr.of
      rw [if_neg q3] at hx
      by_cases q4 : c = 110
      · rw [if_pos q4, List.mem_singleton] at hx; subst hx; exact hw _ hr.n
      rw [if_neg q4] at hx
      by_cases q5 : c = 107
      · rw [if_pos q5, List.mem_singleton] at hx; subst hx; rw [List.length_cons, hexL_length]; omega
      rw [if_neg q5] at hx
      by_cases q6 : c = 119
      · rw [if_pos q6, List.mem_singleton] at hx; subst hx; rw [List.length_cons, hexL_length]; omega
      rw [if_neg q6] at hx
      by_cases q7 : c = 42
      · rw [if_pos q7] at hx
        obtain ⟨n, hn, rfl⟩ := List.mem_map.1 hx
        exact hw _ (hr.all n hn)
      rw [if_neg q7] at hx
      cases hx
theorem line_len {a : Sact} (h : mayA a = true) : (lineL a).length ≤ 300 := by
  have hn := near_of h
  have b1 := dd_len hn.rep
  have b2 := dd_len hn.to
  have b3 := dd_len hn.of
  have b4 := dd_len hn.n
  have b5 := hh_len a.key
  have b6 := hh_len a.word
  have b7 := keeps_len hn.all
  have k1 := hn.key
  have k2 := hn.word
  have k3 := hn.keep
  obtain ⟨_, h1, h2, _⟩ := (may_iff a).1 h
  unfold lineL
  generalize a.keep.flatMap dd = F at b7 ⊢
  rcases kinds h1 h2 with hk | hk | hk | hk | hk | hk | hk | hk | hk | hk | hk | hk <;> simp [hk] <;> omega
theorem lines_len : ∀ (L : List Sact), L.all mayA = true → (linesL L).length ≤ 301 * L.length := by
  intro L
  induction L with
  | nil => intro _; simp [linesL]
  | cons a L ih =>
    intro h
    simp only [List.all_cons, Bool.and_eq_true] at h
    have h1 := line_len h.1
    have h2 := ih h.2
    have e : linesL (a :: L) = lineL a ++ 10 :: linesL L := by simp [linesL]
    rw [e]
    simp only [List.length_append, List.length_cons]
    omega
theorem builder_keep {T e : TypeId} {B b : Nat} {bs : List Value} {w w' : World} (h : Lib.IsBuilderF T e B b bs w) (hb : Below w.heap.size w w') : Lib.IsBuilderF T e B b bs w' := by
  have key : ∀ p, Lib.BuilderAtF T e B b p bs w → Lib.BuilderAtF T e B b p bs w' := by
    intro p h
    have hlt := h.lt
    obtain ⟨hB, v, hbk, hown, hne⟩ := h
    exact ⟨hB, v, (hb.block b hlt).trans hbk, hown.kept (row := none) ⟨hb.os, hb.tape, hb.output, hb.size, fun k hk _ => hb.block k hk⟩ (by cases hv : v.ownBlock <;> simp), hne⟩
  exact h.elim (fun h => .inl (key _ h)) (fun h => .inr (key _ h))
theorem put_walk (L : List Sact) (hL : L.length ≤ 60) (hI : ∀ a ∈ L, InR a) (hLt : ∀ a ∈ L, Lite a) (w : World) (hG : Gl (fun b => b < w.heap.size) w) (a0 : Option Addr) (c0 : Nat) (hv : D w (.sl .fro 8 (sactsAV L)) (.slice a0 L.length c0)) :
    Calls Tryd.prog 11 #[.slice a0 L.length c0] w fun e w' => e = .returned (.tuple #[.string (tx (putS L).1), .int .i64 (putS L).2]) ∧ Below w.heap.size w w' := by
  go_enter Tryd.func11, Tryd.ntmps11
  go_wp2_with fail
  go_loopw [15] (fun i wr => ∃ k : Nat, k ≤ L.length ∧ i = .int .i64 k ∧ (L.take k).all mayA = true ∧ Hid (Lib.IsBuilderF 50 5 w.heap.size w.heap.size (Lib.byteCells (linesL (L.take k))) wr) ∧ Hid (Below w.heap.size w wr)) (fun i _ => L.length - (RowKit.intOf i).toNat)
  case atStart =>
    refine ⟨0, Nat.zero_le _, rfl, rfl, ?_, ?_⟩
    · exact .inl ⟨Nat.le_refl _, .slice none 0 0, heap_alloc_new w _, ⟨rfl, .inl ⟨rfl, rfl⟩⟩, by simp [Value.ownBlock]⟩
    · exact (Below.refl _ _).alloc (Nat.le_refl _) _
  case round =>
    obtain ⟨k, hk, rfl, hall, HB, HW⟩ := hrel
    by_cases hkL : k < L.length
    · obtain ⟨a, ha⟩ : ∃ a, L[k]? = some a := ⟨L[k], List.getElem?_eq_getElem hkL⟩
      have hne : L ≠ [] := fun h => by rw [h] at hkL; cases hkL
      obtain ⟨bk, o, c, hvv, hc, hbk, hcells⟩ := hv.acts hne
      obtain ⟨rfl, -, rfl⟩ : a0 = some ⟨bk, o, none⟩ ∧ True ∧ c0 = c := by
        injection hvv with h1 h2 h3
        exact ⟨h1, trivial, h3⟩
      obtain ⟨us, hus, hda⟩ := hcells k a ha
      have hcl : ∀ i : Fin 8, wr.cell? ⟨bk, o + k * 8 + i.val, none⟩ = some (us i) := fun i => by
        rw [HW.out.cell (p := ⟨bk, o + k * 8 + i.val, none⟩) hbk, ← hus i]
        congr 2
        omega
      have m0 : wr.cell? ⟨bk, o + k * 8, none⟩ = some (us 0) := hcl 0
      have m1 : wr.cell? ⟨bk, o + k * 8 + 1, none⟩ = some (us 1) := hcl 1
      have m2 : wr.cell? ⟨bk, o + k * 8 + 2, none⟩ = some (us 2) := hcl 2
      have m3 : wr.cell? ⟨bk, o + k * 8 + 3, none⟩ = some (us 3) := hcl 3
      have m4 : wr.cell? ⟨bk, o + k * 8 + 4, none⟩ = some (us 4) := hcl 4
      have m5 : wr.cell? ⟨bk, o + k * 8 + 5, none⟩ = some (us 5) := hcl 5
      have m6 : wr.cell? ⟨bk, o + k * 8 + 6, none⟩ = some (us 6) := hcl 6
      have m7 : wr.cell? ⟨bk, o + k * 8 + 7, none⟩ = some (us 7) := hcl 7
      have Hda : Hid (D w (.agg (sactC a)) (.agg #[us 0, us 1, us 2, us 3, us 4, us 5, us 6, us 7])) := hda
      obtain ⟨kp, kn, kc, hag⟩ := hda.act
      injection hag with hag
      injection hag with hag
      simp only [List.cons.injEq, and_true] at hag
      obtain ⟨g0, g1, g2, g3, g4, g5, g6, g7⟩ := hag
      rw [g0] at m0 Hda
      rw [g1] at m1 Hda
      rw [g2] at m2 Hda
      rw [g3] at m3 Hda
      rw [g4] at m4 Hda
      rw [g5] at m5 Hda
      rw [g6] at m6 Hda
      rw [g7] at m7 Hda
      clear hcl hus hcells hda g0 g1 g2 g3 g4 g5 g6 g7 us
      go_wp2_with fail
      generalize hw1 : wr.alloc (.cells #[.int .i64 a.kind, .int .i64 a.rep, .int .i64 a.to, .int .i64 a.of, .string (tx a.key), .string (tx a.word), .int .i64 a.n, .slice kp kn kc] 36) = w1
      have hb1 : Below w.heap.size w w1 := by rw [← hw1]; exact HW.out.alloc HW.out.size _
      have hnew : w1.heap[wr.heap.size]? = some (.cells #[.int .i64 a.kind, .int .i64 a.rep, .int .i64 a.to, .int .i64 a.of, .string (tx a.key), .string (tx a.word), .int .i64 a.n, .slice kp kn kc] 36 (0, 0)) := by rw [← hw1]; exact heap_alloc_new wr _
      have hlt1 : wr.heap.size < w1.heap.size := by rw [← hw1]; simp
      have HB1 : Hid (Lib.IsBuilderF 50 5 w.heap.size w.heap.size (Lib.byteCells (linesL (L.take k))) w1) := by
        rw [← hw1]
        exact builder_keep HB.out ((Below.refl _ _).alloc (Nat.le_refl _) _)
      clear hw1
      have hIa := hI a (List.mem_of_getElem? ha)
      have Hnew := Any.hidJ hnew
      have Hb1 := Any.hidJ hb1
      clear hnew hb1
      refine (callsD (c_wordsF a hIa) rfl (one1 (Hda.out.keep Hb1.out)) (gl_keep hG Hb1.out) rfl).mono ?_
      rintro e w2 ⟨v2, rfl, hd2, hb2⟩
      have HB2 : Hid (Lib.IsBuilderF 50 5 w.heap.size w.heap.size (Lib.byteCells (linesL (L.take k))) w2) := builder_keep HB1.out hb2
      have Hb2 := Any.hidJ (Hb1.out.trans (hb2.mono Hb1.out.size))
      have hlt2 : wr.heap.size < w2.heap.size := Nat.lt_of_lt_of_le hlt1 hb2.size
      have Hnew2 := Any.hidJ ((hb2.block _ hlt1).trans Hnew.out)
      have hwne : wordsA a ≠ [] := by simp [wordsA]
      obtain ⟨bk2, o2, c2, rfl, hc2, hbk2, ht2⟩ := hd2.texts hwne
      have Hd2 := Any.hidJ hd2
      have Ht2 := Any.hidJ ht2
      clear hb2 hd2 ht2
      go_wp2_with fail
      obtain ⟨x, ok, hx⟩ : ∃ x ok, actS (wordsA a) = (x, ok) := ⟨_, _, rfl⟩
      have ca := c_act (wordsA a) (words_brief (hLt a (List.mem_of_getElem? ha)) hIa) hwne
      rw [hx] at ca
      refine (callsT ca rfl (one1 Hd2.out) (gl_keep hG Hb2.out) rfl).mono ?_
      rintro e w3 ⟨v3, rfl, hd3, hb3⟩
      have HB3 := Any.hidJ (builder_keep HB2.out hb3)
      have Hb3 := Any.hidJ (Hb2.out.trans (hb3.mono Hb2.out.size))
      have hlt3 : wr.heap.size < w3.heap.size := Nat.lt_of_lt_of_le hlt2 hb3.size
      have Hnew3 := Any.hidJ ((hb3.block _ hlt2).trans Hnew2.out)
      have Ht3 : Hid (∀ (j : Nat) x, ((wordsA a).map tx)[j]? = some x → w3.cell? ⟨bk2, o2 + j, none⟩ = some (.string x)) := fun j x hj => (hb3.cell (p := ⟨bk2, o2 + j, none⟩) hbk2).trans (Ht2.out j x hj)
      have hbk3 : bk2 < w3.heap.size := Nat.lt_of_lt_of_le hbk2 hb3.size
      obtain ⟨xp, xn, xc, rfl⟩ := hd3.act
      have Hd3 := Any.hidJ hd3
      clear hb3 hd3 ca
      have p0 := cell_of_heap Hnew3.out 0
      have p1 := cell_of_heap Hnew3.out 1
      have p2 := cell_of_heap Hnew3.out 2
      have p3 := cell_of_heap Hnew3.out 3
      have p4 := cell_of_heap Hnew3.out 4
      have p5 := cell_of_heap Hnew3.out 5
      have p6 := cell_of_heap Hnew3.out 6
      have p7 := cell_of_heap Hnew3.out 7
      have hbad : (∀ h : ok = true, a ≠ x) → putS L = ([], 1) := fun h => by
        have hm : mayA a = false := by
          cases hq : mayA a with
          | false => rfl
          | true =>
            have h2 := (may_words a).2 hq
            rw [hx] at h2
            exact absurd h2.2 (h h2.1)
        have hLk : L[k] = a := Option.some.inj ((List.getElem?_eq_getElem hkL).symm.trans ha)
        unfold putS
        rw [all_not hkL (by rw [hLk]; exact hm)]
        rfl
      cases ok
      · go_wp2_with fail
        go_ret2
        rw [hbad (fun h => by cases h)]
        exact ⟨rfl, Hb3.out.alloc Hb3.out.size _⟩
      · go_wp2_with fail
        generalize hw4 : w3.alloc (.cells #[.int .i64 x.kind, .int .i64 x.rep, .int .i64 x.to, .int .i64 x.of, .string (tx x.key), .string (tx x.word), .int .i64 x.n, .slice xp xn xc] 36) = w4
        have hb4 : Below w3.heap.size w3 w4 := by rw [← hw4]; exact (Below.refl _ _).alloc (Nat.le_refl _) _
        clear hw4
        have Hb4 := Any.hidJ (Hb3.out.trans (hb4.mono Hb3.out.size))
        have HB4 := Any.hidJ (builder_keep HB3.out hb4)
        have cs := c_script_same a x (by have := (hLt a (List.mem_of_getElem? ha)).2.2; unfold Mild; omega)
        refine (callsD cs rfl (two (Hda.out.keep Hb4.out) (Hd3.out.keep hb4)) (gl_keep hG Hb4.out) rfl).mono ?_
        rintro e w5 ⟨v5, rfl, hd5, hb5⟩
        obtain rfl : v5 = .bool (decide (a = x)) := by
          have hd5 : Dat _ _ (.b (decide (a = x))) v5 := hd5
          cases hd5; rfl
        have Hb5 := Any.hidJ (Hb4.out.trans (hb5.mono Hb4.out.size))
        have HB5 := Any.hidJ (builder_keep HB4.out hb5)
        have hlt4 : w3.heap.size ≤ w4.heap.size := hb4.size
        have Ht5 : Hid (∀ (j : Nat) x, ((wordsA a).map tx)[j]? = some x → w5.cell? ⟨bk2, o2 + j, none⟩ = some (.string x)) := fun j x hj =>
          (hb5.cell (p := ⟨bk2, o2 + j, none⟩) (Nat.lt_of_lt_of_le hbk3 hlt4)).trans ((hb4.cell (p := ⟨bk2, o2 + j, none⟩) hbk3).trans (Ht3.out j x hj))
        have hbk5 : bk2 < w5.heap.size := Nat.lt_of_lt_of_le hbk3 (Nat.le_trans hlt4 hb5.size)
        clear hb4 hb5 hd5 cs
        by_cases hax : a = x
        · subst hax
          have hm : mayA a = true := (may_words a).1 (by rw [hx]; exact ⟨rfl, rfl⟩)
          have hdec : decide (a = a) = true := decide_eq_true rfl
          rw [hdec]
          clear hbad hdec
          have hk1 := lines_len (L.take k) hall
          have hk2 := line_len hm
          have hk3 : (L.take k).length ≤ 60 := by simp; omega
          have hjl : Lib.join (((wordsA a).map tx).map (·.data.toList)) [32] = lineL a := by
            rw [List.map_map, ← join_words hm]
            congr 1
            conv => rhs; rw [← List.map_id (wordsA a)]
            apply List.map_congr_left
            intro y _
            simp
          have cj : Calls Tryd.prog 24 #[.slice (some ⟨bk2, o2, none⟩) (wordsA a).length c2, .string (tx [32])] w5 fun e w' => e = .returned (.string (tx (lineL a))) ∧ Below w5.heap.size w5 w' := by
            have hs32 : (tx [32]).data.toList = [32] := rfl
            have := Any.strings_Join Tryd.lays156 Tryd.Builder_Extra_156 bk2 o2 c2 ((wordsA a).map tx) (tx [32]) w5 Ht5.out hbk5 (by have := (words_brief (hLt a (List.mem_of_getElem? ha)) hIa).1; simp; omega) (by simpa using hc2) (by rw [hs32, hjl]; omega)
            rw [hs32, hjl, List.length_map] at this
            exact this
          have hnext : Lib.byteCells (linesL (L.take k)) ++ Lib.strCells (tx (lineL a)) ++ [.int .u8 10] = Lib.byteCells (linesL (L.take (k + 1))) := by
            have e : linesL (L.take (k + 1)) = linesL (L.take k) ++ (lineL a ++ [10]) := by
              rw [List.take_add_one, ha]
              simp [linesL]
            rw [e, Lib.strCells_eq]
            simp [Lib.byteCells]
          have hall' : (L.take (k + 1)).all mayA = true := by
            rw [List.take_add_one, ha, List.all_append, hall]
            simpa using hm
          clear hx hall
          go_wp2_with fail
          refine cj.mono ?_
          rintro e w6 ⟨rfl, hb6⟩
          have Hb6 := Any.hidJ (Hb5.out.trans (hb6.mono Hb5.out.size))
          have HB6 := Any.hidJ (builder_keep HB5.out hb6)
          have hB6 : w.heap.size ≤ w6.heap.size := Hb6.out.size
          clear hb6 cj
          go_wp2_with fail
          refine (show Calls Tryd.prog 23 _ _ _ from Any.Builder_WriteString_f Tryd.lays166 Tryd.Builder_Extra_166 w.heap.size w.heap.size _ (tx (lineL a)) w6 HB6.out (by rw [Lib.byteCells_length]; simp; omega) hB6).mono ?_
          rintro e w7 ⟨rfl, h7, hb7⟩
          have Hb7 := Any.hidJ (Hb6.out.trans hb7)
          have HB7 : Hid (Lib.IsBuilderF 50 5 w.heap.size w.heap.size _ w7) := Or.inr h7
          have hB7 : w.heap.size ≤ w7.heap.size := Hb7.out.size
          clear h7 hb7
          go_wp2_with fail
          refine (show Calls Tryd.prog 25 _ _ _ from Any.Builder_WriteByte_k Tryd.lays167 Tryd.Builder_Extra_167 w.heap.size w.heap.size _ 10 w7 HB7.out (by rw [List.length_append, Lib.byteCells_length, Lib.strCells_length]; simp; omega) hB7).mono ?_
          rintro e w8 ⟨rfl, h8, hb8, _⟩
          rw [hnext] at h8
          have Hb8 := Any.hidJ (Hb7.out.trans hb8)
          have HB8 : Hid (Lib.IsBuilderF 50 5 w.heap.size w.heap.size _ w8) := Or.inr h8
          clear h8 hb8 hnext
          go_wp2
          exact ⟨⟨k + 1, by omega, by go_num, hall', HB8, Hb8⟩, by simp [RowKit.intOf]; omega⟩
        · have hdec : decide (a = x) = false := decide_eq_false hax
          rw [hdec]
          have hputs := Any.hidJ (hbad fun _ => hax)
          clear hbad hdec
          go_wp2_with fail
          go_ret2
          rw [hputs.out]
          exact ⟨rfl, Hb5.out⟩
    · have hkL' : k = L.length := by omega
      subst hkL'
      rw [List.take_length] at hall HB
      have hB : w.heap.size ≤ wr.heap.size := HW.out.size
      have hlen := lines_len L hall
      have hput : putS L = if 65536 < (linesL L).length then ([], 7) else (linesL L, 0) := by rw [putS, if_pos hall]
      go_wp2_with fail
      have cl : Calls Tryd.prog 26 #[.pointer (some ⟨w.heap.size, 0, none⟩)] wr fun e w' => e = .returned (.int .i64 (linesL L).length) ∧ w' = wr := by
        have := Any.Builder_Len_f Tryd.lays170 w.heap.size w.heap.size _ wr HB.out
        rw [Lib.byteCells_length] at this
        exact this
      refine cl.mono ?_
      rintro e w9 ⟨rfl, rfl⟩
      clear cl
      have hbig : ¬ 65536 < (linesL L).length := by omega
      rw [if_neg hbig] at hput
      have Hput := Any.hidJ hput
      clear hput
      generalize hN : (linesL L).length = N at hbig hlen
      have HN := Any.hidJ hN
      clear hN
      go_wp2_with fail
      refine (show Calls Tryd.prog 27 _ _ _ from Any.Builder_String_any_f Tryd.lays169 Tryd.Builder_Extra_169 w.heap.size w.heap.size (linesL L) w9 HB.out hB).mono ?_
      rintro e w10 ⟨rfl, _, hb10⟩
      have Hb10 := Any.hidJ (HW.out.trans hb10)
      clear hb10
      go_wp2_with fail
      go_ret2
      rw [Hput.out]
      exact ⟨rfl, Hb10.out⟩
/-- Put, as a contract over data. -/
theorem c_script_Put (L : List Sact) (hL : L.length ≤ 60) (hI : ∀ a ∈ L, InR a) (hLt : ∀ a ∈ L, Lite a) : Pure Tryd.prog 11 [.sl .fro 8 (sactsAV L)] (.tup [.s (tx (putS L).1), .i .i64 (putS L).2]) := by
  refine ⟨⟨_, _, Tryd.func11, rfl, by kernel_rfl⟩, fun w β ω Pub vs R hω hl hv => ?_⟩
  have hpl : ∀ bk, Pub bk → bk < w.heap.size := fun bk h => (R.pub bk h).1
  have h0 := hv 0 _ rfl
  obtain ⟨v, rfl⟩ : ∃ v, vs = #[v] := ⟨vs.getD 0 undef, args1 hl rfl⟩
  have hd : D w (.sl .fro 8 (sactsAV L)) v := Dat.mono (fun bk h => ⟨hpl bk h, rfl⟩) (Val.dat (show Val _ .no (.sl .fro 8 (sactsAV L)) v from h0) rfl)
  obtain ⟨a0, c0, rfl⟩ : ∃ a0 c0, v = .slice a0 L.length c0 := by
    have hd : Dat _ _ (.sl .fro 8 (sactsAV L)) v := hd
    have hlen : (sactsAV L).length = L.length := by simp
    generalize sactsAV L = X at hd hlen
    rw [← hlen]
    cases hd with
    | sl0 => exact ⟨_, _, rfl⟩
    | sl1 => exact ⟨_, _, rfl⟩
    | sl => exact ⟨_, _, rfl⟩
  refine (put_walk L hL hI hLt w (R.gl.mono fun bk h => ⟨hpl bk h, rfl⟩) a0 c0 hd).mono ?_
  rintro e w' ⟨rfl, hb⟩
  obtain ⟨hos, ht, ho, hs, hbl⟩ := below_ext hb
  refine ⟨_, ⟨w', β, fun _ => none, Pub, St.ofBoxes [], #[]⟩, rfl, rfl, ⟨⟨rfl, fun t => .any _ _, fun id cs h => (by cases h), fun bk h => ⟨Nat.lt_of_lt_of_le (hpl bk h) hs, rfl⟩, fun bk q h => (by cases h), fun id h => (by cases h), R.gl.mono fun bk h => ⟨h, hbl bk (hpl bk h)⟩⟩, ⟨hos, ht, ho, hs, fun k hk _ => hbl k hk, fun k q h => (by cases h), fun _ h => h, fun _ h => .inl h, fun _ _ => rfl⟩⟩, rfl, fun bk q h => (by cases h), val_tup2 (fun _ => .s _ _) fun _ => .i _ _ _⟩
end Go.AM
namespace Go.AM
open Go.Proofs
theorem light_iff (L : List Sact) : lightS L = true ↔ L.length ≤ 60 ∧ ∀ a ∈ L, Lite a := by
  unfold lightS
  rw [Bool.and_eq_true, decide_eq_true_eq, List.all_eq_true]
  constructor
  · rintro ⟨h1, h2⟩
    refine ⟨by omega, fun a ha => ?_⟩
    obtain ⟨i, hi, rfl⟩ := List.mem_iff_getElem.1 ha
    have := h1 i (List.mem_range.2 hi)
    rw [List.getElem?_eq_getElem hi] at this
    simp only [Bool.or_eq_true, decide_eq_true_eq] at this
    rcases this with h | h
    · omega
    · unfold lightA at h
      simp only [Bool.not_eq_true', Bool.or_eq_false_iff, decide_eq_false_iff_not] at h
      exact ⟨by omega, by omega, by omega⟩
  · rintro ⟨h1, h2⟩
    refine ⟨fun i hi => ?_, by omega⟩
    have hi := List.mem_range.1 hi
    rw [List.getElem?_eq_getElem hi]
    obtain ⟨g1, g2, g3⟩ := h2 _ (List.getElem_mem hi)
    unfold lightA
    simp only [Bool.or_eq_true, decide_eq_true_eq, Bool.not_eq_true', Bool.or_eq_false_iff, decide_eq_false_iff_not]
    exact .inr ⟨by omega, by omega, by omega⟩
theorem lite_mild {a : Sact} (h : Lite a) : Mild a := by
  have := h.2.2
  unfold Mild
  omega
theorem put_may {L : List Sact} (hL : L.length ≤ 60) (h : L.all mayA = true) : putS L = (linesL L, 0) := by
  have := lines_len L h
  rw [putS, if_pos h, if_neg (by omega)]
theorem put_not {L : List Sact} (h : L.all mayA = false) : putS L = ([], 1) := by
  rw [putS, if_neg (by rw [h]; simp)]
theorem get_lines {L : List Sact} (hL : L.length ≤ 60) (h : L.all mayA = true) : getF (linesL L) = (L, 0, 0) := by
  have := lines_len L h
  rw [getF, if_neg (by omega)]
  exact getP_lines L _ [] h (Nat.le_refl _) (by simp; omega)
theorem lines_take (L : List Sact) (i : Nat) (h : i < L.length) : linesL (L.take (i + 1)) = linesL (L.take i) ++ (lineL L[i] ++ [10]) := by
  rw [List.take_succ_eq_append_getElem h]
  simp only [linesL, List.flatMap_append]
  simp
set_option maxRecDepth 8000 in
set_option maxHeartbeats 4000000 in
theorem c_ScriptPuts (L M : List Sact) (hI : ∀ a ∈ L, lightS L = true → InR a) : Pure Tryd.prog 5 [.sl .fro 8 (sactsAV L), .sl .fro 8 (sactsAV M)] (.b true) := by
  have gl := c_Light L
  have gm := c_Light M
  refine proc_of (cx Tryd.prog 91 [0, 1, 4, 5, 6, 7, 8, 9, 10, 11, 19, 32, 36, 44] [4]) 89 [.tmp 4] Tryd.func5 rfl rfl rfl rfl rfl rfl (Nat.le_refl _) rfl ?_
  refine AWp.go [0, 1] [] fun K hK => ?_
  simp
  first | refine hK _ _ ?_ | refine ⟨by omega, hK _ _ ?_⟩ | refine ⟨by omega, by omega, hK _ _ ?_⟩
  clear hK K
  refine AWp.seq ?_
  refine AWp.step [0, 1, 19] [] [(0, .sl .fro 8 (sactsAV L)), (1, .sl .fro 8 (sactsAV M)), (19, .b (!lightS L || !lightS M))] [] ?_ ?_
  · simp
    refine call_pure gl (by simp) ?_
    cases lightS L
    · simp
    · simp
      refine call_pure gm (by simp) ?_
      simp
  cases hq : !lightS L || !lightS M
  · refine AWp.cond (t := false) (by simp) (by simp) (fun _ => ?_)
    refine AWp.skip ?_
    show AWp _ _ _ _
    simp only [Bool.or_eq_false_iff, Bool.not_eq_false'] at hq
    obtain ⟨hL, hLt⟩ := (light_iff L).1 hq.1
    obtain ⟨hM, hMt⟩ := (light_iff M).1 hq.2
    have gp := c_script_Put L hL (fun a ha => hI a ha hq.1) hLt
    obtain ⟨t, e, hP⟩ : ∃ t e, putS L = (t, e) := ⟨_, _, rfl⟩
    rw [hP] at gp
    have hmild : ∀ a ∈ L, Mild a := fun a ha => lite_mild (hLt a ha)
    have s1 := c_script_Same L M (by omega) hmild
    have s2 := c_ref33_Same L M (by omega) hmild
    refine AWp.go [0, 1, 5, 6] [] fun K hK => ?_
    simp
    refine call_pure (gp) (by simp) ?_
    simp
    first | refine hK _ _ ?_ | refine ⟨by omega, hK _ _ ?_⟩ | refine ⟨by omega, by omega, hK _ _ ?_⟩
    clear hK K
    refine AWp.seq ?_
    refine AWp.go [0, 5, 6, 32] [] fun K hK => ?_
    simp
    refine call_pure (s1) (by simp) ?_
    simp
    refine call_pure (s2) (by simp) ?_
    simp
    first | refine hK _ _ ?_ | refine ⟨by omega, hK _ _ ?_⟩ | refine ⟨by omega, by omega, hK _ _ ?_⟩
    clear hK K
    refine AWp.cond (t := false) (by first | (simp; done) | (simp; omega)) (by simp) (fun _ => ?_)
    refine AWp.skip ?_
    show AWp _ _ _ _
    refine AWp.go [0, 5, 6, 7] [] fun K hK => ?_
    simp
    first | refine hK _ _ ?_ | refine ⟨by omega, hK _ _ ?_⟩ | refine ⟨by omega, by omega, hK _ _ ?_⟩
    clear hK K
    refine AWp.seq ?_
    refine AWp.go [0, 5, 6, 7, 8] [] fun K hK => ?_
    simp
    first | refine hK _ _ ?_ | refine ⟨by omega, hK _ _ ?_⟩ | refine ⟨by omega, by omega, hK _ _ ?_⟩
    clear hK K
    refine AWp.block (AWp.while (fun i : Nat => [(0, .sl .fro 8 (sactsAV L)), (5, .s (tx t)), (6, .i .i64 e), (7, .s (tx (linesL (L.take i)))), (8, .i .i64 i)]) (fun i => []) (fun i => i ≤ L.length ∧ (L.take i).all mayA = true) (fun i => L.length - i) [0, 5, 6, 7, 8] [] 0 (by simp) (by simp [linesL]) ?_)
    rintro i ⟨hi, hall⟩
    refine AWp.seq ?_
    refine AWp.go [0, 5, 6, 7, 8, 36] [] fun K hK => ?_
    simp
    first | refine hK _ _ ?_ | refine ⟨by omega, hK _ _ ?_⟩ | refine ⟨by omega, by omega, hK _ _ ?_⟩
    clear hK K
    by_cases h : i < L.length
    · refine AWp.cond (t := true) (by first | (simp [h]; done) | (simp [h]; omega)) (fun _ => ?_) (by simp)
      refine AWp.skip ?_
      show AWp _ _ _ _
      refine AWp.seq ?_
      refine AWp.block ?_
      refine AWp.seq ?_
      have g := c_ref33_May L[i] (hmild _ (List.getElem_mem h))
      refine AWp.go [0, 5, 6, 7, 8, 44] [] fun K hK => ?_
      simp [h, sactC]
      refine call_pure g (by simp [sactC]) ?_
      simp [h, sactC]
      first | refine hK _ _ ?_ | refine ⟨by omega, hK _ _ ?_⟩ | refine ⟨by omega, by omega, hK _ _ ?_⟩
      clear hK K
      cases hm : mayA L[i]
      · refine AWp.cond (t := true) (by simp) (fun _ => ?_) (by simp)
        rw [put_not (all_not h hm)] at hP
        cases hP
        refine AWp.step [4] [] [(4, .b true)] [] ?_ ?_
        · simp
          refine call_pure c_awake (by simp) ?_
          simp
        refine AWp.ret ?_
        simp
      · refine AWp.cond (t := false) (by simp) (by simp) (fun _ => ?_)
        refine AWp.skip ?_
        show AWp _ _ _ _
        have g2 := c_ref33_Line L[i] (near_of hm)
        have b1 := lines_len (L.take i) hall
        have b2 := line_len hm
        have b3 : (L.take i).length ≤ 60 := by simp; omega
        refine AWp.last [0, 5, 6, 7, 8] [] [(0, .sl .fro 8 (sactsAV L)), (5, .s (tx t)), (6, .i .i64 e), (7, .s (tx (linesL (L.take (i + 1))))), (8, .i .i64 i)] [] ?_ ?_
        · rw [lines_take L i h]
          simp [h, sactC]
          refine call_pure g2 (by simp [sactC]) ?_
          simp
          omega
        show AWp _ _ _ _
        refine AWp.goLast [0, 5, 6, 7, 8] [] fun K hK => ?_
        simp
        first | refine hK _ _ ?_ | refine ⟨by omega, hK _ _ ?_⟩ | refine ⟨by omega, by omega, hK _ _ ?_⟩
        clear hK K
        refine ⟨i + 1, ⟨by omega, take_all_succ h hall hm⟩, by omega, ?_⟩
        simp
        exact wrap64 (by omega) (by omega)
    · refine AWp.cond (t := false) (by first | (simp [h]; done) | (simp [h]; omega)) (by simp) (fun _ => ?_)
      refine AWp.exit ?_
      show AWp _ _ _ _
      have hil : i = L.length := by omega
      rw [hil, List.take_length] at hall ⊢
      rw [put_may hL hall] at hP
      cases hP
      have hll := lines_len L hall
      have gg := c_script_Get (linesL L) (by omega)
      rw [get_lines hL hall] at gg
      have s3 := c_ref33_Same L L (by omega) hmild
      refine AWp.go [0, 5, 6, 7, 9, 10, 11] [] fun K hK => ?_
      simp
      refine call_pure (gg) (by simp) ?_
      simp
      first | refine hK _ _ ?_ | refine ⟨by omega, hK _ _ ?_⟩ | refine ⟨by omega, by omega, hK _ _ ?_⟩
      clear hK K
      refine AWp.step [4] [] [(4, .b true)] [] ?_ ?_
      · simp
        refine call_pure s3 (by simp) ?_
        simp
        refine call_pure c_awake (by simp) ?_
        simp
      refine AWp.ret ?_
      simp
  · refine AWp.cond (t := true) (by simp) (fun _ => ?_) (by simp)
    refine AWp.go [4] [] fun K hK => ?_
    simp
    refine call_pure (c_awake) (by simp) ?_
    simp
    first | refine hK _ _ ?_ | refine ⟨by omega, hK _ _ ?_⟩ | refine ⟨by omega, by omega, hK _ _ ?_⟩
    clear hK K
    refine AWp.ret ?_
    simp
end Go.AM
