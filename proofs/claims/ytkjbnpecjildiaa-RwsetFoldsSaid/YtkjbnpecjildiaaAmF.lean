/- Sets: places. -/
import Derived.Test.YtkjbnpecjildiaaAmE
set_option linter.unusedSimpArgs false
set_option linter.unusedVariables false
namespace Go.Proofs
def Try.cmpS_ren : Go.Shelf.Ren := ⟨fun | 106 => 81 | 213 => 106 | 265 => 117 | n => n, fun | 3 => 3 | 9 => 9 | n => n, fun | n => n⟩
theorem Try.cmpS : Lays.n106 Try.prog Try.cmpS_ren := {
  mixed := by kernel_rfl,
  f106 := Try.func81.trans (congrArg some (by kernel_rfl)),
  f213 := Try.func106.trans (congrArg some (by kernel_rfl)),
  f265 := Try.func117.trans (congrArg some (by kernel_rfl)),
  t3 := Try.underlying3,
  a3 := Try.isAgg3,
  z3 := Try.sizeOf3,
  v3 := Try.zeroValue3,
  t9 := Try.underlying9,
  a9 := Try.isAgg9,
  z9 := Try.sizeOf9,
  v9 := Try.zeroValue9 }
end Go.Proofs
namespace Go.AM
open Go.Proofs
def cmpK (a b : ByteArray) : Int := Lib.compareBytes a.data.toList b.data.toList
theorem c_Compare (a b : ByteArray) : Pure Try.prog 81 [.s a, .s b] (.i .i64 (cmpK a b)) := pure_cmpS Try.cmpS a b

theorem c_rwset_at1 (e : Entry) (k : ByteArray) : Pure Try.prog 80 [.agg (entC e), .s k] (.i .i64 (cmpK e.key k)) := by
  refine proc_of (cx Try.prog 9 [1, 2, 4] [4]) 7 [.tmp 4] Try.func80 rfl rfl rfl rfl rfl rfl (Nat.le_refl _) rfl ?_
  refine AWp.go [1, 2] [2] fun K hK => ?_
  simp [entC]
  first | refine hK _ _ ?_ | refine ⟨by omega, hK _ _ ?_⟩ | refine ⟨by omega, by omega, hK _ _ ?_⟩
  clear hK K
  refine AWp.go [4] [] fun K hK => ?_
  simp
  refine call_pure (c_Compare e.key k) (by simp) ?_
  simp
  first | refine hK _ _ ?_ | refine ⟨by omega, hK _ _ ?_⟩ | refine ⟨by omega, by omega, hK _ _ ?_⟩
  clear hK K
  refine AWp.ret ?_
  simp

def bsF (p : Nat → Bool) (lo hi : Nat) : Nat := if lo < hi then (if p ((lo + hi) / 2) then bsF p ((lo + hi) / 2 + 1) hi else bsF p lo ((lo + hi) / 2)) else lo
termination_by hi - lo
decreasing_by all_goals omega
theorem bsF_le (p : Nat → Bool) (lo hi : Nat) (h : lo ≤ hi) : bsF p lo hi ≤ hi := by
  induction lo, hi using bsF.induct p with
  | case1 lo hi h1 h2 ih => rw [bsF, if_pos h1, if_pos h2]; exact ih (by omega)
  | case2 lo hi h1 h2 ih => rw [bsF, if_pos h1, if_neg h2]; have := ih (by omega); omega
  | case3 lo hi h1 => rw [bsF, if_neg h1]; exact h
theorem bsF_done (p : Nat → Bool) (n : Nat) : bsF p n n = n := by rw [bsF, if_neg (Nat.lt_irrefl n)]
theorem mid_wrap {lo hi m : Nat} (h : lo + hi ≤ 4611686018427387904) (hm : m = (lo + hi) / 2) : IntKind.i64.wrap ((IntKind.u64.wrap ((lo : Int) + hi)).fdiv (2 ^ min 1 IntKind.u64.bits)) = m := by
  have w1 : IntKind.u64.wrap ((lo : Int) + hi) = lo + hi := by
    unfold IntKind.wrap
    simp [IntKind.bits, IntKind.signed]
    omega
  have e1 : (2 : Int) ^ min 1 IntKind.u64.bits = 2 := rfl
  rw [w1, e1, Int.fdiv_eq_ediv_of_nonneg _ (by omega), show ((lo : Int) + hi) / 2 = (m : Int) by omega]
  exact wrap64 (by omega) (by omega)
def less (s : List Entry) (k : ByteArray) (i : Nat) : Bool := match s[i]? with
  | some e => decide (cmpK e.key k < 0)
  | none => false
def place (s : List Entry) (k : ByteArray) : Nat := bsF (less s k) 0 s.length
def there (s : List Entry) (k : ByteArray) : Bool := match s[place s k]? with
  | some e => decide (cmpK e.key k = 0)
  | none => false

set_option maxRecDepth 8000 in
set_option maxHeartbeats 2000000 in
theorem c_BSearch_Entry (s : List Entry) (k : ByteArray) (hs : Fine s) : Pure Try.prog 79 [.sl .fro 3 (entsAV s), .s k, .fn 80 [] []] (.tup [.i .i64 (place s k), .b (there s k)]) := by
  refine proc_of (cx Try.prog 49 [0, 1, 2, 6, 7, 8, 9, 10, 11, 17, 31] [6, 7]) 46 [.tmp 6, .tmp 7] Try.func79 rfl rfl rfl rfl rfl rfl (Nat.le_refl _) rfl ?_
  refine AWp.go [0, 1, 2] [] fun K hK => ?_
  simp
  first | refine hK _ _ ?_ | refine ⟨by omega, hK _ _ ?_⟩ | refine ⟨by omega, by omega, hK _ _ ?_⟩
  clear hK K
  refine AWp.go [0, 1, 2, 8] [] fun K hK => ?_
  simp
  first | refine hK _ _ ?_ | refine ⟨by omega, hK _ _ ?_⟩ | refine ⟨by omega, by omega, hK _ _ ?_⟩
  clear hK K
  refine AWp.go [0, 1, 2, 8, 9, 10] [] fun K hK => ?_
  simp
  first | refine hK _ _ ?_ | refine ⟨by omega, hK _ _ ?_⟩ | refine ⟨by omega, by omega, hK _ _ ?_⟩
  clear hK K
  refine AWp.seq ?_
  refine AWp.block (AWp.while (fun p : Nat × Nat => [(0, .sl .fro 3 (entsAV s)), (1, .s k), (2, .fn 80 [] []), (8, .i .i64 s.length), (9, .i .i64 p.1), (10, .i .i64 p.2)]) (fun p => []) (fun p => p.1 ≤ p.2 ∧ p.2 ≤ s.length ∧ bsF (less s k) p.1 p.2 = place s k) (fun p => p.2 - p.1) [0, 1, 2, 8, 9, 10] [] (0, s.length) (by exact ⟨Nat.zero_le _, Nat.le_refl _, rfl⟩) (by simp) ?_)
  rintro ⟨lo, hi⟩ ⟨h1, h2, h3⟩
  have hlen := hs.1
  refine AWp.seq ?_
  refine AWp.go [0, 1, 2, 8, 9, 10, 17] [] fun K hK => ?_
  simp
  first | refine hK _ _ ?_ | refine ⟨by omega, hK _ _ ?_⟩ | refine ⟨by omega, by omega, hK _ _ ?_⟩
  clear hK K
  by_cases h : lo < hi
  · refine AWp.cond (t := true) (by first | (simp [h]; done) | (simp [h]; omega)) (fun _ => ?_) (by simp)
    refine AWp.skip ?_
    show AWp _ _ _ _
    refine AWp.block ?_
    obtain ⟨m, hm⟩ : ∃ m : Nat, m = (lo + hi) / 2 := ⟨_, rfl⟩
    have hml : m < s.length := by omega
    refine AWp.step [0, 1, 2, 8, 9, 10, 11] [] [(0, .sl .fro 3 (entsAV s)), (1, .s k), (2, .fn 80 [] []), (8, .i .i64 s.length), (9, .i .i64 lo), (10, .i .i64 hi), (11, .i .i64 m)] [] ?_ ?_
    · have w1 : IntKind.i64.wrap ((lo : Int) + hi) = (lo : Int) + hi := wrap64 (by omega) (by omega)
      simp [w1]
      exact mid_wrap (by omega) hm
    refine AWp.go [0, 1, 2, 8, 9, 10, 11, 31] [] fun K hK => ?_
    simp [hml]
    refine call_pure (c_rwset_at1 s[m] k) (by simp [entC]) ?_
    simp
    first | refine hK _ _ ?_ | refine ⟨by omega, hK _ _ ?_⟩ | refine ⟨by omega, by omega, hK _ _ ?_⟩
    clear hK K
    by_cases hp : cmpK s[m].key k < 0
    · refine AWp.cond (t := true) (by first | (simp [hp]; done) | (simp [hp]; omega)) (fun _ => ?_) (by simp)
      refine AWp.goLast [0, 1, 2, 8, 9, 10] [] fun K hK => ?_
      simp (disch := omega) [wrap64]
      first | refine hK _ _ ?_ | refine ⟨by omega, hK _ _ ?_⟩ | refine ⟨by omega, by omega, hK _ _ ?_⟩
      clear hK K
      refine ⟨(m + 1, hi), ⟨by simp; omega, h2, ?_⟩, by simp; omega, ?_⟩
      · rw [bsF, if_pos h, ← hm, if_pos (by simp [less, hml, hp])] at h3
        exact h3
      · simp
    · refine AWp.cond (t := false) (by first | (simp [hp]; done) | (simp [hp]; omega)) (by simp) (fun _ => ?_)
      refine AWp.goLast [0, 1, 2, 8, 9, 10] [] fun K hK => ?_
      simp
      first | refine hK _ _ ?_ | refine ⟨by omega, hK _ _ ?_⟩ | refine ⟨by omega, by omega, hK _ _ ?_⟩
      clear hK K
      refine ⟨(lo, m), ⟨by simp; omega, by simp; omega, ?_⟩, by simp; omega, ?_⟩
      · rw [bsF, if_pos h, ← hm, if_neg (by simp [less, hml, hp])] at h3
        exact h3
      · simp
  · refine AWp.cond (t := false) (by first | (simp [h]; done) | (simp [h]; omega)) (by simp) (fun _ => ?_)
    refine AWp.exit ?_
    show AWp _ _ _ _
    obtain rfl : lo = hi := by omega
    rw [bsF_done] at h3
    refine AWp.step [6, 7] [] [(6, .i .i64 (place s k)), (7, .b (there s k))] [] ?_ ?_
    · by_cases hq : lo < s.length
      · simp [hq, there, ← h3]
        refine call_pure (c_rwset_at1 s[lo] k) (by simp [entC]) ?_
        simp
      · simp [hq, there, ← h3]
    refine AWp.ret ?_
    simp

def atE (s : List Entry) (k : ByteArray) : Entry := if there s k then s.getD (place s k) (emptyE k) else emptyE k
theorem place_le (s : List Entry) (k : ByteArray) : place s k ≤ s.length := bsF_le _ _ _ (Nat.zero_le _)
theorem there_lt {s : List Entry} {k : ByteArray} (h : there s k = true) : place s k < s.length := by
  unfold there at h
  by_cases hq : place s k < s.length
  · exact hq
  · rw [List.getElem?_eq_none (by omega)] at h
    cases h

set_option maxRecDepth 8000 in
set_option maxHeartbeats 2000000 in
theorem c_rwset_at (s : List Entry) (k : ByteArray) (hs : Fine s) : Pure Try.prog 49 [.sl .fro 3 (entsAV s), .s k] (.tup [.i .i64 (place s k), .agg (entC (atE s k)), .b (there s k)]) := by
  refine proc_of (cx Try.prog 24 [0, 1, 4, 5, 6, 7, 8, 15] [4, 5, 6]) 22 [.tmp 4, .cell 5 60, .tmp 6] Try.func49 rfl rfl rfl rfl rfl rfl (Nat.le_refl _) rfl ?_
  refine AWp.go [0, 1, 5] [5] fun K hK => ?_
  simp
  first | refine hK _ _ ?_ | refine ⟨by omega, hK _ _ ?_⟩ | refine ⟨by omega, by omega, hK _ _ ?_⟩
  clear hK K
  refine AWp.go [0, 1, 5, 7, 8] [5] fun K hK => ?_
  simp
  refine call_pure (c_BSearch_Entry s k hs) (by simp) ?_
  simp
  first | refine hK _ _ ?_ | refine ⟨by omega, hK _ _ ?_⟩ | refine ⟨by omega, by omega, hK _ _ ?_⟩
  clear hK K
  refine AWp.seq ?_
  have hpl := place_le s k
  refine AWp.go [0, 1, 5, 7, 15] [5] fun K hK => ?_
  simp
  first | refine hK _ _ ?_ | refine ⟨by omega, hK _ _ ?_⟩ | refine ⟨by omega, by omega, hK _ _ ?_⟩
  clear hK K
  by_cases hp : there s k = true
  · refine AWp.cond (t := true) (by first | (simp [hp]; done) | (simp [hp]; omega)) (fun _ => ?_) (by simp)
    have hlt := there_lt hp
    refine AWp.stepD 6 (fun _ => .any) [4, 5, 6] [5] [(4, .i .i64 (place s k)), (5, .ptr 5 0), (6, .b true)] [(5, [.s s[place s k].key, .sl .fro 2 (dotsAV s[place s k].live), .sl .fro 2 (dotsAV s[place s k].dead)])] mix (by kernel_rfl) ?_ ?_
    · simp [hlt]
    refine AWp.ret ?_
    simp [atE, hp, hlt, entC]
  · refine AWp.cond (t := false) (by first | (simp [hp]; done) | (simp [hp]; omega)) (by simp) (fun _ => ?_)
    refine AWp.skip ?_
    show AWp _ _ _ _
    refine AWp.go [4, 5, 6] [5] fun K hK => ?_
    simp
    first | refine hK _ _ ?_ | refine ⟨by omega, hK _ _ ?_⟩ | refine ⟨by omega, by omega, hK _ _ ?_⟩
    clear hK K
    refine AWp.ret ?_
    simp [atE, hp, emptyE, entC, dotsAV]

theorem c_Clone_Entry (s : List Entry) (hs : Fine s) : Pure Try.prog 85 [.sl .fro 3 (entsAV s)] (.sl .own 3 (entsAV s)) := by
  have hlen := hs.1
  refine proc_of (cx Try.prog 8 [0, 2, 4] [2]) 7 [.tmp 2] Try.func85 rfl rfl rfl rfl rfl rfl (Nat.le_refl _) rfl ?_
  refine AWp.go [0] [] fun K hK => ?_
  simp
  first | refine hK _ _ ?_ | refine ⟨by omega, hK _ _ ?_⟩ | refine ⟨by omega, by omega, hK _ _ ?_⟩
  clear hK K
  refine AWp.seq ?_
  refine AWp.go [0, 4] [] fun K hK => ?_
  simp
  refine ⟨fun h0 => hK _ _ ?_, hK _ _ ?_⟩
  · clear hK K
    refine AWp.cond (t := true) (by first | (simp; done) | (simp; omega)) (fun _ => ?_) (by simp)
    refine AWp.go [2] [] fun K hK => ?_
    simp
    first | refine hK _ _ ?_ | refine ⟨by omega, hK _ _ ?_⟩ | refine ⟨by omega, by omega, hK _ _ ?_⟩
    clear hK K
    refine AWp.ret ?_
    simp [h0]
  · clear hK K
    refine AWp.cond (t := false) (by first | (simp; done) | (simp; omega)) (by simp) (fun _ => ?_)
    refine AWp.skip ?_
    show AWp _ _ _ _
    refine AWp.go [2] [] fun K hK => ?_
    simp
    first | refine hK _ _ ?_ | refine ⟨by omega, hK _ _ ?_⟩ | refine ⟨by omega, by omega, hK _ _ ?_⟩
    clear hK K
    refine AWp.ret ?_
    simp

theorem entC_ok : EncOk entC 3 := ⟨fun _ => rfl, fun x c hc => by simp [entC] at hc; rcases hc with rfl | rfl | rfl <;> rfl⟩
theorem entR_get (l : List Entry) (pad : List AV) (i : Nat) (h : i < l.length) : ((boxR entC l pad).drop (i * 3)).take 3 = [.s l[i].key, .sl .fro 2 (dotsAV l[i].live), .sl .fro 2 (dotsAV l[i].dead)] := boxR_get entC_ok l pad i h
theorem take3_1 {x y z : AV} {L : List AV} {j : Nat} (h : (L.drop j).take 3 = [x, y, z]) : L[j + 1]? = some y ∧ L[j + 2]? = some z := by
  have e : ∀ n, L[j + n]? = (L.drop j)[n]? := fun n => by rw [List.getElem?_drop]
  rw [e, e]
  match L.drop j, h with
  | [], h => simp at h
  | [_], h => simp at h
  | [_, _], h => simp at h
  | a :: b :: c :: m, h => simp at h; simp [h.2.1, h.2.2]
theorem put_same {L : List AV} {j : Nat} {y : AV} (h : L[j]? = some y) : L.take j ++ y :: L.drop (j + 1) = L := by
  obtain ⟨hj, h⟩ := List.getElem?_eq_some_iff.1 h
  subst h
  rw [← List.drop_eq_getElem_cons hj, List.take_append_drop]
theorem set_same {L : List AV} {j : Nat} {y : AV} (h : L[j]? = some y) : L.set j y = L := by
  obtain ⟨hj, h⟩ := List.getElem?_eq_some_iff.1 h
  subst h
  exact List.set_getElem_self hj
theorem ents_dat (l : List Entry) : ((entsAV l).flatten.all fun c => c.data && c.cellOk) = true := by
  rw [List.all_eq_true]
  intro c hc
  obtain ⟨y, hy, hc⟩ := List.mem_flatten.1 hc
  obtain ⟨x, _, rfl⟩ := List.mem_map.1 hy
  simp [entC] at hc
  rcases hc with rfl | rfl | rfl <;> rfl

set_option maxRecDepth 8000 in
set_option maxHeartbeats 4000000 in
theorem c_rwset_copied1 (s : List Entry) (hs : Fine s) (hne : s ≠ []) : Pure Try.prog 51 [.sl .fro 3 (entsAV s)] (.sl .own 3 (entsAV s)) := by
  refine proc_of (cx Try.prog 34 [0, 2, 3, 4, 8, 9, 10] [2]) 33 [.tmp 2] Try.func51 rfl rfl rfl rfl rfl rfl (Nat.le_refl _) rfl ?_
  refine AWp.go [0] [] fun K hK => ?_
  simp
  first | refine hK _ _ ?_ | refine ⟨by omega, hK _ _ ?_⟩ | refine ⟨by omega, by omega, hK _ _ ?_⟩
  clear hK K
  refine AWp.go [3] [] fun K hK => ?_
  simp
  refine call_pure (c_Clone_Entry s hs) (by simp) ?_
  simp
  first | refine hK _ _ ?_ | refine ⟨by omega, hK _ _ ?_⟩ | refine ⟨by omega, by omega, hK _ _ ?_⟩
  clear hK K
  refine AWp.unown 3 100 rfl (by simp) (by simpa [entsAV] using hne) rfl (by simp) fun cap hcap => ?_
  simp at hcap
  have hlen := hs.1
  have hcc : Calm (boxR entC s (List.replicate ((cap - s.length) * 3) AV.any)) := boxR_calm entC_ok (Calm.replicate _ rfl)
  have hbl := boxR_len entC_ok s (List.replicate ((cap - s.length) * 3) AV.any)
  simp at hbl
  have e0 : (entsAV s).flatten ++ List.replicate ((cap - s.length) * 3) AV.any = boxR entC s (List.replicate ((cap - s.length) * 3) AV.any) := rfl
  simp [e0]
  refine AWp.seq ?_
  refine AWp.go [3, 8, 9] [100] fun K hK => ?_
  simp [hcc]
  first | refine hK _ _ ?_ | refine ⟨by omega, hK _ _ ?_⟩ | refine ⟨by omega, by omega, hK _ _ ?_⟩
  clear hK K
  refine AWp.block (AWp.while (fun i : Nat => [(3, .bs 100 0 s.length cap), (8, .i .i64 s.length), (9, .i .i64 i)]) (fun i => [(100, boxR entC s (List.replicate ((cap - s.length) * 3) AV.any))]) (fun i => i ≤ s.length) (fun i => s.length - i) [3, 8, 9] [100] 0 (by simp) (by simp [hcc]) ?_)
  intro i hi
  refine AWp.go [3, 8, 9, 10] [100] fun K hK => ?_
  simp [hcc]
  first | refine hK _ _ ?_ | refine ⟨by omega, hK _ _ ?_⟩ | refine ⟨by omega, by omega, hK _ _ ?_⟩
  clear hK K
  refine AWp.seq ?_
  by_cases h2 : i < s.length
  · refine AWp.cond (t := true) (by first | (simp [h2]; done) | (simp [h2]; omega)) (fun _ => ?_) (by simp)
    refine AWp.skip ?_
    show AWp _ _ _ _
    refine AWp.seq ?_
    refine AWp.block ?_
    refine AWp.go [3, 4, 8, 9] [100] fun K hK => ?_
    simp [hcc]
    first | refine hK _ _ ?_ | refine ⟨by omega, hK _ _ ?_⟩ | refine ⟨by omega, by omega, hK _ _ ?_⟩
    clear hK K
    have hl := hs.2 _ (List.getElem_mem h2)
    have g1 := (c_Clone_Dot (dotsAV s[i].live) (by simp; omega)).fro
    have g2 := (c_Clone_Dot (dotsAV s[i].dead) (by simp; omega)).fro
    have q0 := entR_get s (List.replicate ((cap - s.length) * 3) AV.any) i h2
    have q1 := (take3_1 q0).1
    have q2 := (take3_1 q0).2
    have q3 := put_same q1
    have q4 := put_same q2
    have q5 := set_same q1
    have q6 := set_same q2
    refine AWp.lastT (.take 0 (.take 1 (.take 2 (.take 3 (.take 4 (.take 5 (.take 10 (.take 11 (.alt 6 (.take 7 (.alt 8 (.alt 9 (.alt 12 (.take 13 (.alt 14 (.alt 15 (.alt 16 (.take 17 (.alt 18 (.alt 19 (.take 20 (.alt 21 .fin .stop)) .stop) .stop)) .stop) .stop) .stop)) .stop) (.alt 12 (.take 13 (.alt 9 (.alt 14 (.alt 15 (.alt 16 (.take 17 (.alt 18 (.alt 19 (.take 20 (.alt 21 .fin .stop)) .stop) .stop)) .stop) .stop) .stop) (.alt 14 (.alt 9 (.alt 15 (.alt 16 (.take 17 (.alt 18 (.alt 19 (.take 20 (.alt 21 .fin .stop)) .stop) .stop)) .stop) .stop) .stop) .stop))) .stop)) (.alt 12 (.take 13 (.alt 8 (.alt 9 (.alt 14 (.alt 15 (.alt 16 (.take 17 (.alt 18 (.alt 19 (.take 20 (.alt 21 .fin .stop)) .stop) .stop)) .stop) .stop) .stop) (.alt 14 (.alt 9 (.alt 15 (.alt 16 (.take 17 (.alt 18 (.alt 19 (.take 20 (.alt 21 .fin .stop)) .stop) .stop)) .stop) .stop) .stop) .stop)) (.alt 14 (.alt 8 (.alt 9 (.alt 15 (.alt 16 (.take 17 (.alt 18 (.alt 19 (.take 20 (.alt 21 .fin .stop)) .stop) .stop)) .stop) .stop) .stop) .stop) .stop))) .stop))) (.alt 12 (.take 13 (.alt 6 (.take 7 (.alt 8 (.alt 9 (.alt 14 (.alt 15 (.alt 16 (.take 17 (.alt 18 (.alt 19 (.take 20 (.alt 21 .fin .stop)) .stop) .stop)) .stop) .stop) .stop) (.alt 14 (.alt 9 (.alt 15 (.alt 16 (.take 17 (.alt 18 (.alt 19 (.take 20 (.alt 21 .fin .stop)) .stop) .stop)) .stop) .stop) .stop) .stop)) (.alt 14 (.alt 8 (.alt 9 (.alt 15 (.alt 16 (.take 17 (.alt 18 (.alt 19 (.take 20 (.alt 21 .fin .stop)) .stop) .stop)) .stop) .stop) .stop) .stop) .stop))) (.alt 14 (.alt 6 (.take 7 (.alt 8 (.alt 9 (.alt 15 (.alt 16 (.take 17 (.alt 18 (.alt 19 (.take 20 (.alt 21 .fin .stop)) .stop) .stop)) .stop) .stop) .stop) .stop)) .stop) .stop))) .stop)))))))))) [3, 8, 9] [100] [(3, .bs 100 0 s.length cap), (8, .i .i64 s.length), (9, .i .i64 i)] [(100, boxR entC s (List.replicate ((cap - s.length) * 3) AV.any))] mix (by kernel_rfl) ?_ ?_
    · refine atree.tk fun K1 h1 => ?_
      simp
      first | refine h1 _ _ ?_ | refine ⟨by omega, h1 _ _ ?_⟩ | refine ⟨by omega, by omega, h1 _ _ ?_⟩
      clear h1 K1
      refine atree.tk fun K1 h1 => ?_
      simp
      first | refine h1 _ _ ?_ | refine ⟨by omega, h1 _ _ ?_⟩ | refine ⟨by omega, by omega, h1 _ _ ?_⟩
      clear h1 K1
      refine atree.tk fun K1 h1 => ?_
      simp
      first | refine h1 _ _ ?_ | refine ⟨by omega, h1 _ _ ?_⟩ | refine ⟨by omega, by omega, h1 _ _ ?_⟩
      clear h1 K1
      refine atree.tk fun K1 h1 => ?_
      simp
      first | refine h1 _ _ ?_ | refine ⟨by omega, h1 _ _ ?_⟩ | refine ⟨by omega, by omega, h1 _ _ ?_⟩
      clear h1 K1
      refine atree.tk fun K1 h1 => ?_
      simp
      first | refine h1 _ _ ?_ | refine ⟨by omega, h1 _ _ ?_⟩ | refine ⟨by omega, by omega, h1 _ _ ?_⟩
      clear h1 K1
      refine atree.tk fun K1 h1 => ?_
      simp
      first | refine h1 _ _ ?_ | refine ⟨by omega, h1 _ _ ?_⟩ | refine ⟨by omega, by omega, h1 _ _ ?_⟩
      clear h1 K1
      refine atree.tk fun K1 h1 => ?_
      simp
      first | refine h1 _ _ ?_ | refine ⟨by omega, h1 _ _ ?_⟩ | refine ⟨by omega, by omega, h1 _ _ ?_⟩
      clear h1 K1
      refine atree.tk fun K1 h1 => ?_
      simp
      first | refine h1 _ _ ?_ | refine ⟨by omega, h1 _ _ ?_⟩ | refine ⟨by omega, by omega, h1 _ _ ?_⟩
      clear h1 K1
      refine atree.al (fun K1 h1 => ?_) ?_
      · simp [h2]
        first | refine h1 _ _ ?_ | refine ⟨by omega, h1 _ _ ?_⟩ | refine ⟨by omega, by omega, h1 _ _ ?_⟩
        clear h1 K1
        refine atree.tk fun K1 h1 => ?_
        simp
        first | refine h1 _ _ ?_ | refine ⟨by omega, h1 _ _ ?_⟩ | refine ⟨by omega, by omega, h1 _ _ ?_⟩
        clear h1 K1
        refine atree.al (fun K1 h1 => ?_) ?_
        · simp [hbl, q1]
          first | refine h1 _ _ ?_ | refine ⟨by omega, h1 _ _ ?_⟩ | refine ⟨by omega, by omega, h1 _ _ ?_⟩
          clear h1 K1
          refine atree.al (fun K1 h1 => ?_) ?_
          · simp
            refine call_pure g1 (by simp) ?_
            simp
            first | refine h1 _ _ ?_ | refine ⟨by omega, h1 _ _ ?_⟩ | refine ⟨by omega, by omega, h1 _ _ ?_⟩
            clear h1 K1
            refine atree.a1 fun K1 h1 => ?_
            simp [h2, hcc]
            first | refine h1 _ _ ?_ | refine ⟨by omega, h1 _ _ ?_⟩ | refine ⟨by omega, by omega, h1 _ _ ?_⟩
            clear h1 K1
            refine atree.tk fun K1 h1 => ?_
            simp
            first | refine h1 _ _ ?_ | refine ⟨by omega, h1 _ _ ?_⟩ | refine ⟨by omega, by omega, h1 _ _ ?_⟩
            clear h1 K1
            refine atree.a1 fun K1 h1 => ?_
            simp [hbl, q2]
            first | refine h1 _ _ ?_ | refine ⟨by omega, h1 _ _ ?_⟩ | refine ⟨by omega, by omega, h1 _ _ ?_⟩
            clear h1 K1
            refine atree.a1 fun K1 h1 => ?_
            simp
            refine call_pure g2 (by simp) ?_
            simp
            first | refine h1 _ _ ?_ | refine ⟨by omega, h1 _ _ ?_⟩ | refine ⟨by omega, by omega, h1 _ _ ?_⟩
            clear h1 K1
            refine atree.a1 fun K1 h1 => ?_
            simp [h2, hcc]
            first | refine h1 _ _ ?_ | refine ⟨by omega, h1 _ _ ?_⟩ | refine ⟨by omega, by omega, h1 _ _ ?_⟩
            clear h1 K1
            refine atree.tk fun K1 h1 => ?_
            simp
            first | refine h1 _ _ ?_ | refine ⟨by omega, h1 _ _ ?_⟩ | refine ⟨by omega, by omega, h1 _ _ ?_⟩
            clear h1 K1
            refine atree.a1 fun K1 h1 => ?_
            simp [hcc, hbl, q3]
            first | refine h1 _ _ ?_ | refine ⟨by omega, h1 _ _ ?_⟩ | refine ⟨by omega, by omega, h1 _ _ ?_⟩
            clear h1 K1
            refine atree.a1 fun K1 h1 => ?_
            simp [h2]
            first | refine h1 _ _ ?_ | refine ⟨by omega, h1 _ _ ?_⟩ | refine ⟨by omega, by omega, h1 _ _ ?_⟩
            clear h1 K1
            refine atree.tk fun K1 h1 => ?_
            simp
            first | refine h1 _ _ ?_ | refine ⟨by omega, h1 _ _ ?_⟩ | refine ⟨by omega, by omega, h1 _ _ ?_⟩
            clear h1 K1
            refine atree.a1 fun K1 h1 => ?_
            simp [hcc, hbl, q4]
            first | refine h1 _ _ ?_ | refine ⟨by omega, h1 _ _ ?_⟩ | refine ⟨by omega, by omega, h1 _ _ ?_⟩
            clear h1 K1
            simp [hcc]
          · refine atree.a1 fun K1 h1 => ?_
            simp [h2]
            first | refine h1 _ _ ?_ | refine ⟨by omega, h1 _ _ ?_⟩ | refine ⟨by omega, by omega, h1 _ _ ?_⟩
            clear h1 K1
            refine atree.tk fun K1 h1 => ?_
            simp
            first | refine h1 _ _ ?_ | refine ⟨by omega, h1 _ _ ?_⟩ | refine ⟨by omega, by omega, h1 _ _ ?_⟩
            clear h1 K1
            refine atree.al (fun K1 h1 => ?_) ?_
            · simp
              refine call_pure g1 (by simp) ?_
              simp
              first | refine h1 _ _ ?_ | refine ⟨by omega, h1 _ _ ?_⟩ | refine ⟨by omega, by omega, h1 _ _ ?_⟩
              clear h1 K1
              refine atree.a1 fun K1 h1 => ?_
              simp [hcc, hbl, q2]
              first | refine h1 _ _ ?_ | refine ⟨by omega, h1 _ _ ?_⟩ | refine ⟨by omega, by omega, h1 _ _ ?_⟩
              clear h1 K1
              refine atree.a1 fun K1 h1 => ?_
              simp
              refine call_pure g2 (by simp) ?_
              simp
              first | refine h1 _ _ ?_ | refine ⟨by omega, h1 _ _ ?_⟩ | refine ⟨by omega, by omega, h1 _ _ ?_⟩
              clear h1 K1
              refine atree.a1 fun K1 h1 => ?_
              simp [h2, hcc]
              first | refine h1 _ _ ?_ | refine ⟨by omega, h1 _ _ ?_⟩ | refine ⟨by omega, by omega, h1 _ _ ?_⟩
              clear h1 K1
              refine atree.tk fun K1 h1 => ?_
              simp
              first | refine h1 _ _ ?_ | refine ⟨by omega, h1 _ _ ?_⟩ | refine ⟨by omega, by omega, h1 _ _ ?_⟩
              clear h1 K1
              refine atree.a1 fun K1 h1 => ?_
              simp [hcc, hbl, q3]
              first | refine h1 _ _ ?_ | refine ⟨by omega, h1 _ _ ?_⟩ | refine ⟨by omega, by omega, h1 _ _ ?_⟩
              clear h1 K1
              refine atree.a1 fun K1 h1 => ?_
              simp [h2]
              first | refine h1 _ _ ?_ | refine ⟨by omega, h1 _ _ ?_⟩ | refine ⟨by omega, by omega, h1 _ _ ?_⟩
              clear h1 K1
              refine atree.tk fun K1 h1 => ?_
              simp
              first | refine h1 _ _ ?_ | refine ⟨by omega, h1 _ _ ?_⟩ | refine ⟨by omega, by omega, h1 _ _ ?_⟩
              clear h1 K1
              refine atree.a1 fun K1 h1 => ?_
              simp [hcc, hbl, q4]
              first | refine h1 _ _ ?_ | refine ⟨by omega, h1 _ _ ?_⟩ | refine ⟨by omega, by omega, h1 _ _ ?_⟩
              clear h1 K1
              simp [hcc]
            · refine atree.a1 fun K1 h1 => ?_
              simp [hbl, q2]
              first | refine h1 _ _ ?_ | refine ⟨by omega, h1 _ _ ?_⟩ | refine ⟨by omega, by omega, h1 _ _ ?_⟩
              clear h1 K1
              refine atree.a1 fun K1 h1 => ?_
              simp
              refine call_pure g1 (by simp) ?_
              simp
              first | refine h1 _ _ ?_ | refine ⟨by omega, h1 _ _ ?_⟩ | refine ⟨by omega, by omega, h1 _ _ ?_⟩
              clear h1 K1
              refine atree.a1 fun K1 h1 => ?_
              simp [hcc]
              refine call_pure g2 (by simp) ?_
              simp
              first | refine h1 _ _ ?_ | refine ⟨by omega, h1 _ _ ?_⟩ | refine ⟨by omega, by omega, h1 _ _ ?_⟩
              clear h1 K1
              refine atree.a1 fun K1 h1 => ?_
              simp [h2, hcc]
              first | refine h1 _ _ ?_ | refine ⟨by omega, h1 _ _ ?_⟩ | refine ⟨by omega, by omega, h1 _ _ ?_⟩
              clear h1 K1
              refine atree.tk fun K1 h1 => ?_
              simp
              first | refine h1 _ _ ?_ | refine ⟨by omega, h1 _ _ ?_⟩ | refine ⟨by omega, by omega, h1 _ _ ?_⟩
              clear h1 K1
              refine atree.a1 fun K1 h1 => ?_
              simp [hcc, hbl, q3]
              first | refine h1 _ _ ?_ | refine ⟨by omega, h1 _ _ ?_⟩ | refine ⟨by omega, by omega, h1 _ _ ?_⟩
              clear h1 K1
              refine atree.a1 fun K1 h1 => ?_
              simp [h2]
              first | refine h1 _ _ ?_ | refine ⟨by omega, h1 _ _ ?_⟩ | refine ⟨by omega, by omega, h1 _ _ ?_⟩
              clear h1 K1
              refine atree.tk fun K1 h1 => ?_
              simp
              first | refine h1 _ _ ?_ | refine ⟨by omega, h1 _ _ ?_⟩ | refine ⟨by omega, by omega, h1 _ _ ?_⟩
              clear h1 K1
              refine atree.a1 fun K1 h1 => ?_
              simp [hcc, hbl, q4]
              first | refine h1 _ _ ?_ | refine ⟨by omega, h1 _ _ ?_⟩ | refine ⟨by omega, by omega, h1 _ _ ?_⟩
              clear h1 K1
              simp [hcc]
        · refine atree.a1 fun K1 h1 => ?_
          simp [h2]
          first | refine h1 _ _ ?_ | refine ⟨by omega, h1 _ _ ?_⟩ | refine ⟨by omega, by omega, h1 _ _ ?_⟩
          clear h1 K1
          refine atree.tk fun K1 h1 => ?_
          simp
          first | refine h1 _ _ ?_ | refine ⟨by omega, h1 _ _ ?_⟩ | refine ⟨by omega, by omega, h1 _ _ ?_⟩
          clear h1 K1
          refine atree.al (fun K1 h1 => ?_) ?_
          · simp [hbl, q1]
            first | refine h1 _ _ ?_ | refine ⟨by omega, h1 _ _ ?_⟩ | refine ⟨by omega, by omega, h1 _ _ ?_⟩
            clear h1 K1
            refine atree.al (fun K1 h1 => ?_) ?_
            · simp
              refine call_pure g1 (by simp) ?_
              simp
              first | refine h1 _ _ ?_ | refine ⟨by omega, h1 _ _ ?_⟩ | refine ⟨by omega, by omega, h1 _ _ ?_⟩
              clear h1 K1
              refine atree.a1 fun K1 h1 => ?_
              simp [hcc, hbl, q2]
              first | refine h1 _ _ ?_ | refine ⟨by omega, h1 _ _ ?_⟩ | refine ⟨by omega, by omega, h1 _ _ ?_⟩
              clear h1 K1
              refine atree.a1 fun K1 h1 => ?_
              simp
              refine call_pure g2 (by simp) ?_
              simp
              first | refine h1 _ _ ?_ | refine ⟨by omega, h1 _ _ ?_⟩ | refine ⟨by omega, by omega, h1 _ _ ?_⟩
              clear h1 K1
              refine atree.a1 fun K1 h1 => ?_
              simp [h2, hcc]
              first | refine h1 _ _ ?_ | refine ⟨by omega, h1 _ _ ?_⟩ | refine ⟨by omega, by omega, h1 _ _ ?_⟩
              clear h1 K1
              refine atree.tk fun K1 h1 => ?_
              simp
              first | refine h1 _ _ ?_ | refine ⟨by omega, h1 _ _ ?_⟩ | refine ⟨by omega, by omega, h1 _ _ ?_⟩
              clear h1 K1
              refine atree.a1 fun K1 h1 => ?_
              simp [hcc, hbl, q3]
              first | refine h1 _ _ ?_ | refine ⟨by omega, h1 _ _ ?_⟩ | refine ⟨by omega, by omega, h1 _ _ ?_⟩
              clear h1 K1
              refine atree.a1 fun K1 h1 => ?_
              simp [h2]
              first | refine h1 _ _ ?_ | refine ⟨by omega, h1 _ _ ?_⟩ | refine ⟨by omega, by omega, h1 _ _ ?_⟩
              clear h1 K1
              refine atree.tk fun K1 h1 => ?_
              simp
              first | refine h1 _ _ ?_ | refine ⟨by omega, h1 _ _ ?_⟩ | refine ⟨by omega, by omega, h1 _ _ ?_⟩
              clear h1 K1
              refine atree.a1 fun K1 h1 => ?_
              simp [hcc, hbl, q4]
              first | refine h1 _ _ ?_ | refine ⟨by omega, h1 _ _ ?_⟩ | refine ⟨by omega, by omega, h1 _ _ ?_⟩
              clear h1 K1
              simp [hcc]
            · refine atree.a1 fun K1 h1 => ?_
              simp [hbl, q2]
              first | refine h1 _ _ ?_ | refine ⟨by omega, h1 _ _ ?_⟩ | refine ⟨by omega, by omega, h1 _ _ ?_⟩
              clear h1 K1
              refine atree.a1 fun K1 h1 => ?_
              simp
              refine call_pure g1 (by simp) ?_
              simp
              first | refine h1 _ _ ?_ | refine ⟨by omega, h1 _ _ ?_⟩ | refine ⟨by omega, by omega, h1 _ _ ?_⟩
              clear h1 K1
              refine atree.a1 fun K1 h1 => ?_
              simp [hcc]
              refine call_pure g2 (by simp) ?_
              simp
              first | refine h1 _ _ ?_ | refine ⟨by omega, h1 _ _ ?_⟩ | refine ⟨by omega, by omega, h1 _ _ ?_⟩
              clear h1 K1
              refine atree.a1 fun K1 h1 => ?_
              simp [h2, hcc]
              first | refine h1 _ _ ?_ | refine ⟨by omega, h1 _ _ ?_⟩ | refine ⟨by omega, by omega, h1 _ _ ?_⟩
              clear h1 K1
              refine atree.tk fun K1 h1 => ?_
              simp
              first | refine h1 _ _ ?_ | refine ⟨by omega, h1 _ _ ?_⟩ | refine ⟨by omega, by omega, h1 _ _ ?_⟩
              clear h1 K1
              refine atree.a1 fun K1 h1 => ?_
              simp [hcc, hbl, q3]
              first | refine h1 _ _ ?_ | refine ⟨by omega, h1 _ _ ?_⟩ | refine ⟨by omega, by omega, h1 _ _ ?_⟩
              clear h1 K1
              refine atree.a1 fun K1 h1 => ?_
              simp [h2]
              first | refine h1 _ _ ?_ | refine ⟨by omega, h1 _ _ ?_⟩ | refine ⟨by omega, by omega, h1 _ _ ?_⟩
              clear h1 K1
              refine atree.tk fun K1 h1 => ?_
              simp
              first | refine h1 _ _ ?_ | refine ⟨by omega, h1 _ _ ?_⟩ | refine ⟨by omega, by omega, h1 _ _ ?_⟩
              clear h1 K1
              refine atree.a1 fun K1 h1 => ?_
              simp [hcc, hbl, q4]
              first | refine h1 _ _ ?_ | refine ⟨by omega, h1 _ _ ?_⟩ | refine ⟨by omega, by omega, h1 _ _ ?_⟩
              clear h1 K1
              simp [hcc]
          · refine atree.a1 fun K1 h1 => ?_
            simp [hbl, q2]
            first | refine h1 _ _ ?_ | refine ⟨by omega, h1 _ _ ?_⟩ | refine ⟨by omega, by omega, h1 _ _ ?_⟩
            clear h1 K1
            refine atree.a1 fun K1 h1 => ?_
            simp [hbl, q1]
            first | refine h1 _ _ ?_ | refine ⟨by omega, h1 _ _ ?_⟩ | refine ⟨by omega, by omega, h1 _ _ ?_⟩
            clear h1 K1
            refine atree.a1 fun K1 h1 => ?_
            simp
            refine call_pure g1 (by simp) ?_
            simp
            first | refine h1 _ _ ?_ | refine ⟨by omega, h1 _ _ ?_⟩ | refine ⟨by omega, by omega, h1 _ _ ?_⟩
            clear h1 K1
            refine atree.a1 fun K1 h1 => ?_
            simp [hcc]
            refine call_pure g2 (by simp) ?_
            simp
            first | refine h1 _ _ ?_ | refine ⟨by omega, h1 _ _ ?_⟩ | refine ⟨by omega, by omega, h1 _ _ ?_⟩
            clear h1 K1
            refine atree.a1 fun K1 h1 => ?_
            simp [h2, hcc]
            first | refine h1 _ _ ?_ | refine ⟨by omega, h1 _ _ ?_⟩ | refine ⟨by omega, by omega, h1 _ _ ?_⟩
            clear h1 K1
            refine atree.tk fun K1 h1 => ?_
            simp
            first | refine h1 _ _ ?_ | refine ⟨by omega, h1 _ _ ?_⟩ | refine ⟨by omega, by omega, h1 _ _ ?_⟩
            clear h1 K1
            refine atree.a1 fun K1 h1 => ?_
            simp [hcc, hbl, q3]
            first | refine h1 _ _ ?_ | refine ⟨by omega, h1 _ _ ?_⟩ | refine ⟨by omega, by omega, h1 _ _ ?_⟩
            clear h1 K1
            refine atree.a1 fun K1 h1 => ?_
            simp [h2]
            first | refine h1 _ _ ?_ | refine ⟨by omega, h1 _ _ ?_⟩ | refine ⟨by omega, by omega, h1 _ _ ?_⟩
            clear h1 K1
            refine atree.tk fun K1 h1 => ?_
            simp
            first | refine h1 _ _ ?_ | refine ⟨by omega, h1 _ _ ?_⟩ | refine ⟨by omega, by omega, h1 _ _ ?_⟩
            clear h1 K1
            refine atree.a1 fun K1 h1 => ?_
            simp [hcc, hbl, q4]
            first | refine h1 _ _ ?_ | refine ⟨by omega, h1 _ _ ?_⟩ | refine ⟨by omega, by omega, h1 _ _ ?_⟩
            clear h1 K1
            simp [hcc]
      · refine atree.a1 fun K1 h1 => ?_
        simp [h2]
        first | refine h1 _ _ ?_ | refine ⟨by omega, h1 _ _ ?_⟩ | refine ⟨by omega, by omega, h1 _ _ ?_⟩
        clear h1 K1
        refine atree.tk fun K1 h1 => ?_
        simp
        first | refine h1 _ _ ?_ | refine ⟨by omega, h1 _ _ ?_⟩ | refine ⟨by omega, by omega, h1 _ _ ?_⟩
        clear h1 K1
        refine atree.al (fun K1 h1 => ?_) ?_
        · simp [h2]
          first | refine h1 _ _ ?_ | refine ⟨by omega, h1 _ _ ?_⟩ | refine ⟨by omega, by omega, h1 _ _ ?_⟩
          clear h1 K1
          refine atree.tk fun K1 h1 => ?_
          simp
          first | refine h1 _ _ ?_ | refine ⟨by omega, h1 _ _ ?_⟩ | refine ⟨by omega, by omega, h1 _ _ ?_⟩
          clear h1 K1
          refine atree.al (fun K1 h1 => ?_) ?_
          · simp [hbl, q1]
            first | refine h1 _ _ ?_ | refine ⟨by omega, h1 _ _ ?_⟩ | refine ⟨by omega, by omega, h1 _ _ ?_⟩
            clear h1 K1
            refine atree.al (fun K1 h1 => ?_) ?_
            · simp
              refine call_pure g1 (by simp) ?_
              simp
              first | refine h1 _ _ ?_ | refine ⟨by omega, h1 _ _ ?_⟩ | refine ⟨by omega, by omega, h1 _ _ ?_⟩
              clear h1 K1
              refine atree.a1 fun K1 h1 => ?_
              simp [hcc, hbl, q2]
              first | refine h1 _ _ ?_ | refine ⟨by omega, h1 _ _ ?_⟩ | refine ⟨by omega, by omega, h1 _ _ ?_⟩
              clear h1 K1
              refine atree.a1 fun K1 h1 => ?_
              simp
              refine call_pure g2 (by simp) ?_
              simp
              first | refine h1 _ _ ?_ | refine ⟨by omega, h1 _ _ ?_⟩ | refine ⟨by omega, by omega, h1 _ _ ?_⟩
              clear h1 K1
              refine atree.a1 fun K1 h1 => ?_
              simp [h2, hcc]
              first | refine h1 _ _ ?_ | refine ⟨by omega, h1 _ _ ?_⟩ | refine ⟨by omega, by omega, h1 _ _ ?_⟩
              clear h1 K1
              refine atree.tk fun K1 h1 => ?_
              simp
              first | refine h1 _ _ ?_ | refine ⟨by omega, h1 _ _ ?_⟩ | refine ⟨by omega, by omega, h1 _ _ ?_⟩
              clear h1 K1
              refine atree.a1 fun K1 h1 => ?_
              simp [hcc, hbl, q3]
              first | refine h1 _ _ ?_ | refine ⟨by omega, h1 _ _ ?_⟩ | refine ⟨by omega, by omega, h1 _ _ ?_⟩
              clear h1 K1
              refine atree.a1 fun K1 h1 => ?_
              simp [h2]
              first | refine h1 _ _ ?_ | refine ⟨by omega, h1 _ _ ?_⟩ | refine ⟨by omega, by omega, h1 _ _ ?_⟩
              clear h1 K1
              refine atree.tk fun K1 h1 => ?_
              simp
              first | refine h1 _ _ ?_ | refine ⟨by omega, h1 _ _ ?_⟩ | refine ⟨by omega, by omega, h1 _ _ ?_⟩
              clear h1 K1
              refine atree.a1 fun K1 h1 => ?_
              simp [hcc, hbl, q4]
              first | refine h1 _ _ ?_ | refine ⟨by omega, h1 _ _ ?_⟩ | refine ⟨by omega, by omega, h1 _ _ ?_⟩
              clear h1 K1
              simp [hcc]
            · refine atree.a1 fun K1 h1 => ?_
              simp [hbl, q2]
              first | refine h1 _ _ ?_ | refine ⟨by omega, h1 _ _ ?_⟩ | refine ⟨by omega, by omega, h1 _ _ ?_⟩
              clear h1 K1
              refine atree.a1 fun K1 h1 => ?_
              simp
              refine call_pure g1 (by simp) ?_
              simp
              first | refine h1 _ _ ?_ | refine ⟨by omega, h1 _ _ ?_⟩ | refine ⟨by omega, by omega, h1 _ _ ?_⟩
              clear h1 K1
              refine atree.a1 fun K1 h1 => ?_
              simp [hcc]
              refine call_pure g2 (by simp) ?_
              simp
              first | refine h1 _ _ ?_ | refine ⟨by omega, h1 _ _ ?_⟩ | refine ⟨by omega, by omega, h1 _ _ ?_⟩
              clear h1 K1
              refine atree.a1 fun K1 h1 => ?_
              simp [h2, hcc]
              first | refine h1 _ _ ?_ | refine ⟨by omega, h1 _ _ ?_⟩ | refine ⟨by omega, by omega, h1 _ _ ?_⟩
              clear h1 K1
              refine atree.tk fun K1 h1 => ?_
              simp
              first | refine h1 _ _ ?_ | refine ⟨by omega, h1 _ _ ?_⟩ | refine ⟨by omega, by omega, h1 _ _ ?_⟩
              clear h1 K1
              refine atree.a1 fun K1 h1 => ?_
              simp [hcc, hbl, q3]
              first | refine h1 _ _ ?_ | refine ⟨by omega, h1 _ _ ?_⟩ | refine ⟨by omega, by omega, h1 _ _ ?_⟩
              clear h1 K1
              refine atree.a1 fun K1 h1 => ?_
              simp [h2]
              first | refine h1 _ _ ?_ | refine ⟨by omega, h1 _ _ ?_⟩ | refine ⟨by omega, by omega, h1 _ _ ?_⟩
              clear h1 K1
              refine atree.tk fun K1 h1 => ?_
              simp
              first | refine h1 _ _ ?_ | refine ⟨by omega, h1 _ _ ?_⟩ | refine ⟨by omega, by omega, h1 _ _ ?_⟩
              clear h1 K1
              refine atree.a1 fun K1 h1 => ?_
              simp [hcc, hbl, q4]
              first | refine h1 _ _ ?_ | refine ⟨by omega, h1 _ _ ?_⟩ | refine ⟨by omega, by omega, h1 _ _ ?_⟩
              clear h1 K1
              simp [hcc]
          · refine atree.a1 fun K1 h1 => ?_
            simp [hbl, q2]
            first | refine h1 _ _ ?_ | refine ⟨by omega, h1 _ _ ?_⟩ | refine ⟨by omega, by omega, h1 _ _ ?_⟩
            clear h1 K1
            refine atree.a1 fun K1 h1 => ?_
            simp [hbl, q1]
            first | refine h1 _ _ ?_ | refine ⟨by omega, h1 _ _ ?_⟩ | refine ⟨by omega, by omega, h1 _ _ ?_⟩
            clear h1 K1
            refine atree.a1 fun K1 h1 => ?_
            simp
            refine call_pure g1 (by simp) ?_
            simp
            first | refine h1 _ _ ?_ | refine ⟨by omega, h1 _ _ ?_⟩ | refine ⟨by omega, by omega, h1 _ _ ?_⟩
            clear h1 K1
            refine atree.a1 fun K1 h1 => ?_
            simp [hcc]
            refine call_pure g2 (by simp) ?_
            simp
            first | refine h1 _ _ ?_ | refine ⟨by omega, h1 _ _ ?_⟩ | refine ⟨by omega, by omega, h1 _ _ ?_⟩
            clear h1 K1
            refine atree.a1 fun K1 h1 => ?_
            simp [h2, hcc]
            first | refine h1 _ _ ?_ | refine ⟨by omega, h1 _ _ ?_⟩ | refine ⟨by omega, by omega, h1 _ _ ?_⟩
            clear h1 K1
            refine atree.tk fun K1 h1 => ?_
            simp
            first | refine h1 _ _ ?_ | refine ⟨by omega, h1 _ _ ?_⟩ | refine ⟨by omega, by omega, h1 _ _ ?_⟩
            clear h1 K1
            refine atree.a1 fun K1 h1 => ?_
            simp [hcc, hbl, q3]
            first | refine h1 _ _ ?_ | refine ⟨by omega, h1 _ _ ?_⟩ | refine ⟨by omega, by omega, h1 _ _ ?_⟩
            clear h1 K1
            refine atree.a1 fun K1 h1 => ?_
            simp [h2]
            first | refine h1 _ _ ?_ | refine ⟨by omega, h1 _ _ ?_⟩ | refine ⟨by omega, by omega, h1 _ _ ?_⟩
            clear h1 K1
            refine atree.tk fun K1 h1 => ?_
            simp
            first | refine h1 _ _ ?_ | refine ⟨by omega, h1 _ _ ?_⟩ | refine ⟨by omega, by omega, h1 _ _ ?_⟩
            clear h1 K1
            refine atree.a1 fun K1 h1 => ?_
            simp [hcc, hbl, q4]
            first | refine h1 _ _ ?_ | refine ⟨by omega, h1 _ _ ?_⟩ | refine ⟨by omega, by omega, h1 _ _ ?_⟩
            clear h1 K1
            simp [hcc]
        · refine atree.a1 fun K1 h1 => ?_
          simp [hbl, q2]
          first | refine h1 _ _ ?_ | refine ⟨by omega, h1 _ _ ?_⟩ | refine ⟨by omega, by omega, h1 _ _ ?_⟩
          clear h1 K1
          refine atree.a1 fun K1 h1 => ?_
          simp [h2]
          first | refine h1 _ _ ?_ | refine ⟨by omega, h1 _ _ ?_⟩ | refine ⟨by omega, by omega, h1 _ _ ?_⟩
          clear h1 K1
          refine atree.tk fun K1 h1 => ?_
          simp
          first | refine h1 _ _ ?_ | refine ⟨by omega, h1 _ _ ?_⟩ | refine ⟨by omega, by omega, h1 _ _ ?_⟩
          clear h1 K1
          refine atree.a1 fun K1 h1 => ?_
          simp [hbl, q1]
          first | refine h1 _ _ ?_ | refine ⟨by omega, h1 _ _ ?_⟩ | refine ⟨by omega, by omega, h1 _ _ ?_⟩
          clear h1 K1
          refine atree.a1 fun K1 h1 => ?_
          simp
          refine call_pure g1 (by simp) ?_
          simp
          first | refine h1 _ _ ?_ | refine ⟨by omega, h1 _ _ ?_⟩ | refine ⟨by omega, by omega, h1 _ _ ?_⟩
          clear h1 K1
          refine atree.a1 fun K1 h1 => ?_
          simp [hcc]
          refine call_pure g2 (by simp) ?_
          simp
          first | refine h1 _ _ ?_ | refine ⟨by omega, h1 _ _ ?_⟩ | refine ⟨by omega, by omega, h1 _ _ ?_⟩
          clear h1 K1
          refine atree.a1 fun K1 h1 => ?_
          simp [h2, hcc]
          first | refine h1 _ _ ?_ | refine ⟨by omega, h1 _ _ ?_⟩ | refine ⟨by omega, by omega, h1 _ _ ?_⟩
          clear h1 K1
          refine atree.tk fun K1 h1 => ?_
          simp
          first | refine h1 _ _ ?_ | refine ⟨by omega, h1 _ _ ?_⟩ | refine ⟨by omega, by omega, h1 _ _ ?_⟩
          clear h1 K1
          refine atree.a1 fun K1 h1 => ?_
          simp [hcc, hbl, q3]
          first | refine h1 _ _ ?_ | refine ⟨by omega, h1 _ _ ?_⟩ | refine ⟨by omega, by omega, h1 _ _ ?_⟩
          clear h1 K1
          refine atree.a1 fun K1 h1 => ?_
          simp [h2]
          first | refine h1 _ _ ?_ | refine ⟨by omega, h1 _ _ ?_⟩ | refine ⟨by omega, by omega, h1 _ _ ?_⟩
          clear h1 K1
          refine atree.tk fun K1 h1 => ?_
          simp
          first | refine h1 _ _ ?_ | refine ⟨by omega, h1 _ _ ?_⟩ | refine ⟨by omega, by omega, h1 _ _ ?_⟩
          clear h1 K1
          refine atree.a1 fun K1 h1 => ?_
          simp [hcc, hbl, q4]
          first | refine h1 _ _ ?_ | refine ⟨by omega, h1 _ _ ?_⟩ | refine ⟨by omega, by omega, h1 _ _ ?_⟩
          clear h1 K1
          simp [hcc]
    show AWp _ _ _ _
    refine AWp.goLast [3, 8, 9] [100] fun K hK => ?_
    simp [hcc]
    first | refine hK _ _ ?_ | refine ⟨by omega, hK _ _ ?_⟩ | refine ⟨by omega, by omega, hK _ _ ?_⟩
    clear hK K
    refine ⟨i + 1, by omega, by omega, ?_⟩
    simp [hcc]
    exact wrap64 (by omega) (by omega)
  · refine AWp.cond (t := false) (by first | (simp [h2]; done) | (simp [h2]; omega)) (by simp) (fun _ => ?_)
    refine AWp.exit ?_
    show AWp _ _ _ _
    obtain rfl : i = s.length := by omega
    have hrl : ((entsAV s).flatten).length = s.length * 3 := rows_len entC_ok s
    refine AWp.reown 3 100 cap (sz := 3) (entsAV s) (List.replicate ((cap - s.length) * 3) AV.any) (by simp) (by simp) rfl ?_ (fun z hz => ?_) (ents_dat s) hcc.freeL ?_
    · rw [List.length_append, hrl, List.length_replicate]; omega
    · obtain ⟨x, _, rfl⟩ := List.mem_map.1 hz; rfl
    simp
    refine AWp.go [2] [100] fun K hK => ?_
    simp
    first | refine hK _ _ ?_ | refine ⟨by omega, hK _ _ ?_⟩ | refine ⟨by omega, by omega, hK _ _ ?_⟩
    clear hK K
    refine AWp.ret ?_
    simp

set_option maxRecDepth 8000 in
theorem c_rwset_copied0 : Pure Try.prog 51 [.sl .fro 3 []] (.sl .own 3 []) := by
  refine proc_of (cx Try.prog 34 [0, 2, 3, 4, 8, 9, 10] [2]) 33 [.tmp 2] Try.func51 rfl rfl rfl rfl rfl rfl (Nat.le_refl _) rfl ?_
  refine AWp.go [0] [] fun K hK => ?_
  simp
  first | refine hK _ _ ?_ | refine ⟨by omega, hK _ _ ?_⟩ | refine ⟨by omega, by omega, hK _ _ ?_⟩
  clear hK K
  refine AWp.go [3] [] fun K hK => ?_
  simp
  refine call_pure (c_Clone_Entry [] ⟨by simp, by simp⟩) (by simp [entsAV]) ?_
  simp
  first | refine hK _ _ ?_ | refine ⟨by omega, hK _ _ ?_⟩ | refine ⟨by omega, by omega, hK _ _ ?_⟩
  clear hK K
  refine AWp.seq ?_
  refine AWp.go [3, 8, 9] [] fun K hK => ?_
  simp
  first | refine hK _ _ ?_ | refine ⟨by omega, hK _ _ ?_⟩ | refine ⟨by omega, by omega, hK _ _ ?_⟩
  clear hK K
  refine AWp.block (AWp.while (fun i : Nat => [(3, .sl .own 3 []), (8, .i .i64 0), (9, .i .i64 0)]) (fun i => []) (fun i => True) (fun i => 0) [3, 8, 9] [] 0 (by simp) (by simp [entsAV]) ?_)
  intro i hi
  refine AWp.go [3, 8, 9, 10] [] fun K hK => ?_
  simp
  first | refine hK _ _ ?_ | refine ⟨by omega, hK _ _ ?_⟩ | refine ⟨by omega, by omega, hK _ _ ?_⟩
  clear hK K
  refine AWp.seq ?_
  refine AWp.cond (t := false) (by first | (simp; done) | (simp; omega)) (by simp) (fun _ => ?_)
  refine AWp.exit ?_
  show AWp _ _ _ _
  refine AWp.go [2] [] fun K hK => ?_
  simp
  first | refine hK _ _ ?_ | refine ⟨by omega, hK _ _ ?_⟩ | refine ⟨by omega, by omega, hK _ _ ?_⟩
  clear hK K
  refine AWp.ret ?_
  simp
theorem c_rwset_copied (s : List Entry) (hs : Fine s) : Pure Try.prog 51 [.sl .fro 3 (entsAV s)] (.sl .own 3 (entsAV s)) := by
  by_cases h : s = []
  · subst h; exact c_rwset_copied0
  · exact c_rwset_copied1 s hs h

set_option maxRecDepth 8000 in
set_option maxHeartbeats 2000000 in
theorem c_rwset_may (s : List Entry) (k : ByteArray) (d : Dot) (c : List Int) (hs : Fine s) (hc : c.length ≤ 1000000) : Pure Try.prog 48 [.sl .fro 3 (entsAV s), .s k, .agg (dotC d), .sl .fro 1 (intsAV c)] (.b (setOk s && keyOk k && mayD d && clockOk c)) := by
  refine proc_of (cx Try.prog 25 [0, 1, 3, 6, 8] [8]) 21 [.tmp 8] Try.func48 rfl rfl rfl rfl rfl rfl (Nat.le_refl _) rfl ?_
  refine AWp.go [0, 1, 3, 6] [6] fun K hK => ?_
  simp [dotC]
  first | refine hK _ _ ?_ | refine ⟨by omega, hK _ _ ?_⟩ | refine ⟨by omega, by omega, hK _ _ ?_⟩
  clear hK K
  refine AWp.step [8] [] [(8, .b (setOk s && keyOk k && mayD d && clockOk c))] [] ?_ ?_
  · have g1 := c_rwset_Check s hs
    have g2 := c_rwset_right k
    have g3 := c_dots_May d
    have g4 := c100 c (by omega)
    simp
    refine call_pure g1 (by simp) ?_
    cases q1 : setOk s
    · simp
    simp
    refine call_pure g2 (by simp) ?_
    cases q2 : keyOk k
    · simp
    simp
    refine call_pure g3 (by simp [dotC]) ?_
    cases q3 : mayD d
    · simp
    simp
    refine call_pure g4 (by simp) ?_
    cases q4 : clockOk c
    · simp
    simp
  refine AWp.ret ?_
  simp

set_option maxRecDepth 8000 in
set_option maxHeartbeats 2000000 in
theorem c_rwset_Has (s : List Entry) (k : ByteArray) (hs : Fine s) : Pure Try.prog 24 [.sl .fro 3 (entsAV s), .s k] (.b (setOk s && decide ((0 : Int) < (atE s k).live.length))) := by
  refine proc_of (cx Try.prog 24 [0, 1, 4, 6] [4]) 22 [.tmp 4] Try.func24 rfl rfl rfl rfl rfl rfl (Nat.le_refl _) rfl ?_
  refine AWp.go [0, 1] [] fun K hK => ?_
  simp
  first | refine hK _ _ ?_ | refine ⟨by omega, hK _ _ ?_⟩ | refine ⟨by omega, by omega, hK _ _ ?_⟩
  clear hK K
  refine AWp.go [0, 6] [6] fun K hK => ?_
  simp
  refine call_pure (c_rwset_at s k hs) (by simp) ?_
  simp [entC]
  first | refine hK _ _ ?_ | refine ⟨by omega, hK _ _ ?_⟩ | refine ⟨by omega, by omega, hK _ _ ?_⟩
  clear hK K
  refine AWp.step [4] [] [(4, .b (setOk s && decide ((0 : Int) < (atE s k).live.length)))] [] ?_ ?_
  · have g1 := c_rwset_Check s hs
    simp
    refine call_pure g1 (by simp) ?_
    cases q1 : setOk s <;> simp
  refine AWp.ret ?_
  simp
end Go.AM
namespace Go.AM
open Go.Proofs

theorem entR_set (l : List Entry) (pad : List AV) (i : Nat) (h : i < l.length) (x : Entry) : (boxR entC l pad).take (i * 3) ++ .s x.key :: .sl .fro 2 (dotsAV x.live) :: .sl .fro 2 (dotsAV x.dead) :: (boxR entC l pad).drop (i * 3 + 3) = boxR entC (l.set i x) pad := boxR_set entC_ok l pad i h x
set_option maxRecDepth 8000 in
theorem c_IndexFuncC_Entry (l : List Entry) (pad : List AV) (cap : Nat) (g : Nat) (p : Entry → Bool) (hpad : Calm pad) (hg : ∀ n ∈ l, Pure Try.prog g [.agg (entC n)] (.b (p n))) (hl : l.length ≤ 1000000) : Proc Try.prog 1 105 [.bs 0 0 l.length cap, .fn g [] []] [(0, boxR entC l pad)] (.i .i64 (idxI p l)) [(0, boxR entC l pad)] := by
  have hC : Calm (boxR entC l pad) := boxR_calm entC_ok hpad
  have hL : (boxR entC l pad).length = l.length * 3 + pad.length := boxR_len entC_ok l pad
  refine proc_of (cxb Try.prog 19 1 [0, 1, 4, 5, 7, 8, 9, 16] [] [4]) 17 [.tmp 4] Try.func105 rfl rfl rfl rfl rfl rfl (Nat.le_refl _) rfl ?_
  refine AWp.go [0, 1] [0] fun K hK => ?_
  simp [hC]
  first | refine hK _ _ ?_ | refine ⟨by omega, hK _ _ ?_⟩ | refine ⟨by omega, by omega, hK _ _ ?_⟩
  clear hK K
  refine AWp.seq ?_
  refine AWp.go [0, 1, 7, 8] [0] fun K hK => ?_
  simp [hC]
  first | refine hK _ _ ?_ | refine ⟨by omega, hK _ _ ?_⟩ | refine ⟨by omega, by omega, hK _ _ ?_⟩
  clear hK K
  refine AWp.block (AWp.while (fun i : Nat => [(0, .bs 0 0 l.length cap), (1, .fn g [] []), (7, .i .i64 l.length), (8, .i .i64 i)]) (fun i => [(0, boxR entC l pad)]) (fun i => i ≤ l.length ∧ ∀ k (hk : k < i) (hk2 : k < l.length), p l[k] = false) (fun i => l.length - i) [0, 1, 7, 8] [0] 0 (by simp) (by simp [hC]) ?_)
  rintro i ⟨hi, hall⟩
  refine AWp.go [0, 1, 7, 8, 9] [0] fun K hK => ?_
  simp [hC]
  first | refine hK _ _ ?_ | refine ⟨by omega, hK _ _ ?_⟩ | refine ⟨by omega, by omega, hK _ _ ?_⟩
  clear hK K
  refine AWp.seq ?_
  by_cases h : i < l.length
  · refine AWp.cond (t := true) (by first | (simp [h]; done) | (simp [h]; omega)) (fun _ => ?_) (by simp)
    refine AWp.skip ?_
    show AWp _ _ _ _
    refine AWp.seq ?_
    refine AWp.block ?_
    refine AWp.go [0, 1, 5, 7, 8] [0] fun K hK => ?_
    simp [hC]
    first | refine hK _ _ ?_ | refine ⟨by omega, hK _ _ ?_⟩ | refine ⟨by omega, by omega, hK _ _ ?_⟩
    clear hK K
    refine AWp.go [0, 1, 5, 7, 8, 16] [0] fun K hK => ?_
    simp [h, entR_get l pad i h, hL]
    refine ⟨by omega, ?_⟩
    refine call_pure (hg l[i] (List.getElem_mem h)) (by simp [entC]) ?_
    simp [hC]
    refine hK _ _ ?_
    clear hK K
    cases hp : p l[i]
    · refine AWp.cond (t := false) (by simp) (by simp) (fun _ => ?_)
      refine AWp.skip ?_
      show AWp _ _ _ _
      refine AWp.goLast [0, 1, 7, 8] [0] fun K hK => ?_
      simp [hC]
      first | refine hK _ _ ?_ | refine ⟨by omega, hK _ _ ?_⟩ | refine ⟨by omega, by omega, hK _ _ ?_⟩
      clear hK K
      refine ⟨i + 1, ⟨by omega, fun k hk hk2 => ?_⟩, by omega, ?_⟩
      · by_cases hki : k = i
        · subst hki; exact hp
        · exact hall k (by omega) hk2
      · simp [hC]
        exact wrap64 (by omega) (by omega)
    · refine AWp.cond (t := true) (by simp) (fun _ => ?_) (by simp)
      refine AWp.go [4] [0] fun K hK => ?_
      simp [hC]
      first | refine hK _ _ ?_ | refine ⟨by omega, hK _ _ ?_⟩ | refine ⟨by omega, by omega, hK _ _ ?_⟩
      clear hK K
      refine AWp.ret ?_
      rw [idxI_at p l i h (fun k hk => hall k hk (by omega)) hp]
      simp [hC]
      simpa using (hC).still
  · refine AWp.cond (t := false) (by first | (simp [h]; done) | (simp [h]; omega)) (by simp) (fun _ => ?_)
    refine AWp.exit ?_
    show AWp _ _ _ _
    refine AWp.go [4] [0] fun K hK => ?_
    simp [hC]
    first | refine hK _ _ ?_ | refine ⟨by omega, hK _ _ ?_⟩ | refine ⟨by omega, by omega, hK _ _ ?_⟩
    clear hK K
    refine AWp.ret ?_
    rw [idxI_none p l fun k hk => hall k (by omega) hk]
    simp [hC]
    simpa using (hC).still
set_option maxRecDepth 8000 in
set_option maxHeartbeats 2000000 in
theorem c_DeleteFuncC_Entry (l : List Entry) (pad : List AV) (cap : Nat) (g : Nat) (p : Entry → Bool) (hc : l.length ≤ cap) (hpad : Calm pad) (hp : pad.length = (cap - l.length) * 3) (hg : ∀ n ∈ l, Pure Try.prog g [.agg (entC n)] (.b (p n))) (hl : l.length ≤ 1000000) : Proc Try.prog 1 73 [.bs 0 0 l.length cap, .fn g [] []] [(0, boxR entC l pad)] (.bs 0 0 (l.filter fun x => !p x).length cap) [(0, boxR entC (l.filter fun x => !p x) (zerosL [.s ByteArray.empty, .sl .fro 2 [], .sl .fro 2 []] (l.length - (l.filter fun x => !p x).length) ++ pad))] := by
  have hC : ∀ l', Calm (boxR entC l' pad) := fun l' => boxR_calm entC_ok hpad
  have hL : ∀ l', (boxR entC l' pad).length = l'.length * 3 + pad.length := fun l' => boxR_len entC_ok l' pad
  have hC2 : ∀ l' n, Calm (boxR entC l' (zerosL [.s ByteArray.empty, .sl .fro 2 [], .sl .fro 2 []] n ++ pad)) := fun l' n => boxR_calm entC_ok ((Calm.zeros (fun c hc => by simp at hc; rcases hc with rfl | rfl <;> rfl) n).append hpad)
  have hfl : (l.filter fun x => !p x).length ≤ l.length := List.length_filter_le _ _
  refine proc_of (cxb Try.prog 42 1 [0, 1, 4, 5, 6, 7, 12, 19, 29] [] [4]) 40 [.tmp 4] Try.func73 rfl rfl rfl rfl rfl rfl (Nat.le_refl _) rfl ?_
  refine AWp.go [0, 1] [0] fun K hK => ?_
  simp [hC]
  first | refine hK _ _ ?_ | refine ⟨by omega, hK _ _ ?_⟩ | refine ⟨by omega, by omega, hK _ _ ?_⟩
  clear hK K
  refine AWp.go [0, 1, 5] [0] fun K hK => ?_
  simp
  refine call_proc [(0, 0)] none (c_IndexFuncC_Entry l pad cap g p hpad hg hl) (by simp) (by simp) ?_
  simp [hC]
  refine ⟨by simpa using (hC l).still, hK _ _ ?_⟩
  clear hK K
  refine AWp.seq ?_
  refine AWp.go [0, 1, 5, 12] [0] fun K hK => ?_
  simp [hC]
  first | refine hK _ _ ?_ | refine ⟨by omega, hK _ _ ?_⟩ | refine ⟨by omega, by omega, hK _ _ ?_⟩
  clear hK K
  by_cases h0 : idxI p l = -1
  · refine AWp.cond (t := true) (by first | (simp [h0]; done) | (simp [h0]; omega)) (fun _ => ?_) (by simp)
    refine AWp.go [4] [0] fun K hK => ?_
    simp [hC]
    first | refine hK _ _ ?_ | refine ⟨by omega, hK _ _ ?_⟩ | refine ⟨by omega, by omega, hK _ _ ?_⟩
    clear hK K
    refine AWp.ret ?_
    have hf := (idxI_cases p l).resolve_right (fun ⟨i, _, h, _⟩ => by omega)
    rw [hf.2]
    simp [zerosL, hC]
    simpa using (hC l).still
  · refine AWp.cond (t := false) (by first | (simp [h0]; done) | (simp [h0]; omega)) (by simp) (fun _ => ?_)
    obtain ⟨i0, hi0, hidx, htk, hpt⟩ := (idxI_cases p l).resolve_left (fun h => h0 h.1)
    rw [hidx]
    have hft : (l.take (i0 + 1)).filter (fun x => !p x) = l.take i0 := by
      rw [List.take_succ_eq_append_getElem hi0, List.filter_append, htk]
      simp [hpt]
    refine AWp.skip ?_
    show AWp _ _ _ _
    refine AWp.seq ?_
    refine AWp.go [0, 1, 5, 6] [0] fun K hK => ?_
    simp [hC]
    first | refine hK _ _ ?_ | refine ⟨by omega, hK _ _ ?_⟩ | refine ⟨by omega, by omega, hK _ _ ?_⟩
    clear hK K
    refine AWp.block (AWp.while (fun q : Nat × List Entry => [(0, .bs 0 0 l.length cap), (1, .fn g [] []), (5, .i .i64 ((l.take (i0 + 1 + q.1)).filter fun x => !p x).length), (6, .i .i64 (i0 + 1 + q.1))]) (fun q => [(0, boxR entC q.2 pad)]) (fun q => q.2.length = l.length ∧ i0 + 1 + q.1 ≤ l.length ∧ ((l.take (i0 + 1 + q.1)).filter fun x => !p x).length ≤ i0 + q.1 ∧ q.2.take ((l.take (i0 + 1 + q.1)).filter fun x => !p x).length = (l.take (i0 + 1 + q.1)).filter (fun x => !p x) ∧ ∀ k, i0 + 1 + q.1 ≤ k → q.2[k]? = l[k]?) (fun q => l.length - q.1) [0, 1, 5, 6] [0] (0, l) (by exact ⟨rfl, by dsimp only; omega, by dsimp only; rw [Nat.add_zero, hft]; simp; omega, by dsimp only; rw [Nat.add_zero, hft]; simp, fun _ _ => rfl⟩) (by have w0 : IntKind.i64.wrap ((i0 : Int) + 1) = i0 + 1 := wrap64 (by omega) (by omega); simp [hft, w0, hC]; omega) ?_)
    rintro ⟨j, c⟩ ⟨hcl, hj2, hk3, hj3, hj4⟩
    dsimp only at hcl hj2 hk3 hj3 hj4
    try dsimp only
    refine AWp.seq ?_
    refine AWp.go [0, 1, 5, 6, 19] [0] fun K hK => ?_
    simp [hC]
    first | refine hK _ _ ?_ | refine ⟨by omega, hK _ _ ?_⟩ | refine ⟨by omega, by omega, hK _ _ ?_⟩
    clear hK K
    by_cases h : i0 + 1 + j < l.length
    · refine AWp.cond (t := true) (by first | (simp; done) | (simp; omega)) (fun _ => ?_) (by simp)
      have v1 : IntKind.i64.wrap ((i0 : Int) + 1 + j + 1) = i0 + 1 + j + 1 := wrap64 (by omega) (by omega)
      have v3 : IntKind.i64.wrap ((((l.take (i0 + 1 + j)).filter fun x => !p x).length : Int) + 1) = ((l.take (i0 + 1 + j)).filter fun x => !p x).length + 1 := wrap64 (by omega) (by omega)
      have q1 : c[i0 + 1 + j]'(by omega) = l[i0 + 1 + j] := by have := hj4 (i0 + 1 + j) (by omega); rw [List.getElem?_eq_getElem (by omega), List.getElem?_eq_getElem (by omega)] at this; exact Option.some.inj this
      have g1 := entR_get c pad (i0 + 1 + j) (by omega)
      rw [q1] at g1
      have e0 : ((i0 : Int) + 1 + j).toNat = i0 + 1 + j := by omega
      refine AWp.skip ?_
      show AWp _ _ _ _
      refine AWp.seq ?_
      refine AWp.block ?_
      refine AWp.go [0, 1, 5, 6, 7] [0, 8] fun K hK => ?_
      simp [e0, g1, hC, hL]
      refine ⟨by omega, by omega, hK _ _ ?_⟩
      clear hK K
      refine AWp.go [0, 1, 5, 6, 7, 29] [0, 8] fun K hK => ?_
      simp
      refine call_pure (hg l[i0 + 1 + j] (List.getElem_mem h)) (by simp [entC]) ?_
      simp [hC]
      refine hK _ _ ?_
      clear hK K
      cases hp2 : p l[i0 + 1 + j]
      · refine AWp.cond (t := true) (by simp) (fun _ => ?_) (by simp)
        refine AWp.step [0, 1, 5, 6] [0] [(0, .bs 0 0 l.length cap), (1, .fn g [] []), (5, .i .i64 ((l.take (i0 + 1 + j)).filter fun x => !p x).length), (6, .i .i64 (i0 + 1 + j))] [(0, boxR entC (c.set ((l.take (i0 + 1 + j)).filter fun x => !p x).length l[i0 + 1 + j]) pad)] ?_ ?_
        · have hs := entR_set c pad ((l.take (i0 + 1 + j)).filter fun x => !p x).length (by omega) l[i0 + 1 + j]
          simp [hC, hL, hs]
          omega
        refine AWp.goLast [0, 1, 5, 6] [0] fun K hK => ?_
        simp [hC]
        first | refine hK _ _ ?_ | refine ⟨by omega, hK _ _ ?_⟩ | refine ⟨by omega, by omega, hK _ _ ?_⟩
        clear hK K
        show AWp _ _ _ _
        refine AWp.goLast [0, 1, 5, 6] [0] fun K hK => ?_
        simp [hC]
        first | refine hK _ _ ?_ | refine ⟨by omega, hK _ _ ?_⟩ | refine ⟨by omega, by omega, hK _ _ ?_⟩
        clear hK K
        have hcn : (l.take (i0 + 1 + (j + 1))).filter (fun x => !p x) = (l.take (i0 + 1 + j)).filter (fun x => !p x) ++ [l[i0 + 1 + j]] := by
          rw [show i0 + 1 + (j + 1) = i0 + 1 + j + 1 by omega, List.take_succ_eq_append_getElem h, List.filter_append]
          simp [hp2]
        refine ⟨(j + 1, c.set ((l.take (i0 + 1 + j)).filter fun x => !p x).length l[i0 + 1 + j]), ⟨by simpa using hcl, by dsimp only; omega, ?_, ?_, ?_⟩, by dsimp only; omega, ?_⟩
        · dsimp only; rw [hcn]; simp; omega
        · dsimp only; rw [hcn, List.length_append, List.length_singleton, List.take_succ_eq_append_getElem (by simp; omega), List.getElem_set_self, List.take_set_of_le (Nat.le_refl _), hj3]
        · intro k hk
          dsimp only at hk
          rw [List.getElem?_set_ne (by omega)]
          exact hj4 k (by omega)
        · simp [hC, v1, v3, hcn]
          omega
      · refine AWp.cond (t := false) (by simp) (by simp) (fun _ => ?_)
        refine AWp.skip ?_
        show AWp _ _ _ _
        refine AWp.goLast [0, 1, 5, 6] [0] fun K hK => ?_
        simp [hC]
        first | refine hK _ _ ?_ | refine ⟨by omega, hK _ _ ?_⟩ | refine ⟨by omega, by omega, hK _ _ ?_⟩
        clear hK K
        have hcn : (l.take (i0 + 1 + (j + 1))).filter (fun x => !p x) = (l.take (i0 + 1 + j)).filter (fun x => !p x) := by
          rw [show i0 + 1 + (j + 1) = i0 + 1 + j + 1 by omega, List.take_succ_eq_append_getElem h, List.filter_append]
          simp [hp2]
        refine ⟨(j + 1, c), ⟨hcl, by dsimp only; omega, ?_, ?_, ?_⟩, by dsimp only; omega, ?_⟩
        · dsimp only; rw [hcn]; omega
        · dsimp only; rw [hcn]; exact hj3
        · intro k hk
          exact hj4 k (by dsimp only at hk; omega)
        · simp [hC, v1, hcn]
          omega
    · refine AWp.cond (t := false) (by first | (simp; done) | (simp; omega)) (by simp) (fun _ => ?_)
      refine AWp.exit ?_
      show AWp _ _ _ _
      have hjn : i0 + 1 + j = l.length := by omega
      rw [hjn, List.take_length] at hk3 hj3 ⊢
      have hcl2 := boxR_clear entC_ok c pad (zerosL [.s ByteArray.empty, .sl .fro 2 [], .sl .fro 2 []] (l.length - (l.filter fun x => !p x).length)) (l.filter fun x => !p x).length (by omega) (by rw [zerosL_length, hcl]; rfl)
      rw [hj3] at hcl2
      refine AWp.step [0, 5] [0] [(0, .bs 0 0 l.length cap), (5, .i .i64 (l.filter fun x => !p x).length)] [(0, boxR entC (l.filter fun x => !p x) (zerosL [.s ByteArray.empty, .sl .fro 2 [], .sl .fro 2 []] (l.length - (l.filter fun x => !p x).length) ++ pad))] ?_ ?_
      · simp [hL, show ¬ cap = (l.filter fun x => !p x).length by omega, zerosL_length] at hcl2 ⊢
        simp [hcl2, hC2]
        refine ⟨by omega, by omega, (((hC c).drop _).take _).freeL⟩
      refine AWp.go [4] [0] fun K hK => ?_
      simp
      refine ⟨by omega, hK _ _ ?_⟩
      clear hK K
      refine AWp.ret ?_
      simp [hC2]
      simpa using (hC2 _ _).still

theorem entR_dead (l : List Entry) (pad : List AV) (i : Nat) (h : i < l.length) (d : List Dot) : (boxR entC l pad).set (i * 3 + 2) (.sl .fro 2 (dotsAV d)) = boxR entC (l.set i ⟨l[i].key, l[i].live, d⟩) pad := by
  have e := entR_set l pad i h ⟨l[i].key, l[i].live, d⟩
  have g := entR_get l pad i h
  have hL := boxR_len entC_ok l pad
  generalize boxR entC l pad = L at *
  rw [← e]
  have hl : i * 3 + 2 < L.length := by omega
  have h0 : L.drop (i * 3) = .s l[i].key :: .sl .fro 2 (dotsAV l[i].live) :: .sl .fro 2 (dotsAV l[i].dead) :: L.drop (i * 3 + 3) := by
    rw [← List.take_append_drop 3 (L.drop (i * 3)), g, List.drop_drop]
    rfl
  have h1 : L = L.take (i * 3) ++ (.s l[i].key :: .sl .fro 2 (dotsAV l[i].live) :: .sl .fro 2 (dotsAV l[i].dead) :: L.drop (i * 3 + 3)) := by rw [← h0, List.take_append_drop]
  have h2 : (L.take (i * 3)).length = i * 3 := by rw [List.length_take]; omega
  conv => lhs; rw [h1]
  rw [List.set_append_right _ _ (by omega), h2, Nat.add_sub_cancel_left]
  rfl
theorem fitsL_putNil {Q : Place → Option Place} {id sz : Nat} {M : List AV} (hM : Calm M) : ∀ (k : Nat) (L : List AV), Calm L → AV.fitsL (AV.trC (takeLeaf Q) id k (L ++ .sl .nl sz [] :: M)) (L ++ .sl .fro sz [] :: M)
  | k, [], _ => by
    show AV.fitsL (_ :: AV.trC _ _ _ M) (_ :: M)
    rw [trC_take hM]
    exact ⟨.inr ⟨rfl, .inr (.inl rfl)⟩, AV.fitsL_refl _⟩
  | k, x :: L, h => by
    show AV.fitsL (AV.tr _ _ x :: AV.trC _ _ _ (L ++ _)) (x :: (L ++ _))
    rw [tr_calm (take_calm Q) (h x (by simp))]
    exact ⟨AV.fits_refl _, fitsL_putNil hM (k + 1) L fun c hc => h c (by simp [hc])⟩
theorem set_cut {L : List AV} {j : Nat} (h : j < L.length) (y : AV) : L.take j ++ y :: L.drop (j + 1) = L.set j y := by
  rw [List.set_eq_take_append_cons_drop, if_pos h]

theorem c_rwset_Plain1 (e : Entry) : Pure Try.prog 74 [.agg (entC e)] (.b (decide (e.live.length = 0))) := by
  refine proc_of (cx Try.prog 7 [1, 2] [2]) 6 [.tmp 2] Try.func74 rfl rfl rfl rfl rfl rfl (Nat.le_refl _) rfl ?_
  refine AWp.go [1] [1] fun K hK => ?_
  simp [entC]
  first | refine hK _ _ ?_ | refine ⟨by omega, hK _ _ ?_⟩ | refine ⟨by omega, by omega, hK _ _ ?_⟩
  clear hK K
  refine AWp.go [2] [] fun K hK => ?_
  simp
  first | refine hK _ _ ?_ | refine ⟨by omega, hK _ _ ?_⟩ | refine ⟨by omega, by omega, hK _ _ ?_⟩
  clear hK K
  refine AWp.ret ?_
  simp

theorem c_rwset_Clean1 (e : Entry) (hl : e.live.length ≤ 1000000) (hd : e.dead.length ≤ 1000000) : Pure Try.prog 75 [.agg (entC e)] (.b (decide (e.live = []) && decide (e.dead = []))) := by
  refine proc_of (cx Try.prog 11 [1, 2] [2]) 10 [.tmp 2] Try.func75 rfl rfl rfl rfl rfl rfl (Nat.le_refl _) rfl ?_
  refine AWp.go [1] [1] fun K hK => ?_
  simp [entC]
  first | refine hK _ _ ?_ | refine ⟨by omega, hK _ _ ?_⟩ | refine ⟨by omega, by omega, hK _ _ ?_⟩
  clear hK K
  have w1 : IntKind.i64.wrap ((e.live.length : Int) + e.dead.length) = (e.live.length : Int) + e.dead.length := wrap64 (by omega) (by omega)
  refine AWp.go [2] [] fun K hK => ?_
  simp [w1]
  first | refine hK _ _ ?_ | refine ⟨by omega, hK _ _ ?_⟩ | refine ⟨by omega, by omega, hK _ _ ?_⟩
  clear hK K
  refine AWp.ret ?_
  simp
  rw [Bool.eq_iff_iff]
  simp
  rw [← List.length_eq_zero_iff, ← List.length_eq_zero_iff]
  omega

def bare (e : Entry) : Entry := ⟨e.key, e.live, []⟩
def mapTo (f : Entry → Entry) (s : List Entry) (i : Nat) : List Entry := (s.take i).map f ++ s.drop i
theorem mapTo_len (f : Entry → Entry) (s : List Entry) (i : Nat) : (mapTo f s i).length = s.length := by
  simp [mapTo]; omega
theorem mapTo_get (f : Entry → Entry) (s : List Entry) (i : Nat) (h : i < s.length) : (mapTo f s i)[i]'(by rw [mapTo_len]; exact h) = s[i] := by
  have hl : ((s.take i).map f).length = i := by simp; omega
  have : (mapTo f s i)[i]? = some s[i] := by
    unfold mapTo
    rw [List.getElem?_append_right (by omega), hl, Nat.sub_self, List.getElem?_drop, Nat.add_zero, List.getElem?_eq_getElem h]
  exact Option.some.inj ((List.getElem?_eq_getElem _).symm.trans this)
theorem mapTo_succ (f : Entry → Entry) (s : List Entry) (i : Nat) (h : i < s.length) : (mapTo f s i).set i (f s[i]) = mapTo f s (i + 1) := by
  have hl : ((s.take i).map f).length = i := by simp; omega
  unfold mapTo
  rw [List.set_append_right _ _ (by omega), hl, Nat.sub_self, List.drop_eq_getElem_cons h, List.take_succ_eq_append_getElem h]
  rw [List.set_cons_zero, List.map_append, List.append_assoc]
  rfl
theorem mapTo_all (f : Entry → Entry) (s : List Entry) : mapTo f s s.length = s.map f := by simp [mapTo]
abbrev padE (s : List Entry) (cap : Nat) : List AV := List.replicate ((cap - s.length) * 3) AV.any
abbrev zeroE : List AV := [.s ByteArray.empty, .sl .fro 2 [], .sl .fro 2 []]
theorem zeroE_calm : Calm zeroE := fun c hc => by simp at hc; rcases hc with rfl | rfl <;> rfl
def plainE (s : List Entry) : List Entry := if setOk s then (s.map bare).filter fun e => !decide (e.live.length = 0) else []

set_option maxRecDepth 8000 in
set_option maxHeartbeats 4000000 in
theorem c_rwset_PlainA (s : List Entry) (hs : Fine s) (hne : s ≠ []) : Pure Try.prog 40 [.sl .fro 3 (entsAV s)] (.sl .own 3 (entsAV (plainE s))) := by
  refine proc_of (cx Try.prog 22 [0, 2, 3, 4, 7, 11, 12, 13] [2]) 21 [.tmp 2] Try.func40 rfl rfl rfl rfl rfl rfl (Nat.le_refl _) rfl ?_
  refine AWp.go [0] [] fun K hK => ?_
  simp
  first | refine hK _ _ ?_ | refine ⟨by omega, hK _ _ ?_⟩ | refine ⟨by omega, by omega, hK _ _ ?_⟩
  clear hK K
  refine AWp.seq ?_
  refine AWp.go [0, 7] [] fun K hK => ?_
  simp
  refine call_pure (c_rwset_Check s hs) (by simp) ?_
  simp
  first | refine hK _ _ ?_ | refine ⟨by omega, hK _ _ ?_⟩ | refine ⟨by omega, by omega, hK _ _ ?_⟩
  clear hK K
  cases hq : setOk s
  · refine AWp.cond (t := true) (by simp) (fun _ => ?_) (by simp)
    refine AWp.go [2] [] fun K hK => ?_
    simp
    first | refine hK _ _ ?_ | refine ⟨by omega, hK _ _ ?_⟩ | refine ⟨by omega, by omega, hK _ _ ?_⟩
    clear hK K
    refine AWp.ret ?_
    simp [plainE, hq, entsAV]
  · refine AWp.cond (t := false) (by simp) (by simp) (fun _ => ?_)
    refine AWp.skip ?_
    show AWp _ _ _ _
    refine AWp.go [3] [] fun K hK => ?_
    simp
    refine call_pure (c_rwset_copied s hs) (by simp) ?_
    simp
    first | refine hK _ _ ?_ | refine ⟨by omega, hK _ _ ?_⟩ | refine ⟨by omega, by omega, hK _ _ ?_⟩
    clear hK K
    refine AWp.unown 3 100 rfl (by simp) (by simpa [entsAV] using hne) rfl (by simp) fun cap hcap => ?_
    simp at hcap
    have hlen := hs.1
    have hcc : ∀ i, Calm (boxR entC (mapTo bare s i) (padE s cap)) := fun i => boxR_calm entC_ok (Calm.replicate _ rfl)
    have hbl : ∀ i, (boxR entC (mapTo bare s i) (padE s cap)).length = s.length * 3 + (cap - s.length) * 3 := fun i => by rw [boxR_len entC_ok, mapTo_len, List.length_replicate]
    have e0 : (entsAV s).flatten ++ List.replicate ((cap - s.length) * 3) AV.any = boxR entC (mapTo bare s 0) (padE s cap) := by simp [mapTo]; rfl
    simp [e0]
    refine AWp.seq ?_
    refine AWp.go [3, 11, 12] [100] fun K hK => ?_
    simp [hcc]
    first | refine hK _ _ ?_ | refine ⟨by omega, hK _ _ ?_⟩ | refine ⟨by omega, by omega, hK _ _ ?_⟩
    clear hK K
    refine AWp.block (AWp.while (fun i : Nat => [(3, .bs 100 0 s.length cap), (11, .i .i64 s.length), (12, .i .i64 i)]) (fun i => [(100, boxR entC (mapTo bare s i) (padE s cap))]) (fun i => i ≤ s.length) (fun i => s.length - i) [3, 11, 12] [100] 0 (by simp) (by simp [hcc]) ?_)
    intro i hi
    refine AWp.go [3, 11, 12, 13] [100] fun K hK => ?_
    simp [hcc]
    first | refine hK _ _ ?_ | refine ⟨by omega, hK _ _ ?_⟩ | refine ⟨by omega, by omega, hK _ _ ?_⟩
    clear hK K
    refine AWp.seq ?_
    by_cases h2 : i < s.length
    · refine AWp.cond (t := true) (by first | (simp [h2]; done) | (simp [h2]; omega)) (fun _ => ?_) (by simp)
      refine AWp.skip ?_
      show AWp _ _ _ _
      refine AWp.seq ?_
      refine AWp.block ?_
      refine AWp.go [3, 4, 11, 12] [100] fun K hK => ?_
      simp [hcc]
      first | refine hK _ _ ?_ | refine ⟨by omega, hK _ _ ?_⟩ | refine ⟨by omega, by omega, hK _ _ ?_⟩
      clear hK K
      have hst := entR_dead (mapTo bare s i) (padE s cap) i (by rw [mapTo_len]; exact h2) []
      rw [mapTo_get bare s i h2] at hst
      rw [show (⟨s[i].key, s[i].live, []⟩ : Entry) = bare s[i] from rfl, mapTo_succ bare s i h2] at hst
      have hct := set_cut (L := boxR entC (mapTo bare s i) (padE s cap)) (j := i * 3 + 2) (by rw [hbl]; omega) (.sl .fro 2 (dotsAV []))
      rw [hst] at hct
      refine AWp.last [3, 11, 12] [100] [(3, .bs 100 0 s.length cap), (11, .i .i64 s.length), (12, .i .i64 i)] [(100, boxR entC (mapTo bare s (i + 1)) (padE s cap))] ?_ ?_
      · have hdd : dotsAV [] = [] := rfl
        rw [hdd] at hst hct
        simp [hcc, hbl, h2]
        refine ⟨by omega, ?_⟩
        rw [← hct]
        exact fitsL_putNil ((hcc i).drop _) 0 _ ((hcc i).take _)
      show AWp _ _ _ _
      refine AWp.goLast [3, 11, 12] [100] fun K hK => ?_
      simp
      first | refine hK _ _ ?_ | refine ⟨by omega, hK _ _ ?_⟩ | refine ⟨by omega, by omega, hK _ _ ?_⟩
      clear hK K
      refine ⟨i + 1, by omega, by omega, ?_⟩
      simp [hcc]
      exact wrap64 (by omega) (by omega)
    · refine AWp.cond (t := false) (by first | (simp [h2]; done) | (simp [h2]; omega)) (by simp) (fun _ => ?_)
      refine AWp.exit ?_
      show AWp _ _ _ _
      obtain rfl : i = s.length := by omega
      have hcb := hcc s.length
      rw [mapTo_all] at *
      have hdf := c_DeleteFuncC_Entry (s.map bare) (padE s cap) cap 74 (fun e => decide (e.live.length = 0)) (by simpa using hcap) (Calm.replicate _ rfl) (by simp) (fun n _ => c_rwset_Plain1 n) (by simpa using hlen)
      have hst := boxR_calm (l := (s.map bare).filter fun e => !decide (e.live.length = 0)) entC_ok ((Calm.zeros (zero := zeroE) zeroE_calm ((s.map bare).length - ((s.map bare).filter fun e => !decide (e.live.length = 0)).length)).append (Calm.replicate ((cap - s.length) * 3) (x := AV.any) rfl))
      have hpl : plainE s = (s.map bare).filter fun e => !decide (e.live.length = 0) := by rw [plainE, if_pos hq]
      have hfl : ((s.map bare).filter fun e => !decide (e.live.length = 0)).length ≤ s.length := by have := List.length_filter_le (fun e : Entry => !decide (e.live.length = 0)) (s.map bare); simpa using this
      rw [← hpl] at hdf hst hfl
      have hrl := rows_len entC_ok (plainE s)
      rw [List.length_map] at hdf hst
      refine AWp.goS [2] [] fun K hK => ?_
      refine SOps.cut 2 rfl fun K2 hK2 => ?_
      simp
      refine call_proc [(0, 100)] none hdf (by simp) (by simp) ?_
      simp [hcb, hst]
      refine ⟨by simpa using hcb.still, by simpa using hst.still, hK2 _ _ ?_⟩
      refine SOps.reown 21 100 cap (sz := 3) (entsAV (plainE s)) (zerosL zeroE (s.length - (plainE s).length) ++ padE s cap) (by simp) (by simp) rfl ?_ (fun z hz => ?_) (ents_dat _) hst.freeL ?_
      · have h5 : ((entsAV (plainE s)).flatten).length = (plainE s).length * 3 := hrl
        simp only [List.length_append, zerosL_length, List.length_replicate, h5]
        simp; omega
      · obtain ⟨x, _, rfl⟩ := List.mem_map.1 hz; rfl
      simp
      refine SOps.cut 1 rfl fun K3 hK3 => ?_
      simp
      refine hK3 _ _ (SOps.nil ?_)
      simp
      refine hK _ _ ?_
      clear hK3 hK2 hK K
      refine AWp.ret ?_
      simp
end Go.AM
namespace Go.AM
open Go.Proofs

theorem c_IndexFunc_Entry_0 (g : Nat) : Pure Try.prog 105 [.sl .fro 3 [], .fn g [] []] (.i .i64 (-1)) := by
  refine proc_of (cx Try.prog 19 [0, 1, 4, 5, 7, 8, 9, 16] [4]) 17 [.tmp 4] Try.func105 rfl rfl rfl rfl rfl rfl (Nat.le_refl _) rfl ?_
  refine AWp.go [0, 1] [] fun K hK => ?_
  simp
  first | refine hK _ _ ?_ | refine ⟨by omega, hK _ _ ?_⟩ | refine ⟨by omega, by omega, hK _ _ ?_⟩
  clear hK K
  refine AWp.seq ?_
  refine AWp.go [0, 1, 7, 8] [] fun K hK => ?_
  simp
  first | refine hK _ _ ?_ | refine ⟨by omega, hK _ _ ?_⟩ | refine ⟨by omega, by omega, hK _ _ ?_⟩
  clear hK K
  refine AWp.block (AWp.while (fun i : Nat => [(0, .sl .fro 3 []), (1, .fn g [] []), (7, .i .i64 0), (8, .i .i64 0)]) (fun i => []) (fun i => True) (fun i => 0) [0, 1, 7, 8] [] 0 (by simp) (by simp) ?_)
  intro i hi
  refine AWp.go [0, 1, 7, 8, 9] [] fun K hK => ?_
  simp
  first | refine hK _ _ ?_ | refine ⟨by omega, hK _ _ ?_⟩ | refine ⟨by omega, by omega, hK _ _ ?_⟩
  clear hK K
  refine AWp.seq ?_
  refine AWp.cond (t := false) (by first | (simp; done) | (simp; omega)) (by simp) (fun _ => ?_)
  refine AWp.exit ?_
  show AWp _ _ _ _
  refine AWp.go [4] [] fun K hK => ?_
  simp
  first | refine hK _ _ ?_ | refine ⟨by omega, hK _ _ ?_⟩ | refine ⟨by omega, by omega, hK _ _ ?_⟩
  clear hK K
  refine AWp.ret ?_
  simp

theorem c_DeleteFunc_Entry_0 (g : Nat) : Pure Try.prog 73 [.sl .nl 3 [], .fn g [] []] (.sl .nl 3 []) := by
  refine proc_of (cx Try.prog 42 [0, 1, 4, 5, 6, 7, 12, 19, 29] [4]) 40 [.tmp 4] Try.func73 rfl rfl rfl rfl rfl rfl (Nat.le_refl _) rfl ?_
  refine AWp.go [0, 1] [] fun K hK => ?_
  simp
  first | refine hK _ _ ?_ | refine ⟨by omega, hK _ _ ?_⟩ | refine ⟨by omega, by omega, hK _ _ ?_⟩
  clear hK K
  refine AWp.go [0, 1, 5] [] fun K hK => ?_
  simp
  refine call_pure (c_IndexFunc_Entry_0 g) (by simp) ?_
  simp
  first | refine hK _ _ ?_ | refine ⟨by omega, hK _ _ ?_⟩ | refine ⟨by omega, by omega, hK _ _ ?_⟩
  clear hK K
  refine AWp.seq ?_
  refine AWp.go [0, 1, 5, 12] [] fun K hK => ?_
  simp
  first | refine hK _ _ ?_ | refine ⟨by omega, hK _ _ ?_⟩ | refine ⟨by omega, by omega, hK _ _ ?_⟩
  clear hK K
  refine AWp.cond (t := true) (by first | (simp; done) | (simp; omega)) (fun _ => ?_) (by simp)
  refine AWp.go [4] [] fun K hK => ?_
  simp
  first | refine hK _ _ ?_ | refine ⟨by omega, hK _ _ ?_⟩ | refine ⟨by omega, by omega, hK _ _ ?_⟩
  clear hK K
  refine AWp.ret ?_
  simp

theorem setOk_nil : setOk [] = true := rfl
theorem fine_nil : Fine [] := ⟨by simp, by simp⟩
set_option maxRecDepth 8000 in
set_option maxHeartbeats 4000000 in
theorem c_rwset_Plain0 : Pure Try.prog 40 [.sl .fro 3 []] (.sl .own 3 []) := by
  refine proc_of (cx Try.prog 22 [0, 2, 3, 4, 7, 11, 12, 13] [2]) 21 [.tmp 2] Try.func40 rfl rfl rfl rfl rfl rfl (Nat.le_refl _) rfl ?_
  refine AWp.go [0] [] fun K hK => ?_
  simp
  first | refine hK _ _ ?_ | refine ⟨by omega, hK _ _ ?_⟩ | refine ⟨by omega, by omega, hK _ _ ?_⟩
  clear hK K
  refine AWp.seq ?_
  refine AWp.go [0, 7] [] fun K hK => ?_
  simp
  refine call_pure (c_rwset_Check [] fine_nil) (by simp [entsAV]) ?_
  simp [setOk_nil]
  first | refine hK _ _ ?_ | refine ⟨by omega, hK _ _ ?_⟩ | refine ⟨by omega, by omega, hK _ _ ?_⟩
  clear hK K
  refine AWp.cond (t := false) (by first | (simp; done) | (simp; omega)) (by simp) (fun _ => ?_)
  refine AWp.skip ?_
  show AWp _ _ _ _
  refine AWp.go [3] [] fun K hK => ?_
  simp
  refine call_pure (c_rwset_copied0) (by simp) ?_
  simp
  first | refine hK _ _ ?_ | refine ⟨by omega, hK _ _ ?_⟩ | refine ⟨by omega, by omega, hK _ _ ?_⟩
  clear hK K
  refine AWp.seq ?_
  refine AWp.go [3, 11, 12] [] fun K hK => ?_
  simp
  first | refine hK _ _ ?_ | refine ⟨by omega, hK _ _ ?_⟩ | refine ⟨by omega, by omega, hK _ _ ?_⟩
  clear hK K
  refine AWp.block (AWp.while (fun i : Nat => [(3, .sl .own 3 []), (11, .i .i64 0), (12, .i .i64 0)]) (fun i => []) (fun i => True) (fun i => 0) [3, 11, 12] [] 0 (by simp) (by simp) ?_)
  intro i hi
  refine AWp.go [3, 11, 12, 13] [] fun K hK => ?_
  simp
  first | refine hK _ _ ?_ | refine ⟨by omega, hK _ _ ?_⟩ | refine ⟨by omega, by omega, hK _ _ ?_⟩
  clear hK K
  refine AWp.seq ?_
  refine AWp.cond (t := false) (by first | (simp; done) | (simp; omega)) (by simp) (fun _ => ?_)
  refine AWp.exit ?_
  show AWp _ _ _ _
  refine AWp.goS [2] [] fun K hK => ?_
  refine SOps.unown0 3 100 rfl (by simp) rfl (by simp) (fun h0 => ?_) fun cap hcap => ?_
  · simp
    refine SOps.cut 2 rfl fun K' hK' => ?_
    simp
    refine call_procK [] none (c_DeleteFunc_Entry_0 74) (by simp) (by simp) ?_
    simp
    refine hK' _ _ ?_
    clear hK'
    refine SOps.cut 1 rfl fun K3 hK3 => ?_
    simp
    refine hK3 _ _ (SOps.nil ?_)
    simp
    refine hK _ _ (AWp.ret ?_)
    simp
  have hcc : Calm (boxR entC [] (padE [] cap)) := boxR_calm entC_ok (Calm.replicate _ rfl)
  have hdf := c_DeleteFuncC_Entry [] (padE [] cap) cap 74 (fun e => decide (e.live.length = 0)) (by simp) (Calm.replicate _ rfl) (by simp) (fun n _ => c_rwset_Plain1 n) (by simp)
  have e0 : List.replicate (cap * 3) AV.any = boxR entC [] (padE [] cap) := by simp [boxR]
  simp [zerosL] at hdf
  simp [e0]
  refine SOps.cut 2 rfl fun K2 hK2 => ?_
  simp
  refine call_proc [(0, 100)] none hdf (by simp) (by simp) ?_
  simp [hcc]
  refine ⟨by simpa using hcc.still, hK2 _ _ ?_⟩
  refine SOps.reown 21 100 cap (sz := 3) [] (padE [] cap) (by simp) (by simp) rfl (by simp) (by simp) (by simp) hcc.freeL ?_
  simp
  refine SOps.cut 1 rfl fun K3 hK3 => ?_
  simp
  refine hK3 _ _ (SOps.nil ?_)
  simp
  refine hK _ _ ?_
  clear hK3 hK2 hK K
  refine AWp.ret ?_
  simp
theorem c_rwset_Plain (s : List Entry) (hs : Fine s) : Pure Try.prog 40 [.sl .fro 3 (entsAV s)] (.sl .own 3 (entsAV (plainE s))) := by
  by_cases h : s = []
  · subst h; exact c_rwset_Plain0
  · exact c_rwset_PlainA s hs h

def keysAV (l : List Entry) : List (List AV) := l.map fun e => [.s e.key]
@[simp] theorem keysAV_length (l : List Entry) : (keysAV l).length = l.length := by simp [keysAV]
def lessen (c : List Int) (e : Entry) : Entry := ⟨e.key, e.live, leftD e.dead c⟩
def cleanE (s : List Entry) (c : List Int) : List Entry := if setOk s && clockOk c then (s.map (lessen c)).filter fun e => !(decide (e.live = []) && decide (e.dead = [])) else []
def cleanN (s : List Entry) (c : List Int) : Int := if setOk s && clockOk c then 0 else 1
set_option maxRecDepth 8000 in
set_option maxHeartbeats 4000000 in
theorem c_rwset_CleanA (s : List Entry) (c : List Int) (hs : Fine s) (hc : c.length ≤ 1000000) (hne : s ≠ []) : Pure Try.prog 42 [.sl .fro 3 (entsAV s), .sl .fro 1 (intsAV c)] (.tup [.sl .own 3 (entsAV (cleanE s c)), .i .i64 (cleanN s c)]) := by
  refine proc_of (cx Try.prog 37 [0, 1, 4, 5, 6, 7, 15, 19, 20, 21] [4, 5]) 35 [.tmp 4, .tmp 5] Try.func42 rfl rfl rfl rfl rfl rfl (Nat.le_refl _) rfl ?_
  refine AWp.go [0, 1] [] fun K hK => ?_
  simp
  first | refine hK _ _ ?_ | refine ⟨by omega, hK _ _ ?_⟩ | refine ⟨by omega, by omega, hK _ _ ?_⟩
  clear hK K
  refine AWp.seq ?_
  refine AWp.step [0, 1, 15] [] [(0, .sl .fro 3 (entsAV s)), (1, .sl .fro 1 (intsAV c)), (15, .b (!(setOk s && clockOk c)))] [] ?_ ?_
  · have g1 := c_rwset_Check s hs
    have g2 := c100 c (by omega)
    simp
    refine call_pure g1 (by simp) ?_
    cases q1 : setOk s
    · simp
    simp
    refine call_pure g2 (by simp) ?_
    cases q2 : clockOk c <;> simp
  cases hq : setOk s && clockOk c
  · refine AWp.cond (t := true) (by simp) (fun _ => ?_) (by simp)
    refine AWp.go [4, 5] [] fun K hK => ?_
    simp
    first | refine hK _ _ ?_ | refine ⟨by omega, hK _ _ ?_⟩ | refine ⟨by omega, by omega, hK _ _ ?_⟩
    clear hK K
    refine AWp.ret ?_
    simp [cleanE, cleanN, hq, entsAV]
  · refine AWp.cond (t := false) (by simp) (by simp) (fun _ => ?_)
    refine AWp.skip ?_
    show AWp _ _ _ _
    refine AWp.go [1, 6] [] fun K hK => ?_
    simp
    refine call_pure (c_rwset_copied s hs) (by simp) ?_
    simp
    first | refine hK _ _ ?_ | refine ⟨by omega, hK _ _ ?_⟩ | refine ⟨by omega, by omega, hK _ _ ?_⟩
    clear hK K
    refine AWp.unown 6 100 rfl (by simp) (by simpa [entsAV] using hne) rfl (by simp) fun cap hcap => ?_
    simp at hcap
    have hlen := hs.1
    have hcc : ∀ i, Calm (boxR entC (mapTo (lessen c) s i) (padE s cap)) := fun i => boxR_calm entC_ok (Calm.replicate _ rfl)
    have hbl : ∀ i, (boxR entC (mapTo (lessen c) s i) (padE s cap)).length = s.length * 3 + (cap - s.length) * 3 := fun i => by rw [boxR_len entC_ok, mapTo_len, List.length_replicate]
    have e0 : (entsAV s).flatten ++ List.replicate ((cap - s.length) * 3) AV.any = boxR entC (mapTo (lessen c) s 0) (padE s cap) := by simp [mapTo]; rfl
    simp [e0]
    refine AWp.seq ?_
    refine AWp.go [1, 6, 19, 20] [100] fun K hK => ?_
    simp [hcc]
    first | refine hK _ _ ?_ | refine ⟨by omega, hK _ _ ?_⟩ | refine ⟨by omega, by omega, hK _ _ ?_⟩
    clear hK K
    refine AWp.block (AWp.while (fun i : Nat => [(1, .sl .fro 1 (intsAV c)), (6, .bs 100 0 s.length cap), (19, .i .i64 s.length), (20, .i .i64 i)]) (fun i => [(100, boxR entC (mapTo (lessen c) s i) (padE s cap))]) (fun i => i ≤ s.length) (fun i => s.length - i) [1, 6, 19, 20] [100] 0 (by simp) (by simp [hcc]) ?_)
    intro i hi
    refine AWp.go [1, 6, 19, 20, 21] [100] fun K hK => ?_
    simp [hcc]
    first | refine hK _ _ ?_ | refine ⟨by omega, hK _ _ ?_⟩ | refine ⟨by omega, by omega, hK _ _ ?_⟩
    clear hK K
    refine AWp.seq ?_
    by_cases h2 : i < s.length
    · refine AWp.cond (t := true) (by first | (simp [h2]; done) | (simp [h2]; omega)) (fun _ => ?_) (by simp)
      refine AWp.skip ?_
      show AWp _ _ _ _
      refine AWp.seq ?_
      refine AWp.block ?_
      refine AWp.go [1, 6, 7, 19, 20] [100] fun K hK => ?_
      simp [hcc]
      first | refine hK _ _ ?_ | refine ⟨by omega, hK _ _ ?_⟩ | refine ⟨by omega, by omega, hK _ _ ?_⟩
      clear hK K
      have hst := entR_dead (mapTo (lessen c) s i) (padE s cap) i (by rw [mapTo_len]; exact h2) (leftD s[i].dead c)
      have hgt := entR_get (mapTo (lessen c) s i) (padE s cap) i (by rw [mapTo_len]; exact h2)
      rw [mapTo_get (lessen c) s i h2] at hst hgt
      rw [show (⟨s[i].key, s[i].live, leftD s[i].dead c⟩ : Entry) = lessen c s[i] from rfl, mapTo_succ (lessen c) s i h2] at hst
      have hg2 := (take3_1 hgt).2
      have hct := set_cut (L := boxR entC (mapTo (lessen c) s i) (padE s cap)) (j := i * 3 + 2) (by rw [hbl]; omega) (.sl .fro 2 (dotsAV (leftD s[i].dead c)))
      rw [hst] at hct
      have hl := hs.2 _ (List.getElem_mem h2)
      have g1 := (c_rwset_unknown s[i].dead c hl.2 hc).fro
      refine AWp.last [1, 6, 19, 20] [100] [(1, .sl .fro 1 (intsAV c)), (6, .bs 100 0 s.length cap), (19, .i .i64 s.length), (20, .i .i64 i)] [(100, boxR entC (mapTo (lessen c) s (i + 1)) (padE s cap))] ?_ ?_
      · simp [hbl, h2, hg2]
        refine ⟨by omega, ?_⟩
        refine call_pure g1 (by simp) ?_
        simp [hcc, hbl, h2, hct]
        omega
      show AWp _ _ _ _
      refine AWp.goLast [1, 6, 19, 20] [100] fun K hK => ?_
      simp
      first | refine hK _ _ ?_ | refine ⟨by omega, hK _ _ ?_⟩ | refine ⟨by omega, by omega, hK _ _ ?_⟩
      clear hK K
      refine ⟨i + 1, by omega, by omega, ?_⟩
      simp [hcc]
      exact wrap64 (by omega) (by omega)
    · refine AWp.cond (t := false) (by first | (simp [h2]; done) | (simp [h2]; omega)) (by simp) (fun _ => ?_)
      refine AWp.exit ?_
      show AWp _ _ _ _
      obtain rfl : i = s.length := by omega
      have hcb := hcc s.length
      rw [mapTo_all] at *
      have hdf := c_DeleteFuncC_Entry (s.map (lessen c)) (padE s cap) cap 75 (fun e => decide (e.live = []) && decide (e.dead = [])) (by simpa using hcap) (Calm.replicate _ rfl) (by simp) (fun n hn => by
        obtain ⟨e, he, rfl⟩ := List.mem_map.1 hn
        have := hs.2 e he
        have h3 := leftD_len e.dead c
        exact c_rwset_Clean1 _ this.1 (by show (leftD e.dead c).length ≤ _; omega)) (by simpa using hlen)
      have hst := boxR_calm (l := (s.map (lessen c)).filter fun e => !(decide (e.live = []) && decide (e.dead = []))) entC_ok ((Calm.zeros (zero := zeroE) zeroE_calm ((s.map (lessen c)).length - ((s.map (lessen c)).filter fun e => !(decide (e.live = []) && decide (e.dead = []))).length)).append (Calm.replicate ((cap - s.length) * 3) (x := AV.any) rfl))
      have hpl : cleanE s c = (s.map (lessen c)).filter fun e => !(decide (e.live = []) && decide (e.dead = [])) := by rw [cleanE, if_pos hq]
      have hfl : ((s.map (lessen c)).filter fun e => !(decide (e.live = []) && decide (e.dead = []))).length ≤ s.length := by have := List.length_filter_le (fun e : Entry => !(decide (e.live = []) && decide (e.dead = []))) (s.map (lessen c)); simpa using this
      rw [← hpl] at hdf hst hfl
      have hrl := rows_len entC_ok (cleanE s c)
      rw [List.length_map] at hdf hst
      have hcn : cleanN s c = 0 := by rw [cleanN, if_pos hq]
      refine AWp.goS [4, 5] [] fun K hK => ?_
      refine SOps.cut 2 rfl fun K2 hK2 => ?_
      simp
      refine call_proc [(0, 100)] none hdf (by simp) (by simp) ?_
      simp [hcb, hst]
      refine ⟨by simpa using hcb.still, by simpa using hst.still, hK2 _ _ ?_⟩
      refine SOps.reown 36 100 cap (sz := 3) (entsAV (cleanE s c)) (zerosL zeroE (s.length - (cleanE s c).length) ++ padE s cap) (by simp) (by simp) rfl ?_ (fun z hz => ?_) (ents_dat _) hst.freeL ?_
      · have h5 : ((entsAV (cleanE s c)).flatten).length = (cleanE s c).length * 3 := hrl
        simp only [List.length_append, zerosL_length, List.length_replicate, h5]
        simp; omega
      · obtain ⟨x, _, rfl⟩ := List.mem_map.1 hz; rfl
      simp
      refine SOps.cut 2 rfl fun K3 hK3 => ?_
      simp
      refine hK3 _ _ (SOps.nil ?_)
      simp
      refine hK _ _ ?_
      clear hK3 hK2 hK K
      refine AWp.ret ?_
      simp [hcn]

set_option maxRecDepth 8000 in
set_option maxHeartbeats 4000000 in
theorem c_rwset_Clean0 (c : List Int) (hc : c.length ≤ 1000000) : Pure Try.prog 42 [.sl .fro 3 [], .sl .fro 1 (intsAV c)] (.tup [.sl .own 3 [], .i .i64 (if clockOk c then 0 else 1)]) := by
  refine proc_of (cx Try.prog 37 [0, 1, 4, 5, 6, 7, 15, 19, 20, 21] [4, 5]) 35 [.tmp 4, .tmp 5] Try.func42 rfl rfl rfl rfl rfl rfl (Nat.le_refl _) rfl ?_
  refine AWp.go [0, 1] [] fun K hK => ?_
  simp
  first | refine hK _ _ ?_ | refine ⟨by omega, hK _ _ ?_⟩ | refine ⟨by omega, by omega, hK _ _ ?_⟩
  clear hK K
  refine AWp.seq ?_
  refine AWp.step [0, 1, 15] [] [(0, .sl .fro 3 []), (1, .sl .fro 1 (intsAV c)), (15, .b (!clockOk c))] [] ?_ ?_
  · have g1 := c_rwset_Check [] fine_nil
    have g2 := c100 c (by omega)
    simp
    refine call_pure g1 (by simp [entsAV]) ?_
    simp [setOk_nil]
    refine call_pure g2 (by simp) ?_
    cases q2 : clockOk c <;> simp
  cases hq : clockOk c
  · refine AWp.cond (t := true) (by simp) (fun _ => ?_) (by simp)
    refine AWp.go [4, 5] [] fun K hK => ?_
    simp
    first | refine hK _ _ ?_ | refine ⟨by omega, hK _ _ ?_⟩ | refine ⟨by omega, by omega, hK _ _ ?_⟩
    clear hK K
    refine AWp.ret ?_
    simp
  · refine AWp.cond (t := false) (by simp) (by simp) (fun _ => ?_)
    refine AWp.skip ?_
    show AWp _ _ _ _
    refine AWp.go [1, 6] [] fun K hK => ?_
    simp
    refine call_pure (c_rwset_copied0) (by simp) ?_
    simp
    first | refine hK _ _ ?_ | refine ⟨by omega, hK _ _ ?_⟩ | refine ⟨by omega, by omega, hK _ _ ?_⟩
    clear hK K
    refine AWp.seq ?_
    refine AWp.go [1, 6, 19, 20] [] fun K hK => ?_
    simp
    first | refine hK _ _ ?_ | refine ⟨by omega, hK _ _ ?_⟩ | refine ⟨by omega, by omega, hK _ _ ?_⟩
    clear hK K
    refine AWp.block (AWp.while (fun i : Nat => [(1, .sl .fro 1 (intsAV c)), (6, .sl .own 3 []), (19, .i .i64 0), (20, .i .i64 0)]) (fun i => []) (fun i => True) (fun i => 0) [1, 6, 19, 20] [] 0 (by simp) (by simp) ?_)
    intro i hi
    refine AWp.go [1, 6, 19, 20, 21] [] fun K hK => ?_
    simp
    first | refine hK _ _ ?_ | refine ⟨by omega, hK _ _ ?_⟩ | refine ⟨by omega, by omega, hK _ _ ?_⟩
    clear hK K
    refine AWp.seq ?_
    refine AWp.cond (t := false) (by first | (simp; done) | (simp; omega)) (by simp) (fun _ => ?_)
    refine AWp.exit ?_
    show AWp _ _ _ _
    refine AWp.goS [4, 5] [] fun K hK => ?_
    refine SOps.unown0 6 100 rfl (by simp) rfl (by simp) (fun h0 => ?_) fun cap hcap => ?_
    · simp
      refine SOps.cut 2 rfl fun K' hK' => ?_
      simp
      refine call_procK [] none (c_DeleteFunc_Entry_0 75) (by simp) (by simp) ?_
      simp
      refine hK' _ _ ?_
      clear hK'
      refine SOps.cut 2 rfl fun K3 hK3 => ?_
      simp
      refine hK3 _ _ (SOps.nil ?_)
      simp
      refine hK _ _ (AWp.ret ?_)
      simp
    have hcc : Calm (boxR entC [] (padE [] cap)) := boxR_calm entC_ok (Calm.replicate _ rfl)
    have hdf := c_DeleteFuncC_Entry [] (padE [] cap) cap 75 (fun e => decide (e.live = []) && decide (e.dead = [])) (by simp) (Calm.replicate _ rfl) (by simp) (fun n hn => by simp at hn) (by simp)
    have e0 : List.replicate (cap * 3) AV.any = boxR entC [] (padE [] cap) := by simp [boxR]
    simp [zerosL] at hdf
    simp [e0]
    refine SOps.cut 2 rfl fun K2 hK2 => ?_
    simp
    refine call_proc [(0, 100)] none hdf (by simp) (by simp) ?_
    simp [hcc]
    refine ⟨by simpa using hcc.still, hK2 _ _ ?_⟩
    refine SOps.reown 36 100 cap (sz := 3) [] (padE [] cap) (by simp) (by simp) rfl (by simp) (by simp) (by simp) hcc.freeL ?_
    simp
    refine SOps.cut 2 rfl fun K3 hK3 => ?_
    simp
    refine hK3 _ _ (SOps.nil ?_)
    simp
    refine hK _ _ ?_
    clear hK3 hK2 hK K
    refine AWp.ret ?_
    simp
theorem c_rwset_Clean (s : List Entry) (c : List Int) (hs : Fine s) (hc : c.length ≤ 1000000) : Pure Try.prog 42 [.sl .fro 3 (entsAV s), .sl .fro 1 (intsAV c)] (.tup [.sl .own 3 (entsAV (cleanE s c)), .i .i64 (cleanN s c)]) := by
  by_cases h : s = []
  · subst h
    have := c_rwset_Clean0 c hc
    have e1 : cleanE [] c = [] := by unfold cleanE; split <;> rfl
    have e2 : cleanN [] c = if clockOk c then 0 else 1 := by simp [cleanN, setOk_nil]
    rw [e1, e2]
    exact this
  · exact c_rwset_CleanA s c hs hc h
end Go.AM
namespace Go.AM
open Go.Proofs

def noneE (e : Entry) : Bool := decide ((e.live.length : Int) + e.dead.length = 0)
def putStep (e : Entry) (a : List Entry × Bool) (x : Entry) : List Entry × Bool :=
  let a' := if !a.2 && !ltK x.key e.key then (a.1 ++ [e], true) else a
  if eqK x.key e.key then a' else (a'.1 ++ [x], a'.2)
def putTo (s : List Entry) (e : Entry) (i : Nat) : List Entry × Bool := (s.take i).foldl (putStep e) ([], noneE e)
def putE (s : List Entry) (e : Entry) : List Entry := if (putTo s e s.length).2 then (putTo s e s.length).1 else (putTo s e s.length).1 ++ [e]
theorem putTo_succ (s : List Entry) (e : Entry) (i : Nat) (h : i < s.length) : putTo s e (i + 1) = putStep e (putTo s e i) s[i] := by
  unfold putTo
  rw [List.take_succ_eq_append_getElem h, List.foldl_append]
  rfl
theorem putStep_len (e : Entry) (a : List Entry × Bool) (x : Entry) : (putStep e a x).1.length ≤ a.1.length + 2 := by
  unfold putStep
  dsimp only
  split <;> split <;> simp
theorem putTo_len (s : List Entry) (e : Entry) : ∀ i, i ≤ s.length → (putTo s e i).1.length ≤ 2 * i
  | 0, _ => by simp [putTo]
  | i + 1, h => by
    have := putTo_len s e i (by omega)
    rw [putTo_succ s e i (by omega)]
    have := putStep_len e (putTo s e i) s[i]
    omega
theorem entsAV_snoc (l : List Entry) (e : Entry) : entsAV (l ++ [e]) = entsAV l ++ [[.s e.key, .sl .fro 2 (dotsAV e.live), .sl .fro 2 (dotsAV e.dead)]] := by
  unfold entsAV; rw [List.map_append]; rfl
theorem entsAV_snoc2 (l : List Entry) (e x : Entry) : entsAV (l ++ [e, x]) = entsAV l ++ [[.s e.key, .sl .fro 2 (dotsAV e.live), .sl .fro 2 (dotsAV e.dead)], [.s x.key, .sl .fro 2 (dotsAV x.live), .sl .fro 2 (dotsAV x.dead)]] := by
  unfold entsAV; rw [List.map_append]; rfl

set_option maxRecDepth 8000 in
set_option maxHeartbeats 4000000 in
theorem c_ref08_Put (s : List Entry) (e : Entry) (hs : s.length ≤ 1000000) (he : e.live.length ≤ 1000000 ∧ e.dead.length ≤ 1000000) : Pure Try.prog 35 [.sl .fro 3 (entsAV s), .agg (entC e)] (.sl .own 3 (entsAV (putE s e))) := by
  refine proc_of (cx Try.prog 61 [0, 3, 4, 5, 6, 7, 20, 34, 46, 55] [4]) 59 [.tmp 4] Try.func35 rfl rfl rfl rfl rfl rfl (Nat.le_refl _) rfl ?_
  refine AWp.go [0, 3] [3] fun K hK => ?_
  simp [entC]
  first | refine hK _ _ ?_ | refine ⟨by omega, hK _ _ ?_⟩ | refine ⟨by omega, by omega, hK _ _ ?_⟩
  clear hK K
  refine AWp.go [0, 3, 5] [3] fun K hK => ?_
  simp
  first | refine hK _ _ ?_ | refine ⟨by omega, hK _ _ ?_⟩ | refine ⟨by omega, by omega, hK _ _ ?_⟩
  clear hK K
  have w0 : IntKind.i64.wrap ((e.live.length : Int) + e.dead.length) = (e.live.length : Int) + e.dead.length := wrap64 (by omega) (by omega)
  refine AWp.step [0, 3, 5, 6] [3] [(0, .sl .fro 3 (entsAV s)), (3, .ptr 3 0), (5, .sl .own 3 []), (6, .b (noneE e))] [(3, [.s e.key, .sl .fro 2 (dotsAV e.live), .sl .fro 2 (dotsAV e.dead)])] ?_ ?_
  · simp [w0, noneE]
  refine AWp.seq ?_
  refine AWp.go [0, 3, 5, 6, 7] [3] fun K hK => ?_
  simp
  first | refine hK _ _ ?_ | refine ⟨by omega, hK _ _ ?_⟩ | refine ⟨by omega, by omega, hK _ _ ?_⟩
  clear hK K
  refine AWp.block (AWp.while (fun i : Nat => [(0, .sl .fro 3 (entsAV s)), (3, .ptr 3 0), (5, .sl .own 3 (entsAV (putTo s e i).1)), (6, .b (putTo s e i).2), (7, .i .i64 i)]) (fun i => [(3, [.s e.key, .sl .fro 2 (dotsAV e.live), .sl .fro 2 (dotsAV e.dead)])]) (fun i => i ≤ s.length) (fun i => s.length - i) [0, 3, 5, 6, 7] [3] 0 (by simp) (by simp [putTo, entsAV]) ?_)
  intro i hi
  have hll := putTo_len s e i hi
  refine AWp.seq ?_
  refine AWp.go [0, 3, 5, 6, 7, 20] [3] fun K hK => ?_
  simp
  first | refine hK _ _ ?_ | refine ⟨by omega, hK _ _ ?_⟩ | refine ⟨by omega, by omega, hK _ _ ?_⟩
  clear hK K
  by_cases h2 : i < s.length
  · refine AWp.cond (t := true) (by first | (simp [h2]; done) | (simp [h2]; omega)) (fun _ => ?_) (by simp)
    refine AWp.skip ?_
    show AWp _ _ _ _
    refine AWp.seq ?_
    refine AWp.block ?_
    refine AWp.seq ?_
    refine AWp.stepD 12 (fun _ => .any) [0, 3, 5, 6, 7, 34] [3] [(0, .sl .fro 3 (entsAV s)), (3, .ptr 3 0), (5, .sl .own 3 (entsAV (putTo s e i).1)), (6, .b (putTo s e i).2), (7, .i .i64 i), (34, .b (!(putTo s e i).2 && !ltK s[i].key e.key))] [(3, [.s e.key, .sl .fro 2 (dotsAV e.live), .sl .fro 2 (dotsAV e.dead)])] mix (by kernel_rfl) ?_ ?_
    · cases q1 : (putTo s e i).2 <;> simp [h2, ltK]
    cases hd : !(putTo s e i).2 && !ltK s[i].key e.key
    · refine AWp.cond (t := false) (by simp) (by simp) (fun _ => ?_)
      refine AWp.skip ?_
      show AWp _ _ _ _
      refine AWp.stepD 8 (fun _ => .any) [0, 3, 5, 6, 7, 46] [3] [(0, .sl .fro 3 (entsAV s)), (3, .ptr 3 0), (5, .sl .own 3 (entsAV (putTo s e i).1)), (6, .b (putTo s e i).2), (7, .i .i64 i), (46, .b (!eqK s[i].key e.key))] [(3, [.s e.key, .sl .fro 2 (dotsAV e.live), .sl .fro 2 (dotsAV e.dead)])] mix (by kernel_rfl) ?_ ?_
      · simp [h2, eqK]
      cases hp : eqK s[i].key e.key
      · refine AWp.cond (t := true) (by simp) (fun _ => ?_) (by simp)
        refine AWp.goLast [0, 3, 5, 6, 7] [3] fun K hK => ?_
        simp [h2]
        first | refine hK _ _ ?_ | refine ⟨by omega, hK _ _ ?_⟩ | refine ⟨by omega, by omega, hK _ _ ?_⟩
        clear hK K
        show AWp _ _ _ _
        refine AWp.goLast [0, 3, 5, 6, 7] [3] fun K hK => ?_
        simp
        first | refine hK _ _ ?_ | refine ⟨by omega, hK _ _ ?_⟩ | refine ⟨by omega, by omega, hK _ _ ?_⟩
        clear hK K
        refine ⟨i + 1, by omega, by omega, ?_⟩
        have w1 : IntKind.i64.wrap ((i : Int) + 1) = i + 1 := wrap64 (by omega) (by omega)
        simp only [putTo_succ _ _ _ h2, putStep, hd, hp]
        simp [entsAV_snoc, w1]
      · refine AWp.cond (t := false) (by simp) (by simp) (fun _ => ?_)
        refine AWp.skip ?_
        show AWp _ _ _ _
        refine AWp.goLast [0, 3, 5, 6, 7] [3] fun K hK => ?_
        simp
        first | refine hK _ _ ?_ | refine ⟨by omega, hK _ _ ?_⟩ | refine ⟨by omega, by omega, hK _ _ ?_⟩
        clear hK K
        refine ⟨i + 1, by omega, by omega, ?_⟩
        have w1 : IntKind.i64.wrap ((i : Int) + 1) = i + 1 := wrap64 (by omega) (by omega)
        simp only [putTo_succ _ _ _ h2, putStep, hd, hp]
        simp [w1]
    · refine AWp.cond (t := true) (by simp) (fun _ => ?_) (by simp)
      refine AWp.step [0, 3, 5, 7] [3] [(0, .sl .fro 3 (entsAV s)), (3, .ptr 3 0), (5, .sl .own 3 (entsAV ((putTo s e i).1 ++ [e]))), (7, .i .i64 i)] [(3, [.s e.key, .sl .fro 2 (dotsAV e.live), .sl .fro 2 (dotsAV e.dead)])] ?_ ?_
      · simp [entsAV_snoc]
        omega
      refine AWp.goLast [0, 3, 5, 6, 7] [3] fun K hK => ?_
      simp
      first | refine hK _ _ ?_ | refine ⟨by omega, hK _ _ ?_⟩ | refine ⟨by omega, by omega, hK _ _ ?_⟩
      clear hK K
      show AWp _ _ _ _
      refine AWp.stepD 8 (fun _ => .any) [0, 3, 5, 6, 7, 46] [3] [(0, .sl .fro 3 (entsAV s)), (3, .ptr 3 0), (5, .sl .own 3 (entsAV ((putTo s e i).1 ++ [e]))), (6, .b true), (7, .i .i64 i), (46, .b (!eqK s[i].key e.key))] [(3, [.s e.key, .sl .fro 2 (dotsAV e.live), .sl .fro 2 (dotsAV e.dead)])] mix (by kernel_rfl) ?_ ?_
      · simp [h2, eqK]
      cases hp : eqK s[i].key e.key
      · refine AWp.cond (t := true) (by simp) (fun _ => ?_) (by simp)
        refine AWp.goLast [0, 3, 5, 6, 7] [3] fun K hK => ?_
        simp [h2]
        first | refine hK _ _ ?_ | refine ⟨by omega, hK _ _ ?_⟩ | refine ⟨by omega, by omega, hK _ _ ?_⟩
        clear hK K
        show AWp _ _ _ _
        refine AWp.goLast [0, 3, 5, 6, 7] [3] fun K hK => ?_
        simp
        first | refine hK _ _ ?_ | refine ⟨by omega, hK _ _ ?_⟩ | refine ⟨by omega, by omega, hK _ _ ?_⟩
        clear hK K
        refine ⟨i + 1, by omega, by omega, ?_⟩
        have w1 : IntKind.i64.wrap ((i : Int) + 1) = i + 1 := wrap64 (by omega) (by omega)
        simp only [putTo_succ _ _ _ h2, putStep, hd, hp]
        simp [entsAV_snoc, entsAV_snoc2, w1]
      · refine AWp.cond (t := false) (by simp) (by simp) (fun _ => ?_)
        refine AWp.skip ?_
        show AWp _ _ _ _
        refine AWp.goLast [0, 3, 5, 6, 7] [3] fun K hK => ?_
        simp
        first | refine hK _ _ ?_ | refine ⟨by omega, hK _ _ ?_⟩ | refine ⟨by omega, by omega, hK _ _ ?_⟩
        clear hK K
        refine ⟨i + 1, by omega, by omega, ?_⟩
        have w1 : IntKind.i64.wrap ((i : Int) + 1) = i + 1 := wrap64 (by omega) (by omega)
        simp only [putTo_succ _ _ _ h2, putStep, hd, hp]
        simp [entsAV_snoc, w1]
  · refine AWp.cond (t := false) (by first | (simp [h2]; done) | (simp [h2]; omega)) (by simp) (fun _ => ?_)
    refine AWp.exit ?_
    show AWp _ _ _ _
    refine AWp.seq ?_
    obtain rfl : i = s.length := by omega
    refine AWp.go [3, 5, 55] [3] fun K hK => ?_
    simp
    first | refine hK _ _ ?_ | refine ⟨by omega, hK _ _ ?_⟩ | refine ⟨by omega, by omega, hK _ _ ?_⟩
    clear hK K
    refine AWp.cond rfl (fun hc => ?_) (fun hc => ?_)
    · simp at hc
      refine AWp.goLast [5] [] fun K hK => ?_
      simp
      first | refine hK _ _ ?_ | refine ⟨by omega, hK _ _ ?_⟩ | refine ⟨by omega, by omega, hK _ _ ?_⟩
      clear hK K
      show AWp _ _ _ _
      refine AWp.go [4] [] fun K hK => ?_
      simp
      first | refine hK _ _ ?_ | refine ⟨by omega, hK _ _ ?_⟩ | refine ⟨by omega, by omega, hK _ _ ?_⟩
      clear hK K
      refine AWp.ret ?_
      simp [putE, hc, entsAV_snoc]
    · simp at hc
      refine AWp.skip ?_
      show AWp _ _ _ _
      refine AWp.go [4] [] fun K hK => ?_
      simp
      first | refine hK _ _ ?_ | refine ⟨by omega, hK _ _ ?_⟩ | refine ⟨by omega, by omega, hK _ _ ?_⟩
      clear hK K
      refine AWp.ret ?_
      simp [putE, hc]

def putsTo (f : Entry → Entry) (s : List Entry) (i : Nat) : List Entry := (s.take i).foldl (fun o x => putE o (f x)) []
def putsE (f : Entry → Entry) (s : List Entry) : List Entry := putsTo f s s.length

end Go.AM
namespace Go.AM
open Go.Proofs

theorem c_Clone_EntryN : Pure Try.prog 85 [.sl .nl 3 []] (.sl .nl 3 []) := by
  refine proc_of (cx Try.prog 8 [0, 2, 4] [2]) 7 [.tmp 2] Try.func85 rfl rfl rfl rfl rfl rfl (Nat.le_refl _) rfl ?_
  refine AWp.go [0] [] fun K hK => ?_
  simp
  first | refine hK _ _ ?_ | refine ⟨by omega, hK _ _ ?_⟩ | refine ⟨by omega, by omega, hK _ _ ?_⟩
  clear hK K
  refine AWp.seq ?_
  refine AWp.go [0, 4] [] fun K hK => ?_
  simp
  first | refine hK _ _ ?_ | refine ⟨by omega, hK _ _ ?_⟩ | refine ⟨by omega, by omega, hK _ _ ?_⟩
  clear hK K
  refine AWp.cond (t := true) (by first | (simp; done) | (simp; omega)) (fun _ => ?_) (by simp)
  refine AWp.go [2] [] fun K hK => ?_
  simp
  first | refine hK _ _ ?_ | refine ⟨by omega, hK _ _ ?_⟩ | refine ⟨by omega, by omega, hK _ _ ?_⟩
  clear hK K
  refine AWp.ret ?_
  simp

set_option maxRecDepth 8000 in
theorem c_rwset_copiedN : Pure Try.prog 51 [.sl .nl 3 []] (.sl .nl 3 []) := by
  refine proc_of (cx Try.prog 34 [0, 2, 3, 4, 8, 9, 10] [2]) 33 [.tmp 2] Try.func51 rfl rfl rfl rfl rfl rfl (Nat.le_refl _) rfl ?_
  refine AWp.go [0] [] fun K hK => ?_
  simp
  first | refine hK _ _ ?_ | refine ⟨by omega, hK _ _ ?_⟩ | refine ⟨by omega, by omega, hK _ _ ?_⟩
  clear hK K
  refine AWp.go [3] [] fun K hK => ?_
  simp
  refine call_procK [] none c_Clone_EntryN (by simp) (by simp) ?_
  simp
  first | refine hK _ _ ?_ | refine ⟨by omega, hK _ _ ?_⟩ | refine ⟨by omega, by omega, hK _ _ ?_⟩
  clear hK K
  refine AWp.seq ?_
  refine AWp.go [3, 8, 9] [] fun K hK => ?_
  simp
  first | refine hK _ _ ?_ | refine ⟨by omega, hK _ _ ?_⟩ | refine ⟨by omega, by omega, hK _ _ ?_⟩
  clear hK K
  refine AWp.block (AWp.while (fun i : Nat => [(3, .sl .nl 3 []), (8, .i .i64 0), (9, .i .i64 0)]) (fun i => []) (fun i => True) (fun i => 0) [3, 8, 9] [] 0 (by simp) (by simp) ?_)
  intro i hi
  refine AWp.go [3, 8, 9, 10] [] fun K hK => ?_
  simp
  first | refine hK _ _ ?_ | refine ⟨by omega, hK _ _ ?_⟩ | refine ⟨by omega, by omega, hK _ _ ?_⟩
  clear hK K
  refine AWp.seq ?_
  refine AWp.cond (t := false) (by first | (simp; done) | (simp; omega)) (by simp) (fun _ => ?_)
  refine AWp.exit ?_
  show AWp _ _ _ _
  refine AWp.go [2] [] fun K hK => ?_
  simp
  first | refine hK _ _ ?_ | refine ⟨by omega, hK _ _ ?_⟩ | refine ⟨by omega, by omega, hK _ _ ?_⟩
  clear hK K
  refine AWp.ret ?_
  simp

set_option maxRecDepth 8000 in
theorem c_Insert_EntryN (e : Entry) : Pure Try.prog 89 [.sl .nl 3 [], .i .i64 0, .sl .fro 3 [entC e]] (.sl .own 3 [entC e]) := by
  refine proc_of (cx Try.prog 95 [0, 1, 2, 6, 7, 8, 9, 16, 22, 31, 68] [6]) 92 [.tmp 6] Try.func89 rfl rfl rfl rfl rfl rfl (Nat.le_refl _) rfl ?_
  refine AWp.go [0, 1, 2] [] fun K hK => ?_
  simp
  first | refine hK _ _ ?_ | refine ⟨by omega, hK _ _ ?_⟩ | refine ⟨by omega, by omega, hK _ _ ?_⟩
  clear hK K
  refine AWp.go [0, 1, 2] [] fun K hK => ?_
  simp
  first | refine hK _ _ ?_ | refine ⟨by omega, hK _ _ ?_⟩ | refine ⟨by omega, by omega, hK _ _ ?_⟩
  clear hK K
  refine AWp.go [0, 1, 2, 7] [] fun K hK => ?_
  simp
  first | refine hK _ _ ?_ | refine ⟨by omega, hK _ _ ?_⟩ | refine ⟨by omega, by omega, hK _ _ ?_⟩
  clear hK K
  refine AWp.seq ?_
  refine AWp.go [0, 1, 2, 7, 16] [] fun K hK => ?_
  simp
  first | refine hK _ _ ?_ | refine ⟨by omega, hK _ _ ?_⟩ | refine ⟨by omega, by omega, hK _ _ ?_⟩
  clear hK K
  refine AWp.cond (t := false) (by first | (simp; done) | (simp; omega)) (by simp) (fun _ => ?_)
  refine AWp.skip ?_
  show AWp _ _ _ _
  refine AWp.go [0, 1, 2, 7, 8] [] fun K hK => ?_
  simp
  first | refine hK _ _ ?_ | refine ⟨by omega, hK _ _ ?_⟩ | refine ⟨by omega, by omega, hK _ _ ?_⟩
  clear hK K
  refine AWp.seq ?_
  refine AWp.go [0, 1, 2, 7, 8, 22] [] fun K hK => ?_
  simp
  first | refine hK _ _ ?_ | refine ⟨by omega, hK _ _ ?_⟩ | refine ⟨by omega, by omega, hK _ _ ?_⟩
  clear hK K
  refine AWp.cond (t := true) (by first | (simp; done) | (simp; omega)) (fun _ => ?_) (by simp)
  refine AWp.go [6] [] fun K hK => ?_
  simp
  first | refine hK _ _ ?_ | refine ⟨by omega, hK _ _ ?_⟩ | refine ⟨by omega, by omega, hK _ _ ?_⟩
  clear hK K
  refine AWp.ret ?_
  simp

theorem place_nil (k : ByteArray) : place [] k = 0 := bsF_done _ 0
theorem there_nil (k : ByteArray) : there [] k = false := rfl
set_option maxRecDepth 8000 in
set_option maxHeartbeats 1000000 in
theorem c_rwset_putN (e : Entry) : Pure Try.prog 53 [.sl .nl 3 [], .agg (entC e)] (.tup [.sl .own 3 [entC e], .i .i64 0]) := by
  refine proc_of (cx Try.prog 36 [0, 3, 4, 5, 6, 7, 9, 20, 27] [4, 5]) 34 [.tmp 4, .tmp 5] Try.func53 rfl rfl rfl rfl rfl rfl (Nat.le_refl _) rfl ?_
  refine AWp.go [0, 3] [3] fun K hK => ?_
  simp [entC]
  first | refine hK _ _ ?_ | refine ⟨by omega, hK _ _ ?_⟩ | refine ⟨by omega, by omega, hK _ _ ?_⟩
  clear hK K
  refine AWp.go [3, 6] [3] fun K hK => ?_
  simp
  refine call_procK [] none c_rwset_copiedN (by simp) (by simp) ?_
  simp
  first | refine hK _ _ ?_ | refine ⟨by omega, hK _ _ ?_⟩ | refine ⟨by omega, by omega, hK _ _ ?_⟩
  clear hK K
  refine AWp.go [3, 6, 7, 9] [3] fun K hK => ?_
  simp
  refine call_pure (c_rwset_at [] e.key fine_nil) (by simp [entsAV]) ?_
  simp [place_nil, there_nil, entC]
  first | refine hK _ _ ?_ | refine ⟨by omega, hK _ _ ?_⟩ | refine ⟨by omega, by omega, hK _ _ ?_⟩
  clear hK K
  refine AWp.seq ?_
  refine AWp.block ?_
  refine AWp.go [3, 6, 7, 20] [3] fun K hK => ?_
  simp
  first | refine hK _ _ ?_ | refine ⟨by omega, hK _ _ ?_⟩ | refine ⟨by omega, by omega, hK _ _ ?_⟩
  clear hK K
  refine AWp.cond (t := false) (by first | (simp; done) | (simp; omega)) (by simp) (fun _ => ?_)
  refine AWp.go [3, 6, 7, 27] [3] fun K hK => ?_
  simp
  first | refine hK _ _ ?_ | refine ⟨by omega, hK _ _ ?_⟩ | refine ⟨by omega, by omega, hK _ _ ?_⟩
  clear hK K
  refine AWp.cond (t := false) (by first | (simp; done) | (simp; omega)) (by simp) (fun _ => ?_)
  refine AWp.skip ?_
  show AWp _ _ _ _
  refine AWp.go [4, 5] [] fun K hK => ?_
  simp
  refine call_procK [] none (c_Insert_EntryN e) (by simp [entC]) (by simp) ?_
  simp
  first | refine hK _ _ ?_ | refine ⟨by omega, hK _ _ ?_⟩ | refine ⟨by omega, by omega, hK _ _ ?_⟩
  clear hK K
  refine AWp.ret ?_
  simp

set_option maxRecDepth 8000 in
set_option maxHeartbeats 2000000 in
theorem c_BSearch_EntryB (s : List Entry) (k : ByteArray) (pad : List AV) (cap : Nat) (hs : Fine s) (hpad : Calm pad) : Proc Try.prog 1 79 [.bs 0 0 s.length cap, .s k, .fn 80 [] []] [(0, boxR entC s pad)] (.tup [.i .i64 (place s k), .b (there s k)]) [(0, boxR entC s pad)] := by
  have hC : Calm (boxR entC s pad) := boxR_calm entC_ok hpad
  have hL : (boxR entC s pad).length = s.length * 3 + pad.length := boxR_len entC_ok s pad
  refine proc_of (cxb Try.prog 49 1 [0, 1, 2, 6, 7, 8, 9, 10, 11, 17, 31] [] [6, 7]) 46 [.tmp 6, .tmp 7] Try.func79 rfl rfl rfl rfl rfl rfl (Nat.le_refl _) rfl ?_
  refine AWp.go [0, 1, 2] [0] fun K hK => ?_
  simp [hC]
  first | refine hK _ _ ?_ | refine ⟨by omega, hK _ _ ?_⟩ | refine ⟨by omega, by omega, hK _ _ ?_⟩
  clear hK K
  refine AWp.go [0, 1, 2, 8] [0] fun K hK => ?_
  simp [hC]
  first | refine hK _ _ ?_ | refine ⟨by omega, hK _ _ ?_⟩ | refine ⟨by omega, by omega, hK _ _ ?_⟩
  clear hK K
  refine AWp.go [0, 1, 2, 8, 9, 10] [0] fun K hK => ?_
  simp [hC]
  first | refine hK _ _ ?_ | refine ⟨by omega, hK _ _ ?_⟩ | refine ⟨by omega, by omega, hK _ _ ?_⟩
  clear hK K
  refine AWp.seq ?_
  refine AWp.block (AWp.while (fun p : Nat × Nat => [(0, .bs 0 0 s.length cap), (1, .s k), (2, .fn 80 [] []), (8, .i .i64 s.length), (9, .i .i64 p.1), (10, .i .i64 p.2)]) (fun p => [(0, boxR entC s pad)]) (fun p => p.1 ≤ p.2 ∧ p.2 ≤ s.length ∧ bsF (less s k) p.1 p.2 = place s k) (fun p => p.2 - p.1) [0, 1, 2, 8, 9, 10] [0] (0, s.length) (by exact ⟨Nat.zero_le _, Nat.le_refl _, rfl⟩) (by simp [hC]) ?_)
  rintro ⟨lo, hi⟩ ⟨h1, h2, h3⟩
  have hlen := hs.1
  refine AWp.seq ?_
  refine AWp.go [0, 1, 2, 8, 9, 10, 17] [0] fun K hK => ?_
  simp [hC]
  first | refine hK _ _ ?_ | refine ⟨by omega, hK _ _ ?_⟩ | refine ⟨by omega, by omega, hK _ _ ?_⟩
  clear hK K
  by_cases h : lo < hi
  · refine AWp.cond (t := true) (by first | (simp [h]; done) | (simp [h]; omega)) (fun _ => ?_) (by simp)
    refine AWp.skip ?_
    show AWp _ _ _ _
    refine AWp.block ?_
    obtain ⟨m, hm⟩ : ∃ m : Nat, m = (lo + hi) / 2 := ⟨_, rfl⟩
    have hml : m < s.length := by omega
    refine AWp.step [0, 1, 2, 8, 9, 10, 11] [0] [(0, .bs 0 0 s.length cap), (1, .s k), (2, .fn 80 [] []), (8, .i .i64 s.length), (9, .i .i64 lo), (10, .i .i64 hi), (11, .i .i64 m)] [(0, boxR entC s pad)] ?_ ?_
    · have w1 : IntKind.i64.wrap ((lo : Int) + hi) = (lo : Int) + hi := wrap64 (by omega) (by omega)
      simp [w1, hC]
      exact mid_wrap (by omega) hm
    refine AWp.go [0, 1, 2, 8, 9, 10, 11, 31] [0] fun K hK => ?_
    simp [hml, entR_get s pad m hml, hL]
    refine ⟨by omega, ?_⟩
    refine call_pure (c_rwset_at1 s[m] k) (by simp [entC]) ?_
    simp [hC]
    first | refine hK _ _ ?_ | refine ⟨by omega, hK _ _ ?_⟩ | refine ⟨by omega, by omega, hK _ _ ?_⟩
    clear hK K
    by_cases hp : cmpK s[m].key k < 0
    · refine AWp.cond (t := true) (by first | (simp [hp]; done) | (simp [hp]; omega)) (fun _ => ?_) (by simp)
      refine AWp.goLast [0, 1, 2, 8, 9, 10] [0] fun K hK => ?_
      simp (disch := omega) [wrap64]
      first | refine hK _ _ ?_ | refine ⟨by omega, hK _ _ ?_⟩ | refine ⟨by omega, by omega, hK _ _ ?_⟩
      clear hK K
      refine ⟨(m + 1, hi), ⟨by simp; omega, h2, ?_⟩, by simp; omega, ?_⟩
      · rw [bsF, if_pos h, ← hm, if_pos (by simp [less, hml, hp])] at h3
        exact h3
      · simp [hC]
    · refine AWp.cond (t := false) (by first | (simp [hp]; done) | (simp [hp]; omega)) (by simp) (fun _ => ?_)
      refine AWp.goLast [0, 1, 2, 8, 9, 10] [0] fun K hK => ?_
      simp [hC]
      first | refine hK _ _ ?_ | refine ⟨by omega, hK _ _ ?_⟩ | refine ⟨by omega, by omega, hK _ _ ?_⟩
      clear hK K
      refine ⟨(lo, m), ⟨by simp; omega, by simp; omega, ?_⟩, by simp; omega, ?_⟩
      · rw [bsF, if_pos h, ← hm, if_neg (by simp [less, hml, hp])] at h3
        exact h3
      · simp [hC]
  · refine AWp.cond (t := false) (by first | (simp [h]; done) | (simp [h]; omega)) (by simp) (fun _ => ?_)
    refine AWp.exit ?_
    show AWp _ _ _ _
    obtain rfl : lo = hi := by omega
    rw [bsF_done] at h3
    refine AWp.step [6, 7] [0] [(6, .i .i64 (place s k)), (7, .b (there s k))] [(0, boxR entC s pad)] ?_ ?_
    · by_cases hq : lo < s.length
      · simp [hq, there, ← h3, hL, entR_get s pad lo hq]
        refine ⟨by omega, ?_⟩
        refine call_pure (c_rwset_at1 s[lo] k) (by simp [entC]) ?_
        simp [hC]
      · simp [hq, there, ← h3, hC]
    refine AWp.ret ?_
    simp [hC]
    simpa using hC.still

set_option maxRecDepth 8000 in
set_option maxHeartbeats 2000000 in
theorem c_rwset_atB (s : List Entry) (k : ByteArray) (pad : List AV) (cap : Nat) (hs : Fine s) (hpad : Calm pad) : Proc Try.prog 1 49 [.bs 0 0 s.length cap, .s k] [(0, boxR entC s pad)] (.tup [.i .i64 (place s k), .agg (entC (atE s k)), .b (there s k)]) [(0, boxR entC s pad)] := by
  have hC : Calm (boxR entC s pad) := boxR_calm entC_ok hpad
  have hL : (boxR entC s pad).length = s.length * 3 + pad.length := boxR_len entC_ok s pad
  refine proc_of (cxb Try.prog 24 1 [0, 1, 4, 5, 6, 7, 8, 15] [] [4, 5, 6]) 22 [.tmp 4, .cell 5 60, .tmp 6] Try.func49 rfl rfl rfl rfl rfl rfl (Nat.le_refl _) rfl ?_
  refine AWp.go [0, 1, 5] [0, 6] fun K hK => ?_
  simp [hC]
  first | refine hK _ _ ?_ | refine ⟨by omega, hK _ _ ?_⟩ | refine ⟨by omega, by omega, hK _ _ ?_⟩
  clear hK K
  refine AWp.go [0, 1, 5, 7, 8] [0, 6] fun K hK => ?_
  simp
  refine call_proc [(0, 0)] none (c_BSearch_EntryB s k pad cap hs hpad) (by simp) (by simp) ?_
  simp [hC]
  refine ⟨by simpa using hC.still, hK _ _ ?_⟩
  clear hK K
  refine AWp.seq ?_
  have hpl := place_le s k
  refine AWp.go [0, 1, 5, 7, 15] [0, 6] fun K hK => ?_
  simp [hC]
  first | refine hK _ _ ?_ | refine ⟨by omega, hK _ _ ?_⟩ | refine ⟨by omega, by omega, hK _ _ ?_⟩
  clear hK K
  by_cases hp : there s k = true
  · refine AWp.cond (t := true) (by first | (simp [hp]; done) | (simp [hp]; omega)) (fun _ => ?_) (by simp)
    have hlt := there_lt hp
    refine AWp.stepD 6 (fun _ => .any) [4, 5, 6] [0, 6] [(4, .i .i64 (place s k)), (5, .ptr 6 0), (6, .b true)] [(0, boxR entC s pad), (6, [.s s[place s k].key, .sl .fro 2 (dotsAV s[place s k].live), .sl .fro 2 (dotsAV s[place s k].dead)])] mix (by kernel_rfl) ?_ ?_
    · simp [hlt, hC, hL, entR_get s pad _ hlt]
      omega
    refine AWp.ret ?_
    simp [atE, hp, hlt, entC, hC]
    simpa using hC.still
  · refine AWp.cond (t := false) (by first | (simp [hp]; done) | (simp [hp]; omega)) (by simp) (fun _ => ?_)
    refine AWp.skip ?_
    show AWp _ _ _ _
    refine AWp.go [4, 5, 6] [0, 6] fun K hK => ?_
    simp [hC]
    first | refine hK _ _ ?_ | refine ⟨by omega, hK _ _ ?_⟩ | refine ⟨by omega, by omega, hK _ _ ?_⟩
    clear hK K
    refine AWp.ret ?_
    simp [atE, hp, emptyE, entC, dotsAV, hC]
    simpa using hC.still

set_option maxRecDepth 8000 in
set_option maxHeartbeats 2000000 in
theorem c_rwset_putT (s : List Entry) (e : Entry) (hs : Fine s) (ht : there s e.key = true) : Pure Try.prog 53 [.sl .fro 3 (entsAV s), .agg (entC e)] (.tup [.sl .own 3 (entsAV (s.set (place s e.key) e)), .i .i64 0]) := by
  have hlt := there_lt ht
  have hne : s ≠ [] := by rintro rfl; simp at hlt
  refine proc_of (cx Try.prog 36 [0, 3, 4, 5, 6, 7, 9, 20, 27] [4, 5]) 34 [.tmp 4, .tmp 5] Try.func53 rfl rfl rfl rfl rfl rfl (Nat.le_refl _) rfl ?_
  refine AWp.go [0, 3] [3] fun K hK => ?_
  simp [entC]
  first | refine hK _ _ ?_ | refine ⟨by omega, hK _ _ ?_⟩ | refine ⟨by omega, by omega, hK _ _ ?_⟩
  clear hK K
  refine AWp.go [3, 6] [3] fun K hK => ?_
  simp
  refine call_pure (c_rwset_copied s hs) (by simp) ?_
  simp
  first | refine hK _ _ ?_ | refine ⟨by omega, hK _ _ ?_⟩ | refine ⟨by omega, by omega, hK _ _ ?_⟩
  clear hK K
  refine AWp.unown 6 100 rfl (by simp) (by simpa [entsAV] using hne) rfl (by simp) fun cap hcap => ?_
  simp at hcap
  have hcc : ∀ l, Calm (boxR entC l (padE s cap)) := fun l => boxR_calm entC_ok (Calm.replicate _ rfl)
  have hbl := boxR_len entC_ok s (padE s cap)
  have e0 : (entsAV s).flatten ++ List.replicate ((cap - s.length) * 3) AV.any = boxR entC s (padE s cap) := rfl
  simp [e0]
  refine AWp.go [3, 6, 7, 9] [3, 100] fun K hK => ?_
  simp
  refine call_proc [(0, 100)] none (c_rwset_atB s e.key (padE s cap) cap hs (Calm.replicate _ rfl)) (by simp) (by simp) ?_
  simp [hcc, entC]
  refine ⟨by simpa using (hcc s).still, hK _ _ ?_⟩
  clear hK K
  refine AWp.seq ?_
  refine AWp.block ?_
  refine AWp.go [3, 6, 7, 20] [3, 100] fun K hK => ?_
  simp [hcc, ht]
  first | refine hK _ _ ?_ | refine ⟨by omega, hK _ _ ?_⟩ | refine ⟨by omega, by omega, hK _ _ ?_⟩
  clear hK K
  refine AWp.cond (t := true) (by first | (simp; done) | (simp; omega)) (fun _ => ?_) (by simp)
  refine AWp.step [6] [100] [(6, .bs 100 0 s.length cap)] [(100, boxR entC (s.set (place s e.key) e) (padE s cap))] ?_ ?_
  · simp [hcc, hbl, hlt, entR_set s (padE s cap) _ hlt e]
    omega
  have hrl : ((entsAV (s.set (place s e.key) e)).flatten).length = (s.set (place s e.key) e).length * 3 := rows_len entC_ok _
  refine AWp.reown 6 100 cap (sz := 3) (entsAV (s.set (place s e.key) e)) (padE s cap) (by simp) (by simp) rfl ?_ (fun z hz => ?_) (ents_dat _) (hcc _).freeL ?_
  · rw [List.length_append, hrl, List.length_replicate, List.length_set]; omega
  · obtain ⟨x, _, rfl⟩ := List.mem_map.1 hz; rfl
  simp
  refine AWp.go [4, 5] [100] fun K hK => ?_
  simp
  first | refine hK _ _ ?_ | refine ⟨by omega, hK _ _ ?_⟩ | refine ⟨by omega, by omega, hK _ _ ?_⟩
  clear hK K
  refine AWp.ret ?_
  simp
end Go.AM
namespace Go.AM
open Go.Proofs

def addE (s : List Entry) (k : ByteArray) (d : Dot) (c : List Int) : List Entry :=
  if 0 < (leftD (atE s k).dead c).length then s else s.set (place s k) ⟨k, ordP (leftD (atE s k).live c ++ [d]), (atE s k).dead⟩

set_option maxRecDepth 8000 in
set_option maxHeartbeats 2000000 in
theorem c_rwset_AddT (s : List Entry) (k : ByteArray) (d : Dot) (c : List Int) (hs : Fine s) (hc : c.length ≤ 1000000) (hok : (setOk s && keyOk k && mayD d && clockOk c) = true) (ht : there s k = true) (hb : (atE s k).live.length ≤ 999999 ∧ (atE s k).dead.length ≤ 999999) : Pure Try.prog 13 [.sl .fro 3 (entsAV s), .s k, .agg (dotC d), .sl .fro 1 (intsAV c)] (.tup [.sl .own 3 (entsAV (addE s k d c)), .i .i64 0]) := by
  have gm := c_rwset_may s k d c hs hc
  rw [hok] at gm
  have hl1 := leftD_len (atE s k).live c
  refine proc_of (cx Try.prog 53 [0, 1, 3, 6, 8, 9, 11, 13, 19, 32] [8, 9]) 49 [.tmp 8, .tmp 9] Try.func13 rfl rfl rfl rfl rfl rfl (Nat.le_refl _) rfl ?_
  refine AWp.go [0, 1, 3, 6] [6] fun K hK => ?_
  simp [dotC]
  first | refine hK _ _ ?_ | refine ⟨by omega, hK _ _ ?_⟩ | refine ⟨by omega, by omega, hK _ _ ?_⟩
  clear hK K
  refine AWp.seq ?_
  refine AWp.go [0, 1, 3, 6, 19] [6] fun K hK => ?_
  simp
  refine call_pure gm (by simp [dotC]) ?_
  simp
  first | refine hK _ _ ?_ | refine ⟨by omega, hK _ _ ?_⟩ | refine ⟨by omega, by omega, hK _ _ ?_⟩
  clear hK K
  refine AWp.cond (t := false) (by first | (simp; done) | (simp; omega)) (by simp) (fun _ => ?_)
  refine AWp.skip ?_
  show AWp _ _ _ _
  refine AWp.go [0, 1, 3, 6, 11] [6, 11] fun K hK => ?_
  simp
  refine call_pure (c_rwset_at s k hs) (by simp) ?_
  simp [entC]
  first | refine hK _ _ ?_ | refine ⟨by omega, hK _ _ ?_⟩ | refine ⟨by omega, by omega, hK _ _ ?_⟩
  clear hK K
  refine AWp.seq ?_
  refine AWp.go [0, 1, 3, 6, 11, 32] [6, 11] fun K hK => ?_
  simp
  refine call_pure (c_rwset_unknown (atE s k).dead c (by omega) hc) (by simp) ?_
  simp
  first | refine hK _ _ ?_ | refine ⟨by omega, hK _ _ ?_⟩ | refine ⟨by omega, by omega, hK _ _ ?_⟩
  clear hK K
  by_cases h : 0 < (leftD (atE s k).dead c).length
  · refine AWp.cond (t := true) (by first | (simp [h]; done) | (simp [h]; omega)) (fun _ => ?_) (by simp)
    refine AWp.go [8, 9] [] fun K hK => ?_
    simp
    refine call_pure (c_rwset_copied s hs) (by simp) ?_
    simp
    first | refine hK _ _ ?_ | refine ⟨by omega, hK _ _ ?_⟩ | refine ⟨by omega, by omega, hK _ _ ?_⟩
    clear hK K
    refine AWp.ret ?_
    simp [addE, h]
  · refine AWp.cond (t := false) (by first | (simp [h]; done) | (simp [h]; omega)) (by simp) (fun _ => ?_)
    refine AWp.skip ?_
    show AWp _ _ _ _
    refine AWp.stepT (.take 0 (.take 2 (.alt 1 (.alt 3 (.alt 4 (.alt 5 (.alt 6 (.alt 7 (.take 8 .fin) .stop) .stop) .stop) .stop) (.alt 4 (.alt 3 (.alt 5 (.alt 6 (.alt 7 (.take 8 .fin) .stop) .stop) .stop) (.alt 5 (.alt 3 (.alt 6 (.alt 7 (.take 8 .fin) .stop) .stop) .stop) .stop)) .stop)) (.alt 4 (.alt 1 (.alt 3 (.alt 5 (.alt 6 (.alt 7 (.take 8 .fin) .stop) .stop) .stop) (.alt 5 (.alt 3 (.alt 6 (.alt 7 (.take 8 .fin) .stop) .stop) .stop) .stop)) (.alt 5 (.alt 1 (.alt 3 (.alt 6 (.alt 7 (.take 8 .fin) .stop) .stop) .stop) .stop) .stop)) .stop)))) [0, 1, 11, 13] [11] [(0, .sl .fro 3 (entsAV s)), (1, .s k), (11, .ptr 11 0), (13, .sl .fro 2 (dotsAV (ordP (leftD (atE s k).live c ++ [d]))))] [(11, [.s (atE s k).key, .sl .fro 2 (dotsAV (atE s k).live), .sl .fro 2 (dotsAV (atE s k).dead)])] mix (by kernel_rfl) ?_ ?_
    · refine atree.tk fun K1 h1 => ?_
      simp
      first | refine h1 _ _ ?_ | refine ⟨by omega, h1 _ _ ?_⟩ | refine ⟨by omega, by omega, h1 _ _ ?_⟩
      clear h1 K1
      refine atree.tk fun K1 h1 => ?_
      simp
      first | refine h1 _ _ ?_ | refine ⟨by omega, h1 _ _ ?_⟩ | refine ⟨by omega, by omega, h1 _ _ ?_⟩
      clear h1 K1
      refine atree.al (fun K1 h1 => ?_) ?_
      · simp
        first | refine h1 _ _ ?_ | refine ⟨by omega, h1 _ _ ?_⟩ | refine ⟨by omega, by omega, h1 _ _ ?_⟩
        clear h1 K1
        refine atree.al (fun K1 h1 => ?_) ?_
        · simp
          refine call_pure (c_rwset_unknown (atE s k).live c (by omega) hc) (by simp) ?_
          simp
          first | refine h1 _ _ ?_ | refine ⟨by omega, h1 _ _ ?_⟩ | refine ⟨by omega, by omega, h1 _ _ ?_⟩
          clear h1 K1
          refine atree.a1 fun K1 h1 => ?_
          simp
          first | refine h1 _ _ ?_ | refine ⟨by omega, h1 _ _ ?_⟩ | refine ⟨by omega, by omega, h1 _ _ ?_⟩
          clear h1 K1
          refine atree.a1 fun K1 h1 => ?_
          simp
          first | refine h1 _ _ ?_ | refine ⟨by omega, h1 _ _ ?_⟩ | refine ⟨by omega, by omega, h1 _ _ ?_⟩
          clear h1 K1
          refine atree.a1 fun K1 h1 => ?_
          simp
          first | refine h1 _ _ ?_ | refine ⟨by omega, h1 _ _ ?_⟩ | refine ⟨by omega, by omega, h1 _ _ ?_⟩
          clear h1 K1
          refine atree.a1 fun K1 h1 => ?_
          simp
          refine call_pure (c_dots_Order (leftD (atE s k).live c ++ [d]) (by simp; omega)) (by simp) ?_
          simp
          first | refine h1 _ _ ?_ | refine ⟨by omega, h1 _ _ ?_⟩ | refine ⟨by omega, by omega, h1 _ _ ?_⟩
          clear h1 K1
          refine atree.tk fun K1 h1 => ?_
          simp
          first | refine h1 _ _ ?_ | refine ⟨by omega, h1 _ _ ?_⟩ | refine ⟨by omega, by omega, h1 _ _ ?_⟩
          clear h1 K1
          simp
        · refine atree.a1 fun K1 h1 => ?_
          simp
          first | refine h1 _ _ ?_ | refine ⟨by omega, h1 _ _ ?_⟩ | refine ⟨by omega, by omega, h1 _ _ ?_⟩
          clear h1 K1
          refine atree.al (fun K1 h1 => ?_) ?_
          · simp
            refine call_pure (c_rwset_unknown (atE s k).live c (by omega) hc) (by simp) ?_
            simp
            first | refine h1 _ _ ?_ | refine ⟨by omega, h1 _ _ ?_⟩ | refine ⟨by omega, by omega, h1 _ _ ?_⟩
            clear h1 K1
            refine atree.a1 fun K1 h1 => ?_
            simp
            first | refine h1 _ _ ?_ | refine ⟨by omega, h1 _ _ ?_⟩ | refine ⟨by omega, by omega, h1 _ _ ?_⟩
            clear h1 K1
            refine atree.a1 fun K1 h1 => ?_
            simp
            first | refine h1 _ _ ?_ | refine ⟨by omega, h1 _ _ ?_⟩ | refine ⟨by omega, by omega, h1 _ _ ?_⟩
            clear h1 K1
            refine atree.a1 fun K1 h1 => ?_
            simp
            refine call_pure (c_dots_Order (leftD (atE s k).live c ++ [d]) (by simp; omega)) (by simp) ?_
            simp
            first | refine h1 _ _ ?_ | refine ⟨by omega, h1 _ _ ?_⟩ | refine ⟨by omega, by omega, h1 _ _ ?_⟩
            clear h1 K1
            refine atree.tk fun K1 h1 => ?_
            simp
            first | refine h1 _ _ ?_ | refine ⟨by omega, h1 _ _ ?_⟩ | refine ⟨by omega, by omega, h1 _ _ ?_⟩
            clear h1 K1
            simp
          · refine atree.a1 fun K1 h1 => ?_
            simp
            first | refine h1 _ _ ?_ | refine ⟨by omega, h1 _ _ ?_⟩ | refine ⟨by omega, by omega, h1 _ _ ?_⟩
            clear h1 K1
            refine atree.a1 fun K1 h1 => ?_
            simp
            refine call_pure (c_rwset_unknown (atE s k).live c (by omega) hc) (by simp) ?_
            simp
            first | refine h1 _ _ ?_ | refine ⟨by omega, h1 _ _ ?_⟩ | refine ⟨by omega, by omega, h1 _ _ ?_⟩
            clear h1 K1
            refine atree.a1 fun K1 h1 => ?_
            simp
            first | refine h1 _ _ ?_ | refine ⟨by omega, h1 _ _ ?_⟩ | refine ⟨by omega, by omega, h1 _ _ ?_⟩
            clear h1 K1
            refine atree.a1 fun K1 h1 => ?_
            simp
            refine call_pure (c_dots_Order (leftD (atE s k).live c ++ [d]) (by simp; omega)) (by simp) ?_
            simp
            first | refine h1 _ _ ?_ | refine ⟨by omega, h1 _ _ ?_⟩ | refine ⟨by omega, by omega, h1 _ _ ?_⟩
            clear h1 K1
            refine atree.tk fun K1 h1 => ?_
            simp
            first | refine h1 _ _ ?_ | refine ⟨by omega, h1 _ _ ?_⟩ | refine ⟨by omega, by omega, h1 _ _ ?_⟩
            clear h1 K1
            simp
      · refine atree.a1 fun K1 h1 => ?_
        simp
        first | refine h1 _ _ ?_ | refine ⟨by omega, h1 _ _ ?_⟩ | refine ⟨by omega, by omega, h1 _ _ ?_⟩
        clear h1 K1
        refine atree.al (fun K1 h1 => ?_) ?_
        · simp
          first | refine h1 _ _ ?_ | refine ⟨by omega, h1 _ _ ?_⟩ | refine ⟨by omega, by omega, h1 _ _ ?_⟩
          clear h1 K1
          refine atree.al (fun K1 h1 => ?_) ?_
          · simp
            refine call_pure (c_rwset_unknown (atE s k).live c (by omega) hc) (by simp) ?_
            simp
            first | refine h1 _ _ ?_ | refine ⟨by omega, h1 _ _ ?_⟩ | refine ⟨by omega, by omega, h1 _ _ ?_⟩
            clear h1 K1
            refine atree.a1 fun K1 h1 => ?_
            simp
            first | refine h1 _ _ ?_ | refine ⟨by omega, h1 _ _ ?_⟩ | refine ⟨by omega, by omega, h1 _ _ ?_⟩
            clear h1 K1
            refine atree.a1 fun K1 h1 => ?_
            simp
            first | refine h1 _ _ ?_ | refine ⟨by omega, h1 _ _ ?_⟩ | refine ⟨by omega, by omega, h1 _ _ ?_⟩
            clear h1 K1
            refine atree.a1 fun K1 h1 => ?_
            simp
            refine call_pure (c_dots_Order (leftD (atE s k).live c ++ [d]) (by simp; omega)) (by simp) ?_
            simp
            first | refine h1 _ _ ?_ | refine ⟨by omega, h1 _ _ ?_⟩ | refine ⟨by omega, by omega, h1 _ _ ?_⟩
            clear h1 K1
            refine atree.tk fun K1 h1 => ?_
            simp
            first | refine h1 _ _ ?_ | refine ⟨by omega, h1 _ _ ?_⟩ | refine ⟨by omega, by omega, h1 _ _ ?_⟩
            clear h1 K1
            simp
          · refine atree.a1 fun K1 h1 => ?_
            simp
            first | refine h1 _ _ ?_ | refine ⟨by omega, h1 _ _ ?_⟩ | refine ⟨by omega, by omega, h1 _ _ ?_⟩
            clear h1 K1
            refine atree.a1 fun K1 h1 => ?_
            simp
            refine call_pure (c_rwset_unknown (atE s k).live c (by omega) hc) (by simp) ?_
            simp
            first | refine h1 _ _ ?_ | refine ⟨by omega, h1 _ _ ?_⟩ | refine ⟨by omega, by omega, h1 _ _ ?_⟩
            clear h1 K1
            refine atree.a1 fun K1 h1 => ?_
            simp
            first | refine h1 _ _ ?_ | refine ⟨by omega, h1 _ _ ?_⟩ | refine ⟨by omega, by omega, h1 _ _ ?_⟩
            clear h1 K1
            refine atree.a1 fun K1 h1 => ?_
            simp
            refine call_pure (c_dots_Order (leftD (atE s k).live c ++ [d]) (by simp; omega)) (by simp) ?_
            simp
            first | refine h1 _ _ ?_ | refine ⟨by omega, h1 _ _ ?_⟩ | refine ⟨by omega, by omega, h1 _ _ ?_⟩
            clear h1 K1
            refine atree.tk fun K1 h1 => ?_
            simp
            first | refine h1 _ _ ?_ | refine ⟨by omega, h1 _ _ ?_⟩ | refine ⟨by omega, by omega, h1 _ _ ?_⟩
            clear h1 K1
            simp
        · refine atree.a1 fun K1 h1 => ?_
          simp
          first | refine h1 _ _ ?_ | refine ⟨by omega, h1 _ _ ?_⟩ | refine ⟨by omega, by omega, h1 _ _ ?_⟩
          clear h1 K1
          refine atree.a1 fun K1 h1 => ?_
          simp
          first | refine h1 _ _ ?_ | refine ⟨by omega, h1 _ _ ?_⟩ | refine ⟨by omega, by omega, h1 _ _ ?_⟩
          clear h1 K1
          refine atree.a1 fun K1 h1 => ?_
          simp
          refine call_pure (c_rwset_unknown (atE s k).live c (by omega) hc) (by simp) ?_
          simp
          first | refine h1 _ _ ?_ | refine ⟨by omega, h1 _ _ ?_⟩ | refine ⟨by omega, by omega, h1 _ _ ?_⟩
          clear h1 K1
          refine atree.a1 fun K1 h1 => ?_
          simp
          first | refine h1 _ _ ?_ | refine ⟨by omega, h1 _ _ ?_⟩ | refine ⟨by omega, by omega, h1 _ _ ?_⟩
          clear h1 K1
          refine atree.a1 fun K1 h1 => ?_
          simp
          refine call_pure (c_dots_Order (leftD (atE s k).live c ++ [d]) (by simp; omega)) (by simp) ?_
          simp
          first | refine h1 _ _ ?_ | refine ⟨by omega, h1 _ _ ?_⟩ | refine ⟨by omega, by omega, h1 _ _ ?_⟩
          clear h1 K1
          refine atree.tk fun K1 h1 => ?_
          simp
          first | refine h1 _ _ ?_ | refine ⟨by omega, h1 _ _ ?_⟩ | refine ⟨by omega, by omega, h1 _ _ ?_⟩
          clear h1 K1
          simp
    refine AWp.go [8, 9] [] fun K hK => ?_
    simp
    refine call_pure (c_Clone_Dot (dotsAV (atE s k).dead) (by simp; omega)) (by simp) ?_
    simp
    refine call_pure (c_rwset_putT s ⟨k, ordP (leftD (atE s k).live c ++ [d]), (atE s k).dead⟩ hs ht) (by simp [entC]) ?_
    simp
    first | refine hK _ _ ?_ | refine ⟨by omega, hK _ _ ?_⟩ | refine ⟨by omega, by omega, hK _ _ ?_⟩
    clear hK K
    refine AWp.ret ?_
    simp [addE, h]

def dropE (s : List Entry) (k : ByteArray) (d : Dot) (c : List Int) : List Entry :=
  s.set (place s k) ⟨k, [], ordP (leftD (atE s k).dead c ++ [d])⟩

set_option maxRecDepth 8000 in
set_option maxHeartbeats 2000000 in
theorem c_rwset_DropT (s : List Entry) (k : ByteArray) (d : Dot) (c : List Int) (hs : Fine s) (hc : c.length ≤ 1000000) (hok : (setOk s && keyOk k && mayD d && clockOk c) = true) (ht : there s k = true) (hb : (atE s k).dead.length ≤ 999999) : Pure Try.prog 14 [.sl .fro 3 (entsAV s), .s k, .agg (dotC d), .sl .fro 1 (intsAV c)] (.tup [.sl .own 3 (entsAV (dropE s k d c)), .i .i64 0]) := by
  have gm := c_rwset_may s k d c hs hc
  rw [hok] at gm
  have hl1 := leftD_len (atE s k).dead c
  refine proc_of (cx Try.prog 40 [0, 1, 3, 6, 8, 9, 11, 18] [8, 9]) 36 [.tmp 8, .tmp 9] Try.func14 rfl rfl rfl rfl rfl rfl (Nat.le_refl _) rfl ?_
  refine AWp.go [0, 1, 3, 6] [6] fun K hK => ?_
  simp [dotC]
  first | refine hK _ _ ?_ | refine ⟨by omega, hK _ _ ?_⟩ | refine ⟨by omega, by omega, hK _ _ ?_⟩
  clear hK K
  refine AWp.seq ?_
  refine AWp.go [0, 1, 3, 6, 18] [6] fun K hK => ?_
  simp
  refine call_pure gm (by simp [dotC]) ?_
  simp
  first | refine hK _ _ ?_ | refine ⟨by omega, hK _ _ ?_⟩ | refine ⟨by omega, by omega, hK _ _ ?_⟩
  clear hK K
  refine AWp.cond (t := false) (by first | (simp; done) | (simp; omega)) (by simp) (fun _ => ?_)
  refine AWp.skip ?_
  show AWp _ _ _ _
  refine AWp.go [0, 1, 3, 6, 11] [6, 11] fun K hK => ?_
  simp
  refine call_pure (c_rwset_at s k hs) (by simp) ?_
  simp [entC]
  first | refine hK _ _ ?_ | refine ⟨by omega, hK _ _ ?_⟩ | refine ⟨by omega, by omega, hK _ _ ?_⟩
  clear hK K
  refine AWp.stepT (.take 0 (.take 1 (.take 2 (.take 4 (.alt 3 (.alt 5 (.alt 6 (.alt 7 (.alt 8 (.alt 9 (.alt 10 (.alt 11 (.take 12 (.take 13 (.take 14 (.take 15 .fin)))) .stop) .stop) .stop) .stop) .stop) .stop) (.alt 6 (.alt 5 (.alt 7 (.alt 8 (.alt 9 (.alt 10 (.alt 11 (.take 12 (.take 13 (.take 14 (.take 15 .fin)))) .stop) .stop) .stop) .stop) .stop) (.alt 7 (.alt 5 (.alt 8 (.alt 9 (.alt 10 (.alt 11 (.take 12 (.take 13 (.take 14 (.take 15 .fin)))) .stop) .stop) .stop) .stop) .stop) .stop)) .stop)) (.alt 6 (.alt 3 (.alt 5 (.alt 7 (.alt 8 (.alt 9 (.alt 10 (.alt 11 (.take 12 (.take 13 (.take 14 (.take 15 .fin)))) .stop) .stop) .stop) .stop) .stop) (.alt 7 (.alt 5 (.alt 8 (.alt 9 (.alt 10 (.alt 11 (.take 12 (.take 13 (.take 14 (.take 15 .fin)))) .stop) .stop) .stop) .stop) .stop) .stop)) (.alt 7 (.alt 3 (.alt 5 (.alt 8 (.alt 9 (.alt 10 (.alt 11 (.take 12 (.take 13 (.take 14 (.take 15 .fin)))) .stop) .stop) .stop) .stop) .stop) .stop) .stop)) .stop)))))) [8, 9] [] [(8, .sl .own 3 (entsAV (dropE s k d c))), (9, .i .i64 0)] [] mix (by kernel_rfl) ?_ ?_
  · refine atree.tk fun K1 h1 => ?_
    simp
    first | refine h1 _ _ ?_ | refine ⟨by omega, h1 _ _ ?_⟩ | refine ⟨by omega, by omega, h1 _ _ ?_⟩
    clear h1 K1
    refine atree.tk fun K1 h1 => ?_
    simp
    first | refine h1 _ _ ?_ | refine ⟨by omega, h1 _ _ ?_⟩ | refine ⟨by omega, by omega, h1 _ _ ?_⟩
    clear h1 K1
    refine atree.tk fun K1 h1 => ?_
    simp
    first | refine h1 _ _ ?_ | refine ⟨by omega, h1 _ _ ?_⟩ | refine ⟨by omega, by omega, h1 _ _ ?_⟩
    clear h1 K1
    refine atree.tk fun K1 h1 => ?_
    simp
    first | refine h1 _ _ ?_ | refine ⟨by omega, h1 _ _ ?_⟩ | refine ⟨by omega, by omega, h1 _ _ ?_⟩
    clear h1 K1
    refine atree.al (fun K1 h1 => ?_) ?_
    · simp
      first | refine h1 _ _ ?_ | refine ⟨by omega, h1 _ _ ?_⟩ | refine ⟨by omega, by omega, h1 _ _ ?_⟩
      clear h1 K1
      refine atree.al (fun K1 h1 => ?_) ?_
      · simp
        refine call_pure (c_rwset_unknown (atE s k).dead c (by omega) hc) (by simp) ?_
        simp
        first | refine h1 _ _ ?_ | refine ⟨by omega, h1 _ _ ?_⟩ | refine ⟨by omega, by omega, h1 _ _ ?_⟩
        clear h1 K1
        refine atree.a1 fun K1 h1 => ?_
        simp
        first | refine h1 _ _ ?_ | refine ⟨by omega, h1 _ _ ?_⟩ | refine ⟨by omega, by omega, h1 _ _ ?_⟩
        clear h1 K1
        refine atree.a1 fun K1 h1 => ?_
        simp
        first | refine h1 _ _ ?_ | refine ⟨by omega, h1 _ _ ?_⟩ | refine ⟨by omega, by omega, h1 _ _ ?_⟩
        clear h1 K1
        refine atree.a1 fun K1 h1 => ?_
        simp
        first | refine h1 _ _ ?_ | refine ⟨by omega, h1 _ _ ?_⟩ | refine ⟨by omega, by omega, h1 _ _ ?_⟩
        clear h1 K1
        refine atree.a1 fun K1 h1 => ?_
        simp
        refine call_pure (c_dots_Order (leftD (atE s k).dead c ++ [d]) (by simp; omega)) (by simp) ?_
        simp
        first | refine h1 _ _ ?_ | refine ⟨by omega, h1 _ _ ?_⟩ | refine ⟨by omega, by omega, h1 _ _ ?_⟩
        clear h1 K1
        refine atree.a1 fun K1 h1 => ?_
        simp
        first | refine h1 _ _ ?_ | refine ⟨by omega, h1 _ _ ?_⟩ | refine ⟨by omega, by omega, h1 _ _ ?_⟩
        clear h1 K1
        refine atree.a1 fun K1 h1 => ?_
        simp
        refine call_pure (c_rwset_putT s ⟨k, [], ordP (leftD (atE s k).dead c ++ [d])⟩ hs ht) (by simp [entC, dotsAV]) ?_
        simp
        first | refine h1 _ _ ?_ | refine ⟨by omega, h1 _ _ ?_⟩ | refine ⟨by omega, by omega, h1 _ _ ?_⟩
        clear h1 K1
        refine atree.tk fun K1 h1 => ?_
        simp
        first | refine h1 _ _ ?_ | refine ⟨by omega, h1 _ _ ?_⟩ | refine ⟨by omega, by omega, h1 _ _ ?_⟩
        clear h1 K1
        refine atree.tk fun K1 h1 => ?_
        simp
        first | refine h1 _ _ ?_ | refine ⟨by omega, h1 _ _ ?_⟩ | refine ⟨by omega, by omega, h1 _ _ ?_⟩
        clear h1 K1
        refine atree.tk fun K1 h1 => ?_
        simp
        first | refine h1 _ _ ?_ | refine ⟨by omega, h1 _ _ ?_⟩ | refine ⟨by omega, by omega, h1 _ _ ?_⟩
        clear h1 K1
        refine atree.tk fun K1 h1 => ?_
        simp
        first | refine h1 _ _ ?_ | refine ⟨by omega, h1 _ _ ?_⟩ | refine ⟨by omega, by omega, h1 _ _ ?_⟩
        clear h1 K1
        simp [dropE]
      · refine atree.a1 fun K1 h1 => ?_
        simp
        first | refine h1 _ _ ?_ | refine ⟨by omega, h1 _ _ ?_⟩ | refine ⟨by omega, by omega, h1 _ _ ?_⟩
        clear h1 K1
        refine atree.al (fun K1 h1 => ?_) ?_
        · simp
          refine call_pure (c_rwset_unknown (atE s k).dead c (by omega) hc) (by simp) ?_
          simp
          first | refine h1 _ _ ?_ | refine ⟨by omega, h1 _ _ ?_⟩ | refine ⟨by omega, by omega, h1 _ _ ?_⟩
          clear h1 K1
          refine atree.a1 fun K1 h1 => ?_
          simp
          first | refine h1 _ _ ?_ | refine ⟨by omega, h1 _ _ ?_⟩ | refine ⟨by omega, by omega, h1 _ _ ?_⟩
          clear h1 K1
          refine atree.a1 fun K1 h1 => ?_
          simp
          first | refine h1 _ _ ?_ | refine ⟨by omega, h1 _ _ ?_⟩ | refine ⟨by omega, by omega, h1 _ _ ?_⟩
          clear h1 K1
          refine atree.a1 fun K1 h1 => ?_
          simp
          refine call_pure (c_dots_Order (leftD (atE s k).dead c ++ [d]) (by simp; omega)) (by simp) ?_
          simp
          first | refine h1 _ _ ?_ | refine ⟨by omega, h1 _ _ ?_⟩ | refine ⟨by omega, by omega, h1 _ _ ?_⟩
          clear h1 K1
          refine atree.a1 fun K1 h1 => ?_
          simp
          first | refine h1 _ _ ?_ | refine ⟨by omega, h1 _ _ ?_⟩ | refine ⟨by omega, by omega, h1 _ _ ?_⟩
          clear h1 K1
          refine atree.a1 fun K1 h1 => ?_
          simp
          refine call_pure (c_rwset_putT s ⟨k, [], ordP (leftD (atE s k).dead c ++ [d])⟩ hs ht) (by simp [entC, dotsAV]) ?_
          simp
          first | refine h1 _ _ ?_ | refine ⟨by omega, h1 _ _ ?_⟩ | refine ⟨by omega, by omega, h1 _ _ ?_⟩
          clear h1 K1
          refine atree.tk fun K1 h1 => ?_
          simp
          first | refine h1 _ _ ?_ | refine ⟨by omega, h1 _ _ ?_⟩ | refine ⟨by omega, by omega, h1 _ _ ?_⟩
          clear h1 K1
          refine atree.tk fun K1 h1 => ?_
          simp
          first | refine h1 _ _ ?_ | refine ⟨by omega, h1 _ _ ?_⟩ | refine ⟨by omega, by omega, h1 _ _ ?_⟩
          clear h1 K1
          refine atree.tk fun K1 h1 => ?_
          simp
          first | refine h1 _ _ ?_ | refine ⟨by omega, h1 _ _ ?_⟩ | refine ⟨by omega, by omega, h1 _ _ ?_⟩
          clear h1 K1
          refine atree.tk fun K1 h1 => ?_
          simp
          first | refine h1 _ _ ?_ | refine ⟨by omega, h1 _ _ ?_⟩ | refine ⟨by omega, by omega, h1 _ _ ?_⟩
          clear h1 K1
          simp [dropE]
        · refine atree.a1 fun K1 h1 => ?_
          simp
          first | refine h1 _ _ ?_ | refine ⟨by omega, h1 _ _ ?_⟩ | refine ⟨by omega, by omega, h1 _ _ ?_⟩
          clear h1 K1
          refine atree.a1 fun K1 h1 => ?_
          simp
          refine call_pure (c_rwset_unknown (atE s k).dead c (by omega) hc) (by simp) ?_
          simp
          first | refine h1 _ _ ?_ | refine ⟨by omega, h1 _ _ ?_⟩ | refine ⟨by omega, by omega, h1 _ _ ?_⟩
          clear h1 K1
          refine atree.a1 fun K1 h1 => ?_
          simp
          first | refine h1 _ _ ?_ | refine ⟨by omega, h1 _ _ ?_⟩ | refine ⟨by omega, by omega, h1 _ _ ?_⟩
          clear h1 K1
          refine atree.a1 fun K1 h1 => ?_
          simp
          refine call_pure (c_dots_Order (leftD (atE s k).dead c ++ [d]) (by simp; omega)) (by simp) ?_
          simp
          first | refine h1 _ _ ?_ | refine ⟨by omega, h1 _ _ ?_⟩ | refine ⟨by omega, by omega, h1 _ _ ?_⟩
          clear h1 K1
          refine atree.a1 fun K1 h1 => ?_
          simp
          first | refine h1 _ _ ?_ | refine ⟨by omega, h1 _ _ ?_⟩ | refine ⟨by omega, by omega, h1 _ _ ?_⟩
          clear h1 K1
          refine atree.a1 fun K1 h1 => ?_
          simp
          refine call_pure (c_rwset_putT s ⟨k, [], ordP (leftD (atE s k).dead c ++ [d])⟩ hs ht) (by simp [entC, dotsAV]) ?_
          simp
          first | refine h1 _ _ ?_ | refine ⟨by omega, h1 _ _ ?_⟩ | refine ⟨by omega, by omega, h1 _ _ ?_⟩
          clear h1 K1
          refine atree.tk fun K1 h1 => ?_
          simp
          first | refine h1 _ _ ?_ | refine ⟨by omega, h1 _ _ ?_⟩ | refine ⟨by omega, by omega, h1 _ _ ?_⟩
          clear h1 K1
          refine atree.tk fun K1 h1 => ?_
          simp
          first | refine h1 _ _ ?_ | refine ⟨by omega, h1 _ _ ?_⟩ | refine ⟨by omega, by omega, h1 _ _ ?_⟩
          clear h1 K1
          refine atree.tk fun K1 h1 => ?_
          simp
          first | refine h1 _ _ ?_ | refine ⟨by omega, h1 _ _ ?_⟩ | refine ⟨by omega, by omega, h1 _ _ ?_⟩
          clear h1 K1
          refine atree.tk fun K1 h1 => ?_
          simp
          first | refine h1 _ _ ?_ | refine ⟨by omega, h1 _ _ ?_⟩ | refine ⟨by omega, by omega, h1 _ _ ?_⟩
          clear h1 K1
          simp [dropE]
    · refine atree.a1 fun K1 h1 => ?_
      simp
      first | refine h1 _ _ ?_ | refine ⟨by omega, h1 _ _ ?_⟩ | refine ⟨by omega, by omega, h1 _ _ ?_⟩
      clear h1 K1
      refine atree.al (fun K1 h1 => ?_) ?_
      · simp
        first | refine h1 _ _ ?_ | refine ⟨by omega, h1 _ _ ?_⟩ | refine ⟨by omega, by omega, h1 _ _ ?_⟩
        clear h1 K1
        refine atree.al (fun K1 h1 => ?_) ?_
        · simp
          refine call_pure (c_rwset_unknown (atE s k).dead c (by omega) hc) (by simp) ?_
          simp
          first | refine h1 _ _ ?_ | refine ⟨by omega, h1 _ _ ?_⟩ | refine ⟨by omega, by omega, h1 _ _ ?_⟩
          clear h1 K1
          refine atree.a1 fun K1 h1 => ?_
          simp
          first | refine h1 _ _ ?_ | refine ⟨by omega, h1 _ _ ?_⟩ | refine ⟨by omega, by omega, h1 _ _ ?_⟩
          clear h1 K1
          refine atree.a1 fun K1 h1 => ?_
          simp
          first | refine h1 _ _ ?_ | refine ⟨by omega, h1 _ _ ?_⟩ | refine ⟨by omega, by omega, h1 _ _ ?_⟩
          clear h1 K1
          refine atree.a1 fun K1 h1 => ?_
          simp
          refine call_pure (c_dots_Order (leftD (atE s k).dead c ++ [d]) (by simp; omega)) (by simp) ?_
          simp
          first | refine h1 _ _ ?_ | refine ⟨by omega, h1 _ _ ?_⟩ | refine ⟨by omega, by omega, h1 _ _ ?_⟩
          clear h1 K1
          refine atree.a1 fun K1 h1 => ?_
          simp
          first | refine h1 _ _ ?_ | refine ⟨by omega, h1 _ _ ?_⟩ | refine ⟨by omega, by omega, h1 _ _ ?_⟩
          clear h1 K1
          refine atree.a1 fun K1 h1 => ?_
          simp
          refine call_pure (c_rwset_putT s ⟨k, [], ordP (leftD (atE s k).dead c ++ [d])⟩ hs ht) (by simp [entC, dotsAV]) ?_
          simp
          first | refine h1 _ _ ?_ | refine ⟨by omega, h1 _ _ ?_⟩ | refine ⟨by omega, by omega, h1 _ _ ?_⟩
          clear h1 K1
          refine atree.tk fun K1 h1 => ?_
          simp
          first | refine h1 _ _ ?_ | refine ⟨by omega, h1 _ _ ?_⟩ | refine ⟨by omega, by omega, h1 _ _ ?_⟩
          clear h1 K1
          refine atree.tk fun K1 h1 => ?_
          simp
          first | refine h1 _ _ ?_ | refine ⟨by omega, h1 _ _ ?_⟩ | refine ⟨by omega, by omega, h1 _ _ ?_⟩
          clear h1 K1
          refine atree.tk fun K1 h1 => ?_
          simp
          first | refine h1 _ _ ?_ | refine ⟨by omega, h1 _ _ ?_⟩ | refine ⟨by omega, by omega, h1 _ _ ?_⟩
          clear h1 K1
          refine atree.tk fun K1 h1 => ?_
          simp
          first | refine h1 _ _ ?_ | refine ⟨by omega, h1 _ _ ?_⟩ | refine ⟨by omega, by omega, h1 _ _ ?_⟩
          clear h1 K1
          simp [dropE]
        · refine atree.a1 fun K1 h1 => ?_
          simp
          first | refine h1 _ _ ?_ | refine ⟨by omega, h1 _ _ ?_⟩ | refine ⟨by omega, by omega, h1 _ _ ?_⟩
          clear h1 K1
          refine atree.a1 fun K1 h1 => ?_
          simp
          refine call_pure (c_rwset_unknown (atE s k).dead c (by omega) hc) (by simp) ?_
          simp
          first | refine h1 _ _ ?_ | refine ⟨by omega, h1 _ _ ?_⟩ | refine ⟨by omega, by omega, h1 _ _ ?_⟩
          clear h1 K1
          refine atree.a1 fun K1 h1 => ?_
          simp
          first | refine h1 _ _ ?_ | refine ⟨by omega, h1 _ _ ?_⟩ | refine ⟨by omega, by omega, h1 _ _ ?_⟩
          clear h1 K1
          refine atree.a1 fun K1 h1 => ?_
          simp
          refine call_pure (c_dots_Order (leftD (atE s k).dead c ++ [d]) (by simp; omega)) (by simp) ?_
          simp
          first | refine h1 _ _ ?_ | refine ⟨by omega, h1 _ _ ?_⟩ | refine ⟨by omega, by omega, h1 _ _ ?_⟩
          clear h1 K1
          refine atree.a1 fun K1 h1 => ?_
          simp
          first | refine h1 _ _ ?_ | refine ⟨by omega, h1 _ _ ?_⟩ | refine ⟨by omega, by omega, h1 _ _ ?_⟩
          clear h1 K1
          refine atree.a1 fun K1 h1 => ?_
          simp
          refine call_pure (c_rwset_putT s ⟨k, [], ordP (leftD (atE s k).dead c ++ [d])⟩ hs ht) (by simp [entC, dotsAV]) ?_
          simp
          first | refine h1 _ _ ?_ | refine ⟨by omega, h1 _ _ ?_⟩ | refine ⟨by omega, by omega, h1 _ _ ?_⟩
          clear h1 K1
          refine atree.tk fun K1 h1 => ?_
          simp
          first | refine h1 _ _ ?_ | refine ⟨by omega, h1 _ _ ?_⟩ | refine ⟨by omega, by omega, h1 _ _ ?_⟩
          clear h1 K1
          refine atree.tk fun K1 h1 => ?_
          simp
          first | refine h1 _ _ ?_ | refine ⟨by omega, h1 _ _ ?_⟩ | refine ⟨by omega, by omega, h1 _ _ ?_⟩
          clear h1 K1
          refine atree.tk fun K1 h1 => ?_
          simp
          first | refine h1 _ _ ?_ | refine ⟨by omega, h1 _ _ ?_⟩ | refine ⟨by omega, by omega, h1 _ _ ?_⟩
          clear h1 K1
          refine atree.tk fun K1 h1 => ?_
          simp
          first | refine h1 _ _ ?_ | refine ⟨by omega, h1 _ _ ?_⟩ | refine ⟨by omega, by omega, h1 _ _ ?_⟩
          clear h1 K1
          simp [dropE]
      · refine atree.a1 fun K1 h1 => ?_
        simp
        first | refine h1 _ _ ?_ | refine ⟨by omega, h1 _ _ ?_⟩ | refine ⟨by omega, by omega, h1 _ _ ?_⟩
        clear h1 K1
        refine atree.a1 fun K1 h1 => ?_
        simp
        first | refine h1 _ _ ?_ | refine ⟨by omega, h1 _ _ ?_⟩ | refine ⟨by omega, by omega, h1 _ _ ?_⟩
        clear h1 K1
        refine atree.a1 fun K1 h1 => ?_
        simp
        refine call_pure (c_rwset_unknown (atE s k).dead c (by omega) hc) (by simp) ?_
        simp
        first | refine h1 _ _ ?_ | refine ⟨by omega, h1 _ _ ?_⟩ | refine ⟨by omega, by omega, h1 _ _ ?_⟩
        clear h1 K1
        refine atree.a1 fun K1 h1 => ?_
        simp
        first | refine h1 _ _ ?_ | refine ⟨by omega, h1 _ _ ?_⟩ | refine ⟨by omega, by omega, h1 _ _ ?_⟩
        clear h1 K1
        refine atree.a1 fun K1 h1 => ?_
        simp
        refine call_pure (c_dots_Order (leftD (atE s k).dead c ++ [d]) (by simp; omega)) (by simp) ?_
        simp
        first | refine h1 _ _ ?_ | refine ⟨by omega, h1 _ _ ?_⟩ | refine ⟨by omega, by omega, h1 _ _ ?_⟩
        clear h1 K1
        refine atree.a1 fun K1 h1 => ?_
        simp
        first | refine h1 _ _ ?_ | refine ⟨by omega, h1 _ _ ?_⟩ | refine ⟨by omega, by omega, h1 _ _ ?_⟩
        clear h1 K1
        refine atree.a1 fun K1 h1 => ?_
        simp
        refine call_pure (c_rwset_putT s ⟨k, [], ordP (leftD (atE s k).dead c ++ [d])⟩ hs ht) (by simp [entC, dotsAV]) ?_
        simp
        first | refine h1 _ _ ?_ | refine ⟨by omega, h1 _ _ ?_⟩ | refine ⟨by omega, by omega, h1 _ _ ?_⟩
        clear h1 K1
        refine atree.tk fun K1 h1 => ?_
        simp
        first | refine h1 _ _ ?_ | refine ⟨by omega, h1 _ _ ?_⟩ | refine ⟨by omega, by omega, h1 _ _ ?_⟩
        clear h1 K1
        refine atree.tk fun K1 h1 => ?_
        simp
        first | refine h1 _ _ ?_ | refine ⟨by omega, h1 _ _ ?_⟩ | refine ⟨by omega, by omega, h1 _ _ ?_⟩
        clear h1 K1
        refine atree.tk fun K1 h1 => ?_
        simp
        first | refine h1 _ _ ?_ | refine ⟨by omega, h1 _ _ ?_⟩ | refine ⟨by omega, by omega, h1 _ _ ?_⟩
        clear h1 K1
        refine atree.tk fun K1 h1 => ?_
        simp
        first | refine h1 _ _ ?_ | refine ⟨by omega, h1 _ _ ?_⟩ | refine ⟨by omega, by omega, h1 _ _ ?_⟩
        clear h1 K1
        simp [dropE]
  refine AWp.ret ?_
  simp
end Go.AM
namespace Go.AM
open Go.Proofs

theorem ordP_one (d : Dot) : ordP [d] = [d] := by
  have h := sortD_length [d]
  have e : sortD [d] = [d] := by simp [sortD]
  rw [ordP, e, compD_one _ rfl]

set_option maxRecDepth 8000 in
set_option maxHeartbeats 2000000 in
theorem c_rwset_AddN (k : ByteArray) (d : Dot) (hk : keyOk k = true) (hd : mayD d = true) : Pure Try.prog 13 [.sl .nl 3 [], .s k, .agg (dotC d), .sl .nl 1 []] (.tup [.sl .own 3 [entC ⟨k, [d], []⟩], .i .i64 0]) := by
  have gm := c_rwset_may [] k d [] fine_nil (by simp)
  have hok : (setOk [] && keyOk k && mayD d && clockOk []) = true := by rw [hk, hd]; rfl
  rw [hok] at gm
  have hn0 : leftD [] [] = [] := rfl
  have hd0 : dotsAV [] = [] := rfl
  refine proc_of (cx Try.prog 53 [0, 1, 3, 6, 8, 9, 11, 13, 19, 32] [8, 9]) 49 [.tmp 8, .tmp 9] Try.func13 rfl rfl rfl rfl rfl rfl (Nat.le_refl _) rfl ?_
  refine AWp.go [0, 1, 3, 6] [6] fun K hK => ?_
  simp [dotC]
  first | refine hK _ _ ?_ | refine ⟨by omega, hK _ _ ?_⟩ | refine ⟨by omega, by omega, hK _ _ ?_⟩
  clear hK K
  refine AWp.seq ?_
  refine AWp.go [0, 1, 3, 6, 19] [6] fun K hK => ?_
  simp
  refine call_pure gm (by simp [dotC, entsAV, intsAV]) ?_
  simp
  first | refine hK _ _ ?_ | refine ⟨by omega, hK _ _ ?_⟩ | refine ⟨by omega, by omega, hK _ _ ?_⟩
  clear hK K
  refine AWp.cond (t := false) (by first | (simp; done) | (simp; omega)) (by simp) (fun _ => ?_)
  refine AWp.skip ?_
  show AWp _ _ _ _
  refine AWp.go [0, 1, 3, 6, 11] [6, 11] fun K hK => ?_
  simp
  refine call_pure (c_rwset_at [] k fine_nil) (by simp [entsAV]) ?_
  simp [entC, place_nil, there_nil, atE, emptyE, hd0]
  first | refine hK _ _ ?_ | refine ⟨by omega, hK _ _ ?_⟩ | refine ⟨by omega, by omega, hK _ _ ?_⟩
  clear hK K
  refine AWp.seq ?_
  refine AWp.go [0, 1, 3, 6, 11, 32] [6, 11] fun K hK => ?_
  simp
  refine call_pure (c_rwset_unknown [] [] (by simp) (by simp)) (by simp [dotsAV, intsAV]) ?_
  simp [hn0, hd0]
  first | refine hK _ _ ?_ | refine ⟨by omega, hK _ _ ?_⟩ | refine ⟨by omega, by omega, hK _ _ ?_⟩
  clear hK K
  refine AWp.cond (t := false) (by first | (simp; done) | (simp; omega)) (by simp) (fun _ => ?_)
  refine AWp.skip ?_
  show AWp _ _ _ _
  refine AWp.stepT (.take 0 (.take 2 (.alt 1 (.alt 3 (.alt 4 (.alt 5 (.alt 6 (.alt 7 (.take 8 .fin) .stop) .stop) .stop) .stop) (.alt 4 (.alt 3 (.alt 5 (.alt 6 (.alt 7 (.take 8 .fin) .stop) .stop) .stop) (.alt 5 (.alt 3 (.alt 6 (.alt 7 (.take 8 .fin) .stop) .stop) .stop) .stop)) .stop)) (.alt 4 (.alt 1 (.alt 3 (.alt 5 (.alt 6 (.alt 7 (.take 8 .fin) .stop) .stop) .stop) (.alt 5 (.alt 3 (.alt 6 (.alt 7 (.take 8 .fin) .stop) .stop) .stop) .stop)) (.alt 5 (.alt 1 (.alt 3 (.alt 6 (.alt 7 (.take 8 .fin) .stop) .stop) .stop) .stop) .stop)) .stop)))) [0, 1, 11, 13] [11] [(0, .sl .nl 3 []), (1, .s k), (11, .ptr 11 0), (13, .sl .fro 2 (dotsAV [d]))] [(11, [.s k, .sl .fro 2 [], .sl .fro 2 []])] mix (by kernel_rfl) ?_ ?_
  · refine atree.tk fun K1 h1 => ?_
    simp
    first | refine h1 _ _ ?_ | refine ⟨by omega, h1 _ _ ?_⟩ | refine ⟨by omega, by omega, h1 _ _ ?_⟩
    clear h1 K1
    refine atree.tk fun K1 h1 => ?_
    simp
    first | refine h1 _ _ ?_ | refine ⟨by omega, h1 _ _ ?_⟩ | refine ⟨by omega, by omega, h1 _ _ ?_⟩
    clear h1 K1
    refine atree.al (fun K1 h1 => ?_) ?_
    · simp
      first | refine h1 _ _ ?_ | refine ⟨by omega, h1 _ _ ?_⟩ | refine ⟨by omega, by omega, h1 _ _ ?_⟩
      clear h1 K1
      refine atree.al (fun K1 h1 => ?_) ?_
      · simp
        refine call_pure (c_rwset_unknown [] [] (by simp) (by simp)) (by simp [dotsAV, intsAV]) ?_
        simp [hn0, hd0]
        first | refine h1 _ _ ?_ | refine ⟨by omega, h1 _ _ ?_⟩ | refine ⟨by omega, by omega, h1 _ _ ?_⟩
        clear h1 K1
        refine atree.a1 fun K1 h1 => ?_
        simp
        first | refine h1 _ _ ?_ | refine ⟨by omega, h1 _ _ ?_⟩ | refine ⟨by omega, by omega, h1 _ _ ?_⟩
        clear h1 K1
        refine atree.a1 fun K1 h1 => ?_
        simp
        first | refine h1 _ _ ?_ | refine ⟨by omega, h1 _ _ ?_⟩ | refine ⟨by omega, by omega, h1 _ _ ?_⟩
        clear h1 K1
        refine atree.a1 fun K1 h1 => ?_
        simp
        first | refine h1 _ _ ?_ | refine ⟨by omega, h1 _ _ ?_⟩ | refine ⟨by omega, by omega, h1 _ _ ?_⟩
        clear h1 K1
        refine atree.a1 fun K1 h1 => ?_
        simp
        refine call_pure (c_dots_Order [d] (by simp)) (by simp [dotsAV, dotC]) ?_
        simp [ordP_one]
        first | refine h1 _ _ ?_ | refine ⟨by omega, h1 _ _ ?_⟩ | refine ⟨by omega, by omega, h1 _ _ ?_⟩
        clear h1 K1
        refine atree.tk fun K1 h1 => ?_
        simp
        first | refine h1 _ _ ?_ | refine ⟨by omega, h1 _ _ ?_⟩ | refine ⟨by omega, by omega, h1 _ _ ?_⟩
        clear h1 K1
        simp
      · refine atree.a1 fun K1 h1 => ?_
        simp
        first | refine h1 _ _ ?_ | refine ⟨by omega, h1 _ _ ?_⟩ | refine ⟨by omega, by omega, h1 _ _ ?_⟩
        clear h1 K1
        refine atree.al (fun K1 h1 => ?_) ?_
        · simp
          refine call_pure (c_rwset_unknown [] [] (by simp) (by simp)) (by simp [dotsAV, intsAV]) ?_
          simp [hn0, hd0]
          first | refine h1 _ _ ?_ | refine ⟨by omega, h1 _ _ ?_⟩ | refine ⟨by omega, by omega, h1 _ _ ?_⟩
          clear h1 K1
          refine atree.a1 fun K1 h1 => ?_
          simp
          first | refine h1 _ _ ?_ | refine ⟨by omega, h1 _ _ ?_⟩ | refine ⟨by omega, by omega, h1 _ _ ?_⟩
          clear h1 K1
          refine atree.a1 fun K1 h1 => ?_
          simp
          first | refine h1 _ _ ?_ | refine ⟨by omega, h1 _ _ ?_⟩ | refine ⟨by omega, by omega, h1 _ _ ?_⟩
          clear h1 K1
          refine atree.a1 fun K1 h1 => ?_
          simp
          refine call_pure (c_dots_Order [d] (by simp)) (by simp [dotsAV, dotC]) ?_
          simp [ordP_one]
          first | refine h1 _ _ ?_ | refine ⟨by omega, h1 _ _ ?_⟩ | refine ⟨by omega, by omega, h1 _ _ ?_⟩
          clear h1 K1
          refine atree.tk fun K1 h1 => ?_
          simp
          first | refine h1 _ _ ?_ | refine ⟨by omega, h1 _ _ ?_⟩ | refine ⟨by omega, by omega, h1 _ _ ?_⟩
          clear h1 K1
          simp
        · refine atree.a1 fun K1 h1 => ?_
          simp
          first | refine h1 _ _ ?_ | refine ⟨by omega, h1 _ _ ?_⟩ | refine ⟨by omega, by omega, h1 _ _ ?_⟩
          clear h1 K1
          refine atree.a1 fun K1 h1 => ?_
          simp
          refine call_pure (c_rwset_unknown [] [] (by simp) (by simp)) (by simp [dotsAV, intsAV]) ?_
          simp [hn0, hd0]
          first | refine h1 _ _ ?_ | refine ⟨by omega, h1 _ _ ?_⟩ | refine ⟨by omega, by omega, h1 _ _ ?_⟩
          clear h1 K1
          refine atree.a1 fun K1 h1 => ?_
          simp
          first | refine h1 _ _ ?_ | refine ⟨by omega, h1 _ _ ?_⟩ | refine ⟨by omega, by omega, h1 _ _ ?_⟩
          clear h1 K1
          refine atree.a1 fun K1 h1 => ?_
          simp
          refine call_pure (c_dots_Order [d] (by simp)) (by simp [dotsAV, dotC]) ?_
          simp [ordP_one]
          first | refine h1 _ _ ?_ | refine ⟨by omega, h1 _ _ ?_⟩ | refine ⟨by omega, by omega, h1 _ _ ?_⟩
          clear h1 K1
          refine atree.tk fun K1 h1 => ?_
          simp
          first | refine h1 _ _ ?_ | refine ⟨by omega, h1 _ _ ?_⟩ | refine ⟨by omega, by omega, h1 _ _ ?_⟩
          clear h1 K1
          simp
    · refine atree.a1 fun K1 h1 => ?_
      simp
      first | refine h1 _ _ ?_ | refine ⟨by omega, h1 _ _ ?_⟩ | refine ⟨by omega, by omega, h1 _ _ ?_⟩
      clear h1 K1
      refine atree.al (fun K1 h1 => ?_) ?_
      · simp
        first | refine h1 _ _ ?_ | refine ⟨by omega, h1 _ _ ?_⟩ | refine ⟨by omega, by omega, h1 _ _ ?_⟩
        clear h1 K1
        refine atree.al (fun K1 h1 => ?_) ?_
        · simp
          refine call_pure (c_rwset_unknown [] [] (by simp) (by simp)) (by simp [dotsAV, intsAV]) ?_
          simp [hn0, hd0]
          first | refine h1 _ _ ?_ | refine ⟨by omega, h1 _ _ ?_⟩ | refine ⟨by omega, by omega, h1 _ _ ?_⟩
          clear h1 K1
          refine atree.a1 fun K1 h1 => ?_
          simp
          first | refine h1 _ _ ?_ | refine ⟨by omega, h1 _ _ ?_⟩ | refine ⟨by omega, by omega, h1 _ _ ?_⟩
          clear h1 K1
          refine atree.a1 fun K1 h1 => ?_
          simp
          first | refine h1 _ _ ?_ | refine ⟨by omega, h1 _ _ ?_⟩ | refine ⟨by omega, by omega, h1 _ _ ?_⟩
          clear h1 K1
          refine atree.a1 fun K1 h1 => ?_
          simp
          refine call_pure (c_dots_Order [d] (by simp)) (by simp [dotsAV, dotC]) ?_
          simp [ordP_one]
          first | refine h1 _ _ ?_ | refine ⟨by omega, h1 _ _ ?_⟩ | refine ⟨by omega, by omega, h1 _ _ ?_⟩
          clear h1 K1
          refine atree.tk fun K1 h1 => ?_
          simp
          first | refine h1 _ _ ?_ | refine ⟨by omega, h1 _ _ ?_⟩ | refine ⟨by omega, by omega, h1 _ _ ?_⟩
          clear h1 K1
          simp
        · refine atree.a1 fun K1 h1 => ?_
          simp
          first | refine h1 _ _ ?_ | refine ⟨by omega, h1 _ _ ?_⟩ | refine ⟨by omega, by omega, h1 _ _ ?_⟩
          clear h1 K1
          refine atree.a1 fun K1 h1 => ?_
          simp
          refine call_pure (c_rwset_unknown [] [] (by simp) (by simp)) (by simp [dotsAV, intsAV]) ?_
          simp [hn0, hd0]
          first | refine h1 _ _ ?_ | refine ⟨by omega, h1 _ _ ?_⟩ | refine ⟨by omega, by omega, h1 _ _ ?_⟩
          clear h1 K1
          refine atree.a1 fun K1 h1 => ?_
          simp
          first | refine h1 _ _ ?_ | refine ⟨by omega, h1 _ _ ?_⟩ | refine ⟨by omega, by omega, h1 _ _ ?_⟩
          clear h1 K1
          refine atree.a1 fun K1 h1 => ?_
          simp
          refine call_pure (c_dots_Order [d] (by simp)) (by simp [dotsAV, dotC]) ?_
          simp [ordP_one]
          first | refine h1 _ _ ?_ | refine ⟨by omega, h1 _ _ ?_⟩ | refine ⟨by omega, by omega, h1 _ _ ?_⟩
          clear h1 K1
          refine atree.tk fun K1 h1 => ?_
          simp
          first | refine h1 _ _ ?_ | refine ⟨by omega, h1 _ _ ?_⟩ | refine ⟨by omega, by omega, h1 _ _ ?_⟩
          clear h1 K1
          simp
      · refine atree.a1 fun K1 h1 => ?_
        simp
        first | refine h1 _ _ ?_ | refine ⟨by omega, h1 _ _ ?_⟩ | refine ⟨by omega, by omega, h1 _ _ ?_⟩
        clear h1 K1
        refine atree.a1 fun K1 h1 => ?_
        simp
        first | refine h1 _ _ ?_ | refine ⟨by omega, h1 _ _ ?_⟩ | refine ⟨by omega, by omega, h1 _ _ ?_⟩
        clear h1 K1
        refine atree.a1 fun K1 h1 => ?_
        simp
        refine call_pure (c_rwset_unknown [] [] (by simp) (by simp)) (by simp [dotsAV, intsAV]) ?_
        simp [hn0, hd0]
        first | refine h1 _ _ ?_ | refine ⟨by omega, h1 _ _ ?_⟩ | refine ⟨by omega, by omega, h1 _ _ ?_⟩
        clear h1 K1
        refine atree.a1 fun K1 h1 => ?_
        simp
        first | refine h1 _ _ ?_ | refine ⟨by omega, h1 _ _ ?_⟩ | refine ⟨by omega, by omega, h1 _ _ ?_⟩
        clear h1 K1
        refine atree.a1 fun K1 h1 => ?_
        simp
        refine call_pure (c_dots_Order [d] (by simp)) (by simp [dotsAV, dotC]) ?_
        simp [ordP_one]
        first | refine h1 _ _ ?_ | refine ⟨by omega, h1 _ _ ?_⟩ | refine ⟨by omega, by omega, h1 _ _ ?_⟩
        clear h1 K1
        refine atree.tk fun K1 h1 => ?_
        simp
        first | refine h1 _ _ ?_ | refine ⟨by omega, h1 _ _ ?_⟩ | refine ⟨by omega, by omega, h1 _ _ ?_⟩
        clear h1 K1
        simp
  refine AWp.go [8, 9] [] fun K hK => ?_
  simp
  refine call_pure (c_Clone_Dot [] (by simp)) (by simp) ?_
  simp
  refine call_procK [] none (c_rwset_putN ⟨k, [d], []⟩) (by simp [entC, hd0]) (by simp) ?_
  simp
  first | refine hK _ _ ?_ | refine ⟨by omega, hK _ _ ?_⟩ | refine ⟨by omega, by omega, hK _ _ ?_⟩
  clear hK K
  refine AWp.ret ?_
  simp

theorem cmpB_self : ∀ l : List UInt8, Lib.compareBytes l l = 0
  | [] => rfl
  | a :: l => by
    have h : ¬ a < a := UInt8.lt_irrefl a
    rw [Lib.compareBytes, if_neg h, if_neg h]
    exact cmpB_self l
theorem cmpK_self (k : ByteArray) : cmpK k k = 0 := cmpB_self _
theorem place_one (e : Entry) : place [e] e.key = 0 := by
  have h : less [e] e.key ((0 + 1) / 2) = false := by simp [less, cmpK_self]
  show bsF _ 0 1 = 0
  rw [bsF, if_pos (by omega), h, if_neg (by simp)]
  exact bsF_done _ 0
theorem there_one (e : Entry) : there [e] e.key = true := by
  unfold there
  rw [place_one]
  simp [cmpK_self]
theorem atE_one (e : Entry) : atE [e] e.key = e := by
  unfold atE
  rw [there_one, place_one]
  rfl
theorem fine_one (e : Entry) (h : e.live.length ≤ 1000000 ∧ e.dead.length ≤ 1000000) : Fine [e] := ⟨by simp, fun x hx => by
  rw [List.mem_singleton] at hx; subst hx; exact h⟩
abbrev kK : ByteArray := ⟨#[107]⟩
def wkA : Entry := ⟨kK, [(1, 1)], []⟩
def wkB : Entry := ⟨kK, [], [(2, 1)]⟩
def wkC : Entry := ⟨kK, [(1, 2)], [(2, 1)]⟩
theorem wkA_ok : (setOk [wkA] && keyOk kK && mayD (2, 1) && clockOk []) = true := by kernel_rfl
theorem wkB_ok : (setOk [wkB] && keyOk kK && mayD (1, 2) && clockOk [1, 1]) = true := by kernel_rfl
theorem wk_drop : dropE [wkA] kK (2, 1) [] = [wkB] := by
  have h1 : place [wkA] kK = 0 := place_one wkA
  have h2 : atE [wkA] kK = wkA := atE_one wkA
  rw [dropE, h1, h2]
  have : leftD wkA.dead [] ++ [(2, 1)] = [(2, 1)] := rfl
  rw [this, ordP_one]
  rfl
theorem wk_add : addE [wkB] kK (1, 2) [1, 1] = [wkC] := by
  have h1 : place [wkB] kK = 0 := place_one wkB
  have h2 : atE [wkB] kK = wkB := atE_one wkB
  have h3 : leftD wkB.dead [1, 1] = [] := by kernel_rfl
  rw [addE, h1, h2, h3, if_neg (by simp)]
  have : leftD wkB.live [1, 1] ++ [(1, 2)] = [(1, 2)] := rfl
  rw [this, ordP_one]
  rfl

set_option maxRecDepth 8000 in
set_option maxHeartbeats 4000000 in
theorem c_law09_awake : Pure Try.prog 12 [] (.b true) := by
  have eA : entsAV [wkA] = [entC wkA] := rfl
  have gD := c_rwset_DropT [wkA] kK (2, 1) [] (fine_one _ (by decide)) (by simp) wkA_ok (there_one wkA) (by rw [show atE [wkA] kK = wkA from atE_one wkA]; decide)
  have gA := c_rwset_AddT [wkB] kK (1, 2) [1, 1] (fine_one _ (by decide)) (by simp) wkB_ok (there_one wkB) (by rw [show atE [wkB] kK = wkB from atE_one wkB]; decide)
  have hA := c_rwset_Has [wkA] kK (fine_one _ (by decide))
  have hB := c_rwset_Has [wkB] kK (fine_one _ (by decide))
  have hC := c_rwset_Has [wkC] kK (fine_one _ (by decide))
  rw [wk_drop] at gD
  rw [wk_add] at gA
  rw [show atE [wkA] kK = wkA from atE_one wkA] at hA
  rw [show atE [wkB] kK = wkB from atE_one wkB] at hB
  rw [show atE [wkC] kK = wkC from atE_one wkC] at hC
  rw [show (setOk [wkA] && decide ((0 : Int) < wkA.live.length)) = true by kernel_rfl] at hA
  rw [show (setOk [wkB] && decide ((0 : Int) < wkB.live.length)) = false by kernel_rfl] at hB
  rw [show (setOk [wkC] && decide ((0 : Int) < wkC.live.length)) = true by kernel_rfl] at hC
  refine proc_of (cx Try.prog 48 [0, 1, 2, 3, 4, 5, 6] [0]) 48 [.tmp 0] Try.func12 rfl rfl rfl rfl rfl rfl (Nat.le_refl _) rfl ?_
  refine AWp.go [] [] fun K hK => ?_
  simp
  first | refine hK _ _ ?_ | refine ⟨by omega, hK _ _ ?_⟩ | refine ⟨by omega, by omega, hK _ _ ?_⟩
  clear hK K
  refine AWp.go [1, 2] [] fun K hK => ?_
  simp
  refine call_procK [] none (c_rwset_AddN kK (1, 1) (by kernel_rfl) (by kernel_rfl)) (by simp [dotC]) (by simp) ?_
  simp
  first | refine hK _ _ ?_ | refine ⟨by omega, hK _ _ ?_⟩ | refine ⟨by omega, by omega, hK _ _ ?_⟩
  clear hK K
  have e1 : [entC { key := kK, live := [(1, 1)], dead := [] }] = entsAV [wkA] := rfl
  rw [e1]
  refine AWp.frz [1] ?_
  simp
  refine AWp.go [1, 2, 3, 4] [] fun K hK => ?_
  simp
  refine call_pure gD (by simp [dotC, intsAV]) ?_
  simp
  first | refine hK _ _ ?_ | refine ⟨by omega, hK _ _ ?_⟩ | refine ⟨by omega, by omega, hK _ _ ?_⟩
  clear hK K
  refine AWp.frz [3] ?_
  simp
  refine AWp.go [1, 2, 3, 4, 5, 6] [] fun K hK => ?_
  simp
  refine call_pure gA (by simp [dotC, intsAV]) ?_
  simp
  first | refine hK _ _ ?_ | refine ⟨by omega, hK _ _ ?_⟩ | refine ⟨by omega, by omega, hK _ _ ?_⟩
  clear hK K
  refine AWp.frz [5] ?_
  simp
  refine AWp.step [0] [] [(0, .b true)] [] ?_ ?_
  · simp
    refine call_pure hA (by simp) ?_
    simp
    refine call_pure hB (by simp) ?_
    simp
    refine call_pure hC (by simp) ?_
    simp
  refine AWp.ret ?_
  simp
end Go.AM
namespace Go.AM
def KL (a b : ByteArray) : Prop := a.toList < b.toList
theorem ltK_iff (a b : ByteArray) : ltK a b = true ↔ KL a b := by
  unfold ltK KL
  rw [Go.Proofs.bytesLess_eq]
  simp
theorem eqK_iff (a b : ByteArray) : eqK a b = true ↔ a.toList = b.toList := by simp [eqK]
theorem KL.irrefl (a : ByteArray) : ¬ KL a a := List.lt_irrefl _
theorem KL.trans {a b c : ByteArray} (h1 : KL a b) (h2 : KL b c) : KL a c := List.lt_trans h1 h2
theorem KL.ne {a b : ByteArray} (h : KL a b) : eqK a b = false := by
  rw [Bool.eq_false_iff]
  intro e
  rw [eqK_iff] at e
  unfold KL at h
  rw [e] at h
  exact List.lt_irrefl _ h
theorem KL.of_leK {a b : ByteArray} (h : leK a b = false) : KL b a := by
  simp only [leK, Bool.or_eq_false_iff] at h
  have h1 : ¬ KL a b := fun h' => by rw [(ltK_iff a b).2 h'] at h; cases h.1
  have h2 : ¬ a.toList = b.toList := fun h' => by rw [(eqK_iff a b).2 h'] at h; cases h.2
  refine Classical.byContradiction fun h3 => h2 ?_
  exact List.le_antisymm (List.not_lt.1 h3) (List.not_lt.1 h1)
abbrev SortE (s : List Entry) : Prop := s.Pairwise fun a b => KL a.key b.key
theorem SortE.of_adj {l : List Entry} (h : ∀ i (hi : i + 1 < l.length), KL (l[i]'(by omega)).key l[i + 1].key) : SortE l := by
  induction l with
  | nil => exact List.Pairwise.nil
  | cons a l ih =>
    have hl : SortE l := ih fun i hi => h (i + 1) (by simpa using hi)
    refine List.Pairwise.cons (fun b hb => ?_) hl
    match l, hl, hb, h with
    | c :: m, hl, hb, h =>
      have h0 : KL a.key c.key := h 0 (by simp)
      rcases List.mem_cons.1 hb with rfl | hb
      · exact h0
      · exact h0.trans (List.rel_of_pairwise_cons hl hb)
theorem setOk_entry {s : List Entry} (h : setOk s = true) (i : Nat) (hi : i < s.length) : entOk (prevK s i) s[i] = true := by
  simp only [setOk, Bool.and_eq_true] at h
  have := List.all_eq_true.1 h.2 i (by simpa using hi)
  simpa [entAt, hi] using this
theorem setOk_sort {s : List Entry} (h : setOk s = true) : SortE s := by
  refine SortE.of_adj fun i hi => ?_
  have := setOk_entry h (i + 1) hi
  rw [prevK_succ s i (by omega)] at this
  simp only [entOk, Bool.and_eq_true, Bool.not_eq_true'] at this
  exact KL.of_leK this.1.1.1.2
theorem sameE_refl (e : Entry) : sameE e e = true := by simp [sameE, eqK]
theorem sameB_refl (s : List Entry) : sameB s s = true := by
  simp only [sameB, decide_true, Bool.true_and, List.all_eq_true]
  intro i hi
  have hi : i < s.length := by simpa using hi
  simp [hi, sameE_refl]
end Go.AM
namespace Go.AM
theorem cmpB_lt : ∀ a b : List UInt8, Lib.compareBytes a b < 0 ↔ a < b
  | [], [] => by simp [Lib.compareBytes]
  | [], b :: bs => by simp [Lib.compareBytes]
  | a :: l, [] => by simp [Lib.compareBytes]
  | a :: l, b :: m => by
    rw [Lib.compareBytes, List.cons_lt_cons_iff]
    by_cases h1 : a < b
    · simp [h1]
    · by_cases h2 : b < a
      · have h3 : ¬ a = b := by rintro rfl; exact h1 h2
        simp [h1, h2, h3]
      · have h3 : a = b := UInt8.le_antisymm (UInt8.not_lt.1 h2) (UInt8.not_lt.1 h1)
        subst h3
        simp [h1, cmpB_lt l m]
theorem cmpB_eq : ∀ a b : List UInt8, Lib.compareBytes a b = 0 ↔ a = b
  | [], [] => by simp [Lib.compareBytes]
  | [], b :: bs => by simp [Lib.compareBytes]
  | a :: l, [] => by simp [Lib.compareBytes]
  | a :: l, b :: m => by
    rw [Lib.compareBytes]
    by_cases h1 : a < b
    · have h3 : ¬ a = b := by rintro rfl; exact UInt8.lt_irrefl _ h1
      simp [h1, h3]
    · by_cases h2 : b < a
      · have h3 : ¬ a = b := by rintro rfl; exact h1 h2
        simp [h1, h2, h3]
      · have h3 : a = b := UInt8.le_antisymm (UInt8.not_lt.1 h2) (UInt8.not_lt.1 h1)
        subst h3
        simp [h1, cmpB_eq l m]
theorem bsF_spec (p : Nat → Bool) (n : Nat) (mono : ∀ i j, i ≤ j → j < n → p j = true → p i = true) (lo hi : Nat) : lo ≤ hi → hi ≤ n → (∀ i, i < lo → p i = true) → (∀ i, hi ≤ i → i < n → p i = false) →
    (∀ i, i < bsF p lo hi → p i = true) ∧ ∀ i, bsF p lo hi ≤ i → i < n → p i = false := by
  induction lo, hi using bsF.induct p with
  | case1 lo hi h1 h2 ih =>
    intro a1 a2 a3 a4
    rw [bsF, if_pos h1, if_pos h2]
    exact ih (by omega) a2 (fun i hi => mono i _ (by omega) (by omega) h2) a4
  | case2 lo hi h1 h2 ih =>
    intro a1 a2 a3 a4
    rw [bsF, if_pos h1, if_neg h2]
    refine ih (by omega) (by omega) a3 fun i hi hn => ?_
    rw [Bool.eq_false_iff]
    exact fun hp => h2 (mono _ i hi hn hp)
  | case3 lo hi h1 =>
    intro a1 a2 a3 a4
    rw [bsF, if_neg h1]
    have : lo = hi := by omega
    subst this
    exact ⟨a3, a4⟩
theorem toList_data (k : ByteArray) : k.data.toList = k.toList := (ByteArray.toList_eq k).symm
theorem cmpK_lt (a b : ByteArray) : cmpK a b < 0 ↔ KL a b := by rw [cmpK, toList_data, toList_data]; exact cmpB_lt _ _
theorem cmpK_eq (a b : ByteArray) : cmpK a b = 0 ↔ eqK a b = true := by rw [cmpK, toList_data, toList_data, eqK_iff]; exact cmpB_eq _ _
theorem less_at (s : List Entry) (k : ByteArray) (i : Nat) (h : i < s.length) : less s k i = true ↔ KL s[i].key k := by
  simp [less, h, cmpK_lt]
theorem place_spec {s : List Entry} (hs : SortE s) (k : ByteArray) : (∀ i (h : i < s.length), i < place s k → KL s[i].key k) ∧ ∀ i (h : i < s.length), place s k ≤ i → ¬ KL s[i].key k := by
  have := bsF_spec (less s k) s.length (fun i j hij hj hp => ?_) 0 s.length (Nat.zero_le _) (Nat.le_refl _) (fun i h => by omega) (fun i h1 h2 => by omega)
  · refine ⟨fun i h hp => (less_at s k i h).1 (this.1 i hp), fun i h hp hk => ?_⟩
    have := this.2 i hp h
    rw [(less_at s k i h).2 hk] at this
    cases this
  · rw [less_at s k i (by omega)]
    have h2 := (less_at s k j hj).1 hp
    rcases Nat.lt_or_ge i j with h | h
    · exact (List.pairwise_iff_getElem.1 hs i j (by omega) hj h).trans h2
    · obtain rfl : i = j := by omega
      exact h2
theorem atE_get {s : List Entry} (hs : SortE s) (k : ByteArray) : atE s k = getE s k := by
  obtain ⟨h1, h2⟩ := place_spec hs k
  unfold atE getE
  cases ht : there s k with
  | true =>
    have hlt := there_lt ht
    have he : eqK s[place s k].key k = true := by
      unfold there at ht
      rw [List.getElem?_eq_getElem hlt] at ht
      exact (cmpK_eq _ _).1 (by simpa using ht)
    rw [find_at (p := fun e => eqK e.key k) (place s k) hlt (fun j hj => (h1 j (by omega) hj).ne) he]
    simp [hlt]
  | false =>
    have : s.find? (fun e => eqK e.key k) = none := by
      rw [List.find?_eq_none]
      intro x hx hk
      obtain ⟨j, hj, rfl⟩ := List.mem_iff_getElem.1 hx
      rcases Nat.lt_or_ge j (place s k) with h | h
      · rw [(h1 j hj h).ne] at hk; cases hk
      · have hp : place s k < s.length := by omega
        rcases Nat.lt_or_ge (place s k) j with h' | h'
        · have h3 := List.pairwise_iff_getElem.1 hs _ _ hp hj h'
          have h4 : KL s[place s k].key k := by
            unfold KL at h3 ⊢
            rw [← (eqK_iff _ _).1 hk]; exact h3
          exact h2 _ hp (Nat.le_refl _) h4
        · have e : j = place s k := by omega
          subst e
          unfold there at ht
          rw [List.getElem?_eq_getElem hp] at ht
          simp [(cmpK_eq _ _).2 hk] at ht
    rw [this]; rfl
end Go.AM
namespace Go.AM
theorem ent_uniq {s : List Entry} (hs : SortE s) {k : ByteArray} {x z : Entry} (hx : x ∈ s) (hz : z ∈ s) (ex : eqK x.key k = true) (ez : eqK z.key k = true) : x = z := by
  obtain ⟨i, hi, rfl⟩ := List.mem_iff_getElem.1 hx
  obtain ⟨j, hj, rfl⟩ := List.mem_iff_getElem.1 hz
  have e : s[i].key.toList = s[j].key.toList := ((eqK_iff _ _).1 ex).trans ((eqK_iff _ _).1 ez).symm
  rcases Nat.lt_trichotomy i j with h | h | h
  · have := List.pairwise_iff_getElem.1 hs i j hi hj h
    unfold KL at this; rw [e] at this
    exact absurd this (List.lt_irrefl _)
  · subst h; rfl
  · have := List.pairwise_iff_getElem.1 hs j i hj hi h
    unfold KL at this; rw [e] at this
    exact absurd this (List.lt_irrefl _)
theorem getE_cases (s : List Entry) (k : ByteArray) : (∃ x ∈ s, eqK x.key k = true ∧ getE s k = x) ∨ ((∀ x ∈ s, eqK x.key k = false) ∧ getE s k = emptyE k) := by
  unfold getE
  cases h : s.find? fun e => eqK e.key k with
  | none =>
    right
    refine ⟨fun x hx => ?_, rfl⟩
    have := List.find?_eq_none.1 h x hx
    simpa using this
  | some x =>
    left
    exact ⟨x, List.mem_of_find?_eq_some h, by simpa using List.find?_some h, rfl⟩
end Go.AM
namespace Go.AM
open Go.Proofs
@[simp] theorem keysAV_getElem (l : List Entry) (i : Nat) (h : i < (keysAV l).length) : (keysAV l)[i] = [.s (l[i]'(by simpa using h)).key] := by simp [keysAV]

end Go.AM
namespace Go.AM

/-- Rows of data, all of one length. -/
def Rows (k : Nat) (R : List (List AV)) : Prop := ∀ r ∈ R, r.length = k ∧ Calm r ∧ allDat r = true

def boxF (R : List (List AV)) (pad : List AV) : List AV := R.flatten ++ pad
theorem Rows.nil {k} : Rows k [] := fun _ h => by simp at h
theorem Rows.append {k R1 R2} (h1 : Rows k R1) (h2 : Rows k R2) : Rows k (R1 ++ R2) := fun r h => by
  rcases List.mem_append.1 h with h | h
  · exact h1 r h
  · exact h2 r h
theorem Rows.cons {k r R} (h1 : Rows k [r]) (h2 : Rows k R) : Rows k (r :: R) := Rows.append (R1 := [r]) h1 h2
theorem Rows.take {k R} (h : Rows k R) (n : Nat) : Rows k (R.take n) := fun r hr => h r (List.mem_of_mem_take hr)
theorem Rows.drop {k R} (h : Rows k R) (n : Nat) : Rows k (R.drop n) := fun r hr => h r (List.mem_of_mem_drop hr)
theorem Rows.rep {k r} (h : Rows k [r]) (n : Nat) : Rows k (List.replicate n r) := fun x hx => by rw [List.eq_of_mem_replicate hx]; exact h r (by simp)

section
variable {k : Nat} {R Y : List (List AV)} {pad : List AV}
theorem Rows.flat (h : Rows k R) : R.flatten.length = R.length * k := flatten_length fun x hx => (h x hx).1
theorem boxF_len (h : Rows k R) (pad : List AV) : (boxF R pad).length = R.length * k + pad.length := by
  unfold boxF; rw [List.length_append, h.flat]
theorem boxF_calm (h : Rows k R) (hp : Calm pad) : Calm (boxF R pad) := by
  refine Calm.append (fun c hc => ?_) hp
  obtain ⟨y, hy, hc⟩ := List.mem_flatten.1 hc
  exact (h y hy).2.1 c hc
theorem take_flat (h : Rows k R) (j : Nat) (hj : j ≤ R.length) : R.flatten.take (j * k) = (R.take j).flatten := by
  have e : R.flatten = (R.take j).flatten ++ (R.drop j).flatten := by rw [← List.flatten_append, List.take_append_drop]
  rw [e, List.take_left' (by rw [(h.take j).flat, List.length_take, Nat.min_eq_left hj])]
theorem drop_flat (h : Rows k R) (j : Nat) (hj : j ≤ R.length) : R.flatten.drop (j * k) = (R.drop j).flatten := by
  have e : R.flatten = (R.take j).flatten ++ (R.drop j).flatten := by rw [← List.flatten_append, List.take_append_drop]
  rw [e, List.drop_left' (by rw [(h.take j).flat, List.length_take, Nat.min_eq_left hj])]
theorem mul_le (h : Rows k R) {j : Nat} (hj : j ≤ R.length) : j * k ≤ R.flatten.length := by rw [h.flat]; exact Nat.mul_le_mul_right _ hj
theorem boxF_take (h : Rows k R) (pad : List AV) (j : Nat) (hj : j ≤ R.length) : (boxF R pad).take (j * k) = (R.take j).flatten := by
  unfold boxF
  rw [List.take_append_of_le_length (mul_le h hj), take_flat h j hj]
theorem boxF_drop (h : Rows k R) (pad : List AV) (j : Nat) (hj : j ≤ R.length) : (boxF R pad).drop (j * k) = boxF (R.drop j) pad := by
  unfold boxF
  rw [List.drop_append_of_le_length (mul_le h hj), drop_flat h j hj]
theorem chunk_flat (h : Rows k R) (X : List AV) : chunk k R.length (R.flatten ++ X) = R := by
  induction R with
  | nil => rfl
  | cons r R ih =>
    have hr := (h r (by simp)).1
    have hR : Rows k R := fun x hx => h x (by simp [hx])
    show (r ++ R.flatten ++ X).take k :: chunk k R.length ((r ++ R.flatten ++ X).drop k) = _
    rw [List.append_assoc, List.take_left' hr, List.drop_left' hr, ih hR]
theorem boxF_chunk (h : Rows k R) (pad : List AV) (j m : Nat) (hj : j + m ≤ R.length) : chunk k m ((boxF R pad).drop (j * k)) = (R.drop j).take m := by
  rw [boxF_drop h pad j (by omega)]
  have e : R.drop j = (R.drop j).take m ++ (R.drop j).drop m := (List.take_append_drop _ _).symm
  have hl : ((R.drop j).take m).length = m := by rw [List.length_take, List.length_drop]; omega
  unfold boxF
  conv => lhs; rw [e, List.flatten_append, List.append_assoc]
  have := chunk_flat ((h.drop j).take m) (((R.drop j).drop m).flatten ++ pad)
  rw [hl] at this
  exact this
theorem boxF_dat (h : Rows k R) (pad : List AV) (j m : Nat) (hj : j + m ≤ R.length) : allDat (((boxF R pad).drop (j * k)).take (m * k)) = true := by
  unfold allDat
  rw [boxF_drop h pad j (by omega), boxF_take (h.drop j) pad m (by rw [List.length_drop]; omega), List.all_eq_true]
  intro c hc
  obtain ⟨y, hy, hc⟩ := List.mem_flatten.1 hc
  have := (h y (List.mem_of_mem_drop (List.mem_of_mem_take hy))).2.2
  unfold allDat at this
  rw [List.all_eq_true] at this
  exact this c hc
/-- Rows written over rows. -/
theorem boxF_put (h : Rows k R) (pad : List AV) (j : Nat) (hj : j + Y.length ≤ R.length) :
    (boxF R pad).take (j * k) ++ (Y.flatten ++ (boxF R pad).drop (j * k + Y.length * k)) = boxF (R.take j ++ Y ++ R.drop (j + Y.length)) pad := by
  rw [boxF_take h pad j (by omega), ← Nat.add_mul, boxF_drop h pad _ hj]
  unfold boxF
  simp [List.flatten_append]
/-- The room behind takes a row. -/
theorem boxF_grow (h : Rows k R) (pad : List AV) :
    (boxF R pad).take (R.length * k) ++ (Y.flatten ++ (boxF R pad).drop (R.length * k + Y.length * k)) = boxF (R ++ Y) (pad.drop (Y.length * k)) := by
  unfold boxF
  rw [← h.flat, List.take_left, List.drop_append, Nat.add_sub_cancel_left, List.drop_eq_nil_of_le (by omega), List.flatten_append]
  simp
theorem boxF_shift (h : Rows k R) (pad : List AV) (i : Nat) (hi : i < R.length) :
    (boxF R pad).take ((i + 1) * k) ++ ((R.drop i).flatten ++ (boxF R pad).drop ((i + 1) * k + (R.drop i).length * k)) = boxF (R.take (i + 1) ++ R.drop i) (pad.drop k) := by
  rw [boxF_take h pad (i + 1) (by omega), List.length_drop, ← Nat.add_mul, show i + 1 + (R.length - i) = R.length + 1 by omega, Nat.add_mul, Nat.one_mul]
  unfold boxF
  have e : R.flatten.drop (R.flatten.length + k) = [] := List.drop_eq_nil_of_le (by omega)
  rw [← h.flat, List.drop_append, Nat.add_sub_cancel_left, e, List.flatten_append]
  simp
theorem sum_len (h : Rows k R) : (R.map List.length).sum = R.length * k := by
  rw [← List.length_flatten, h.flat]
theorem boxF_chunk_all (h : Rows k R) (pad : List AV) (j : Nat) (hj : j ≤ R.length) : chunk k (R.length - j) ((boxF R pad).drop (j * k)) = R.drop j := by
  rw [boxF_chunk h pad j _ (by omega), List.take_of_length_le (by simp)]
end
end Go.AM
