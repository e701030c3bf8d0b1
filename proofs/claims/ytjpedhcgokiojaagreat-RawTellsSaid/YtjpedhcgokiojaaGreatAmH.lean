/- Raws: bounds; the law's example. -/
import Derived.Test.YtjpedhcgokiojaaGreatAmG
import Derived.Test.YtjpedhcgokiojaaGreatAmE
import Derived.Test.YtjpedhcgokiojaaGreatAmD
import Derived.ChangeArms
import Derived.ChangeOld
import Derived.OpenShut
import Derived.ChangeShapes
import Derived.Below
import Derived.SizedLaws
import Derived.Carry
import Derived.WideShapes
set_option linter.unusedSimpArgs false
set_option linter.unusedVariables false
namespace Go.AM
open Go.Proofs
set_option maxRecDepth 8000 in
theorem c_ref02_Bytes (us vs : List Int) (hlen : us.length ≤ 140737488355328) : Pure Tryz.prog 27 [.sl .fro 1 (bytesAV us), .sl .fro 1 (bytesAV vs)] (.b (decide (us = vs))) := by
 refine proc_of (cx Tryz.prog 26 [0, 1, 4, 5, 10, 14, 25] [4]) 24 [.tmp 4] Tryz.func27 rfl rfl rfl rfl rfl rfl (Nat.le_refl _) rfl ?_
 refine AWp.g [0, 1] [] ?_
 simp
 refine AWp.seq ?_
 refine AWp.g [0, 1, 10] [] ?_
 simp
 by_cases hl : us.length = vs.length
 ·refine AWp.cF (by simp [hl]) ?_
  refine AWp.skip ?_
  show AWp _ _ _ _
  refine AWp.seq ?_
  refine AWp.g [0, 1, 5] [] ?_
  simp
  refine AWp.block (AWp.while (fun i : Nat => [(0, .sl .fro 1 (bytesAV us)), (1, .sl .fro 1 (bytesAV vs)), (5, .i .i64 i)]) (fun i => []) (fun i => i ≤ us.length ∧ us.take i = vs.take i) (fun i => us.length - i) [0, 1, 5] [] 0 (by simp) (by simp) ?_)
  intro i hi
  have hiv : i < us.length → i < vs.length := fun h => by omega
  refine AWp.seq ?_
  refine AWp.g [0, 1, 5, 14] [] ?_
  simp
  by_cases h : i < us.length
  ·refine AWp.cT (by simp [h]) ?_
   refine AWp.skip ?_
   show AWp _ _ _ _
   refine AWp.seq ?_
   refine AWp.block ?_
   refine AWp.goD 9 (fun _ => .any) [0, 1, 5, 25] [] mix (by kernel_rfl) fun K hK => ?_
   simp [h, hiv h]
   refine hK _ _ ?_
   clear hK K
   by_cases he : us[i] = vs[i]'(hiv h)
   ·refine AWp.cF (by simp [he]) ?_
    refine AWp.skip ?_
    show AWp _ _ _ _
    refine AWp.gL [0, 1, 5] [] ?_
    simp
    refine ⟨i + 1, ⟨by omega, ?_⟩, by omega, ?_⟩
    ·rw [List.take_succ_eq_append_getElem h, List.take_succ_eq_append_getElem (hiv h), hi.2, he]
    ·simp
     exact wrap64 (by omega) (by omega)
   ·refine AWp.cT (by simp [he]) ?_
    refine AWp.g [4] [] ?_
    simp
    refine AWp.ret ?_
    simp
    intro hh; subst hh; exact he rfl
  ·refine AWp.cF (by simp [h]) ?_
   refine AWp.exit ?_
   show AWp _ _ _ _
   refine AWp.g [4] [] ?_
   simp
   refine AWp.ret ?_
   have hil : i = us.length := by omega
   have := hi.2
   rw [hil, List.take_length, hl, List.take_length] at this
   simp [this]
 ·refine AWp.cT (by simp [hl]; omega) ?_
  refine AWp.g [4] [] ?_
  simp
  refine AWp.ret ?_
  simp
  intro h; subst h; exact hl rfl
theorem tuTo_mem {α : Type} {f : α → α} {ks : List Bool} {L : List α} (hl : L.length = ks.length) {l : α} (h : l ∈ tuTo f ks L ks.length) : ∃ (i : Nat) (h1 : i < ks.length) (h2 : i < L.length), ks[i] = true ∧ l = f L[i] ∨ ks[i] = false ∧ l = L[i] := by
 obtain ⟨i, hi, rfl⟩ := List.mem_iff_getElem.1 h
 have h2 : i < L.length := by simpa using hi
 have h1 : i < ks.length := by omega
 refine ⟨i, h1, h2, ?_⟩
 cases hk : ks[i]
 ·right; simp [tuTo, h1, hk]
 ·left; simp [tuTo, h1, hk]
theorem plain_mem {s : List Entry} {e : Entry} (h : e ∈ plainE s) : ∃ x ∈ s, e = bare x := by
 unfold plainE at h
 split at h
 ·obtain ⟨h1, _⟩ := List.mem_filter.1 h
  obtain ⟨x, hx, rfl⟩ := List.mem_map.1 h1
  exact ⟨x, hx, rfl⟩
 ·cases h
theorem oneOk_live {s : List Entry} (h : setOk s = true) {e : Entry} (he : e ∈ s) : ∀ d ∈ e.live, mayD d = true := by
 have := ((setOk_iff s).1 h).2.2 e he
 simp only [oneOk, Bool.and_eq_true] at this
 have h3 : rowsB e.live = true := by
  first
   | exact this.1.2
   | exact this.2
   | exact this.1.1.2
   | exact this.2.1
 exact ((rowsB_iff _).1 h3).1
theorem plainR_sets {k : Kin} {w : Rw} (h : rawB k w = true) {l : List Entry} (hl : l ∈ (plainR k w).sets) : PlainS l ∧ ∃ s ∈ w.sets, l.length ≤ s.length ∧ ∀ e ∈ l, ∃ x ∈ s, e.key = x.key ∧ e.live = x.live ∧ (e.dead = [] ∨ e.dead = x.dead) := by
 have hB := h
 simp only [rawB, Bool.and_eq_true, List.all_eq_true] at hB
 obtain ⟨e1, -, -, -⟩ := lenOk_iff hB.1.1.1.2
 rw [plainR, if_pos h] at hl
 obtain ⟨i, h1, h2, hc⟩ := tuTo_mem e1 hl
 have hset := hB.1.1.2 i (by simpa using h1)
 simp only [setAtK, List.getElem?_eq_getElem h1, List.getElem?_eq_getElem h2, setK] at hset
 rcases hc with ⟨hk, rfl⟩ | ⟨hk, rfl⟩
 ·rw [hk, if_pos rfl] at hset
  refine ⟨fun e he => ?_, _, List.getElem_mem h2, plainE_len _, fun e he => ?_⟩
  ·obtain ⟨x, hx, rfl⟩ := plain_mem he
   exact ⟨rfl, fun d hd => oneOk_live hset hx d hd⟩
  ·obtain ⟨x, hx, rfl⟩ := plain_mem he
   exact ⟨x, hx, rfl, rfl, .inl rfl⟩
 ·rw [hk, if_neg (by simp)] at hset
  obtain ⟨g1, g2⟩ := (setOkA_iff _).1 hset
  exact ⟨fun e he => ⟨(g2 e he).2, oneOk_live g1 he⟩, _, List.getElem_mem h2, Nat.le_refl _, fun e he => ⟨e, he, rfl, rfl, .inr rfl⟩⟩
theorem plainR_rest {k : Kin} {w : Rw} (h : rawB k w = true) : (plainR k w).sets.length = w.sets.length ∧ (plainR k w).tals = w.tals ∧ (plainR k w).accs = w.accs ∧ (plainR k w).regs = w.regs := by
 rw [plainR, if_pos h]
 simp [turnR]
theorem plainR_fine {k : Kin} {w : Rw} (h : rawB k w = true) (hw : FineR w) : FineR (plainR k w) := by
 obtain ⟨e1, e2, e3, e4⟩ := plainR_rest h
 refine ⟨by rw [e1]; exact hw.s0, by rw [e2]; exact hw.t0, by rw [e3]; exact hw.a0, by rw [e4]; exact hw.n0, fun l hl => ?_, by rw [e2]; exact hw.t1, by rw [e3]; exact hw.a1, by rw [e4]; exact hw.n1⟩
 obtain ⟨-, s, hs, h1, h2⟩ := plainR_sets h hl
 obtain ⟨f1, f2⟩ := hw.s1 s hs
 refine ⟨by omega, fun e he => ?_⟩
 obtain ⟨x, hx, g1, g2, g3⟩ := h2 e he
 have := f2 x hx
 rw [g2]
 rcases g3 with g3 | g3 <;> rw [g3]
 ·simp; omega
 ·exact this
theorem rawB_rest {k : Kin} {w : Rw} (h : rawB k w = true) : (∀ l ∈ w.tals, talB l = true) ∧ (∀ l ∈ w.accs, accB l = true) ∧ ∀ l ∈ w.regs, ntsB l = true := by
 simp only [rawB, Bool.and_eq_true, List.all_eq_true] at h
 obtain ⟨-, e2, e3, -⟩ := lenOk_iff h.1.1.1.2
 have key : ∀ i (h1 : i < w.tals.length) (h2 : i < w.accs.length), talB w.tals[i] = true ∧ accB w.accs[i] = true := fun i h1 h2 => by
  have h3 : i < k.counts.length := by omega
  have := h.1.2 i (by simpa using h3)
  simp only [cntAtK, List.getElem?_eq_getElem h1, List.getElem?_eq_getElem h2, List.getElem?_eq_getElem h3, cntOk, Bool.and_eq_true] at this
  exact ⟨this.1.2, this.2⟩
 refine ⟨fun l hl => ?_, fun l hl => ?_, h.2⟩
 ·obtain ⟨i, hi, rfl⟩ := List.mem_iff_getElem.1 hl
  exact (key i hi (by omega)).1
 ·obtain ⟨i, hi, rfl⟩ := List.mem_iff_getElem.1 hl
  exact (key i (by omega) hi).2
theorem okL_mem {α : Type} {f : α → ByteArray} {ok : ByteArray → α → Bool} {l : List α} (h : okL f ok l = true) {x : α} (hx : x ∈ l) : ∃ p, ok p x = true := by
 simp only [okL, Bool.and_eq_true, List.all_eq_true] at h
 obtain ⟨i, hi, rfl⟩ := List.mem_iff_getElem.1 hx
 have := h.1 i (by simpa using hi)
 simp only [okAt, List.getElem?_eq_getElem hi] at this
 exact ⟨_, this⟩
theorem ntsB_mem {l : List Nt} (h : ntsB l = true) {x : Nt} (hx : x ∈ l) : oneN x = true := by
 simp only [ntsB, Bool.and_eq_true, List.all_eq_true] at h
 obtain ⟨i, hi, rfl⟩ := List.mem_iff_getElem.1 hx
 have := h.1 i (by simpa using hi)
 simp only [ntAt, List.getElem?_eq_getElem hi, Bool.and_eq_true] at this
 exact this.1
theorem oneN_pos {x : Nt} (h : oneN x = true) : (0 ≤ x.t ∧ x.t < 9223372036854775808) ∧ 0 ≤ x.rep ∧ x.rep < 9223372036854775808 := by
 simp only [oneN, Bool.and_eq_true, decide_eq_true_eq] at h
 omega
theorem plainR_good {k : Kin} {w : Rw} (h : rawB k w = true) : GoodR (plainR k w) := by
 obtain ⟨e1, e2, e3, e4⟩ := plainR_rest h
 obtain ⟨r1, r2, r3⟩ := rawB_rest h
 refine ⟨fun l hl e he => ((plainR_sets h hl).1 e he).2, ?_, ?_, ?_⟩
 ·rw [e2]
  intro l hl c hc
  obtain ⟨p, hp⟩ := okL_mem (r1 l hl) hc
  simp only [celOk, Bool.and_eq_true, Bool.not_eq_true', decide_eq_false_iff_not] at hp
  omega
 ·rw [e3]
  intro l hl x hx k hk
  obtain ⟨p, hp⟩ := okL_mem (r2 l hl) hx
  simp only [accOk, Bool.and_eq_true, List.all_eq_true] at hp
  have := hp.2 k (by simpa using hk)
  simp only [hvOk, Bool.and_eq_true, Bool.not_eq_true', decide_eq_false_iff_not] at this
  omega
 ·rw [e4]
  exact fun l hl x hx => oneN_pos (ntsB_mem (r3 l hl) hx)
theorem packL_le {l : List (List Int)} {n B : Nat} (hn : l.length ≤ n) (hB : ∀ x ∈ l, x.length ≤ B) (hn2 : n < 18446744073709551616) (hB2 : B < 18446744073709551616) : (packL l).length ≤ 9 + n * (9 + B) := by
 have key : ∀ l : List (List Int), (∀ x ∈ l, x.length ≤ B) → (l.flatMap textL).length ≤ l.length * (9 + B) := fun l => by
  induction l with
  | nil => simp
  | cons x l ih =>
   intro h
   have h1 := h x (by simp)
   have h2 := ih fun y hy => h y (by simp [hy])
   have h3 := numL_len (u := x.length) (by omega)
   have h4 : (textL x).length = (numL x.length).length + x.length := by simp [textL]
   rw [List.flatMap_cons, List.length_append, List.length_cons, Nat.add_mul]
   omega
 have h1 := key l hB
 have h2 := numL_len (u := l.length) (by omega)
 have h3 : l.length * (9 + B) ≤ n * (9 + B) := Nat.mul_le_mul_right _ hn
 unfold packL
 rw [List.length_append]
 omega
theorem keyL_len (k : ByteArray) : (keyL k).length = k.size := by simp [keyL]
theorem zigN_lt {n : Int} (h : -1152921504606846976 ≤ n ∧ n ≤ 1152921504606846976) : zigN n < 18446744073709551616 := by unfold zigN; split <;> omega
theorem rawL_small {k : Kin} {w : Rw} (h : rawB k w = true) (hw : lightR k w = true) : (rawL (plainR k w)).length ≤ 100000000000000 := by
 obtain ⟨e1, e2, e3, e4⟩ := plainR_rest h
 have hg := plainR_good h
 simp only [lightR, fewR, Bool.and_eq_true, Bool.not_eq_true', Bool.or_eq_false_iff, decide_eq_false_iff_not, List.all_eq_true] at hw
 obtain ⟨⟨⟨⟨⟨⟨⟨⟨⟨-, -⟩, b3⟩, b4⟩, b5⟩, b6⟩, hs⟩, ht⟩, ha⟩, hn⟩ := hw
 have hcount : (rawParts (plainR k w)).length ≤ 40 := by
  unfold rawParts
  simp only [List.length_append, List.length_map, e1, e2, e3, e4]
  omega
 have hk : ∀ {a : ByteArray}, ¬ (100 : Int) < a.size → (keyL a).length ≤ 100 := fun ha => by rw [keyL_len]; omega
 have n9 : ∀ {u : Nat}, u < 18446744073709551616 → (numL u).length ≤ 200 := fun hu => Nat.le_trans (numL_len hu) (by omega)
 have hpart : ∀ x ∈ rawParts (plainR k w), x.length ≤ 1000000 := by
  intro x hx
  unfold rawParts at hx
  simp only [List.mem_append, List.mem_map] at hx
  rcases hx with ⟨l, hl, rfl⟩ | ⟨l, hl, rfl⟩ | ⟨l, hl, rfl⟩ | ⟨l, hl, rfl⟩
  ·obtain ⟨-, s, hs1, hs2, hs3⟩ := plainR_sets h hl
   have hli := hs s hs1
   simp only [lightB, lightE, Bool.and_eq_true, decide_eq_true_eq, List.all_eq_true, Bool.not_eq_true', decide_eq_false_iff_not] at hli
   refine Nat.le_trans (packL_le (n := 30) (B := 20000) (by simp; omega) (fun y hy => ?_) (by omega) (by omega)) (by omega)
   obtain ⟨e, he, rfl⟩ := List.mem_map.1 hy
   obtain ⟨x, hx, g1, g2, -⟩ := hs3 e he
   have hxl := hli.1 x hx
   have hlen := entTo_len e e.live.length (Nat.le_refl _)
   rw [entTo_all] at hlen
   refine Nat.le_trans (packL_le (n := 61) (B := 200) (by rw [hlen, g2]; omega) (fun z hz => ?_) (by omega) (by omega)) (by omega)
   unfold enL at hz
   rcases List.mem_cons.1 hz with rfl | hz
   ·rw [g1]; exact Nat.le_trans (hk hxl.1.1) (by omega)
   ·obtain ⟨d, hd, hz⟩ := List.mem_flatMap.1 hz
    have hm := mayD_nat (hg.s l hl e he d hd)
    unfold dotL at hz
    rcases List.mem_cons.1 hz with rfl | hz
    ·exact n9 (by omega)
    ·rw [List.mem_singleton] at hz; subst hz; exact n9 (by omega)
  ·have hg2 := hg.t l hl
   rw [e2] at hl
   have hli := ht l hl
   simp only [lgtC, lightC, Bool.and_eq_true, decide_eq_true_eq, List.all_eq_true, Bool.not_eq_true', decide_eq_false_iff_not] at hli
   refine Nat.le_trans (packL_le (n := 60) (B := 10000) (by simp; omega) (fun y hy => ?_) (by omega) (by omega)) (by omega)
   obtain ⟨c, hc, rfl⟩ := List.mem_map.1 hy
   refine Nat.le_trans (packL_le (n := 2) (B := 200) (by simp [celL]) (fun z hz => ?_) (by omega) (by omega)) (by omega)
   simp only [celL, List.mem_cons, List.not_mem_nil, or_false] at hz
   rcases hz with rfl | rfl
   ·exact Nat.le_trans (hk (hli.1 c hc)) (by omega)
   ·exact n9 (zigN_lt (hg2 c hc))
  ·have hg2 := hg.a l hl
   rw [e3] at hl
   have hli := ha l hl
   simp only [lgtA, lightA, Bool.and_eq_true, decide_eq_true_eq, List.all_eq_true, Bool.not_eq_true', decide_eq_false_iff_not] at hli
   refine Nat.le_trans (packL_le (n := 60) (B := 10000) (by simp; omega) (fun y hy => ?_) (by omega) (by omega)) (by omega)
   obtain ⟨c, hc, rfl⟩ := List.mem_map.1 hy
   refine Nat.le_trans (packL_le (n := 6) (B := 200) (by simp [accTo]) (fun z hz => ?_) (by omega) (by omega)) (by omega)
   unfold accTo at hz
   rcases List.mem_cons.1 hz with rfl | hz
   ·exact Nat.le_trans (hk (hli.1 c hc)) (by omega)
   ·obtain ⟨j, hj, rfl⟩ := List.mem_map.1 hz
    exact n9 (zigN_lt (hg2 c hc j (by simpa using hj)))
  ·have hg2 := hg.n l hl
   rw [e4] at hl
   have hli := hn l hl
   simp only [lgtN, lightN, Bool.and_eq_true, decide_eq_true_eq, List.all_eq_true, Bool.not_eq_true', decide_eq_false_iff_not] at hli
   refine Nat.le_trans (packL_le (n := 60) (B := 10000) (by simp; omega) (fun y hy => ?_) (by omega) (by omega)) (by omega)
   obtain ⟨c, hc, rfl⟩ := List.mem_map.1 hy
   refine Nat.le_trans (packL_le (n := 4) (B := 200) (by simp [ntL]) (fun z hz => ?_) (by omega) (by omega)) (by omega)
   have g := hg2 c hc
   have hw := hli.1 c hc
   simp only [ntL, List.mem_cons, List.not_mem_nil, or_false] at hz
   rcases hz with rfl | rfl | rfl | rfl
   ·exact Nat.le_trans (hk hw.1) (by omega)
   ·exact n9 (by omega)
   ·exact n9 (by omega)
   ·rw [keyL_len]; omega
 exact Nat.le_trans (packL_le hcount hpart (by omega) (by omega)) (by omega)
def bytesR (k : Kin) (w : Rw) : List Int := if rawB k w then rawL (plainR k w) else []
theorem noR_fine : FineR noR := ⟨by simp [noR], by simp [noR], by simp [noR], by simp [noR], by simp [noR], by simp [noR], by simp [noR], by simp [noR]⟩
theorem c_raw_Bytes (k : Kin) (w : Rw) (hl : lightR k w = true) : Pure Tryz.prog 25 [.agg (kinC k), .agg (rwC w)] (.tup [.sl .own 1 (bytesAV (bytesR k w)), .i .i64 (if rawB k w then 0 else 1)]) := by
 obtain ⟨hk, hw⟩ := lightR_fine hl
 cases h : rawB k w
 ·have hp : plainR k w = noR := by rw [plainR, h]; rfl
  have := c_raw_Bytes0 k w noR hk hw hp noR_fine ⟨by simp [noR], by simp [noR], by simp [noR], by simp [noR]⟩ (by decide +kernel)
  rw [h] at this
  rw [bytesR, h]
  exact this
 ·have := c_raw_Bytes0 k w (plainR k w) hk hw rfl (plainR_fine h hw) (plainR_good h) (rawL_small h hl)
  rw [h] at this
  rw [bytesR, h]
  exact this
end Go.AM
namespace Go.AM
open Go.Proofs
def kin0 : Kin := ⟨[false], [], 0⟩
def raw0 : Rw := ⟨[[]], [], [], []⟩
def raw1 : Rw := ⟨[[wkA]], [], [], []⟩
def eff0 : Eff := ⟨1, 0, kK, 0, 0, ByteArray.empty⟩
def ev0 : Ev := ⟨(1, 1), [], [eff0]⟩
def stK : Step := fun i _ v => if i = 1 then (raw1, 0) else (v, 0)
def iK (i j : Nat) (v : Rw) : Prop := if i = 0 ∨ i = 1 ∧ j = 0 then v = raw0 else v = raw1
theorem fineK0 : FineK kin0 := ⟨by simp [kin0], by simp [kin0]⟩
theorem light0 : lightR kin0 raw0 = true := by kernel_rfl
theorem light1 : lightR kin0 raw1 = true := by kernel_rfl
theorem apply0 : applyG stK kin0 raw0 ev0 = (raw1, 0) := by kernel_rfl
theorem c_Apply0 : Pure Tryz.prog 14 [.agg (kinC kin0), .agg (rwC raw0), .agg (evC ev0)] (.tup [.agg (rwC raw1), .i .i64 0]) := by
 have h := c_raw_ApplyG kin0 raw0 ev0 fineK0 (lightR_fine light0).2 ⟨by simp [ev0], by simp [ev0]⟩ stK iK (fun _ _ => by simp [iK]) (fun _ _ i hi j hj v hv => by
  have hj0 : j = 0 := by have : j < 1 := hj; omega
  subst hj0
  show Proc Tryz.prog 1 (doF i) [.ptr 0 0, .agg (effC eff0)] _ _ _ ∧ _
  obtain rfl | rfl | rfl : i = 0 ∨ i = 1 ∨ i = 2 := by omega
  ·have hv0 : v = raw0 := by simpa [iK] using hv
   exact ⟨c_doer_drop0 kin0 v ev0 eff0 (by decide), fun _ => by simp [iK, stK, hv0]⟩
  ·have hv0 : v = raw0 := by simpa [iK] using hv
   subst hv0
   have ga : Proc Tryz.prog 1 52 [.ptr 0 0, .agg (effC eff0)] [(0, dC kin0 raw0 ev0)] (.i .i64 (errAw [] kK (1, 1) [])) [(0, dC kin0 (if errAw [] kK (1, 1) [] = 0 then setS raw0 0 (addAw [] kK (1, 1) []) else raw0) ev0)] :=
    c_doer_addA kin0 raw0 ev0 eff0 0 rfl rfl (by decide) (by decide) rfl fine_nil (by decide) (by decide) (by simp [atE, raw0, there_nil, emptyE])
   have e1 : errAw [] kK (1, 1) [] = 0 := by kernel_rfl
   have e2 : addAw [] kK (1, 1) [] = [wkA] := by
    unfold addAw
    rw [if_pos (by kernel_rfl)]
    exact aw_1
   rw [e1, e2, if_pos rfl] at ga
   exact ⟨ga, fun _ => by simp [iK, stK]⟩
  ·have hv0 : v = raw1 := by simpa [iK] using hv
   exact ⟨c_doer_other0 kin0 v ev0 eff0 (.inl rfl), fun _ => by simp [iK, stK, hv0]⟩) (fun i hi v hv => by
  obtain rfl | rfl | rfl : i = 0 ∨ i = 1 ∨ i = 2 := by omega
  ·have hv0 : v = raw0 := by simpa [iK] using hv
   simp [iK, hv0]
  ·have hv0 : v = raw1 := by simpa [iK, ev0] using hv
   simp [iK, hv0]
  ·have hv0 : v = raw1 := by simpa [iK] using hv
   simp [iK, hv0])
 rw [apply0] at h
 exact h
theorem numL_small {n : Nat} (h0 : 0 < n) (h1 : n < 256) : numL n = [1, (n : Int)] := by
 unfold numL
 rw [digsL_pos (by omega), Nat.div_eq_of_lt h1, digsL_zero, Nat.mod_eq_of_lt h1]
 rfl
theorem textL_small {l : List Int} (h0 : 0 < l.length) (h1 : l.length < 256) : (textL l).length = 2 + l.length := by
 unfold textL
 rw [numL_small h0 h1, List.length_append]; rfl
theorem pack1_len {x : List Int} (h0 : 0 < x.length) (h1 : x.length < 256) : (packL [x]).length = 4 + x.length := by
 unfold packL
 rw [List.flatMap_cons, List.flatMap_nil, List.append_nil, List.length_append, textL_small h0 h1, show ([x] : List (List Int)).length = 1 from rfl, numL_small (by omega) (by omega)]
 simp; omega
theorem bytes1 : (bytesR kin0 raw1).length = 21 := by
 have e : bytesR kin0 raw1 = packL [packL [packL [keyL kK, numL 1, numL 1]]] := by
  unfold bytesR
  rw [if_pos (by kernel_rfl), show plainR kin0 raw1 = raw1 by kernel_rfl]
  kernel_rfl
 have h3 : (packL [keyL kK, numL 1, numL 1]).length = 13 := by
  unfold packL
  rw [List.flatMap_cons, List.flatMap_cons, List.flatMap_cons, List.flatMap_nil, numL_small (n := 1) (by omega) (by omega)]
  have hk : (keyL kK).length = 1 := rfl
  simp only [List.length_append, List.length_nil, textL_small (l := keyL kK) (by omega) (by omega), textL_small (l := [1, ((1 : Nat) : Int)]) (by decide) (by decide), hk]
  rw [show ([keyL kK, [1, ((1 : Nat) : Int)], [1, ((1 : Nat) : Int)]] : List (List Int)).length = 3 from rfl, numL_small (by omega) (by omega)]
  rfl
 rw [e, pack1_len (by rw [pack1_len (by omega) (by omega)]; omega) (by rw [pack1_len (by omega) (by omega)]; omega), pack1_len (by omega) (by omega), h3]
set_option maxRecDepth 8000 in
set_option maxHeartbeats 4000000 in
theorem c_law13_awake : Pure Tryz.prog 9 [] (.b true) := by
 have gN := c_raw_New kin0 fineK0
 have gA := c_Apply0
 have gB := c_raw_Bytes kin0 raw1 light1
 have hb := bytes1
 rw [show okR kin0 = raw0 by kernel_rfl, show kindsB kin0 = true by kernel_rfl] at gN
 rw [show rawB kin0 raw1 = true by kernel_rfl] at gB
 generalize bytesR kin0 raw1 = B at gB hb
 simp only [if_true] at gN gB
 simp [kinC, kin0, rwC, raw0, raw1, evC, ev0, eff0, boolsAV, flrsAV, rrE, rrC, rrA, rrN, entsAV, intsAV, effsAV, effC] at gN gA gB
 refine proc_of (cx Tryz.prog 60 [0, 1, 2, 3, 4, 5, 6, 7] [0]) 60 [.tmp 0] Tryz.func9 rfl rfl rfl rfl rfl rfl (Nat.le_refl _) rfl ?_
 refine AWp.g [] [] ?_
 simp
 refine AWp.g [1] [1] ?_
 simp
 refine AWp.g [1, 2, 3] [1, 2] ?_
 simp
 refine call_pure gN (by simp) ?_
 simp
 refine AWp.g [1, 3, 4, 5] [1, 4] ?_
 simp
 refine call_pure gA (by simp [kK]) ?_
 simp
 refine AWp.g [3, 4, 5, 6, 7] [4] ?_
 simp
 refine call_pure gB (by simp) ?_
 simp
 refine AWp.step [0] [] [(0, .b true)] [] ?_ ?_
 ·simp [hb]
 refine AWp.ret ?_
 simp
end Go.AM
namespace Go.AM
open Go.Proofs
end Go.AM
namespace Go.AM
open Go.Proofs
set_option maxRecDepth 8000 in
set_option maxHeartbeats 2000000 in
theorem c_Equal_Cel (a b : List Cel) (ha : a.length ≤ 100000) : Pure Tryz.prog 168 [.sl .fro 2 (celsAV a), .sl .fro 2 (celsAV b)] (.b (sameK a b)) := by
 refine proc_of (cx Tryz.prog 26 [0, 1, 4, 5, 10, 12, 13, 14, 24] [4]) 24 [.tmp 4] Tryz.func168 rfl rfl rfl rfl rfl rfl (Nat.le_refl _) rfl ?_
 refine AWp.g [0, 1] [] ?_
 simp
 refine AWp.seq ?_
 refine AWp.g [0, 1, 10] [] ?_
 simp
 by_cases q0 : (a.length : Int) = b.length
 ·refine AWp.cF (by simp [q0]) ?_
  refine AWp.skip ?_
  show AWp _ _ _ _
  refine AWp.seq ?_
  refine AWp.g [0, 1, 12, 13] [] ?_
  simp
  refine AWp.block (AWp.while (fun i : Nat => [(0, .sl .fro 2 (celsAV a)), (1, .sl .fro 2 (celsAV b)), (12, .i .i64 a.length), (13, .i .i64 i)]) (fun i => []) (fun i => i ≤ a.length ∧ ∀ k, k < i → sameAt a b k = true) (fun i => a.length - i) [0, 1, 12, 13] [] 0 (by simp) (by simp) ?_)
  rintro i ⟨hi, hall⟩
  refine AWp.g [0, 1, 12, 13, 14] [] ?_
  simp
  refine AWp.seq ?_
  by_cases h : i < a.length
  ·refine AWp.cT (by simp [h]) ?_
   refine AWp.skip ?_
   show AWp _ _ _ _
   refine AWp.seq ?_
   refine AWp.block ?_
   refine AWp.g [0, 1, 5, 12, 13] [] ?_
   simp
   have h' : i < b.length := by omega
   refine AWp.stepD 9 (fun _ => .any) [0, 1, 12, 13, 24] [] [(0, .sl .fro 2 (celsAV a)), (1, .sl .fro 2 (celsAV b)), (12, .i .i64 a.length), (13, .i .i64 i), (24, .b (!sameAt a b i))] [] mix (by kernel_rfl) ?_ ?_
   ·simp [h, h', sameAt, celEq, eqK, Bool.and_assoc]
   cases hp : sameAt a b i
   ·refine AWp.cT (by simp) ?_
    refine AWp.g [4] [] ?_
    simp
    refine AWp.ret ?_
    simp [sameK, range_not h hp]
   ·refine AWp.cF (by simp) ?_
    refine AWp.skip ?_
    show AWp _ _ _ _
    refine AWp.gL [0, 1, 12, 13] [] ?_
    simp
    refine ⟨i + 1, ⟨by omega, fun k hk => ?_⟩, by omega, ?_⟩
    ·by_cases hki : k = i
     ·subst hki; exact hp
     ·exact hall k (by omega)
    ·simp
     exact wrap64 (by omega) (by omega)
  ·refine AWp.cF (by simp [h]) ?_
   refine AWp.exit ?_
   show AWp _ _ _ _
   refine AWp.g [4] [] ?_
   simp
   refine AWp.ret ?_
   simp [sameK, q0, range_all (fun k (hk : k < a.length) => hall k (by omega))]
 ·refine AWp.cT (by simp [q0]) ?_
  refine AWp.g [4] [] ?_
  simp
  refine AWp.ret ?_
  simp [sameK, q0]
set_option maxRecDepth 8000 in
set_option maxHeartbeats 2000000 in
theorem c_Equal_Acc (a b : List Acc) (ha : a.length ≤ 100000) : Pure Tryz.prog 169 [.sl .fro 6 (acsAV a), .sl .fro 6 (acsAV b)] (.b (sameA a b)) := by
 refine proc_of (cx Tryz.prog 26 [0, 1, 4, 5, 10, 12, 13, 14, 24] [4]) 24 [.tmp 4] Tryz.func169 rfl rfl rfl rfl rfl rfl (Nat.le_refl _) rfl ?_
 refine AWp.g [0, 1] [] ?_
 simp
 refine AWp.seq ?_
 refine AWp.g [0, 1, 10] [] ?_
 simp
 by_cases q0 : (a.length : Int) = b.length
 ·refine AWp.cF (by simp [q0]) ?_
  refine AWp.skip ?_
  show AWp _ _ _ _
  refine AWp.seq ?_
  refine AWp.g [0, 1, 12, 13] [] ?_
  simp
  refine AWp.block (AWp.while (fun i : Nat => [(0, .sl .fro 6 (acsAV a)), (1, .sl .fro 6 (acsAV b)), (12, .i .i64 a.length), (13, .i .i64 i)]) (fun i => []) (fun i => i ≤ a.length ∧ ∀ k, k < i → sameAAt a b k = true) (fun i => a.length - i) [0, 1, 12, 13] [] 0 (by simp) (by simp) ?_)
  rintro i ⟨hi, hall⟩
  refine AWp.g [0, 1, 12, 13, 14] [] ?_
  simp
  refine AWp.seq ?_
  by_cases h : i < a.length
  ·refine AWp.cT (by simp [h]) ?_
   refine AWp.skip ?_
   show AWp _ _ _ _
   refine AWp.seq ?_
   refine AWp.block ?_
   refine AWp.g [0, 1, 5, 12, 13] [] ?_
   simp
   have h' : i < b.length := by omega
   refine AWp.stepD 9 (fun _ => .any) [0, 1, 12, 13, 24] [] [(0, .sl .fro 6 (acsAV a)), (1, .sl .fro 6 (acsAV b)), (12, .i .i64 a.length), (13, .i .i64 i), (24, .b (!sameAAt a b i))] [] mix (by kernel_rfl) ?_ ?_
   ·simp [h, h', sameAAt, acEq, acC, eqK, Bool.and_assoc]
   cases hp : sameAAt a b i
   ·refine AWp.cT (by simp) ?_
    refine AWp.g [4] [] ?_
    simp
    refine AWp.ret ?_
    simp [sameA, range_not h hp]
   ·refine AWp.cF (by simp) ?_
    refine AWp.skip ?_
    show AWp _ _ _ _
    refine AWp.gL [0, 1, 12, 13] [] ?_
    simp
    refine ⟨i + 1, ⟨by omega, fun k hk => ?_⟩, by omega, ?_⟩
    ·by_cases hki : k = i
     ·subst hki; exact hp
     ·exact hall k (by omega)
    ·simp
     exact wrap64 (by omega) (by omega)
  ·refine AWp.cF (by simp [h]) ?_
   refine AWp.exit ?_
   show AWp _ _ _ _
   refine AWp.g [4] [] ?_
   simp
   refine AWp.ret ?_
   simp [sameA, q0, range_all (fun k (hk : k < a.length) => hall k (by omega))]
 ·refine AWp.cT (by simp [q0]) ?_
  refine AWp.g [4] [] ?_
  simp
  refine AWp.ret ?_
  simp [sameA, q0]
set_option maxRecDepth 8000 in
set_option maxHeartbeats 2000000 in
theorem c_Equal_Nt (a b : List Nt) (ha : a.length ≤ 100000) : Pure Tryz.prog 170 [.sl .fro 4 (ntsAV a), .sl .fro 4 (ntsAV b)] (.b (sameN a b)) := by
 refine proc_of (cx Tryz.prog 26 [0, 1, 4, 5, 10, 12, 13, 14, 24] [4]) 24 [.tmp 4] Tryz.func170 rfl rfl rfl rfl rfl rfl (Nat.le_refl _) rfl ?_
 refine AWp.g [0, 1] [] ?_
 simp
 refine AWp.seq ?_
 refine AWp.g [0, 1, 10] [] ?_
 simp
 by_cases q0 : (a.length : Int) = b.length
 ·refine AWp.cF (by simp [q0]) ?_
  refine AWp.skip ?_
  show AWp _ _ _ _
  refine AWp.seq ?_
  refine AWp.g [0, 1, 12, 13] [] ?_
  simp
  refine AWp.block (AWp.while (fun i : Nat => [(0, .sl .fro 4 (ntsAV a)), (1, .sl .fro 4 (ntsAV b)), (12, .i .i64 a.length), (13, .i .i64 i)]) (fun i => []) (fun i => i ≤ a.length ∧ ∀ k, k < i → sameNAt a b k = true) (fun i => a.length - i) [0, 1, 12, 13] [] 0 (by simp) (by simp) ?_)
  rintro i ⟨hi, hall⟩
  refine AWp.g [0, 1, 12, 13, 14] [] ?_
  simp
  refine AWp.seq ?_
  by_cases h : i < a.length
  ·refine AWp.cT (by simp [h]) ?_
   refine AWp.skip ?_
   show AWp _ _ _ _
   refine AWp.seq ?_
   refine AWp.block ?_
   refine AWp.g [0, 1, 5, 12, 13] [] ?_
   simp
   have h' : i < b.length := by omega
   refine AWp.stepD 9 (fun _ => .any) [0, 1, 12, 13, 24] [] [(0, .sl .fro 4 (ntsAV a)), (1, .sl .fro 4 (ntsAV b)), (12, .i .i64 a.length), (13, .i .i64 i), (24, .b (!sameNAt a b i))] [] mix (by kernel_rfl) ?_ ?_
   ·simp [h, h', sameNAt, ntEq, eqK, Bool.and_assoc]
   cases hp : sameNAt a b i
   ·refine AWp.cT (by simp) ?_
    refine AWp.g [4] [] ?_
    simp
    refine AWp.ret ?_
    simp [sameN, range_not h hp]
   ·refine AWp.cF (by simp) ?_
    refine AWp.skip ?_
    show AWp _ _ _ _
    refine AWp.gL [0, 1, 12, 13] [] ?_
    simp
    refine ⟨i + 1, ⟨by omega, fun k hk => ?_⟩, by omega, ?_⟩
    ·by_cases hki : k = i
     ·subst hki; exact hp
     ·exact hall k (by omega)
    ·simp
     exact wrap64 (by omega) (by omega)
  ·refine AWp.cF (by simp [h]) ?_
   refine AWp.exit ?_
   show AWp _ _ _ _
   refine AWp.g [4] [] ?_
   simp
   refine AWp.ret ?_
   simp [sameN, q0, range_all (fun k (hk : k < a.length) => hall k (by omega))]
 ·refine AWp.cT (by simp [q0]) ?_
  refine AWp.g [4] [] ?_
  simp
  refine AWp.ret ?_
  simp [sameN, q0]
set_option maxRecDepth 8000 in
theorem c_tally_Same (a b : List Cel) (ha : a.length ≤ 100000) : Pure Tryz.prog 100 [.sl .fro 2 (celsAV a), .sl .fro 2 (celsAV b)] (.b (sameK a b)) := by
 refine proc_of (cx Tryz.prog 8 [0, 1, 4] [4]) 6 [.tmp 4] Tryz.func100 rfl rfl rfl rfl rfl rfl (Nat.le_refl _) rfl ?_
 refine AWp.g [0, 1] [] ?_
 simp
 refine AWp.g [4] [] ?_
 simp
 refine call_p (c_Equal_Cel a b ha) ?_
 simp
 refine AWp.ret ?_
 simp
set_option maxRecDepth 8000 in
theorem c_escrow_Same (a b : List Acc) (ha : a.length ≤ 100000) : Pure Tryz.prog 102 [.sl .fro 6 (acsAV a), .sl .fro 6 (acsAV b)] (.b (sameA a b)) := by
 refine proc_of (cx Tryz.prog 8 [0, 1, 4] [4]) 6 [.tmp 4] Tryz.func102 rfl rfl rfl rfl rfl rfl (Nat.le_refl _) rfl ?_
 refine AWp.g [0, 1] [] ?_
 simp
 refine AWp.g [4] [] ?_
 simp
 refine call_p (c_Equal_Acc a b ha) ?_
 simp
 refine AWp.ret ?_
 simp
set_option maxRecDepth 8000 in
theorem c_register_Same (a b : List Nt) (ha : a.length ≤ 100000) : Pure Tryz.prog 104 [.sl .fro 4 (ntsAV a), .sl .fro 4 (ntsAV b)] (.b (sameN a b)) := by
 refine proc_of (cx Tryz.prog 8 [0, 1, 4] [4]) 6 [.tmp 4] Tryz.func104 rfl rfl rfl rfl rfl rfl (Nat.le_refl _) rfl ?_
 refine AWp.g [0, 1] [] ?_
 simp
 refine AWp.g [4] [] ?_
 simp
 refine call_p (c_Equal_Nt a b ha) ?_
 simp
 refine AWp.ret ?_
 simp
def eqRs {α : Type} (f : List α → List α → Bool) (A B : List (List α)) : Bool := decide ((A.length : Int) = B.length) && eqAll f A B
set_option maxRecDepth 8000 in
set_option maxHeartbeats 2000000 in
theorem c_EqualFunc_E (A B : List (List Entry)) (g : Nat) (ha : A.length ≤ 100000) (hg : ∀ x ∈ A, ∀ y ∈ B, Pure Tryz.prog g [.sl .fro 3 (entsAV x), .sl .fro 3 (entsAV y)] (.b (sameB x y))) : Pure Tryz.prog 97 [.sl .fro 1 (rrE A), .sl .fro 1 (rrE B), .fn g [] []] (.b (eqRs sameB A B)) := by
 refine proc_of (cx Tryz.prog 32 [0, 1, 2, 6, 7, 8, 9, 14, 15, 16, 17, 18, 30] [6]) 29 [.tmp 6] Tryz.func97 rfl rfl rfl rfl rfl rfl (Nat.le_refl _) rfl ?_
 refine AWp.g [0, 1, 2] [] ?_
 simp
 refine AWp.seq ?_
 refine AWp.g [0, 1, 2, 14] [] ?_
 simp
 by_cases q0 : (A.length : Int) = B.length
 ·refine AWp.cF (by simp [q0]) ?_
  refine AWp.skip ?_
  show AWp _ _ _ _
  refine AWp.seq ?_
  refine AWp.g [1, 2, 15, 16, 17] [] ?_
  simp
  refine AWp.block (AWp.while (fun i : Nat => [(1, .sl .fro 1 (rrE B)), (2, .fn g [] []), (15, .sl .fro 1 (rrE A)), (16, .i .i64 A.length), (17, .i .i64 i)]) (fun i => []) (fun i => i ≤ A.length ∧ ∀ k, k < i → eqRow sameB A B k = true) (fun i => A.length - i) [1, 2, 15, 16, 17] [] 0 (by simp) (by simp) ?_)
  rintro i ⟨hi, hall⟩
  refine AWp.g [1, 2, 15, 16, 17, 18] [] ?_
  simp
  refine AWp.seq ?_
  by_cases h : i < A.length
  ·refine AWp.cT (by simp [h]) ?_
   refine AWp.skip ?_
   show AWp _ _ _ _
   refine AWp.seq ?_
   refine AWp.block ?_
   have h' : i < B.length := by omega
   refine AWp.g [1, 2, 7, 8, 15, 16, 17] [] ?_
   simp [h]
   refine AWp.g [1, 2, 8, 9, 15, 16, 17] [] ?_
   simp [h']
   have hE : eqRow sameB A B i = sameB A[i] B[i] := by simp [eqRow, h, h']
   refine AWp.g [1, 2, 15, 16, 17, 30] [] ?_
   simp
   refine call_p (hg A[i] (List.getElem_mem h) B[i] (List.getElem_mem h')) ?_
   simp
   cases hp : sameB A[i] B[i]
   ·refine AWp.cT (by simp) ?_
    refine AWp.g [6] [] ?_
    simp
    refine AWp.ret ?_
    simp [eqRs, eqAll, range_not h (hE.trans hp)]
   ·refine AWp.cF (by simp) ?_
    refine AWp.skip ?_
    show AWp _ _ _ _
    refine AWp.gL [1, 2, 15, 16, 17] [] ?_
    simp
    refine ⟨i + 1, ⟨by omega, fun k hk => ?_⟩, by omega, ?_⟩
    ·by_cases hki : k = i
     ·subst hki; exact hE.trans hp
     ·exact hall k (by omega)
    ·simp
     exact wrap64 (by omega) (by omega)
  ·refine AWp.cF (by simp [h]) ?_
   refine AWp.exit ?_
   show AWp _ _ _ _
   refine AWp.g [6] [] ?_
   simp
   refine AWp.ret ?_
   simp [eqRs, q0, eqAll, range_all (fun k (hk : k < A.length) => hall k (by omega))]
 ·refine AWp.cT (by simp [q0]) ?_
  refine AWp.g [6] [] ?_
  simp
  refine AWp.ret ?_
  simp [eqRs, q0]
set_option maxRecDepth 8000 in
set_option maxHeartbeats 2000000 in
theorem c_EqualFunc_C (A B : List (List Cel)) (g : Nat) (ha : A.length ≤ 100000) (hg : ∀ x ∈ A, ∀ y ∈ B, Pure Tryz.prog g [.sl .fro 2 (celsAV x), .sl .fro 2 (celsAV y)] (.b (sameK x y))) : Pure Tryz.prog 99 [.sl .fro 1 (rrC A), .sl .fro 1 (rrC B), .fn g [] []] (.b (eqRs sameK A B)) := by
 refine proc_of (cx Tryz.prog 32 [0, 1, 2, 6, 7, 8, 9, 14, 15, 16, 17, 18, 30] [6]) 29 [.tmp 6] Tryz.func99 rfl rfl rfl rfl rfl rfl (Nat.le_refl _) rfl ?_
 refine AWp.g [0, 1, 2] [] ?_
 simp
 refine AWp.seq ?_
 refine AWp.g [0, 1, 2, 14] [] ?_
 simp
 by_cases q0 : (A.length : Int) = B.length
 ·refine AWp.cF (by simp [q0]) ?_
  refine AWp.skip ?_
  show AWp _ _ _ _
  refine AWp.seq ?_
  refine AWp.g [1, 2, 15, 16, 17] [] ?_
  simp
  refine AWp.block (AWp.while (fun i : Nat => [(1, .sl .fro 1 (rrC B)), (2, .fn g [] []), (15, .sl .fro 1 (rrC A)), (16, .i .i64 A.length), (17, .i .i64 i)]) (fun i => []) (fun i => i ≤ A.length ∧ ∀ k, k < i → eqRow sameK A B k = true) (fun i => A.length - i) [1, 2, 15, 16, 17] [] 0 (by simp) (by simp) ?_)
  rintro i ⟨hi, hall⟩
  refine AWp.g [1, 2, 15, 16, 17, 18] [] ?_
  simp
  refine AWp.seq ?_
  by_cases h : i < A.length
  ·refine AWp.cT (by simp [h]) ?_
   refine AWp.skip ?_
   show AWp _ _ _ _
   refine AWp.seq ?_
   refine AWp.block ?_
   have h' : i < B.length := by omega
   refine AWp.g [1, 2, 7, 8, 15, 16, 17] [] ?_
   simp [h]
   refine AWp.g [1, 2, 8, 9, 15, 16, 17] [] ?_
   simp [h']
   have hE : eqRow sameK A B i = sameK A[i] B[i] := by simp [eqRow, h, h']
   refine AWp.g [1, 2, 15, 16, 17, 30] [] ?_
   simp
   refine call_p (hg A[i] (List.getElem_mem h) B[i] (List.getElem_mem h')) ?_
   simp
   cases hp : sameK A[i] B[i]
   ·refine AWp.cT (by simp) ?_
    refine AWp.g [6] [] ?_
    simp
    refine AWp.ret ?_
    simp [eqRs, eqAll, range_not h (hE.trans hp)]
   ·refine AWp.cF (by simp) ?_
    refine AWp.skip ?_
    show AWp _ _ _ _
    refine AWp.gL [1, 2, 15, 16, 17] [] ?_
    simp
    refine ⟨i + 1, ⟨by omega, fun k hk => ?_⟩, by omega, ?_⟩
    ·by_cases hki : k = i
     ·subst hki; exact hE.trans hp
     ·exact hall k (by omega)
    ·simp
     exact wrap64 (by omega) (by omega)
  ·refine AWp.cF (by simp [h]) ?_
   refine AWp.exit ?_
   show AWp _ _ _ _
   refine AWp.g [6] [] ?_
   simp
   refine AWp.ret ?_
   simp [eqRs, q0, eqAll, range_all (fun k (hk : k < A.length) => hall k (by omega))]
 ·refine AWp.cT (by simp [q0]) ?_
  refine AWp.g [6] [] ?_
  simp
  refine AWp.ret ?_
  simp [eqRs, q0]
set_option maxRecDepth 8000 in
set_option maxHeartbeats 2000000 in
theorem c_EqualFunc_A (A B : List (List Acc)) (g : Nat) (ha : A.length ≤ 100000) (hg : ∀ x ∈ A, ∀ y ∈ B, Pure Tryz.prog g [.sl .fro 6 (acsAV x), .sl .fro 6 (acsAV y)] (.b (sameA x y))) : Pure Tryz.prog 101 [.sl .fro 1 (rrA A), .sl .fro 1 (rrA B), .fn g [] []] (.b (eqRs sameA A B)) := by
 refine proc_of (cx Tryz.prog 32 [0, 1, 2, 6, 7, 8, 9, 14, 15, 16, 17, 18, 30] [6]) 29 [.tmp 6] Tryz.func101 rfl rfl rfl rfl rfl rfl (Nat.le_refl _) rfl ?_
 refine AWp.g [0, 1, 2] [] ?_
 simp
 refine AWp.seq ?_
 refine AWp.g [0, 1, 2, 14] [] ?_
 simp
 by_cases q0 : (A.length : Int) = B.length
 ·refine AWp.cF (by simp [q0]) ?_
  refine AWp.skip ?_
  show AWp _ _ _ _
  refine AWp.seq ?_
  refine AWp.g [1, 2, 15, 16, 17] [] ?_
  simp
  refine AWp.block (AWp.while (fun i : Nat => [(1, .sl .fro 1 (rrA B)), (2, .fn g [] []), (15, .sl .fro 1 (rrA A)), (16, .i .i64 A.length), (17, .i .i64 i)]) (fun i => []) (fun i => i ≤ A.length ∧ ∀ k, k < i → eqRow sameA A B k = true) (fun i => A.length - i) [1, 2, 15, 16, 17] [] 0 (by simp) (by simp) ?_)
  rintro i ⟨hi, hall⟩
  refine AWp.g [1, 2, 15, 16, 17, 18] [] ?_
  simp
  refine AWp.seq ?_
  by_cases h : i < A.length
  ·refine AWp.cT (by simp [h]) ?_
   refine AWp.skip ?_
   show AWp _ _ _ _
   refine AWp.seq ?_
   refine AWp.block ?_
   have h' : i < B.length := by omega
   refine AWp.g [1, 2, 7, 8, 15, 16, 17] [] ?_
   simp [h]
   refine AWp.g [1, 2, 8, 9, 15, 16, 17] [] ?_
   simp [h']
   have hE : eqRow sameA A B i = sameA A[i] B[i] := by simp [eqRow, h, h']
   refine AWp.g [1, 2, 15, 16, 17, 30] [] ?_
   simp
   refine call_p (hg A[i] (List.getElem_mem h) B[i] (List.getElem_mem h')) ?_
   simp
   cases hp : sameA A[i] B[i]
   ·refine AWp.cT (by simp) ?_
    refine AWp.g [6] [] ?_
    simp
    refine AWp.ret ?_
    simp [eqRs, eqAll, range_not h (hE.trans hp)]
   ·refine AWp.cF (by simp) ?_
    refine AWp.skip ?_
    show AWp _ _ _ _
    refine AWp.gL [1, 2, 15, 16, 17] [] ?_
    simp
    refine ⟨i + 1, ⟨by omega, fun k hk => ?_⟩, by omega, ?_⟩
    ·by_cases hki : k = i
     ·subst hki; exact hE.trans hp
     ·exact hall k (by omega)
    ·simp
     exact wrap64 (by omega) (by omega)
  ·refine AWp.cF (by simp [h]) ?_
   refine AWp.exit ?_
   show AWp _ _ _ _
   refine AWp.g [6] [] ?_
   simp
   refine AWp.ret ?_
   simp [eqRs, q0, eqAll, range_all (fun k (hk : k < A.length) => hall k (by omega))]
 ·refine AWp.cT (by simp [q0]) ?_
  refine AWp.g [6] [] ?_
  simp
  refine AWp.ret ?_
  simp [eqRs, q0]
set_option maxRecDepth 8000 in
set_option maxHeartbeats 2000000 in
theorem c_EqualFunc_N (A B : List (List Nt)) (g : Nat) (ha : A.length ≤ 100000) (hg : ∀ x ∈ A, ∀ y ∈ B, Pure Tryz.prog g [.sl .fro 4 (ntsAV x), .sl .fro 4 (ntsAV y)] (.b (sameN x y))) : Pure Tryz.prog 103 [.sl .fro 1 (rrN A), .sl .fro 1 (rrN B), .fn g [] []] (.b (eqRs sameN A B)) := by
 refine proc_of (cx Tryz.prog 32 [0, 1, 2, 6, 7, 8, 9, 14, 15, 16, 17, 18, 30] [6]) 29 [.tmp 6] Tryz.func103 rfl rfl rfl rfl rfl rfl (Nat.le_refl _) rfl ?_
 refine AWp.g [0, 1, 2] [] ?_
 simp
 refine AWp.seq ?_
 refine AWp.g [0, 1, 2, 14] [] ?_
 simp
 by_cases q0 : (A.length : Int) = B.length
 ·refine AWp.cF (by simp [q0]) ?_
  refine AWp.skip ?_
  show AWp _ _ _ _
  refine AWp.seq ?_
  refine AWp.g [1, 2, 15, 16, 17] [] ?_
  simp
  refine AWp.block (AWp.while (fun i : Nat => [(1, .sl .fro 1 (rrN B)), (2, .fn g [] []), (15, .sl .fro 1 (rrN A)), (16, .i .i64 A.length), (17, .i .i64 i)]) (fun i => []) (fun i => i ≤ A.length ∧ ∀ k, k < i → eqRow sameN A B k = true) (fun i => A.length - i) [1, 2, 15, 16, 17] [] 0 (by simp) (by simp) ?_)
  rintro i ⟨hi, hall⟩
  refine AWp.g [1, 2, 15, 16, 17, 18] [] ?_
  simp
  refine AWp.seq ?_
  by_cases h : i < A.length
  ·refine AWp.cT (by simp [h]) ?_
   refine AWp.skip ?_
   show AWp _ _ _ _
   refine AWp.seq ?_
   refine AWp.block ?_
   have h' : i < B.length := by omega
   refine AWp.g [1, 2, 7, 8, 15, 16, 17] [] ?_
   simp [h]
   refine AWp.g [1, 2, 8, 9, 15, 16, 17] [] ?_
   simp [h']
   have hE : eqRow sameN A B i = sameN A[i] B[i] := by simp [eqRow, h, h']
   refine AWp.g [1, 2, 15, 16, 17, 30] [] ?_
   simp
   refine call_p (hg A[i] (List.getElem_mem h) B[i] (List.getElem_mem h')) ?_
   simp
   cases hp : sameN A[i] B[i]
   ·refine AWp.cT (by simp) ?_
    refine AWp.g [6] [] ?_
    simp
    refine AWp.ret ?_
    simp [eqRs, eqAll, range_not h (hE.trans hp)]
   ·refine AWp.cF (by simp) ?_
    refine AWp.skip ?_
    show AWp _ _ _ _
    refine AWp.gL [1, 2, 15, 16, 17] [] ?_
    simp
    refine ⟨i + 1, ⟨by omega, fun k hk => ?_⟩, by omega, ?_⟩
    ·by_cases hki : k = i
     ·subst hki; exact hE.trans hp
     ·exact hall k (by omega)
    ·simp
     exact wrap64 (by omega) (by omega)
  ·refine AWp.cF (by simp [h]) ?_
   refine AWp.exit ?_
   show AWp _ _ _ _
   refine AWp.g [6] [] ?_
   simp
   refine AWp.ret ?_
   simp [eqRs, q0, eqAll, range_all (fun k (hk : k < A.length) => hall k (by omega))]
 ·refine AWp.cT (by simp [q0]) ?_
  refine AWp.g [6] [] ?_
  simp
  refine AWp.ret ?_
  simp [eqRs, q0]
theorem sameR_rows (a b : Rw) : (eqRs sameB a.sets b.sets && (eqRs sameK a.tals b.tals && (eqRs sameA a.accs b.accs && eqRs sameN a.regs b.regs))) = sameR a b := by
 unfold eqRs sameR lensR
 cases decide ((a.sets.length : Int) = b.sets.length) <;> cases decide ((a.tals.length : Int) = b.tals.length) <;> cases decide ((a.accs.length : Int) = b.accs.length) <;> cases decide ((a.regs.length : Int) = b.regs.length) <;> simp [Bool.and_assoc]
set_option maxRecDepth 8000 in
set_option maxHeartbeats 4000000 in
theorem c_raw_Same (a b : Rw) (ha : FineR a) (hb : FineR b) : Pure Tryz.prog 30 [.agg (rwC a), .agg (rwC b)] (.b (sameR a b)) := by
 have g1 := c_EqualFunc_E a.sets b.sets 98 (by have := ha.s0; omega) fun x hx y hy => c_awset_Same x y (ha.s1 x hx) (hb.s1 y hy)
 have g2 := c_EqualFunc_C a.tals b.tals 100 (by have := ha.t0; omega) fun x hx y _ => c_tally_Same x y (ha.t1 x hx)
 have g3 := c_EqualFunc_A a.accs b.accs 102 (by have := ha.a0; omega) fun x hx y _ => c_escrow_Same x y (ha.a1 x hx)
 have g4 := c_EqualFunc_N a.regs b.regs 104 (by have := ha.n0; omega) fun x hx y _ => c_register_Same x y (ha.n1 x hx)
 rw [← sameR_rows]
 refine proc_of (cx Tryz.prog 31 [2, 3, 4] [4]) 29 [.tmp 4] Tryz.func30 rfl rfl rfl rfl rfl rfl (Nat.le_refl _) rfl ?_
 refine AWp.g [2, 3] [2, 3] ?_
 simp [rwC]
 refine AWp.step [4] [2, 3] [(4, .b (eqRs sameB a.sets b.sets && (eqRs sameK a.tals b.tals && (eqRs sameA a.accs b.accs && eqRs sameN a.regs b.regs))))] [(2, [.sl .fro 1 (rrE a.sets), .sl .fro 1 (rrC a.tals), .sl .fro 1 (rrA a.accs), .sl .fro 1 (rrN a.regs)]), (3, [.sl .fro 1 (rrE b.sets), .sl .fro 1 (rrC b.tals), .sl .fro 1 (rrA b.accs), .sl .fro 1 (rrN b.regs)])] ?_ ?_
 ·simp
  refine call_pure g1 (by simp) ?_
  cases q1 : eqRs sameB a.sets b.sets
  ·simp
  simp
  refine call_pure g2 (by simp) ?_
  cases q2 : eqRs sameK a.tals b.tals
  ·simp
  simp
  refine call_pure g3 (by simp) ?_
  cases q3 : eqRs sameA a.accs b.accs
  ·simp
  simp
  refine call_pure g4 (by simp) ?_
  simp
 refine AWp.ret ?_
 simp
end Go.AM
namespace Go.AM
open Go.Proofs
def cleanR (k : Kin) (w : Rw) (c : List Int) : Rw := if rawB k w && clockOk c then turnR (fun s => cleanE s c) k w else noR
set_option maxRecDepth 8000 in
set_option maxHeartbeats 4000000 in
theorem c_raw_Clean (k : Kin) (w : Rw) (c : List Int) (hk : FineK k) (hw : FineR w) (hc : c.length ≤ 1000000) : Pure Tryz.prog 29 [.agg (kinC k), .agg (rwC w), .sl .fro 1 (intsAV c)] (.tup [.agg (rwO (cleanR k w c)), .i .i64 (if rawB k w && clockOk c then 0 else 1)]) := by
 have gc := c_raw_Check k w hk hw
 have gp := c_raw_copied w hw
 have g0 := c100 c (by omega)
 simp [kinC, rwC, rwO] at gc gp
 have hk1 := hk.1
 refine proc_of (cx Tryz.prog 48 [2, 3, 4, 6, 7, 8, 9, 10, 19, 24, 25, 26, 27, 31] [6, 7]) 45 [.cell 6 31, .tmp 7] Tryz.func29 rfl rfl rfl rfl rfl rfl (Nat.le_refl _) rfl ?_
 refine AWp.g [2, 3, 4, 6] [3, 4, 6] ?_
 simp [kinC, rwC]
 refine AWp.seq ?_
 refine AWp.step [2, 3, 4, 6, 19] [3, 4, 6] [(2, .sl .fro 1 (intsAV c)), (3, .ptr 3 0), (4, .ptr 4 0), (6, .ptr 6 0), (19, .b (!(rawB k w && clockOk c)))] [(3, [.sl .fro 1 (boolsAV k.sets), .sl .fro 2 (flrsAV k.counts), .i .i64 k.regs]), (4, [.sl .fro 1 (rrE w.sets), .sl .fro 1 (rrC w.tals), .sl .fro 1 (rrA w.accs), .sl .fro 1 (rrN w.regs)]), (6, [.sl .nl 1 [], .sl .nl 1 [], .sl .nl 1 [], .sl .nl 1 []])] ?_ ?_
 ·simp
  refine call_pure gc (by simp) ?_
  cases q1 : rawB k w
  ·simp
  simp
  refine call_pure g0 (by simp) ?_
  cases clockOk c <;> simp
 cases hh : rawB k w && clockOk c
 ·refine AWp.cT (by simp) ?_
  refine AWp.g [6, 7] [3, 4, 6] ?_
  simp
  refine AWp.ret ?_
  simp [cleanR, hh, rwO_no]
 ·refine AWp.cF (by simp) ?_
  refine AWp.skip ?_
  show AWp _ _ _ _
  have hlo := hh
  simp only [rawB, Bool.and_eq_true] at hlo
  obtain ⟨e1, e2, e3, e4⟩ := lenOk_iff hlo.1.1.1.1.2
  refine AWp.g [2, 3, 6, 8] [3, 4, 6, 8] ?_
  simp
  refine call_pure gp (by simp) ?_
  simp
  refine AWp.seq ?_
  refine AWp.g [2, 6, 8, 24, 25, 26] [3, 4, 6, 8] ?_
  simp
  refine AWp.block (AWp.while (fun i : Nat => [(2, .sl .fro 1 (intsAV c)), (6, .ptr 6 0), (8, .ptr 8 0), (24, .sl .fro 1 (boolsAV k.sets)), (25, .i .i64 k.sets.length), (26, .i .i64 i)]) (fun i => [(3, [.sl .fro 1 (boolsAV k.sets), .sl .fro 2 (flrsAV k.counts), .i .i64 k.regs]), (4, [.sl .fro 1 (rrE w.sets), .sl .fro 1 (rrC w.tals), .sl .fro 1 (rrA w.accs), .sl .fro 1 (rrN w.regs)]), (6, [.sl .nl 1 [], .sl .nl 1 [], .sl .nl 1 [], .sl .nl 1 []]), (8, [.sl .own 1 (rrE (tuTo (fun s => cleanE s c) k.sets w.sets i)), .sl .own 1 (rrC w.tals), .sl .own 1 (rrA w.accs), .sl .own 1 (rrN w.regs)])]) (fun i => i ≤ k.sets.length) (fun i => k.sets.length - i) [2, 6, 8, 24, 25, 26] [3, 4, 6, 8] 0 (by simp) (by simp) ?_)
  intro i hi
  refine AWp.g [2, 6, 8, 24, 25, 26, 27] [3, 4, 6, 8] ?_
  simp
  refine AWp.seq ?_
  by_cases h2 : i < k.sets.length
  ·refine AWp.cT (by simp [h2]) ?_
   refine AWp.skip ?_
   show AWp _ _ _ _
   refine AWp.seq ?_
   refine AWp.block ?_
   refine AWp.g [2, 6, 8, 9, 10, 24, 25, 26] [3, 4, 6, 8] ?_
   simp [h2]
   refine AWp.g [2, 6, 8, 9, 24, 25, 26, 31] [3, 4, 6, 8] ?_
   simp
   cases hd : k.sets[i]
   ·refine AWp.cF (by simp) ?_
    refine AWp.skip ?_
    show AWp _ _ _ _
    refine AWp.gL [2, 6, 8, 24, 25, 26] [3, 4, 6, 8] ?_
    simp
    refine ⟨i + 1, by omega, by omega, ?_⟩
    rw [tuTo_skip (fun s => cleanE s c) k.sets w.sets i h2 hd]
    simp
    exact wrap64 (by omega) (by omega)
   ·refine AWp.cT (by simp) ?_
    have h3 : i < w.sets.length := by omega
    have g9 := (c_rwset_Clean w.sets[i] c (hw.s1 _ (List.getElem_mem h3)) hc).fro
    have hs := rrE_set (tuTo (fun s => cleanE s c) k.sets w.sets i) i (cleanE w.sets[i] c)
    have ht := tuTo_set (fun s => cleanE s c) k.sets w.sets i h3 h2 hd
    rw [ht] at hs
    simp at g9
    refine AWp.lastT (.take 0 (.take 2 (.take 3 (.take 5 (.take 8 (.alt 1 (.alt 4 (.alt 6 (.alt 7 (.alt 9 (.take 10 (.take 11 (.take 12 (.alt 13 (.alt 14 .fin .stop) .stop)))) .stop) .stop) .stop) .stop) (.alt 4 (.alt 1 (.alt 6 (.alt 7 (.alt 9 (.take 10 (.take 11 (.take 12 (.alt 13 (.alt 14 .fin .stop) .stop)))) .stop) .stop) .stop) (.alt 6 (.alt 1 (.alt 7 (.alt 9 (.take 10 (.take 11 (.take 12 (.alt 13 (.alt 14 .fin .stop) .stop)))) .stop) .stop) (.alt 7 (.alt 1 (.alt 9 (.take 10 (.take 11 (.take 12 (.alt 13 (.alt 14 .fin .stop) .stop)))) .stop) (.alt 9 (.take 10 (.take 11 (.take 12 (.alt 1 (.alt 13 (.alt 14 .fin .stop) .stop) .stop)))) .stop)) .stop)) .stop)) .stop))))))) [2, 6, 8, 24, 25, 26] [3, 4, 6, 8] [(2, .sl .fro 1 (intsAV c)), (6, .ptr 6 0), (8, .ptr 8 0), (24, .sl .fro 1 (boolsAV k.sets)), (25, .i .i64 k.sets.length), (26, .i .i64 i)] [(3, [.sl .fro 1 (boolsAV k.sets), .sl .fro 2 (flrsAV k.counts), .i .i64 k.regs]), (4, [.sl .fro 1 (rrE w.sets), .sl .fro 1 (rrC w.tals), .sl .fro 1 (rrA w.accs), .sl .fro 1 (rrN w.regs)]), (6, [.sl .nl 1 [], .sl .nl 1 [], .sl .nl 1 [], .sl .nl 1 []]), (8, [.sl .own 1 (rrE (tuTo (fun s => cleanE s c) k.sets w.sets (i + 1))), .sl .own 1 (rrC w.tals), .sl .own 1 (rrA w.accs), .sl .own 1 (rrN w.regs)])] mix (by kernel_rfl) ?_ ?_
    ·repeat' (first | (refine atree.t ?_; (simp [h3, hs]; (first | (refine call_pure g9 (by simp) ?_; simp) | skip); (first | with_reducible refine kni ?_ | refine ⟨by omega, ?_⟩ | refine ⟨by omega, by omega, ?_⟩))) | (refine atree.a ?_; (simp [h3, hs]; (first | (refine call_pure g9 (by simp) ?_; simp) | skip); (first | with_reducible refine kni ?_ | refine ⟨by omega, ?_⟩ | refine ⟨by omega, by omega, ?_⟩))) | (refine atree.b ?_ ?_ <;> try (simp [h3, hs]; (first | (refine call_pure g9 (by simp) ?_; simp) | skip); (first | with_reducible refine kni ?_ | refine ⟨by omega, ?_⟩ | refine ⟨by omega, by omega, ?_⟩))))
     all_goals (refine atree.f ?_; simp [h3, hs])
    show AWp _ _ _ _
    refine AWp.gL [2, 6, 8, 24, 25, 26] [3, 4, 6, 8] ?_
    simp
    refine ⟨i + 1, by omega, by omega, ?_⟩
    simp
    exact wrap64 (by omega) (by omega)
  ·refine AWp.cF (by simp [h2]) ?_
   refine AWp.exit ?_
   show AWp _ _ _ _
   obtain rfl : i = k.sets.length := by omega
   refine AWp.g [6, 7] [3, 4, 6] ?_
   simp
   refine AWp.ret ?_
   simp [cleanR, hh, rwO, turnR]
set_option maxRecDepth 8000 in
set_option maxHeartbeats 2000000 in
theorem c_ref13_Kinds (k : Kin) (hk : FineK k) : Pure Tryz.prog 12 [.agg (kinC k)] (.b (kindsB k)) := by
 obtain ⟨hk1, hk2⟩ := hk
 refine proc_of (cx Tryz.prog 55 [1, 2, 3, 4, 9, 34] [2]) 54 [.tmp 2] Tryz.func12 rfl rfl rfl rfl rfl rfl (Nat.le_refl _) rfl ?_
 refine AWp.g [1] [1] ?_
 simp [kinC]
 refine AWp.seq ?_
 refine AWp.g [1, 3] [1] ?_
 simp
 refine AWp.block (AWp.while (fun i : Nat => [(1, .ptr 1 0), (3, .i .i64 i)]) (fun i => [(1, [.sl .fro 1 (boolsAV k.sets), .sl .fro 2 (flrsAV k.counts), .i .i64 k.regs])]) (fun i => i ≤ k.counts.length ∧ ∀ j (hj : j < i) (hj2 : j < k.counts.length), flrOk k.counts[j] = true) (fun i => k.counts.length - i) [1, 3] [1] 0 (by simp) (by simp) ?_)
 rintro i ⟨hi, hall⟩
 refine AWp.seq ?_
 refine AWp.g [1, 3, 9] [1] ?_
 simp
 by_cases h2 : i < k.counts.length
 ·refine AWp.cT (by simp [h2]) ?_
  refine AWp.skip ?_
  show AWp _ _ _ _
  refine AWp.seq ?_
  refine AWp.block ?_
  refine AWp.g [1, 3, 4] [1, 4] ?_
  simp [h2]
  refine AWp.step [1, 3, 34] [1] [(1, .ptr 1 0), (3, .i .i64 i), (34, .b (!flrOk k.counts[i]))] [(1, [.sl .fro 1 (boolsAV k.sets), .sl .fro 2 (flrsAV k.counts), .i .i64 k.regs])] ?_ ?_
  ·by_cases q1 : 0 < k.counts[i].lo
   ·simp [flrOk, q1]
   by_cases q2 : k.counts[i].lo < -1000
   ·simp [flrOk, q1, q2]
   cases q3 : k.counts[i].is <;> simp [flrOk, q1, q2, q3]
  cases hp : flrOk k.counts[i]
  ·refine AWp.cT (by simp) ?_
   refine AWp.g [2] [1] ?_
   simp
   refine AWp.ret ?_
   simp [kindsB, all_not h2 hp]
  ·refine AWp.cF (by simp) ?_
   refine AWp.skip ?_
   show AWp _ _ _ _
   refine AWp.gL [1, 3] [1] ?_
   simp
   refine ⟨i + 1, ⟨by omega, fun j hj hj2 => ?_⟩, by omega, ?_⟩
   ·by_cases hji : j = i
    ·subst hji; exact hp
    ·exact hall j (by omega) hj2
   ·simp
    exact wrap64 (by omega) (by omega)
 ·refine AWp.cF (by simp [h2]) ?_
  refine AWp.exit ?_
  show AWp _ _ _ _
  obtain rfl : i = k.counts.length := by omega
  have hk0 : kindsB k = (decide ((k.sets.length : Int) ≤ 6) && decide ((k.counts.length : Int) ≤ 4) && decide (0 ≤ k.regs) && decide (k.regs ≤ 3)) := by
   unfold kindsB
   rw [all_of fun j hj => hall j hj hj, Bool.and_true, Bool.eq_iff_iff]
   simp only [Bool.and_eq_true, Bool.not_eq_true', decide_eq_true_eq, decide_eq_false_iff_not]
   omega
  refine AWp.step [2] [1] [(2, .b (decide ((k.sets.length : Int) ≤ 6) && decide ((k.counts.length : Int) ≤ 4) && decide (0 ≤ k.regs) && decide (k.regs ≤ 3)))] [(1, [.sl .fro 1 (boolsAV k.sets), .sl .fro 2 (flrsAV k.counts), .i .i64 k.regs])] ?_ ?_
  ·by_cases q1 : (k.sets.length : Int) ≤ 6
   case neg => simp [q1]
   by_cases q2 : (k.counts.length : Int) ≤ 4
   case neg => simp [q1, q2]
   by_cases q3 : 0 ≤ k.regs
   case neg => simp [q1, q2, q3]
   simp [q1, q2, q3]
  refine AWp.ret ?_
  simp [hk0]
set_option maxRecDepth 8000 in
set_option maxHeartbeats 4000000 in
theorem c_ref13_New (k : Kin) (hk : FineK k) (hr : 0 ≤ k.regs ∧ k.regs ≤ 1000) : Pure Tryz.prog 31 [.agg (kinC k)] (.agg (rwC (newR k))) := by
 obtain ⟨hk1, hk2⟩ := hk
 refine proc_of (cx Tryz.prog 19 [1, 2] [2]) 18 [.cell 2 31] Tryz.func31 rfl rfl rfl rfl rfl rfl (Nat.le_refl _) rfl ?_
 refine AWp.g [1, 2] [1, 2] ?_
 simp [kinC]
 show AWp _ _ _ _
 refine AWp.stepA 16 (fun _ => .any) [2] [2] [(2, .ptr 2 0)] [(2, [.sl .fro 1 (rrE (newR k).sets), .sl .fro 1 (rrC (newR k).tals), .sl .fro 1 (rrA (newR k).accs), .sl .fro 1 (rrN (newR k).regs)])] mix (by kernel_rfl) ?_ ?_
 ·simp [newR]
  omega
 refine AWp.ret ?_
 simp [rwC]
end Go.AM
namespace Go.AM
open Go.Proofs
theorem ltK_nil (p : ByteArray) {k : ByteArray} (h : k.toList = []) : ltK p k = false := by
 unfold ltK
 rw [h]
 cases p.toList <;> rfl
theorem ltK_some {k : ByteArray} (h : k.toList ≠ []) : ltK ByteArray.empty k = true := by
 unfold ltK
 have e : ByteArray.empty.toList = [] := by rw [ByteArray.toList_eq]; rfl
 rw [e]
 match hk : k.toList with
 | [] => exact absurd hk h
 | _ :: _ => rfl
def someA (x : Acc) (k : Nat) : Bool := (List.range k).any fun j => !decide (hv x j = 0)
theorem someA_succ (x : Acc) (k : Nat) : someA x (k + 1) = (someA x k || !decide (hv x k = 0)) := by simp [someA, List.range_succ, List.any_append]
theorem someA_five (x : Acc) : someA x 5 = !noneA x := by
 simp only [someA_succ]
 simp [someA, hv, noneA, Bool.not_and, Bool.or_assoc]
set_option maxRecDepth 8000 in
set_option maxHeartbeats 4000000 in
theorem c_ref10_May (l : List Cel) (hlen : l.length ≤ 100000) : Pure Tryz.prog 41 [.sl .fro 2 (celsAV l)] (.b (talB l)) := by
 refine proc_of (cx Tryz.prog 57 [0, 2, 3, 4, 8, 53] [2]) 56 [.tmp 2] Tryz.func41 rfl rfl rfl rfl rfl rfl (Nat.le_refl _) rfl ?_
 refine AWp.g [0] [] ?_
 simp
 refine AWp.seq ?_
 refine AWp.g [0, 3] [] ?_
 simp
 refine AWp.block (AWp.while (fun i : Nat => [(0, .sl .fro 2 (celsAV l)), (3, .i .i64 i)]) (fun i => []) (fun i => i ≤ l.length ∧ ∀ k, k < i → okAt Cel.key celOk l k = true) (fun i => l.length - i) [0, 3] [] 0 (by simp) (by simp) ?_)
 rintro i ⟨hi, hall⟩
 refine AWp.seq ?_
 refine AWp.g [0, 3, 8] [] ?_
 simp
 by_cases h : i < l.length
 ·refine AWp.cT (by simp [h]) ?_
  refine AWp.skip ?_
  show AWp _ _ _ _
  refine AWp.seq ?_
  refine AWp.block ?_
  refine AWp.g [0, 3, 4] [4] ?_
  simp [h]
  show AWp _ _ _ _
  refine AWp.stepD 39 (fun _ => .any) [0, 3, 53] [] [(0, .sl .fro 2 (celsAV l)), (3, .i .i64 i), (53, .b (!okAt Cel.key celOk l i))] [] mix (by kernel_rfl) ?_ ?_
  ·by_cases p1 : l[i].key.toList = []
   ·have q := ltK_nil (prevOf Cel.key l i) p1
    simp [okAt, h, celOk, p1, q]
   by_cases p2 : (32 : Int) < l[i].key.size
   ·simp [okAt, h, celOk, p1, p2]
   by_cases p3 : l[i].num = 0
   ·simp [okAt, h, celOk, p1, p2, p3]
   by_cases p4 : 1099511627776 < l[i].num
   ·simp [okAt, h, celOk, p1, p2, p3, p4]
   by_cases p5 : l[i].num < -1099511627776
   ·simp [okAt, h, celOk, p1, p2, p3, p4, p5]
   by_cases q3 : 0 < i
   ·obtain ⟨j, rfl⟩ : ∃ j, i = j + 1 := ⟨i - 1, by omega⟩
    have hj : j < l.length := by omega
    have w2 : IntKind.i64.wrap (j : Int) = j := wrap64 (by omega) (by omega)
    simp [okAt, h, celOk, p1, p2, p3, p4, p5, hj, w2, prevOf, ltK]
   ·obtain rfl : i = 0 := by omega
    have q := ltK_some p1
    simp [okAt, h, celOk, p1, p2, p3, p4, p5, prevOf, q]
  cases hp : okAt Cel.key celOk l i
  ·refine AWp.cT (by simp) ?_
   refine AWp.g [2] [] ?_
   simp
   refine AWp.ret ?_
   simp [okL, range_not h hp]
  ·refine AWp.cF (by simp) ?_
   refine AWp.skip ?_
   show AWp _ _ _ _
   refine AWp.gL [0, 3] [] ?_
   simp
   refine ⟨i + 1, ⟨by omega, fun k hk => ?_⟩, by omega, ?_⟩
   ·by_cases hki : k = i
    ·subst hki; exact hp
    ·exact hall k (by omega)
   ·simp
    exact wrap64 (by omega) (by omega)
 ·refine AWp.cF (by simp [h]) ?_
  refine AWp.exit ?_
  show AWp _ _ _ _
  obtain rfl : i = l.length := by omega
  refine AWp.g [2] [] ?_
  simp
  refine AWp.ret ?_
  rw [talB, okL, range_all hall]
  simp
set_option maxRecDepth 8000 in
set_option maxHeartbeats 4000000 in
theorem c_ref11_Right (l : List Acc) (hlen : l.length ≤ 100000) : Pure Tryz.prog 42 [.sl .fro 6 (acsAV l)] (.b (accB l)) := by
 refine proc_of (cx Tryz.prog 70 [0, 2, 3, 4, 5, 6, 10, 40, 42, 56, 66] [2]) 69 [.tmp 2] Tryz.func42 rfl rfl rfl rfl rfl rfl (Nat.le_refl _) rfl ?_
 refine AWp.g [0] [] ?_
 simp
 refine AWp.seq ?_
 refine AWp.g [0, 3] [] ?_
 simp
 refine AWp.block (AWp.while (fun i : Nat => [(0, .sl .fro 6 (acsAV l)), (3, .i .i64 i)]) (fun i => []) (fun i => i ≤ l.length ∧ ∀ k, k < i → okAt Acc.key accOk l k = true) (fun i => l.length - i) [0, 3] [] 0 (by simp) (by simp) ?_)
 rintro i ⟨hi, hall⟩
 refine AWp.seq ?_
 refine AWp.g [0, 3, 10] [] ?_
 simp
 by_cases h : i < l.length
 ·refine AWp.cT (by simp [h]) ?_
  refine AWp.skip ?_
  show AWp _ _ _ _
  refine AWp.seq ?_
  refine AWp.block ?_
  refine AWp.g [0, 3, 4] [4] ?_
  simp [h, acC]
  refine AWp.seq ?_
  refine AWp.stepD 24 (fun _ => .any) [0, 3, 4, 40] [4] [(0, .sl .fro 6 (acsAV l)), (3, .i .i64 i), (4, .ptr 4 0), (40, .b (!(ltK (prevOf Acc.key l i) l[i].key && !decide ((32 : Int) < l[i].key.size))))] [(4, [.s l[i].key, .i .i64 l[i].a, .i .i64 l[i].b, .i .i64 l[i].c, .i .i64 l[i].d, .i .i64 l[i].e])] mix (by kernel_rfl) ?_ ?_
  ·by_cases p1 : l[i].key.toList = []
   ·have q := ltK_nil (prevOf Acc.key l i) p1
    simp [h, p1, q]
   by_cases p2 : (32 : Int) < l[i].key.size
   ·simp [h, p1, p2]
   by_cases q3 : 0 < i
   ·obtain ⟨j, rfl⟩ : ∃ j, i = j + 1 := ⟨i - 1, by omega⟩
    have hj : j < l.length := by omega
    have w2 : IntKind.i64.wrap (j : Int) = j := wrap64 (by omega) (by omega)
    simp [h, p1, p2, hj, w2, prevOf, ltK, acC]
   ·obtain rfl : i = 0 := by omega
    have q := ltK_some p1
    simp [h, p1, p2, prevOf, q]
  cases hp : ltK (prevOf Acc.key l i) l[i].key && !decide ((32 : Int) < l[i].key.size)
  ·refine AWp.cT (by simp) ?_
   have hno : okAt Acc.key accOk l i = false := by
    simp only [okAt, List.getElem?_eq_getElem h, accOk, accHd, hp, Bool.false_and]
   refine AWp.g [2] [] ?_
   simp
   refine AWp.ret ?_
   simp [okL, range_not h hno]
  ·refine AWp.cF (by simp) ?_
   refine AWp.skip ?_
   show AWp _ _ _ _
   refine AWp.g [0, 3, 4, 5] [4] ?_
   simp
   refine AWp.seq ?_
   refine AWp.g [0, 3, 4, 5, 6] [4] ?_
   simp
   refine AWp.block (AWp.while (fun k : Nat => [(0, .sl .fro 6 (acsAV l)), (3, .i .i64 i), (4, .ptr 4 0), (5, .b (someA l[i] k)), (6, .i .i64 k)]) (fun k => [(4, [.s l[i].key, .i .i64 l[i].a, .i .i64 l[i].b, .i .i64 l[i].c, .i .i64 l[i].d, .i .i64 l[i].e])]) (fun k => k ≤ 5 ∧ ∀ j, j < k → hvOk l[i] j = true) (fun k => 5 - k) [0, 3, 4, 5, 6] [4] 0 (by simp) (by simp [someA]) ?_)
   rintro k ⟨hk, hb⟩
   refine AWp.seq ?_
   refine AWp.g [0, 3, 4, 5, 6, 42] [4] ?_
   simp
   by_cases h5 : k < 5
   ·refine AWp.cT (by simp [h5]; omega) ?_
    refine AWp.skip ?_
    show AWp _ _ _ _
    refine AWp.seq ?_
    refine AWp.block ?_
    refine AWp.seq ?_
    refine AWp.step [0, 3, 4, 5, 6, 56] [4] [(0, .sl .fro 6 (acsAV l)), (3, .i .i64 i), (4, .ptr 4 0), (5, .b (someA l[i] k)), (6, .i .i64 k), (56, .b (!hvOk l[i] k))] [(4, [.s l[i].key, .i .i64 l[i].a, .i .i64 l[i].b, .i .i64 l[i].c, .i .i64 l[i].d, .i .i64 l[i].e])] ?_ ?_
    ·obtain rfl | rfl | rfl | rfl | rfl : k = 0 ∨ k = 1 ∨ k = 2 ∨ k = 3 ∨ k = 4 := by omega
     ·by_cases p4 : 1099511627776 < l[i].a <;> simp [hv, hvOk, p4]
     ·by_cases p4 : 1099511627776 < l[i].b <;> simp [hv, hvOk, p4]
     ·by_cases p4 : 1099511627776 < l[i].c <;> simp [hv, hvOk, p4]
     ·by_cases p4 : 1099511627776 < l[i].d <;> simp [hv, hvOk, p4]
     ·by_cases p4 : 1099511627776 < l[i].e <;> simp [hv, hvOk, p4]
    cases hp5 : hvOk l[i] k
    ·refine AWp.cT (by simp) ?_
     have hno : okAt Acc.key accOk l i = false := by
      simp only [okAt, List.getElem?_eq_getElem h, accOk, range_not (p := hvOk l[i]) h5 hp5, Bool.and_false]
     refine AWp.g [2] [] ?_
     simp
     refine AWp.ret ?_
     simp [okL, range_not h hno]
    ·refine AWp.cF (by simp) ?_
     refine AWp.skip ?_
     show AWp _ _ _ _
     refine AWp.last [0, 3, 4, 5, 6] [4] [(0, .sl .fro 6 (acsAV l)), (3, .i .i64 i), (4, .ptr 4 0), (5, .b (someA l[i] (k + 1))), (6, .i .i64 k)] [(4, [.s l[i].key, .i .i64 l[i].a, .i .i64 l[i].b, .i .i64 l[i].c, .i .i64 l[i].d, .i .i64 l[i].e])] ?_ ?_
     ·rw [someA_succ]
      cases hs : someA l[i] k
      ·obtain rfl | rfl | rfl | rfl | rfl : k = 0 ∨ k = 1 ∨ k = 2 ∨ k = 3 ∨ k = 4 := by omega
       all_goals simp [hv, hs]
      ·simp [hs]
     show AWp _ _ _ _
     refine AWp.gL [0, 3, 4, 5, 6] [4] ?_
     simp
     refine ⟨k + 1, ⟨by omega, fun j hj => ?_⟩, by omega, ?_⟩
     ·by_cases hjk : j = k
      ·subst hjk; exact hp5
      ·exact hb j (by omega)
     ·simp
      exact wrap64 (by omega) (by omega)
   ·refine AWp.cF (by simp [h5]; omega) ?_
    refine AWp.exit ?_
    show AWp _ _ _ _
    obtain rfl : k = 5 := by omega
    have hs5 := someA_five l[i]
    have hok : okAt Acc.key accOk l i = !noneA l[i] := by
     simp only [okAt, List.getElem?_eq_getElem h, accOk, accHd, hp, range_all fun j hj => hb j (by omega), Bool.true_and, Bool.and_true]
    refine AWp.step [0, 3, 66] [] [(0, .sl .fro 6 (acsAV l)), (3, .i .i64 i), (66, .b (noneA l[i]))] [] ?_ ?_
    ·simp [hs5]
    cases hn : noneA l[i]
    ·refine AWp.cF (by simp) ?_
     refine AWp.skip ?_
     show AWp _ _ _ _
     refine AWp.gL [0, 3] [] ?_
     simp
     rw [hn] at hok
     refine ⟨i + 1, ⟨by omega, fun k hk => ?_⟩, by omega, ?_⟩
     ·by_cases hki : k = i
      ·subst hki; exact hok
      ·exact hall k (by omega)
     ·simp
      exact wrap64 (by omega) (by omega)
    ·refine AWp.cT (by simp) ?_
     refine AWp.g [2] [] ?_
     simp
     refine AWp.ret ?_
     rw [hn] at hok
     simp [okL, range_not h hok]
 ·refine AWp.cF (by simp [h]) ?_
  refine AWp.exit ?_
  show AWp _ _ _ _
  obtain rfl : i = l.length := by omega
  refine AWp.g [2] [] ?_
  simp
  refine AWp.ret ?_
  rw [accB, okL, range_all hall]
  simp
end Go.AM
namespace Go.AM
open Go.Proofs
set_option maxRecDepth 8000 in
set_option maxHeartbeats 8000000 in
theorem c_ref13_May (k : Kin) (w : Rw) (hk : FineK k) (hw : FineR w) : Pure Tryz.prog 10 [.agg (kinC k), .agg (rwC w)] (.b (rawB k w)) := by
 have gk := c_ref13_Kinds k hk
 simp [kinC] at gk
 obtain ⟨hk1, hk2⟩ := id hk
 refine proc_of (cx Tryz.prog 155 [2, 3, 4, 5, 6, 7, 45, 50, 83, 88, 141, 145, 154] [4]) 153 [.tmp 4] Tryz.func10 rfl rfl rfl rfl rfl rfl (Nat.le_refl _) rfl ?_
 refine AWp.g [2, 3] [2, 3] ?_
 simp [kinC, rwC]
 refine AWp.seq ?_
 refine AWp.step [2, 3, 45] [2, 3] [(2, .ptr 2 0), (3, .ptr 3 0), (45, .b (!(kindsB k && lenOk k w)))] [(2, [.sl .fro 1 (boolsAV k.sets), .sl .fro 2 (flrsAV k.counts), .i .i64 k.regs]), (3, [.sl .fro 1 (rrE w.sets), .sl .fro 1 (rrC w.tals), .sl .fro 1 (rrA w.accs), .sl .fro 1 (rrN w.regs)])] ?_ ?_
 ·simp
  refine call_pure gk (by simp) ?_
  cases q0 : kindsB k
  ·simp
  by_cases q1 : (w.sets.length : Int) = k.sets.length
  case neg => simp [q1, lenOk]
  by_cases q2 : (w.tals.length : Int) = k.counts.length
  case neg => simp [q1, q2, lenOk]
  by_cases q3 : (w.accs.length : Int) = k.counts.length
  case neg => simp [q1, q2, q3, lenOk]
  simp [q1, q2, q3, lenOk]
 cases hq : kindsB k && lenOk k w
 ·refine AWp.cT (by simp) ?_
  refine AWp.g [4] [2, 3] ?_
  simp
  refine AWp.ret ?_
  simp [rawB, hq]
 ·refine AWp.cF (by simp) ?_
  refine AWp.skip ?_
  show AWp _ _ _ _
  refine AWp.seq ?_
  obtain ⟨e1, e2, e3, e4⟩ := lenOk_iff (k := k) (w := w) (by rw [Bool.and_eq_true] at hq; exact hq.2)
  refine AWp.g [2, 3, 5] [2, 3] ?_
  simp
  refine AWp.block (AWp.while (fun i : Nat => [(2, .ptr 2 0), (3, .ptr 3 0), (5, .i .i64 i)]) (fun i => [(2, [.sl .fro 1 (boolsAV k.sets), .sl .fro 2 (flrsAV k.counts), .i .i64 k.regs]), (3, [.sl .fro 1 (rrE w.sets), .sl .fro 1 (rrC w.tals), .sl .fro 1 (rrA w.accs), .sl .fro 1 (rrN w.regs)])]) (fun i => i ≤ k.sets.length ∧ ∀ j, j < i → setAtK k w j = true) (fun i => k.sets.length - i) [2, 3, 5] [2, 3] 0 (by simp) (by simp) ?_)
  rintro i ⟨hi, hall⟩
  refine AWp.seq ?_
  refine AWp.g [2, 3, 5, 50] [2, 3] ?_
  simp
  by_cases h2 : i < k.sets.length
  ·refine AWp.cT (by simp [h2]) ?_
   refine AWp.skip ?_
   show AWp _ _ _ _
   refine AWp.seq ?_
   refine AWp.block ?_
   have h3 : i < w.sets.length := by omega
   have hf := hw.s1 _ (List.getElem_mem h3)
   refine AWp.step [2, 3, 5, 83] [2, 3] [(2, .ptr 2 0), (3, .ptr 3 0), (5, .i .i64 i), (83, .b (!setAtK k w i))] [(2, [.sl .fro 1 (boolsAV k.sets), .sl .fro 2 (flrsAV k.counts), .i .i64 k.regs]), (3, [.sl .fro 1 (rrE w.sets), .sl .fro 1 (rrC w.tals), .sl .fro 1 (rrA w.accs), .sl .fro 1 (rrN w.regs)])] ?_ ?_
   ·cases hd : k.sets[i]
    ·simp [h2, h3, hd, setAtK, setK]
     refine call_pure (c_ref08_May w.sets[i] hf) (by simp) ?_
     simp
    ·simp [h2, h3, hd, setAtK, setK]
     refine call_pure (c_ref09_May w.sets[i] hf) (by simp) ?_
     cases setOk w.sets[i] <;> simp [h2, hd]
   cases hp : setAtK k w i
   ·refine AWp.cT (by simp) ?_
    refine AWp.g [4] [2, 3] ?_
    simp
    refine AWp.ret ?_
    simp [rawB_parts hq, range_not h2 hp]
   ·refine AWp.cF (by simp) ?_
    refine AWp.skip ?_
    show AWp _ _ _ _
    refine AWp.gL [2, 3, 5] [2, 3] ?_
    simp
    refine ⟨i + 1, ⟨by omega, fun j hj => ?_⟩, by omega, ?_⟩
    ·by_cases hji : j = i
     ·subst hji; exact hp
     ·exact hall j (by omega)
    ·simp
     exact wrap64 (by omega) (by omega)
  ·refine AWp.cF (by simp [h2]) ?_
   refine AWp.exit ?_
   show AWp _ _ _ _
   refine AWp.seq ?_
   obtain rfl : i = k.sets.length := by omega
   refine AWp.g [2, 3, 6] [2, 3] ?_
   simp
   refine AWp.block (AWp.while (fun m : Nat => [(2, .ptr 2 0), (3, .ptr 3 0), (6, .i .i64 m)]) (fun m => [(2, [.sl .fro 1 (boolsAV k.sets), .sl .fro 2 (flrsAV k.counts), .i .i64 k.regs]), (3, [.sl .fro 1 (rrE w.sets), .sl .fro 1 (rrC w.tals), .sl .fro 1 (rrA w.accs), .sl .fro 1 (rrN w.regs)])]) (fun m => m ≤ k.counts.length ∧ ∀ j, j < m → cntAtK k w j = true) (fun m => k.counts.length - m) [2, 3, 6] [2, 3] 0 (by simp) (by simp) ?_)
   rintro m ⟨hm, hcn⟩
   refine AWp.seq ?_
   refine AWp.g [2, 3, 6, 88] [2, 3] ?_
   simp
   by_cases h4 : m < k.counts.length
   ·refine AWp.cT (by simp [h4]) ?_
    refine AWp.skip ?_
    show AWp _ _ _ _
    refine AWp.seq ?_
    refine AWp.block ?_
    have h5 : m < w.tals.length := by omega
    have h6 : m < w.accs.length := by omega
    refine AWp.step [2, 3, 6, 141] [2, 3] [(2, .ptr 2 0), (3, .ptr 3 0), (6, .i .i64 m), (141, .b (!cntAtK k w m))] [(2, [.sl .fro 1 (boolsAV k.sets), .sl .fro 2 (flrsAV k.counts), .i .i64 k.regs]), (3, [.sl .fro 1 (rrE w.sets), .sl .fro 1 (rrC w.tals), .sl .fro 1 (rrA w.accs), .sl .fro 1 (rrN w.regs)])] ?_ ?_
    ·have e : cntAtK k w m = cntOk k.counts[m] w.tals[m] w.accs[m] := by simp [cntAtK, h4, h5, h6]
     rw [e]
     simp [h4, h5, h6]
     refine call_pure (c_ref10_May w.tals[m] (hw.t1 _ (List.getElem_mem h5))) (by simp) ?_
     cases q1 : talB w.tals[m]
     ·simp [cntOk, q1]
     simp [h4, h5, h6]
     refine call_pure (c_ref11_Right w.accs[m] (hw.a1 _ (List.getElem_mem h6))) (by simp) ?_
     cases q2 : accB w.accs[m]
     ·simp [cntOk, q2]
     cases q3 : k.counts[m].is
     ·simp [h4, h5, h6, cntOk, q1, q2, q3]
     ·by_cases q4 : 0 < w.tals[m].length <;> simp [h4, h5, h6, cntOk, q1, q2, q3, q4]
    cases hp : cntAtK k w m
    ·refine AWp.cT (by simp) ?_
     refine AWp.g [4] [2, 3] ?_
     simp
     refine AWp.ret ?_
     simp [rawB_parts hq, range_not h4 hp]
    ·refine AWp.cF (by simp) ?_
     refine AWp.skip ?_
     show AWp _ _ _ _
     refine AWp.gL [2, 3, 6] [2, 3] ?_
     simp
     refine ⟨m + 1, ⟨by omega, fun j hj => ?_⟩, by omega, ?_⟩
     ·by_cases hji : j = m
      ·subst hji; exact hp
      ·exact hcn j (by omega)
     ·simp
      exact wrap64 (by omega) (by omega)
   ·refine AWp.cF (by simp [h4]) ?_
    refine AWp.exit ?_
    show AWp _ _ _ _
    refine AWp.seq ?_
    obtain rfl : m = k.counts.length := by omega
    refine AWp.g [2, 3, 7] [2, 3] ?_
    simp
    refine AWp.block (AWp.while (fun n : Nat => [(2, .ptr 2 0), (3, .ptr 3 0), (7, .i .i64 n)]) (fun n => [(2, [.sl .fro 1 (boolsAV k.sets), .sl .fro 2 (flrsAV k.counts), .i .i64 k.regs]), (3, [.sl .fro 1 (rrE w.sets), .sl .fro 1 (rrC w.tals), .sl .fro 1 (rrA w.accs), .sl .fro 1 (rrN w.regs)])]) (fun n => n ≤ w.regs.length ∧ ∀ j (hj : j < n) (hj2 : j < w.regs.length), ntsB w.regs[j] = true) (fun n => w.regs.length - n) [2, 3, 7] [2, 3] 0 (by simp) (by simp) ?_)
    rintro n ⟨hn, hnn⟩
    refine AWp.seq ?_
    refine AWp.g [2, 3, 7, 145] [2, 3] ?_
    simp
    by_cases h7 : n < w.regs.length
    ·refine AWp.cT (by simp; omega) ?_
     refine AWp.skip ?_
     show AWp _ _ _ _
     refine AWp.seq ?_
     refine AWp.block ?_
     refine AWp.g [2, 3, 7, 154] [2, 3] ?_
     simp [h7]
     refine call_p (c_ref12_May w.regs[n] (hw.n1 _ (List.getElem_mem h7))) ?_
     simp [h7]
     cases hp : ntsB w.regs[n]
     ·refine AWp.cT (by simp) ?_
      refine AWp.g [4] [2, 3] ?_
      simp
      refine AWp.ret ?_
      simp [rawB_parts hq, all_not h7 hp]
     ·refine AWp.cF (by simp) ?_
      refine AWp.skip ?_
      show AWp _ _ _ _
      refine AWp.gL [2, 3, 7] [2, 3] ?_
      simp
      refine ⟨n + 1, ⟨by omega, fun j hj hj2 => ?_⟩, by omega, ?_⟩
      ·by_cases hji : j = n
       ·subst hji; exact hp
       ·exact hnn j (by omega) hj2
      ·simp
       have := hw.n0
       exact wrap64 (by omega) (by omega)
    ·refine AWp.cF (by simp; omega) ?_
     refine AWp.exit ?_
     show AWp _ _ _ _
     obtain rfl : n = w.regs.length := by omega
     have e : rawB k w = true := by
      rw [rawB_parts hq, range_all hall, range_all hcn, all_of fun j hj => hnn j hj hj]
      rfl
     refine AWp.g [4] [2, 3] ?_
     simp
     refine AWp.ret ?_
     simp [e]
set_option maxRecDepth 8000 in
set_option maxHeartbeats 4000000 in
theorem c_ref13_copied (w : Rw) (hw : FineR w) : Pure Tryz.prog 63 [.agg (rwC w)] (.agg (rwO w)) := by
 have h1 := hw.s0
 have h2 := hw.t0
 have h3 := hw.a0
 have h4 := hw.n0
 refine proc_of (cx Tryz.prog 20 [1, 2] [2]) 19 [.cell 2 31] Tryz.func63 rfl rfl rfl rfl rfl rfl (Nat.le_refl _) rfl ?_
 refine AWp.g [1, 2] [1, 2] ?_
 simp [rwC]
 show AWp _ _ _ _
 refine AWp.stepA 16 (fun _ => .any) [2] [2] [(2, .ptr 2 0)] [(2, [.sl .own 1 (rrE w.sets), .sl .own 1 (rrC w.tals), .sl .own 1 (rrA w.accs), .sl .own 1 (rrN w.regs)])] mix (by kernel_rfl) ?_ ?_
 ·simp
  omega
 refine AWp.ret ?_
 simp [rwO]
end Go.AM
namespace Go.AM
open Go.Proofs
theorem rawB_set {k : Kin} {w : Rw} (h : rawB k w = true) {i : Nat} (h1 : i < k.sets.length) (h2 : i < w.sets.length) (hk : k.sets[i] = true) : setOk w.sets[i] = true := by
 simp only [rawB, Bool.and_eq_true, List.all_eq_true] at h
 have := h.1.1.2 i (by simpa using h1)
 simpa [setAtK, h1, h2, setK, hk] using this
set_option maxRecDepth 8000 in
set_option maxHeartbeats 4000000 in
theorem c_ref13_Plain (k : Kin) (w : Rw) (hk : FineK k) (hw : FineR w) (hR : rawB k w = true) : Pure Tryz.prog 32 [.agg (kinC k), .agg (rwC w)] (.agg (rwO (turnR plainE k w))) := by
 have gp := c_ref13_copied w hw
 simp [rwC, rwO] at gp
 have hk1 := hk.1
 have hlo := hR
 simp only [rawB, Bool.and_eq_true] at hlo
 obtain ⟨e1, e2, e3, e4⟩ := lenOk_iff hlo.1.1.1.2
 refine proc_of (cx Tryz.prog 32 [2, 3, 4, 5, 6, 13, 20] [4]) 30 [.cell 4 31] Tryz.func32 rfl rfl rfl rfl rfl rfl (Nat.le_refl _) rfl ?_
 refine AWp.g [2, 3, 4] [2, 3, 4] ?_
 simp [kinC, rwC]
 refine AWp.g [2, 4, 5] [2, 4, 5] ?_
 simp
 refine call_pure gp (by simp) ?_
 simp
 refine AWp.seq ?_
 refine AWp.g [2, 4, 5, 6] [2, 4, 5] ?_
 simp
 refine AWp.block (AWp.while (fun i : Nat => [(2, .ptr 2 0), (4, .ptr 4 0), (5, .ptr 5 0), (6, .i .i64 i)]) (fun i => [(2, [.sl .fro 1 (boolsAV k.sets), .sl .fro 2 (flrsAV k.counts), .i .i64 k.regs]), (4, [.sl .nl 1 [], .sl .nl 1 [], .sl .nl 1 [], .sl .nl 1 []]), (5, [.sl .own 1 (rrE (tuTo plainE k.sets w.sets i)), .sl .own 1 (rrC w.tals), .sl .own 1 (rrA w.accs), .sl .own 1 (rrN w.regs)])]) (fun i => i ≤ k.sets.length) (fun i => k.sets.length - i) [2, 4, 5, 6] [2, 4, 5] 0 (by simp) (by simp) ?_)
 intro i hi
 refine AWp.seq ?_
 refine AWp.g [2, 4, 5, 6, 13] [2, 4, 5] ?_
 simp
 by_cases h2 : i < k.sets.length
 ·refine AWp.cT (by simp [h2]) ?_
  refine AWp.skip ?_
  show AWp _ _ _ _
  refine AWp.seq ?_
  refine AWp.block ?_
  refine AWp.g [2, 4, 5, 6, 20] [2, 4, 5] ?_
  simp [h2]
  cases hd : k.sets[i]
  ·refine AWp.cF (by simp) ?_
   refine AWp.skip ?_
   show AWp _ _ _ _
   refine AWp.gL [2, 4, 5, 6] [2, 4, 5] ?_
   simp
   refine ⟨i + 1, by omega, by omega, ?_⟩
   rw [tuTo_skip plainE k.sets w.sets i h2 hd]
   simp
   exact wrap64 (by omega) (by omega)
  ·refine AWp.cT (by simp) ?_
   have h3 : i < w.sets.length := by omega
   have hset := rawB_set hR h2 h3 hd
   have g9 := c_ref09_Plain w.sets[i] (hw.s1 _ (List.getElem_mem h3)) (fun j hj => Nat.le_trans (putsTo_small bare (fun _ => rfl) (setOk_sort hset) j hj) (hw.s1 _ (List.getElem_mem h3)).1); rw [← plain_law hset] at g9
   have hs := rrE_set (tuTo plainE k.sets w.sets i) i (plainE w.sets[i])
   rw [tuTo_set plainE k.sets w.sets i h3 h2 hd] at hs
   refine AWp.lastD 9 (fun n => if n = 8 then .sl .fro 3 (entsAV (plainE w.sets[i])) else .any) [2, 4, 5, 6] [2, 4, 5] [(2, .ptr 2 0), (4, .ptr 4 0), (5, .ptr 5 0), (6, .i .i64 i)] [(2, [.sl .fro 1 (boolsAV k.sets), .sl .fro 2 (flrsAV k.counts), .i .i64 k.regs]), (4, [.sl .nl 1 [], .sl .nl 1 [], .sl .nl 1 [], .sl .nl 1 []]), (5, [.sl .own 1 (rrE (tuTo plainE k.sets w.sets (i + 1))), .sl .own 1 (rrC w.tals), .sl .own 1 (rrA w.accs), .sl .own 1 (rrN w.regs)])] mix (by kernel_rfl) ?_ ?_
   ·simp [h3, g9, hs]
   show AWp _ _ _ _
   refine AWp.gL [2, 4, 5, 6] [2, 4, 5] ?_
   simp
   refine ⟨i + 1, by omega, by omega, ?_⟩
   simp
   exact wrap64 (by omega) (by omega)
 ·refine AWp.cF (by simp [h2]) ?_
  refine AWp.exit ?_
  show AWp _ _ _ _
  obtain rfl : i = k.sets.length := by omega
  refine AWp.g [4] [2, 4, 5] ?_
  simp
  refine AWp.ret ?_
  simp [rwO, turnR]
def cleanF (c : List Int) (s : List Entry) : List Entry := cleanE s c
theorem cleanR_eq {k : Kin} {w : Rw} {c : List Int} (h : rawB k w = true) (hc : clockOk c = true) : cleanR k w c = turnR (cleanF c) k w := by
 unfold cleanR
 rw [h, hc]
 rfl
set_option maxRecDepth 8000 in
set_option maxHeartbeats 4000000 in
theorem c_ref13_Clean (k : Kin) (w : Rw) (c : List Int) (hc : c.length ≤ 1000000) (hc2 : clockOk c = true)(hk : FineK k) (hw : FineR w) (hR : rawB k w = true) : Pure Tryz.prog 34 [.agg (kinC k), .agg (rwC w), .sl .fro 1 (intsAV c)] (.agg (rwO (turnR (cleanF c) k w))) := by
 have gp := c_ref13_copied w hw
 simp [rwC, rwO] at gp
 have hk1 := hk.1
 have hlo := hR
 simp only [rawB, Bool.and_eq_true] at hlo
 obtain ⟨e1, e2, e3, e4⟩ := lenOk_iff hlo.1.1.1.2
 refine proc_of (cx Tryz.prog 35 [2, 3, 4, 6, 7, 8, 15, 22] [6]) 32 [.cell 6 31] Tryz.func34 rfl rfl rfl rfl rfl rfl (Nat.le_refl _) rfl ?_
 refine AWp.g [2, 3, 4, 6] [3, 4, 6] ?_
 simp [kinC, rwC]
 refine AWp.g [2, 3, 6, 7] [3, 6, 7] ?_
 simp
 refine call_pure gp (by simp) ?_
 simp
 refine AWp.seq ?_
 refine AWp.g [2, 3, 6, 7, 8] [3, 6, 7] ?_
 simp
 refine AWp.block (AWp.while (fun i : Nat => [(2, .sl .fro 1 (intsAV c)), (3, .ptr 3 0), (6, .ptr 6 0), (7, .ptr 7 0), (8, .i .i64 i)]) (fun i => [(3, [.sl .fro 1 (boolsAV k.sets), .sl .fro 2 (flrsAV k.counts), .i .i64 k.regs]), (6, [.sl .nl 1 [], .sl .nl 1 [], .sl .nl 1 [], .sl .nl 1 []]), (7, [.sl .own 1 (rrE (tuTo (cleanF c) k.sets w.sets i)), .sl .own 1 (rrC w.tals), .sl .own 1 (rrA w.accs), .sl .own 1 (rrN w.regs)])]) (fun i => i ≤ k.sets.length) (fun i => k.sets.length - i) [2, 3, 6, 7, 8] [3, 6, 7] 0 (by simp) (by simp) ?_)
 intro i hi
 refine AWp.seq ?_
 refine AWp.g [2, 3, 6, 7, 8, 15] [3, 6, 7] ?_
 simp
 by_cases h2 : i < k.sets.length
 ·refine AWp.cT (by simp [h2]) ?_
  refine AWp.skip ?_
  show AWp _ _ _ _
  refine AWp.seq ?_
  refine AWp.block ?_
  refine AWp.g [2, 3, 6, 7, 8, 22] [3, 6, 7] ?_
  simp [h2]
  cases hd : k.sets[i]
  ·refine AWp.cF (by simp) ?_
   refine AWp.skip ?_
   show AWp _ _ _ _
   refine AWp.gL [2, 3, 6, 7, 8] [3, 6, 7] ?_
   simp
   refine ⟨i + 1, by omega, by omega, ?_⟩
   rw [tuTo_skip (cleanF c) k.sets w.sets i h2 hd]
   simp
   exact wrap64 (by omega) (by omega)
  ·refine AWp.cT (by simp) ?_
   have h3 : i < w.sets.length := by omega
   have hset := rawB_set hR h2 h3 hd
   have g9 := c_ref09_Clean w.sets[i] c (hw.s1 _ (List.getElem_mem h3)) hc (fun j hj => Nat.le_trans (putsTo_small (lessen c) (fun _ => rfl) (setOk_sort hset) j hj) (hw.s1 _ (List.getElem_mem h3)).1); rw [← clean_law hset hc2] at g9; change Pure _ _ _ (.sl .fro 3 (entsAV (cleanF c w.sets[i]))) at g9
   have hs := rrE_set (tuTo (cleanF c) k.sets w.sets i) i (cleanF c w.sets[i])
   rw [tuTo_set (cleanF c) k.sets w.sets i h3 h2 hd] at hs
   refine AWp.lastD 10 (fun n => if n = 9 then .sl .fro 3 (entsAV (cleanF c w.sets[i])) else .any) [2, 3, 6, 7, 8] [3, 6, 7] [(2, .sl .fro 1 (intsAV c)), (3, .ptr 3 0), (6, .ptr 6 0), (7, .ptr 7 0), (8, .i .i64 i)] [(3, [.sl .fro 1 (boolsAV k.sets), .sl .fro 2 (flrsAV k.counts), .i .i64 k.regs]), (6, [.sl .nl 1 [], .sl .nl 1 [], .sl .nl 1 [], .sl .nl 1 []]), (7, [.sl .own 1 (rrE (tuTo (cleanF c) k.sets w.sets (i + 1))), .sl .own 1 (rrC w.tals), .sl .own 1 (rrA w.accs), .sl .own 1 (rrN w.regs)])] mix (by kernel_rfl) ?_ ?_
   ·simp [h3, g9, hs]
   show AWp _ _ _ _
   refine AWp.gL [2, 3, 6, 7, 8] [3, 6, 7] ?_
   simp
   refine ⟨i + 1, by omega, by omega, ?_⟩
   simp
   exact wrap64 (by omega) (by omega)
 ·refine AWp.cF (by simp [h2]) ?_
  refine AWp.exit ?_
  show AWp _ _ _ _
  obtain rfl : i = k.sets.length := by omega
  refine AWp.g [6] [3, 6, 7] ?_
  simp
  refine AWp.ret ?_
  simp [rwO, turnR]
theorem rwC_no : rwC noR = [.sl .fro 1 [], .sl .fro 1 [], .sl .fro 1 [], .sl .fro 1 []] := rfl
set_option maxRecDepth 8000 in
theorem c_law13_none (w : Rw) (hw : FineR w) : Pure Tryz.prog 18 [.agg (rwC w)] (.b (sameR w noR)) := by
 have g := c_ref13_Same w noR hw ⟨by simp [noR], by simp [noR], by simp [noR], by simp [noR], by simp [noR], by simp [noR], by simp [noR], by simp [noR]⟩
 rw [rwC_no] at g
 simp [rwC] at g
 refine proc_of (cx Tryz.prog 6 [1, 2] [2]) 5 [.tmp 2] Tryz.func18 rfl rfl rfl rfl rfl rfl (Nat.le_refl _) rfl ?_
 refine AWp.g [1] [1] ?_
 simp [rwC]
 refine AWp.g [2] [] ?_
 simp
 refine call_pure g (by simp) ?_
 simp
 refine AWp.ret ?_
 simp
end Go.AM
namespace Go.AM
open Go.Proofs
set_option maxRecDepth 8000 in
set_option maxHeartbeats 1000000 in
theorem c_ref02_Num (u : Nat) (hu : u < 18446744073709551616) : Pure Tryz.prog 159 [.i .u64 u] (.sl .own 1 (bytesAV (numL u))) := by
 have hl8 := numL_len hu
 simp [numL] at hl8
 refine proc_of (cx Tryz.prog 21 [0, 2, 3, 6] [2]) 20 [.tmp 2] Tryz.func159 rfl rfl rfl rfl rfl rfl (Nat.le_refl _) rfl ?_
 refine AWp.g [0] [] ?_
 simp
 refine AWp.step [0, 3] [] [(0, .i .u64 u), (3, .sl .own 1 (bytesAV []))] [] ?_ ?_
 ·simp [bytesAV]
 refine AWp.seq ?_
 refine AWp.block (AWp.while (fun p : Nat × List Int => [(0, .i .u64 p.1), (3, .sl .own 1 (bytesAV p.2))]) (fun p => []) (fun p => digsL p.1 ++ p.2 = digsL u ∧ p.1 ≤ u) (fun p => p.1) [0, 3] [] (u, []) (by exact ⟨List.append_nil _, Nat.le_refl _⟩) (by simp) ?_)
 rintro ⟨v, t⟩ ⟨hN, hvu⟩
 dsimp only at hN hvu
 try dsimp only
 have htl : t.length ≤ 8 := by have := congrArg List.length hN; rw [List.length_append] at this; omega
 refine AWp.seq ?_
 refine AWp.g [0, 3, 6] [] ?_
 simp
 by_cases h : 0 < v
 ·refine AWp.cT (by simp [h]) ?_
  refine AWp.skip ?_
  show AWp _ _ _ _
  refine AWp.block ?_
  have w5 : IntKind.u8.wrap ((v : Int) % 256) = ((v % 256 : Nat) : Int) := by rw [wrap8]; omega
  have w6 : IntKind.u64.wrap ((v : Int).tmod 256) = (v : Int) % 256 := by rw [Int.tmod_eq_emod_of_nonneg (by omega), wrapU (by omega) (by omega)]
  have w7 : (v : Int).tmod 256 = (v : Int) % 256 := Int.tmod_eq_emod_of_nonneg (by omega)
  refine AWp.step [0, 3] [] [(0, .i .u64 v), (3, .sl .own 1 (bytesAV (((v % 256 : Nat) : Int) :: t)))] [] ?_ ?_
  ·simp [w5, w6, w7, bytesAV]
   omega
  refine AWp.last [0, 3] [] [(0, .i .u64 (v / 256 : Nat)), (3, .sl .own 1 (bytesAV (((v % 256 : Nat) : Int) :: t)))] [] ?_ ?_
  ·have w8 : (v : Int).tdiv 256 = ((v / 256 : Nat) : Int) := by rw [Int.tdiv_eq_ediv_of_nonneg (by omega)]; omega
   have w9 : IntKind.u64.wrap ((v : Int).tdiv 256) = ((v / 256 : Nat) : Int) := by rw [w8, wrapU (by omega) (by omega)]
   have w10 : IntKind.u64.wrap ((v : Int) / 256) = (v : Int) / 256 := wrapU (by omega) (by omega)
   simp [w8, w9, w10]
  refine ⟨(v / 256, ((v % 256 : Nat) : Int) :: t), ⟨by rw [← hN, digsL_pos (show v ≠ 0 by omega), List.append_assoc]; rfl, by simp only; omega⟩, by simp only; omega, ?_⟩
  simp
 ·refine AWp.cF (by simp [h]) ?_
  refine AWp.exit ?_
  show AWp _ _ _ _
  obtain rfl : v = 0 := by omega
  rw [digsL_zero, List.nil_append] at hN
  have w4 : IntKind.u8.wrap ((digsL u).length : Int) = (digsL u).length := by rw [wrap8]; omega
  rw [hN]
  refine AWp.step [2] [] [(2, .sl .own 1 (bytesAV (numL u)))] [] ?_ ?_
  ·simp [w4, numL, bytesAV]
   omega
  refine AWp.ret ?_
  simp
set_option maxRecDepth 8000 in
theorem c_ref02_Text (l : List Int) (hl : l.length ≤ 100000000000000) : Pure Tryz.prog 160 [.sl .fro 1 (bytesAV l)] (.sl .own 1 (bytesAV (textL l))) := by
 have w1 : IntKind.u64.wrap (l.length : Int) = l.length := wrapU (by omega) (by omega)
 have hn := numL_len (u := l.length) (by omega)
 refine proc_of (cx Tryz.prog 9 [0, 2] [2]) 8 [.tmp 2] Tryz.func160 rfl rfl rfl rfl rfl rfl (Nat.le_refl _) rfl ?_
 refine AWp.g [0] [] ?_
 simp
 refine AWp.g [2] [] ?_
 simp [w1]
 refine call_p (c_ref02_Num l.length (by omega)) ?_
 simp [w1]
 refine ⟨by omega, ?_⟩
 refine AWp.ret ?_
 simp [textL, bytesAV_append]
set_option maxRecDepth 8000 in
set_option maxHeartbeats 1000000 in
theorem c_ref02_Pack (l : List (List Int)) (hl : (packL l).length ≤ 100000000000000) : Pure Tryz.prog 93 [.sl .fro 1 (bsAV l)] (.sl .own 1 (bytesAV (packL l))) := by
 have hc := packL_count l
 have w1 : IntKind.u64.wrap (l.length : Int) = l.length := wrapU (by omega) (by omega)
 refine proc_of (cx Tryz.prog 23 [0, 2, 3, 4, 12] [2]) 22 [.tmp 2] Tryz.func93 rfl rfl rfl rfl rfl rfl (Nat.le_refl _) rfl ?_
 refine AWp.g [0] [] ?_
 simp
 refine AWp.g [0, 3] [] ?_
 simp [w1]
 refine call_p (c_ref02_Num l.length (by omega)) ?_
 simp [w1]
 refine AWp.seq ?_
 refine AWp.g [0, 3, 4] [] ?_
 simp
 refine AWp.block (AWp.while (fun i : Nat => [(0, .sl .fro 1 (bsAV l)), (3, .sl .own 1 (bytesAV (packTo l i))), (4, .i .i64 i)]) (fun i => []) (fun i => i ≤ l.length) (fun i => l.length - i) [0, 3, 4] [] 0 (by simp) (by simp [packTo]) ?_)
 intro i hi
 refine AWp.seq ?_
 refine AWp.g [0, 3, 4, 12] [] ?_
 simp
 by_cases h : i < l.length
 ·refine AWp.cT (by simp [h]) ?_
  refine AWp.skip ?_
  show AWp _ _ _ _
  refine AWp.seq ?_
  refine AWp.block ?_
  have hm := packL_mem (List.getElem_mem h)
  have hs := packTo_le l (i + 1)
  rw [packTo_succ l i h, List.length_append] at hs
  refine AWp.last [0, 3, 4] [] [(0, .sl .fro 1 (bsAV l)), (3, .sl .own 1 (bytesAV (packTo l (i + 1)))), (4, .i .i64 i)] [] ?_ ?_
  ·simp [h]
   refine call_p (c_ref02_Text l[i] (by omega)) ?_
   simp [packTo_succ l i h, bytesAV_append]
   omega
  show AWp _ _ _ _
  refine AWp.gL [0, 3, 4] [] ?_
  simp
  refine ⟨i + 1, by omega, by omega, ?_⟩
  simp
  exact wrap64 (by omega) (by omega)
 ·refine AWp.cF (by simp [h]) ?_
  refine AWp.exit ?_
  show AWp _ _ _ _
  obtain rfl : i = l.length := by omega
  rw [packTo_all]
  refine AWp.g [2] [] ?_
  simp
  refine AWp.ret ?_
  simp
set_option maxRecDepth 8000 in
theorem c_ref13_nat (n : Int) (h0 : 0 ≤ n) (h1 : n < 9223372036854775808) : Pure Tryz.prog 92 [.i .i64 n] (.sl .own 1 (bytesAV (numL n.toNat))) := by
 have w1 : IntKind.u64.wrap n = (n.toNat : Int) := by rw [wrapU (by omega) (by omega)]; omega
 refine proc_of (cx Tryz.prog 6 [0, 2] [2]) 5 [.tmp 2] Tryz.func92 rfl rfl rfl rfl rfl rfl (Nat.le_refl _) rfl ?_
 refine AWp.g [0] [] ?_
 simp
 refine AWp.g [2] [] ?_
 simp [w1]
 refine call_p (c_ref02_Num n.toNat (by omega)) ?_
 simp [w1]
 refine AWp.ret ?_
 simp
set_option maxRecDepth 8000 in
theorem c_ref13_num (n : Int) (h0 : -1152921504606846976 ≤ n) (h1 : n ≤ 1152921504606846976) : Pure Tryz.prog 94 [.i .i64 n] (.sl .own 1 (bytesAV (numL (zigN n)))) := by
 refine proc_of (cx Tryz.prog 14 [0, 2, 4] [2]) 13 [.tmp 2] Tryz.func94 rfl rfl rfl rfl rfl rfl (Nat.le_refl _) rfl ?_
 refine AWp.g [0] [] ?_
 simp
 refine AWp.seq ?_
 refine AWp.g [0, 4] [] ?_
 simp
 by_cases h : 0 ≤ n
 ·refine AWp.cT (by simp [h]) ?_
  have w1 : IntKind.i64.wrap (2 * n) = 2 * n := wrap64 (by omega) (by omega)
  have w2 : IntKind.u64.wrap (2 * n) = (zigN n : Int) := by rw [wrapU (by omega) (by omega)]; unfold zigN; rw [if_neg (by omega)]; omega
  refine AWp.g [2] [] ?_
  simp [w1, w2]
  refine call_p (c_ref02_Num (zigN n) (by unfold zigN; rw [if_neg (by omega)]; omega)) ?_
  simp [w1, w2]
  refine AWp.ret ?_
  simp
 ·refine AWp.cF (by simp [h]) ?_
  refine AWp.skip ?_
  show AWp _ _ _ _
  have w1' : IntKind.i64.wrap (-2 * n) = -2 * n := wrap64 (by omega) (by omega)
  have w2 : IntKind.i64.wrap (-2 * n - 1) = -2 * n - 1 := wrap64 (by omega) (by omega)
  have w3 : IntKind.u64.wrap (-2 * n - 1) = (zigN n : Int) := by rw [wrapU (by omega) (by omega)]; unfold zigN; rw [if_pos (by omega)]; omega
  refine AWp.g [2] [] ?_
  simp [w1', w2, w3]
  refine call_p (c_ref02_Num (zigN n) (by unfold zigN; rw [if_pos (by omega)]; omega)) ?_
  simp [w1', w2, w3]
  refine AWp.ret ?_
  simp
end Go.AM
namespace Go.AM
open Go.Proofs
theorem parts_s {w : Rw} {x : List Entry} (h : x ∈ w.sets) {B : Nat} (hb : (rawL w).length ≤ B) : (setL x).length ≤ B := Nat.le_trans (rawParts_le (by simp [rawParts]; exact .inl ⟨_, h, rfl⟩)) hb
theorem parts_t {w : Rw} {x : List Cel} (h : x ∈ w.tals) {B : Nat} (hb : (rawL w).length ≤ B) : (talL x).length ≤ B := Nat.le_trans (rawParts_le (by simp [rawParts]; exact .inr (.inl ⟨_, h, rfl⟩))) hb
theorem parts_a {w : Rw} {x : List Acc} (h : x ∈ w.accs) {B : Nat} (hb : (rawL w).length ≤ B) : (acsL x).length ≤ B := Nat.le_trans (rawParts_le (by simp [rawParts]; exact .inr (.inr (.inl ⟨_, h, rfl⟩)))) hb
theorem parts_n {w : Rw} {x : List Nt} (h : x ∈ w.regs) {B : Nat} (hb : (rawL w).length ≤ B) : (ntsL x).length ≤ B := Nat.le_trans (rawParts_le (by simp [rawParts]; exact .inr (.inr (.inr ⟨_, h, rfl⟩)))) hb
set_option maxRecDepth 8000 in
set_option maxHeartbeats 16000000 in
theorem c_ref13_Bytes (w : Rw) (hw : FineR w) (hg : GoodR w) (hb : (rawL w).length ≤ 100000000000000) : Pure Tryz.prog 28 [.agg (rwC w)] (.sl .own 1 (bytesAV (rawL w))) := by
 have s0 := hw.s0
 have t0 := hw.t0
 have a0 := hw.a0
 have n0 := hw.n0
 refine proc_of (cx Tryz.prog 262 [1, 2, 3, 4, 5, 6, 7, 8, 9, 10, 11, 12, 13, 14, 15, 16, 17, 18, 19, 20, 26, 37, 62, 110, 121, 158, 169, 184, 216, 227] [2]) 261 [.tmp 2] Tryz.func28 rfl rfl rfl rfl rfl rfl (Nat.le_refl _) rfl ?_
 refine AWp.g [1] [1] ?_
 simp [rwC]
 refine AWp.step [1, 3] [1] [(1, .ptr 1 0), (3, .sl .own 1 (bsAV []))] [(1, [.sl .fro 1 (rrE w.sets), .sl .fro 1 (rrC w.tals), .sl .fro 1 (rrA w.accs), .sl .fro 1 (rrN w.regs)])] ?_ ?_
 ·simp [bsAV]
 refine AWp.seq ?_
 refine AWp.g [1, 3, 4] [1] ?_
 simp
 refine AWp.block (AWp.while (fun i : Nat => [(1, .ptr 1 0), (3, .sl .own 1 (bsAV ((w.sets.map setL).take i))), (4, .i .i64 i)]) (fun i => [(1, [.sl .fro 1 (rrE w.sets), .sl .fro 1 (rrC w.tals), .sl .fro 1 (rrA w.accs), .sl .fro 1 (rrN w.regs)])]) (fun i => i ≤ w.sets.length) (fun i => w.sets.length - i) [1, 3, 4] [1] 0 (by simp) (by simp) ?_)
 intro i hi
 refine AWp.seq ?_
 refine AWp.g [1, 3, 4, 26] [1] ?_
 simp
 by_cases h : i < w.sets.length
 ·refine AWp.cT (by simp [h]) ?_
  refine AWp.skip ?_
  show AWp _ _ _ _
  refine AWp.seq ?_
  refine AWp.block ?_
  have hf := hw.s1 _ (List.getElem_mem h)
  have hgs := hg.s _ (List.getElem_mem h)
  have hps := parts_s (List.getElem_mem h) hb
  obtain ⟨s, hs⟩ : ∃ s, s = w.sets[i] := ⟨_, rfl⟩
  rw [← hs] at hf hgs hps
  have hsl := hf.1
  refine AWp.step [1, 3, 4, 5] [1] [(1, .ptr 1 0), (3, .sl .own 1 (bsAV ((w.sets.map setL).take i))), (4, .i .i64 i), (5, .sl .own 1 (bsAV []))] [(1, [.sl .fro 1 (rrE w.sets), .sl .fro 1 (rrC w.tals), .sl .fro 1 (rrA w.accs), .sl .fro 1 (rrN w.regs)])] ?_ ?_
  ·simp [bsAV]
  refine AWp.seq ?_
  refine AWp.g [1, 3, 4, 5, 6] [1] ?_
  simp
  refine AWp.block (AWp.while (fun j : Nat => [(1, .ptr 1 0), (3, .sl .own 1 (bsAV ((w.sets.map setL).take i))), (4, .i .i64 i), (5, .sl .own 1 (bsAV ((s.map fun e => packL (enL e)).take j))), (6, .i .i64 j)]) (fun j => [(1, [.sl .fro 1 (rrE w.sets), .sl .fro 1 (rrC w.tals), .sl .fro 1 (rrA w.accs), .sl .fro 1 (rrN w.regs)])]) (fun j => j ≤ s.length) (fun j => s.length - j) [1, 3, 4, 5, 6] [1] 0 (by simp) (by simp) ?_)
  intro j hj
  refine AWp.seq ?_
  refine AWp.g [1, 3, 4, 5, 6, 37] [1] ?_
  simp [h, ← hs]
  by_cases h2 : j < s.length
  ·refine AWp.cT (by simp [h2]) ?_
   refine AWp.skip ?_
   show AWp _ _ _ _
   refine AWp.seq ?_
   refine AWp.block ?_
   have hl := (hf.2 _ (List.getElem_mem h2)).1
   have hd := hgs _ (List.getElem_mem h2)
   have hel := packL_el (fun e => packL (enL e)) h2
   obtain ⟨e, he⟩ : ∃ e, e = s[j] := ⟨_, rfl⟩
   rw [← he] at hl hd hel
   refine AWp.step [1, 3, 4, 5, 6, 7] [1] [(1, .ptr 1 0), (3, .sl .own 1 (bsAV ((w.sets.map setL).take i))), (4, .i .i64 i), (5, .sl .own 1 (bsAV ((s.map fun e => packL (enL e)).take j))), (6, .i .i64 j), (7, .sl .own 1 (bsAV (entTo e 0)))] [(1, [.sl .fro 1 (rrE w.sets), .sl .fro 1 (rrC w.tals), .sl .fro 1 (rrA w.accs), .sl .fro 1 (rrN w.regs)])] ?_ ?_
   ·simp [h, ← hs, h2, ← he, entTo]
   refine AWp.seq ?_
   refine AWp.g [1, 3, 4, 5, 6, 7, 8] [1] ?_
   simp
   refine AWp.block (AWp.while (fun n : Nat => [(1, .ptr 1 0), (3, .sl .own 1 (bsAV ((w.sets.map setL).take i))), (4, .i .i64 i), (5, .sl .own 1 (bsAV ((s.map fun e => packL (enL e)).take j))), (6, .i .i64 j), (7, .sl .own 1 (bsAV (entTo e n))), (8, .i .i64 n)]) (fun n => [(1, [.sl .fro 1 (rrE w.sets), .sl .fro 1 (rrC w.tals), .sl .fro 1 (rrA w.accs), .sl .fro 1 (rrN w.regs)])]) (fun n => n ≤ e.live.length) (fun n => e.live.length - n) [1, 3, 4, 5, 6, 7, 8] [1] 0 (by simp) (by simp) ?_)
   intro n hn
   refine AWp.seq ?_
   refine AWp.g [1, 3, 4, 5, 6, 7, 8, 62] [1] ?_
   simp [h, ← hs, h2, ← he]
   by_cases h3 : n < e.live.length
   ·refine AWp.cT (by simp [h3]) ?_
    refine AWp.skip ?_
    show AWp _ _ _ _
    refine AWp.seq ?_
    refine AWp.block ?_
    obtain ⟨d1, d2, d3, d4⟩ := mayD_nat (hd _ (List.getElem_mem h3))
    have g1 := (c_ref13_nat e.live[n].1 d1 d2).fro
    have g2 := (c_ref13_nat e.live[n].2 d3 d4).fro
    have hL := entTo_len e n (by omega)
    simp at g1 g2
    refine AWp.lastA 30 (fun z => if z = 14 then .sl .fro 1 (bytesAV (numL e.live[n].1.toNat)) else if z = 28 then .sl .fro 1 (bytesAV (numL e.live[n].2.toNat)) else .any) [1, 3, 4, 5, 6, 7, 8] [1] [(1, .ptr 1 0), (3, .sl .own 1 (bsAV ((w.sets.map setL).take i))), (4, .i .i64 i), (5, .sl .own 1 (bsAV ((s.map fun e => packL (enL e)).take j))), (6, .i .i64 j), (7, .sl .own 1 (bsAV (entTo e (n + 1)))), (8, .i .i64 n)] [(1, [.sl .fro 1 (rrE w.sets), .sl .fro 1 (rrC w.tals), .sl .fro 1 (rrA w.accs), .sl .fro 1 (rrN w.regs)])] mix (by kernel_rfl) ?_ ?_
    ·simp [h, ← hs, h2, ← he, h3, g1, g2, entTo_succ e n h3, bsAV_append, dotL, hL]
     simp [bsAV]
     omega
    show AWp _ _ _ _
    refine AWp.gL [1, 3, 4, 5, 6, 7, 8] [1] ?_
    simp
    refine ⟨n + 1, by omega, by omega, ?_⟩
    simp
    exact wrap64 (by omega) (by omega)
   ·refine AWp.cF (by simp [h3]) ?_
    refine AWp.exit ?_
    show AWp _ _ _ _
    obtain rfl : n = e.live.length := by omega
    have gp := (c_ref02_Pack (enL e) (by unfold setL at hps; omega)).fro
    simp at gp
    refine AWp.last [1, 3, 4, 5, 6] [1] [(1, .ptr 1 0), (3, .sl .own 1 (bsAV ((w.sets.map setL).take i))), (4, .i .i64 i), (5, .sl .own 1 (bsAV ((s.map fun e => packL (enL e)).take (j + 1)))), (6, .i .i64 j)] [(1, [.sl .fro 1 (rrE w.sets), .sl .fro 1 (rrC w.tals), .sl .fro 1 (rrA w.accs), .sl .fro 1 (rrN w.regs)])] ?_ ?_
    ·rw [entTo_all]
     simp
     refine call_p gp ?_
     rw [he] at *
     simp [map_snoc _ s j h2, bsAV_append]
     omega
    show AWp _ _ _ _
    refine AWp.gL [1, 3, 4, 5, 6] [1] ?_
    simp
    refine ⟨j + 1, by omega, by omega, ?_⟩
    simp
    exact wrap64 (by omega) (by omega)
  ·refine AWp.cF (by simp [h2]) ?_
   refine AWp.exit ?_
   show AWp _ _ _ _
   obtain rfl : j = s.length := by omega
   have gp := (c_ref02_Pack (s.map fun e => packL (enL e)) hps).fro
   simp at gp
   refine AWp.last [1, 3, 4] [1] [(1, .ptr 1 0), (3, .sl .own 1 (bsAV ((w.sets.map setL).take (i + 1)))), (4, .i .i64 i)] [(1, [.sl .fro 1 (rrE w.sets), .sl .fro 1 (rrC w.tals), .sl .fro 1 (rrA w.accs), .sl .fro 1 (rrN w.regs)])] ?_ ?_
   ·rw [map_all]
    simp
    refine call_p gp ?_
    simp [map_snoc _ w.sets i h, ← hs, bsAV_append, setL]
    omega
   show AWp _ _ _ _
   refine AWp.gL [1, 3, 4] [1] ?_
   simp
   refine ⟨i + 1, by omega, by omega, ?_⟩
   simp
   exact wrap64 (by omega) (by omega)
 ·refine AWp.cF (by simp [h]) ?_
  refine AWp.exit ?_
  show AWp _ _ _ _
  refine AWp.seq ?_
  obtain rfl : i = w.sets.length := by omega
  rw [map_all]
  refine AWp.g [1, 3, 9] [1] ?_
  simp
  refine AWp.block (AWp.while (fun i : Nat => [(1, .ptr 1 0), (3, .sl .own 1 (bsAV (w.sets.map setL ++ (w.tals.map talL).take i))), (9, .i .i64 i)]) (fun i => [(1, [.sl .fro 1 (rrE w.sets), .sl .fro 1 (rrC w.tals), .sl .fro 1 (rrA w.accs), .sl .fro 1 (rrN w.regs)])]) (fun i => i ≤ w.tals.length) (fun i => w.tals.length - i) [1, 3, 9] [1] 0 (by simp) (by simp) ?_)
  intro i hi
  refine AWp.seq ?_
  refine AWp.g [1, 3, 9, 110] [1] ?_
  simp
  by_cases h : i < w.tals.length
  ·refine AWp.cT (by simp [h]) ?_
   refine AWp.skip ?_
   show AWp _ _ _ _
   refine AWp.seq ?_
   refine AWp.block ?_
   have hf := hw.t1 _ (List.getElem_mem h)
   have hgs := hg.t _ (List.getElem_mem h)
   have hps := parts_t (List.getElem_mem h) hb
   obtain ⟨s, hs⟩ : ∃ s, s = w.tals[i] := ⟨_, rfl⟩
   rw [← hs] at hf hgs hps
   refine AWp.step [1, 3, 9, 10] [1] [(1, .ptr 1 0), (3, .sl .own 1 (bsAV (w.sets.map setL ++ (w.tals.map talL).take i))), (9, .i .i64 i), (10, .sl .own 1 (bsAV []))] [(1, [.sl .fro 1 (rrE w.sets), .sl .fro 1 (rrC w.tals), .sl .fro 1 (rrA w.accs), .sl .fro 1 (rrN w.regs)])] ?_ ?_
   ·simp [bsAV]
   refine AWp.seq ?_
   refine AWp.g [1, 3, 9, 10, 11] [1] ?_
   simp
   refine AWp.block (AWp.while (fun j : Nat => [(1, .ptr 1 0), (3, .sl .own 1 (bsAV (w.sets.map setL ++ (w.tals.map talL).take i))), (9, .i .i64 i), (10, .sl .own 1 (bsAV ((s.map fun c => packL (celL c)).take j))), (11, .i .i64 j)]) (fun j => [(1, [.sl .fro 1 (rrE w.sets), .sl .fro 1 (rrC w.tals), .sl .fro 1 (rrA w.accs), .sl .fro 1 (rrN w.regs)])]) (fun j => j ≤ s.length) (fun j => s.length - j) [1, 3, 9, 10, 11] [1] 0 (by simp) (by simp) ?_)
   intro j hj
   refine AWp.seq ?_
   refine AWp.g [1, 3, 9, 10, 11, 121] [1] ?_
   simp [h, ← hs]
   by_cases h2 : j < s.length
   ·refine AWp.cT (by simp [h2]) ?_
    refine AWp.skip ?_
    show AWp _ _ _ _
    refine AWp.seq ?_
    refine AWp.block ?_
    have hel := packL_el (fun c => packL (celL c)) h2
    obtain ⟨n1, n2⟩ := hgs _ (List.getElem_mem h2)
    have gn := (c_ref13_num s[j].num n1 n2).fro
    have gp := (c_ref02_Pack (celL s[j]) (by unfold talL at hps; omega)).fro
    simp [celL, bsAV] at gp
    simp at gn
    refine AWp.lastA 24 (fun z => if z = 20 then .sl .fro 1 (bytesAV (numL (zigN s[j].num))) else if z = 22 then .sl .fro 1 (bytesAV (packL (celL s[j]))) else .any) [1, 3, 9, 10, 11] [1] [(1, .ptr 1 0), (3, .sl .own 1 (bsAV (w.sets.map setL ++ (w.tals.map talL).take i))), (9, .i .i64 i), (10, .sl .own 1 (bsAV ((s.map fun c => packL (celL c)).take (j + 1)))), (11, .i .i64 j)] [(1, [.sl .fro 1 (rrE w.sets), .sl .fro 1 (rrC w.tals), .sl .fro 1 (rrA w.accs), .sl .fro 1 (rrN w.regs)])] mix (by kernel_rfl) ?_ ?_
    ·simp [h, ← hs, h2, gn, gp, map_snoc _ s j h2, bsAV_append, celL]
     omega
    show AWp _ _ _ _
    refine AWp.gL [1, 3, 9, 10, 11] [1] ?_
    simp
    refine ⟨j + 1, by omega, by omega, ?_⟩
    simp
    exact wrap64 (by omega) (by omega)
   ·refine AWp.cF (by simp [h2]) ?_
    refine AWp.exit ?_
    show AWp _ _ _ _
    obtain rfl : j = s.length := by omega
    have gp := (c_ref02_Pack (s.map fun c => packL (celL c)) hps).fro
    simp at gp
    refine AWp.last [1, 3, 9] [1] [(1, .ptr 1 0), (3, .sl .own 1 (bsAV (w.sets.map setL ++ (w.tals.map talL).take (i + 1)))), (9, .i .i64 i)] [(1, [.sl .fro 1 (rrE w.sets), .sl .fro 1 (rrC w.tals), .sl .fro 1 (rrA w.accs), .sl .fro 1 (rrN w.regs)])] ?_ ?_
    ·rw [map_all]
     simp
     refine call_p gp ?_
     simp [map_snoc _ w.tals i h, ← hs, bsAV_append, talL]
     omega
    show AWp _ _ _ _
    refine AWp.gL [1, 3, 9] [1] ?_
    simp
    refine ⟨i + 1, by omega, by omega, ?_⟩
    simp
    exact wrap64 (by omega) (by omega)
  ·refine AWp.cF (by simp [h]) ?_
   refine AWp.exit ?_
   show AWp _ _ _ _
   refine AWp.seq ?_
   obtain rfl : i = w.tals.length := by omega
   rw [map_all]
   refine AWp.g [1, 3, 12] [1] ?_
   simp
   refine AWp.block (AWp.while (fun i : Nat => [(1, .ptr 1 0), (3, .sl .own 1 (bsAV (w.sets.map setL ++ (w.tals.map talL ++ (w.accs.map acsL).take i)))), (12, .i .i64 i)]) (fun i => [(1, [.sl .fro 1 (rrE w.sets), .sl .fro 1 (rrC w.tals), .sl .fro 1 (rrA w.accs), .sl .fro 1 (rrN w.regs)])]) (fun i => i ≤ w.accs.length) (fun i => w.accs.length - i) [1, 3, 12] [1] 0 (by simp) (by simp) ?_)
   intro i hi
   refine AWp.seq ?_
   refine AWp.g [1, 3, 12, 158] [1] ?_
   simp
   by_cases h : i < w.accs.length
   ·refine AWp.cT (by simp [h]) ?_
    refine AWp.skip ?_
    show AWp _ _ _ _
    refine AWp.seq ?_
    refine AWp.block ?_
    have hf := hw.a1 _ (List.getElem_mem h)
    have hgs := hg.a _ (List.getElem_mem h)
    have hps := parts_a (List.getElem_mem h) hb
    obtain ⟨s, hs⟩ : ∃ s, s = w.accs[i] := ⟨_, rfl⟩
    rw [← hs] at hf hgs hps
    refine AWp.step [1, 3, 12, 13] [1] [(1, .ptr 1 0), (3, .sl .own 1 (bsAV (w.sets.map setL ++ (w.tals.map talL ++ (w.accs.map acsL).take i)))), (12, .i .i64 i), (13, .sl .own 1 (bsAV []))] [(1, [.sl .fro 1 (rrE w.sets), .sl .fro 1 (rrC w.tals), .sl .fro 1 (rrA w.accs), .sl .fro 1 (rrN w.regs)])] ?_ ?_
    ·simp [bsAV]
    refine AWp.seq ?_
    refine AWp.g [1, 3, 12, 13, 14] [1] ?_
    simp
    refine AWp.block (AWp.while (fun j : Nat => [(1, .ptr 1 0), (3, .sl .own 1 (bsAV (w.sets.map setL ++ (w.tals.map talL ++ (w.accs.map acsL).take i)))), (12, .i .i64 i), (13, .sl .own 1 (bsAV ((s.map fun x => packL (accTo x 5)).take j))), (14, .i .i64 j)]) (fun j => [(1, [.sl .fro 1 (rrE w.sets), .sl .fro 1 (rrC w.tals), .sl .fro 1 (rrA w.accs), .sl .fro 1 (rrN w.regs)])]) (fun j => j ≤ s.length) (fun j => s.length - j) [1, 3, 12, 13, 14] [1] 0 (by simp) (by simp) ?_)
    intro j hj
    refine AWp.seq ?_
    refine AWp.g [1, 3, 12, 13, 14, 169] [1] ?_
    simp [h, ← hs]
    by_cases h2 : j < s.length
    ·refine AWp.cT (by simp [h2]) ?_
     refine AWp.skip ?_
     show AWp _ _ _ _
     refine AWp.seq ?_
     refine AWp.block ?_
     have hel := packL_el (fun x => packL (accTo x 5)) h2
     have hgx := hgs _ (List.getElem_mem h2)
     obtain ⟨x, hx⟩ : ∃ x, x = s[j] := ⟨_, rfl⟩
     rw [← hx] at hel hgx
     refine AWp.step [1, 3, 12, 13, 14, 15] [1] [(1, .ptr 1 0), (3, .sl .own 1 (bsAV (w.sets.map setL ++ (w.tals.map talL ++ (w.accs.map acsL).take i)))), (12, .i .i64 i), (13, .sl .own 1 (bsAV ((s.map fun x => packL (accTo x 5)).take j))), (14, .i .i64 j), (15, .sl .own 1 (bsAV (accTo x 0)))] [(1, [.sl .fro 1 (rrE w.sets), .sl .fro 1 (rrC w.tals), .sl .fro 1 (rrA w.accs), .sl .fro 1 (rrN w.regs)])] ?_ ?_
     ·simp [h, ← hs, h2, ← hx, acC, accTo]
     refine AWp.seq ?_
     refine AWp.g [1, 3, 12, 13, 14, 15, 16] [1] ?_
     simp
     refine AWp.block (AWp.while (fun n : Nat => [(1, .ptr 1 0), (3, .sl .own 1 (bsAV (w.sets.map setL ++ (w.tals.map talL ++ (w.accs.map acsL).take i)))), (12, .i .i64 i), (13, .sl .own 1 (bsAV ((s.map fun x => packL (accTo x 5)).take j))), (14, .i .i64 j), (15, .sl .own 1 (bsAV (accTo x n))), (16, .i .i64 n)]) (fun n => [(1, [.sl .fro 1 (rrE w.sets), .sl .fro 1 (rrC w.tals), .sl .fro 1 (rrA w.accs), .sl .fro 1 (rrN w.regs)])]) (fun n => n ≤ 5) (fun n => 5 - n) [1, 3, 12, 13, 14, 15, 16] [1] 0 (by simp) (by simp) ?_)
     intro n hn
     refine AWp.seq ?_
     refine AWp.g [1, 3, 12, 13, 14, 15, 16, 184] [1] ?_
     simp
     by_cases h3 : n < 5
     ·refine AWp.cT (by simp [h3]; omega) ?_
      refine AWp.skip ?_
      show AWp _ _ _ _
      refine AWp.seq ?_
      refine AWp.block ?_
      obtain ⟨n1, n2⟩ := hgx n h3
      have gn := (c_ref13_num (hv x n) n1 n2).fro
      have hL : (accTo x n).length = n + 1 := by simp [accTo]
      simp at gn
      refine AWp.last [1, 3, 12, 13, 14, 15, 16] [1] [(1, .ptr 1 0), (3, .sl .own 1 (bsAV (w.sets.map setL ++ (w.tals.map talL ++ (w.accs.map acsL).take i)))), (12, .i .i64 i), (13, .sl .own 1 (bsAV ((s.map fun x => packL (accTo x 5)).take j))), (14, .i .i64 j), (15, .sl .own 1 (bsAV (accTo x (n + 1)))), (16, .i .i64 n)] [(1, [.sl .fro 1 (rrE w.sets), .sl .fro 1 (rrC w.tals), .sl .fro 1 (rrA w.accs), .sl .fro 1 (rrN w.regs)])] ?_ ?_
      ·rw [accTo_succ]
       obtain rfl | rfl | rfl | rfl | rfl : n = 0 ∨ n = 1 ∨ n = 2 ∨ n = 3 ∨ n = 4 := by omega
       all_goals
        simp [hv] at gn
        simp [h, ← hs, h2, ← hx, acC]
        refine call_p gn ?_
        simp [bsAV_append, hL, hv]
      show AWp _ _ _ _
      refine AWp.gL [1, 3, 12, 13, 14, 15, 16] [1] ?_
      simp
      refine ⟨n + 1, by omega, by omega, ?_⟩
      simp
      exact wrap64 (by omega) (by omega)
     ·refine AWp.cF (by simp [h3]; omega) ?_
      refine AWp.exit ?_
      show AWp _ _ _ _
      obtain rfl : n = 5 := by omega
      have gp := (c_ref02_Pack (accTo x 5) (by unfold acsL at hps; omega)).fro
      simp at gp
      refine AWp.last [1, 3, 12, 13, 14] [1] [(1, .ptr 1 0), (3, .sl .own 1 (bsAV (w.sets.map setL ++ (w.tals.map talL ++ (w.accs.map acsL).take i)))), (12, .i .i64 i), (13, .sl .own 1 (bsAV ((s.map fun x => packL (accTo x 5)).take (j + 1)))), (14, .i .i64 j)] [(1, [.sl .fro 1 (rrE w.sets), .sl .fro 1 (rrC w.tals), .sl .fro 1 (rrA w.accs), .sl .fro 1 (rrN w.regs)])] ?_ ?_
      ·simp
       refine call_p gp ?_
       rw [hx] at *
       simp [map_snoc _ s j h2, bsAV_append]
       omega
      show AWp _ _ _ _
      refine AWp.gL [1, 3, 12, 13, 14] [1] ?_
      simp
      refine ⟨j + 1, by omega, by omega, ?_⟩
      simp
      exact wrap64 (by omega) (by omega)
    ·refine AWp.cF (by simp [h2]) ?_
     refine AWp.exit ?_
     show AWp _ _ _ _
     obtain rfl : j = s.length := by omega
     have gp := (c_ref02_Pack (s.map fun x => packL (accTo x 5)) hps).fro
     simp at gp
     refine AWp.last [1, 3, 12] [1] [(1, .ptr 1 0), (3, .sl .own 1 (bsAV (w.sets.map setL ++ (w.tals.map talL ++ (w.accs.map acsL).take (i + 1))))), (12, .i .i64 i)] [(1, [.sl .fro 1 (rrE w.sets), .sl .fro 1 (rrC w.tals), .sl .fro 1 (rrA w.accs), .sl .fro 1 (rrN w.regs)])] ?_ ?_
     ·rw [map_all]
      simp
      refine call_p gp ?_
      simp [map_snoc _ w.accs i h, ← hs, bsAV_append, acsL]
      omega
     show AWp _ _ _ _
     refine AWp.gL [1, 3, 12] [1] ?_
     simp
     refine ⟨i + 1, by omega, by omega, ?_⟩
     simp
     exact wrap64 (by omega) (by omega)
   ·refine AWp.cF (by simp [h]) ?_
    refine AWp.exit ?_
    show AWp _ _ _ _
    refine AWp.seq ?_
    obtain rfl : i = w.accs.length := by omega
    rw [map_all]
    refine AWp.g [1, 3, 17] [1] ?_
    simp
    refine AWp.block (AWp.while (fun i : Nat => [(1, .ptr 1 0), (3, .sl .own 1 (bsAV (w.sets.map setL ++ (w.tals.map talL ++ (w.accs.map acsL ++ (w.regs.map ntsL).take i))))), (17, .i .i64 i)]) (fun i => [(1, [.sl .fro 1 (rrE w.sets), .sl .fro 1 (rrC w.tals), .sl .fro 1 (rrA w.accs), .sl .fro 1 (rrN w.regs)])]) (fun i => i ≤ w.regs.length) (fun i => w.regs.length - i) [1, 3, 17] [1] 0 (by simp) (by simp) ?_)
    intro i hi
    refine AWp.seq ?_
    refine AWp.g [1, 3, 17, 216] [1] ?_
    simp
    by_cases h : i < w.regs.length
    ·refine AWp.cT (by simp [h]) ?_
     refine AWp.skip ?_
     show AWp _ _ _ _
     refine AWp.seq ?_
     refine AWp.block ?_
     have hf := hw.n1 _ (List.getElem_mem h)
     have hgs := hg.n _ (List.getElem_mem h)
     have hps := parts_n (List.getElem_mem h) hb
     obtain ⟨s, hs⟩ : ∃ s, s = w.regs[i] := ⟨_, rfl⟩
     rw [← hs] at hf hgs hps
     refine AWp.step [1, 3, 17, 18] [1] [(1, .ptr 1 0), (3, .sl .own 1 (bsAV (w.sets.map setL ++ (w.tals.map talL ++ (w.accs.map acsL ++ (w.regs.map ntsL).take i))))), (17, .i .i64 i), (18, .sl .own 1 (bsAV []))] [(1, [.sl .fro 1 (rrE w.sets), .sl .fro 1 (rrC w.tals), .sl .fro 1 (rrA w.accs), .sl .fro 1 (rrN w.regs)])] ?_ ?_
     ·simp [bsAV]
     refine AWp.seq ?_
     refine AWp.g [1, 3, 17, 18, 19] [1] ?_
     simp
     refine AWp.block (AWp.while (fun j : Nat => [(1, .ptr 1 0), (3, .sl .own 1 (bsAV (w.sets.map setL ++ (w.tals.map talL ++ (w.accs.map acsL ++ (w.regs.map ntsL).take i))))), (17, .i .i64 i), (18, .sl .own 1 (bsAV ((s.map fun n => packL (ntL n)).take j))), (19, .i .i64 j)]) (fun j => [(1, [.sl .fro 1 (rrE w.sets), .sl .fro 1 (rrC w.tals), .sl .fro 1 (rrA w.accs), .sl .fro 1 (rrN w.regs)])]) (fun j => j ≤ s.length) (fun j => s.length - j) [1, 3, 17, 18, 19] [1] 0 (by simp) (by simp) ?_)
     intro j hj
     refine AWp.seq ?_
     refine AWp.g [1, 3, 17, 18, 19, 227] [1] ?_
     simp [h, ← hs]
     by_cases h2 : j < s.length
     ·refine AWp.cT (by simp [h2]) ?_
      refine AWp.skip ?_
      show AWp _ _ _ _
      refine AWp.seq ?_
      refine AWp.block ?_
      refine AWp.g [1, 3, 17, 18, 19, 20] [1, 20] ?_
      simp [h, ← hs, h2]
      have hel := packL_el (fun n => packL (ntL n)) h2
      have gp := (c_ref02_Pack (ntL s[j]) (by unfold ntsL at hps; omega)).fro
      obtain ⟨⟨n1, n2⟩, n3, n4⟩ := hgs _ (List.getElem_mem h2)
      have g1 := (c_ref13_nat s[j].t n1 n2).fro
      have g2 := (c_ref13_nat s[j].rep n3 n4).fro
      simp [ntL, bsAV] at gp
      simp at g1 g2
      refine AWp.lastA 16 (fun k => if k = 6 then .sl .fro 1 (bytesAV (numL s[j].t.toNat)) else if k = 9 then .sl .fro 1 (bytesAV (numL s[j].rep.toNat)) else if k = 14 then .sl .fro 1 (bytesAV (packL (ntL s[j]))) else .any) [1, 3, 17, 18, 19] [1] [(1, .ptr 1 0), (3, .sl .own 1 (bsAV (w.sets.map setL ++ (w.tals.map talL ++ (w.accs.map acsL ++ (w.regs.map ntsL).take i))))), (17, .i .i64 i), (18, .sl .own 1 (bsAV ((s.map fun n => packL (ntL n)).take (j + 1)))), (19, .i .i64 j)] [(1, [.sl .fro 1 (rrE w.sets), .sl .fro 1 (rrC w.tals), .sl .fro 1 (rrA w.accs), .sl .fro 1 (rrN w.regs)])] mix (by kernel_rfl) ?_ ?_
      ·simp [g1, g2, gp, map_snoc _ s j h2, bsAV_append, ntL]
       omega
      show AWp _ _ _ _
      refine AWp.gL [1, 3, 17, 18, 19] [1] ?_
      simp
      refine ⟨j + 1, by omega, by omega, ?_⟩
      simp
      exact wrap64 (by omega) (by omega)
     ·refine AWp.cF (by simp [h2]) ?_
      refine AWp.exit ?_
      show AWp _ _ _ _
      obtain rfl : j = s.length := by omega
      have gp := (c_ref02_Pack (s.map fun n => packL (ntL n)) hps).fro
      simp at gp
      refine AWp.last [1, 3, 17] [1] [(1, .ptr 1 0), (3, .sl .own 1 (bsAV (w.sets.map setL ++ (w.tals.map talL ++ (w.accs.map acsL ++ (w.regs.map ntsL).take (i + 1)))))), (17, .i .i64 i)] [(1, [.sl .fro 1 (rrE w.sets), .sl .fro 1 (rrC w.tals), .sl .fro 1 (rrA w.accs), .sl .fro 1 (rrN w.regs)])] ?_ ?_
      ·rw [map_all]
       simp
       refine call_p gp ?_
       simp [map_snoc _ w.regs i h, ← hs, bsAV_append, ntsL]
       omega
      show AWp _ _ _ _
      refine AWp.gL [1, 3, 17] [1] ?_
      simp
      refine ⟨i + 1, by omega, by omega, ?_⟩
      simp
      exact wrap64 (by omega) (by omega)
    ·refine AWp.cF (by simp [h]) ?_
     refine AWp.exit ?_
     show AWp _ _ _ _
     obtain rfl : i = w.regs.length := by omega
     rw [map_all]
     have he : w.sets.map setL ++ (w.tals.map talL ++ (w.accs.map acsL ++ w.regs.map ntsL)) = rawParts w := rfl
     rw [he]
     refine AWp.g [2] [1] ?_
     simp
     refine call_p (c_ref02_Pack (rawParts w) hb) ?_
     simp
     refine AWp.ret ?_
     simp [rawL]
end Go.AM
namespace Go.AM
open Go.Proofs
theorem eqK_refl (a : ByteArray) : eqK a a = true := by simp [eqK]
theorem all_at {α : Type} {f : α → α → Bool} (hf : ∀ x, f x x = true) (l : List α) {p : Nat → Bool} (hp : ∀ i (h : i < l.length), p i = f l[i] l[i]) : (List.range l.length).all p = true := range_all fun i hi => by rw [hp i hi]; exact hf _
theorem sameK_refl (l : List Cel) : sameK l l = true := by
 unfold sameK
 rw [all_at (f := celEq) (fun x => by simp [celEq, eqK_refl]) l fun i h => by simp [sameAt, h]]
 simp
theorem sameA_refl (l : List Acc) : sameA l l = true := by
 unfold sameA
 rw [all_at (f := acEq) (fun x => by simp [acEq, eqK_refl]) l fun i h => by simp [sameAAt, h]]
 simp
theorem sameN_refl (l : List Nt) : sameN l l = true := by
 unfold sameN
 rw [all_at (f := ntEq) (fun x => by simp [ntEq, eqK_refl]) l fun i h => by simp [sameNAt, h]]
 simp
theorem eqAll_refl {α : Type} {f : List α → List α → Bool} (hf : ∀ l, f l l = true) (A : List (List α)) : eqAll f A A = true := all_at hf A fun i h => by simp [eqRow, h]
theorem sameR_refl (w : Rw) : sameR w w = true := by
 unfold sameR lensR
 rw [eqAll_refl sameB_refl, eqAll_refl sameK_refl, eqAll_refl sameA_refl, eqAll_refl sameN_refl]
 simp
def lightQ (k : Kin) (w : Rw) (c : List Int) : Bool := lightR k w && !decide ((20 : Int) < c.length)
theorem cleanE_fine (c : List Int) {s : List Entry} (h : Fine s) : Fine (cleanE s c) := by
 unfold cleanE
 split
 ·refine ⟨Nat.le_trans (List.length_filter_le _ _) (by simpa using h.1), fun e he => ?_⟩
  obtain ⟨x, hx, rfl⟩ := List.mem_map.1 (List.mem_filter.1 he).1
  have h1 := h.2 x hx
  have h2 := leftD_len x.dead c
  exact ⟨h1.1, Nat.le_trans h2 h1.2⟩
 ·exact fine_nil
theorem cleanR_fine {k : Kin} {w : Rw} {c : List Int} (hw : FineR w) : FineR (cleanR k w c) := by
 unfold cleanR
 split
 ·rename_i h
  rw [Bool.and_eq_true] at h
  have hB := h.1
  simp only [rawB, Bool.and_eq_true] at hB
  obtain ⟨e1, -, -, -⟩ := lenOk_iff hB.1.1.1.2
  refine ⟨by show (tuTo _ _ _ _).length ≤ 1000; rw [tuTo_length]; exact hw.s0, hw.t0, hw.a0, hw.n0, fun l hl => ?_, hw.t1, hw.a1, hw.n1⟩
  obtain ⟨i, h1, h2, hc⟩ := tuTo_mem e1 hl
  have hf := hw.s1 _ (List.getElem_mem h2)
  rcases hc with ⟨-, rfl⟩ | ⟨-, rfl⟩
  ·exact cleanE_fine c hf
  ·exact hf
 ·exact noR_fine
theorem newR_fine {k : Kin} (h : kindsB k = true) : FineR (newR k) := by
 simp only [kindsB, Bool.and_eq_true, Bool.not_eq_true', decide_eq_false_iff_not] at h
 refine ⟨by simp [newR]; omega, by simp [newR]; omega, by simp [newR]; omega, by simp [newR]; omega, fun l hl => ?_, fun l hl => ?_, fun l hl => ?_, fun l hl => ?_⟩
 ·obtain rfl := (List.mem_replicate.1 hl).2; exact fine_nil
 ·obtain rfl := (List.mem_replicate.1 hl).2; simp
 ·obtain rfl := (List.mem_replicate.1 hl).2; simp
 ·obtain rfl := (List.mem_replicate.1 hl).2; simp
set_option maxRecDepth 16000 in
set_option maxHeartbeats 16000000 in
theorem c_RawTells (k : Kin) (w : Rw) (c : List Int) (hw : MaxR w) (hc : c.length ≤ 9223372036854775807) : Pure Tryz.prog 6 [.agg (kinC k), .agg (rwC w), .sl .fro 1 (intsAV c)] (.b true) := by
 have gl := c_law13_Light k w hw
 have g0 := c_law13_awake
 simp [kinC, rwC] at gl
 refine proc_of (cx Tryz.prog 167 [2, 3, 4, 6, 7, 8, 9, 10, 11, 12, 13, 14, 15, 24, 80, 84, 141, 144] [6]) 164 [.tmp 6] Tryz.func6 rfl rfl rfl rfl rfl rfl (Nat.le_refl _) rfl ?_
 refine AWp.g [2, 3, 4] [3, 4] ?_
 simp [kinC, rwC]
 refine AWp.seq ?_
 refine AWp.step [2, 3, 4, 24] [3, 4] [(2, .sl .fro 1 (intsAV c)), (3, .ptr 3 0), (4, .ptr 4 0), (24, .b (!lightQ k w c))] [(3, [.sl .fro 1 (boolsAV k.sets), .sl .fro 2 (flrsAV k.counts), .i .i64 k.regs]), (4, [.sl .fro 1 (rrE w.sets), .sl .fro 1 (rrC w.tals), .sl .fro 1 (rrA w.accs), .sl .fro 1 (rrN w.regs)])] ?_ ?_
 ·simp
  refine call_pure gl (by simp) ?_
  cases q : lightR k w <;> simp [lightQ, q]
 cases hq : lightQ k w c
 ·refine AWp.cT (by simp) ?_
  refine AWp.g [6] [3, 4] ?_
  simp
  refine call_p (g0) ?_
  simp
  refine AWp.ret ?_
  simp
 ·refine AWp.cF (by simp) ?_
  refine AWp.skip ?_
  show AWp _ _ _ _
  have hl : lightR k w = true := by rw [lightQ, Bool.and_eq_true] at hq; exact hq.1
  have hcl : c.length ≤ 20 := by
   simp only [lightQ, Bool.and_eq_true, Bool.not_eq_true', decide_eq_false_iff_not] at hq
   omega
  obtain ⟨hk, fw⟩ := lightR_fine hl
  have gN := c_raw_New k hk
  have gP := (c_raw_Plain k w hk fw).fro
  have gC := (c_raw_Clean k w c hk fw (by omega)).fro
  have gB := (c_raw_Bytes k w hl).fro
  have gM := c_ref13_May k w hk fw
  have gS := c_raw_Same w w fw fw
  have gK := c_ref13_Kinds k hk
  have g3 := c_ref03_MayW c (by omega)
  have gZ := c_law13_none noR noR_fine
  rw [sameR_refl] at gS gZ
  rw [rwC_no] at gZ
  simp [kinC, rwC, rwO] at gN gP gC gB gM gS gK gZ
  refine AWp.g [2, 3, 4, 7, 8] [3, 4, 7] ?_
  simp
  refine call_pure gN (by simp) ?_
  simp
  refine AWp.g [2, 3, 4, 7, 8, 9, 10] [3, 4, 7, 9] ?_
  simp
  refine call_pure gP (by simp) ?_
  simp
  refine AWp.step [2, 3, 4, 7, 8, 9, 10, 11, 12] [3, 4, 7, 9, 11] [(2, .sl .fro 1 (intsAV c)), (3, .ptr 3 0), (4, .ptr 4 0), (7, .ptr 7 0), (8, .i .i64 (if kindsB k then 0 else 1)), (9, .ptr 9 0), (10, .i .i64 (if rawB k w then 0 else 1)), (11, .ptr 11 0), (12, .i .i64 (if rawB k w && clockOk c then 0 else 1))] [(3, [.sl .fro 1 (boolsAV k.sets), .sl .fro 2 (flrsAV k.counts), .i .i64 k.regs]), (4, [.sl .fro 1 (rrE w.sets), .sl .fro 1 (rrC w.tals), .sl .fro 1 (rrA w.accs), .sl .fro 1 (rrN w.regs)]), (7, [.sl .fro 1 (rrE (okR k).sets), .sl .fro 1 (rrC (okR k).tals), .sl .fro 1 (rrA (okR k).accs), .sl .fro 1 (rrN (okR k).regs)]), (9, [.sl .fro 1 (rrE (plainR k w).sets), .sl .fro 1 (rrC (plainR k w).tals), .sl .fro 1 (rrA (plainR k w).accs), .sl .fro 1 (rrN (plainR k w).regs)]), (11, [.sl .fro 1 (rrE (cleanR k w c).sets), .sl .fro 1 (rrC (cleanR k w c).tals), .sl .fro 1 (rrA (cleanR k w c).accs), .sl .fro 1 (rrN (cleanR k w c).regs)])] ?_ ?_
  ·simp
   refine call_pure gC (by simp) ?_
   simp
  refine AWp.g [2, 3, 4, 7, 8, 9, 10, 11, 12, 13, 14] [3, 4, 7, 9, 11] ?_
  simp
  refine call_pure gB (by simp) ?_
  simp
  refine AWp.seq ?_
  refine AWp.stepD 31 (fun z => if z = 2 then .b true else if z = 6 then .b (kindsB k) else if z = 17 then .agg [.sl .fro 1 (rrE (newR k).sets), .sl .fro 1 (rrC (newR k).tals), .sl .fro 1 (rrA (newR k).accs), .sl .fro 1 (rrN (newR k).regs)] else if z = 18 then .b true else if z = 27 then .b true else .any) [2, 3, 4, 9, 10, 11, 12, 13, 14, 80] [3, 4, 9, 11] [(2, .sl .fro 1 (intsAV c)), (3, .ptr 3 0), (4, .ptr 4 0), (9, .ptr 9 0), (10, .i .i64 (if rawB k w then 0 else 1)), (11, .ptr 11 0), (12, .i .i64 (if rawB k w && clockOk c then 0 else 1)), (13, .sl .fro 1 (bytesAV (bytesR k w))), (14, .i .i64 (if rawB k w then 0 else 1)), (80, .b false)] [(3, [.sl .fro 1 (boolsAV k.sets), .sl .fro 2 (flrsAV k.counts), .i .i64 k.regs]), (4, [.sl .fro 1 (rrE w.sets), .sl .fro 1 (rrC w.tals), .sl .fro 1 (rrA w.accs), .sl .fro 1 (rrN w.regs)]), (9, [.sl .fro 1 (rrE (plainR k w).sets), .sl .fro 1 (rrC (plainR k w).tals), .sl .fro 1 (rrA (plainR k w).accs), .sl .fro 1 (rrN (plainR k w).regs)]), (11, [.sl .fro 1 (rrE (cleanR k w c).sets), .sl .fro 1 (rrC (cleanR k w c).tals), .sl .fro 1 (rrA (cleanR k w c).accs), .sl .fro 1 (rrN (cleanR k w c).regs)])] mix (by kernel_rfl) ?_ ?_
  ·cases hK : kindsB k
   ·have e : okR k = noR := by rw [okR, hK]; rfl
    rw [hK] at gK
    simp [gS, gK, e, gZ, noR]
    simpa [noR, rrE, rrC, rrA, rrN] using gZ
   ·have e : okR k = newR k := by rw [okR, hK]; rfl
    have hr : 0 ≤ k.regs ∧ k.regs ≤ 1000 := by
     simp only [kindsB, Bool.and_eq_true, Bool.not_eq_true', decide_eq_false_iff_not] at hK
     omega
    have g5 := c_ref13_New k hk hr
    have g6 := c_ref13_Same (newR k) (newR k) (newR_fine hK) (newR_fine hK)
    rw [sameR_refl] at g6
    rw [hK] at gK
    simp [kinC, rwC] at g5 g6
    simp [gS, gK, e, g5, g6]
  refine AWp.cF (by simp) ?_
  refine AWp.skip ?_
  show AWp _ _ _ _
  refine AWp.seq ?_
  refine AWp.g [2, 3, 4, 9, 10, 11, 12, 13, 14, 84] [3, 4, 9, 11] ?_
  simp
  refine call_pure gM (by simp) ?_
  simp
  cases hB : rawB k w
  ·refine AWp.cT (by simp) ?_
   have e1 : plainR k w = noR := by rw [plainR, hB]; rfl
   have e2 : cleanR k w c = noR := by rw [cleanR, hB]; rfl
   have e3 : bytesR k w = [] := by rw [bytesR, hB]; rfl
   rw [e1, e2, e3]
   refine AWp.step [6] [3, 4] [(6, .b true)] [(3, [.sl .fro 1 (boolsAV k.sets), .sl .fro 2 (flrsAV k.counts), .i .i64 k.regs]), (4, [.sl .fro 1 (rrE w.sets), .sl .fro 1 (rrC w.tals), .sl .fro 1 (rrA w.accs), .sl .fro 1 (rrN w.regs)])] ?_ ?_
   ·simp [hB, noR]
    refine call_pure gZ (by simp [rrE, rrC, rrA, rrN]) ?_
    simp
    refine call_pure gZ (by simp [rrE, rrC, rrA, rrN]) ?_
    simp [bytesAV]
    refine call_pure g0 (by simp) ?_
    simp
   refine AWp.ret ?_
   simp
  ·refine AWp.cF (by simp) ?_
   refine AWp.skip ?_
   show AWp _ _ _ _
   have gQ := (c_ref13_Plain k w hk fw hB).fro
   have eP : plainR k w = turnR plainE k w := by rw [plainR, if_pos hB]
   have fP := plainR_fine hB fw
   rw [← eP] at gQ
   have g4 := c_ref13_Same (plainR k w) (plainR k w) fP fP
   have g5 := c_ref13_Bytes (plainR k w) fP (plainR_good hB) (rawL_small hB hl)
   have g6 := c_raw_Same (plainR k w) w fP fw
   have g7 := c_ref13_Same (plainR k w) w fP fw
   have eB : bytesR k w = rawL (plainR k w) := by rw [bytesR, if_pos hB]
   have g8 := c_ref02_Bytes (rawL (plainR k w)) (rawL (plainR k w)) (by have := rawL_small hB hl; omega)
   rw [sameR_refl] at g4
   simp [kinC, rwC, rwO] at gQ g4 g5 g6 g7 g8
   have g5 := g5.fro
   simp at g5
   refine AWp.g [2, 3, 4, 9, 10, 11, 12, 13, 14, 15] [3, 4, 9, 11, 15] ?_
   simp
   refine call_pure gQ (by simp) ?_
   simp
   refine AWp.seq ?_
   refine AWp.stepD 28 (fun z => if z = 9 then .b true else if z = 15 then .sl .fro 1 (bytesAV (rawL (plainR k w))) else if z = 16 then .b true else if z = 22 then .b (sameR (plainR k w) w) else if z = 25 then .b (sameR (plainR k w) w) else .any) [2, 3, 4, 11, 12, 141] [3, 4, 11] [(2, .sl .fro 1 (intsAV c)), (3, .ptr 3 0), (4, .ptr 4 0), (11, .ptr 11 0), (12, .i .i64 (if rawB k w && clockOk c then 0 else 1)), (141, .b false)] [(3, [.sl .fro 1 (boolsAV k.sets), .sl .fro 2 (flrsAV k.counts), .i .i64 k.regs]), (4, [.sl .fro 1 (rrE w.sets), .sl .fro 1 (rrC w.tals), .sl .fro 1 (rrA w.accs), .sl .fro 1 (rrN w.regs)]), (11, [.sl .fro 1 (rrE (cleanR k w c).sets), .sl .fro 1 (rrC (cleanR k w c).tals), .sl .fro 1 (rrA (cleanR k w c).accs), .sl .fro 1 (rrN (cleanR k w c).regs)])] mix (by kernel_rfl) ?_ ?_
   ·rw [eB]
    simp [hB, g4, g5, g6, g7, g8]
   refine AWp.cF (by simp) ?_
   refine AWp.skip ?_
   show AWp _ _ _ _
   refine AWp.seq ?_
   refine AWp.g [2, 3, 4, 11, 12, 144] [3, 4, 11] ?_
   simp
   refine call_p (g3) ?_
   simp
   cases hC : clockOk c
   ·refine AWp.cT (by simp) ?_
    have e2 : cleanR k w c = noR := by rw [cleanR, hB, hC]; rfl
    rw [e2]
    refine AWp.step [6] [3, 4] [(6, .b true)] [(3, [.sl .fro 1 (boolsAV k.sets), .sl .fro 2 (flrsAV k.counts), .i .i64 k.regs]), (4, [.sl .fro 1 (rrE w.sets), .sl .fro 1 (rrC w.tals), .sl .fro 1 (rrA w.accs), .sl .fro 1 (rrN w.regs)])] ?_ ?_
    ·simp [hB, hC, noR]
     refine call_pure gZ (by simp [rrE, rrC, rrA, rrN]) ?_
     simp
     refine call_pure g0 (by simp) ?_
     simp
    refine AWp.ret ?_
    simp
   ·refine AWp.cF (by simp) ?_
    refine AWp.skip ?_
    show AWp _ _ _ _
    have gQ := (c_ref13_Clean k w c (by omega) hC hk fw hB).fro
    rw [← cleanR_eq hB hC] at gQ
    have fC := cleanR_fine (k := k) (c := c) fw
    have g9 := c_ref13_Same (cleanR k w c) (cleanR k w c) fC fC
    rw [sameR_refl] at g9
    simp [kinC, rwC, rwO] at gQ g9
    refine AWp.stepD 14 (fun z => if z = 7 then .agg [.sl .fro 1 (rrE (cleanR k w c).sets), .sl .fro 1 (rrC (cleanR k w c).tals), .sl .fro 1 (rrA (cleanR k w c).accs), .sl .fro 1 (rrN (cleanR k w c).regs)] else if z = 8 then .b true else if z = 11 then .b true else .any) [6] [3, 4] [(6, .b true)] [(3, [.sl .fro 1 (boolsAV k.sets), .sl .fro 2 (flrsAV k.counts), .i .i64 k.regs]), (4, [.sl .fro 1 (rrE w.sets), .sl .fro 1 (rrC w.tals), .sl .fro 1 (rrA w.accs), .sl .fro 1 (rrN w.regs)])] mix (by kernel_rfl) ?_ ?_
    ·simp [hB, hC, gQ, g9, g0]
    refine AWp.ret ?_
    simp
end Go.AM
namespace Go.AM
inductive TT where
 | int (k : IntKind)
 | bool
 | str
 | sl (sz : Nat) (e : TT)
 | st (fs : List TT)
 | ar (es : List TT)
mutual
def TT.size : TT → Nat
 | .st fs => TT.sizeL fs
 | .ar fs => TT.sizeL fs
 | _ => 1
def TT.sizeL : List TT → Nat
 | [] => 0
 | f :: fs => f.size + TT.sizeL fs
end
mutual
def TT.isAt (P : Program) : TT → TypeId → Bool
 | .int k, t => match P.underlying t with
  | some (.int k') => k' == k
  | _ => false
 | .bool, t => match P.underlying t with
  | some .bool => true
  | _ => false
 | .str, t => match P.underlying t with
  | some .string => true
  | _ => false
 | .sl sz e, t => match P.underlying t with
  | some (.slice et) => P.cellsOf et == sz && decide (0 < sz) && e.size == sz && e.isAt P et
  | _ => false
 | .st fs, t => match P.underlying t with
  | some (.struct fl) => P.cellsOf t == TT.sizeL fs && TT.isL P fs fl.toList 0
  | _ => false
 | .ar fs, t => match P.underlying t with
  | some (.array n et) => P.cellsOf t == TT.sizeL fs && n == fs.length && TT.isA P fs et
  | _ => false
def TT.isA (P : Program) : List TT → TypeId → Bool
 | [], _ => true
 | f :: fs, t => P.cellsOf t == f.size && f.isAt P t && TT.isA P fs t
def TT.isL (P : Program) : List TT → List Field → Nat → Bool
 | [], [], _ => true
 | f :: fs, d :: ds, off => d.offset == off && P.cellsOf d.type == f.size && f.isAt P d.type && TT.isL P fs ds (off + f.size)
 | _, _, _ => false
end
mutual
def TT.fit : TT → List AV → Prop
 | .int k, avs => ∃ n, avs = [.i k n] ∧ k.min ≤ n ∧ n ≤ k.max
 | .bool, avs => ∃ b, avs = [.b b]
 | .str, avs => ∃ s, avs = [.s s] ∧ s.size ≤ maxLen
 | .sl sz e, avs => ∃ xs, avs = [.sl .fro sz xs] ∧ xs.length ≤ maxLen ∧ ∀ x ∈ xs, e.fit x
 | .st fs, avs => TT.fitL fs avs
 | .ar fs, avs => TT.fitL fs avs
def TT.fitL : List TT → List AV → Prop
 | [], avs => avs = []
 | f :: fs, avs => ∃ a b, avs = a ++ b ∧ f.fit a ∧ TT.fitL fs b
end
section
variable {H : Type} {enc : TypeId × Value → H} {P : Program} {w : World} {held : Bool}
def AsDat (w : World) (avs : List AV) (cs : List Value) : Prop := avs.length = cs.length ∧ ∀ (k : Nat) c, avs[k]? = some c → ∃ u, cs[k]? = some u ∧ DatC (fun b => b < w.heap.size) w c u
theorem AsDat.one {w : World} {c : AV} {u : Value} (h : Dat (fun b => b < w.heap.size) w c u) (h1 : u.oneCell' = true) : AsDat w [c] [u] := ⟨rfl, fun k c' hk => by
 cases k with
 | zero => simp at hk; subst hk; exact ⟨u, rfl, h, h1⟩
 | succ k => simp at hk⟩
theorem cell_spot {w : World} {a : Addr} {v : Value} (h : w.cell? a = some v) : a.spot = none := by
 unfold World.cell? at h
 split at h
 ·cases hs : a.spot with
  | none => rfl
  | some s => simp [hs] at h
 ·cases h
theorem cell_lt' {w : World} {a : Addr} {v : Value} (h : w.cell? a = some v) : a.block < w.heap.size := by
 unfold World.cell? at h
 split at h
 ·rename_i h1; exact (Array.getElem?_eq_some_iff.1 h1).1
 ·cases h
mutual
theorem trod_dat : ∀ (T : TT) (n : Nat) (t : TypeId) (cs : List Value) (x : DataW H × List MemPlace), T.isAt P t = true → DataW.trod enc P w 0 (fun _ => true) held n t cs = some x → ∃ avs, T.fit avs ∧ avs.length = T.size ∧ AsDat w avs cs
 | .int k, n, t, cs, x, hT, h => by
  simp only [TT.isAt] at hT
  split at hT
  ·rename_i k' hu
   have : k' = k := by simpa using hT
   subst this
   obtain ⟨m, rfl, _, hw⟩ := DataW.trod_int hu h
   simp only [Lit.wf, Bool.and_eq_true, decide_eq_true_eq] at hw
   exact ⟨[.i k' m], ⟨m, rfl, hw⟩, rfl, .one (.i _ _) rfl⟩
  ·cases hT
 | .bool, n, t, cs, x, hT, h => by
  simp only [TT.isAt] at hT
  split at hT
  ·rename_i hu
   obtain ⟨b, rfl, _⟩ := DataW.trod_bool hu h
   exact ⟨[.b b], ⟨b, rfl⟩, rfl, .one (.b _) rfl⟩
  ·cases hT
 | .str, n, t, cs, x, hT, h => by
  simp only [TT.isAt] at hT
  split at hT
  ·rename_i hu
   obtain ⟨s, rfl, _, hs⟩ := DataW.trod_string hu h
   exact ⟨[.s s], ⟨s, rfl, hs⟩, rfl, .one (.s _) rfl⟩
  ·cases hT
 | .sl sz e, n, t, cs, x, hT, h => by
  simp only [TT.isAt] at hT
  split at hT
  ·rename_i et hu
   simp only [Bool.and_eq_true, beq_iff_eq, decide_eq_true_eq] at hT
   obtain ⟨⟨⟨hc, hz⟩, hes⟩, he⟩ := hT
   rcases DataW.trod_slice hu h with ⟨rfl, _⟩ | ⟨a, len, cap, elems, rest, m, _, rfl, _, _, hlc, hm, hlen, hel, _, _⟩
   ·exact ⟨[.sl .fro sz []], ⟨[], rfl, by simp, by simp⟩, rfl, .one (.sl0 sz) rfl⟩
   ·have each : ∀ i, i < len → ∃ avs : List AV, e.fit avs ∧ avs.length = sz ∧ ∀ (j : Nat) c, avs[j]? = some c → ∃ u, w.cell? ((a.add (i * sz)).add j) = some u ∧ DatC (fun b => b < w.heap.size) w c u := by
     intro i hi
     have h1 := hel i hi
     rw [hc, List.getElem?_eq_getElem (by omega)] at h1
     obtain ⟨cs', h2, h3⟩ := Option.bind_eq_some_iff.1 h1
     obtain ⟨avs, g1, g2, g3, g4⟩ := trod_dat e m et cs' _ he h3
     refine ⟨avs, g1, by rw [g2, hes], fun j c hj => ?_⟩
     obtain ⟨u, hu1, hd⟩ := g4 j c hj
     have hjl := (List.getElem?_eq_some_iff.1 hj).1
     exact ⟨u, by rw [(World.cells?_some h2).2.2 j (by omega)]; exact hu1, hd⟩
    obtain ⟨xs, hxl, hxs⟩ : ∃ xs : List (List AV), xs.length = len ∧ ∀ (i : Nat) x, xs[i]? = some x → e.fit x ∧ x.length = sz ∧ ∀ (j : Nat) c, x[j]? = some c → ∃ u, w.cell? ((a.add (i * sz)).add j) = some u ∧ DatC (fun b => b < w.heap.size) w c u := by
     refine ⟨(List.range len).map fun i => if hi : i < len then Classical.choose (each i hi) else [], by simp, fun i x hx => ?_⟩
     rw [List.getElem?_map] at hx
     obtain ⟨i', hi', rfl⟩ := Option.map_eq_some_iff.1 hx
     obtain ⟨hl, hi2⟩ := List.getElem?_eq_some_iff.1 hi'
     simp at hl hi2
     subst hi2
     rw [dif_pos hl]
     exact Classical.choose_spec (each i hl)
    have hfit : ∀ x ∈ xs, e.fit x := fun x hx => by
     obtain ⟨i, hi⟩ := List.mem_iff_getElem?.1 hx
     exact (hxs i x hi).1
    refine ⟨[.sl .fro sz xs], ⟨xs, rfl, by omega, hfit⟩, rfl, .one ?_ rfl⟩
    rcases Nat.eq_zero_or_pos len with h0 | h0
    ·have : xs = [] := List.eq_nil_of_length_eq_zero (by omega)
     subst this
     rw [h0]
     exact .sl1 sz a cap
    ·obtain ⟨g1, g2, g3⟩ := hxs 0 _ (List.getElem?_eq_getElem (by omega))
     obtain ⟨u, hu1, _⟩ := g3 0 _ (List.getElem?_eq_getElem (by omega))
     have haa : (a.add (0 * sz)).add 0 = a := by simp [Addr.add]
     rw [haa] at hu1
     have hsp := cell_spot hu1
     have hlt := cell_lt' hu1
     obtain ⟨bk, off, sp⟩ := a
     simp only at hsp hlt
     subst hsp
     rw [← hxl]
     have hl : ∀ x ∈ xs, x.length = sz := fun x hx => by
      obtain ⟨i, hi⟩ := List.mem_iff_getElem?.1 hx
      exact (hxs i x hi).2.1
     have hcell : ∀ (k : Nat) c, xs.flatten[k]? = some c → ∃ u, w.cell? ⟨bk, off + k, none⟩ = some u ∧ DatC (fun b => b < w.heap.size) w c u := by
      intro k c hk
      have hfl := flatten_length hl
      have hk1 := (List.getElem?_eq_some_iff.1 hk).1
      have hdiv : k / sz < xs.length := by rw [Nat.div_lt_iff_lt_mul hz]; omega
      have hmod : k % sz < sz := Nat.mod_lt _ hz
      have hx := List.getElem?_eq_getElem hdiv
      obtain ⟨_, q2, q3⟩ := hxs _ _ hx
      have hj : (xs[k / sz])[k % sz]? = some ((xs[k / sz])[k % sz]'(by omega)) := List.getElem?_eq_getElem (by omega)
      have e1 := flat_get hl (k / sz) (k % sz) _ _ hx hj
      rw [show k / sz * sz + k % sz = k by rw [Nat.mul_comm]; exact Nat.div_add_mod k sz, hk] at e1
      obtain rfl := Option.some.inj e1
      obtain ⟨u, hu2, hd⟩ := q3 _ _ hj
      refine ⟨u, ?_, hd⟩
      rw [add_none, add_none, Nat.add_assoc, show k / sz * sz + k % sz = k by rw [Nat.mul_comm]; exact Nat.div_add_mod k sz] at hu2
      exact hu2
     refine .sl sz xs bk off cap (fun k => (w.cell? ⟨bk, off + k, none⟩).getD undef) hlt (by omega) hl (fun k c hk => ?_) (fun k c hk => ?_) (fun k c hk => ?_)
     ·obtain ⟨u, hu2, hd⟩ := hcell k c hk
      simp [hu2]
     ·obtain ⟨u, hu2, hd⟩ := hcell k c hk
      simpa [hu2] using hd.2
     ·obtain ⟨u, hu2, hd⟩ := hcell k c hk
      simpa [hu2] using hd.1
  ·cases hT
 | .st fs, n, t, cs, x, hT, h => by
  simp only [TT.isAt] at hT
  split at hT
  ·rename_i fl hu
   simp only [Bool.and_eq_true, beq_iff_eq] at hT
   obtain ⟨xs, m, _, _, hlen, hxl, hf⟩ := DataW.trod_struct hu h
   obtain ⟨avs, g1, g2, g3⟩ := trod_datL fs m fl.toList 0 cs hT.2 (fun i f hi => by
    rw [Array.getElem?_toList] at hi
    rw [hf i f hi]
    exact ⟨_, List.getElem?_eq_getElem (by rw [hxl]; exact (Array.getElem?_eq_some_iff.1 hi).1)⟩) (by omega)
   refine ⟨avs, g1, g2, ?_, fun k c hk => ?_⟩
   ·rw [g2, hlen, hT.1]
   ·obtain ⟨u, hu1, hd⟩ := g3 k c hk
    exact ⟨u, by simpa using hu1, hd⟩
  ·cases hT
 | .ar fs, n, t, cs, x, hT, h => by
  simp only [TT.isAt] at hT
  split at hT
  ·rename_i k et hu
   simp only [Bool.and_eq_true, beq_iff_eq] at hT
   obtain ⟨⟨hc, rfl⟩, hA⟩ := hT
   obtain ⟨xs, m, _, _, hlen, hxl, hf⟩ := DataW.trod_array hu h
   obtain ⟨avs, g1, g2, g3⟩ := trod_datA fs m et 0 cs hA (fun i hi => by
    rw [Nat.zero_add, hf i hi]
    exact ⟨_, List.getElem?_eq_getElem (by omega)⟩) (by omega)
   refine ⟨avs, g1, g2, ?_, fun k c hk => ?_⟩
   ·rw [g2, hlen, hc]
   ·obtain ⟨u, hu1, hd⟩ := g3 k c hk
    exact ⟨u, by simpa using hu1, hd⟩
  ·cases hT
theorem trod_datA : ∀ (fs : List TT) (n : Nat) (et : TypeId) (k0 : Nat) (cs : List Value), TT.isA P fs et = true →
  (∀ (i : Nat), i < fs.length → ∃ x, DataW.trod enc P w 0 (fun _ => true) held n et ((cs.drop ((k0 + i) * P.cellsOf et)).take (P.cellsOf et)) = some x) → k0 * P.cellsOf et + TT.sizeL fs ≤ cs.length →
  ∃ avs, TT.fitL fs avs ∧ avs.length = TT.sizeL fs ∧ ∀ (k : Nat) c, avs[k]? = some c → ∃ u, cs[k0 * P.cellsOf et + k]? = some u ∧ DatC (fun b => b < w.heap.size) w c u
 | [], n, et, k0, cs, _, _, _ => ⟨[], rfl, rfl, by simp⟩
 | f :: fs, n, et, k0, cs, hT, h, hl => by
  simp only [TT.isA, Bool.and_eq_true, beq_iff_eq] at hT
  obtain ⟨⟨h2, h3⟩, h4⟩ := hT
  simp only [TT.sizeL] at hl
  obtain ⟨x, hx⟩ := h 0 (by simp)
  rw [Nat.add_zero] at hx
  obtain ⟨a, a1, a2, a3, a4⟩ := trod_dat f n et _ x h3 hx
  have hm : (k0 + 1) * P.cellsOf et = k0 * P.cellsOf et + P.cellsOf et := Nat.succ_mul _ _
  obtain ⟨b, b1, b2, b3⟩ := trod_datA fs n et (k0 + 1) cs h4 (fun i hi => by
   have := h (i + 1) (by simp; omega)
   rwa [show k0 + (i + 1) = k0 + 1 + i by omega] at this) (by omega)
  refine ⟨a ++ b, ⟨a, b, rfl, a1, b1⟩, by simp [TT.sizeL, a2, b2], fun k c hk => ?_⟩
  by_cases hlt : k < a.length
  ·rw [List.getElem?_append_left hlt] at hk
   obtain ⟨u, hu, hd⟩ := a4 k c hk
   rw [List.getElem?_take, if_pos (by omega), List.getElem?_drop] at hu
   exact ⟨u, hu, hd⟩
  ·rw [List.getElem?_append_right (by omega)] at hk
   obtain ⟨u, hu, hd⟩ := b3 _ c hk
   exact ⟨u, by rw [← hu]; congr 1; omega, hd⟩
theorem trod_datL : ∀ (fs : List TT) (n : Nat) (fl : List Field) (off : Nat) (cs : List Value), TT.isL P fs fl off = true →
  (∀ (i : Nat) f, fl[i]? = some f → ∃ x, DataW.trod enc P w 0 (fun _ => true) held n f.type ((cs.drop f.offset).take (P.cellsOf f.type)) = some x) → off + TT.sizeL fs ≤ cs.length →
  ∃ avs, TT.fitL fs avs ∧ avs.length = TT.sizeL fs ∧ ∀ (k : Nat) c, avs[k]? = some c → ∃ u, cs[off + k]? = some u ∧ DatC (fun b => b < w.heap.size) w c u
 | [], n, fl, off, cs, _, _, _ => ⟨[], rfl, rfl, by simp⟩
 | f :: fs, n, [], off, cs, hT, _, _ => by simp [TT.isL] at hT
 | f :: fs, n, d :: ds, off, cs, hT, h, hl => by
  simp only [TT.isL, Bool.and_eq_true, beq_iff_eq] at hT
  obtain ⟨⟨⟨h1, h2⟩, h3⟩, h4⟩ := hT
  simp only [TT.sizeL] at hl
  obtain ⟨x, hx⟩ := h 0 d rfl
  obtain ⟨a, a1, a2, a3, a4⟩ := trod_dat f n d.type _ x h3 hx
  obtain ⟨b, b1, b2, b3⟩ := trod_datL fs n ds (off + f.size) cs h4 (fun i g hi => h (i + 1) g (by simpa using hi)) (by omega)
  refine ⟨a ++ b, ⟨a, b, rfl, a1, b1⟩, by simp [TT.sizeL, a2, b2], fun k c hk => ?_⟩
  by_cases hlt : k < a.length
  ·rw [List.getElem?_append_left hlt] at hk
   obtain ⟨u, hu, hd⟩ := a4 k c hk
   rw [List.getElem?_take, if_pos (by omega), List.getElem?_drop, h1] at hu
   exact ⟨u, hu, hd⟩
  ·rw [List.getElem?_append_right (by omega)] at hk
   obtain ⟨u, hu, hd⟩ := b3 _ c hk
   exact ⟨u, by rw [← hu]; congr 1; omega, hd⟩
end
end
end Go.AM
namespace Go.AM
open Go.RowKit Go.WideShapes
theorem Pure.calls {P : Program} {f : Nat} {args : List AV} {b : Bool} (h : Pure P f args (.b b)) {w : World} {vs : Array Value} (hl : args.length = vs.size) (hv : ∀ (k : Nat) c, args[k]? = some c → Dat (fun b => b < w.heap.size) w c (vs.getD k undef)) (hG : Gl (fun b => b < w.heap.size) w := by exact .none globs_nil) :
  Calls P f vs w fun e w' => e = .returned (.bool b) ∧ Below w.heap.size w w' := by
 refine (h.2 w (fun _ => 0) (fun _ => none) (fun bk => bk < w.heap.size) vs (rel_empty _ _ _ (fun _ h => h) hG) (by simp) hl (fun k c hk => (hv k c hk).val (E := ⟨w, fun _ => 0, fun _ => none, fun bk => bk < w.heap.size, St.ofBoxes [], #[]⟩) _)).mono ?_
 rintro e w' ⟨v, E', rfl, rfl, I, _, _, hr⟩
 refine ⟨by cases hr; rfl, I.fr.os.1, I.fr.tape, I.fr.output, I.fr.size, fun k hk => I.fr.block k hk (by simp)⟩
def TT.wrap : TT → List AV → AV
 | .st _, avs => .agg avs
 | _, avs => avs.getD 0 .any
theorem arg_dat {H : Type} {enc : TypeId × Value → H} {P : Program} {w : World} {held : Bool} {r : Reach} {b0 : Nat} {t : TypeId} {v : Value} {d : DataW H} {p : List MemPlace} (T : TT) (hT : T.isAt P t = true) (hval : Value.okWide P w r b0 t v)
  (h : DataW.Trod enc P w 0 (fun _ => true) held t v d p) (hna : ∀ es, T ≠ .ar es := by intro es h; cases h) : ∃ avs, T.fit avs ∧ Dat (fun b => b < w.heap.size) w (T.wrap avs) v := by
 obtain ⟨n, hn⟩ := h
 obtain ⟨avs, h1, h2, h3⟩ := trod_dat T n t _ _ hT hn
 refine ⟨avs, h1, ?_⟩
 have one : v.cells.toList = [v] → avs.length = 1 → Dat (fun b => b < w.heap.size) w (avs.getD 0 .any) v := by
  intro hc hl
  match avs, hl with
  | [c], _ =>
   obtain ⟨u, hu, hd⟩ := h3.2 0 c rfl
   rw [hc] at hu
   obtain rfl := Option.some.inj hu
   exact hd.1
 cases T with
 | ar es => exact absurd rfl (hna es)
 | int k =>
  simp only [TT.isAt] at hT
  split at hT
  ·rename_i k' hu
   obtain ⟨n, rfl⟩ := okWide_int hu hval
   exact one rfl h2
  ·cases hT
 | bool =>
  simp only [TT.isAt] at hT
  split at hT
  ·rename_i hu
   obtain ⟨n, rfl⟩ := okWide_bool hu hval
   exact one rfl h2
  ·cases hT
 | str =>
  simp only [TT.isAt] at hT
  split at hT
  ·rename_i hu
   obtain ⟨n, rfl⟩ := okWide_string hu hval
   exact one rfl h2
  ·cases hT
 | sl sz e =>
  simp only [TT.isAt] at hT
  split at hT
  ·rename_i et hu
   obtain ⟨a, len, cap, rfl⟩ := okWide_slice hu hval
   exact one rfl h2
  ·cases hT
 | st fs =>
  simp only [TT.isAt] at hT
  split at hT
  ·rename_i fl hu
   simp only [Value.okWide, hu] at hval
   obtain ⟨cs, rfl, _, _⟩ := hval
   refine .agg _ cs (by rw [h3.1]; simp [Value.cells]) fun k c hk => ?_
   obtain ⟨u, hu, hd⟩ := h3.2 k c hk
   simp only [Value.cells, Array.getElem?_toList] at hu
   rw [Array.getD_eq_getD_getElem?, hu]
   exact hd.1
  ·cases hT
theorem list_of {α : Type} {g : α → List AV} : ∀ {xs : List (List AV)}, (∀ x ∈ xs, ∃ a, x = g a) → ∃ l : List α, xs = l.map g
 | [], _ => ⟨[], rfl⟩
 | x :: xs, h => by
  obtain ⟨a, rfl⟩ := h x (by simp)
  obtain ⟨l, rfl⟩ := list_of (xs := xs) fun y hy => h y (by simp [hy])
  exact ⟨a :: l, rfl⟩
end Go.AM
