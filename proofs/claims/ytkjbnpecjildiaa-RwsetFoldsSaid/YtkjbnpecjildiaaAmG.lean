/- slices.Insert at entries, in a box. -/
import Derived.Test.YtkjbnpecjildiaaAmF
import Derived.Test.YtkjbnpecjildiaaAmE
set_option linter.unusedSimpArgs false
set_option linter.unusedVariables false
namespace Go.AM
open Go.Proofs

theorem Entry_apart : Apart Try.prog 112 := ⟨_, 22, 4, 60, 3, Try.func112, by kernel_rfl, by kernel_rfl, by kernel_rfl, by kernel_rfl, Try.underlying22, Try.sizeOf60⟩
set_option maxRecDepth 8000 in
set_option maxHeartbeats 2000000 in
theorem c_Insert1_Entry (R : List (List AV)) (x X pad : List AV) (i cap c1 : Nat) (hR : Rows 3 R) (hx : Rows 3 [x]) (hcx : Calm X) (hxt : List.take 3 X = x) (hXl : 3 ≤ X.length) (hi : i ≤ R.length) (hpad : Calm pad) (hroom : R.length < cap) (hn : R.length ≤ 1000000) (hp : pad.length = (cap - R.length) * 3) : Proc Try.prog 2 89 [.bs 0 0 R.length cap, .i .i64 i, .bs 1 0 1 c1] [(0, boxF R pad), (1, X)] (.bs 0 0 (R.length + 1) cap) [(0, boxF (R.take i ++ x :: R.drop i) (pad.drop 3)), (1, X)] := by
  have hC : Calm (boxF R pad) := boxF_calm hR hpad
  have hL := boxF_len hR pad
  have hxl : x.length = 3 := (hx x (by simp)).1
  have hxd : allDat x = true := (hx x (by simp)).2.2
  have hw1 : IntKind.i64.wrap ((R.length : Int) + 1) = (R.length : Int) + 1 := wrap64 (by omega) (by omega)
  have hw2 : IntKind.i64.wrap ((i : Int) + 1) = (i : Int) + 1 := wrap64 (by omega) (by omega)
  obtain ⟨T, hT⟩ : ∃ T, T = R.take i ++ x :: R.drop i := ⟨_, rfl⟩
  rw [← hT]
  have hRT : Rows 3 T := by rw [hT]; exact (hR.take i).append (hx.cons (hR.drop i))
  have hCT : Calm (boxF T (pad.drop 3)) := boxF_calm hRT (hpad.drop _)
  refine proc_of (cxb Try.prog 95 2 [0, 1, 2, 6, 7, 8, 9, 16, 22, 31, 68] [] [6]) 92 [.tmp 6] Try.func89 rfl rfl rfl rfl rfl rfl (Nat.le_refl _) rfl ?_
  refine AWp.go [0, 1, 2] [0, 1] fun K hK => ?_
  simp [hC, hcx]
  first | refine hK _ _ ?_ | refine ⟨by omega, hK _ _ ?_⟩ | refine ⟨by omega, by omega, hK _ _ ?_⟩
  clear hK K
  refine AWp.go [0, 1, 2] [0, 1] fun K hK => ?_
  simp [hC, hcx]
  first | refine hK _ _ ?_ | refine ⟨by omega, hK _ _ ?_⟩ | refine ⟨by omega, by omega, hK _ _ ?_⟩
  clear hK K
  refine AWp.go [0, 1, 2, 7] [0, 1] fun K hK => ?_
  simp [hC, hcx]
  first | refine hK _ _ ?_ | refine ⟨by omega, hK _ _ ?_⟩ | refine ⟨by omega, by omega, hK _ _ ?_⟩
  clear hK K
  refine AWp.seq ?_
  refine AWp.go [0, 1, 2, 7, 16] [0, 1] fun K hK => ?_
  simp [hC, hcx]
  first | refine hK _ _ ?_ | refine ⟨by omega, hK _ _ ?_⟩ | refine ⟨by omega, by omega, hK _ _ ?_⟩
  clear hK K
  refine AWp.cond (t := false) (by first | (simp; done) | (simp; omega)) (by simp) (fun _ => ?_)
  refine AWp.skip ?_
  show AWp _ _ _ _
  refine AWp.go [0, 1, 2, 7, 8] [0, 1] fun K hK => ?_
  simp [hC, hcx]
  first | refine hK _ _ ?_ | refine ⟨by omega, hK _ _ ?_⟩ | refine ⟨by omega, by omega, hK _ _ ?_⟩
  clear hK K
  refine AWp.seq ?_
  refine AWp.go [0, 1, 2, 7, 8, 22] [0, 1] fun K hK => ?_
  simp [hC, hcx]
  first | refine hK _ _ ?_ | refine ⟨by omega, hK _ _ ?_⟩ | refine ⟨by omega, by omega, hK _ _ ?_⟩
  clear hK K
  by_cases h : i = R.length
  · refine AWp.cond (t := true) (by first | (simp [h]; done) | (simp [h]; omega)) (fun _ => ?_) (by simp)
    have hgr := boxF_grow (Y := [x]) hR pad
    have hF : AV.freeL (List.take 3 (List.drop (R.length * 3) (boxF R pad))) = true := ((hC.drop _).take _).freeL
    have e : R ++ [x] = T := by rw [hT, h]; simp
    simp [e] at hgr
    refine AWp.go [6] [0, 1] fun K hK => ?_
    simp
    refine append_room ?_
    simp [hF, hgr, hC, hL, hcx, hxl, hxd, hxt, hXl, hCT]
    refine ⟨by omega, by omega, hK _ _ ?_⟩
    clear hK K
    refine AWp.ret ?_
    simp [hCT, hcx]
    intro id cs1 hid
    rw [hid]
    have hc1 : Calm cs1 := by
      split at hid
      · cases hid; exact hCT
      · split at hid
        · cases hid; exact hcx
        · cases hid
    exact ⟨AV.fitsL_refl _, by simpa using hc1.still⟩
  · refine AWp.cond (t := false) (by first | (simp; done) | (simp; omega)) (by simp) (fun _ => ?_)
    refine AWp.skip ?_
    show AWp _ _ _ _
    refine AWp.seq ?_
    refine AWp.go [0, 1, 2, 7, 8, 31] [0, 1] fun K hK => ?_
    simp [hC, hcx, hw1]
    first | refine hK _ _ ?_ | refine ⟨by omega, hK _ _ ?_⟩ | refine ⟨by omega, by omega, hK _ _ ?_⟩
    clear hK K
    refine AWp.cond (t := false) (by first | (simp; done) | (simp; omega)) (by simp) (fun _ => ?_)
    refine AWp.skip ?_
    show AWp _ _ _ _
    refine AWp.go [0, 1, 2, 7, 8] [0, 1] fun K hK => ?_
    simp [hC, hcx, hw1]
    first | refine hK _ _ ?_ | refine ⟨by omega, hK _ _ ?_⟩ | refine ⟨by omega, by omega, hK _ _ ?_⟩
    clear hK K
    refine AWp.seq ?_
    have hne : ¬ cap = i + 1 := by omega
    refine AWp.go [0, 1, 2, 7, 8, 68] [0, 1] fun K hK => ?_
    simp [hne, hw2]
    refine ⟨by omega, ?_⟩
    refine call_apart Entry_apart (by rfl) ⟨by decide, by simp, by simp [hL]; omega⟩ ?_
    simp [hC, hcx]
    refine hK _ _ ?_
    clear hK K
    refine AWp.cond (t := true) (by first | (simp; done) | (simp; omega)) (fun _ => ?_) (by simp)
    have hch := boxF_chunk_all hR pad i hi
    have hda := boxF_dat hR pad i (R.length - i) (by omega)
    have hsh := boxF_shift hR pad i (by omega)
    have hmin : min (R.length + 1 - i) (R.length - i) = R.length - i := by omega
    have hsum := sum_len (hR.drop i)
    simp [-List.length_flatten] at hsum hsh
    have hne2 : ¬ cap = i := by omega
    have hle : i * 3 + (R.length - i) * 3 ≤ R.length * 3 + pad.length := by omega
    have hF : ∀ n, AV.freeL (List.take n (List.drop ((i + 1) * 3) (boxF R pad))) = true := fun n => ((hC.drop _).take n).freeL
    have hle3 : (i + 1) * 3 + (R.length - i) * 3 ≤ R.length * 3 + pad.length := by omega
    obtain ⟨R2, hR2⟩ : ∃ R2, R2 = List.take (i + 1) R ++ List.drop i R := ⟨_, rfl⟩
    rw [← hR2] at hsh
    have hRR : Rows 3 R2 := by rw [hR2]; exact (hR.take _).append (hR.drop _)
    have hCs : Calm (boxF R2 (pad.drop 3)) := boxF_calm hRR (hpad.drop _)
    have hR2l : R2.length = R.length + 1 := by rw [hR2]; simp; omega
    have hL2 := boxF_len hRR (pad.drop 3)
    rw [hR2l, List.length_drop] at hL2
    have hpt := boxF_put (Y := [x]) hRR (pad.drop 3) i (by simp; omega)
    have hRT2 : R2.take i ++ [x] ++ R2.drop (i + [x].length) = T := by
      rw [hT, hR2, List.take_append_of_le_length (by simp; omega), List.take_take, Nat.min_eq_left (by omega), List.drop_append_of_le_length (by simp; omega)]
      simp
    rw [hRT2] at hpt
    simp at hpt
    have hF2 : ∀ n, AV.freeL (List.take n (List.drop (i * 3) (boxF R2 (pad.drop 3)))) = true := fun n => ((hCs.drop _).take n).freeL
    have hle4 : i * 3 + 3 ≤ (R.length + 1) * 3 + (pad.length - 3) := by omega
    have hmin1 : min 1 (R.length + 1 - i) = 1 := by omega
    have hle5 : 1 ≤ R.length + 1 - i := by omega
    refine AWp.stepT (.take 0 (.take 1 (.take 2 (.take 3 (.take 4 (.take 5 (.take 6 (.take 7 (.alt 8 .fin .stop))))))))) [0, 1, 2] [0, 1] [(0, .bs 0 0 (R.length + 1) cap), (1, .i .i64 i), (2, .bs 1 0 1 c1)] [(0, boxF R2 (pad.drop 3)), (1, X)] mix (by kernel_rfl) ?_ ?_
    · refine atree.tk fun K1 h1 => ?_
      simp
      first | refine h1 _ _ ?_ | refine ⟨by omega, h1 _ _ ?_⟩ | refine ⟨by omega, by omega, h1 _ _ ?_⟩
      clear h1 K1
      refine atree.tk fun K1 h1 => ?_
      simp
      first | refine h1 _ _ ?_ | refine ⟨by omega, h1 _ _ ?_⟩ | refine ⟨by omega, by omega, h1 _ _ ?_⟩
      clear h1 K1
      refine atree.tk fun K1 h1 => ?_
      simp
      first | refine h1 _ _ ?_ | refine ⟨by omega, h1 _ _ ?_⟩ | refine ⟨by omega, by omega, h1 _ _ ?_⟩
      clear h1 K1
      refine atree.tk fun K1 h1 => ?_
      simp [hw2]
      first | refine h1 _ _ ?_ | refine ⟨by omega, h1 _ _ ?_⟩ | refine ⟨by omega, by omega, h1 _ _ ?_⟩
      clear h1 K1
      refine atree.tk fun K1 h1 => ?_
      simp [hne]
      first | refine h1 _ _ ?_ | refine ⟨by omega, h1 _ _ ?_⟩ | refine ⟨by omega, by omega, h1 _ _ ?_⟩
      clear h1 K1
      refine atree.tk fun K1 h1 => ?_
      simp
      first | refine h1 _ _ ?_ | refine ⟨by omega, h1 _ _ ?_⟩ | refine ⟨by omega, by omega, h1 _ _ ?_⟩
      clear h1 K1
      refine atree.tk fun K1 h1 => ?_
      simp
      first | refine h1 _ _ ?_ | refine ⟨by omega, h1 _ _ ?_⟩ | refine ⟨by omega, by omega, h1 _ _ ?_⟩
      clear h1 K1
      refine atree.tk fun K1 h1 => ?_
      simp [hne2]
      first | refine h1 _ _ ?_ | refine ⟨by omega, h1 _ _ ?_⟩ | refine ⟨by omega, by omega, h1 _ _ ?_⟩
      clear h1 K1
      refine atree.a1 fun K1 h1 => ?_
      simp [hle, hle3, hF, hmin, hch, hda, hsh, hsum, hL]
      first | refine h1 _ _ ?_ | refine ⟨by omega, h1 _ _ ?_⟩ | refine ⟨by omega, by omega, h1 _ _ ?_⟩
      clear h1 K1
      simp [hCs, hcx]
    refine AWp.go [0] [0, 1] fun K hK => ?_
    simp [hne2, hL2, hpt, hF2, hle4, hmin1, hle5, hcx, hxl, hxd, hxt, hXl, hCT]
    first | refine hK _ _ ?_ | refine ⟨by omega, hK _ _ ?_⟩ | refine ⟨by omega, by omega, hK _ _ ?_⟩
    clear hK K
    refine AWp.go [6] [0, 1] fun K hK => ?_
    simp [hcx, hCT]
    first | refine hK _ _ ?_ | refine ⟨by omega, hK _ _ ?_⟩ | refine ⟨by omega, by omega, hK _ _ ?_⟩
    clear hK K
    refine AWp.ret ?_
    simp [hCT, hcx]
    intro id cs1 hid
    rw [hid]
    have hc1 : Calm cs1 := by
      split at hid
      · cases hid; exact hCT
      · split at hid
        · cases hid; exact hcx
        · cases hid
    exact ⟨AV.fitsL_refl _, by simpa using hc1.still⟩
set_option maxRecDepth 8000 in
set_option maxHeartbeats 2000000 in
theorem c_Insert2_Entry (R : List (List AV)) (x X pad : List AV) (i c1 : Nat) (hR : Rows 3 R) (hx : Rows 3 [x]) (hcx : Calm X) (hxt : List.take 3 X = x) (hXl : 3 ≤ X.length) (hi : i ≤ R.length) (hpad : Calm pad) (hcap : R.length ≤ 1000000) (hp : pad.length = 0) : Proc Try.prog 2 89 [.bs 0 0 R.length R.length, .i .i64 i, .bs 1 0 1 c1] [(0, boxF R pad), (1, X)] (.sl .own 3 (R.take i ++ x :: R.drop i)) [(0, boxF R pad), (1, X)] := by
  have hC : Calm (boxF R pad) := boxF_calm hR hpad
  have hL := boxF_len hR pad
  have hxl : x.length = 3 := (hx x (by simp)).1
  have hxd : allDat x = true := (hx x (by simp)).2.2
  have hw1 : IntKind.i64.wrap ((R.length : Int) + 1) = (R.length : Int) + 1 := wrap64 (by omega) (by omega)
  have hw2 : IntKind.i64.wrap ((i : Int) + 1) = (i : Int) + 1 := wrap64 (by omega) (by omega)
  have hw3 : IntKind.i64.wrap ((R.length : Int) + 1 - i) = (R.length : Int) + 1 - i := wrap64 (by omega) (by omega)
  obtain ⟨T, hT⟩ : ∃ T, T = R.take i ++ x :: R.drop i := ⟨_, rfl⟩
  rw [← hT]
  have hRT : Rows 3 T := by rw [hT]; exact (hR.take i).append (hx.cons (hR.drop i))
  refine proc_of (cxb Try.prog 95 2 [0, 1, 2, 6, 7, 8, 9, 16, 22, 31, 68] [] [6]) 92 [.tmp 6] Try.func89 rfl rfl rfl rfl rfl rfl (Nat.le_refl _) rfl ?_
  refine AWp.go [0, 1, 2] [0, 1] fun K hK => ?_
  simp [hC, hcx]
  first | refine hK _ _ ?_ | refine ⟨by omega, hK _ _ ?_⟩ | refine ⟨by omega, by omega, hK _ _ ?_⟩
  clear hK K
  refine AWp.go [0, 1, 2] [0, 1] fun K hK => ?_
  simp [hC, hcx]
  first | refine hK _ _ ?_ | refine ⟨by omega, hK _ _ ?_⟩ | refine ⟨by omega, by omega, hK _ _ ?_⟩
  clear hK K
  refine AWp.go [0, 1, 2, 7] [0, 1] fun K hK => ?_
  simp [hC, hcx]
  first | refine hK _ _ ?_ | refine ⟨by omega, hK _ _ ?_⟩ | refine ⟨by omega, by omega, hK _ _ ?_⟩
  clear hK K
  refine AWp.seq ?_
  refine AWp.go [0, 1, 2, 7, 16] [0, 1] fun K hK => ?_
  simp [hC, hcx]
  first | refine hK _ _ ?_ | refine ⟨by omega, hK _ _ ?_⟩ | refine ⟨by omega, by omega, hK _ _ ?_⟩
  clear hK K
  refine AWp.cond (t := false) (by first | (simp; done) | (simp; omega)) (by simp) (fun _ => ?_)
  refine AWp.skip ?_
  show AWp _ _ _ _
  refine AWp.go [0, 1, 2, 7, 8] [0, 1] fun K hK => ?_
  simp [hC, hcx]
  first | refine hK _ _ ?_ | refine ⟨by omega, hK _ _ ?_⟩ | refine ⟨by omega, by omega, hK _ _ ?_⟩
  clear hK K
  refine AWp.seq ?_
  refine AWp.go [0, 1, 2, 7, 8, 22] [0, 1] fun K hK => ?_
  simp [hC, hcx]
  first | refine hK _ _ ?_ | refine ⟨by omega, hK _ _ ?_⟩ | refine ⟨by omega, by omega, hK _ _ ?_⟩
  clear hK K
  by_cases h : i = R.length
  · refine AWp.cond (t := true) (by first | (simp [h]; done) | (simp [h]; omega)) (fun _ => ?_) (by simp)
    have hall := boxF_chunk_all hR pad 0 (by omega)
    have hda := boxF_dat hR pad 0 R.length (by omega)
    have e : R ++ [x] = T := by rw [hT, h]; simp
    simp at hall hda
    refine AWp.go [6] [0, 1] fun K hK => ?_
    simp
    refine append_grow ?_
    simp [hall, hda, e, hC, hL, hcx, hxd, hxt, hXl]
    first | refine hK _ _ ?_ | refine ⟨by omega, hK _ _ ?_⟩ | refine ⟨by omega, by omega, hK _ _ ?_⟩
    clear hK K
    refine AWp.ret ?_
    simp [hC, hcx]
    intro id cs1 hid
    rw [hid]
    have hc1 : Calm cs1 := by
      split at hid
      · cases hid; exact hC
      · split at hid
        · cases hid; exact hcx
        · cases hid
    exact ⟨AV.fitsL_refl _, by simpa using hc1.still⟩
  · refine AWp.cond (t := false) (by first | (simp; done) | (simp; omega)) (by simp) (fun _ => ?_)
    refine AWp.skip ?_
    show AWp _ _ _ _
    refine AWp.seq ?_
    refine AWp.go [0, 1, 2, 7, 8, 31] [0, 1] fun K hK => ?_
    simp [hC, hcx, hw1]
    first | refine hK _ _ ?_ | refine ⟨by omega, hK _ _ ?_⟩ | refine ⟨by omega, by omega, hK _ _ ?_⟩
    clear hK K
    refine AWp.cond (t := true) (by first | (simp; done) | (simp; omega)) (fun _ => ?_) (by simp)
    have hall := boxF_chunk hR pad 0 i (by omega)
    have hda := boxF_dat hR pad 0 i (by omega)
    simp at hall hda
    have hle : i * 3 ≤ R.length * 3 + pad.length := by omega
    have htn : ((R.length : Int) + 1 - i).toNat = R.length + 1 - i := by omega
    refine AWp.go [0, 1, 2, 7, 9] [0, 1, 101] fun K hK => ?_
    simp [hw1, hw3]
    refine ⟨by omega, ?_⟩
    refine append_zeros ?_
    simp [hall, hda, hle, htn, hC, hL, hcx]
    refine ⟨by omega, by omega, by omega, hK _ _ ?_⟩
    clear hK K
    obtain ⟨Z, hZ⟩ : ∃ Z : List AV, Z = [.s ByteArray.empty, .sl .fro 2 [], .sl .fro 2 []] := ⟨_, rfl⟩
    have hzr : Rows 3 [Z] := fun r hr => by rw [List.mem_singleton] at hr; subst hr; rw [hZ]; exact ⟨rfl, fun c hc => by simp at hc; rcases hc with rfl | rfl | rfl <;> rfl, rfl⟩
    rw [← hZ]
    obtain ⟨R1, hR1⟩ : ∃ R1, R1 = List.take i R ++ List.replicate (R.length + 1 - i) Z := ⟨_, rfl⟩
    have hR1l : R1.length = R.length + 1 := by rw [hR1]; simp; omega
    have hr1 : Rows 3 R1 := by rw [hR1]; exact (hR.take _).append (hzr.rep _)
    rw [← hR1]
    refine AWp.unown 9 101 rfl (by simp) (fun h0 => by rw [h0] at hR1l; simp at hR1l) rfl (by simp) fun cap2 hcap2 => ?_
    rw [hR1l] at hcap2
    have e0 : R1.flatten ++ List.replicate ((cap2 - (R.length + 1)) * 3) AV.any = boxF R1 (List.replicate ((cap2 - (R.length + 1)) * 3) AV.any) := rfl
    obtain ⟨pd, hpd⟩ : ∃ pd, pd = List.replicate ((cap2 - (R.length + 1)) * 3) AV.any := ⟨_, rfl⟩
    have hcpd : Calm pd := by rw [hpd]; exact Calm.replicate _ rfl
    rw [← hpd] at e0
    have hC1 : Calm (boxF R1 pd) := boxF_calm hr1 hcpd
    have hL1 := boxF_len hr1 pd
    simp [hR1l, ← hpd, e0]
    have hmin1 : min 1 (R.length + 1 - i) = 1 := by omega
    have hle5 : 1 ≤ R.length + 1 - i := by omega
    have hne2 : ¬ cap2 = i := by omega
    rw [hR1l] at hL1
    have hpt := boxF_put (Y := [x]) hr1 pd i (by simp; omega)
    obtain ⟨R3, hR3⟩ : ∃ R3, R3 = R1.take i ++ [x] ++ R1.drop (i + [x].length) := ⟨_, rfl⟩
    rw [← hR3] at hpt
    simp at hpt
    have hle6 : i * 3 + 3 ≤ (R.length + 1) * 3 + pd.length := by omega
    have hF3 : ∀ n, AV.freeL (List.take n (List.drop (i * 3) (boxF R1 pd))) = true := fun n => ((hC1.drop _).take n).freeL
    have hr3 : Rows 3 R3 := by rw [hR3]; exact ((hr1.take _).append hx).append (hr1.drop _)
    have hR3l : R3.length = R.length + 1 := by rw [hR3]; simp [hR1l]; omega
    have hC3 : Calm (boxF R3 pd) := boxF_calm hr3 hcpd
    have hL3 := boxF_len hr3 pd
    rw [hR3l] at hL3
    refine AWp.go [0, 1, 7, 9] [0, 1, 101] fun K hK => ?_
    simp [hne2, hmin1, hle5, hL1, hF3, hle6, hpt, hC3, hC, hcx, hxl, hxd, hxt, hXl]
    first | refine hK _ _ ?_ | refine ⟨by omega, hK _ _ ?_⟩ | refine ⟨by omega, by omega, hK _ _ ?_⟩
    clear hK K
    have hch := boxF_chunk_all hR pad i hi
    have hda := boxF_dat hR pad i (R.length - i) (by omega)
    have hmin : min (R.length - i) (R.length - i) = R.length - i := by omega
    have hsum := sum_len (hR.drop i)
    have hne3 : ¬ cap2 = i + 1 := by omega
    have hne4 : ¬ R.length = i := by omega
    have hle7 : i * 3 + (R.length - i) * 3 ≤ R.length * 3 + pad.length := by omega
    have hpt2 := boxF_put (Y := R.drop i) hr3 pd (i + 1) (by simp; omega)
    have hRT2 : R3.take (i + 1) ++ R.drop i ++ R3.drop (i + 1 + (R.drop i).length) = T := by
      have h1 : R3.take (i + 1) = R.take i ++ [x] := by
        rw [hR3, List.take_append_of_le_length (by simp; omega), List.take_of_length_le (by simp; omega), hR1, List.take_append_of_le_length (by simp; omega), List.take_take, Nat.min_self]
      have h2 : R3.drop (i + 1 + (R.drop i).length) = [] := List.drop_eq_nil_of_le (by rw [hR3l, List.length_drop]; omega)
      rw [h1, h2, hT]; simp
    rw [hRT2] at hpt2
    simp at hpt2 hsum
    have hF4 : ∀ n, AV.freeL (List.take n (List.drop ((i + 1) * 3) (boxF R3 pd))) = true := fun n => ((hC3.drop _).take n).freeL
    have hle8 : (i + 1) * 3 + (R.length - i) * 3 ≤ (R.length + 1) * 3 + pd.length := by omega
    have hCT : Calm (boxF T pd) := boxF_calm hRT hcpd
    refine AWp.stepT (.take 0 (.take 1 (.take 2 (.take 3 (.take 4 (.take 5 (.take 6 (.take 7 (.alt 8 .fin .stop))))))))) [9] [0, 1, 101] [(9, .bs 101 0 (R.length + 1) cap2)] [(0, boxF R pad), (1, X), (101, boxF T pd)] mix (by kernel_rfl) ?_ ?_
    · refine atree.tk fun K1 h1 => ?_
      simp
      first | refine h1 _ _ ?_ | refine ⟨by omega, h1 _ _ ?_⟩ | refine ⟨by omega, by omega, h1 _ _ ?_⟩
      clear h1 K1
      refine atree.tk fun K1 h1 => ?_
      simp
      first | refine h1 _ _ ?_ | refine ⟨by omega, h1 _ _ ?_⟩ | refine ⟨by omega, by omega, h1 _ _ ?_⟩
      clear h1 K1
      refine atree.tk fun K1 h1 => ?_
      simp
      first | refine h1 _ _ ?_ | refine ⟨by omega, h1 _ _ ?_⟩ | refine ⟨by omega, by omega, h1 _ _ ?_⟩
      clear h1 K1
      refine atree.tk fun K1 h1 => ?_
      simp [hw2]
      first | refine h1 _ _ ?_ | refine ⟨by omega, h1 _ _ ?_⟩ | refine ⟨by omega, by omega, h1 _ _ ?_⟩
      clear h1 K1
      refine atree.tk fun K1 h1 => ?_
      simp [hne3]
      first | refine h1 _ _ ?_ | refine ⟨by omega, h1 _ _ ?_⟩ | refine ⟨by omega, by omega, h1 _ _ ?_⟩
      clear h1 K1
      refine atree.tk fun K1 h1 => ?_
      simp
      first | refine h1 _ _ ?_ | refine ⟨by omega, h1 _ _ ?_⟩ | refine ⟨by omega, by omega, h1 _ _ ?_⟩
      clear h1 K1
      refine atree.tk fun K1 h1 => ?_
      simp
      first | refine h1 _ _ ?_ | refine ⟨by omega, h1 _ _ ?_⟩ | refine ⟨by omega, by omega, h1 _ _ ?_⟩
      clear h1 K1
      refine atree.tk fun K1 h1 => ?_
      simp [hne4]
      first | refine h1 _ _ ?_ | refine ⟨by omega, h1 _ _ ?_⟩ | refine ⟨by omega, by omega, h1 _ _ ?_⟩
      clear h1 K1
      refine atree.a1 fun K1 h1 => ?_
      simp [hch, hda, hmin, hsum, hle7, hpt2, hF4, hle8, hL3, hL]
      first | refine h1 _ _ ?_ | refine ⟨by omega, h1 _ _ ?_⟩ | refine ⟨by omega, by omega, h1 _ _ ?_⟩
      clear h1 K1
      simp [hC, hcx, hCT]
    have hrl : T.flatten.length = T.length * 3 := hRT.flat
    have hTl : T.length = R.length + 1 := by rw [hT]; simp; omega
    have hpl : pd.length = (cap2 - (R.length + 1)) * 3 := by rw [hpd]; simp
    rw [← hTl]
    refine AWp.reown 9 101 cap2 (sz := 3) T pd (by simp) (by simp) rfl ?_ (fun z hz => (hRT z hz).1) ?_ hCT.freeL ?_
    · rw [List.length_append, hrl, hpl]; omega
    · have := boxF_dat hRT [] 0 T.length (by omega)
      unfold allDat boxF at this
      rw [List.append_nil, Nat.zero_mul, List.drop_zero, ← hrl, List.take_length] at this
      exact this
    simp [hC, hcx]
    refine AWp.go [6] [0, 1, 101] fun K hK => ?_
    simp [hC, hcx]
    first | refine hK _ _ ?_ | refine ⟨by omega, hK _ _ ?_⟩ | refine ⟨by omega, by omega, hK _ _ ?_⟩
    clear hK K
    refine AWp.ret ?_
    simp [hC, hcx]
    intro id cs1 hid
    rw [hid]
    have hc1 : Calm cs1 := by
      split at hid
      · cases hid; exact hC
      · split at hid
        · cases hid; exact hcx
        · cases hid
    exact ⟨AV.fitsL_refl _, by simpa using hc1.still⟩
end Go.AM
namespace Go.AM
open Go.Proofs
theorem entsAV_map (s : List Entry) : entsAV s = s.map entC := rfl
theorem ents_rows (s : List Entry) : Rows 3 (s.map entC) := fun r hr => by
  obtain ⟨e, _, rfl⟩ := List.mem_map.1 hr
  exact ⟨rfl, entC_ok.calm e, rfl⟩
theorem ent_rows (e : Entry) : Rows 3 [entC e] := ents_rows [e]
/-- A set with an entry put at its key's place. -/
def putS (s : List Entry) (e : Entry) : List Entry := if there s e.key then s.set (place s e.key) e else s.take (place s e.key) ++ e :: s.drop (place s e.key)
theorem ents_ins (s : List Entry) (i : Nat) (e : Entry) : (s.map entC).take i ++ entC e :: (s.map entC).drop i = entsAV (s.take i ++ e :: s.drop i) := by
  rw [entsAV_map, List.map_append, List.map_cons, List.map_take, List.map_drop]
theorem boxF_ents (s : List Entry) (pad : List AV) : boxF (s.map entC) pad = boxR entC s pad := rfl

set_option maxRecDepth 8000 in
set_option maxHeartbeats 4000000 in
theorem c_rwset_putM (s : List Entry) (e : Entry) (hs : Fine s) (hl : s.length < 4000) (ht : there s e.key = false) : Pure Try.prog 53 [.sl .fro 3 (entsAV s), .agg (entC e)] (.tup [.sl .own 3 (entsAV (s.take (place s e.key) ++ e :: s.drop (place s e.key))), .i .i64 0]) := by
  have hpl := place_le s e.key
  obtain ⟨L, hL⟩ : ∃ L, L = s.take (place s e.key) ++ e :: s.drop (place s e.key) := ⟨_, rfl⟩
  rw [← hL]
  refine proc_of (cx Try.prog 36 [0, 3, 4, 5, 6, 7, 9, 20, 27] [4, 5]) 34 [.tmp 4, .tmp 5] Try.func53 rfl rfl rfl rfl rfl rfl (Nat.le_refl _) rfl ?_
  refine AWp.go [0, 3] [3] fun K hK => ?_
  simp [entC]
  first | refine hK _ _ ?_ | refine ⟨by omega, hK _ _ ?_⟩ | refine ⟨by omega, by omega, hK _ _ ?_⟩
  clear hK K
  refine AWp.go [3, 6] [3] fun K hK => ?_
  simp
  refine call_pure (c_rwset_copied s hs) (by simp) ?_
  simp
  first | refine hK _ _ ?_ | refine ⟨by omega, hK _ _ ?_⟩ | refine ⟨by omega, by omega, hK _ _ ?_⟩
  clear hK K
  refine AWp.unown0 6 100 rfl (by simp) rfl (by simp) (fun h0 => ?_) fun cap hcap => ?_
  · have h0 : s = [] := by simpa [entsAV] using h0
    subst h0
    simp
    refine AWp.go [3, 6, 7, 9] [3] fun K hK => ?_
    simp
    refine call_pure (c_rwset_at [] e.key fine_nil) (by simp [entsAV]) ?_
    simp [place_nil, there_nil, entC]
    first | refine hK _ _ ?_ | refine ⟨by omega, hK _ _ ?_⟩ | refine ⟨by omega, by omega, hK _ _ ?_⟩
    clear hK K
    refine AWp.seq ?_
    refine AWp.block ?_
    refine AWp.go [3, 6, 7, 20] [3] fun K hK => ?_
    simp
    first | refine hK _ _ ?_ | refine ⟨by omega, hK _ _ ?_⟩ | refine ⟨by omega, by omega, hK _ _ ?_⟩
    clear hK K
    refine AWp.cond (t := false) (by first | (simp; done) | (simp; omega)) (by simp) (fun _ => ?_)
    refine AWp.go [3, 6, 7, 27] [3] fun K hK => ?_
    simp
    first | refine hK _ _ ?_ | refine ⟨by omega, hK _ _ ?_⟩ | refine ⟨by omega, by omega, hK _ _ ?_⟩
    clear hK K
    refine AWp.cond (t := false) (by first | (simp; done) | (simp; omega)) (by simp) (fun _ => ?_)
    refine AWp.skip ?_
    show AWp _ _ _ _
    refine AWp.go [4, 5] [] fun K hK => ?_
    simp
    refine call_procK [] none (c_Insert_EntryN e) (by simp [entC]) (by simp) ?_
    simp
    first | refine hK _ _ ?_ | refine ⟨by omega, hK _ _ ?_⟩ | refine ⟨by omega, by omega, hK _ _ ?_⟩
    clear hK K
    refine AWp.ret ?_
    simp [hL, entsAV]
  · simp at hcap
    have hcc : ∀ l, Calm (boxR entC l (padE s cap)) := fun l => boxR_calm entC_ok (Calm.replicate _ rfl)
    have hbl := boxR_len entC_ok s (padE s cap)
    have e0 : (entsAV s).flatten ++ List.replicate ((cap - s.length) * 3) AV.any = boxR entC s (padE s cap) := rfl
    simp [e0]
    refine AWp.go [3, 6, 7, 9] [3, 100] fun K hK => ?_
    simp
    refine call_proc [(0, 100)] none (c_rwset_atB s e.key (padE s cap) cap hs (Calm.replicate _ rfl)) (by simp) (by simp) ?_
    simp [hcc, entC]
    refine ⟨by simpa using (hcc s).still, hK _ _ ?_⟩
    clear hK K
    refine AWp.seq ?_
    refine AWp.block ?_
    refine AWp.go [3, 6, 7, 20] [3, 100] fun K hK => ?_
    simp [hcc, ht]
    first | refine hK _ _ ?_ | refine ⟨by omega, hK _ _ ?_⟩ | refine ⟨by omega, by omega, hK _ _ ?_⟩
    clear hK K
    refine AWp.cond (t := false) (by first | (simp; done) | (simp; omega)) (by simp) (fun _ => ?_)
    refine AWp.go [3, 6, 7, 27] [3, 100] fun K hK => ?_
    simp [hcc]
    first | refine hK _ _ ?_ | refine ⟨by omega, hK _ _ ?_⟩ | refine ⟨by omega, by omega, hK _ _ ?_⟩
    clear hK K
    refine AWp.cond (t := false) (by first | (simp; done) | (simp; omega)) (by simp) (fun _ => ?_)
    refine AWp.skip ?_
    show AWp _ _ _ _
    have hins := ents_ins s (place s e.key) e
    have hRl : (s.map entC).length = s.length := by simp
    refine AWp.goS [4, 5] [] fun K hK => ?_
    refine SOps.cut 4 rfl fun K' hK' => ?_
    simp [hcc]
    refine hK' _ _ ?_
    clear hK'
    refine SOps.unown 34 101 rfl (by simp) (by simp) rfl (by simp) fun c1 hc1 => ?_
    simp [hcc]
    obtain ⟨X, hX⟩ : ∃ X, X = AV.s e.key :: AV.sl .fro 2 (dotsAV e.live) :: AV.sl .fro 2 (dotsAV e.dead) :: List.replicate ((c1 - 1) * 3) AV.any := ⟨_, rfl⟩
    have hXc : Calm X := by rw [hX]; exact (entC_ok.calm e).append (Calm.replicate _ rfl)
    have hXt : List.take 3 X = entC e := by rw [hX]; rfl
    have hXl : 3 ≤ X.length := by rw [hX]; simp
    rw [← hX]
    refine SOps.cut 1 rfl fun K2 hK2 => ?_
    simp
    by_cases hroom : s.length < cap
    · have hIns := c_Insert1_Entry (s.map entC) (entC e) X (padE s cap) (place s e.key) cap c1 (ents_rows s) (ent_rows e) hXc hXt hXl (by simpa using hpl) (Calm.replicate _ rfl) (by simpa using hroom) (by simp; omega) (by simp [padE])
      have hLl : L.length = s.length + 1 := by rw [hL]; simp; omega
      rw [hins, hRl, boxF_ents, ← hL] at hIns
      obtain ⟨p2, hp2⟩ : ∃ p2, p2 = (padE s cap).drop 3 := ⟨_, rfl⟩
      rw [← hp2] at hIns
      have hcp : Calm p2 := by rw [hp2]; exact (Calm.replicate _ rfl).drop _
      have hC2 : Calm (boxF (entsAV L) p2) := boxF_calm (ents_rows L) hcp
      refine call_proc [(0, 100), (1, 101)] none hIns (by simp) (by simp) ?_
      simp [hcc, hXc, hC2]
      refine ⟨⟨by simpa using (hcc s).still, by simpa using hXc.still⟩, ⟨by simpa using hC2.still, by simpa using hXc.still⟩, hK2 _ _ ?_⟩
      have hrl : (entsAV L).flatten.length = L.length * 3 := rows_len entC_ok L
      rw [← hLl]
      refine SOps.reown 35 100 cap (sz := 3) (entsAV L) p2 (by simp) (by simp) rfl ?_ (fun z hz => ?_) (ents_dat L) hC2.freeL ?_
      · rw [List.length_append, hrl, hp2]; simp [padE]; omega
      · obtain ⟨x, _, rfl⟩ := List.mem_map.1 hz; rfl
      simp [hXc]
      refine SOps.cut 2 rfl fun K3 hK3 => ?_
      simp [hXc]
      refine hK3 _ _ (SOps.nil ?_)
      simp
      refine hK _ _ (AWp.ret ?_)
      simp
    · have hcl : cap = s.length := by omega
      subst hcl
      have hIns := c_Insert2_Entry (s.map entC) (entC e) X (padE s s.length) (place s e.key) c1 (ents_rows s) (ent_rows e) hXc hXt hXl (by simpa using hpl) (Calm.replicate _ rfl) (by simp; omega) (by simp [padE])
      rw [hins, hRl, boxF_ents, ← hL] at hIns
      refine call_proc [(0, 100), (1, 101)] none hIns (by simp) (by simp) ?_
      simp [hcc, hXc]
      refine ⟨⟨by simpa using (hcc s).still, by simpa using hXc.still⟩, hK2 _ _ ?_⟩
      refine SOps.cut 2 rfl fun K3 hK3 => ?_
      simp [hXc]
      refine hK3 _ _ (SOps.nil ?_)
      simp
      refine hK _ _ (AWp.ret ?_)
      simp
end Go.AM
namespace Go.AM
open Go.Proofs
theorem c_rwset_put (s : List Entry) (e : Entry) (hs : Fine s) (hl : s.length < 4000) : Pure Try.prog 53 [.sl .fro 3 (entsAV s), .agg (entC e)] (.tup [.sl .own 3 (entsAV (putS s e)), .i .i64 0]) := by
  unfold putS
  split
  · rename_i ht; exact c_rwset_putT s e hs ht
  · rename_i ht; exact c_rwset_putM s e hs hl (by simpa using ht)
def mayE (s : List Entry) (k : ByteArray) (d : Dot) (c : List Int) : Bool := setOk s && keyOk k && mayD d && clockOk c
def addS (s : List Entry) (k : ByteArray) (d : Dot) (c : List Int) : List Entry :=
  if 0 < (leftD (atE s k).dead c).length then s else putS s ⟨k, ordP (leftD (atE s k).live c ++ [d]), (atE s k).dead⟩
def dropS (s : List Entry) (k : ByteArray) (d : Dot) (c : List Int) : List Entry := putS s ⟨k, [], ordP (leftD (atE s k).dead c ++ [d])⟩

set_option maxRecDepth 8000 in
set_option maxHeartbeats 2000000 in
theorem c_rwset_Add (s : List Entry) (k : ByteArray) (d : Dot) (c : List Int) (hs : Fine s) (hl : s.length < 4000) (hc : c.length ≤ 1000000) (hb : (atE s k).live.length ≤ 999999 ∧ (atE s k).dead.length ≤ 999999) : Pure Try.prog 13 [.sl .fro 3 (entsAV s), .s k, .agg (dotC d), .sl .fro 1 (intsAV c)] (.tup [.sl .own 3 (entsAV (if mayE s k d c then addS s k d c else [])), .i .i64 (if mayE s k d c then 0 else 1)]) := by
  have gm : Pure Try.prog 48 [.sl .fro 3 (entsAV s), .s k, .agg (dotC d), .sl .fro 1 (intsAV c)] (.b (mayE s k d c)) := c_rwset_may s k d c hs hc
  have hl1 := leftD_len (atE s k).live c
  refine proc_of (cx Try.prog 53 [0, 1, 3, 6, 8, 9, 11, 13, 19, 32] [8, 9]) 49 [.tmp 8, .tmp 9] Try.func13 rfl rfl rfl rfl rfl rfl (Nat.le_refl _) rfl ?_
  refine AWp.go [0, 1, 3, 6] [6] fun K hK => ?_
  simp [dotC]
  first | refine hK _ _ ?_ | refine ⟨by omega, hK _ _ ?_⟩ | refine ⟨by omega, by omega, hK _ _ ?_⟩
  clear hK K
  refine AWp.seq ?_
  refine AWp.go [0, 1, 3, 6, 19] [6] fun K hK => ?_
  simp
  refine call_pure gm (by simp [dotC]) ?_
  simp
  first | refine hK _ _ ?_ | refine ⟨by omega, hK _ _ ?_⟩ | refine ⟨by omega, by omega, hK _ _ ?_⟩
  clear hK K
  cases hg : mayE s k d c
  · refine AWp.cond (t := true) (by simp) (fun _ => ?_) (by simp)
    refine AWp.go [8, 9] [] fun K hK => ?_
    simp
    first | refine hK _ _ ?_ | refine ⟨by omega, hK _ _ ?_⟩ | refine ⟨by omega, by omega, hK _ _ ?_⟩
    clear hK K
    refine AWp.ret ?_
    simp [entsAV]
  · refine AWp.cond (t := false) (by simp) (by simp) (fun _ => ?_)
    refine AWp.skip ?_
    show AWp _ _ _ _
    refine AWp.go [0, 1, 3, 6, 11] [6, 11] fun K hK => ?_
    simp
    refine call_pure (c_rwset_at s k hs) (by simp) ?_
    simp [entC]
    first | refine hK _ _ ?_ | refine ⟨by omega, hK _ _ ?_⟩ | refine ⟨by omega, by omega, hK _ _ ?_⟩
    clear hK K
    refine AWp.seq ?_
    refine AWp.go [0, 1, 3, 6, 11, 32] [6, 11] fun K hK => ?_
    simp
    refine call_pure (c_rwset_unknown (atE s k).dead c (by omega) hc) (by simp) ?_
    simp
    first | refine hK _ _ ?_ | refine ⟨by omega, hK _ _ ?_⟩ | refine ⟨by omega, by omega, hK _ _ ?_⟩
    clear hK K
    by_cases h : 0 < (leftD (atE s k).dead c).length
    · refine AWp.cond (t := true) (by first | (simp [h]; done) | (simp [h]; omega)) (fun _ => ?_) (by simp)
      refine AWp.go [8, 9] [] fun K hK => ?_
      simp
      refine call_pure (c_rwset_copied s hs) (by simp) ?_
      simp
      first | refine hK _ _ ?_ | refine ⟨by omega, hK _ _ ?_⟩ | refine ⟨by omega, by omega, hK _ _ ?_⟩
      clear hK K
      refine AWp.ret ?_
      simp [addS, h]
    · refine AWp.cond (t := false) (by first | (simp [h]; done) | (simp [h]; omega)) (by simp) (fun _ => ?_)
      refine AWp.skip ?_
      show AWp _ _ _ _
      refine AWp.stepT (.take 0 (.take 2 (.alt 1 (.alt 3 (.alt 4 (.alt 5 (.alt 6 (.alt 7 (.take 8 .fin) .stop) .stop) .stop) .stop) (.alt 4 (.alt 3 (.alt 5 (.alt 6 (.alt 7 (.take 8 .fin) .stop) .stop) .stop) (.alt 5 (.alt 3 (.alt 6 (.alt 7 (.take 8 .fin) .stop) .stop) .stop) .stop)) .stop)) (.alt 4 (.alt 1 (.alt 3 (.alt 5 (.alt 6 (.alt 7 (.take 8 .fin) .stop) .stop) .stop) (.alt 5 (.alt 3 (.alt 6 (.alt 7 (.take 8 .fin) .stop) .stop) .stop) .stop)) (.alt 5 (.alt 1 (.alt 3 (.alt 6 (.alt 7 (.take 8 .fin) .stop) .stop) .stop) .stop) .stop)) .stop)))) [0, 1, 11, 13] [11] [(0, .sl .fro 3 (entsAV s)), (1, .s k), (11, .ptr 11 0), (13, .sl .fro 2 (dotsAV (ordP (leftD (atE s k).live c ++ [d]))))] [(11, [.s (atE s k).key, .sl .fro 2 (dotsAV (atE s k).live), .sl .fro 2 (dotsAV (atE s k).dead)])] mix (by kernel_rfl) ?_ ?_
      · refine atree.tk fun K1 h1 => ?_
        simp
        first | refine h1 _ _ ?_ | refine ⟨by omega, h1 _ _ ?_⟩ | refine ⟨by omega, by omega, h1 _ _ ?_⟩
        clear h1 K1
        refine atree.tk fun K1 h1 => ?_
        simp
        first | refine h1 _ _ ?_ | refine ⟨by omega, h1 _ _ ?_⟩ | refine ⟨by omega, by omega, h1 _ _ ?_⟩
        clear h1 K1
        refine atree.al (fun K1 h1 => ?_) ?_
        · simp
          first | refine h1 _ _ ?_ | refine ⟨by omega, h1 _ _ ?_⟩ | refine ⟨by omega, by omega, h1 _ _ ?_⟩
          clear h1 K1
          refine atree.al (fun K1 h1 => ?_) ?_
          · simp
            refine call_pure (c_rwset_unknown (atE s k).live c (by omega) hc) (by simp) ?_
            simp
            first | refine h1 _ _ ?_ | refine ⟨by omega, h1 _ _ ?_⟩ | refine ⟨by omega, by omega, h1 _ _ ?_⟩
            clear h1 K1
            refine atree.a1 fun K1 h1 => ?_
            simp
            first | refine h1 _ _ ?_ | refine ⟨by omega, h1 _ _ ?_⟩ | refine ⟨by omega, by omega, h1 _ _ ?_⟩
            clear h1 K1
            refine atree.a1 fun K1 h1 => ?_
            simp
            first | refine h1 _ _ ?_ | refine ⟨by omega, h1 _ _ ?_⟩ | refine ⟨by omega, by omega, h1 _ _ ?_⟩
            clear h1 K1
            refine atree.a1 fun K1 h1 => ?_
            simp
            first | refine h1 _ _ ?_ | refine ⟨by omega, h1 _ _ ?_⟩ | refine ⟨by omega, by omega, h1 _ _ ?_⟩
            clear h1 K1
            refine atree.a1 fun K1 h1 => ?_
            simp
            refine call_pure (c_dots_Order (leftD (atE s k).live c ++ [d]) (by simp; omega)) (by simp) ?_
            simp
            first | refine h1 _ _ ?_ | refine ⟨by omega, h1 _ _ ?_⟩ | refine ⟨by omega, by omega, h1 _ _ ?_⟩
            clear h1 K1
            refine atree.tk fun K1 h1 => ?_
            simp
            first | refine h1 _ _ ?_ | refine ⟨by omega, h1 _ _ ?_⟩ | refine ⟨by omega, by omega, h1 _ _ ?_⟩
            clear h1 K1
            simp
          · refine atree.a1 fun K1 h1 => ?_
            simp
            first | refine h1 _ _ ?_ | refine ⟨by omega, h1 _ _ ?_⟩ | refine ⟨by omega, by omega, h1 _ _ ?_⟩
            clear h1 K1
            refine atree.al (fun K1 h1 => ?_) ?_
            · simp
              refine call_pure (c_rwset_unknown (atE s k).live c (by omega) hc) (by simp) ?_
              simp
              first | refine h1 _ _ ?_ | refine ⟨by omega, h1 _ _ ?_⟩ | refine ⟨by omega, by omega, h1 _ _ ?_⟩
              clear h1 K1
              refine atree.a1 fun K1 h1 => ?_
              simp
              first | refine h1 _ _ ?_ | refine ⟨by omega, h1 _ _ ?_⟩ | refine ⟨by omega, by omega, h1 _ _ ?_⟩
              clear h1 K1
              refine atree.a1 fun K1 h1 => ?_
              simp
              first | refine h1 _ _ ?_ | refine ⟨by omega, h1 _ _ ?_⟩ | refine ⟨by omega, by omega, h1 _ _ ?_⟩
              clear h1 K1
              refine atree.a1 fun K1 h1 => ?_
              simp
              refine call_pure (c_dots_Order (leftD (atE s k).live c ++ [d]) (by simp; omega)) (by simp) ?_
              simp
              first | refine h1 _ _ ?_ | refine ⟨by omega, h1 _ _ ?_⟩ | refine ⟨by omega, by omega, h1 _ _ ?_⟩
              clear h1 K1
              refine atree.tk fun K1 h1 => ?_
              simp
              first | refine h1 _ _ ?_ | refine ⟨by omega, h1 _ _ ?_⟩ | refine ⟨by omega, by omega, h1 _ _ ?_⟩
              clear h1 K1
              simp
            · refine atree.a1 fun K1 h1 => ?_
              simp
              first | refine h1 _ _ ?_ | refine ⟨by omega, h1 _ _ ?_⟩ | refine ⟨by omega, by omega, h1 _ _ ?_⟩
              clear h1 K1
              refine atree.a1 fun K1 h1 => ?_
              simp
              refine call_pure (c_rwset_unknown (atE s k).live c (by omega) hc) (by simp) ?_
              simp
              first | refine h1 _ _ ?_ | refine ⟨by omega, h1 _ _ ?_⟩ | refine ⟨by omega, by omega, h1 _ _ ?_⟩
              clear h1 K1
              refine atree.a1 fun K1 h1 => ?_
              simp
              first | refine h1 _ _ ?_ | refine ⟨by omega, h1 _ _ ?_⟩ | refine ⟨by omega, by omega, h1 _ _ ?_⟩
              clear h1 K1
              refine atree.a1 fun K1 h1 => ?_
              simp
              refine call_pure (c_dots_Order (leftD (atE s k).live c ++ [d]) (by simp; omega)) (by simp) ?_
              simp
              first | refine h1 _ _ ?_ | refine ⟨by omega, h1 _ _ ?_⟩ | refine ⟨by omega, by omega, h1 _ _ ?_⟩
              clear h1 K1
              refine atree.tk fun K1 h1 => ?_
              simp
              first | refine h1 _ _ ?_ | refine ⟨by omega, h1 _ _ ?_⟩ | refine ⟨by omega, by omega, h1 _ _ ?_⟩
              clear h1 K1
              simp
        · refine atree.a1 fun K1 h1 => ?_
          simp
          first | refine h1 _ _ ?_ | refine ⟨by omega, h1 _ _ ?_⟩ | refine ⟨by omega, by omega, h1 _ _ ?_⟩
          clear h1 K1
          refine atree.al (fun K1 h1 => ?_) ?_
          · simp
            first | refine h1 _ _ ?_ | refine ⟨by omega, h1 _ _ ?_⟩ | refine ⟨by omega, by omega, h1 _ _ ?_⟩
            clear h1 K1
            refine atree.al (fun K1 h1 => ?_) ?_
            · simp
              refine call_pure (c_rwset_unknown (atE s k).live c (by omega) hc) (by simp) ?_
              simp
              first | refine h1 _ _ ?_ | refine ⟨by omega, h1 _ _ ?_⟩ | refine ⟨by omega, by omega, h1 _ _ ?_⟩
              clear h1 K1
              refine atree.a1 fun K1 h1 => ?_
              simp
              first | refine h1 _ _ ?_ | refine ⟨by omega, h1 _ _ ?_⟩ | refine ⟨by omega, by omega, h1 _ _ ?_⟩
              clear h1 K1
              refine atree.a1 fun K1 h1 => ?_
              simp
              first | refine h1 _ _ ?_ | refine ⟨by omega, h1 _ _ ?_⟩ | refine ⟨by omega, by omega, h1 _ _ ?_⟩
              clear h1 K1
              refine atree.a1 fun K1 h1 => ?_
              simp
              refine call_pure (c_dots_Order (leftD (atE s k).live c ++ [d]) (by simp; omega)) (by simp) ?_
              simp
              first | refine h1 _ _ ?_ | refine ⟨by omega, h1 _ _ ?_⟩ | refine ⟨by omega, by omega, h1 _ _ ?_⟩
              clear h1 K1
              refine atree.tk fun K1 h1 => ?_
              simp
              first | refine h1 _ _ ?_ | refine ⟨by omega, h1 _ _ ?_⟩ | refine ⟨by omega, by omega, h1 _ _ ?_⟩
              clear h1 K1
              simp
            · refine atree.a1 fun K1 h1 => ?_
              simp
              first | refine h1 _ _ ?_ | refine ⟨by omega, h1 _ _ ?_⟩ | refine ⟨by omega, by omega, h1 _ _ ?_⟩
              clear h1 K1
              refine atree.a1 fun K1 h1 => ?_
              simp
              refine call_pure (c_rwset_unknown (atE s k).live c (by omega) hc) (by simp) ?_
              simp
              first | refine h1 _ _ ?_ | refine ⟨by omega, h1 _ _ ?_⟩ | refine ⟨by omega, by omega, h1 _ _ ?_⟩
              clear h1 K1
              refine atree.a1 fun K1 h1 => ?_
              simp
              first | refine h1 _ _ ?_ | refine ⟨by omega, h1 _ _ ?_⟩ | refine ⟨by omega, by omega, h1 _ _ ?_⟩
              clear h1 K1
              refine atree.a1 fun K1 h1 => ?_
              simp
              refine call_pure (c_dots_Order (leftD (atE s k).live c ++ [d]) (by simp; omega)) (by simp) ?_
              simp
              first | refine h1 _ _ ?_ | refine ⟨by omega, h1 _ _ ?_⟩ | refine ⟨by omega, by omega, h1 _ _ ?_⟩
              clear h1 K1
              refine atree.tk fun K1 h1 => ?_
              simp
              first | refine h1 _ _ ?_ | refine ⟨by omega, h1 _ _ ?_⟩ | refine ⟨by omega, by omega, h1 _ _ ?_⟩
              clear h1 K1
              simp
          · refine atree.a1 fun K1 h1 => ?_
            simp
            first | refine h1 _ _ ?_ | refine ⟨by omega, h1 _ _ ?_⟩ | refine ⟨by omega, by omega, h1 _ _ ?_⟩
            clear h1 K1
            refine atree.a1 fun K1 h1 => ?_
            simp
            first | refine h1 _ _ ?_ | refine ⟨by omega, h1 _ _ ?_⟩ | refine ⟨by omega, by omega, h1 _ _ ?_⟩
            clear h1 K1
            refine atree.a1 fun K1 h1 => ?_
            simp
            refine call_pure (c_rwset_unknown (atE s k).live c (by omega) hc) (by simp) ?_
            simp
            first | refine h1 _ _ ?_ | refine ⟨by omega, h1 _ _ ?_⟩ | refine ⟨by omega, by omega, h1 _ _ ?_⟩
            clear h1 K1
            refine atree.a1 fun K1 h1 => ?_
            simp
            first | refine h1 _ _ ?_ | refine ⟨by omega, h1 _ _ ?_⟩ | refine ⟨by omega, by omega, h1 _ _ ?_⟩
            clear h1 K1
            refine atree.a1 fun K1 h1 => ?_
            simp
            refine call_pure (c_dots_Order (leftD (atE s k).live c ++ [d]) (by simp; omega)) (by simp) ?_
            simp
            first | refine h1 _ _ ?_ | refine ⟨by omega, h1 _ _ ?_⟩ | refine ⟨by omega, by omega, h1 _ _ ?_⟩
            clear h1 K1
            refine atree.tk fun K1 h1 => ?_
            simp
            first | refine h1 _ _ ?_ | refine ⟨by omega, h1 _ _ ?_⟩ | refine ⟨by omega, by omega, h1 _ _ ?_⟩
            clear h1 K1
            simp
      refine AWp.go [8, 9] [] fun K hK => ?_
      simp
      refine call_pure (c_Clone_Dot (dotsAV (atE s k).dead) (by simp; omega)) (by simp) ?_
      simp
      refine call_pure (c_rwset_put s ⟨k, ordP (leftD (atE s k).live c ++ [d]), (atE s k).dead⟩ hs hl) (by simp [entC]) ?_
      simp
      first | refine hK _ _ ?_ | refine ⟨by omega, hK _ _ ?_⟩ | refine ⟨by omega, by omega, hK _ _ ?_⟩
      clear hK K
      refine AWp.ret ?_
      simp [addS, h]

set_option maxRecDepth 8000 in
set_option maxHeartbeats 2000000 in
theorem c_rwset_Drop (s : List Entry) (k : ByteArray) (d : Dot) (c : List Int) (hs : Fine s) (hl : s.length < 4000) (hc : c.length ≤ 1000000) (hb : (atE s k).dead.length ≤ 999999) : Pure Try.prog 14 [.sl .fro 3 (entsAV s), .s k, .agg (dotC d), .sl .fro 1 (intsAV c)] (.tup [.sl .own 3 (entsAV (if mayE s k d c then dropS s k d c else [])), .i .i64 (if mayE s k d c then 0 else 1)]) := by
  have gm : Pure Try.prog 48 [.sl .fro 3 (entsAV s), .s k, .agg (dotC d), .sl .fro 1 (intsAV c)] (.b (mayE s k d c)) := c_rwset_may s k d c hs hc
  have hl1 := leftD_len (atE s k).dead c
  refine proc_of (cx Try.prog 40 [0, 1, 3, 6, 8, 9, 11, 18] [8, 9]) 36 [.tmp 8, .tmp 9] Try.func14 rfl rfl rfl rfl rfl rfl (Nat.le_refl _) rfl ?_
  refine AWp.go [0, 1, 3, 6] [6] fun K hK => ?_
  simp [dotC]
  first | refine hK _ _ ?_ | refine ⟨by omega, hK _ _ ?_⟩ | refine ⟨by omega, by omega, hK _ _ ?_⟩
  clear hK K
  refine AWp.seq ?_
  refine AWp.go [0, 1, 3, 6, 18] [6] fun K hK => ?_
  simp
  refine call_pure gm (by simp [dotC]) ?_
  simp
  first | refine hK _ _ ?_ | refine ⟨by omega, hK _ _ ?_⟩ | refine ⟨by omega, by omega, hK _ _ ?_⟩
  clear hK K
  cases hg : mayE s k d c
  · refine AWp.cond (t := true) (by simp) (fun _ => ?_) (by simp)
    refine AWp.go [8, 9] [] fun K hK => ?_
    simp
    first | refine hK _ _ ?_ | refine ⟨by omega, hK _ _ ?_⟩ | refine ⟨by omega, by omega, hK _ _ ?_⟩
    clear hK K
    refine AWp.ret ?_
    simp [entsAV]
  · refine AWp.cond (t := false) (by simp) (by simp) (fun _ => ?_)
    refine AWp.skip ?_
    show AWp _ _ _ _
    refine AWp.go [0, 1, 3, 6, 11] [6, 11] fun K hK => ?_
    simp
    refine call_pure (c_rwset_at s k hs) (by simp) ?_
    simp [entC]
    first | refine hK _ _ ?_ | refine ⟨by omega, hK _ _ ?_⟩ | refine ⟨by omega, by omega, hK _ _ ?_⟩
    clear hK K
    refine AWp.stepT (.take 0 (.take 1 (.take 2 (.take 4 (.alt 3 (.alt 5 (.alt 6 (.alt 7 (.alt 8 (.alt 9 (.alt 10 (.alt 11 (.take 12 (.take 13 (.take 14 (.take 15 .fin)))) .stop) .stop) .stop) .stop) .stop) .stop) (.alt 6 (.alt 5 (.alt 7 (.alt 8 (.alt 9 (.alt 10 (.alt 11 (.take 12 (.take 13 (.take 14 (.take 15 .fin)))) .stop) .stop) .stop) .stop) .stop) (.alt 7 (.alt 5 (.alt 8 (.alt 9 (.alt 10 (.alt 11 (.take 12 (.take 13 (.take 14 (.take 15 .fin)))) .stop) .stop) .stop) .stop) .stop) .stop)) .stop)) (.alt 6 (.alt 3 (.alt 5 (.alt 7 (.alt 8 (.alt 9 (.alt 10 (.alt 11 (.take 12 (.take 13 (.take 14 (.take 15 .fin)))) .stop) .stop) .stop) .stop) .stop) (.alt 7 (.alt 5 (.alt 8 (.alt 9 (.alt 10 (.alt 11 (.take 12 (.take 13 (.take 14 (.take 15 .fin)))) .stop) .stop) .stop) .stop) .stop) .stop)) (.alt 7 (.alt 3 (.alt 5 (.alt 8 (.alt 9 (.alt 10 (.alt 11 (.take 12 (.take 13 (.take 14 (.take 15 .fin)))) .stop) .stop) .stop) .stop) .stop) .stop) .stop)) .stop)))))) [8, 9] [] [(8, .sl .own 3 (entsAV (dropS s k d c))), (9, .i .i64 0)] [] mix (by kernel_rfl) ?_ ?_
    · refine atree.tk fun K1 h1 => ?_
      simp
      first | refine h1 _ _ ?_ | refine ⟨by omega, h1 _ _ ?_⟩ | refine ⟨by omega, by omega, h1 _ _ ?_⟩
      clear h1 K1
      refine atree.tk fun K1 h1 => ?_
      simp
      first | refine h1 _ _ ?_ | refine ⟨by omega, h1 _ _ ?_⟩ | refine ⟨by omega, by omega, h1 _ _ ?_⟩
      clear h1 K1
      refine atree.tk fun K1 h1 => ?_
      simp
      first | refine h1 _ _ ?_ | refine ⟨by omega, h1 _ _ ?_⟩ | refine ⟨by omega, by omega, h1 _ _ ?_⟩
      clear h1 K1
      refine atree.tk fun K1 h1 => ?_
      simp
      first | refine h1 _ _ ?_ | refine ⟨by omega, h1 _ _ ?_⟩ | refine ⟨by omega, by omega, h1 _ _ ?_⟩
      clear h1 K1
      refine atree.al (fun K1 h1 => ?_) ?_
      · simp
        first | refine h1 _ _ ?_ | refine ⟨by omega, h1 _ _ ?_⟩ | refine ⟨by omega, by omega, h1 _ _ ?_⟩
        clear h1 K1
        refine atree.al (fun K1 h1 => ?_) ?_
        · simp
          refine call_pure (c_rwset_unknown (atE s k).dead c (by omega) hc) (by simp) ?_
          simp
          first | refine h1 _ _ ?_ | refine ⟨by omega, h1 _ _ ?_⟩ | refine ⟨by omega, by omega, h1 _ _ ?_⟩
          clear h1 K1
          refine atree.a1 fun K1 h1 => ?_
          simp
          first | refine h1 _ _ ?_ | refine ⟨by omega, h1 _ _ ?_⟩ | refine ⟨by omega, by omega, h1 _ _ ?_⟩
          clear h1 K1
          refine atree.a1 fun K1 h1 => ?_
          simp
          first | refine h1 _ _ ?_ | refine ⟨by omega, h1 _ _ ?_⟩ | refine ⟨by omega, by omega, h1 _ _ ?_⟩
          clear h1 K1
          refine atree.a1 fun K1 h1 => ?_
          simp
          first | refine h1 _ _ ?_ | refine ⟨by omega, h1 _ _ ?_⟩ | refine ⟨by omega, by omega, h1 _ _ ?_⟩
          clear h1 K1
          refine atree.a1 fun K1 h1 => ?_
          simp
          refine call_pure (c_dots_Order (leftD (atE s k).dead c ++ [d]) (by simp; omega)) (by simp) ?_
          simp
          first | refine h1 _ _ ?_ | refine ⟨by omega, h1 _ _ ?_⟩ | refine ⟨by omega, by omega, h1 _ _ ?_⟩
          clear h1 K1
          refine atree.a1 fun K1 h1 => ?_
          simp
          first | refine h1 _ _ ?_ | refine ⟨by omega, h1 _ _ ?_⟩ | refine ⟨by omega, by omega, h1 _ _ ?_⟩
          clear h1 K1
          refine atree.a1 fun K1 h1 => ?_
          simp
          refine call_pure (c_rwset_put s ⟨k, [], ordP (leftD (atE s k).dead c ++ [d])⟩ hs hl) (by simp [entC, dotsAV]) ?_
          simp
          first | refine h1 _ _ ?_ | refine ⟨by omega, h1 _ _ ?_⟩ | refine ⟨by omega, by omega, h1 _ _ ?_⟩
          clear h1 K1
          refine atree.tk fun K1 h1 => ?_
          simp
          first | refine h1 _ _ ?_ | refine ⟨by omega, h1 _ _ ?_⟩ | refine ⟨by omega, by omega, h1 _ _ ?_⟩
          clear h1 K1
          refine atree.tk fun K1 h1 => ?_
          simp
          first | refine h1 _ _ ?_ | refine ⟨by omega, h1 _ _ ?_⟩ | refine ⟨by omega, by omega, h1 _ _ ?_⟩
          clear h1 K1
          refine atree.tk fun K1 h1 => ?_
          simp
          first | refine h1 _ _ ?_ | refine ⟨by omega, h1 _ _ ?_⟩ | refine ⟨by omega, by omega, h1 _ _ ?_⟩
          clear h1 K1
          refine atree.tk fun K1 h1 => ?_
          simp
          first | refine h1 _ _ ?_ | refine ⟨by omega, h1 _ _ ?_⟩ | refine ⟨by omega, by omega, h1 _ _ ?_⟩
          clear h1 K1
          simp [dropS]
        · refine atree.a1 fun K1 h1 => ?_
          simp
          first | refine h1 _ _ ?_ | refine ⟨by omega, h1 _ _ ?_⟩ | refine ⟨by omega, by omega, h1 _ _ ?_⟩
          clear h1 K1
          refine atree.al (fun K1 h1 => ?_) ?_
          · simp
            refine call_pure (c_rwset_unknown (atE s k).dead c (by omega) hc) (by simp) ?_
            simp
            first | refine h1 _ _ ?_ | refine ⟨by omega, h1 _ _ ?_⟩ | refine ⟨by omega, by omega, h1 _ _ ?_⟩
            clear h1 K1
            refine atree.a1 fun K1 h1 => ?_
            simp
            first | refine h1 _ _ ?_ | refine ⟨by omega, h1 _ _ ?_⟩ | refine ⟨by omega, by omega, h1 _ _ ?_⟩
            clear h1 K1
            refine atree.a1 fun K1 h1 => ?_
            simp
            first | refine h1 _ _ ?_ | refine ⟨by omega, h1 _ _ ?_⟩ | refine ⟨by omega, by omega, h1 _ _ ?_⟩
            clear h1 K1
            refine atree.a1 fun K1 h1 => ?_
            simp
            refine call_pure (c_dots_Order (leftD (atE s k).dead c ++ [d]) (by simp; omega)) (by simp) ?_
            simp
            first | refine h1 _ _ ?_ | refine ⟨by omega, h1 _ _ ?_⟩ | refine ⟨by omega, by omega, h1 _ _ ?_⟩
            clear h1 K1
            refine atree.a1 fun K1 h1 => ?_
            simp
            first | refine h1 _ _ ?_ | refine ⟨by omega, h1 _ _ ?_⟩ | refine ⟨by omega, by omega, h1 _ _ ?_⟩
            clear h1 K1
            refine atree.a1 fun K1 h1 => ?_
            simp
            refine call_pure (c_rwset_put s ⟨k, [], ordP (leftD (atE s k).dead c ++ [d])⟩ hs hl) (by simp [entC, dotsAV]) ?_
            simp
            first | refine h1 _ _ ?_ | refine ⟨by omega, h1 _ _ ?_⟩ | refine ⟨by omega, by omega, h1 _ _ ?_⟩
            clear h1 K1
            refine atree.tk fun K1 h1 => ?_
            simp
            first | refine h1 _ _ ?_ | refine ⟨by omega, h1 _ _ ?_⟩ | refine ⟨by omega, by omega, h1 _ _ ?_⟩
            clear h1 K1
            refine atree.tk fun K1 h1 => ?_
            simp
            first | refine h1 _ _ ?_ | refine ⟨by omega, h1 _ _ ?_⟩ | refine ⟨by omega, by omega, h1 _ _ ?_⟩
            clear h1 K1
            refine atree.tk fun K1 h1 => ?_
            simp
            first | refine h1 _ _ ?_ | refine ⟨by omega, h1 _ _ ?_⟩ | refine ⟨by omega, by omega, h1 _ _ ?_⟩
            clear h1 K1
            refine atree.tk fun K1 h1 => ?_
            simp
            first | refine h1 _ _ ?_ | refine ⟨by omega, h1 _ _ ?_⟩ | refine ⟨by omega, by omega, h1 _ _ ?_⟩
            clear h1 K1
            simp [dropS]
          · refine atree.a1 fun K1 h1 => ?_
            simp
            first | refine h1 _ _ ?_ | refine ⟨by omega, h1 _ _ ?_⟩ | refine ⟨by omega, by omega, h1 _ _ ?_⟩
            clear h1 K1
            refine atree.a1 fun K1 h1 => ?_
            simp
            refine call_pure (c_rwset_unknown (atE s k).dead c (by omega) hc) (by simp) ?_
            simp
            first | refine h1 _ _ ?_ | refine ⟨by omega, h1 _ _ ?_⟩ | refine ⟨by omega, by omega, h1 _ _ ?_⟩
            clear h1 K1
            refine atree.a1 fun K1 h1 => ?_
            simp
            first | refine h1 _ _ ?_ | refine ⟨by omega, h1 _ _ ?_⟩ | refine ⟨by omega, by omega, h1 _ _ ?_⟩
            clear h1 K1
            refine atree.a1 fun K1 h1 => ?_
            simp
            refine call_pure (c_dots_Order (leftD (atE s k).dead c ++ [d]) (by simp; omega)) (by simp) ?_
            simp
            first | refine h1 _ _ ?_ | refine ⟨by omega, h1 _ _ ?_⟩ | refine ⟨by omega, by omega, h1 _ _ ?_⟩
            clear h1 K1
            refine atree.a1 fun K1 h1 => ?_
            simp
            first | refine h1 _ _ ?_ | refine ⟨by omega, h1 _ _ ?_⟩ | refine ⟨by omega, by omega, h1 _ _ ?_⟩
            clear h1 K1
            refine atree.a1 fun K1 h1 => ?_
            simp
            refine call_pure (c_rwset_put s ⟨k, [], ordP (leftD (atE s k).dead c ++ [d])⟩ hs hl) (by simp [entC, dotsAV]) ?_
            simp
            first | refine h1 _ _ ?_ | refine ⟨by omega, h1 _ _ ?_⟩ | refine ⟨by omega, by omega, h1 _ _ ?_⟩
            clear h1 K1
            refine atree.tk fun K1 h1 => ?_
            simp
            first | refine h1 _ _ ?_ | refine ⟨by omega, h1 _ _ ?_⟩ | refine ⟨by omega, by omega, h1 _ _ ?_⟩
            clear h1 K1
            refine atree.tk fun K1 h1 => ?_
            simp
            first | refine h1 _ _ ?_ | refine ⟨by omega, h1 _ _ ?_⟩ | refine ⟨by omega, by omega, h1 _ _ ?_⟩
            clear h1 K1
            refine atree.tk fun K1 h1 => ?_
            simp
            first | refine h1 _ _ ?_ | refine ⟨by omega, h1 _ _ ?_⟩ | refine ⟨by omega, by omega, h1 _ _ ?_⟩
            clear h1 K1
            refine atree.tk fun K1 h1 => ?_
            simp
            first | refine h1 _ _ ?_ | refine ⟨by omega, h1 _ _ ?_⟩ | refine ⟨by omega, by omega, h1 _ _ ?_⟩
            clear h1 K1
            simp [dropS]
      · refine atree.a1 fun K1 h1 => ?_
        simp
        first | refine h1 _ _ ?_ | refine ⟨by omega, h1 _ _ ?_⟩ | refine ⟨by omega, by omega, h1 _ _ ?_⟩
        clear h1 K1
        refine atree.al (fun K1 h1 => ?_) ?_
        · simp
          first | refine h1 _ _ ?_ | refine ⟨by omega, h1 _ _ ?_⟩ | refine ⟨by omega, by omega, h1 _ _ ?_⟩
          clear h1 K1
          refine atree.al (fun K1 h1 => ?_) ?_
          · simp
            refine call_pure (c_rwset_unknown (atE s k).dead c (by omega) hc) (by simp) ?_
            simp
            first | refine h1 _ _ ?_ | refine ⟨by omega, h1 _ _ ?_⟩ | refine ⟨by omega, by omega, h1 _ _ ?_⟩
            clear h1 K1
            refine atree.a1 fun K1 h1 => ?_
            simp
            first | refine h1 _ _ ?_ | refine ⟨by omega, h1 _ _ ?_⟩ | refine ⟨by omega, by omega, h1 _ _ ?_⟩
            clear h1 K1
            refine atree.a1 fun K1 h1 => ?_
            simp
            first | refine h1 _ _ ?_ | refine ⟨by omega, h1 _ _ ?_⟩ | refine ⟨by omega, by omega, h1 _ _ ?_⟩
            clear h1 K1
            refine atree.a1 fun K1 h1 => ?_
            simp
            refine call_pure (c_dots_Order (leftD (atE s k).dead c ++ [d]) (by simp; omega)) (by simp) ?_
            simp
            first | refine h1 _ _ ?_ | refine ⟨by omega, h1 _ _ ?_⟩ | refine ⟨by omega, by omega, h1 _ _ ?_⟩
            clear h1 K1
            refine atree.a1 fun K1 h1 => ?_
            simp
            first | refine h1 _ _ ?_ | refine ⟨by omega, h1 _ _ ?_⟩ | refine ⟨by omega, by omega, h1 _ _ ?_⟩
            clear h1 K1
            refine atree.a1 fun K1 h1 => ?_
            simp
            refine call_pure (c_rwset_put s ⟨k, [], ordP (leftD (atE s k).dead c ++ [d])⟩ hs hl) (by simp [entC, dotsAV]) ?_
            simp
            first | refine h1 _ _ ?_ | refine ⟨by omega, h1 _ _ ?_⟩ | refine ⟨by omega, by omega, h1 _ _ ?_⟩
            clear h1 K1
            refine atree.tk fun K1 h1 => ?_
            simp
            first | refine h1 _ _ ?_ | refine ⟨by omega, h1 _ _ ?_⟩ | refine ⟨by omega, by omega, h1 _ _ ?_⟩
            clear h1 K1
            refine atree.tk fun K1 h1 => ?_
            simp
            first | refine h1 _ _ ?_ | refine ⟨by omega, h1 _ _ ?_⟩ | refine ⟨by omega, by omega, h1 _ _ ?_⟩
            clear h1 K1
            refine atree.tk fun K1 h1 => ?_
            simp
            first | refine h1 _ _ ?_ | refine ⟨by omega, h1 _ _ ?_⟩ | refine ⟨by omega, by omega, h1 _ _ ?_⟩
            clear h1 K1
            refine atree.tk fun K1 h1 => ?_
            simp
            first | refine h1 _ _ ?_ | refine ⟨by omega, h1 _ _ ?_⟩ | refine ⟨by omega, by omega, h1 _ _ ?_⟩
            clear h1 K1
            simp [dropS]
          · refine atree.a1 fun K1 h1 => ?_
            simp
            first | refine h1 _ _ ?_ | refine ⟨by omega, h1 _ _ ?_⟩ | refine ⟨by omega, by omega, h1 _ _ ?_⟩
            clear h1 K1
            refine atree.a1 fun K1 h1 => ?_
            simp
            refine call_pure (c_rwset_unknown (atE s k).dead c (by omega) hc) (by simp) ?_
            simp
            first | refine h1 _ _ ?_ | refine ⟨by omega, h1 _ _ ?_⟩ | refine ⟨by omega, by omega, h1 _ _ ?_⟩
            clear h1 K1
            refine atree.a1 fun K1 h1 => ?_
            simp
            first | refine h1 _ _ ?_ | refine ⟨by omega, h1 _ _ ?_⟩ | refine ⟨by omega, by omega, h1 _ _ ?_⟩
            clear h1 K1
            refine atree.a1 fun K1 h1 => ?_
            simp
            refine call_pure (c_dots_Order (leftD (atE s k).dead c ++ [d]) (by simp; omega)) (by simp) ?_
            simp
            first | refine h1 _ _ ?_ | refine ⟨by omega, h1 _ _ ?_⟩ | refine ⟨by omega, by omega, h1 _ _ ?_⟩
            clear h1 K1
            refine atree.a1 fun K1 h1 => ?_
            simp
            first | refine h1 _ _ ?_ | refine ⟨by omega, h1 _ _ ?_⟩ | refine ⟨by omega, by omega, h1 _ _ ?_⟩
            clear h1 K1
            refine atree.a1 fun K1 h1 => ?_
            simp
            refine call_pure (c_rwset_put s ⟨k, [], ordP (leftD (atE s k).dead c ++ [d])⟩ hs hl) (by simp [entC, dotsAV]) ?_
            simp
            first | refine h1 _ _ ?_ | refine ⟨by omega, h1 _ _ ?_⟩ | refine ⟨by omega, by omega, h1 _ _ ?_⟩
            clear h1 K1
            refine atree.tk fun K1 h1 => ?_
            simp
            first | refine h1 _ _ ?_ | refine ⟨by omega, h1 _ _ ?_⟩ | refine ⟨by omega, by omega, h1 _ _ ?_⟩
            clear h1 K1
            refine atree.tk fun K1 h1 => ?_
            simp
            first | refine h1 _ _ ?_ | refine ⟨by omega, h1 _ _ ?_⟩ | refine ⟨by omega, by omega, h1 _ _ ?_⟩
            clear h1 K1
            refine atree.tk fun K1 h1 => ?_
            simp
            first | refine h1 _ _ ?_ | refine ⟨by omega, h1 _ _ ?_⟩ | refine ⟨by omega, by omega, h1 _ _ ?_⟩
            clear h1 K1
            refine atree.tk fun K1 h1 => ?_
            simp
            first | refine h1 _ _ ?_ | refine ⟨by omega, h1 _ _ ?_⟩ | refine ⟨by omega, by omega, h1 _ _ ?_⟩
            clear h1 K1
            simp [dropS]
        · refine atree.a1 fun K1 h1 => ?_
          simp
          first | refine h1 _ _ ?_ | refine ⟨by omega, h1 _ _ ?_⟩ | refine ⟨by omega, by omega, h1 _ _ ?_⟩
          clear h1 K1
          refine atree.a1 fun K1 h1 => ?_
          simp
          first | refine h1 _ _ ?_ | refine ⟨by omega, h1 _ _ ?_⟩ | refine ⟨by omega, by omega, h1 _ _ ?_⟩
          clear h1 K1
          refine atree.a1 fun K1 h1 => ?_
          simp
          refine call_pure (c_rwset_unknown (atE s k).dead c (by omega) hc) (by simp) ?_
          simp
          first | refine h1 _ _ ?_ | refine ⟨by omega, h1 _ _ ?_⟩ | refine ⟨by omega, by omega, h1 _ _ ?_⟩
          clear h1 K1
          refine atree.a1 fun K1 h1 => ?_
          simp
          first | refine h1 _ _ ?_ | refine ⟨by omega, h1 _ _ ?_⟩ | refine ⟨by omega, by omega, h1 _ _ ?_⟩
          clear h1 K1
          refine atree.a1 fun K1 h1 => ?_
          simp
          refine call_pure (c_dots_Order (leftD (atE s k).dead c ++ [d]) (by simp; omega)) (by simp) ?_
          simp
          first | refine h1 _ _ ?_ | refine ⟨by omega, h1 _ _ ?_⟩ | refine ⟨by omega, by omega, h1 _ _ ?_⟩
          clear h1 K1
          refine atree.a1 fun K1 h1 => ?_
          simp
          first | refine h1 _ _ ?_ | refine ⟨by omega, h1 _ _ ?_⟩ | refine ⟨by omega, by omega, h1 _ _ ?_⟩
          clear h1 K1
          refine atree.a1 fun K1 h1 => ?_
          simp
          refine call_pure (c_rwset_put s ⟨k, [], ordP (leftD (atE s k).dead c ++ [d])⟩ hs hl) (by simp [entC, dotsAV]) ?_
          simp
          first | refine h1 _ _ ?_ | refine ⟨by omega, h1 _ _ ?_⟩ | refine ⟨by omega, by omega, h1 _ _ ?_⟩
          clear h1 K1
          refine atree.tk fun K1 h1 => ?_
          simp
          first | refine h1 _ _ ?_ | refine ⟨by omega, h1 _ _ ?_⟩ | refine ⟨by omega, by omega, h1 _ _ ?_⟩
          clear h1 K1
          refine atree.tk fun K1 h1 => ?_
          simp
          first | refine h1 _ _ ?_ | refine ⟨by omega, h1 _ _ ?_⟩ | refine ⟨by omega, by omega, h1 _ _ ?_⟩
          clear h1 K1
          refine atree.tk fun K1 h1 => ?_
          simp
          first | refine h1 _ _ ?_ | refine ⟨by omega, h1 _ _ ?_⟩ | refine ⟨by omega, by omega, h1 _ _ ?_⟩
          clear h1 K1
          refine atree.tk fun K1 h1 => ?_
          simp
          first | refine h1 _ _ ?_ | refine ⟨by omega, h1 _ _ ?_⟩ | refine ⟨by omega, by omega, h1 _ _ ?_⟩
          clear h1 K1
          simp [dropS]
    refine AWp.ret ?_
    simp
end Go.AM
namespace Go.AM
theorem there_iff {s : List Entry} (k : ByteArray) (hp : place s k < s.length) : there s k = true ↔ eqK s[place s k].key k = true := by
  unfold there
  rw [List.getElem?_eq_getElem hp]
  simp [cmpK_eq]
theorem key_tri (a b : ByteArray) : KL a b ∨ eqK a b = true ∨ KL b a := by
  by_cases h1 : KL a b
  · exact .inl h1
  by_cases h3 : KL b a
  · exact .inr (.inr h3)
  · rw [eqK_iff]
    exact .inr (.inl (List.le_antisymm (List.not_lt.1 h3) (List.not_lt.1 h1)))
theorem KL.ne' {a b : ByteArray} (h : KL b a) : eqK a b = false := by
  rw [Bool.eq_false_iff]
  intro e
  rw [eqK_iff] at e
  unfold KL at h
  rw [e] at h
  exact List.lt_irrefl _ h
theorem KL.asymm {a b : ByteArray} (h : KL a b) : ltK b a = false := by
  rw [Bool.eq_false_iff, ne_eq, ltK_iff]
  exact fun h2 => KL.irrefl _ (h.trans h2)
/-- What stands behind a key's place. -/
theorem behind {s : List Entry} (hs : SortE s) (k : ByteArray) (i : Nat) (hi : i < s.length) (h : (if there s k then place s k + 1 else place s k) ≤ i) : KL k s[i].key := by
  obtain ⟨h1, h2⟩ := place_spec hs k
  have hp : place s k < s.length := by split at h <;> omega
  have hm : place s k < i → KL s[place s k].key s[i].key := fun h => List.pairwise_iff_getElem.1 hs _ _ hp hi h
  rcases key_tri s[place s k].key k with h3 | h3 | h3
  · exact absurd h3 (h2 _ hp (Nat.le_refl _))
  · rw [if_pos ((there_iff k hp).2 h3)] at h
    have := hm (by omega)
    rw [eqK_iff] at h3
    unfold KL at this ⊢
    rw [← h3]; exact this
  · by_cases he : place s k = i
    · subst he; exact h3
    · refine h3.trans (hm ?_)
      split at h <;> omega
theorem putTo_front {s : List Entry} (hs : SortE s) {e : Entry} (he : noneE e = false) : ∀ i, i ≤ place s e.key → putTo s e i = (s.take i, false)
  | 0, _ => by simp [putTo, he]
  | i + 1, hi => by
    have hl := place_le s e.key
    have hk := (place_spec hs e.key).1 i (by omega) (by omega)
    rw [putTo_succ s e i (by omega), putTo_front hs he i (by omega), putStep, (ltK_iff _ _).2 hk, hk.ne, List.take_succ_eq_append_getElem (by omega)]
    simp
theorem putTo_back {s : List Entry} (hs : SortE s) {e : Entry} (he : noneE e = false) : ∀ i, place s e.key < i → i ≤ s.length →
    putTo s e i = (s.take (place s e.key) ++ e :: (s.take i).drop (if there s e.key then place s e.key + 1 else place s e.key), true)
  | 0, h, _ => by omega
  | i + 1, hi, hl => by
    obtain ⟨h1, h2⟩ := place_spec hs e.key
    rw [putTo_succ s e i (by omega)]
    by_cases hp : place s e.key = i
    · have hlt : place s e.key < s.length := by omega
      rw [putTo_front hs he i (by omega)]
      have hnl : ltK s[i].key e.key = false := by
        rw [Bool.eq_false_iff, ne_eq, ltK_iff]
        exact h2 i (by omega) (by omega)
      unfold putStep
      simp only [hnl, Bool.not_false, Bool.and_self, if_true]
      cases ht : there s e.key with
      | true =>
        have := (there_iff e.key hlt).1 ht
        simp only [hp] at this
        rw [if_pos this, hp]
        simp [List.drop_eq_nil_of_le]
      | false =>
        have : eqK s[i].key e.key = false := by
          rw [Bool.eq_false_iff]
          intro h
          have := (there_iff e.key hlt).2 (by simpa [hp] using h)
          rw [ht] at this; cases this
        rw [if_neg (by rw [this]; simp), hp]
        have hd : (s.take (i + 1)).drop i = [s[i]] := by
          rw [List.take_succ_eq_append_getElem (by omega), List.drop_append_of_le_length (by simp; omega), List.drop_eq_nil_of_le (by simp; omega)]; rfl
        simp [hd]
    · have hle : (if there s e.key then place s e.key + 1 else place s e.key) ≤ i := by split <;> omega
      have hb := behind hs e.key i (by omega) hle
      rw [putTo_back hs he i (by omega) (by omega)]
      unfold putStep
      simp only [Bool.not_true, Bool.false_and, Bool.false_eq_true, if_false]
      rw [if_neg (by rw [hb.ne']; simp), List.take_succ_eq_append_getElem (by omega)]
      rw [List.drop_append_of_le_length (by rw [List.length_take]; omega)]
      simp
theorem putS_eq {s : List Entry} (hs : SortE s) {e : Entry} (he : noneE e = false) : putS s e = putE s e := by
  have hl := place_le s e.key
  unfold putS putE
  by_cases hp : place s e.key < s.length
  · rw [putTo_back hs he s.length hp (Nat.le_refl _), List.take_length]
    simp only [if_true]
    cases ht : there s e.key with
    | true => simp [List.set_eq_take_append_cons_drop, hp]
    | false => simp
  · have : place s e.key = s.length := by omega
    have ht : there s e.key = false := by
      rw [Bool.eq_false_iff]
      intro h
      exact hp (there_lt h)
    rw [putTo_front hs he s.length (by omega), ht, this]
    simp
theorem ordP_snoc {l : List Dot} (h : Sorted l) (d : Dot) : ordP (l ++ [d]) = putD l d :=
  Sorted.ext (ordP_spec _).1 (sorted_putD h d) fun x => by rw [(ordP_spec _).2, mem_putD]; simp
theorem sorted_left {l : List Dot} (h : Sorted l) (c : List Int) : Sorted (leftD l c) := List.Pairwise.filter _ h
def addR (s : List Entry) (k : ByteArray) (d : Dot) (c : List Int) : List Entry :=
  if 0 < (leftD (getE s k).dead c).length then s else putE s ⟨k, putD (leftD (getE s k).live c) d, (getE s k).dead⟩
def dropR (s : List Entry) (k : ByteArray) (d : Dot) (c : List Int) : List Entry := putE s ⟨k, [], putD (leftD (getE s k).dead c) d⟩
theorem get_rows {s : List Entry} (h : setOk s = true) (k : ByteArray) : rowsB (getE s k).live = true ∧ rowsB (getE s k).dead = true := by
  rcases getE_cases s k with ⟨x, hx, _, e⟩ | ⟨_, e⟩
  · rw [e]
    obtain ⟨i, hi, rfl⟩ := List.mem_iff_getElem.1 hx
    have := setOk_entry h i hi
    simp only [entOk, Bool.and_eq_true] at this
    exact ⟨this.1.2, this.2⟩
  · rw [e]; exact ⟨rfl, rfl⟩
end Go.AM
namespace Go.AM
open Go.Proofs

theorem light_ent {s : List Entry} (h : lightB s = true) {e : Entry} (he : e ∈ s) : e.live.length ≤ 30 ∧ e.dead.length ≤ 30 := by
  simp only [lightB, Bool.and_eq_true, List.all_eq_true] at h
  have := h.1 e he
  simp [lightE] at this
  omega
theorem light_len {s : List Entry} (h : lightB s = true) : s.length ≤ 30 := by
  simp only [lightB, Bool.and_eq_true, decide_eq_true_eq] at h
  omega
theorem atE_mem (s : List Entry) (k : ByteArray) : atE s k ∈ s ∨ atE s k = emptyE k := by
  unfold atE
  cases ht : there s k with
  | true =>
    have hlt := there_lt ht
    left
    simp [hlt]
  | false => right; rfl
theorem getE_mem (s : List Entry) (k : ByteArray) : getE s k ∈ s ∨ getE s k = emptyE k := by
  rcases getE_cases s k with ⟨x, hx, _, e⟩ | ⟨_, e⟩
  · left; rw [e]; exact hx
  · right; exact e
theorem putS_mem {s : List Entry} {e x : Entry} (h : x ∈ putS s e) : x ∈ s ∨ x = e := by
  unfold putS at h
  split at h
  · exact List.mem_or_eq_of_mem_set h
  · rcases List.mem_append.1 h with h | h
    · exact .inl (List.mem_of_mem_take h)
    · rcases List.mem_cons.1 h with h | h
      · exact .inr h
      · exact .inl (List.mem_of_mem_drop h)
theorem putS_len (s : List Entry) (e : Entry) : (putS s e).length ≤ s.length + 1 := by
  have := place_le s e.key
  unfold putS
  split
  · simp
  · simp; omega
/-- A bound on all that a set has. -/
def Within (n : Nat) (s : List Entry) : Prop := s.length ≤ n ∧ ∀ e ∈ s, e.live.length ≤ n ∧ e.dead.length ≤ n
theorem Within.fine {n : Nat} {s : List Entry} (h : Within n s) (hn : n ≤ 1000000) : Fine s := ⟨by have := h.1; omega, fun e he => by have := h.2 e he; omega⟩
theorem Within.put {n : Nat} {s : List Entry} (h : Within n s) {e : Entry} (he : e.live.length ≤ n + 1 ∧ e.dead.length ≤ n + 1) : Within (n + 1) (putS s e) :=
  ⟨by have := putS_len s e; have := h.1; omega, fun x hx => by
    rcases putS_mem hx with hx | hx
    · have := h.2 x hx; omega
    · rw [hx]; exact he⟩
theorem Within.of {s : List Entry} (h : lightB s = true) : Within 30 s := ⟨light_len h, fun _ he => light_ent h he⟩
theorem Within.at {n : Nat} {s : List Entry} (h : Within n s) (k : ByteArray) : (atE s k).live.length ≤ n ∧ (atE s k).dead.length ≤ n := by
  rcases atE_mem s k with hm | he
  · exact h.2 _ hm
  · rw [he]; simp [emptyE]
theorem Within.add {n : Nat} {s : List Entry} (h : Within n s) (k : ByteArray) (d : Dot) (c : List Int) : Within (n + 1) (addS s k d c) := by
  unfold addS
  split
  · exact ⟨by have := h.1; omega, fun e he => by have := h.2 e he; omega⟩
  · have h2 := h.at k
    have h3 := leftD_len (atE s k).live c
    have h4 := ordP_length (leftD (atE s k).live c ++ [d])
    rw [List.length_append, List.length_singleton] at h4
    exact h.put ⟨by dsimp only; omega, by dsimp only; omega⟩
theorem Within.drop {n : Nat} {s : List Entry} (h : Within n s) (k : ByteArray) (d : Dot) (c : List Int) : Within (n + 1) (dropS s k d c) := by
  unfold dropS
  have h2 := h.at k
  have h3 := leftD_len (atE s k).dead c
  have h4 := ordP_length (leftD (atE s k).dead c ++ [d])
  rw [List.length_append, List.length_singleton] at h4
  exact h.put ⟨by simp, by dsimp only; omega⟩

structure Deed where
  key : ByteArray
  dot : Dot
  past : List Int
def deedC (x : Deed) : List AV := [.s x.key, .i .i64 x.dot.1, .i .i64 x.dot.2, .sl .fro 1 (intsAV x.past)]

end Go.AM
namespace Go.AM
abbrev past (s : List Entry) (k : ByteArray) : Nat := if there s k then place s k + 1 else place s k
theorem putS_form (s : List Entry) (e : Entry) : putS s e = s.take (place s e.key) ++ e :: s.drop (past s e.key) := by
  unfold putS past
  cases ht : there s e.key with
  | true => simp [List.set_eq_take_append_cons_drop, there_lt ht]
  | false => simp
theorem sort_front {s : List Entry} (hs : SortE s) (k : ByteArray) : ∀ x ∈ s.take (place s k), KL x.key k := fun x hx => by
  obtain ⟨i, hi, rfl⟩ := List.mem_take_iff_getElem.1 hx
  exact (place_spec hs k).1 i (by omega) (by omega)
theorem sort_back {s : List Entry} (hs : SortE s) (k : ByteArray) : ∀ x ∈ s.drop (past s k), KL k x.key := fun x hx => by
  obtain ⟨i, hi, rfl⟩ := List.mem_drop_iff_getElem.1 hx
  exact behind hs k _ (by omega) (by unfold past; omega)
theorem putS_sort {s : List Entry} (hs : SortE s) (e : Entry) : SortE (putS s e) := by
  rw [putS_form]
  have h1 := sort_front hs e.key
  have h2 := sort_back hs e.key
  refine List.pairwise_append.2 ⟨List.Pairwise.sublist (List.take_sublist _ _) hs, List.pairwise_cons.2 ⟨h2, List.Pairwise.sublist (List.drop_sublist _ _) hs⟩, fun x hx y hy => ?_⟩
  rcases List.mem_cons.1 hy with rfl | hy
  · exact h1 x hx
  · exact (h1 x hx).trans (h2 y hy)
theorem getE_put {s : List Entry} (hs : SortE s) (e : Entry) : getE (putS s e) e.key = e := by
  rw [putS_form]
  unfold getE
  have h1 : (s.take (place s e.key)).find? (fun x => eqK x.key e.key) = none := by
    rw [List.find?_eq_none]
    intro x hx
    rw [(sort_front hs e.key x hx).ne]; simp
  rw [List.find?_append, h1, List.find?_cons]
  simp [eqK]
theorem getE_other {s : List Entry} (hs : SortE s) (e : Entry) (k : ByteArray) (hk : eqK e.key k = false) : getE (putS s e) k = getE s k := by
  have hk' : eqK k e.key = false := by
    rw [Bool.eq_false_iff] at hk ⊢
    intro h; rw [eqK_iff] at h; exact hk ((eqK_iff _ _).2 h.symm)
  have hss := putS_sort hs e
  rcases getE_cases s k with ⟨x, hx, ex, gx⟩ | ⟨hn, gx⟩
  · have hx2 : x ∈ putS s e := by
      rw [putS_form]
      rw [← List.take_append_drop (place s e.key) s] at hx
      rcases List.mem_append.1 hx with h | h
      · exact List.mem_append_left _ h
      · refine List.mem_append_right _ (List.mem_cons_of_mem _ ?_)
        unfold past
        cases ht : there s e.key with
        | false => exact h
        | true =>
          have hlt := there_lt ht
          rw [List.drop_eq_getElem_cons hlt] at h
          rcases List.mem_cons.1 h with rfl | h
          · have := (there_iff e.key hlt).1 ht
            rw [eqK_iff] at this ex
            rw [Bool.eq_false_iff] at hk'
            exact absurd ((eqK_iff _ _).2 (ex.symm.trans this)) hk'
          · exact h
    rcases getE_cases (putS s e) k with ⟨y, hy, ey, gy⟩ | ⟨hn, gy⟩
    · rw [gx, gy]; exact ent_uniq hss hy hx2 ey ex
    · rw [hn x hx2] at ex; cases ex
  · rcases getE_cases (putS s e) k with ⟨y, hy, ey, gy⟩ | ⟨_, gy⟩
    · rcases putS_mem hy with h | rfl
      · rw [hn y h] at ey; cases ey
      · rw [hk] at ey; cases ey
    · rw [gx, gy]
def oneOk (e : Entry) : Bool := keyOk e.key && !decide ((e.live.length : Int) + e.dead.length = 0) && rowsB e.live && rowsB e.dead
theorem empty_min (k : ByteArray) : leK k ByteArray.empty = true → eqK k ByteArray.empty = true := by
  intro h
  simp only [leK, Bool.or_eq_true] at h
  rcases h with h | h
  · rw [ltK_iff] at h
    unfold KL at h
    have : ByteArray.empty.toList = [] := (toList_data ByteArray.empty).symm.trans rfl
    rw [this] at h
    exact absurd h (List.not_lt_nil _)
  · exact h
theorem setOk_iff (s : List Entry) : setOk s = true ↔ s.length ≤ 4000 ∧ SortE s ∧ ∀ e ∈ s, oneOk e = true := by
  constructor
  · intro h
    refine ⟨?_, setOk_sort h, fun e he => ?_⟩
    · simp only [setOk, Bool.and_eq_true, decide_eq_true_eq] at h
      omega
    · obtain ⟨i, hi, rfl⟩ := List.mem_iff_getElem.1 he
      have := setOk_entry h i hi
      simp only [entOk, Bool.and_eq_true] at this
      simp only [oneOk, Bool.and_eq_true]
      exact ⟨⟨⟨this.1.1.1.1, this.1.1.2⟩, this.1.2⟩, this.2⟩
  · rintro ⟨h1, h2, h3⟩
    simp only [setOk, Bool.and_eq_true, decide_eq_true_eq, List.all_eq_true]
    refine ⟨by omega, fun i hi => ?_⟩
    have hi : i < s.length := by simpa using hi
    have h4 := h3 s[i] (List.getElem_mem hi)
    simp only [oneOk, Bool.and_eq_true] at h4
    simp only [entAt, List.getElem?_eq_getElem hi, entOk, Bool.and_eq_true]
    refine ⟨⟨⟨⟨h4.1.1.1, ?_⟩, h4.1.1.2⟩, h4.1.2⟩, h4.2⟩
    rw [Bool.not_eq_true', Bool.eq_false_iff]
    intro hle
    rcases Nat.eq_zero_or_pos i with h0 | h0
    · subst h0
      have := empty_min _ hle
      have h5 := h4.1.1.1
      simp only [keyOk, Bool.and_eq_true] at h5
      rw [this] at h5
      simp at h5
    · obtain ⟨j, rfl⟩ : ∃ j, i = j + 1 := ⟨i - 1, by omega⟩
      rw [prevK_succ s j (by omega)] at hle
      have := List.pairwise_iff_getElem.1 h2 j (j + 1) (by omega) hi (by omega)
      simp only [leK, Bool.or_eq_true] at hle
      rcases hle with h | h
      · rw [this.asymm] at h; cases h
      · rw [this.ne'] at h; cases h
theorem put_ok {s : List Entry} (h : setOk s = true) (hl : s.length < 4000) {e : Entry} (he : oneOk e = true) : setOk (putS s e) = true := by
  obtain ⟨_, h2, h3⟩ := (setOk_iff s).1 h
  refine (setOk_iff _).2 ⟨by have := putS_len s e; omega, putS_sort h2 e, fun x hx => ?_⟩
  rcases putS_mem hx with hx | rfl
  · exact h3 x hx
  · exact he
theorem rows_ord {l : List Dot} (h : rowsB l = true) (c : List Int) {d : Dot} (hd : mayD d = true) : rowsB (ordP (leftD l c ++ [d])) = true := by
  rw [rowsB_iff] at h ⊢
  refine ⟨fun x hx => ?_, (ordP_spec _).1⟩
  rcases List.mem_append.1 (((ordP_spec _).2 x).1 hx) with hx | hx
  · exact h.1 x (List.mem_filter.1 hx).1
  · rw [List.mem_singleton] at hx; rw [hx]; exact hd
theorem ord_mem (l : List Dot) (c : List Int) (d : Dot) : d ∈ ordP (leftD l c ++ [d]) := ((ordP_spec _).2 d).2 (by simp)
theorem ord_ne (l : List Dot) (c : List Int) (d : Dot) : 0 < (ordP (leftD l c ++ [d])).length := List.length_pos_of_mem (ord_mem l c d)
theorem drop_ok {s : List Entry} (h : setOk s = true) (hl : s.length < 4000) {k : ByteArray} (hk : keyOk k = true) {d : Dot} (hd : mayD d = true) (c : List Int) :
    setOk (dropS s k d c) = true ∧ atE (dropS s k d c) k = ⟨k, [], ordP (leftD (atE s k).dead c ++ [d])⟩ := by
  have hs := setOk_sort h
  have hr := get_rows h k
  rw [← atE_get hs] at hr
  have hn := ord_ne (atE s k).dead c d
  have ho : setOk (dropS s k d c) = true := by
    refine put_ok h hl ?_
    simp only [oneOk, Bool.and_eq_true]
    refine ⟨⟨⟨hk, ?_⟩, rfl⟩, rows_ord hr.2 c hd⟩
    simp only [List.length_nil, Bool.not_eq_true', decide_eq_false_iff_not]
    omega
  refine ⟨ho, ?_⟩
  rw [atE_get (setOk_sort ho)]
  exact getE_put hs ⟨k, [], ordP (leftD (atE s k).dead c ++ [d])⟩
def allC : List Int := [1048576, 1048576, 1048576, 1048576, 1048576]
end Go.AM
namespace Go.AM
open Go.Proofs

end Go.AM
namespace Go.AM

/-- A slot's own row is parked: the slot keeps its header alone. -/
def St.park (st : St) (t b sz : Nat) (xs : List (List AV)) (cap : Nat) : St :=
  (((st.take (rowQ t (1000000 + b))).killB (1000000 + b)).put t (.ab b 0 xs.length cap)).setBox (1000000 + b) (some (xs.flatten ++ List.replicate ((cap - xs.length) * sz) .any))

theorem Rel.park {N : Nat} {E : Env} (R : Rel N E) {t bk sz cap : Nat} {xs : List (List AV)} {arr : Array Value} {T : TypeId} (htN : t < N) (ht : E.st.slots t = .sl .own sz xs) (hω : E.ω bk = some (.slot t [])) (hg : E.w.heap[bk]? = some (.cells arr T (0, 0)))
    (ha : arr.size = cap * sz) (hc : xs.length ≤ cap) (hrow : Row E.Pub E.w bk 0 sz xs) (hown0 : ∀ j sz xs, E.st.abs (.cell (1000000 + bk) j) ≠ .sl .own sz xs) (htm : E.tm.getD t undef = .slice (some ⟨bk, 0, none⟩) xs.length cap) :
    Rel N ⟨E.w, (fun i => if i = 1000000 + bk then bk else E.β i), (E.take (rowQ t (1000000 + bk))).ω, E.Pub, E.st.park t bk sz xs cap, E.tm⟩ := by
  have R1 := R.unown (id := 1000000 + bk) htN ht hω hg ha hc hrow hown0 htm (fun _ => by unfold parkM; omega)
  have hno : NoOwn ((E.st.unown t (1000000 + bk) sz xs cap).slots t) := by
    intro π sz' xs' h
    have h2 : (E.st.unown t (1000000 + bk) sz xs cap).slots t = .bs (1000000 + bk) 0 xs.length cap := by simp [St.unown, St.put, St.setBox]
    rw [h2] at h
    cases π <;> simp [AV.at] at h
  have R2 := R1.putq t (.ab bk 0 xs.length cap) (.slice (some ⟨bk, 0, none⟩) xs.length cap) htN hno rfl (.ab _ _ _ _ _)
  have e1 : E.tm.setIfInBounds t (.slice (some ⟨bk, 0, none⟩) xs.length cap) = E.tm := tm_set_same _ _ _ htm
  have e2 : (E.st.unown t (1000000 + bk) sz xs cap).put t (.ab bk 0 xs.length cap) = E.st.park t bk sz xs cap := by
    refine St.ext' (fun t' => ?_) (fun i => rfl)
    show (if t' = t then _ else if t' = t then _ else _) = if t' = t then _ else _
    split <;> rfl
  rw [← e2]
  have R3 : Rel N ⟨E.w, (fun i => if i = 1000000 + bk then bk else E.β i), (E.take (rowQ t (1000000 + bk))).ω, E.Pub, (E.st.unown t (1000000 + bk) sz xs cap).put t (.ab bk 0 xs.length cap), E.tm.setIfInBounds t (.slice (some ⟨bk, 0, none⟩) xs.length cap)⟩ := R2
  rw [e1] at R3
  exact R3

theorem Inv.park {N : Nat} {S : Start} {E : Env} (I : Inv N S E) {t sz : Nat} {xs : List (List AV)} (htN : t < N) (ht : E.st.slots t = .sl .own sz xs) (hne : xs ≠ []) (hid : ∀ A, 1000000 ≤ A → E.st.boxes A = none) (hk : S.k ≤ 1000000) :
    ∃ b cap E', xs.length ≤ cap ∧ E'.w = E.w ∧ E'.tm = E.tm ∧ Inv N S E' ∧ E'.st = E.st.park t b sz xs cap := by
  have hv := I.rel.slots t
  rw [ht] at hv
  generalize hvv : E.tm.getD t undef = v at hv
  cases hv with
  | sl0 => exact absurd rfl hne
  | sl _ _ _ _ bk off cap hc hr hg ha =>
    obtain ⟨h1, arr, T, h2, h3, h4⟩ := hg
    subst h3
    have R' := I.rel.park htN ht h1 h2 h4 hc hr (fun j sz xs h => by simp [St.abs, hid (1000000 + bk) (by omega)] at h) hvv
    refine ⟨bk, cap, ⟨E.w, (fun i => if i = 1000000 + bk then bk else E.β i), (E.take (rowQ t (1000000 + bk))).ω, E.Pub, E.st.park t bk sz xs cap, E.tm⟩, hc, rfl, rfl, ⟨R', ⟨I.fr.os, I.fr.tape, I.fr.output, I.fr.size, I.fr.block, fun k q h => ?_, I.fr.pub0, I.fr.pub1, fun i hi => ?_⟩⟩, rfl⟩
    · have h' : (match E.ω k with | some q => some ((rowQ t (1000000 + bk) q).getD q) | none => none) = some q := h
      split at h'
      · rename_i q' hq'; exact I.fr.own k q' hq'
      · cases h'
    · show (if i = 1000000 + bk then bk else E.β i) = _
      rw [if_neg (by omega)]
      exact I.fr.beta i hi

/-- A parked row is claimed: it gets a box's name, and the slot that bears its header reads the box. -/
def St.claim (st : St) (t b id n cap : Nat) (cs : List AV) : St := ((((st.killB (1000000 + b)).setBox (1000000 + b) none).killB id).put t (.bs id 0 n cap)).setBox id (some cs)

theorem Val.calm {E E' : Env} (hw : E'.w = E.w) (hP : E'.Pub = E.Pub) {p p' : Place} {x : AV} {v : Value} (h : Val E p x v) (hx : x.calm = true) : Val E' p' x v := by
  cases h with
  | any => exact .any _ _
  | b => exact .b _ _
  | i => exact .i _ _ _
  | s => exact .s _ _
  | nil => exact .nil _
  | nofn => exact .nofn _
  | ab => exact .ab _ _ _ _ _
  | ptr => simp [AV.calm] at hx
  | bs => simp [AV.calm] at hx
  | pt => simp [AV.calm] at hx
  | fn => simp [AV.calm] at hx
  | agg => simp [AV.calm] at hx
  | tup => simp [AV.calm] at hx
  | sl1 => exact .sl1 _ _ _ _
  | sl2 => simp [AV.calm] at hx
  | sl0 _ g => cases g <;> first | (simp [AV.calm] at hx; done) | exact .sl0 _ _ _ (by simp) trivial
  | sl _ g sz xs bk off cap hc hr hg hat =>
    cases g <;> first | (simp [AV.calm] at hx; done) | skip
    refine .sl _ .fro sz xs bk off cap hc ?_ ?_ trivial
    · rw [hw, hP]; exact hr
    · show E'.Pub bk
      rw [hP]; exact hg

theorem Rel.claim {N : Nat} {E : Env} (R : Rel N E) {t b id n cap : Nat} {cs : List AV} (htN : t < N) (ht : E.st.slots t = .ab b 0 n cap) (hb : E.st.boxes (1000000 + b) = some cs) (hcc : Calm cs) (hid : E.st.boxes id = none) (hidM : id < 1000000) :
    Rel N ⟨E.w, (fun i => if i = id then b else E.β i), (fun bk => if E.ω bk = some (.box (1000000 + b)) then some (.box id) else E.ω bk), E.Pub, E.st.claim t b id n cap cs, E.tm⟩ := by
  have hf := hcc.freeL
  let A := 1000000 + b
  let E' : Env := ⟨E.w, (fun i => if i = id then b else E.β i), (fun bk => if E.ω bk = some (.box (1000000 + b)) then some (.box id) else E.ω bk), E.Pub, E.st.claim t b id n cap cs, E.tm⟩
  have hne : id ≠ A := by show id ≠ 1000000 + b; omega
  have hβ : E.β A = b := by have := R.abs A (by rw [show E.st.boxes A = some cs from hb]; rfl) (by show 1000000 ≤ 1000000 + b; omega); unfold parkM at this; have h2 : A = 1000000 + b := rfl; omega
  have htv : E.tm.getD t undef = .slice (some ⟨b, 0, none⟩) n cap := by
    have := R.slots t
    rw [ht] at this
    generalize E.tm.getD t undef = v at this
    cases this; rfl
  have R2 : Rel N { E with st := (E.st.killB A).killB id } := (R.killB A).killB id
  have hq : ∀ q sz xs, E.st.abs q = .sl .own sz xs → rootNe t q ∧ (∀ j, q ≠ .cell A j) ∧ (∀ j, q ≠ .cell id j) ∧ q ≠ .box A ∧ q ≠ .box id := by
    intro q sz xs h
    refine ⟨?_, fun j e => ?_, fun j e => ?_, fun e => by subst e; simp [St.abs] at h, fun e => by subst e; simp [St.abs] at h⟩
    · cases q with
      | slot t' π =>
        show t' ≠ t
        rintro rfl
        simp only [St.abs, ht] at h
        cases π <;> simp [AV.at] at h
      | _ => trivial
    · subst e
      simp only [St.abs, show E.st.boxes A = some cs from hb, Option.getD_some, List.getD_eq_getElem?_getD] at h
      cases hj : cs[j]? with
      | none => rw [hj] at h; cases h
      | some c =>
        rw [hj] at h
        have := AV.freeL_get hf hj
        simp only [Option.getD_some] at h
        rw [h] at this
        simp [AV.free] at this
    · subst e
      simp [St.abs, hid] at h
  have hno : rootNe t Place.no ∧ (∀ j, Place.no ≠ .cell A j) ∧ (∀ j, Place.no ≠ .cell id j) ∧ Place.no ≠ .box A ∧ Place.no ≠ .box id := ⟨trivial, by simp, by simp, by simp, by simp⟩
  have habs2 : ∀ q sz xs, E.st.abs q = .sl .own sz xs ↔ ((E.st.killB A).killB id).abs q = .sl .own sz xs := fun q sz xs => (abs_killB E.st A q sz xs).trans (abs_killB _ id q sz xs)
  have hst : Stays (fun q => rootNe t q ∧ (∀ j, q ≠ .cell A j) ∧ (∀ j, q ≠ .cell id j) ∧ q ≠ .box A ∧ q ≠ .box id) (fun i => i ≠ id) { E with st := (E.st.killB A).killB id } E' := by
    refine ⟨fun bk h => ⟨h, rfl⟩, fun bk q hq h => ⟨?_, rfl⟩, fun i hi => by show (if i = id then b else E.β i) = E.β i; rw [if_neg hi], ?_, ?_⟩
    · show (if E.ω bk = some (.box (1000000 + b)) then some (Place.box id) else E.ω bk) = some q
      have h' : E.ω bk = some q := h
      rw [h', if_neg (by intro e; exact hq.2.2.2.1 (Option.some.inj e))]
    · intro q u sz xs hr hab hc
      cases q with
      | slot t π => exact hc
      | cell i off =>
        have hi : i ≠ id := fun e => hr.2.2.1 off (by rw [e])
        show E.w.cell? ⟨if i = id then b else E.β i, off, none⟩ = some u
        rw [if_neg hi]; exact hc
      | box _ => simp [Env.con] at hc
      | no => simp [Env.con] at hc
    · intro q sz xs hr hab
      cases q with
      | slot t' π =>
        have hne' : t' ≠ t := hr.1
        show ((if t' = t then _ else ((E.st.killB A).killB id).slots t') : AV).at π = _
        rw [if_neg hne']; exact hab
      | cell i off =>
        have hi : i ≠ id := fun e => hr.2.2.1 off (by rw [e])
        have hiA : i ≠ A := fun e => hr.2.1 off (by rw [e])
        have hiA' : i ≠ 1000000 + b := hiA
        show ((((E.st.claim t b id n cap cs).boxes i).getD []).getD off .any) = _
        have : (E.st.claim t b id n cap cs).boxes i = ((E.st.killB A).killB id).boxes i := by
          simp only [St.claim, St.setBox, St.put, St.killB, St.tr, hi, hiA', if_false]
          rfl
        rw [this]; exact hab
      | box _ => simp [St.abs] at hab
      | no => simp [St.abs] at hab
  have hleanS : ∀ t', Leans (fun q => rootNe t q ∧ (∀ j, q ≠ .cell A j) ∧ (∀ j, q ≠ .cell id j) ∧ q ≠ .box A ∧ q ≠ .box id) (fun i => i ≠ id) (.slot t' []) (((E.st.killB A).killB id).slots t') := fun t' =>
    ((R.killB A).leansSlot (fun q sz xs h => hq q sz xs ((abs_killB E.st A q sz xs).2 h)) hno t').killB
  refine { size := R.size, slots := fun t' => ?_, boxes := fun i csi h => ?_, pub := fun bk h => ⟨(R.pub bk h).1, ?_⟩, own := fun bk q h => ?_, abs := fun i h hm => ?_ }
  · show Val E' (.slot t' []) (if t' = t then _ else ((E.st.killB A).killB id).slots t') (E.tm.getD t' undef)
    by_cases he : t' = t
    · subst he
      rw [if_pos rfl, htv]
      have := Val.bs (E := E') (.slot t' []) id 0 n cap
      have hb : E'.β id = b := by show (if id = id then b else _) = b; rw [if_pos rfl]
      rw [hb] at this
      exact this
    · rw [if_neg he]
      exact (R2.slots t').mono hst (hleanS t')
  · by_cases hi : i = id
    · subst hi
      have h' : (E.st.claim t b i n cap cs).boxes i = some csi := h
      simp only [St.claim, St.setBox, if_true] at h'
      obtain rfl := Option.some.inj h'
      obtain ⟨g1, arr, T, g2, g3, g4⟩ := R.boxes A cs hb
      rw [hβ] at g1 g2
      have hbi : E'.β i = b := by show (if i = i then b else _) = b; rw [if_pos rfl]
      refine ⟨?_, arr, T, by rw [hbi]; exact g2, g3, fun j c hj => ?_⟩
      · rw [hbi]
        show (if E.ω b = some (.box (1000000 + b)) then some (Place.box i) else E.ω b) = _
        rw [if_pos g1]
      · exact Val.calm (E := E) (E' := E') rfl rfl (g4 j c hj) (hcc c (List.mem_of_getElem? hj))
    · by_cases hiA : i = 1000000 + b
      · subst hiA
        have h' : (E.st.claim t b id n cap cs).boxes (1000000 + b) = some csi := h
        simp [St.claim, St.setBox, St.put, St.killB, St.tr, hi] at h'
      · have h' : ((E.st.killB A).killB id).boxes i = some csi := by
          have h'' : (E.st.claim t b id n cap cs).boxes i = some csi := h
          simp only [St.claim, St.setBox, St.put, St.killB, St.tr, hi, hiA, if_false] at h''
          exact h''
        obtain ⟨h1, arr0, T0, h2, h3, h4⟩ := R2.boxes i csi h'
        have hbi : E'.β i = E.β i := by show (if i = id then b else E.β i) = E.β i; rw [if_neg hi]
        refine ⟨?_, arr0, T0, by rw [hbi]; exact h2, h3, fun j c hj => ?_⟩
        · rw [hbi]
          show (if E.ω (E.β i) = some (.box (1000000 + b)) then some (Place.box id) else E.ω (E.β i)) = _
          have h1' : E.ω (E.β i) = some (.box i) := h1
          rw [h1', if_neg (by simp [hiA])]
        · have h5 := h4 j c hj
          simp only [St.killB, St.tr, Option.map_eq_some_iff] at h'
          obtain ⟨cs1, ⟨cs0, hb0, rfl⟩, rfl⟩ := h'
          rw [AV.trC_get, Option.map_eq_some_iff] at hj
          obtain ⟨c1, hc1, rfl⟩ := hj
          have hb1 : (E.st.killB A).boxes i = some (AV.trC (killBLeaf A) i 0 cs0) := by simp [St.killB, St.tr, hb0]
          have := ((R.killB A).leansCell (fun q sz xs h => hq q sz xs ((abs_killB E.st A q sz xs).2 h)) hno hb1 hc1).killB (id := id)
          simp only [Nat.zero_add] at this h5 ⊢
          exact h5.mono hst this
  · show (if E.ω bk = some (.box (1000000 + b)) then some (Place.box id) else E.ω bk) = none
    rw [(R.pub bk h).2, if_neg (by simp)]
  · have h' : (if E.ω bk = some (.box (1000000 + b)) then some (Place.box id) else E.ω bk) = some q := h
    split at h'
    · rename_i h2; exact R.own bk _ h2
    · exact R.own bk q h'
  · have hi : i ≠ id := by unfold parkM at hm; omega
    have hiA : i ≠ 1000000 + b := by
      rintro rfl
      have h' : ((E.st.claim t b id n cap cs).boxes (1000000 + b)).isSome = true := h
      simp [St.claim, St.setBox, St.put, St.killB, St.tr, hi] at h'
    show (if i = id then b else E.β i) + parkM = i
    rw [if_neg hi]
    refine R2.abs i ?_ hm
    have h' : ((E.st.claim t b id n cap cs).boxes i).isSome = true := h
    simp only [St.claim, St.setBox, St.put, St.killB, St.tr, hi, hiA, if_false] at h'
    exact h'

theorem Inv.claim {N : Nat} {S : Start} {E : Env} (I : Inv N S E) {t b id n cap : Nat} {cs : List AV} (htN : t < N) (ht : E.st.slots t = .ab b 0 n cap) (hb : E.st.boxes (1000000 + b) = some cs) (hcc : Calm cs) (hid : E.st.boxes id = none) (hk : S.k ≤ id) (hidM : id < 1000000) :
    ∃ E', E'.w = E.w ∧ E'.tm = E.tm ∧ Inv N S E' ∧ E'.st = E.st.claim t b id n cap cs := by
  refine ⟨⟨E.w, (fun i => if i = id then b else E.β i), (fun bk => if E.ω bk = some (.box (1000000 + b)) then some (.box id) else E.ω bk), E.Pub, E.st.claim t b id n cap cs, E.tm⟩, rfl, rfl, ⟨I.rel.claim htN ht hb hcc hid hidM, ⟨I.fr.os, I.fr.tape, I.fr.output, I.fr.size, I.fr.block, fun k q h => ?_, I.fr.pub0, I.fr.pub1, fun i hi => ?_⟩⟩, rfl⟩
  · have h' : (if E.ω k = some (.box (1000000 + b)) then some (Place.box id) else E.ω k) = some q := h
    split at h'
    · rename_i h2; exact I.fr.own k _ h2
    · exact I.fr.own k q h'
  · show (if i = id then b else E.β i) = _
    rw [if_neg (by omega)]
    exact I.fr.beta i hi

section
variable {C : Cx} {Q : Exit → St → Prop} {st : St}
theorem AWp.park (t : Nat) {sz : Nat} {xs : List (List AV)} {c : Code} (ht : st.slots t = .sl .own sz xs) (hN : t < C.N) (hne : xs ≠ []) (hid : ∀ A, 1000000 ≤ A → st.boxes A = none) (hb : C.base ≤ 1000000) (h : ∀ b cap, xs.length ≤ cap → AWp C c (st.park t b sz xs cap) Q) : AWp C c st Q := by
  intro S E a hbs I ha hd he
  subst he
  obtain ⟨b, cap, E', h1, h2, h3, h4, h5⟩ := I.park hN ht hne hid (Nat.le_trans hbs hb)
  have := h b cap h1 S E' a hbs h4 (by rw [ha, h3]) hd h5
  rwa [h2] at this
theorem SOps.park (t : Nat) {sz : Nat} {xs : List (List AV)} {ops : Array Oper} {k : Nat} {l : List Oper} {K : St → Prop} (ht : st.slots t = .sl .own sz xs) (hN : t < C.N) (hne : xs ≠ []) (hid : ∀ A, 1000000 ≤ A → st.boxes A = none) (hb : C.base ≤ 1000000)
    (h : ∀ b cap, xs.length ≤ cap → SOps C ops k l (st.park t b sz xs cap) K) : SOps C ops k l st K := by
  intro S E a hbs I ha hd he R hR
  subst he
  obtain ⟨b, cap, E', h1, h2, h3, h4, h5⟩ := I.park hN ht hne hid (Nat.le_trans hbs hb)
  have := h b cap h1 S E' a hbs h4 (by rw [ha, h3]) hd h5 R hR
  rwa [h2] at this
theorem SOps.claim (t b id : Nat) {n cap : Nat} {cs : List AV} {ops : Array Oper} {k : Nat} {l : List Oper} {K : St → Prop} (ht : st.slots t = .ab b 0 n cap) (hbx : st.boxes (1000000 + b) = some cs) (hcc : Calm cs) (hN : t < C.N) (hid : st.boxes id = none) (hb : C.base ≤ id ∧ id < 1000000)
    (h : SOps C ops k l (st.claim t b id n cap cs) K) : SOps C ops k l st K := by
  intro S E a hbs I ha hd he R hR
  subst he
  obtain ⟨E', h2, h3, h4, h5⟩ := I.claim hN ht hbx hcc hid (Nat.le_trans hbs hb.1) hb.2
  have := h S E' a hbs h4 (by rw [ha, h3]) hd h5 R hR
  rwa [h2] at this
theorem AWp.claim (t b id : Nat) {n cap : Nat} {cs : List AV} {c : Code} (ht : st.slots t = .ab b 0 n cap) (hbx : st.boxes (1000000 + b) = some cs) (hcc : Calm cs) (hN : t < C.N) (hid : st.boxes id = none) (hb : C.base ≤ id ∧ id < 1000000)
    (h : AWp C c (st.claim t b id n cap cs) Q) : AWp C c st Q := by
  intro S E a hbs I ha hd he
  subst he
  obtain ⟨E', h2, h3, h4, h5⟩ := I.claim hN ht hbx hcc hid (Nat.le_trans hbs hb.1) hb.2
  have := h S E' a hbs h4 (by rw [ha, h3]) hd h5
  rwa [h2] at this
end
attribute [simp] St.park St.claim
end Go.AM
namespace Go.AM
open Go.Proofs
/-- May an entry stand behind a key, in a set whose adds hold? -/
def entOkA (p : ByteArray) (e : Entry) : Bool := keyOk e.key && !leK e.key p && !decide ((e.live.length : Int) = 0) && !decide ((0 : Int) < e.dead.length) && rowsB e.live
def entAtA (s : List Entry) (i : Nat) : Bool := match s[i]? with
  | some e => entOkA (prevK s i) e
  | none => false
def setOkA (s : List Entry) : Bool := decide ((s.length : Int) ≤ 4000) && (List.range s.length).all (entAtA s)

end Go.AM
namespace Go.AM
open Go.Proofs

end Go.AM
namespace Go.AM
open Go.Proofs


/-- A row of dots, or where it lies. -/
inductive LV where
  | here (l : List Dot)
  | at (b n cap : Nat)
def LV.c : LV → AV
  | .here l => .sl .fro 2 (dotsAV l)
  | .at b n cap => .ab b 0 n cap
structure EntL where
  key : ByteArray
  live : LV
  dead : List Dot
def entL (e : EntL) : List AV := [.s e.key, e.live.c, .sl .fro 2 (dotsAV e.dead)]
def hereL (e : Entry) : EntL := ⟨e.key, .here e.live, e.dead⟩
/-- A set one of whose rows lies elsewhere. -/
def markL (s : List Entry) (j b cap : Nat) : List EntL := (s.map hereL).set j ⟨(s.getD j (emptyE ByteArray.empty)).key, .at b (s.getD j (emptyE ByteArray.empty)).live.length cap, (s.getD j (emptyE ByteArray.empty)).dead⟩
@[simp] theorem markL_len (s : List Entry) (j b cap : Nat) : (markL s j b cap).length = s.length := by simp [markL]
def rowsE (l : List EntL) : List (List AV) := l.map entL
@[simp] theorem rowsE_len (l : List EntL) : (rowsE l).length = l.length := by simp [rowsE]
def parkC (s : List Entry) (j cap : Nat) : List AV := (dotsAV (s.getD j (emptyE ByteArray.empty)).live).flatten ++ List.replicate ((cap - (s.getD j (emptyE ByteArray.empty)).live.length) * 2) AV.any
def outL (s : List Entry) (j i : Nat) : Option (Nat × Nat) → List (List AV)
  | none => entsAV (s.take i)
  | some p => rowsE ((markL s j p.1 p.2).take i)
end Go.AM
namespace Go.AM
open Go.Proofs

end Go.AM
namespace Go.AM
open Go.Proofs

end Go.AM
namespace Go.AM
open Go.Proofs
/-- A set behind a turn of a key that is there. -/
def turnT (s : List Entry) (k : ByteArray) (c : List Int) (more : List Dot) : List Entry :=
  let l := ordP (leftD (atE s k).live c ++ more)
  if l.length = 0 then s.take (place s k) ++ s.drop (place s k + 1) else s.set (place s k) ⟨(atE s k).key, l, (atE s k).dead⟩

end Go.AM
namespace Go.AM
open Go.Proofs

def turnM (s : List Entry) (k : ByteArray) (more : List Dot) : List Entry :=
  if (ordP more).length = 0 then s else s.take (place s k) ++ ⟨k, ordP more, []⟩ :: s.drop (place s k)

end Go.AM
namespace Go.AM
theorem key_ext {a b : ByteArray} (h : eqK a b = true) : a = b := by
  rw [eqK_iff, ← toList_data, ← toList_data] at h
  exact ByteArray.ext (Array.toList_inj.1 h)
theorem entOkA_iff (p : ByteArray) (e : Entry) : entOkA p e = true ↔ entOk p e = true ∧ e.live ≠ [] ∧ e.dead = [] := by
  simp only [entOkA, entOk, Bool.and_eq_true, Bool.not_eq_true', decide_eq_false_iff_not]
  constructor
  · rintro ⟨⟨⟨⟨h1, h2⟩, h3⟩, h4⟩, h5⟩
    have h6 : e.dead = [] := List.length_eq_zero_iff.1 (by omega)
    exact ⟨⟨⟨⟨⟨h1, h2⟩, by omega⟩, h5⟩, by rw [h6]; rfl⟩, fun h => h3 (by rw [h]; rfl), h6⟩
  · rintro ⟨⟨⟨⟨⟨h1, h2⟩, h3⟩, h5⟩, _⟩, h6, h7⟩
    refine ⟨⟨⟨⟨h1, h2⟩, fun h => h6 (List.length_eq_zero_iff.1 (by omega))⟩, by rw [h7]; simp⟩, h5⟩
theorem setOkA_iff (s : List Entry) : setOkA s = true ↔ setOk s = true ∧ ∀ e ∈ s, e.live ≠ [] ∧ e.dead = [] := by
  simp only [setOkA, setOk, Bool.and_eq_true, List.all_eq_true]
  constructor
  · rintro ⟨h1, h2⟩
    have h3 : ∀ i (hi : i < s.length), entOkA (prevK s i) s[i] = true := fun i hi => by
      have := h2 i (by simpa using hi)
      simpa [entAtA, hi] using this
    refine ⟨⟨h1, fun i hi => ?_⟩, fun e he => ?_⟩
    · have hi : i < s.length := by simpa using hi
      simpa [entAt, hi] using ((entOkA_iff _ _).1 (h3 i hi)).1
    · obtain ⟨i, hi, rfl⟩ := List.mem_iff_getElem.1 he
      exact ((entOkA_iff _ _).1 (h3 i hi)).2
  · rintro ⟨⟨h1, h2⟩, h3⟩
    refine ⟨h1, fun i hi => ?_⟩
    have h4 := h2 i hi
    have hi : i < s.length := by simpa using hi
    simp only [entAtA, entAt, List.getElem?_eq_getElem hi] at h4 ⊢
    exact (entOkA_iff _ _).2 ⟨h4, h3 _ (List.getElem_mem hi)⟩
theorem putTo_none (s : List Entry) (e : Entry) (h : noneE e = true) : ∀ i, i ≤ s.length → putTo s e i = ((s.take i).filter (fun x => !eqK x.key e.key), true)
  | 0, _ => by simp [putTo, h]
  | i + 1, hi => by
    rw [putTo_succ s e i (by omega), putTo_none s e h i (by omega), putStep, List.take_succ_eq_append_getElem (by omega), List.filter_append]
    cases hk : eqK s[i].key e.key <;> simp [hk]
theorem putE_none (s : List Entry) (e : Entry) (h : noneE e = true) : putE s e = s.filter fun x => !eqK x.key e.key := by
  unfold putE
  rw [putTo_none s e h s.length (Nat.le_refl _), List.take_length]
  simp
theorem filter_form {s : List Entry} (hs : SortE s) (k : ByteArray) : (s.filter fun x => !eqK x.key k) = s.take (place s k) ++ s.drop (past s k) := by
  have h1 : (s.take (place s k)).filter (fun x => !eqK x.key k) = s.take (place s k) := by
    rw [List.filter_eq_self]
    intro x hx
    rw [(sort_front hs k x hx).ne]; rfl
  have h2 : (s.drop (past s k)).filter (fun x => !eqK x.key k) = s.drop (past s k) := by
    rw [List.filter_eq_self]
    intro x hx
    rw [(sort_back hs k x hx).ne']; rfl
  conv => lhs; rw [← List.take_append_drop (place s k) s]
  rw [List.filter_append, h1]
  congr 1
  unfold past at h2 ⊢
  cases ht : there s k with
  | false => rw [ht] at h2; simpa using h2
  | true =>
    have hlt := there_lt ht
    rw [ht] at h2
    rw [List.drop_eq_getElem_cons hlt]
    have := (there_iff k hlt).1 ht
    simp only [if_true] at h2 ⊢
    rw [List.filter_cons, this]
    simpa using h2
/-- What a turn leaves. -/
def turnA (s : List Entry) (k : ByteArray) (c : List Int) (more : List Dot) : List Entry := if there s k then turnT s k c more else turnM s k more
def addA (s : List Entry) (k : ByteArray) (d : Dot) (c : List Int) : List Entry := putE s ⟨k, putD (leftD (getE s k).live c) d, []⟩
def dropA (s : List Entry) (k : ByteArray) (c : List Int) : List Entry := putE s ⟨k, leftD (getE s k).live c, []⟩
theorem putA_form {s : List Entry} (hs : SortE s) (e : Entry) : putE s e = s.take (place s e.key) ++ ((if noneE e then [] else [e]) ++ s.drop (past s e.key)) := by
  cases hn : noneE e with
  | true => rw [putE_none _ _ hn, filter_form hs]; simp
  | false => rw [← putS_eq hs hn, putS_form]; simp
theorem getE_none {s : List Entry} {k : ByteArray} (h : ∀ x ∈ s, eqK x.key k = false) : getE s k = emptyE k := by
  rcases getE_cases s k with ⟨x, hx, ex, _⟩ | ⟨_, h⟩
  · rw [h x hx] at ex; cases ex
  · exact h
theorem putA_get {s : List Entry} (hs : SortE s) (k : ByteArray) (l : List Dot) : getE (putE s ⟨k, l, []⟩) k = ⟨k, l, []⟩ := by
  cases hn : noneE ⟨k, l, []⟩ with
  | true =>
    rw [putE_none _ _ hn, getE_none fun x hx => by simpa using (List.mem_filter.1 hx).2]
    have : l = [] := List.length_eq_zero_iff.1 (by simpa [noneE] using hn)
    rw [this]; rfl
  | false => rw [← putS_eq hs hn]; exact getE_put hs ⟨k, l, []⟩
theorem putA_other {s : List Entry} (hs : SortE s) (e : Entry) (k : ByteArray) (hk : eqK e.key k = false) : getE (putE s e) k = getE s k := by
  cases hn : noneE e with
  | false => rw [← putS_eq hs hn]; exact getE_other hs e k hk
  | true =>
    rw [putE_none _ _ hn]
    unfold getE
    congr 1
    induction s with
    | nil => rfl
    | cons a s ih =>
      have ih := ih (List.Pairwise.sublist (List.sublist_cons_self a s) hs)
      rw [List.filter_cons, List.find?_cons]
      cases h1 : eqK a.key e.key with
      | true =>
        have h2 : eqK a.key k = false := by rw [key_ext h1]; exact hk
        simp only [Bool.not_true, Bool.false_eq_true, if_false, h2]
        exact ih
      | false =>
        simp only [Bool.not_false, if_true, List.find?_cons]
        cases eqK a.key k
        · exact ih
        · rfl
theorem putA_mem {s : List Entry} (hs : SortE s) {e x : Entry} (h : x ∈ putE s e) : x ∈ s ∨ x = e := by
  rw [putA_form hs] at h
  rcases List.mem_append.1 h with h | h
  · exact .inl (List.mem_of_mem_take h)
  · rcases List.mem_append.1 h with h | h
    · right
      split at h
      · cases h
      · simpa using h
    · exact .inl (List.mem_of_mem_drop h)
theorem putA_len (s : List Entry) (hs : SortE s) (e : Entry) : (putE s e).length ≤ s.length + 1 := by
  cases hn : noneE e with
  | false => rw [← putS_eq hs hn]; exact putS_len s e
  | true => rw [putE_none _ _ hn]; have := List.length_filter_le (fun x : Entry => !eqK x.key e.key) s; omega
theorem putA_ok {s : List Entry} (h : setOkA s = true) (hl : s.length < 4000) {k : ByteArray} (hk : keyOk k = true) {l : List Dot} (hr : rowsB l = true) : setOkA (putE s ⟨k, l, []⟩) = true := by
  obtain ⟨h1, h2⟩ := (setOkA_iff s).1 h
  obtain ⟨h3, h4, h5⟩ := (setOk_iff s).1 h1
  cases hn : noneE ⟨k, l, []⟩ with
  | true =>
    rw [putE_none _ _ hn]
    refine (setOkA_iff _).2 ⟨(setOk_iff _).2 ⟨?_, List.Pairwise.filter _ h4, fun e he => h5 e (List.mem_filter.1 he).1⟩, fun e he => h2 e (List.mem_filter.1 he).1⟩
    have := List.length_filter_le (fun x : Entry => !eqK x.key k) s
    simp only at this ⊢
    omega
  | false =>
    have hne : l.length ≠ 0 := by simpa [noneE] using hn
    rw [← putS_eq h4 hn]
    refine (setOkA_iff _).2 ⟨put_ok h1 hl ?_, fun e he => ?_⟩
    · simp only [oneOk, Bool.and_eq_true, Bool.not_eq_true', decide_eq_false_iff_not]
      refine ⟨⟨⟨hk, by simp only [List.length_nil]; omega⟩, hr⟩, rfl⟩
    · rcases putS_mem he with h6 | h6
      · exact h2 e h6
      · rw [h6]; exact ⟨fun h0 => hne (by simp at h0; rw [h0]; rfl), rfl⟩
theorem rows_left {l : List Dot} (h : rowsB l = true) (c : List Int) : rowsB (leftD l c) = true := by
  rw [rowsB_iff] at h ⊢
  exact ⟨fun x hx => h.1 x (List.mem_filter.1 hx).1, sorted_left h.2 c⟩
theorem rows_putD {l : List Dot} (h : rowsB l = true) {d : Dot} (hd : mayD d = true) : rowsB (putD l d) = true := by
  rw [rowsB_iff] at h ⊢
  refine ⟨fun x hx => ?_, sorted_putD h.2 d⟩
  rcases (mem_putD l d x).1 hx with hx | hx
  · exact h.1 x hx
  · rw [hx]; exact hd
theorem addA_ok {s : List Entry} (h : setOkA s = true) (hl : s.length < 4000) {k : ByteArray} (hk : keyOk k = true) {d : Dot} (hd : mayD d = true) (c : List Int) : setOkA (addA s k d c) = true :=
  putA_ok h hl hk (rows_putD (rows_left (get_rows ((setOkA_iff s).1 h).1 k).1 c) hd)
theorem dropA_ok {s : List Entry} (h : setOkA s = true) (hl : s.length < 4000) {k : ByteArray} (hk : keyOk k = true) (c : List Int) : setOkA (dropA s k c) = true :=
  putA_ok h hl hk (rows_left (get_rows ((setOkA_iff s).1 h).1 k).1 c)
end Go.AM
namespace Go.AM
theorem within_iff (a b : List Int) : withinB a b = true ↔ ∀ r, getC a r ≤ getC b r := by
  unfold withinB withinTo
  rw [List.all_eq_true]
  constructor
  · intro h r
    by_cases h1 : 1 ≤ r ∧ r ≤ 5
    · have := h (r - 1).toNat (by rw [List.mem_range]; omega)
      rw [show (((r - 1).toNat : Nat) : Int) + 1 = r by omega] at this
      simpa using this
    · have e1 : getC a r = 0 := by unfold getC; rw [if_neg h1]
      have := (getC_range b r).1
      omega
  · intro h k _
    simpa using h _
structure Good (l : List Ev) : Prop where
  may : ∀ e ∈ l, evOk e = true
  nodup : (l.map Ev.dot).Nodup
  down : ∀ e ∈ l, ∀ r n : Int, 1 ≤ r → r ≤ 5 → 1 ≤ n → n ≤ getC e.past r → ∃ f ∈ l, f.dot = (r, n)
  trans : ∀ e ∈ l, ∀ f ∈ l, aheadB f e = true → ∀ r, getC f.past r ≤ getC e.past r
theorem findB_iff (l : List Ev) (d : Dot) : findB l d = true ↔ ∃ f ∈ l, f.dot = d := by
  simp [findB]
theorem good_of {l : List Ev} (h : wholeB l = true) : Good l := by
  simp only [wholeB, closedB, Bool.and_eq_true, List.all_eq_true] at h
  obtain ⟨⟨h1, h2⟩, h3⟩ := h
  have h4 : ∀ i (hi : i < l.length), evOk l[i] = true ∧ findB (l.take i) l[i].dot = false := fun i hi => by
    have := h1 i (by simpa using hi)
    rw [close1_at hi] at this
    simp only [Bool.and_eq_true, Bool.not_eq_true'] at this
    exact this.1
  refine ⟨fun e he => ?_, ?_, fun e he r n hr1 hr5 hn1 hn => ?_, fun e he f hf ha => ?_⟩
  · obtain ⟨i, hi, rfl⟩ := List.mem_iff_getElem.1 he
    exact (h4 i hi).1
  · rw [List.nodup_iff_pairwise_ne, List.pairwise_iff_getElem]
    intro i j hi hj hij he
    simp only [List.length_map, List.getElem_map] at hi hj he
    have := (h4 j hj).2
    rw [Bool.eq_false_iff] at this
    exact this ((findB_iff _ _).2 ⟨l[i], List.mem_take_iff_getElem.2 ⟨i, by omega, rfl⟩, he⟩)
  · have := h2 e he
    simp only [close2, List.all_eq_true] at this
    have := this (r - 1).toNat (by rw [List.mem_range]; omega)
    simp only [close3, List.all_eq_true] at this
    rw [show (((r - 1).toNat : Nat) : Int) + 1 = r by omega] at this
    have := this (n - 1).toNat (by rw [List.mem_range]; omega)
    simp only [close4] at this
    rw [show (((n - 1).toNat : Nat) : Int) + 1 = n by omega] at this
    exact (findB_iff _ _).1 this
  · have := h3 e he f hf
    simp only [passB, ha, Bool.true_and, Bool.not_not] at this
    exact (within_iff _ _).1 this
theorem evOk_facts {e : Ev} (h : evOk e = true) : mayD e.dot = true ∧ clockOk e.past = true ∧ getC e.past e.dot.1 + 1 = e.dot.2 ∧ (∀ x ∈ e.effs, effOk x = true) ∧ e.effs.length ≤ 16 := by
  simp only [evOk, evA, Bool.and_eq_true, List.all_eq_true, decide_eq_true_eq] at h
  exact ⟨h.1.1.1.1.1.1, h.1.1.1.1.1.2, h.1.1.1.2, h.1.1.2, by omega⟩
theorem mayD_facts {d : Dot} (h : mayD d = true) : (1 ≤ d.1 ∧ d.1 ≤ 5) ∧ 1 ≤ d.2 ∧ d.2 ≤ 1048576 := by
  simp only [mayD, Bool.and_eq_true, decide_eq_true_eq] at h
  omega
theorem nodup_inj {l : List Ev} (h : (l.map Ev.dot).Nodup) {a b : Ev} (ha : a ∈ l) (hb : b ∈ l) (he : a.dot = b.dot) : a = b := by
  obtain ⟨i, hi, rfl⟩ := List.mem_iff_getElem.1 ha
  obtain ⟨j, hj, rfl⟩ := List.mem_iff_getElem.1 hb
  rw [List.nodup_iff_pairwise_ne, List.pairwise_iff_getElem] at h
  rcases Nat.lt_trichotomy i j with h1 | h1 | h1
  · have h2 := h i j (by simpa using hi) (by simpa using hj) h1
    simp only [List.getElem_map] at h2
    exact absurd he h2
  · subst h1; rfl
  · have h2 := h j i (by simpa using hj) (by simpa using hi) h1
    simp only [List.getElem_map] at h2
    exact absurd he.symm h2
theorem pigeon : ∀ (a b : List Dot), a.Nodup → (∀ x ∈ a, x ∈ b) → a.length ≤ b.length
  | [], b, _, _ => Nat.zero_le _
  | x :: a, b, h, hs => by
    have hx : x ∈ b := hs x (List.mem_cons_self)
    obtain ⟨h1, h2⟩ := List.nodup_cons.1 h
    have := pigeon a (b.erase x) h2 fun y hy => (List.mem_erase_of_ne (fun e => by subst e; exact h1 hy)).2 (hs y (List.mem_cons_of_mem _ hy))
    rw [List.length_erase_of_mem hx] at this
    have := List.length_pos_of_mem hx
    simp only [List.length_cons]
    omega
theorem sum_eq (c : List Int) : sumTo c 5 = 0 + getC c 1 + getC c 2 + getC c 3 + getC c 4 + getC c 5 := rfl
theorem sum_lt {a b : List Int} (h : ∀ r, getC a r ≤ getC b r) {r : Int} (h1 : 1 ≤ r ∧ r ≤ 5) (h2 : getC a r < getC b r) : sumTo a 5 < sumTo b 5 := by
  have e1 := h 1; have e2 := h 2; have e3 := h 3; have e4 := h 4; have e5 := h 5
  have hr : r = 1 ∨ r = 2 ∨ r = 3 ∨ r = 4 ∨ r = 5 := by omega
  rw [sum_eq, sum_eq]
  rcases hr with rfl | rfl | rfl | rfl | rfl <;> omega
theorem setClk_get (c : List Int) {d : Dot} (hd : mayD d = true) (r : Int) : getC (setClk c d.1 d.2) r = if r = d.1 then d.2 else getC c r := by
  have h := mayD_facts hd
  have e : setClk c d.1 d.2 = setC c d.1 d.2 := refSet_eq c h.1 ⟨by omega, h.2.2⟩
  rw [e, getC_setC c h.1 ⟨by omega, h.2.2⟩]
theorem getC_nil (r : Int) : getC [] r = 0 := by
  unfold getC
  split
  · rename_i h
    have : r = 1 ∨ r = 2 ∨ r = 3 ∨ r = 4 ∨ r = 5 := by omega
    rcases this with rfl | rfl | rfl | rfl | rfl <;> rfl
  · rfl
/-- What holds of an order begun. -/
structure Run (l o : List Ev) (s : List Int) : Prop where
  sub : ∀ e ∈ o, e ∈ l
  nodup : (o.map Ev.dot).Nodup
  done : ∀ e ∈ l, e ∈ o ↔ e.dot.2 ≤ getC s e.dot.1
  past : ∀ e ∈ o, ∀ r, getC e.past r ≤ getC s r
  order : o.Pairwise fun a b => aheadB b a = false
theorem Run.start {l : List Ev} (hg : Good l) : Run l [] [] where
  sub := by simp
  nodup := by simp
  done := fun e he => by
    have := mayD_facts (evOk_facts (hg.may e he)).1
    rw [getC_nil]
    constructor
    · intro h; cases h
    · intro h; omega
  past := by simp
  order := List.Pairwise.nil
theorem canB_iff (s : List Int) (e : Ev) : canB s e = true ↔ getC s e.dot.1 < e.dot.2 ∧ ∀ r, getC e.past r ≤ getC s r := by
  rw [canB, Bool.and_eq_true, decide_eq_true_eq, within_iff]
theorem Run.can {l o : List Ev} {s : List Int} (hg : Good l) (h : Run l o s) : ∀ (n : Nat) (e : Ev), e ∈ l → e ∉ o → sumTo e.past 5 < n → ∃ x ∈ l, canB s x = true
  | 0, e, _, _, hn => by
    have := sumTo_range e.past 5 (Nat.le_refl _)
    omega
  | n + 1, e, he, ho, hn => by
    have hu : getC s e.dot.1 < e.dot.2 := by
      have := (not_congr (h.done e he)).1 ho
      omega
    by_cases hw : ∀ r, getC e.past r ≤ getC s r
    · exact ⟨e, he, (canB_iff s e).2 ⟨hu, hw⟩⟩
    · obtain ⟨r, hr⟩ := Classical.not_forall.1 hw
      have hr0 := (getC_range s r).1
      have hrr : 1 ≤ r ∧ r ≤ 5 := by
        apply Classical.byContradiction
        intro h0
        have : getC e.past r = 0 := by unfold getC; rw [if_neg h0]
        omega
      obtain ⟨f, hf, hd⟩ := hg.down e he r (getC e.past r) hrr.1 hrr.2 (by omega) (Int.le_refl _)
      have hfo : f ∉ o := by
        rw [h.done f hf, hd]
        simp only
        omega
      have hff := evOk_facts (hg.may f hf)
      have ha : aheadB f e = true := by
        rw [aheadB, hff.1, Bool.true_and, decide_eq_true_eq, hd]
        exact Int.le_refl _
      have ht := hg.trans e he f hf ha
      have hs : getC f.past r < getC e.past r := by
        have := hff.2.2.1
        rw [hd] at this
        simp only at this
        omega
      have := sum_lt ht hrr hs
      exact Run.can hg h n f hf hfo (by omega)
theorem Run.more {l o : List Ev} {s : List Int} (hg : Good l) (h : Run l o s) (hl : o.length < l.length) : ∃ e ∈ l, e ∉ o := by
  apply Classical.byContradiction
  intro hn
  have := pigeon (l.map Ev.dot) (o.map Ev.dot) hg.nodup fun x hx => by
    obtain ⟨e, he, rfl⟩ := List.mem_map.1 hx
    exact List.mem_map_of_mem (Classical.byContradiction fun h0 => hn ⟨e, he, h0⟩)
  simp only [List.length_map] at this
  omega
theorem Run.step {l o : List Ev} {s : List Int} (hg : Good l) (h : Run l o s) {x : Ev} (hx : x ∈ l) (hc : canB s x = true) : Run l (o ++ [x]) (setClk s x.dot.1 x.dot.2) := by
  obtain ⟨hc1, hc2⟩ := (canB_iff s x).1 hc
  have hxf := evOk_facts (hg.may x hx)
  have hs := setClk_get s hxf.1
  have hxo : x ∉ o := by
    rw [h.done x hx]; omega
  have hsx : getC s x.dot.1 + 1 = x.dot.2 := by
    have := hc2 x.dot.1
    have := hxf.2.2.1
    omega
  have hmono : ∀ r, getC s r ≤ getC (setClk s x.dot.1 x.dot.2) r := fun r => by
    rw [hs]
    split
    · rename_i h0; subst h0; omega
    · exact Int.le_refl _
  refine ⟨fun e he => ?_, ?_, fun e he => ?_, fun e he r => ?_, ?_⟩
  · rcases List.mem_append.1 he with he | he
    · exact h.sub e he
    · rw [List.mem_singleton] at he; rw [he]; exact hx
  · rw [List.map_append, List.nodup_append]
    refine ⟨h.nodup, by simp, fun a ha b hb hab => ?_⟩
    obtain ⟨e, he, rfl⟩ := List.mem_map.1 ha
    simp only [List.map_cons, List.map_nil, List.mem_singleton] at hb
    rw [hb] at hab
    exact hxo (nodup_inj hg.nodup (h.sub e he) hx hab ▸ he)
  · rw [List.mem_append, h.done e he, List.mem_singleton, hs]
    constructor
    · rintro (h1 | rfl)
      · have := hmono e.dot.1
        rw [hs] at this
        omega
      · simp
    · split
      · rename_i h1
        intro h2
        by_cases h3 : e.dot.2 = x.dot.2
        · exact .inr (nodup_inj hg.nodup he hx (Prod.ext h1 h3))
        · left; rw [h1]; omega
      · exact fun h2 => .inl h2
  · rcases List.mem_append.1 he with he | he
    · exact Int.le_trans (h.past e he r) (hmono r)
    · rw [List.mem_singleton] at he; rw [he]; exact Int.le_trans (hc2 r) (hmono r)
  · refine List.pairwise_append.2 ⟨h.order, by simp, fun a ha b hb => ?_⟩
    rw [List.mem_singleton] at hb
    subst hb
    rw [aheadB, hxf.1, Bool.true_and, decide_eq_false_iff_not]
    have := h.past a ha b.dot.1
    omega
theorem turnTo_run {l : List Ev} (hg : Good l) {turns : List Int} (ht : ∀ x ∈ turns, 0 ≤ x ∧ x < 256) : ∀ i, i ≤ l.length → Run l (turnTo l turns i).1 (turnTo l turns i).2 ∧ (turnTo l turns i).1.length = i
  | 0, _ => ⟨Run.start hg, rfl⟩
  | i + 1, hi => by
    obtain ⟨h1, h2⟩ := turnTo_run hg ht i (by omega)
    obtain ⟨e, he, heo⟩ := h1.more hg (by omega)
    have hr := sumTo_range e.past 5 (Nat.le_refl _)
    obtain ⟨x, hx, hxc⟩ := h1.can hg ((sumTo e.past 5).toNat + 1) e he heo (by omega)
    have hne : 0 < (cans l (turnTo l turns i).2).length := List.length_pos_of_mem (List.mem_filter.2 ⟨hx, hxc⟩)
    have hp := pick_lt ht i hne
    rw [turnTo_go hp]
    have hm := List.mem_filter.1 (List.getElem_mem hp)
    exact ⟨h1.step hg hm.1 hm.2, by simp [h2]⟩
/-- The order holds all events, each once, and nothing stands behind what it is ahead of. -/
theorem turned_spec {l : List Ev} (hg : Good l) {turns : List Int} (ht : ∀ x ∈ turns, 0 ≤ x ∧ x < 256) :
    (turned l turns).length = l.length ∧ (∀ e, e ∈ turned l turns ↔ e ∈ l) ∧ ((turned l turns).map Ev.dot).Nodup ∧ (turned l turns).Pairwise fun a b => aheadB b a = false := by
  obtain ⟨h1, h2⟩ := turnTo_run hg ht l.length (Nat.le_refl _)
  refine ⟨h2, fun e => ⟨h1.sub e, fun he => ?_⟩, h1.nodup, h1.order⟩
  apply Classical.byContradiction
  intro ho
  have := pigeon ((turnTo l turns l.length).1.map Ev.dot ++ [e.dot]) (l.map Ev.dot) (by
    rw [List.nodup_append]
    refine ⟨h1.nodup, by simp, fun a ha b hb hab => ?_⟩
    obtain ⟨x, hx, rfl⟩ := List.mem_map.1 ha
    rw [List.mem_singleton] at hb
    rw [hb] at hab
    exact ho (nodup_inj hg.nodup (h1.sub x hx) he hab ▸ hx)) fun y hy => by
    rcases List.mem_append.1 hy with hy | hy
    · obtain ⟨x, hx, rfl⟩ := List.mem_map.1 hy
      exact List.mem_map_of_mem (h1.sub x hx)
    · rw [List.mem_singleton] at hy; rw [hy]; exact List.mem_map_of_mem he
  simp only [List.length_append, List.length_map, List.length_singleton, h2] at this
  omega
end Go.AM
namespace Go.AM
open Go.Proofs
def mayA (s : List Entry) (k : ByteArray) (d : Dot) (c : List Int) : Bool := setOkA s && keyOk k && mayD d && clockOk c
def mayB (s : List Entry) (k : ByteArray) (c : List Int) : Bool := setOkA s && keyOk k && clockOk c

end Go.AM
namespace Go.AM
open Go.Proofs
theorem Within.get {n : Nat} {s : List Entry} (h : Within n s) (k : ByteArray) : (getE s k).live.length ≤ n ∧ (getE s k).dead.length ≤ n := by
  rcases getE_mem s k with hm | he
  · exact h.2 _ hm
  · rw [he]; simp [emptyE]
theorem Within.putA {n : Nat} {s : List Entry} (h : Within n s) (hs : SortE s) {e : Entry} (he : e.live.length ≤ n + 1 ∧ e.dead.length ≤ n + 1) : Within (n + 1) (putE s e) :=
  ⟨by have := putA_len s hs e; have := h.1; omega, fun x hx => by
    rcases putA_mem hs hx with hx | hx
    · have := h.2 x hx; omega
    · rw [hx]; exact he⟩
theorem Within.addA {n : Nat} {s : List Entry} (h : Within n s) (hs : SortE s) (k : ByteArray) (d : Dot) (c : List Int) : Within (n + 1) (addA s k d c) := by
  have h2 := h.get k
  have h3 := leftD_len (getE s k).live c
  have h4 : (putD (leftD (getE s k).live c) d).length ≤ (leftD (getE s k).live c).length + 1 := putD_length _ _
  exact h.putA hs ⟨by dsimp only; omega, by simp⟩
theorem Within.dropA {n : Nat} {s : List Entry} (h : Within n s) (hs : SortE s) (k : ByteArray) (c : List Int) : Within (n + 1) (dropA s k c) := by
  have h2 := h.get k
  have h3 := leftD_len (getE s k).live c
  exact h.putA hs ⟨by dsimp only; omega, by simp⟩
theorem setA_sort {s : List Entry} (h : setOkA s = true) : SortE s := setOk_sort ((setOkA_iff s).1 h).1
end Go.AM
namespace Go.AM
/-- What lives of a key. -/
def gl (s : List Entry) (k : ByteArray) : List Dot := (getE s k).live
theorem eqK_self (k : ByteArray) : eqK k k = true := by simp [eqK]
theorem gl_put {s : List Entry} (hs : SortE s) (k0 : ByteArray) (l : List Dot) (k : ByteArray) : gl (putE s ⟨k0, l, []⟩) k = if eqK k0 k then l else gl s k := by
  unfold gl
  split
  · rename_i h
    rw [← key_ext h, putA_get hs]
  · rename_i h
    rw [putA_other hs ⟨k0, l, []⟩ k (by simpa using h)]
theorem putA_sort {s : List Entry} (hs : SortE s) (e : Entry) : SortE (putE s e) := by
  cases hn : noneE e with
  | false => rw [← putS_eq hs hn]; exact putS_sort hs e
  | true => rw [putE_none _ _ hn]; exact List.Pairwise.filter _ hs
/-- Sets as they may be here: in order, each entry with dots that live and none that is dead. -/
def Neat (s : List Entry) : Prop := SortE s ∧ ∀ e ∈ s, e.live ≠ [] ∧ e.dead = []
theorem neat_put {s : List Entry} (h : Neat s) (k : ByteArray) (l : List Dot) : Neat (putE s ⟨k, l, []⟩) := by
  refine ⟨putA_sort h.1 _, fun e he => ?_⟩
  rw [putA_form h.1] at he
  rcases List.mem_append.1 he with he | he
  · exact h.2 e (List.mem_of_mem_take he)
  · rcases List.mem_append.1 he with he | he
    · split at he
      · cases he
      · rename_i hn
        rw [List.mem_singleton] at he
        rw [he]
        exact ⟨fun h0 => hn (by simp only at h0; simp [noneE, h0]), rfl⟩
    · exact h.2 e (List.mem_of_mem_drop he)
theorem pairwise_ext {α : Type} {R : α → α → Prop} (irr : ∀ a, ¬ R a a) (asy : ∀ a b, R a b → ¬ R b a) : ∀ {l m : List α}, l.Pairwise R → m.Pairwise R → (∀ x, x ∈ l ↔ x ∈ m) → l = m
  | [], [], _, _, _ => rfl
  | [], b :: m, _, _, h => by have := (h b).2 List.mem_cons_self; cases this
  | a :: l, [], _, _, h => by have := (h a).1 List.mem_cons_self; cases this
  | a :: l, b :: m, h1, h2, h => by
    obtain ⟨p1, q1⟩ := List.pairwise_cons.1 h1
    obtain ⟨p2, q2⟩ := List.pairwise_cons.1 h2
    have hab : a = b := by
      rcases List.mem_cons.1 ((h a).1 List.mem_cons_self) with h3 | h3
      · exact h3
      · rcases List.mem_cons.1 ((h b).2 List.mem_cons_self) with h4 | h4
        · exact h4.symm
        · exact absurd (p1 b h4) (asy _ _ (p2 a h3))
    subst hab
    rw [pairwise_ext irr asy q1 q2 fun x => ?_]
    constructor
    · intro hx
      rcases List.mem_cons.1 ((h x).1 (List.mem_cons_of_mem _ hx)) with h3 | h3
      · subst h3; exact absurd (p1 x hx) (irr x)
      · exact h3
    · intro hx
      rcases List.mem_cons.1 ((h x).2 (List.mem_cons_of_mem _ hx)) with h3 | h3
      · subst h3; exact absurd (p2 x hx) (irr x)
      · exact h3
theorem getE_self {s : List Entry} (hs : SortE s) {e : Entry} (he : e ∈ s) : getE s e.key = e := by
  rcases getE_cases s e.key with ⟨x, hx, ex, g⟩ | ⟨hn, _⟩
  · rw [g]; exact ent_uniq hs hx he ex (eqK_self _)
  · have := hn e he
    rw [eqK_self] at this; cases this
theorem neat_sub {s w : List Entry} (hs : Neat s) (hw : Neat w) (h : ∀ k, gl s k = gl w k) {e : Entry} (he : e ∈ s) : e ∈ w := by
  have h1 := getE_self hs.1 he
  have h2 := h e.key
  unfold gl at h2
  rw [h1] at h2
  rcases getE_cases w e.key with ⟨y, hy, ey, g⟩ | ⟨_, g⟩
  · rw [g] at h2
    have hk := key_ext ey
    have hd1 := (hs.2 e he).2
    have hd2 := (hw.2 y hy).2
    obtain ⟨ke, le, de⟩ := e
    obtain ⟨ky, ly, dy⟩ := y
    simp only at h2 hk hd1 hd2
    subst h2 hk hd1 hd2
    exact hy
  · rw [g] at h2
    exact absurd h2 (hs.2 e he).1
theorem neat_ext {s w : List Entry} (hs : Neat s) (hw : Neat w) (h : ∀ k, gl s k = gl w k) : s = w :=
  pairwise_ext (fun a => KL.irrefl a.key) (fun _ _ h1 h2 => KL.irrefl _ (h1.trans h2)) hs.1 hw.1 fun _ => ⟨neat_sub hs hw h, neat_sub hw hs fun k => (h k).symm⟩

/-- One effect of an event is done. -/
def actA (thing : Int) (e : Ev) (s : List Entry) (x : Eff) : List Entry :=
  if decide (x.thing = thing) && decide (x.kind = 1) then addA s x.key e.dot e.past
  else if decide (x.thing = thing) && decide (x.kind = 2) && !doesB e 1 thing x.key then dropA s x.key e.past
  else s
def actsA (thing : Int) (e : Ev) (s : List Entry) (k : Nat) : List Entry := (e.effs.take k).foldl (actA thing e) s
def foldTo (thing : Int) (o : List Ev) (i : Nat) : List Entry := (o.take i).foldl (fun s e => e.effs.foldl (actA thing e) s) []
theorem actsA_succ (thing : Int) (e : Ev) (s : List Entry) (k : Nat) (h : k < e.effs.length) : actsA thing e s (k + 1) = actA thing e (actsA thing e s k) e.effs[k] := by
  unfold actsA
  rw [List.take_succ_eq_append_getElem h, List.foldl_append]
  rfl
theorem foldTo_succ (thing : Int) (o : List Ev) (i : Nat) (h : i < o.length) : foldTo thing o (i + 1) = actsA thing o[i] (foldTo thing o i) o[i].effs.length := by
  unfold foldTo actsA
  rw [List.take_succ_eq_append_getElem h, List.foldl_append, List.take_length]
  rfl
/-- A set under way: it may be, and is not great. -/
def Way (n : Nat) (s : List Entry) : Prop := setOkA s = true ∧ Within n s
theorem Way.act {n : Nat} {s : List Entry} (h : Way n s) (hn : n < 3999) {e : Ev} (he : evOk e = true) {x : Eff} (hx : x ∈ e.effs) (thing : Int) : Way (n + 1) (actA thing e s x) := by
  obtain ⟨f1, f2, _, f4, _⟩ := evOk_facts he
  have hk := effOk_key (f4 x hx)
  have hs := setA_sort h.1
  have hl := h.2.1
  unfold actA
  split
  · exact ⟨addA_ok h.1 (by omega) hk f1 _, h.2.addA hs _ _ _⟩
  · split
    · exact ⟨dropA_ok h.1 (by omega) hk _, h.2.dropA hs _ _⟩
    · exact ⟨h.1, by have := h.2.1; omega, fun y hy => by have := h.2.2 y hy; omega⟩
theorem Way.acts {n : Nat} {s : List Entry} (h : Way n s) {e : Ev} (he : evOk e = true) (thing : Int) : ∀ k, k ≤ e.effs.length → n + k < 3999 → Way (n + k) (actsA thing e s k)
  | 0, _, _ => h
  | k + 1, hk, hn => by
    rw [actsA_succ thing e s k (by omega)]
    exact (Way.acts h he thing k (by omega) (by omega)).act (by omega) he (List.getElem_mem (by omega)) thing
theorem Way.le {n m : Nat} {s : List Entry} (h : Way n s) (hnm : n ≤ m) : Way m s := ⟨h.1, by have := h.2.1; omega, fun y hy => by have := h.2.2 y hy; omega⟩
theorem Way.fold {o : List Ev} (ho : ∀ e ∈ o, evOk e = true) (thing : Int) : ∀ i, i ≤ o.length → 16 * i < 3900 → Way (16 * i) (foldTo thing o i)
  | 0, _, _ => ⟨rfl, by simp [foldTo], by simp [foldTo]⟩
  | i + 1, hi, hn => by
    have he := ho _ (List.getElem_mem (show i < o.length by omega))
    have h16 := (evOk_facts he).2.2.2.2
    rw [foldTo_succ thing o i (by omega)]
    exact ((Way.fold ho thing i (by omega) (by omega)).acts he thing _ (Nat.le_refl _) (by omega)).le (by omega)

/-- Does an effect touch a key of a thing? -/
def touchX (e : Ev) (thing : Int) (k : ByteArray) (x : Eff) : Bool := hitE 1 thing k x || (hitE 2 thing k x && !doesB e 1 thing k)
def opE (e : Ev) (thing : Int) (k : ByteArray) (l : List Dot) : List Dot := if doesB e 1 thing k then putD (leftD l e.past) e.dot else leftD l e.past
theorem mem_left (l : List Dot) (c : List Int) (d : Dot) : d ∈ leftD l c ↔ d ∈ l ∧ ¬ d.2 ≤ getC c d.1 := by
  simp [leftD, List.mem_filter]
end Go.AM
namespace Go.AM
theorem ahead_self {e : Ev} (he : evOk e = true) : aheadB e e = false := by
  have f := evOk_facts he
  rw [aheadB, f.1, Bool.true_and, decide_eq_false_iff_not]
  omega
theorem ahead_not {a e : Ev} (ha : evOk a = true) : aheadB a e = false ↔ ¬ a.dot.2 ≤ getC e.past a.dot.1 := by
  rw [aheadB, (evOk_facts ha).1, Bool.true_and, decide_eq_false_iff_not]
/-- The set that the document tells, effect by effect. -/
def tellX (F : ByteArray → List Dot) (w : List Entry) (x : Eff) : List Entry := putE w ⟨x.key, F x.key, []⟩
def tells (F : ByteArray → List Dot) (w : List Entry) (e : Ev) (m : Nat) : List Entry := (e.effs.take m).foldl (tellX F) w
def tellTo (F : ByteArray → List Dot) (l : List Ev) (i : Nat) : List Entry := (l.take i).foldl (fun w e => e.effs.foldl (tellX F) w) []
theorem tells_succ (F : ByteArray → List Dot) (w : List Entry) (e : Ev) (m : Nat) (h : m < e.effs.length) : tells F w e (m + 1) = putE (tells F w e m) ⟨e.effs[m].key, F e.effs[m].key, []⟩ := by
  unfold tells
  rw [List.take_succ_eq_append_getElem h, List.foldl_append]
  rfl
theorem tellTo_succ (F : ByteArray → List Dot) (l : List Ev) (i : Nat) (h : i < l.length) : tellTo F l (i + 1) = tells F (tellTo F l i) l[i] l[i].effs.length := by
  unfold tellTo tells
  rw [List.take_succ_eq_append_getElem h, List.foldl_append, List.take_length]
  rfl
/-- A set that tells of some keys. -/
def Told (F : ByteArray → List Dot) (n : Nat) (w : List Entry) (Q : ByteArray → Prop) : Prop := Neat w ∧ Within n w ∧ ∀ k, (Q k → gl w k = F k) ∧ (¬ Q k → gl w k = [])
theorem Told.put {F : ByteArray → List Dot} {n : Nat} {w : List Entry} {Q : ByteArray → Prop} (h : Told F n w Q) (k0 : ByteArray) (hF : (F k0).length ≤ n + 1) : Told F (n + 1) (putE w ⟨k0, F k0, []⟩) (fun k => Q k ∨ k0 = k) := by
  refine ⟨neat_put h.1 _ _, h.2.1.putA h.1.1 ⟨hF, by simp⟩, fun k => ?_⟩
  rw [gl_put h.1.1]
  by_cases he : k0 = k
  · subst he
    rw [eqK_self]
    simp
  · have : eqK k0 k = false := by
      rw [Bool.eq_false_iff]; exact fun h => he (key_ext h)
    rw [this]
    simp only [Bool.false_eq_true, if_false, he, or_false]
    exact h.2.2 k
theorem Told.tells {F : ByteArray → List Dot} (hF : ∀ k, (F k).length ≤ 14) {n : Nat} (hn : 14 ≤ n) {w : List Entry} {Q : ByteArray → Prop} (h : Told F n w Q) (e : Ev) : ∀ m, m ≤ e.effs.length → Told F (n + m) (tells F w e m) (fun k => Q k ∨ ∃ x ∈ e.effs.take m, x.key = k)
  | 0, _ => by simpa [Go.AM.tells] using h
  | m + 1, hm => by
    have ih := Told.tells hF hn h e m (by omega)
    rw [tells_succ F w e m (by omega)]
    have := ih.put e.effs[m].key (by have := hF e.effs[m].key; omega)
    refine ⟨this.1, this.2.1, fun k => ?_⟩
    have e2 : (Q k ∨ ∃ x ∈ e.effs.take (m + 1), x.key = k) ↔ ((Q k ∨ ∃ x ∈ e.effs.take m, x.key = k) ∨ e.effs[m].key = k) := by
      rw [List.take_succ_eq_append_getElem (by omega), or_assoc]
      refine or_congr Iff.rfl ?_
      constructor
      · rintro ⟨x, hx, h1⟩
        rcases List.mem_append.1 hx with hx | hx
        · exact .inl ⟨x, hx, h1⟩
        · rw [List.mem_singleton] at hx; subst hx; exact .inr h1
      · rintro (⟨x, hx, h1⟩ | h1)
        · exact ⟨x, List.mem_append_left _ hx, h1⟩
        · exact ⟨_, List.mem_append_right _ (List.mem_singleton.2 rfl), h1⟩
    have h3 := this.2.2 k
    refine ⟨fun hq => h3.1 (e2.1 hq), fun hq => h3.2 fun h4 => hq (e2.2 h4)⟩
theorem Told.le {F : ByteArray → List Dot} {n m : Nat} {w : List Entry} {Q : ByteArray → Prop} (h : Told F n w Q) (hnm : n ≤ m) : Told F m w Q := ⟨h.1, ⟨by have := h.2.1.1; omega, fun y hy => by have := h.2.1.2 y hy; omega⟩, h.2.2⟩
theorem tellTo_told {F : ByteArray → List Dot} (hF : ∀ k, (F k).length ≤ 14) {l : List Ev} (hl : ∀ e ∈ l, e.effs.length ≤ 16) : ∀ i, i ≤ l.length → Told F (14 + 16 * i) (tellTo F l i) (fun k => ∃ e ∈ l.take i, ∃ x ∈ e.effs, x.key = k)
  | 0, _ => ⟨⟨List.Pairwise.nil, by simp [tellTo]⟩, ⟨by simp [tellTo], by simp [tellTo]⟩, fun k => ⟨by simp, fun _ => rfl⟩⟩
  | i + 1, hi => by
    have hlt : i < l.length := by omega
    have ih := tellTo_told hF hl i (by omega)
    have h16 := hl _ (List.getElem_mem hlt)
    rw [tellTo_succ F l i hlt]
    have := ih.tells hF (by omega) l[i] _ (Nat.le_refl _)
    refine ⟨this.1, (this.le (m := 14 + 16 * (i + 1)) (by omega)).2.1, fun k => ?_⟩
    have e2 : (∃ e ∈ l.take (i + 1), ∃ x ∈ e.effs, x.key = k) ↔ ((∃ e ∈ l.take i, ∃ x ∈ e.effs, x.key = k) ∨ ∃ x ∈ l[i].effs.take l[i].effs.length, x.key = k) := by
      rw [List.take_succ_eq_append_getElem hlt, List.take_length]
      constructor
      · rintro ⟨e, he, h1⟩
        rcases List.mem_append.1 he with he | he
        · exact .inl ⟨e, he, h1⟩
        · rw [List.mem_singleton] at he; subst he; exact .inr h1
      · rintro (⟨e, he, h1⟩ | h1)
        · exact ⟨e, List.mem_append_left _ he, h1⟩
        · exact ⟨_, List.mem_append_right _ (List.mem_singleton.2 rfl), h1⟩
    have h3 := this.2.2 k
    exact ⟨fun hq => h3.1 (e2.1 hq), fun hq => h3.2 fun h4 => hq (e2.2 h4)⟩
end Go.AM
namespace Go.AM
/-- What lives and what is dead of a key. -/
abbrev LD : Type := List Dot × List Dot
def ge (s : List Entry) (k : ByteArray) : LD := ((getE s k).live, (getE s k).dead)
theorem ge_putS {s : List Entry} (hs : SortE s) (e : Entry) (k : ByteArray) : ge (putS s e) k = if eqK e.key k then (e.live, e.dead) else ge s k := by
  unfold ge
  split
  · rename_i h
    rw [← key_ext h, getE_put hs]
  · rename_i h
    rw [getE_other hs e k (by simpa using h)]
def opAdd (e : Ev) (q : LD) : LD := if (leftD q.2 e.past).length = 0 then (putD (leftD q.1 e.past) e.dot, q.2) else q
def opDrop (e : Ev) (q : LD) : LD := ([], putD (leftD q.2 e.past) e.dot)
theorem ge_add {s : List Entry} (h : setOk s = true) (e : Ev) (k0 k : ByteArray) : ge (addS s k0 e.dot e.past) k = if eqK k0 k then opAdd e (ge s k) else ge s k := by
  have hs := setOk_sort h
  have hr := get_rows h k0
  unfold addS
  rw [atE_get hs]
  split
  · rename_i h0
    split
    · rename_i hk
      have : k0 = k := key_ext hk
      subst this
      unfold opAdd ge
      rw [if_neg (by simp only; omega)]
    · rfl
  · rename_i h0
    rw [ge_putS hs]
    split
    · rename_i hk
      have : k0 = k := key_ext hk
      subst this
      unfold opAdd ge
      rw [if_pos (by simp only; omega), ordP_snoc (sorted_left ((rowsB_iff _).1 hr.1).2 _)]
    · rfl
theorem ge_drop {s : List Entry} (h : setOk s = true) (e : Ev) (k0 k : ByteArray) : ge (dropS s k0 e.dot e.past) k = if eqK k0 k then opDrop e (ge s k) else ge s k := by
  have hs := setOk_sort h
  have hr := get_rows h k0
  unfold dropS
  rw [atE_get hs, ge_putS hs]
  split
  · rename_i hk
    have : k0 = k := key_ext hk
    subst this
    unfold opDrop ge
    rw [ordP_snoc (sorted_left ((rowsB_iff _).1 hr.2).2 _)]
  · rfl
theorem addS_ok {s : List Entry} (h : setOk s = true) (hl : s.length < 4000) {k : ByteArray} (hk : keyOk k = true) {d : Dot} (hd : mayD d = true) (c : List Int) : setOk (addS s k d c) = true := by
  have hs := setOk_sort h
  have hr := get_rows h k
  unfold addS
  rw [atE_get hs]
  split
  · exact h
  · refine put_ok h hl ?_
    have hn := ord_ne (getE s k).live c d
    simp only [oneOk, Bool.and_eq_true]
    refine ⟨⟨⟨hk, ?_⟩, rows_ord hr.1 c hd⟩, hr.2⟩
    simp only [Bool.not_eq_true', decide_eq_false_iff_not]
    omega
theorem lessen_ok {c : List Int} {e : Entry} (h : oneOk e = true) (hn : (!(decide ((lessen c e).live = []) && decide ((lessen c e).dead = []))) = true) : oneOk (lessen c e) = true := by
  simp only [oneOk, Bool.and_eq_true] at h ⊢
  refine ⟨⟨⟨h.1.1.1, ?_⟩, h.1.2⟩, rows_left h.2 c⟩
  simp only [Bool.not_eq_true', Bool.and_eq_false_iff, decide_eq_false_iff_not] at hn ⊢
  intro h0
  rcases hn with hn | hn
  · exact hn (List.length_eq_zero_iff.1 (by omega))
  · exact hn (List.length_eq_zero_iff.1 (by omega))
theorem sort_map {s : List Entry} (hs : SortE s) (f : Entry → Entry) (hf : ∀ e, (f e).key = e.key) (p : Entry → Bool) : SortE ((s.map f).filter p) := by
  refine List.Pairwise.filter _ ?_
  rw [List.pairwise_map]
  exact hs.imp fun h => by rw [hf, hf]; exact h
theorem clean_ok {s : List Entry} (h : setOk s = true) {c : List Int} (hc : clockOk c = true) : setOk (cleanE s c) = true := by
  obtain ⟨h1, h2, h3⟩ := (setOk_iff s).1 h
  have e : cleanE s c = (s.map (lessen c)).filter fun e => !(decide (e.live = []) && decide (e.dead = [])) := by unfold cleanE; rw [h, hc]; rfl
  rw [e]
  refine (setOk_iff _).2 ⟨?_, sort_map h2 (lessen c) (fun _ => rfl) _, fun x hx => ?_⟩
  · refine Nat.le_trans (List.length_filter_le _ _) ?_
    rw [List.length_map]; exact h1
  · obtain ⟨hm, hp⟩ := List.mem_filter.1 hx
    obtain ⟨y, hy, rfl⟩ := List.mem_map.1 hm
    exact lessen_ok (h3 y hy) hp
/-- What a map that leaves keys as they are, and a filter, leave of a key. -/
theorem get_map {s : List Entry} (hs : SortE s) (f : Entry → Entry) (hf : ∀ e, (f e).key = e.key) (p : Entry → Bool) (k : ByteArray) (h0 : f (emptyE k) = emptyE k) :
    getE ((s.map f).filter p) k = if p (f (getE s k)) then f (getE s k) else emptyE k := by
  have hm : ∀ y, y ∈ (s.map f).filter p ↔ ∃ x ∈ s, f x = y ∧ p y = true := fun y => by
    rw [List.mem_filter, List.mem_map]
    constructor
    · rintro ⟨⟨x, hx, rfl⟩, h2⟩; exact ⟨x, hx, rfl, h2⟩
    · rintro ⟨x, hx, rfl, h2⟩; exact ⟨⟨x, hx, rfl⟩, h2⟩
  rcases getE_cases s k with ⟨x, hx, ex, gx⟩ | ⟨hn, gx⟩
  · rw [gx]
    rcases getE_cases ((s.map f).filter p) k with ⟨y, hy, ey, gy⟩ | ⟨hn2, gy⟩
    · obtain ⟨z, hz, rfl, hpz⟩ := (hm y).1 hy
      rw [hf] at ey
      have := ent_uniq hs hx hz ex ey
      subst this
      rw [gy, hpz]; rfl
    · rw [gy]
      cases hpx : p (f x) with
      | false => rfl
      | true =>
        have := hn2 (f x) ((hm _).2 ⟨x, hx, rfl, hpx⟩)
        rw [hf, ex] at this; cases this
  · rw [gx, h0]
    rcases getE_cases ((s.map f).filter p) k with ⟨y, hy, ey, gy⟩ | ⟨_, gy⟩
    · obtain ⟨z, hz, rfl, _⟩ := (hm y).1 hy
      rw [hf, hn z hz] at ey; cases ey
    · rw [gy]; split <;> rfl
theorem ge_clean {s : List Entry} (h : setOk s = true) {c : List Int} (hc : clockOk c = true) (k : ByteArray) : ge (cleanE s c) k = ((ge s k).1, leftD (ge s k).2 c) := by
  have e : cleanE s c = (s.map (lessen c)).filter fun e => !(decide (e.live = []) && decide (e.dead = [])) := by unfold cleanE; rw [h, hc]; rfl
  rw [e]
  unfold ge
  rw [get_map (setOk_sort h) (lessen c) (fun _ => rfl) _ k rfl]
  split
  · rfl
  · rename_i hn
    have hn1 : (getE s k).live = [] ∧ leftD (getE s k).dead c = [] := by
      simp [lessen] at hn
      exact ⟨of_decide_eq_true hn.1, of_decide_eq_true hn.2⟩
    simp only
    rw [hn1.1, hn1.2]
    rfl
theorem gl_plain {s : List Entry} (h : setOk s = true) (k : ByteArray) : gl (plainE s) k = (ge s k).1 := by
  rw [plainE, if_pos h]
  unfold gl ge
  rw [get_map (setOk_sort h) bare (fun _ => rfl) _ k rfl]
  split
  · rfl
  · rename_i hn
    have hn1 : (getE s k).live = [] := by simpa [bare] using hn
    rw [hn1]
    rfl
theorem neat_plain {s : List Entry} (h : setOk s = true) : Neat (plainE s) := by
  rw [plainE, if_pos h]
  refine ⟨sort_map (setOk_sort h) bare (fun _ => rfl) _, fun e he => ?_⟩
  obtain ⟨hm, hp⟩ := List.mem_filter.1 he
  obtain ⟨y, _, rfl⟩ := List.mem_map.1 hm
  refine ⟨fun h0 => ?_, rfl⟩
  rw [h0] at hp
  simp at hp

def act9 (thing : Int) (e : Ev) (s : List Entry) (x : Eff) : List Entry :=
  if decide (x.thing = thing) && decide (x.kind = 2) then dropS s x.key e.dot e.past
  else if decide (x.thing = thing) && decide (x.kind = 1) && !doesB e 2 thing x.key then addS s x.key e.dot e.past
  else s
def acts9 (thing : Int) (e : Ev) (s : List Entry) (m : Nat) : List Entry := (e.effs.take m).foldl (act9 thing e) s
theorem acts9_succ (thing : Int) (e : Ev) (s : List Entry) (k : Nat) (h : k < e.effs.length) : acts9 thing e s (k + 1) = act9 thing e (acts9 thing e s k) e.effs[k] := by
  unfold acts9
  rw [List.take_succ_eq_append_getElem h, List.foldl_append]
  rfl
/-- What all of some events behind an event know. -/
def knownTo (o : List Ev) (i : Nat) : Nat → List Int
  | 0 => match o[i + 1]? with
    | some e => e.past
    | none => []
  | n + 1 => match o[i + 2 + n]? with
    | some e => meetC (knownTo o i n) e.past
    | none => knownTo o i n
def tidy9 (clean : Bool) (o : List Ev) (i : Nat) (s : List Entry) : List Entry := if clean && decide (i + 1 < o.length) then cleanE s (knownTo o i (o.length - (i + 2))) else s
def fold9 (thing : Int) (clean : Bool) (o : List Ev) : Nat → List Entry
  | 0 => []
  | i + 1 => match o[i]? with
    | some e => tidy9 clean o i (acts9 thing e (fold9 thing clean o i) e.effs.length)
    | none => fold9 thing clean o i
theorem fold9_succ (thing : Int) (clean : Bool) (o : List Ev) (i : Nat) (h : i < o.length) : fold9 thing clean o (i + 1) = tidy9 clean o i (acts9 thing o[i] (fold9 thing clean o i) o[i].effs.length) := by
  simp [fold9, h]
theorem knownTo_zero (o : List Ev) (i : Nat) (h : i + 1 < o.length) : knownTo o i 0 = o[i + 1].past := by simp [knownTo, h]
theorem knownTo_succ (o : List Ev) (i n : Nat) (h : i + 2 + n < o.length) : knownTo o i (n + 1) = meetC (knownTo o i n) o[i + 2 + n].past := by simp [knownTo, h]
theorem meet_list (a b : List Int) : ((List.range 5).map fun k : Nat => minC a b ((k : Int) + 1)).length = 5 ∧ ∀ n ∈ ((List.range 5).map fun k : Nat => minC a b ((k : Int) + 1)), okN n := by
  refine ⟨by simp, fun n hn => ?_⟩
  obtain ⟨k, _, rfl⟩ := List.mem_map.1 hn
  have h1 := getC_range a ((k : Int) + 1)
  have h2 := getC_range b ((k : Int) + 1)
  unfold minC okN
  split <;> omega
theorem ofL_five {f : List Int} (hf : f.length = 5) (hok : ∀ n ∈ f, okN n) : ofL f = f := by
  have h : clockOk f = true := (clockOk_iff f).2 ⟨by omega, hok⟩
  unfold ofL
  rw [if_pos h, hf]
  simp
theorem meet_ok (a b : List Int) : clockOk (meetC a b) = true := by
  obtain ⟨h1, h2⟩ := meet_list a b
  unfold meetC
  rw [ofL_five h1 h2]
  exact (ofL_plainL h1 h2).1
theorem meet_get (a b : List Int) (r : Int) : getC (meetC a b) r ≤ getC a r ∧ getC (meetC a b) r ≤ getC b r := by
  obtain ⟨h1, h2⟩ := meet_list a b
  unfold meetC
  rw [ofL_five h1 h2, getC_plainL h1 h2]
  split
  · rename_i h
    have hk : (r - 1).toNat < 5 := by omega
    rw [List.getD_eq_getElem?_getD, List.getElem?_map, List.getElem?_range hk]
    simp only [Option.map_some, Option.getD_some]
    rw [show (((r - 1).toNat : Nat) : Int) + 1 = r by omega]
    unfold minC
    split <;> omega
  · exact ⟨(getC_range a r).1, (getC_range b r).1⟩
theorem known_spec {o : List Ev} (ho : ∀ e ∈ o, evOk e = true) (i : Nat) (hi : i + 1 < o.length) : ∀ n, i + 2 + n ≤ o.length → clockOk (knownTo o i n) = true ∧ ∀ j (hj : j < o.length), i + 1 ≤ j → j < i + 2 + n → ∀ r, getC (knownTo o i n) r ≤ getC o[j].past r
  | 0, _ => by
    rw [knownTo_zero o i hi]
    refine ⟨(evOk_facts (ho _ (List.getElem_mem hi))).2.1, fun j hj h1 h2 r => ?_⟩
    obtain rfl : j = i + 1 := by omega
    exact Int.le_refl _
  | n + 1, hn => by
    obtain ⟨h1, h2⟩ := known_spec ho i hi n (by omega)
    rw [knownTo_succ o i n (by omega)]
    refine ⟨meet_ok _ _, fun j hj h3 h4 r => ?_⟩
    obtain ⟨m1, m2⟩ := meet_get (knownTo o i n) o[i + 2 + n].past r
    by_cases hj2 : j = i + 2 + n
    · subst hj2; exact m2
    · exact Int.le_trans m1 (h2 j hj h3 (by omega) r)
theorem known_all {o : List Ev} (ho : ∀ e ∈ o, evOk e = true) (i : Nat) (hi : i + 1 < o.length) : clockOk (knownTo o i (o.length - (i + 2))) = true ∧ ∀ f ∈ o.drop (i + 1), ∀ r, getC (knownTo o i (o.length - (i + 2))) r ≤ getC f.past r := by
  obtain ⟨h1, h2⟩ := known_spec ho i hi (o.length - (i + 2)) (by omega)
  refine ⟨h1, fun f hf r => ?_⟩
  obtain ⟨j, hj, rfl⟩ := List.mem_drop_iff_getElem.1 hf
  exact h2 (i + 1 + j) (by omega) (by omega) (by omega) r
/-- A set under way. -/
def Way9 (n : Nat) (s : List Entry) : Prop := setOk s = true ∧ Within n s
theorem Way9.le {n m : Nat} {s : List Entry} (h : Way9 n s) (hnm : n ≤ m) : Way9 m s := ⟨h.1, by have := h.2.1; omega, fun y hy => by have := h.2.2 y hy; omega⟩
theorem Way9.act {n : Nat} {s : List Entry} (h : Way9 n s) (hn : n < 3999) {e : Ev} (he : evOk e = true) {x : Eff} (hx : x ∈ e.effs) (thing : Int) : Way9 (n + 1) (act9 thing e s x) := by
  obtain ⟨f1, f2, _, f4, _⟩ := evOk_facts he
  have hk := effOk_key (f4 x hx)
  have hl := h.2.1
  unfold act9
  split
  · exact ⟨(drop_ok h.1 (by omega) hk f1 _).1, h.2.drop _ _ _⟩
  · split
    · exact ⟨addS_ok h.1 (by omega) hk f1 _, h.2.add _ _ _⟩
    · exact h.le (by omega)
theorem Way9.acts {n : Nat} {s : List Entry} (h : Way9 n s) {e : Ev} (he : evOk e = true) (thing : Int) : ∀ k, k ≤ e.effs.length → n + k < 3999 → Way9 (n + k) (acts9 thing e s k)
  | 0, _, _ => h
  | k + 1, hk, hn => by
    rw [acts9_succ thing e s k (by omega)]
    exact (Way9.acts h he thing k (by omega) (by omega)).act (by omega) he (List.getElem_mem (by omega)) thing
theorem Within.clean {n : Nat} {s : List Entry} (h : Within n s) (c : List Int) : Within n (cleanE s c) := by
  unfold cleanE
  split
  · refine ⟨?_, fun e he => ?_⟩
    · refine Nat.le_trans (List.length_filter_le _ _) ?_
      rw [List.length_map]; exact h.1
    · obtain ⟨x, hx, rfl⟩ := List.mem_map.1 (List.mem_filter.1 he).1
      have := h.2 x hx
      have h3 := leftD_len x.dead c
      exact ⟨this.1, by show (leftD x.dead c).length ≤ _; omega⟩
  · exact ⟨by simp, by simp⟩
theorem Way9.fold {o : List Ev} (ho : ∀ e ∈ o, evOk e = true) (thing : Int) (clean : Bool) : ∀ i, i ≤ o.length → 16 * i < 3900 → Way9 (16 * i) (fold9 thing clean o i)
  | 0, _, _ => ⟨rfl, by simp [fold9], by simp [fold9]⟩
  | i + 1, hi, hn => by
    have he := ho _ (List.getElem_mem (show i < o.length by omega))
    have h16 := (evOk_facts he).2.2.2.2
    rw [fold9_succ thing clean o i (by omega)]
    have h := ((Way9.fold ho thing clean i (by omega) (by omega)).acts he thing _ (Nat.le_refl _) (by omega)).le (m := 16 * (i + 1)) (by omega)
    unfold tidy9
    split
    · rename_i hc
      simp only [Bool.and_eq_true, decide_eq_true_eq] at hc
      exact ⟨clean_ok h.1 (known_all ho i hc.2).1, h.2.clean _⟩
    · exact h
def touch9 (e : Ev) (thing : Int) (k : ByteArray) (x : Eff) : Bool := hitE 2 thing k x || (hitE 1 thing k x && !doesB e 2 thing k)
def op9 (e : Ev) (thing : Int) (k : ByteArray) (q : LD) : LD := if doesB e 2 thing k then opDrop e q else opAdd e q
theorem act9_get {s : List Entry} (hs : setOk s = true) (thing : Int) (e : Ev) {x : Eff} (hx : x ∈ e.effs) (k : ByteArray) : ge (act9 thing e s x) k = if touch9 e thing k x then op9 e thing k (ge s k) else ge s k := by
  unfold act9 touch9
  by_cases h1 : (decide (x.thing = thing) && decide (x.kind = 2)) = true
  · rw [if_pos h1]
    simp only [Bool.and_eq_true, decide_eq_true_eq] at h1
    rw [ge_drop hs]
    have e2 : hitE 1 thing k x = false := by simp [hitE, h1.2]
    have e1 : hitE 2 thing k x = eqK x.key k := by simp [hitE, h1.1, h1.2]
    rw [e1, e2]
    cases hk : eqK x.key k with
    | false => simp
    | true =>
      have hd : doesB e 2 thing k = true := List.any_eq_true.2 ⟨x, hx, by rw [e1, hk]⟩
      simp only [Bool.true_or, if_true, op9, hd]
  · rw [if_neg h1]
    have e1 : hitE 2 thing k x = false := by
      simp only [Bool.and_eq_true, decide_eq_true_eq] at h1
      simp only [hitE, Bool.and_eq_false_iff, decide_eq_false_iff_not]
      by_cases h2 : x.kind = 2
      · exact .inl (.inr fun h3 => h1 ⟨h3, h2⟩)
      · exact .inl (.inl h2)
    rw [e1, Bool.false_or]
    by_cases h2 : (decide (x.thing = thing) && decide (x.kind = 1) && !doesB e 2 thing x.key) = true
    · rw [if_pos h2]
      simp only [Bool.and_eq_true, decide_eq_true_eq, Bool.not_eq_true'] at h2
      rw [ge_add hs]
      have e2 : hitE 1 thing k x = eqK x.key k := by simp [hitE, h2.1.1, h2.1.2]
      rw [e2]
      cases hk : eqK x.key k with
      | false => simp
      | true =>
        have h3 := h2.2
        rw [key_ext hk] at h3
        simp only [h3, Bool.not_false, Bool.and_self, if_true, op9, Bool.false_eq_true, if_false]
    · rw [if_neg h2]
      have e2 : (hitE 1 thing k x && !doesB e 2 thing k) = false := by
        rw [Bool.eq_false_iff]
        intro h3
        simp only [hitE, Bool.and_eq_true, decide_eq_true_eq, Bool.not_eq_true'] at h3
        refine h2 ?_
        simp only [Bool.and_eq_true, decide_eq_true_eq, Bool.not_eq_true']
        rw [key_ext h3.1.2]
        exact ⟨⟨h3.1.1.2, h3.1.1.1⟩, h3.2⟩
      rw [e2]
      simp
/-- Rows in order. -/
def SortQ (q : LD) : Prop := Sorted q.1 ∧ Sorted q.2
theorem ge_sorted {s : List Entry} (h : setOk s = true) (k : ByteArray) : SortQ (ge s k) := ⟨((rowsB_iff _).1 (get_rows h k).1).2, ((rowsB_iff _).1 (get_rows h k).2).2⟩
theorem left_put {e : Ev} (he : evOk e = true) {l : List Dot} (h : Sorted l) : putD (leftD (putD (leftD l e.past) e.dot) e.past) e.dot = putD (leftD l e.past) e.dot := by
  have f3 := (evOk_facts he).2.2.1
  refine Sorted.ext (sorted_putD (sorted_left (sorted_putD (sorted_left h _) _) _) _) (sorted_putD (sorted_left h _) _) fun d => ?_
  rw [mem_putD, mem_left, mem_putD, mem_left]
  constructor
  · rintro (⟨h1, _⟩ | h1)
    · exact h1
    · exact .inr h1
  · rintro (h1 | h1)
    · exact .inl ⟨.inl h1, h1.2⟩
    · exact .inr h1
theorem op9_twice {e : Ev} (he : evOk e = true) (thing : Int) (k : ByteArray) {q : LD} (h : SortQ q) : op9 e thing k (op9 e thing k q) = op9 e thing k q := by
  unfold op9
  split
  · unfold opDrop
    simp only
    rw [left_put he h.2]
  · by_cases h0 : (leftD q.2 e.past).length = 0
    · have e1 : opAdd e q = (putD (leftD q.1 e.past) e.dot, q.2) := if_pos h0
      rw [e1]
      unfold opAdd
      simp only
      rw [if_pos h0, left_put he h.1]
    · have e1 : opAdd e q = q := if_neg h0
      rw [e1, e1]
theorem acts9_get {n : Nat} {s : List Entry} (h : Way9 n s) {e : Ev} (he : evOk e = true) (thing : Int) (k : ByteArray) : ∀ m, m ≤ e.effs.length → n + m < 3999 → ge (acts9 thing e s m) k = if (e.effs.take m).any (touch9 e thing k) then op9 e thing k (ge s k) else ge s k
  | 0, _, _ => by simp [acts9]
  | m + 1, hm, hn => by
    have ih := acts9_get h he thing k m (by omega) (by omega)
    have hw := h.acts he thing m (by omega) (by omega)
    rw [acts9_succ thing e s m (by omega), act9_get hw.1 thing e (List.getElem_mem (by omega)), ih, List.take_succ_eq_append_getElem (by omega), List.any_append]
    cases h1 : (e.effs.take m).any (touch9 e thing k) <;> cases h2 : touch9 e thing k e.effs[m] <;> simp [h2, op9_twice he thing k (ge_sorted h.1 k)]
theorem touch9_any (e : Ev) (thing : Int) (k : ByteArray) : e.effs.any (touch9 e thing k) = touchB e thing k := by
  rw [Bool.eq_iff_iff, touchB, Bool.or_eq_true]
  unfold doesB touch9
  rw [List.any_eq_true, List.any_eq_true, List.any_eq_true]
  constructor
  · rintro ⟨x, hx, h⟩
    rw [Bool.or_eq_true, Bool.and_eq_true] at h
    rcases h with h | h
    · exact .inr ⟨x, hx, h⟩
    · exact .inl ⟨x, hx, h.1⟩
  · intro h
    by_cases h0 : ∃ x ∈ e.effs, hitE 2 thing k x = true
    · obtain ⟨x, hx, h1⟩ := h0
      exact ⟨x, hx, by rw [h1]; rfl⟩
    · rcases h with ⟨x, hx, h⟩ | h
      · refine ⟨x, hx, ?_⟩
        have : doesB e 2 thing k = false := by
          rw [Bool.eq_false_iff, doesB, ne_eq, List.any_eq_true]; exact h0
        rw [h, this]; simp
      · exact absurd h h0
end Go.AM
namespace Go.AM
theorem ahead_iff {a : Ev} (ha : evOk a = true) (e : Ev) : aheadB a e = true ↔ a.dot.2 ≤ getC e.past a.dot.1 := by
  rw [aheadB, (evOk_facts ha).1, Bool.true_and, decide_eq_true_eq]
theorem ahead_trans {l : List Ev} (hg : Good l) {b c f : Ev} (hb : b ∈ l) (hc : c ∈ l) (hf : f ∈ l) (h1 : aheadB b c = true) (h2 : aheadB c f = true) : aheadB b f = true := by
  have h3 := hg.trans f hf c hc h2 b.dot.1
  rw [ahead_iff (hg.may b hb)] at h1 ⊢
  omega
/-- An add that all drops are ahead of. -/
def Hold (P : List Ev) (thing : Int) (k : ByteArray) (a : Ev) : Prop := doesB a 1 thing k = true ∧ doesB a 2 thing k = false ∧ ∀ b ∈ P, doesB b 2 thing k = true → aheadB b a = true
structure Inv9 (P R : List Ev) (thing : Int) (k : ByteArray) (q : LD) : Prop where
  d1 : ∀ d ∈ q.2, ∃ b ∈ P, doesB b 2 thing k = true ∧ b.dot = d
  d2 : ∀ b ∈ P, doesB b 2 thing k = true → (∃ c ∈ P, doesB c 2 thing k = true ∧ c.dot ∈ q.2 ∧ (c = b ∨ aheadB b c = true)) ∨ ∀ f ∈ R, aheadB b f = true
  lv : ∀ d, d ∈ q.1 ↔ ∃ a ∈ P, a.dot = d ∧ Hold P thing k a ∧ ∀ c ∈ P, Hold P thing k c → aheadB a c = false
theorem mem_snoc {P : List Ev} {e x : Ev} : x ∈ P ++ [e] ↔ x ∈ P ∨ x = e := by simp
theorem Inv9.step {l P R : List Ev} {e : Ev} {thing : Int} {k : ByteArray} {q : LD} (hg : Good l) (hP : ∀ a ∈ P, a ∈ l) (he : e ∈ l) (hback : ∀ b ∈ P, aheadB e b = false) (h : Inv9 P (e :: R) thing k q) :
    Inv9 (P ++ [e]) R thing k (if touchB e thing k then op9 e thing k q else q) := by
  have hme := hg.may e he
  have hes := ahead_self hme
  cases hd2 : doesB e 2 thing k with
  | true =>
    have ht : touchB e thing k = true := by rw [touchB, hd2, Bool.or_true]
    rw [ht, if_pos rfl, op9, hd2, if_pos rfl, opDrop]
    refine ⟨fun d hd => ?_, fun b hb hb2 => ?_, fun d => ?_⟩
    · simp only at hd
      rw [mem_putD, mem_left] at hd
      rcases hd with ⟨hd, _⟩ | hd
      · obtain ⟨b, hb, h1, h2⟩ := h.d1 d hd
        exact ⟨b, mem_snoc.2 (.inl hb), h1, h2⟩
      · exact ⟨e, mem_snoc.2 (.inr rfl), hd2, hd.symm⟩
    · rcases mem_snoc.1 hb with hb | hb
      · rcases h.d2 b hb hb2 with ⟨c, hc, h1, h2, h3⟩ | h3
        · left
          by_cases hce : aheadB c e = true
          · refine ⟨e, mem_snoc.2 (.inr rfl), hd2, by simp only; rw [mem_putD]; exact .inr rfl, .inr ?_⟩
            rcases h3 with h3 | h3
            · rw [← h3]; exact hce
            · exact ahead_trans hg (hP b hb) (hP c hc) he h3 hce
          · refine ⟨c, mem_snoc.2 (.inl hc), h1, ?_, h3⟩
            simp only
            rw [mem_putD, mem_left]
            rw [ahead_iff (hg.may c (hP c hc))] at hce
            exact .inl ⟨h2, hce⟩
        · exact .inr fun f hf => h3 f (List.mem_cons_of_mem _ hf)
      · left
        exact ⟨e, mem_snoc.2 (.inr rfl), hd2, by simp only; rw [mem_putD]; exact .inr rfl, .inl hb.symm⟩
    · constructor
      · intro hd; cases hd
      · rintro ⟨a, ha, _, ⟨_, h2, h3⟩, _⟩
        rcases mem_snoc.1 ha with ha | ha
        · have := h3 e (mem_snoc.2 (.inr rfl)) hd2
          rw [hback a ha] at this; cases this
        · subst ha; rw [hd2] at h2; cases h2
  | false =>
    have hH : ∀ a, Hold (P ++ [e]) thing k a ↔ Hold P thing k a := fun a => by
      constructor
      · rintro ⟨h1, h2, h3⟩
        exact ⟨h1, h2, fun b hb => h3 b (mem_snoc.2 (.inl hb))⟩
      · rintro ⟨h1, h2, h3⟩
        refine ⟨h1, h2, fun b hb hb2 => ?_⟩
        rcases mem_snoc.1 hb with hb | hb
        · exact h3 b hb hb2
        · subst hb; rw [hd2] at hb2; cases hb2
    have hD1 : ∀ d ∈ q.2, ∃ b ∈ P ++ [e], doesB b 2 thing k = true ∧ b.dot = d := fun d hd => by
      obtain ⟨b, hb, h1, h2⟩ := h.d1 d hd
      exact ⟨b, mem_snoc.2 (.inl hb), h1, h2⟩
    have hD2 : ∀ b ∈ P ++ [e], doesB b 2 thing k = true → (∃ c ∈ P ++ [e], doesB c 2 thing k = true ∧ c.dot ∈ q.2 ∧ (c = b ∨ aheadB b c = true)) ∨ ∀ f ∈ R, aheadB b f = true := fun b hb hb2 => by
      rcases mem_snoc.1 hb with hb | hb
      · rcases h.d2 b hb hb2 with ⟨c, hc, h1⟩ | h3
        · exact .inl ⟨c, mem_snoc.2 (.inl hc), h1⟩
        · exact .inr fun f hf => h3 f (List.mem_cons_of_mem _ hf)
      · subst hb; rw [hd2] at hb2; cases hb2
    -- an event that does not hold changes nothing
    have hsame : ¬ Hold P thing k e → ∀ d, d ∈ q.1 ↔ ∃ a ∈ P ++ [e], a.dot = d ∧ Hold (P ++ [e]) thing k a ∧ ∀ c ∈ P ++ [e], Hold (P ++ [e]) thing k c → aheadB a c = false := fun hne d => by
      rw [h.lv d]
      constructor
      · rintro ⟨a, ha, h1, h2, h3⟩
        refine ⟨a, mem_snoc.2 (.inl ha), h1, (hH a).2 h2, fun c hc hch => ?_⟩
        rw [hH] at hch
        rcases mem_snoc.1 hc with hc | hc
        · exact h3 c hc hch
        · subst hc; exact absurd hch hne
      · rintro ⟨a, ha, h1, h2, h3⟩
        rw [hH] at h2
        rcases mem_snoc.1 ha with ha | ha
        · exact ⟨a, ha, h1, h2, fun c hc hch => h3 c (mem_snoc.2 (.inl hc)) ((hH c).2 hch)⟩
        · subst ha; exact absurd h2 hne
    cases hd1 : doesB e 1 thing k with
    | false =>
      have ht : touchB e thing k = false := by rw [touchB, hd1, hd2]; rfl
      rw [ht, if_neg (by simp)]
      exact ⟨hD1, hD2, hsame fun hh => by have h9 := hh.1; rw [hd1] at h9; cases h9⟩
    | true =>
      have ht : touchB e thing k = true := by rw [touchB, hd1, Bool.true_or]
      rw [ht, if_pos rfl, op9, hd2, if_neg (by simp), opAdd]
      by_cases h0 : (leftD q.2 e.past).length = 0
      · rw [if_pos h0]
        have hnil : ∀ d ∈ q.2, d.2 ≤ getC e.past d.1 := fun d hd => by
          apply Classical.byContradiction
          intro hn
          have := List.length_pos_of_mem ((mem_left q.2 e.past d).2 ⟨hd, hn⟩)
          omega
        have hhe : Hold P thing k e := by
          refine ⟨hd1, hd2, fun b hb hb2 => ?_⟩
          rcases h.d2 b hb hb2 with ⟨c, hc, h1, h2, h3⟩ | h3
          · have hce : aheadB c e = true := (ahead_iff (hg.may c (hP c hc)) e).2 (hnil _ h2)
            rcases h3 with h3 | h3
            · rw [← h3]; exact hce
            · exact ahead_trans hg (hP b hb) (hP c hc) he h3 hce
          · exact h3 e List.mem_cons_self
        refine ⟨hD1, hD2, fun d => ?_⟩
        simp only
        rw [mem_putD, mem_left, h.lv d]
        constructor
        · rintro (⟨⟨a, ha, h1, h2, h3⟩, h4⟩ | h1)
          · refine ⟨a, mem_snoc.2 (.inl ha), h1, (hH a).2 h2, fun c hc hch => ?_⟩
            rw [hH] at hch
            rcases mem_snoc.1 hc with hc | hc
            · exact h3 c hc hch
            · subst hc
              rw [← h1] at h4
              exact (ahead_not (hg.may a (hP a ha))).2 h4
          · refine ⟨e, mem_snoc.2 (.inr rfl), h1.symm, (hH e).2 hhe, fun c hc _ => ?_⟩
            rcases mem_snoc.1 hc with hc | hc
            · exact hback c hc
            · subst hc; exact hes
        · rintro ⟨a, ha, h1, h2, h3⟩
          rw [hH] at h2
          rcases mem_snoc.1 ha with ha | ha
          · left
            refine ⟨⟨a, ha, h1, h2, fun c hc hch => h3 c (mem_snoc.2 (.inl hc)) ((hH c).2 hch)⟩, ?_⟩
            have := h3 e (mem_snoc.2 (.inr rfl)) ((hH e).2 hhe)
            rw [← h1]
            exact (ahead_not (hg.may a (hP a ha))).1 this
          · subst ha; exact .inr h1.symm
      · rw [if_neg h0]
        refine ⟨hD1, hD2, hsame fun hh => ?_⟩
        obtain ⟨d, hd⟩ := List.exists_mem_of_length_pos (l := leftD q.2 e.past) (by omega)
        rw [mem_left] at hd
        obtain ⟨b, hb, h1, h2⟩ := h.d1 d hd.1
        have := (ahead_iff (hg.may b (hP b hb)) e).1 (hh.2.2 b hb h1)
        rw [h2] at this
        exact hd.2 this
theorem Inv9.clean {l P R : List Ev} {thing : Int} {k : ByteArray} {q : LD} (hg : Good l) (hP : ∀ a ∈ P, a ∈ l) (hR : ∀ a ∈ R, a ∈ l) (h : Inv9 P R thing k q) {c : List Int} (hc : ∀ f ∈ R, ∀ r, getC c r ≤ getC f.past r) :
    Inv9 P R thing k (q.1, leftD q.2 c) := by
  refine ⟨fun d hd => h.d1 d ((mem_left _ _ _).1 hd).1, fun b hb hb2 => ?_, h.lv⟩
  rcases h.d2 b hb hb2 with ⟨x, hx, h1, h2, h3⟩ | h3
  · by_cases hk : x.dot.2 ≤ getC c x.dot.1
    · right
      intro f hf
      have hxf : aheadB x f = true := (ahead_iff (hg.may x (hP x hx)) f).2 (Int.le_trans hk (hc f hf _))
      rcases h3 with h3 | h3
      · rw [← h3]; exact hxf
      · exact ahead_trans hg (hP b hb) (hP x hx) (hR f hf) h3 hxf
    · left
      exact ⟨x, hx, h1, (mem_left _ _ _).2 ⟨h2, hk⟩, h3⟩
  · exact .inr h3
theorem fold9_inv {l o : List Ev} (hg : Good l) (hm : ∀ e, e ∈ o ↔ e ∈ l) (hord : o.Pairwise fun a b => aheadB b a = false) (thing : Int) (clean : Bool) (k : ByteArray) : ∀ i, i ≤ o.length → 16 * i < 3900 → Inv9 (o.take i) (o.drop i) thing k (ge (fold9 thing clean o i) k)
  | 0, _, _ => ⟨fun d hd => (by simp [fold9, ge, getE, emptyE] at hd), by simp, by simp [fold9, ge, getE, emptyE]⟩
  | i + 1, hi, hn => by
    have hlt : i < o.length := by omega
    have ho : ∀ e ∈ o, evOk e = true := fun e he => hg.may e ((hm e).1 he)
    have ih := fold9_inv hg hm hord thing clean k i (by omega) (by omega)
    have hW := Way9.fold ho thing clean i (by omega) (by omega)
    have hem := List.getElem_mem hlt
    have h16 := (evOk_facts (ho _ hem)).2.2.2.2
    have hWa := hW.acts (ho _ hem) thing _ (Nat.le_refl _) (by omega)
    have hback : ∀ b ∈ o.take i, aheadB o[i] b = false := fun b hb => by
      obtain ⟨j, hj, rfl⟩ := List.mem_take_iff_getElem.1 hb
      exact List.pairwise_iff_getElem.1 hord j i (by omega) hlt (by omega)
    rw [List.drop_eq_getElem_cons hlt] at ih
    have hP : ∀ a ∈ o.take i, a ∈ l := fun a ha => (hm a).1 (List.mem_of_mem_take ha)
    have hs := ih.step hg hP ((hm _).1 hem) hback
    have e1 := acts9_get hW (ho _ hem) thing k _ (Nat.le_refl _) (by omega)
    rw [List.take_length, touch9_any] at e1
    rw [← e1, ← List.take_succ_eq_append_getElem hlt] at hs
    rw [fold9_succ thing clean o i hlt]
    unfold tidy9
    split
    · rename_i hc
      simp only [Bool.and_eq_true, decide_eq_true_eq] at hc
      obtain ⟨k1, k2⟩ := known_all ho i hc.2
      rw [ge_clean hWa.1 k1]
      exact hs.clean hg (fun a ha => (hm a).1 (List.mem_of_mem_take ha)) (fun a ha => (hm a).1 (List.mem_of_mem_drop ha)) k2
    · exact hs
theorem hold_iff (l : List Ev) (thing : Int) (k : ByteArray) (j : Nat) (hj : j < l.length) : holdB l thing k j l[j] = true ↔ Hold l thing k l[j] := by
  simp only [holdB, standsB, Bool.and_eq_true, Bool.not_eq_true', List.all_eq_true]
  constructor
  · rintro ⟨⟨h1, h2⟩, h3⟩
    refine ⟨h2, h3, fun b hb hb2 => ?_⟩
    obtain ⟨n, hn, rfl⟩ := List.mem_iff_getElem.1 hb
    have := h1 n (by simpa using hn)
    rw [stand1_at thing k j l[j] hn] at this
    by_cases hnj : n = j
    · subst hnj; rw [h3] at hb2; cases hb2
    · simpa [hnj, hb2] using this
  · rintro ⟨h1, h2, h3⟩
    refine ⟨⟨fun n hn => ?_, h1⟩, h2⟩
    have hn : n < l.length := by simpa using hn
    rw [stand1_at thing k j l[j] hn]
    cases hd : doesB l[n] 2 thing k with
    | false => simp
    | true => rw [h3 l[n] (List.getElem_mem hn) hd]; simp
theorem alive9_iff (l : List Ev) (thing : Int) (k : ByteArray) (j : Nat) (hj : j < l.length) : alive9 l thing k j l[j] l.length = true ↔ Hold l thing k l[j] ∧ ∀ c ∈ l, Hold l thing k c → aheadB l[j] c = false := by
  rw [alive9, Bool.and_eq_true, hold_iff l thing k j hj, Bool.not_eq_true', List.any_eq_false]
  refine and_congr Iff.rfl ?_
  constructor
  · intro h c hc hh
    obtain ⟨n, hn, rfl⟩ := List.mem_iff_getElem.1 hc
    have := h n (by simpa using hn)
    rw [clash9_at thing k l[j] hn, (hold_iff l thing k n hn).2 hh, Bool.and_true] at this
    simpa using this
  · intro h n hn
    have hn : n < l.length := by simpa using hn
    rw [clash9_at thing k l[j] hn]
    cases hh : holdB l thing k n l[n] with
    | false => simp
    | true => rw [h _ (List.getElem_mem hn) ((hold_iff l thing k n hn).1 hh)]; simp
theorem mem_live9To (l : List Ev) (thing : Int) (k : ByteArray) (d : Dot) : ∀ i, i ≤ l.length → (d ∈ live9To l thing k i ↔ ∃ a ∈ l.take i, (Hold l thing k a ∧ ∀ c ∈ l, Hold l thing k c → aheadB a c = false) ∧ a.dot = d)
  | 0, _ => by simp [live9To]
  | i + 1, h => by
    have ih := mem_live9To l thing k d i (by omega)
    have hlt : i < l.length := by omega
    rw [live9To_succ l thing k i hlt, List.take_succ_eq_append_getElem hlt]
    by_cases ha : alive9 l thing k i l[i] l.length = true
    · rw [if_pos ha, mem_putD, ih]
      rw [alive9_iff l thing k i hlt] at ha
      constructor
      · rintro (⟨a, h1, h2⟩ | h1)
        · exact ⟨a, mem_snoc.2 (.inl h1), h2⟩
        · exact ⟨_, mem_snoc.2 (.inr rfl), ha, h1.symm⟩
      · rintro ⟨a, h1, h2, h3⟩
        rcases mem_snoc.1 h1 with h1 | h1
        · exact .inl ⟨a, h1, h2, h3⟩
        · subst h1; exact .inr h3.symm
    · rw [if_neg ha, ih]
      rw [alive9_iff l thing k i hlt] at ha
      constructor
      · rintro ⟨a, h1, h2⟩
        exact ⟨a, mem_snoc.2 (.inl h1), h2⟩
      · rintro ⟨a, h1, h2, h3⟩
        rcases mem_snoc.1 h1 with h1 | h1
        · exact ⟨a, h1, h2, h3⟩
        · subst h1; exact absurd h2 ha
theorem live9To_sorted (l : List Ev) (thing : Int) (k : ByteArray) : ∀ i, i ≤ l.length → Sorted (live9To l thing k i)
  | 0, _ => List.Pairwise.nil
  | i + 1, h => by
    rw [live9To_succ l thing k i (by omega)]
    split
    · exact sorted_putD (live9To_sorted l thing k i (by omega)) _
    · exact live9To_sorted l thing k i (by omega)
def liveR (l : List Ev) (thing : Int) (k : ByteArray) : List Dot := live9To l thing k l.length
theorem fold9_live {l o : List Ev} (hl : l.length ≤ 14) (hlo : o.length = l.length) (hg : Good l) (hm : ∀ e, e ∈ o ↔ e ∈ l) (hord : o.Pairwise fun a b => aheadB b a = false) (thing : Int) (clean : Bool) (k : ByteArray) :
    (ge (fold9 thing clean o o.length) k).1 = liveR l thing k := by
  have ho : ∀ e ∈ o, evOk e = true := fun e he => hg.may e ((hm e).1 he)
  have hW := Way9.fold ho thing clean o.length (Nat.le_refl _) (by omega)
  have hI := fold9_inv hg hm hord thing clean k o.length (Nat.le_refl _) (by omega)
  rw [List.take_length] at hI
  have hH : ∀ a, Hold o thing k a ↔ Hold l thing k a := fun a => by
    unfold Hold
    refine and_congr Iff.rfl (and_congr Iff.rfl ⟨fun h b hb => h b ((hm b).2 hb), fun h b hb => h b ((hm b).1 hb)⟩)
  refine Sorted.ext (ge_sorted hW.1 k).1 (live9To_sorted l thing k _ (Nat.le_refl _)) fun d => ?_
  rw [hI.lv d]
  unfold liveR
  rw [mem_live9To l thing k d _ (Nat.le_refl _), List.take_length]
  constructor
  · rintro ⟨a, ha, h1, h2, h3⟩
    exact ⟨a, (hm a).1 ha, ⟨(hH a).1 h2, fun c hc hh => h3 c ((hm c).2 hc) ((hH c).2 hh)⟩, h1⟩
  · rintro ⟨a, ha, ⟨h2, h3⟩, h1⟩
    exact ⟨a, (hm a).2 ha, h1, (hH a).2 h2, fun c hc hh => h3 c ((hm c).1 hc) ((hH c).1 hh)⟩
/-- The theorem of the set. -/
theorem fold9_law {l o : List Ev} (hl : l.length ≤ 14) (hlo : o.length = l.length) (hg : Good l) (hm : ∀ e, e ∈ o ↔ e ∈ l) (hord : o.Pairwise fun a b => aheadB b a = false) (thing : Int) (clean : Bool) :
    plainE (fold9 thing clean o o.length) = tellTo (liveR l thing) l l.length := by
  have ho : ∀ e ∈ o, evOk e = true := fun e he => hg.may e ((hm e).1 he)
  have hW := Way9.fold ho thing clean o.length (Nat.le_refl _) (by omega)
  have hT := tellTo_told (F := liveR l thing) (fun k => by have := live9To_len l thing k _ (Nat.le_refl _); unfold liveR; omega) (fun e he => (evOk_facts (hg.may e he)).2.2.2.2) l.length (Nat.le_refl _)
  refine neat_ext (neat_plain hW.1) hT.1 fun k => ?_
  rw [gl_plain hW.1, fold9_live hl hlo hg hm hord]
  have h3 := hT.2.2 k
  rw [List.take_length] at h3
  by_cases hq : ∃ e ∈ l, ∃ x ∈ e.effs, x.key = k
  · rw [h3.1 hq]
  · rw [h3.2 hq]
    refine List.eq_nil_iff_forall_not_mem.2 fun d hd => ?_
    unfold liveR at hd
    rw [mem_live9To l thing k d _ (Nat.le_refl _), List.take_length] at hd
    obtain ⟨a, ha, h1, _⟩ := hd
    have h2 := h1.1.1
    rw [doesB, List.any_eq_true] at h2
    obtain ⟨x, hx, hh⟩ := h2
    simp only [hitE, Bool.and_eq_true] at hh
    exact hq ⟨a, ha, x, hx, key_ext hh.2⟩
end Go.AM
namespace Go.AM
open Go.Proofs
theorem act9_drop {thing : Int} {e : Ev} {x : Eff} (h : (decide (x.thing = thing) && decide (x.kind = 2)) = true) (s : List Entry) : act9 thing e s x = dropS s x.key e.dot e.past := by
  unfold act9; rw [if_pos h]
theorem act9_add {thing : Int} {e : Ev} {x : Eff} (h : (decide (x.thing = thing) && decide (x.kind = 2)) = false) (h2 : (decide (x.thing = thing) && decide (x.kind = 1) && !doesB e 2 thing x.key) = true) (s : List Entry) : act9 thing e s x = addS s x.key e.dot e.past := by
  unfold act9; rw [if_neg (by rw [h]; simp), if_pos h2]
theorem act9_none {thing : Int} {e : Ev} {x : Eff} (h : (decide (x.thing = thing) && decide (x.kind = 2)) = false) (h2 : (decide (x.thing = thing) && decide (x.kind = 1) && !doesB e 2 thing x.key) = false) (s : List Entry) : act9 thing e s x = s := by
  unfold act9; rw [if_neg (by rw [h]; simp), if_neg (by rw [h2]; simp)]
theorem knownTo_at (o : List Ev) (i j : Nat) (h : i + 2 ≤ j) (hj : j < o.length) : knownTo o i (j + 1 - (i + 2)) = meetC (knownTo o i (j - (i + 2))) o[j].past := by
  rw [show j + 1 - (i + 2) = (j - (i + 2)) + 1 by omega, knownTo_succ o i _ (by omega)]
  simp only [show i + 2 + (j - (i + 2)) = j by omega]

set_option maxRecDepth 8000 in
set_option maxHeartbeats 4000000 in
theorem c_law09_fold (o : List Ev) (thing : Int) (clean : Bool) (hlen : o.length ≤ 14) (hok : ∀ e ∈ o, evOk e = true) : Pure Try.prog 38 [.sl .fro 4 (evsAV o), .i .i64 thing, .b clean] (.tup [.sl .fro 3 (entsAV (fold9 thing clean o o.length)), .b true]) := by
  refine proc_of (cx Try.prog 151 [0, 1, 2, 6, 7, 8, 9, 10, 11, 12, 13, 14, 15, 16, 17, 22, 32, 52, 89, 108, 118, 130, 147] [6, 7]) 148 [.tmp 6, .tmp 7] Try.func38 rfl rfl rfl rfl rfl rfl (Nat.le_refl _) rfl ?_
  refine AWp.go [0, 1, 2] [] fun K hK => ?_
  simp
  first | refine hK _ _ ?_ | refine ⟨by omega, hK _ _ ?_⟩ | refine ⟨by omega, by omega, hK _ _ ?_⟩
  clear hK K
  refine AWp.go [0, 1, 2, 8] [] fun K hK => ?_
  simp
  first | refine hK _ _ ?_ | refine ⟨by omega, hK _ _ ?_⟩ | refine ⟨by omega, by omega, hK _ _ ?_⟩
  clear hK K
  refine AWp.seq ?_
  refine AWp.go [0, 1, 2, 8, 9] [] fun K hK => ?_
  simp
  first | refine hK _ _ ?_ | refine ⟨by omega, hK _ _ ?_⟩ | refine ⟨by omega, by omega, hK _ _ ?_⟩
  clear hK K
  refine AWp.frz [8] ?_
  simp
  refine AWp.block (AWp.while (fun i : Nat => [(0, .sl .fro 4 (evsAV o)), (1, .i .i64 thing), (2, .b clean), (8, .sl .fro 3 (entsAV (fold9 thing clean o i))), (9, .i .i64 i)]) (fun i => []) (fun i => i ≤ o.length) (fun i => o.length - i) [0, 1, 2, 8, 9] [] 0 (by simp) (by simp [fold9, entsAV]) ?_)
  intro i hi
  refine AWp.seq ?_
  refine AWp.go [0, 1, 2, 8, 9, 22] [] fun K hK => ?_
  simp
  first | refine hK _ _ ?_ | refine ⟨by omega, hK _ _ ?_⟩ | refine ⟨by omega, by omega, hK _ _ ?_⟩
  clear hK K
  by_cases h : i < o.length
  · refine AWp.cond (t := true) (by first | (simp [h]; done) | (simp [h]; omega)) (fun _ => ?_) (by simp)
    refine AWp.skip ?_
    show AWp _ _ _ _
    refine AWp.seq ?_
    refine AWp.block ?_
    refine AWp.seq ?_
    have hWi := Way9.fold hok thing clean i (by omega) (by omega)
    have heo := hok _ (List.getElem_mem h)
    have hf := evOk_facts heo
    obtain ⟨e, hee⟩ : ∃ e, e = o[i] := ⟨_, rfl⟩
    have hpe : e.past.length ≤ 5 := by rw [hee]; exact evOk_past heo
    rw [← hee] at heo hf
    refine AWp.go [0, 1, 2, 8, 9, 10] [] fun K hK => ?_
    simp
    first | refine hK _ _ ?_ | refine ⟨by omega, hK _ _ ?_⟩ | refine ⟨by omega, by omega, hK _ _ ?_⟩
    clear hK K
    refine AWp.block (AWp.while (fun m : Nat => [(0, .sl .fro 4 (evsAV o)), (1, .i .i64 thing), (2, .b clean), (8, .sl .fro 3 (entsAV (acts9 thing e (fold9 thing clean o i) m))), (9, .i .i64 i), (10, .i .i64 m)]) (fun m => []) (fun m => m ≤ e.effs.length) (fun m => e.effs.length - m) [0, 1, 2, 8, 9, 10] [] 0 (by simp) (by simp [acts9]) ?_)
    intro m hm
    refine AWp.seq ?_
    refine AWp.go [0, 1, 2, 8, 9, 10, 32] [] fun K hK => ?_
    simp [h, ← hee]
    first | refine hK _ _ ?_ | refine ⟨by omega, hK _ _ ?_⟩ | refine ⟨by omega, by omega, hK _ _ ?_⟩
    clear hK K
    by_cases h2 : m < e.effs.length
    · refine AWp.cond (t := true) (by first | (simp [h2]; done) | (simp [h2]; omega)) (fun _ => ?_) (by simp)
      refine AWp.skip ?_
      show AWp _ _ _ _
      refine AWp.seq ?_
      refine AWp.block ?_
      have hWm := hWi.acts heo thing m (by omega) (by omega)
      have hsucc := acts9_succ thing e (fold9 thing clean o i) m h2
      have hxm := List.getElem_mem h2
      obtain ⟨x, hx⟩ : ∃ x, x = e.effs[m] := ⟨_, rfl⟩
      obtain ⟨S, hS⟩ : ∃ S, S = acts9 thing e (fold9 thing clean o i) m := ⟨_, rfl⟩
      rw [← hx] at hxm
      rw [← hS, ← hx] at hsucc
      rw [← hS] at hWm ⊢
      have hkx := effOk_key (hf.2.2.2.1 x hxm)
      have hSf := hWm.2.fine (by omega)
      have hSl := hWm.2.1
      have hSa := hWm.2.at x.key
      have gA := (c_rwset_Add S x.key e.dot e.past hSf (by omega) (by omega) (by omega)).fro
      have gD := (c_rwset_Drop S x.key e.dot e.past hSf (by omega) (by omega) (by omega)).fro
      have hmay : mayE S x.key e.dot e.past = true := by simp [mayE, hWm.1, hkx, hf.1, hf.2.1]
      rw [hmay] at gA gD
      simp only [if_true] at gA gD
      simp [dotC] at gA gD
      have gE := c_ref08_Does e 2 thing x.key (by have := hf.2.2.2.2; omega)
      simp [evC] at gE
      refine AWp.go [0, 1, 2, 8, 9, 10, 11] [11] fun K hK => ?_
      simp [h, ← hee, h2, ← hx]
      first | refine hK _ _ ?_ | refine ⟨by omega, hK _ _ ?_⟩ | refine ⟨by omega, by omega, hK _ _ ?_⟩
      clear hK K
      refine AWp.go [0, 1, 2, 8, 9, 10, 11, 12] [11] fun K hK => ?_
      simp
      first | refine hK _ _ ?_ | refine ⟨by omega, hK _ _ ?_⟩ | refine ⟨by omega, by omega, hK _ _ ?_⟩
      clear hK K
      refine AWp.go [0, 1, 2, 8, 9, 10, 11, 12, 13] [11] fun K hK => ?_
      simp
      first | refine hK _ _ ?_ | refine ⟨by omega, hK _ _ ?_⟩ | refine ⟨by omega, by omega, hK _ _ ?_⟩
      clear hK K
      refine AWp.seq ?_
      refine AWp.step [0, 1, 2, 8, 9, 10, 11, 12, 13, 52] [11] [(0, .sl .fro 4 (evsAV o)), (1, .i .i64 thing), (2, .b clean), (8, .sl .fro 3 (entsAV S)), (9, .i .i64 i), (10, .i .i64 m), (11, .ptr 11 0), (12, .i .i64 0), (13, .sl .fro 3 (entsAV S)), (52, .b (decide (x.thing = thing) && decide (x.kind = 2)))] [(11, [.i .i64 x.kind, .i .i64 x.thing, .s x.key, .i .i64 x.num, .i .i64 x.dest, .s x.word])] ?_ ?_
      · by_cases q1 : x.thing = thing <;> simp [q1]
      cases hA : decide (x.thing = thing) && decide (x.kind = 2)
      · refine AWp.cond (t := false) (by simp) (by simp) (fun _ => ?_)
        refine AWp.skip ?_
        show AWp _ _ _ _
        refine AWp.seq ?_
        refine AWp.stepD 20 (fun k0 => if k0 = 17 then .b (doesB e 2 thing x.key) else .any) [0, 1, 2, 8, 9, 10, 11, 12, 13, 89] [11] [(0, .sl .fro 4 (evsAV o)), (1, .i .i64 thing), (2, .b clean), (8, .sl .fro 3 (entsAV S)), (9, .i .i64 i), (10, .i .i64 m), (11, .ptr 11 0), (12, .i .i64 0), (13, .sl .fro 3 (entsAV S)), (89, .b (decide (x.thing = thing) && decide (x.kind = 1) && !doesB e 2 thing x.key))] [(11, [.i .i64 x.kind, .i .i64 x.thing, .s x.key, .i .i64 x.num, .i .i64 x.dest, .s x.word])] mix (by kernel_rfl) ?_ ?_
        · by_cases q1 : x.thing = thing
          · by_cases q2 : x.kind = 1
            · simp [h, ← hee, q1, q2]
              exact gE
            · simp [q1, q2]
          · simp [q1]
        cases hD : decide (x.thing = thing) && decide (x.kind = 1) && !doesB e 2 thing x.key
        · refine AWp.cond (t := false) (by simp) (by simp) (fun _ => ?_)
          refine AWp.skip ?_
          show AWp _ _ _ _
          refine AWp.seq ?_
          refine AWp.go [0, 1, 2, 8, 9, 10, 13, 108] [] fun K hK => ?_
          simp
          first | refine hK _ _ ?_ | refine ⟨by omega, hK _ _ ?_⟩ | refine ⟨by omega, by omega, hK _ _ ?_⟩
          clear hK K
          refine AWp.cond (t := false) (by first | (simp; done) | (simp; omega)) (by simp) (fun _ => ?_)
          refine AWp.skip ?_
          show AWp _ _ _ _
          refine AWp.goLast [0, 1, 2, 8, 9, 10] [] fun K hK => ?_
          simp
          first | refine hK _ _ ?_ | refine ⟨by omega, hK _ _ ?_⟩ | refine ⟨by omega, by omega, hK _ _ ?_⟩
          clear hK K
          show AWp _ _ _ _
          refine AWp.goLast [0, 1, 2, 8, 9, 10] [] fun K hK => ?_
          simp
          first | refine hK _ _ ?_ | refine ⟨by omega, hK _ _ ?_⟩ | refine ⟨by omega, by omega, hK _ _ ?_⟩
          clear hK K
          refine ⟨m + 1, by omega, by omega, ?_⟩
          rw [hsucc]
          first | rw [act9_none hA hD] | rw [act9_add hA hD] | rw [act9_drop hA]
          simp
          exact wrap64 (by omega) (by omega)
        · refine AWp.cond (t := true) (by simp) (fun _ => ?_) (by simp)
          refine AWp.lastD 19 (fun k0 => if k0 = 13 then .tup [.sl .fro 3 (entsAV (addS S x.key e.dot e.past)), .i .i64 0] else .any) [0, 1, 2, 8, 9, 10, 12, 13] [] [(0, .sl .fro 4 (evsAV o)), (1, .i .i64 thing), (2, .b clean), (8, .sl .fro 3 (entsAV S)), (9, .i .i64 i), (10, .i .i64 m), (12, .i .i64 0), (13, .sl .fro 3 (entsAV (addS S x.key e.dot e.past)))] [] mix (by kernel_rfl) ?_ ?_
          · simp [h, ← hee]
            exact gA
          show AWp _ _ _ _
          refine AWp.seq ?_
          refine AWp.go [0, 1, 2, 8, 9, 10, 13, 108] [] fun K hK => ?_
          simp
          first | refine hK _ _ ?_ | refine ⟨by omega, hK _ _ ?_⟩ | refine ⟨by omega, by omega, hK _ _ ?_⟩
          clear hK K
          refine AWp.cond (t := false) (by first | (simp; done) | (simp; omega)) (by simp) (fun _ => ?_)
          refine AWp.skip ?_
          show AWp _ _ _ _
          refine AWp.goLast [0, 1, 2, 8, 9, 10] [] fun K hK => ?_
          simp
          first | refine hK _ _ ?_ | refine ⟨by omega, hK _ _ ?_⟩ | refine ⟨by omega, by omega, hK _ _ ?_⟩
          clear hK K
          show AWp _ _ _ _
          refine AWp.goLast [0, 1, 2, 8, 9, 10] [] fun K hK => ?_
          simp
          first | refine hK _ _ ?_ | refine ⟨by omega, hK _ _ ?_⟩ | refine ⟨by omega, by omega, hK _ _ ?_⟩
          clear hK K
          refine ⟨m + 1, by omega, by omega, ?_⟩
          rw [hsucc]
          first | rw [act9_none hA hD] | rw [act9_add hA hD] | rw [act9_drop hA]
          simp
          exact wrap64 (by omega) (by omega)
      · refine AWp.cond (t := true) (by simp) (fun _ => ?_) (by simp)
        refine AWp.lastD 19 (fun k0 => if k0 = 13 then .tup [.sl .fro 3 (entsAV (dropS S x.key e.dot e.past)), .i .i64 0] else .any) [0, 1, 2, 8, 9, 10, 11, 12, 13] [11] [(0, .sl .fro 4 (evsAV o)), (1, .i .i64 thing), (2, .b clean), (8, .sl .fro 3 (entsAV S)), (9, .i .i64 i), (10, .i .i64 m), (11, .ptr 11 0), (12, .i .i64 0), (13, .sl .fro 3 (entsAV (dropS S x.key e.dot e.past)))] [(11, [.i .i64 x.kind, .i .i64 x.thing, .s x.key, .i .i64 x.num, .i .i64 x.dest, .s x.word])] mix (by kernel_rfl) ?_ ?_
        · simp [h, ← hee]
          exact gD
        show AWp _ _ _ _
        refine AWp.seq ?_
        refine AWp.stepD 20 (fun k0 => if k0 = 17 then .b (doesB e 2 thing x.key) else .any) [0, 1, 2, 8, 9, 10, 11, 12, 13, 89] [11] [(0, .sl .fro 4 (evsAV o)), (1, .i .i64 thing), (2, .b clean), (8, .sl .fro 3 (entsAV S)), (9, .i .i64 i), (10, .i .i64 m), (11, .ptr 11 0), (12, .i .i64 0), (13, .sl .fro 3 (entsAV (dropS S x.key e.dot e.past))), (89, .b false)] [(11, [.i .i64 x.kind, .i .i64 x.thing, .s x.key, .i .i64 x.num, .i .i64 x.dest, .s x.word])] mix (by kernel_rfl) ?_ ?_
        · simp only [Bool.and_eq_true, decide_eq_true_eq] at hA
          simp [hA.1, hA.2]
        refine AWp.cond (t := false) (by first | (simp; done) | (simp; omega)) (by simp) (fun _ => ?_)
        refine AWp.skip ?_
        show AWp _ _ _ _
        refine AWp.seq ?_
        refine AWp.go [0, 1, 2, 8, 9, 10, 13, 108] [] fun K hK => ?_
        simp
        first | refine hK _ _ ?_ | refine ⟨by omega, hK _ _ ?_⟩ | refine ⟨by omega, by omega, hK _ _ ?_⟩
        clear hK K
        refine AWp.cond (t := false) (by first | (simp; done) | (simp; omega)) (by simp) (fun _ => ?_)
        refine AWp.skip ?_
        show AWp _ _ _ _
        refine AWp.goLast [0, 1, 2, 8, 9, 10] [] fun K hK => ?_
        simp
        first | refine hK _ _ ?_ | refine ⟨by omega, hK _ _ ?_⟩ | refine ⟨by omega, by omega, hK _ _ ?_⟩
        clear hK K
        show AWp _ _ _ _
        refine AWp.goLast [0, 1, 2, 8, 9, 10] [] fun K hK => ?_
        simp
        first | refine hK _ _ ?_ | refine ⟨by omega, hK _ _ ?_⟩ | refine ⟨by omega, by omega, hK _ _ ?_⟩
        clear hK K
        refine ⟨m + 1, by omega, by omega, ?_⟩
        rw [hsucc]
        first | rw [act9_none hA hD] | rw [act9_add hA hD] | rw [act9_drop hA]
        simp
        exact wrap64 (by omega) (by omega)
    · refine AWp.cond (t := false) (by first | (simp [h2]; done) | (simp [h2]; omega)) (by simp) (fun _ => ?_)
      refine AWp.exit ?_
      show AWp _ _ _ _
      obtain rfl : m = e.effs.length := by omega
      have hsucc0 := fold9_succ thing clean o i h
      rw [← hee] at hsucc0
      have hWn := (hWi.acts heo thing _ (Nat.le_refl _) (by have := hf.2.2.2.2; omega))
      obtain ⟨S, hS⟩ : ∃ S, S = acts9 thing e (fold9 thing clean o i) e.effs.length := ⟨_, rfl⟩
      rw [← hS] at hsucc0 hWn ⊢
      have w1 : IntKind.i64.wrap ((i : Int) + 1) = (i : Int) + 1 := wrap64 (by omega) (by omega)
      have w2 : IntKind.i64.wrap ((i : Int) + 2) = (i : Int) + 2 := wrap64 (by omega) (by omega)
      refine AWp.step [0, 1, 2, 8, 9, 118] [] [(0, .sl .fro 4 (evsAV o)), (1, .i .i64 thing), (2, .b clean), (8, .sl .fro 3 (entsAV S)), (9, .i .i64 i), (118, .b (clean && decide (i + 1 < o.length)))] [] ?_ ?_
      · cases clean
        · simp
        · simp [w1]
          omega
      cases hC : clean && decide (i + 1 < o.length)
      · refine AWp.cond (t := false) (by simp) (by simp) (fun _ => ?_)
        refine AWp.skip ?_
        show AWp _ _ _ _
        refine AWp.goLast [0, 1, 2, 8, 9] [] fun K hK => ?_
        simp
        first | refine hK _ _ ?_ | refine ⟨by omega, hK _ _ ?_⟩ | refine ⟨by omega, by omega, hK _ _ ?_⟩
        clear hK K
        refine ⟨i + 1, by omega, by omega, ?_⟩
        rw [hsucc0, tidy9, hC]
        simp
        exact w1
      · refine AWp.cond (t := true) (by simp) (fun _ => ?_) (by simp)
        have hC2 : i + 1 < o.length := by
          simp only [Bool.and_eq_true, decide_eq_true_eq] at hC
          exact hC.2
        have hks := known_spec hok i hC2
        refine AWp.step [0, 1, 2, 8, 9, 14] [] [(0, .sl .fro 4 (evsAV o)), (1, .i .i64 thing), (2, .b clean), (8, .sl .fro 3 (entsAV S)), (9, .i .i64 i), (14, .sl .fro 1 (intsAV (knownTo o i 0)))] [] ?_ ?_
        · rw [knownTo_zero o i hC2]
          simp [w1, hC2]
          omega
        refine AWp.seq ?_
        refine AWp.go [0, 1, 2, 8, 9, 14, 15] [] fun K hK => ?_
        simp [w2]
        first | refine hK _ _ ?_ | refine ⟨by omega, hK _ _ ?_⟩ | refine ⟨by omega, by omega, hK _ _ ?_⟩
        clear hK K
        refine AWp.block (AWp.while (fun j : Nat => [(0, .sl .fro 4 (evsAV o)), (1, .i .i64 thing), (2, .b clean), (8, .sl .fro 3 (entsAV S)), (9, .i .i64 i), (14, .sl .fro 1 (intsAV (knownTo o i (j - (i + 2))))), (15, .i .i64 j)]) (fun j => []) (fun j => i + 2 ≤ j ∧ j ≤ o.length) (fun j => o.length - j) [0, 1, 2, 8, 9, 14, 15] [] (i + 2) (by simp; omega) (by simp) ?_)
        rintro j ⟨hj1, hj2⟩
        refine AWp.seq ?_
        refine AWp.go [0, 1, 2, 8, 9, 14, 15, 130] [] fun K hK => ?_
        simp
        first | refine hK _ _ ?_ | refine ⟨by omega, hK _ _ ?_⟩ | refine ⟨by omega, by omega, hK _ _ ?_⟩
        clear hK K
        by_cases h5 : j < o.length
        · refine AWp.cond (t := true) (by first | (simp [h5]; done) | (simp [h5]; omega)) (fun _ => ?_) (by simp)
          refine AWp.skip ?_
          show AWp _ _ _ _
          refine AWp.seq ?_
          refine AWp.block ?_
          have hkn := (hks (j - (i + 2)) (by omega)).1
          have hkl := clockOk_len hkn
          have hpn := evOk_past (hok _ (List.getElem_mem h5))
          have gM := (c_ref03_Meet (knownTo o i (j - (i + 2))) o[j].past (by omega) (by omega)).fro
          rw [← knownTo_at o i j hj1 h5] at gM
          simp at gM
          refine AWp.goLast [0, 1, 2, 8, 9, 14, 15] [] fun K hK => ?_
          simp [h5]
          refine call_pure gM (by simp) ?_
          simp
          first | refine hK _ _ ?_ | refine ⟨by omega, hK _ _ ?_⟩ | refine ⟨by omega, by omega, hK _ _ ?_⟩
          clear hK K
          show AWp _ _ _ _
          refine AWp.goLast [0, 1, 2, 8, 9, 14, 15] [] fun K hK => ?_
          simp
          first | refine hK _ _ ?_ | refine ⟨by omega, hK _ _ ?_⟩ | refine ⟨by omega, by omega, hK _ _ ?_⟩
          clear hK K
          refine ⟨j + 1, ⟨by omega, by omega⟩, by omega, ?_⟩
          simp
          exact wrap64 (by omega) (by omega)
        · refine AWp.cond (t := false) (by first | (simp [h5]; done) | (simp [h5]; omega)) (by simp) (fun _ => ?_)
          refine AWp.exit ?_
          show AWp _ _ _ _
          obtain rfl : j = o.length := by omega
          have hka := known_all hok i hC2
          have hkl := clockOk_len hka.1
          have gC := (c_rwset_Clean S (knownTo o i (o.length - (i + 2))) (hWn.2.fine (by have := hf.2.2.2.2; omega)) (by omega)).fro
          rw [show cleanN S (knownTo o i (o.length - (i + 2))) = 0 by simp [cleanN, hWn.1, hka.1]] at gC
          simp at gC
          refine AWp.go [0, 1, 2, 8, 9, 16, 17] [] fun K hK => ?_
          simp
          refine call_pure gC (by simp) ?_
          simp
          first | refine hK _ _ ?_ | refine ⟨by omega, hK _ _ ?_⟩ | refine ⟨by omega, by omega, hK _ _ ?_⟩
          clear hK K
          refine AWp.seq ?_
          refine AWp.go [0, 1, 2, 8, 9, 16, 147] [] fun K hK => ?_
          simp
          first | refine hK _ _ ?_ | refine ⟨by omega, hK _ _ ?_⟩ | refine ⟨by omega, by omega, hK _ _ ?_⟩
          clear hK K
          refine AWp.cond (t := false) (by first | (simp; done) | (simp; omega)) (by simp) (fun _ => ?_)
          refine AWp.skip ?_
          show AWp _ _ _ _
          refine AWp.goLast [0, 1, 2, 8, 9] [] fun K hK => ?_
          simp
          first | refine hK _ _ ?_ | refine ⟨by omega, hK _ _ ?_⟩ | refine ⟨by omega, by omega, hK _ _ ?_⟩
          clear hK K
          show AWp _ _ _ _
          refine AWp.goLast [0, 1, 2, 8, 9] [] fun K hK => ?_
          simp
          first | refine hK _ _ ?_ | refine ⟨by omega, hK _ _ ?_⟩ | refine ⟨by omega, by omega, hK _ _ ?_⟩
          clear hK K
          refine ⟨i + 1, by omega, by omega, ?_⟩
          rw [hsucc0, tidy9, hC]
          simp
          exact w1
  · refine AWp.cond (t := false) (by first | (simp [h]; done) | (simp [h]; omega)) (by simp) (fun _ => ?_)
    refine AWp.exit ?_
    show AWp _ _ _ _
    obtain rfl : i = o.length := by omega
    refine AWp.go [6, 7] [] fun K hK => ?_
    simp
    first | refine hK _ _ ?_ | refine ⟨by omega, hK _ _ ?_⟩ | refine ⟨by omega, by omega, hK _ _ ?_⟩
    clear hK K
    refine AWp.ret ?_
    simp
end Go.AM
namespace Go.AM
open Go.Proofs
set_option maxRecDepth 8000 in
set_option maxHeartbeats 4000000 in
theorem c_RwsetFolds (l : List Ev) (turns : List Int) (thing : Int) (hlen : l.length ≤ 9223372036854775807) (hw : Wide l) (htl : turns.length ≤ 9223372036854775807) (ht : ∀ x ∈ turns, 0 ≤ x ∧ x < 256) : Pure Try.prog 8 [.sl .fro 4 (evsAV l), .sl .fro 1 (u8sAV turns), .i .i64 thing] (.b true) := by
  have gw := c_law09_awake
  refine proc_of (cx Try.prog 105 [0, 1, 2, 6, 7, 8, 9, 10, 11, 12, 13, 14, 15, 28, 49, 59] [6]) 102 [.tmp 6] Try.func8 rfl rfl rfl rfl rfl rfl (Nat.le_refl _) rfl ?_
  refine AWp.go [0, 1, 2] [] fun K hK => ?_
  simp
  first | refine hK _ _ ?_ | refine ⟨by omega, hK _ _ ?_⟩ | refine ⟨by omega, by omega, hK _ _ ?_⟩
  clear hK K
  refine AWp.seq ?_
  refine AWp.step [0, 1, 2, 28] [] [(0, .sl .fro 4 (evsAV l)), (1, .sl .fro 1 (u8sAV turns)), (2, .i .i64 thing), (28, .b (!(!decide ((14 : Int) < l.length) && !decide ((60 : Int) < turns.length) && wholeB l)))] [] ?_ ?_
  · by_cases q1 : (14 : Int) < l.length
    · simp [q1]
    by_cases q2 : (60 : Int) < turns.length
    · simp [q1, q2]
    have g1 := c_law08_Whole l (by omega) hw
    simp [q1, q2]
    refine call_pure g1 (by simp) ?_
    simp
  cases hg : !decide ((14 : Int) < l.length) && !decide ((60 : Int) < turns.length) && wholeB l
  · refine AWp.cond (t := true) (by simp) (fun _ => ?_) (by simp)
    refine AWp.go [6] [] fun K hK => ?_
    simp
    refine call_pure gw (by simp) ?_
    simp
    first | refine hK _ _ ?_ | refine ⟨by omega, hK _ _ ?_⟩ | refine ⟨by omega, by omega, hK _ _ ?_⟩
    clear hK K
    refine AWp.ret ?_
    simp
  · refine AWp.cond (t := false) (by simp) (by simp) (fun _ => ?_)
    refine AWp.skip ?_
    show AWp _ _ _ _
    have hG : l.length ≤ 14 ∧ turns.length ≤ 60 ∧ wholeB l = true := by
      simp only [Bool.and_eq_true, Bool.not_eq_true', decide_eq_false_iff_not] at hg
      exact ⟨by omega, by omega, hg.2⟩
    obtain ⟨hl14, ht60, hwh⟩ := hG
    have hgood := good_of hwh
    have hmild : Mild l := fun e he => ⟨evOk_past (hgood.may e he), (hw e he).2⟩
    obtain ⟨s1, s2, s3, s4⟩ := turned_spec hgood ht
    have hlaw := fun clean => fold9_law hl14 s1 hgood s2 s4 thing clean
    have gT := c_law08_Turned l turns (by omega) hmild (by omega) ht
    obtain ⟨o, ho⟩ : ∃ o, o = turned l turns := ⟨_, rfl⟩
    rw [← ho] at s1 s2 s3 s4 gT
    simp only [← ho] at hlaw
    have hok : ∀ e ∈ o, evOk e = true := fun e he => hgood.may e ((s2 e).1 he)
    have gF := fun clean => c_law09_fold o thing clean (by omega) hok
    have hW := fun clean => Way9.fold hok thing clean o.length (Nat.le_refl _) (by omega)
    have gP := fun clean => (c_rwset_Plain _ ((hW clean).2.fine (by omega))).fro
    simp only [hlaw] at gP
    obtain ⟨Y, hY⟩ : ∃ Y, Y = fun clean => fold9 thing clean o o.length := ⟨_, rfl⟩
    have hYc : ∀ clean, fold9 thing clean o o.length = Y clean := fun clean => by rw [hY]
    simp only [hYc] at gF gP
    have hwf := (tellTo_told (F := liveR l thing) (fun k => by have := live9To_len l thing k _ (Nat.le_refl _); unfold liveR; omega) (fun e he => (evOk_facts (hgood.may e he)).2.2.2.2))
    have hFl : ∀ k, (liveR l thing k).length ≤ 14 := fun k => by have := live9To_len l thing k _ (Nat.le_refl _); unfold liveR; omega
    obtain ⟨F, hF⟩ : ∃ F, F = liveR l thing := ⟨_, rfl⟩
    have gL : ∀ k, Pure Try.prog 39 [.sl .fro 4 (evsAV l), .i .i64 thing, .s k] (.sl .fro 2 (dotsAV (F k))) := fun k => by rw [hF]; exact c_ref09_Live l thing k (by omega) hmild
    rw [← hF] at hwf hFl
    simp only [← hF] at gP
    simp at gP
    refine AWp.go [0, 2, 7] [] fun K hK => ?_
    simp
    refine call_pure gT (by simp) ?_
    simp
    first | refine hK _ _ ?_ | refine ⟨by omega, hK _ _ ?_⟩ | refine ⟨by omega, by omega, hK _ _ ?_⟩
    clear hK K
    refine AWp.frz [7] ?_
    simp
    refine AWp.go [0, 2, 7, 8, 9] [] fun K hK => ?_
    simp
    refine call_pure (gF false) (by simp) ?_
    simp
    first | refine hK _ _ ?_ | refine ⟨by omega, hK _ _ ?_⟩ | refine ⟨by omega, by omega, hK _ _ ?_⟩
    clear hK K
    refine AWp.go [0, 2, 7, 8, 9, 10, 11] [] fun K hK => ?_
    simp
    refine call_pure (gF true) (by simp) ?_
    simp
    first | refine hK _ _ ?_ | refine ⟨by omega, hK _ _ ?_⟩ | refine ⟨by omega, by omega, hK _ _ ?_⟩
    clear hK K
    refine AWp.go [0, 2, 7, 8, 9, 10, 11, 12] [] fun K hK => ?_
    simp
    first | refine hK _ _ ?_ | refine ⟨by omega, hK _ _ ?_⟩ | refine ⟨by omega, by omega, hK _ _ ?_⟩
    clear hK K
    refine AWp.frz [12] ?_
    simp
    refine AWp.seq ?_
    refine AWp.go [0, 2, 7, 8, 9, 10, 11, 12, 13] [] fun K hK => ?_
    simp
    first | refine hK _ _ ?_ | refine ⟨by omega, hK _ _ ?_⟩ | refine ⟨by omega, by omega, hK _ _ ?_⟩
    clear hK K
    refine AWp.block (AWp.while (fun a : Nat => [(0, .sl .fro 4 (evsAV l)), (2, .i .i64 thing), (7, .sl .fro 4 (evsAV o)), (8, .sl .fro 3 (entsAV (Y false))), (9, .b true), (10, .sl .fro 3 (entsAV (Y true))), (11, .b true), (12, .sl .fro 3 (entsAV (tellTo F l a))), (13, .i .i64 a)]) (fun a => []) (fun a => a ≤ l.length) (fun a => l.length - a) [0, 2, 7, 8, 9, 10, 11, 12, 13] [] 0 (by simp) (by simp [tellTo, entsAV]) ?_)
    intro a ha
    refine AWp.seq ?_
    refine AWp.go [0, 2, 7, 8, 9, 10, 11, 12, 13, 49] [] fun K hK => ?_
    simp
    first | refine hK _ _ ?_ | refine ⟨by omega, hK _ _ ?_⟩ | refine ⟨by omega, by omega, hK _ _ ?_⟩
    clear hK K
    by_cases h : a < l.length
    · refine AWp.cond (t := true) (by first | (simp [h]; done) | (simp [h]; omega)) (fun _ => ?_) (by simp)
      refine AWp.skip ?_
      show AWp _ _ _ _
      refine AWp.seq ?_
      refine AWp.block ?_
      have hTa := hwf a (by omega)
      have h16 := (evOk_facts (hgood.may _ (List.getElem_mem h))).2.2.2.2
      refine AWp.go [0, 2, 7, 8, 9, 10, 11, 12, 13, 14] [] fun K hK => ?_
      simp
      first | refine hK _ _ ?_ | refine ⟨by omega, hK _ _ ?_⟩ | refine ⟨by omega, by omega, hK _ _ ?_⟩
      clear hK K
      refine AWp.block (AWp.while (fun b : Nat => [(0, .sl .fro 4 (evsAV l)), (2, .i .i64 thing), (7, .sl .fro 4 (evsAV o)), (8, .sl .fro 3 (entsAV (Y false))), (9, .b true), (10, .sl .fro 3 (entsAV (Y true))), (11, .b true), (12, .sl .fro 3 (entsAV (tells F (tellTo F l a) l[a] b))), (13, .i .i64 a), (14, .i .i64 b)]) (fun b => []) (fun b => b ≤ l[a].effs.length) (fun b => l[a].effs.length - b) [0, 2, 7, 8, 9, 10, 11, 12, 13, 14] [] 0 (by simp) (by simp [tells]) ?_)
      intro b hb
      refine AWp.seq ?_
      refine AWp.go [0, 2, 7, 8, 9, 10, 11, 12, 13, 14, 59] [] fun K hK => ?_
      simp [h]
      first | refine hK _ _ ?_ | refine ⟨by omega, hK _ _ ?_⟩ | refine ⟨by omega, by omega, hK _ _ ?_⟩
      clear hK K
      by_cases h2 : b < l[a].effs.length
      · refine AWp.cond (t := true) (by first | (simp [h2]; done) | (simp [h2]; omega)) (fun _ => ?_) (by simp)
        refine AWp.skip ?_
        show AWp _ _ _ _
        refine AWp.seq ?_
        refine AWp.block ?_
        refine AWp.go [0, 2, 7, 8, 9, 10, 11, 12, 13, 14, 15] [] fun K hK => ?_
        simp [h, h2]
        first | refine hK _ _ ?_ | refine ⟨by omega, hK _ _ ?_⟩ | refine ⟨by omega, by omega, hK _ _ ?_⟩
        clear hK K
        have hTb := hTa.tells hFl (by omega) l[a] b (by omega)
        have hbl := hTb.2.1.1
        have gU := (c_ref08_Put (tells F (tellTo F l a) l[a] b) ⟨l[a].effs[b].key, F l[a].effs[b].key, []⟩ (by omega) ⟨by have := hFl l[a].effs[b].key; dsimp only; omega, by simp⟩).fro
        rw [← tells_succ F _ l[a] b h2] at gU
        simp [entC, show dotsAV [] = [] from rfl] at gU
        refine AWp.goLast [0, 2, 7, 8, 9, 10, 11, 12, 13, 14] [] fun K hK => ?_
        simp
        refine call_pure (gL l[a].effs[b].key) (by simp) ?_
        simp
        refine call_pure gU (by simp) ?_
        simp
        first | refine hK _ _ ?_ | refine ⟨by omega, hK _ _ ?_⟩ | refine ⟨by omega, by omega, hK _ _ ?_⟩
        clear hK K
        show AWp _ _ _ _
        refine AWp.goLast [0, 2, 7, 8, 9, 10, 11, 12, 13, 14] [] fun K hK => ?_
        simp
        first | refine hK _ _ ?_ | refine ⟨by omega, hK _ _ ?_⟩ | refine ⟨by omega, by omega, hK _ _ ?_⟩
        clear hK K
        refine ⟨b + 1, by omega, by omega, ?_⟩
        simp
        exact wrap64 (by omega) (by omega)
      · refine AWp.cond (t := false) (by first | (simp [h2]; done) | (simp [h2]; omega)) (by simp) (fun _ => ?_)
        refine AWp.exit ?_
        show AWp _ _ _ _
        refine AWp.goLast [0, 2, 7, 8, 9, 10, 11, 12, 13] [] fun K hK => ?_
        simp
        first | refine hK _ _ ?_ | refine ⟨by omega, hK _ _ ?_⟩ | refine ⟨by omega, by omega, hK _ _ ?_⟩
        clear hK K
        refine ⟨a + 1, by omega, by omega, ?_⟩
        obtain rfl : b = l[a].effs.length := by omega
        rw [tellTo_succ F l a h]
        simp
        exact wrap64 (by omega) (by omega)
    · refine AWp.cond (t := false) (by first | (simp [h]; done) | (simp [h]; omega)) (by simp) (fun _ => ?_)
      refine AWp.exit ?_
      show AWp _ _ _ _
      obtain rfl : a = l.length := by omega
      have hTn := (hwf l.length (Nat.le_refl _)).2.1.fine (by omega)
      have gS := c_ref08_Same _ _ hTn hTn
      rw [sameB_refl] at gS
      refine AWp.step [6] [] [(6, .b true)] [] ?_ ?_
      · simp [s1]
        refine call_pure gP.1 (by simp) ?_
        simp
        refine call_pure gS (by simp) ?_
        simp
        refine call_pure gP.2 (by simp) ?_
        simp
        refine call_pure gS (by simp) ?_
        simp
        refine call_pure gw (by simp) ?_
        simp
      refine AWp.ret ?_
      simp
end Go.AM
