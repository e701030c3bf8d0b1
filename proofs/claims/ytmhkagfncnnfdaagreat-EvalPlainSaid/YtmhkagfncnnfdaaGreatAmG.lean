/- Plain rules: operations in order; the program's plainest form. -/
import Derived.Test.YtmhkagfncnnfdaaGreatAmF
import Derived.Test.YtmhkagfncnnfdaaGreatAmE
set_option linter.unusedSimpArgs false
set_option linter.unusedVariables false
namespace Go.AM
open Go.Proofs Go.Shelf Go.Sort

theorem c_Clone_Dg (l : List Dg) (hl : l.length ≤ 1000000) : Pure Tryz.prog 93 [.sl .fro 3 (dgsAV l)] (.sl .own 3 (dgsAV l)) := by
  refine proc_of (cx Tryz.prog 8 [0, 2, 4] [2]) 7 [.tmp 2] Tryz.func93 rfl rfl rfl rfl rfl rfl (Nat.le_refl _) rfl ?_
  refine AWp.go [0] [] fun K hK => ?_
  simp
  first | refine hK _ _ ?_ | refine ⟨by omega, hK _ _ ?_⟩ | refine ⟨by omega, by omega, hK _ _ ?_⟩
  clear hK K
  refine AWp.seq ?_
  refine AWp.go [0, 4] [] fun K hK => ?_
  simp
  refine ⟨fun h0 => hK _ _ ?_, hK _ _ ?_⟩
  · clear hK K
    refine AWp.cond (t := true) (by first | (simp; done) | (simp; omega)) (fun _ => ?_) (by simp)
    refine AWp.go [2] [] fun K hK => ?_
    simp
    first | refine hK _ _ ?_ | refine ⟨by omega, hK _ _ ?_⟩ | refine ⟨by omega, by omega, hK _ _ ?_⟩
    clear hK K
    refine AWp.ret ?_
    simp [h0]
  · clear hK K
    refine AWp.cond (t := false) (by first | (simp; done) | (simp; omega)) (by simp) (fun _ => ?_)
    refine AWp.skip ?_
    show AWp _ _ _ _
    refine AWp.go [2] [] fun K hK => ?_
    simp
    first | refine hK _ _ ?_ | refine ⟨by omega, hK _ _ ?_⟩ | refine ⟨by omega, by omega, hK _ _ ?_⟩
    clear hK K
    refine AWp.ret ?_
    simp
def cmpDg (a b : Dg) : Int := orI [cmpI a.kind b.kind, cmpI a.thing b.thing]
set_option maxRecDepth 8000 in
set_option maxHeartbeats 2000000 in
theorem c_norm_does1 (a b : Dg) : Pure Tryz.prog 95 [.agg (dgC a), .agg (dgC b)] (.i .i64 (cmpDg a b)) := by
  have go := c_Or_int [cmpI a.kind b.kind, cmpI a.thing b.thing] (by simp)
  simp [intsAV] at go
  refine proc_of (cx Tryz.prog 17 [2, 3, 4] [4]) 15 [.tmp 4] Tryz.func95 rfl rfl rfl rfl rfl rfl (Nat.le_refl _) rfl ?_
  refine AWp.go [2, 3] [2, 3] fun K hK => ?_
  simp [dgC]
  first | refine hK _ _ ?_ | refine ⟨by omega, hK _ _ ?_⟩ | refine ⟨by omega, by omega, hK _ _ ?_⟩
  clear hK K
  refine AWp.goD 12 (fun k => if k = 4 then .i .i64 (cmpI a.kind b.kind) else if k = 9 then .i .i64 (cmpI a.thing b.thing) else if k = 11 then .i .i64 (cmpDg a b) else .any) [4] [] mix (by kernel_rfl) fun K hK => ?_
  simp [c_Compare_int, go, cmpDg]
  first | refine hK _ _ ?_ | refine ⟨by omega, hK _ _ ?_⟩ | refine ⟨by omega, by omega, hK _ _ ?_⟩
  clear hK K
  refine AWp.ret ?_
  simp [cmpDg]
theorem ltDg (x y : Dg) : ltOf cmpDg x y = true ↔ (x.kind < y.kind ∨ x.kind = y.kind ∧ x.thing < y.thing) := by
  have e : ltOf cmpDg x y = true ↔ cmpDg x y < 0 := by simp [ltOf]
  rw [e, cmpDg, orI_cons, orI_cons]
  simp [orI]
def sortDg (l : List Dg) : List Dg := l.mergeSort fun x y => !(ltOf cmpDg) y x
def ApartD (l : List Dg) : Prop := ∀ x ∈ l, ∀ y ∈ l, x.kind = y.kind → x.thing = y.thing → x = y
end Go.AM
namespace Go.Proofs
def Tryz.sortDg_ren : Go.Shelf.Ren := ⟨fun | 6 => 94 | 15 => 133 | 14 => 135 | 28 => 157 | 29 => 158 | 20 => 159 | 21 => 160 | 22 => 161 | 23 => 162 | 24 => 163 | 25 => 164 | 26 => 165 | 27 => 166 | 46 => 176 | 47 => 172 | 48 => 173 | 49 => 177 | 50 => 178 | 57 => 180 | n => n, fun | 22 => 43 | 24 => 63 | 25 => 114 | 3 => 3 | 39 => 121 | 0 => 0 | 53 => 156 | 55 => 158 | 4 => 4 | 46 => 150 | 45 => 149 | 50 => 88 | 5 => 5 | 9 => 9 | 66 => 167 | 70 => 171 | 76 => 175 | 77 => 176 | n => n, fun | n => n⟩
theorem Tryz.sortDg : Go.Proofs.SlLaysF0.n6 Tryz.prog Tryz.sortDg_ren := {
  mixed := by kernel_rfl,
  f6 := ⟨Tryz.f94.name, by decide, Tryz.func94.trans (congrArg some (by kernel_rfl))⟩,
  f14 := ⟨Tryz.f135.name, by decide, Tryz.func135.trans (congrArg some (by kernel_rfl))⟩,
  f15 := Tryz.func133.trans (congrArg some (by kernel_rfl)),
  f20 := ⟨Tryz.f159.name, by decide, Tryz.func159.trans (congrArg some (by kernel_rfl))⟩,
  f21 := ⟨Tryz.f160.name, by decide, Tryz.func160.trans (congrArg some (by kernel_rfl))⟩,
  f22 := ⟨Tryz.f161.name, by decide, Tryz.func161.trans (congrArg some (by kernel_rfl))⟩,
  f23 := ⟨Tryz.f162.name, by decide, Tryz.func162.trans (congrArg some (by kernel_rfl))⟩,
  f24 := ⟨Tryz.f163.name, by decide, Tryz.func163.trans (congrArg some (by kernel_rfl))⟩,
  f25 := ⟨Tryz.f164.name, by decide, Tryz.func164.trans (congrArg some (by kernel_rfl))⟩,
  f26 := ⟨Tryz.f165.name, by decide, Tryz.func165.trans (congrArg some (by kernel_rfl))⟩,
  f27 := ⟨Tryz.f166.name, by decide, Tryz.func166.trans (congrArg some (by kernel_rfl))⟩,
  f28 := Tryz.func157.trans (congrArg some (by kernel_rfl)),
  f29 := Tryz.func158.trans (congrArg some (by kernel_rfl)),
  f46 := ⟨Tryz.f176.name, by decide, Tryz.func176.trans (congrArg some (by kernel_rfl))⟩,
  f47 := Tryz.func172.trans (congrArg some (by kernel_rfl)),
  f48 := Tryz.func173.trans (congrArg some (by kernel_rfl)),
  f49 := ⟨Tryz.f177.name, by decide, Tryz.func177.trans (congrArg some (by kernel_rfl))⟩,
  f50 := ⟨Tryz.f178.name, by decide, Tryz.func178.trans (congrArg some (by kernel_rfl))⟩,
  f57 := ⟨Tryz.f180.name, by decide, Tryz.func180.trans (congrArg some (by kernel_rfl))⟩,
  t0 := Tryz.underlying0,
  a0 := Tryz.isAgg0,
  z0 := Tryz.sizeOf0,
  v0 := Tryz.zeroValue0,
  t3 := Tryz.underlying3,
  a3 := Tryz.isAgg3,
  z3 := Tryz.sizeOf3,
  v3 := Tryz.zeroValue3,
  t4 := Tryz.underlying4,
  a4 := Tryz.isAgg4,
  z4 := Tryz.sizeOf4,
  v4 := Tryz.zeroValue4,
  t5 := Tryz.underlying5,
  a5 := Tryz.isAgg5,
  z5 := Tryz.sizeOf5,
  v5 := Tryz.zeroValue5,
  t9 := Tryz.underlying9,
  a9 := Tryz.isAgg9,
  z9 := Tryz.sizeOf9,
  v9 := Tryz.zeroValue9,
  t22 := Tryz.underlying43,
  a22 := Tryz.isAgg43,
  z22 := Tryz.sizeOf43,
  v22 := Tryz.zeroValue43,
  t25 := Tryz.underlying114,
  a25 := Tryz.isAgg114,
  z25 := Tryz.sizeOf114,
  v25 := Tryz.zeroValue114,
  t39 := Tryz.underlying121,
  a39 := Tryz.isAgg121,
  z39 := Tryz.sizeOf121,
  v39 := Tryz.zeroValue121,
  t45 := Tryz.underlying149,
  a45 := Tryz.isAgg149,
  z45 := Tryz.sizeOf149,
  v45 := Tryz.zeroValue149,
  t46 := Tryz.underlying150,
  a46 := Tryz.isAgg150,
  z46 := Tryz.sizeOf150,
  v46 := Tryz.zeroValue150,
  t50 := Tryz.underlying88,
  a50 := Tryz.isAgg88,
  z50 := Tryz.sizeOf88,
  v50 := Tryz.zeroValue88,
  t53 := Tryz.underlying156,
  a53 := Tryz.isAgg156,
  z53 := Tryz.sizeOf156,
  v53 := Tryz.zeroValue156,
  t55 := Tryz.underlying158,
  a55 := Tryz.isAgg158,
  z55 := Tryz.sizeOf158,
  v55 := Tryz.zeroValue158,
  t66 := Tryz.underlying167,
  a66 := Tryz.isAgg167,
  z66 := Tryz.sizeOf167,
  v66 := Tryz.zeroValue167,
  t70 := Tryz.underlying171,
  a70 := Tryz.isAgg171,
  z70 := Tryz.sizeOf171,
  v70 := Tryz.zeroValue171,
  t76 := Tryz.underlying175,
  a76 := Tryz.isAgg175,
  z76 := Tryz.sizeOf175,
  v76 := Tryz.zeroValue175,
  t77 := Tryz.underlying176,
  a77 := Tryz.isAgg176,
  z77 := Tryz.sizeOf176,
  v77 := Tryz.zeroValue176 }
end Go.Proofs
namespace Go.AM
open Go.Proofs
theorem l_Sort_Dg (l : List Dg) (hl : l.length < 4611686018427387904) (h0 : l ≠ []) (ha : ApartD l) : LProc Tryz.prog 94 3 (dgsAV l) [.fn 95 [] []] (dgsAV (sortDg l)) := by
  obtain ⟨x0, hx0⟩ := List.exists_mem_of_ne_nil l h0
  have iα : Inhabited {d : Dg // d ∈ l} := ⟨⟨x0, hx0⟩⟩
  have := lproc_sortP (α := {d : Dg // d ∈ l}) (fun d => dgC d.1) Tryz.sortDg 3 (by omega) Tryz.isAgg63 Tryz.sizeOf63 (fun _ => rfl) (fun x c hc => by simp [dgC] at hc; rcases hc with rfl | rfl | rfl <;> rfl) (fun x y => cmpDg x.1 y.1)
    { irrefl := fun x => by show ltOf cmpDg x.1 x.1 = false; rw [Bool.eq_false_iff]; intro h; rw [ltDg] at h; omega
      trans := fun x y z h1 h2 => by
        change ltOf cmpDg x.1 y.1 = true at h1
        change ltOf cmpDg y.1 z.1 = true at h2
        show ltOf cmpDg x.1 z.1 = true
        rw [ltDg] at *; omega
      ntrans := fun x y z h1 h2 => by
        change ltOf cmpDg x.1 y.1 = false at h1
        change ltOf cmpDg y.1 z.1 = false at h2
        show ltOf cmpDg x.1 z.1 = false
        rw [Bool.eq_false_iff, ne_eq, ltDg] at *
        omega }
    (fun x y h1 h2 => by
      change ltOf cmpDg x.1 y.1 = false at h1
      change ltOf cmpDg y.1 x.1 = false at h2
      rw [Bool.eq_false_iff, ne_eq, ltDg] at *
      exact Subtype.ext (ha _ x.2 _ y.2 (by omega) (by omega))) 95 (fun args w => enters_of Tryz.func95 (by kernel_rfl) rfl args w) (fun x y => c_norm_does1 x.1 y.1) l.attach (by simpa using hl)
  have e1 : l.attach.map (fun d => dgC d.1) = dgsAV l := by
    show l.attach.map (dgC ∘ Subtype.val) = _
    rw [← List.map_map, List.attach_map_subtype_val]
    rfl
  have e2 : (l.attach.mergeSort fun x y => !(ltOf fun x y : {d : Dg // d ∈ l} => cmpDg x.1 y.1) y x).map (fun d => dgC d.1) = dgsAV (sortDg l) := by
    show List.map (dgC ∘ Subtype.val) _ = _
    rw [← List.map_map, List.map_mergeSort (f := Subtype.val) (r := fun x y : {d : Dg // d ∈ l} => !(ltOf fun x y : {d : Dg // d ∈ l} => cmpDg x.1 y.1) y x) (s := fun x y => !(ltOf cmpDg) y x) (fun a _ b _ => rfl), List.attach_map_subtype_val]
    rfl
  rw [e1, e2] at this
  exact this
theorem opB_apart {r : Rul} {o : Opn} (h : opB r o = true) : ApartD o.does ∧ o.does ≠ [] ∧ o.does.length ≤ 16 := by
  simp only [opB, Bool.and_eq_true, inB, decide_eq_true_eq, List.all_eq_true] at h
  refine ⟨fun x hx y hy e1 e2 => ?_, fun e => by rw [e] at h; simp at h, by omega⟩
  obtain ⟨i, hi, rfl⟩ := List.mem_iff_getElem.1 hx
  obtain ⟨j, hj, rfl⟩ := List.mem_iff_getElem.1 hy
  have hk : toK o.does[i] = toK o.does[j] := by unfold toK; rw [e1, e2]
  have key : ∀ a b (ha : a < o.does.length) (hb : b < o.does.length), a < b → toK o.does[a] = toK o.does[b] → False := fun a b ha hb hab he => by
    have := h.2 b (by simpa using hb)
    rw [oprAt_at r hb, Bool.and_eq_true, Bool.not_eq_true', didB] at this
    have h2 : (o.does.take b).any (fun x => decide (toK x = toK o.does[b])) = true := List.any_eq_true.2 ⟨o.does[a], by
      rw [List.mem_take_iff_getElem]; exact ⟨a, by omega, rfl⟩, by simpa using he⟩
    rw [h2] at this
    cases this.2
  rcases Nat.lt_trichotomy i j with hij | hij | hij
  · exact (key i j hi hj hij hk).elim
  · subst hij; rfl
  · exact (key j i hj hi hij hk.symm).elim
theorem sortDg_len (l : List Dg) : (sortDg l).length = l.length := by simp [sortDg, List.length_mergeSort]
set_option maxRecDepth 8000 in
theorem c_norm_does (l : List Dg) (hl : l.length ≤ 100000) (h0 : l ≠ []) (ha : ApartD l) : Pure Tryz.prog 49 [.sl .fro 3 (dgsAV l)] (.sl .own 3 (dgsAV (sortDg l))) := by
  refine proc_of (cx Tryz.prog 9 [0, 2, 3] [2]) 8 [.tmp 2] Tryz.func49 rfl rfl rfl rfl rfl rfl (Nat.le_refl _) rfl ?_
  refine AWp.go [0] [] fun K hK => ?_
  simp
  first | refine hK _ _ ?_ | refine ⟨by omega, hK _ _ ?_⟩ | refine ⟨by omega, by omega, hK _ _ ?_⟩
  clear hK K
  refine AWp.go [3] [] fun K hK => ?_
  simp
  refine call_pure (c_Clone_Dg l (by omega)) (by simp) ?_
  simp
  first | refine hK _ _ ?_ | refine ⟨by omega, hK _ _ ?_⟩ | refine ⟨by omega, by omega, hK _ _ ?_⟩
  clear hK K
  refine AWp.step [3] [] [(3, .sl .own 3 (dgsAV (sortDg l)))] [] ?_ ?_
  · simp
    refine call_lend (l_Sort_Dg l (by omega) h0 ha) ⟨_, rfl, rfl, rfl⟩ (by simpa [dgsAV] using h0) (by simp) (by simp) ?_
    simp
  refine AWp.go [2] [] fun K hK => ?_
  simp
  first | refine hK _ _ ?_ | refine ⟨by omega, hK _ _ ?_⟩ | refine ⟨by omega, by omega, hK _ _ ?_⟩
  clear hK K
  refine AWp.ret ?_
  simp
def sortO (o : Opn) : Opn := ⟨o.name, sortDg o.does⟩
def plainP (r : Rul) : Rul := ⟨r.sets, r.counts, r.notes, clausesP r.cls, r.opers.map sortO⟩
def emptyR : Rul := ⟨[], [], [], [], []⟩
def normR (r : Rul) : Rul := if rulesB r then plainP r else emptyR
theorem opnsAV_snoc (l : List Opn) (o : Opn) : opnsAV (l ++ [o]) = opnsAV l ++ [[.s o.name, .sl .fro 3 (dgsAV o.does)]] := by unfold opnsAV; rw [List.map_append]; rfl
set_option maxRecDepth 8000 in
set_option maxHeartbeats 8000000 in
theorem c_norm_Plain (r : Rul) (hr : Slim r) : Pure Tryz.prog 17 [.agg (rulC r)] (.tup [.agg [.sl .fro 1 (strsAV (normR r).sets), .sl .fro 1 (strsAV (normR r).counts), .sl .fro 1 (strsAV (normR r).notes), .sl .fro 5 (clsAV (normR r).cls), .sl .own 2 (opnsAV (normR r).opers)], .i .i64 (if rulesB r then 0 else 1)]) := by
  have gC := c_sorts_Check r hr
  simp [rulC] at gC
  obtain ⟨⟨k1, k2, k3, k4, k5⟩, -, -⟩ := id hr
  refine proc_of (cx Tryz.prog 47 [1, 2, 3, 4, 5, 7, 11, 28, 29, 30, 31] [2, 3]) 46 [.cell 2 26, .tmp 3] Tryz.func17 rfl rfl rfl rfl rfl rfl (Nat.le_refl _) rfl ?_
  refine AWp.go [1, 2] [1, 2] fun K hK => ?_
  simp [rulC]
  first | refine hK _ _ ?_ | refine ⟨by omega, hK _ _ ?_⟩ | refine ⟨by omega, by omega, hK _ _ ?_⟩
  clear hK K
  refine AWp.seq ?_
  refine AWp.go [1, 2, 4] [1, 2] fun K hK => ?_
  simp
  refine call_pure gC (by simp) ?_
  simp
  first | refine hK _ _ ?_ | refine ⟨by omega, hK _ _ ?_⟩ | refine ⟨by omega, by omega, hK _ _ ?_⟩
  clear hK K
  refine AWp.step [1, 2, 4, 11] [1, 2] [(1, .ptr 1 0), (2, .ptr 2 0), (4, .i .i64 (if rulesB r then 0 else 1)), (11, .b (!rulesB r))] [(1, [.sl .fro 1 (strsAV r.sets), .sl .fro 1 (strsAV r.counts), .sl .fro 1 (strsAV r.notes), .sl .fro 5 (clsAV r.cls), .sl .fro 2 (opnsAV r.opers)]), (2, [.sl .nl 1 [], .sl .nl 1 [], .sl .nl 1 [], .sl .nl 5 [], .sl .nl 2 []])] ?_ ?_
  · cases rulesB r <;> simp
  cases hh : rulesB r
  · refine AWp.cond (t := true) (by simp) (fun _ => ?_) (by simp)
    refine AWp.step [2, 3] [1, 2] [(2, .ptr 2 0), (3, .i .i64 1)] [(1, [.sl .fro 1 (strsAV r.sets), .sl .fro 1 (strsAV r.counts), .sl .fro 1 (strsAV r.notes), .sl .fro 5 (clsAV r.cls), .sl .fro 2 (opnsAV r.opers)]), (2, [.sl .nl 1 [], .sl .nl 1 [], .sl .nl 1 [], .sl .nl 5 [], .sl .nl 2 []])] ?_ ?_
    · simp [hh]
    refine AWp.ret ?_
    simp [normR, hh, emptyR, strsAV, clsAV, opnsAV]
  · refine AWp.cond (t := false) (by simp) (by simp) (fun _ => ?_)
    refine AWp.skip ?_
    show AWp _ _ _ _
    have hopB : ∀ o ∈ r.opers, opB r o = true := by
      have h2 := hh
      simp only [rulesB, Bool.and_eq_true, List.all_eq_true] at h2
      exact h2.2
    have hN : normR r = plainP r := by rw [normR, if_pos hh]
    rw [hN]
    have gc1 := (c_Clone_Str r.sets (by omega)).fro
    have gc2 := (c_Clone_Str r.counts (by omega)).fro
    have gc3 := (c_Clone_Str r.notes (by omega)).fro
    have gc4 := (c_norm_clauses r.cls (by omega)).fro
    simp at gc1 gc2 gc3 gc4
    refine AWp.goA 14 (fun k => if k = 2 then .sl .fro 1 (strsAV r.sets) else if k = 5 then .sl .fro 1 (strsAV r.counts) else if k = 8 then .sl .fro 1 (strsAV r.notes) else if k = 11 then .sl .fro 5 (clsAV (clausesP r.cls)) else .any) [1, 2, 5] [1, 2, 5] mix (by kernel_rfl) fun K hK => ?_
    simp [gc1, gc2, gc3, gc4]
    first | refine hK _ _ ?_ | refine ⟨by omega, hK _ _ ?_⟩ | refine ⟨by omega, by omega, hK _ _ ?_⟩
    clear hK K
    refine AWp.seq ?_
    refine AWp.go [2, 5, 28, 29, 30] [1, 2, 5] fun K hK => ?_
    simp
    first | refine hK _ _ ?_ | refine ⟨by omega, hK _ _ ?_⟩ | refine ⟨by omega, by omega, hK _ _ ?_⟩
    clear hK K
    refine AWp.block (AWp.while (fun i : Nat => [(2, .ptr 2 0), (5, .ptr 5 0), (28, .sl .fro 2 (opnsAV r.opers)), (29, .i .i64 r.opers.length), (30, .i .i64 i)]) (fun i => [(1, [.sl .fro 1 (strsAV r.sets), .sl .fro 1 (strsAV r.counts), .sl .fro 1 (strsAV r.notes), .sl .fro 5 (clsAV r.cls), .sl .fro 2 (opnsAV r.opers)]), (2, [.sl .nl 1 [], .sl .nl 1 [], .sl .nl 1 [], .sl .nl 5 [], .sl .nl 2 []]), (5, [.sl .fro 1 (strsAV r.sets), .sl .fro 1 (strsAV r.counts), .sl .fro 1 (strsAV r.notes), .sl .fro 5 (clsAV (clausesP r.cls)), .sl .own 2 (opnsAV ((r.opers.map sortO).take i))])]) (fun i => i ≤ r.opers.length) (fun i => r.opers.length - i) [2, 5, 28, 29, 30] [1, 2, 5] 0 (by simp) (by simp [opnsAV]) ?_)
    intro i hi
    refine AWp.go [2, 5, 28, 29, 30, 31] [1, 2, 5] fun K hK => ?_
    simp
    first | refine hK _ _ ?_ | refine ⟨by omega, hK _ _ ?_⟩ | refine ⟨by omega, by omega, hK _ _ ?_⟩
    clear hK K
    refine AWp.seq ?_
    by_cases h : i < r.opers.length
    · refine AWp.cond (t := true) (by first | (simp [h]; done) | (simp [h]; omega)) (fun _ => ?_) (by simp)
      refine AWp.skip ?_
      show AWp _ _ _ _
      refine AWp.seq ?_
      refine AWp.block ?_
      refine AWp.go [2, 5, 7, 28, 29, 30] [1, 2, 5, 7] fun K hK => ?_
      simp [h]
      first | refine hK _ _ ?_ | refine ⟨by omega, hK _ _ ?_⟩ | refine ⟨by omega, by omega, hK _ _ ?_⟩
      clear hK K
      obtain ⟨ha, h0, h16⟩ := opB_apart (hopB _ (List.getElem_mem h))
      have hsn : opnsAV ((r.opers.map sortO).take (i + 1)) = opnsAV ((r.opers.map sortO).take i) ++ [[.s r.opers[i].name, .sl .fro 3 (dgsAV (sortDg r.opers[i].does))]] := by
        rw [List.take_succ_eq_append_getElem (by simpa using h), List.getElem_map, opnsAV_snoc]; rfl
      have gd := (c_norm_does r.opers[i].does (by omega) h0 ha).fro
      simp at gd
      refine AWp.lastA 9 (fun k => if k = 6 then .sl .fro 3 (dgsAV (sortDg r.opers[i].does)) else .any) [2, 5, 28, 29, 30] [1, 2, 5, 7] [(2, .ptr 2 0), (5, .ptr 5 0), (28, .sl .fro 2 (opnsAV r.opers)), (29, .i .i64 r.opers.length), (30, .i .i64 i)] [(1, [.sl .fro 1 (strsAV r.sets), .sl .fro 1 (strsAV r.counts), .sl .fro 1 (strsAV r.notes), .sl .fro 5 (clsAV r.cls), .sl .fro 2 (opnsAV r.opers)]), (2, [.sl .nl 1 [], .sl .nl 1 [], .sl .nl 1 [], .sl .nl 5 [], .sl .nl 2 []]), (5, [.sl .fro 1 (strsAV r.sets), .sl .fro 1 (strsAV r.counts), .sl .fro 1 (strsAV r.notes), .sl .fro 5 (clsAV (clausesP r.cls)), .sl .own 2 (opnsAV ((r.opers.map sortO).take (i + 1)))]), (7, [.s r.opers[i].name, .sl .fro 3 (dgsAV r.opers[i].does)])] mix (by kernel_rfl) ?_ ?_
      · simp [gd, hsn]
        omega
      show AWp _ _ _ _
      refine AWp.goLast [2, 5, 28, 29, 30] [1, 2, 5] fun K hK => ?_
      simp
      first | refine hK _ _ ?_ | refine ⟨by omega, hK _ _ ?_⟩ | refine ⟨by omega, by omega, hK _ _ ?_⟩
      clear hK K
      refine ⟨i + 1, by omega, by omega, ?_⟩
      simp
      exact wrap64 (by omega) (by omega)
    · refine AWp.cond (t := false) (by first | (simp [h]; done) | (simp [h]; omega)) (by simp) (fun _ => ?_)
      refine AWp.exit ?_
      show AWp _ _ _ _
      obtain rfl : i = r.opers.length := by omega
      rw [List.take_of_length_le (by simp)]
      refine AWp.go [2, 3] [1, 2, 5] fun K hK => ?_
      simp
      first | refine hK _ _ ?_ | refine ⟨by omega, hK _ _ ?_⟩ | refine ⟨by omega, by omega, hK _ _ ?_⟩
      clear hK K
      refine AWp.ret ?_
      simp [plainP, hh]
end Go.AM
namespace Go.AM
open Go.Proofs
theorem Dg.eq_iff (a b : Dg) : a = b ↔ a.kind = b.kind ∧ a.thing = b.thing ∧ a.num = b.num := by
  cases a; cases b; simp
instance : DecidableEq Dg := fun a b => decidable_of_iff _ (Dg.eq_iff a b).symm
theorem Opn.eq_iff (a b : Opn) : a = b ↔ a.name = b.name ∧ a.does = b.does := by
  cases a; cases b; simp
instance : DecidableEq Opn := fun a b => decidable_of_iff _ (Opn.eq_iff a b).symm
theorem Rul.eq_iff (a b : Rul) : a = b ↔ a.sets = b.sets ∧ a.counts = b.counts ∧ a.notes = b.notes ∧ a.cls = b.cls ∧ a.opers = b.opers := by
  cases a; cases b; simp
instance : DecidableEq Rul := fun a b => decidable_of_iff _ (Rul.eq_iff a b).symm
@[simp] theorem try_eqDg : flatEq Tryz.prog 63 = some [.int .i64, .int .i64, .int .i64] := by kernel_rfl
theorem normR_slight {r : Rul} (hr : Slim r) : Slight (normR r) ∧ ∀ o ∈ (normR r).opers, o.does.length ≤ 1000 := by
  unfold normR
  split
  · obtain ⟨⟨k1, k2, k3, k4, k5⟩, hd, -⟩ := hr
    refine ⟨⟨k1, k2, k3, ?_, ?_⟩, fun o ho => ?_⟩
    · have h1 := allCl_len r.cls
      have h2 : (clausesP r.cls).length ≤ (allCl r.cls).length := List.length_filter_le ..
      show (clausesP r.cls).length ≤ 100
      omega
    · show (r.opers.map sortO).length ≤ 100
      simpa using k5
    · obtain ⟨o', ho', rfl⟩ := List.mem_map.1 ho
      show (sortDg o'.does).length ≤ 1000
      rw [sortDg_len]; exact hd _ ho'
  · exact ⟨⟨by simp [emptyR], by simp [emptyR], by simp [emptyR], by simp [emptyR], by simp [emptyR]⟩, fun o ho => by simp [emptyR] at ho⟩
end Go.AM
namespace Go.AM
open Go.Proofs
def turnR (c : Cl) : Cl := if c.kind = 5 ∧ c.b < c.a then ⟨c.kind, c.strict, c.b, c.a, 0⟩ else c
def lexI : List Int → List Int → Bool → Bool
  | x :: xs, y :: ys, e => if x = y then lexI xs ys e else decide (x < y)
  | [], _, e => e
  | _, [], e => e
def lessR (a b : Cl) : Bool := lexI [a.kind, a.a, a.b, a.num] [b.kind, b.a, b.b, b.num] (!a.strict && b.strict)
def bndB (e : Cl) : Bool := decide (e.kind = 6) || decide (e.kind = 7)
def oneB (x e : Cl) : Bool := decide (x.kind = e.kind) && decide (x.a = e.a) && decide (x.b = e.b)
def scanCl (e : Cl) : List Cl → Option (List Cl)
  | [] => some []
  | x :: l => if oneB x e && bndB e then (if x.num ≤ e.num then none else scanCl e l) else if oneB x e && decide (x.num = e.num) then (if x.strict || !e.strict then none else scanCl e l) else (scanCl e l).map (x :: ·)
def insCl (e : Cl) : List Cl → List Cl
  | [] => [e]
  | x :: l => if lessR x e then x :: insCl e l else e :: x :: l
def putCl (l : List Cl) (c : Cl) : List Cl := match scanCl (turnR c) l with
  | none => l
  | some out => insCl (turnR c) out
end Go.AM
namespace Go.AM
open Go.Proofs
def grpD (l : List Dg) (kind of : Int) : List Dg := l.filter fun d => decide (d.kind = kind) && decide (d.thing = of)
def rowD (l : List Dg) (kind : Int) (n : Nat) : List Dg := (List.range n).flatMap fun (o : Nat) => grpD l kind o
def allD (l : List Dg) (n : Nat) : List Dg := (List.range n).flatMap fun (k : Nat) => rowD l ((k : Int) + 1) 6
def gathO (o : Opn) : Opn := ⟨o.name, allD o.does 6⟩
def putsCl (l : List Cl) : List Cl := l.foldl putCl []
def docR (r : Rul) : Rul := ⟨r.sets, r.counts, r.notes, putsCl r.cls, r.opers.map gathO⟩
theorem putsCl_take (l : List Cl) (i : Nat) (h : i < l.length) : putsCl (l.take (i + 1)) = putCl (putsCl (l.take i)) l[i] := by
  unfold putsCl
  rw [List.take_succ_eq_append_getElem h, List.foldl_append]
  rfl
end Go.AM
namespace Go.AM
open Go.Proofs Go.Shelf Go.Sort
def LC (x y : Cl) : Prop := ltOf cmpCl x y = true
theorem LC_iff (x y : Cl) : LC x y ↔ (x.kind < y.kind ∨ x.kind = y.kind ∧ (x.a < y.a ∨ x.a = y.a ∧ (x.b < y.b ∨ x.b = y.b ∧ (x.num < y.num ∨ x.num = y.num ∧ stI x < stI y)))) := ltCl x y
theorem LC.irrefl (x : Cl) : ¬ LC x x := by rw [LC_iff]; omega
theorem LC.trans {x y z : Cl} (h1 : LC x y) (h2 : LC y z) : LC x z := by rw [LC_iff] at *; omega
theorem LC.asymm {x y : Cl} (h1 : LC x y) : ¬ LC y x := fun h => LC.irrefl _ (h1.trans h)
theorem LC.tri {x y : Cl} (h1 : ¬ LC x y) (h2 : ¬ LC y x) : x = y := totCl x y (by simpa [LC] using h1) (by simpa [LC] using h2)
theorem lessR_LC (a b : Cl) : lessR a b = true ↔ LC a b := by
  rw [LC_iff]
  unfold lessR
  have hs : (!a.strict && b.strict) = true ↔ stI a < stI b := by unfold stI; cases a.strict <;> cases b.strict <;> simp
  by_cases h1 : a.kind = b.kind
  · by_cases h2 : a.a = b.a
    · by_cases h3 : a.b = b.b
      · by_cases h4 : a.num = b.num
        · simp only [lexI, if_pos h1, if_pos h2, if_pos h3, if_pos h4, hs]; omega
        · simp only [lexI, if_pos h1, if_pos h2, if_pos h3, if_neg h4, decide_eq_true_eq]; omega
      · simp only [lexI, if_pos h1, if_pos h2, if_neg h3, decide_eq_true_eq]; omega
    · simp only [lexI, if_pos h1, if_neg h2, decide_eq_true_eq]; omega
  · simp only [lexI, if_neg h1, decide_eq_true_eq]; omega
theorem sorted_unique {α : Type} {R : α → α → Prop} (irr : ∀ x, ¬ R x x) (asy : ∀ {x y}, R x y → ¬ R y x) : ∀ (l m : List α), l.Pairwise R → m.Pairwise R → (∀ x, x ∈ l ↔ x ∈ m) → l = m
  | [], [], _, _, _ => rfl
  | [], y :: m, _, _, h => by have := (h y).2 (by simp); simp at this
  | x :: l, [], _, _, h => by have := (h x).1 (by simp); simp at this
  | x :: l, y :: m, hl, hm, h => by
    obtain ⟨hx, hl'⟩ := List.pairwise_cons.1 hl
    obtain ⟨hy, hm'⟩ := List.pairwise_cons.1 hm
    have hxy : x = y := by
      rcases List.mem_cons.1 ((h x).1 (by simp)) with h1 | h1
      · exact h1
      · rcases List.mem_cons.1 ((h y).2 (by simp)) with h2 | h2
        · exact h2.symm
        · exact absurd (hy _ h1) (asy (hx _ h2))
    subst hxy
    rw [sorted_unique irr asy l m hl' hm' fun z => ?_]
    constructor
    · intro hz
      rcases List.mem_cons.1 ((h z).1 (List.mem_cons_of_mem _ hz)) with rfl | h1
      · exact absurd (hx _ hz) (irr _)
      · exact h1
    · intro hz
      rcases List.mem_cons.1 ((h z).2 (List.mem_cons_of_mem _ hz)) with rfl | h1
      · exact absurd (hy _ hz) (irr _)
      · exact h1
def GC (x y : Cl) : Prop := x.kind = y.kind ∧ x.a = y.a ∧ x.b = y.b
theorem one_iff (x e : Cl) : oneB x e = true ↔ GC x e := by simp [oneB, GC, and_assoc]
def Bnd (e : Cl) : Prop := e.kind = 6 ∨ e.kind = 7
theorem bnd_iff (e : Cl) : bndB e = true ↔ Bnd e := by simp [bndB, Bnd]
def Ovr (c d : Cl) : Prop := GC c d ∧ c ≠ d ∧ (Bnd c ∧ d.num < c.num ∨ ¬ Bnd c ∧ c.num = d.num ∧ d.strict = true)
theorem over_iff (c d : Cl) : overB c d = true ↔ Ovr c d := by
  unfold overB Ovr GC Bnd
  by_cases h : c.kind = 6 ∨ c.kind = 7
  · rw [if_pos h]
    simp only [Bool.and_eq_true, decide_eq_true_eq, Bool.not_eq_true', decide_eq_false_iff_not]
    constructor
    · rintro ⟨⟨⟨⟨a, b⟩, c⟩, d⟩, e⟩; exact ⟨⟨a, b, c⟩, d, .inl ⟨h, e⟩⟩
    · rintro ⟨⟨a, b, c⟩, d, e⟩
      rcases e with e | e
      · exact ⟨⟨⟨⟨a, b⟩, c⟩, d⟩, e.2⟩
      · exact absurd h e.1
  · rw [if_neg h]
    simp only [Bool.and_eq_true, decide_eq_true_eq, Bool.not_eq_true', decide_eq_false_iff_not]
    constructor
    · rintro ⟨⟨⟨⟨a, b⟩, c⟩, d⟩, e⟩; exact ⟨⟨a, b, c⟩, d, .inr ⟨h, e⟩⟩
    · rintro ⟨⟨a, b, c⟩, d, e⟩
      rcases e with e | e
      · exact absurd e.1 h
      · exact ⟨⟨⟨⟨a, b⟩, c⟩, d⟩, e.2⟩
/-- What bounds bears no word 'strict'. -/
def Loose (e : Cl) : Prop := Bnd e → e.strict = false
def Blk (x e : Cl) : Prop := GC x e ∧ (Bnd e ∧ x.num ≤ e.num ∨ ¬ Bnd e ∧ x.num = e.num ∧ (x.strict = true ∨ e.strict = false))
def Kept (x e : Cl) : Prop := ¬ (GC x e ∧ (Bnd e ∨ x.num = e.num))
theorem scan_none {e : Cl} : ∀ {l : List Cl}, scanCl e l = none → ∃ x ∈ l, Blk x e
  | [], h => by rw [scanCl] at h; cases h
  | x :: l, h => by
    rw [scanCl] at h
    by_cases h1 : oneB x e = true
    · by_cases h2 : bndB e = true
      · rw [if_pos (by simp [h1, h2])] at h
        split at h
        · rename_i h3
          exact ⟨x, by simp, (one_iff x e).1 h1, .inl ⟨(bnd_iff e).1 h2, h3⟩⟩
        · obtain ⟨y, hy, hb⟩ := scan_none h
          exact ⟨y, by simp [hy], hb⟩
      · have h2' : ¬ Bnd e := fun hb => h2 ((bnd_iff e).2 hb)
        rw [if_neg (by simp [h2])] at h
        by_cases h3 : x.num = e.num
        · rw [if_pos (by simp [h1, h3])] at h
          split at h
          · rename_i h4
            refine ⟨x, by simp, (one_iff x e).1 h1, .inr ⟨h2', h3, ?_⟩⟩
            simpa using h4
          · obtain ⟨y, hy, hb⟩ := scan_none h
            exact ⟨y, by simp [hy], hb⟩
        · rw [if_neg (by simp [h3])] at h
          obtain ⟨y, hy, hb⟩ := scan_none (Option.map_eq_none_iff.1 h)
          exact ⟨y, by simp [hy], hb⟩
    · have h1' : oneB x e = false := by simpa using h1
      rw [if_neg (by simp [h1']), if_neg (by simp [h1'])] at h
      obtain ⟨y, hy, hb⟩ := scan_none (Option.map_eq_none_iff.1 h)
      exact ⟨y, by simp [hy], hb⟩
theorem scan_some {e : Cl} : ∀ {l out : List Cl}, scanCl e l = some out → out.Sublist l ∧ (∀ x, x ∈ out ↔ x ∈ l ∧ Kept x e) ∧ ∀ x ∈ l, ¬ Blk x e
  | [], out, h => by
    rw [scanCl] at h; cases h
    exact ⟨List.Sublist.refl _, fun x => by simp, fun x hx => by simp at hx⟩
  | x :: l, out, h => by
    rw [scanCl] at h
    have cut : scanCl e l = some out → ¬ Kept x e → ¬ Blk x e → out.Sublist (x :: l) ∧ (∀ y, y ∈ out ↔ y ∈ x :: l ∧ Kept y e) ∧ ∀ y ∈ x :: l, ¬ Blk y e := fun h1 hk hb => by
      obtain ⟨a, b, c⟩ := scan_some h1
      refine ⟨a.cons _, fun y => ?_, fun y hy => ?_⟩
      · rw [b, List.mem_cons]
        constructor
        · rintro ⟨p, q⟩; exact ⟨.inr p, q⟩
        · rintro ⟨rfl | p, q⟩
          · exact absurd q hk
          · exact ⟨p, q⟩
      · rcases List.mem_cons.1 hy with rfl | hy
        · exact hb
        · exact c y hy
    have keep : (scanCl e l).map (x :: ·) = some out → Kept x e → ¬ Blk x e → out.Sublist (x :: l) ∧ (∀ y, y ∈ out ↔ y ∈ x :: l ∧ Kept y e) ∧ ∀ y ∈ x :: l, ¬ Blk y e := fun h1 hk hb => by
      obtain ⟨o', ho', rfl⟩ := Option.map_eq_some_iff.1 h1
      obtain ⟨a, b, c⟩ := scan_some ho'
      refine ⟨a.cons_cons _, fun y => ?_, fun y hy => ?_⟩
      · rw [List.mem_cons, List.mem_cons, b]
        constructor
        · rintro (rfl | ⟨p, q⟩)
          · exact ⟨.inl rfl, hk⟩
          · exact ⟨.inr p, q⟩
        · rintro ⟨rfl | p, q⟩
          · exact .inl rfl
          · exact .inr ⟨p, q⟩
      · rcases List.mem_cons.1 hy with rfl | hy
        · exact hb
        · exact c y hy
    by_cases h1 : oneB x e = true
    · have g := (one_iff x e).1 h1
      by_cases h2 : bndB e = true
      · have hb := (bnd_iff e).1 h2
        rw [if_pos (by simp [h1, h2])] at h
        split at h
        · cases h
        · rename_i h3
          exact cut h (fun hk => hk ⟨g, .inl hb⟩) fun ⟨_, hh⟩ => by
            rcases hh with hh | hh
            · exact h3 hh.2
            · exact hh.1 hb
      · have h2' : ¬ Bnd e := fun hb => h2 ((bnd_iff e).2 hb)
        rw [if_neg (by simp [h2])] at h
        by_cases h3 : x.num = e.num
        · rw [if_pos (by simp [h1, h3])] at h
          split at h
          · cases h
          · rename_i h4
            refine cut h (fun hk => hk ⟨g, .inr h3⟩) fun ⟨_, hh⟩ => ?_
            rcases hh with hh | hh
            · exact h2' hh.1
            · exact h4 (by simpa using hh.2.2)
        · rw [if_neg (by simp [h3])] at h
          exact keep h (fun ⟨_, hh⟩ => hh.elim h2' h3) fun ⟨_, hh⟩ => by
            rcases hh with hh | hh
            · exact h2' hh.1
            · exact h3 hh.2.1
    · have h1' : oneB x e = false := by simpa using h1
      have g : ¬ GC x e := fun g => h1 ((one_iff x e).2 g)
      rw [if_neg (by simp [h1']), if_neg (by simp [h1'])] at h
      exact keep h (fun hh => g hh.1) fun hh => g hh.1
theorem insCl_mem (e x : Cl) : ∀ l : List Cl, x ∈ insCl e l ↔ x = e ∨ x ∈ l
  | [] => by simp [insCl]
  | y :: l => by
    rw [insCl]
    split
    · rw [List.mem_cons, insCl_mem e x l, List.mem_cons]
      constructor
      · rintro (h | h | h)
        · exact .inr (.inl h)
        · exact .inl h
        · exact .inr (.inr h)
      · rintro (h | h | h)
        · exact .inr (.inl h)
        · exact .inl h
        · exact .inr (.inr h)
    · simp
theorem insCl_sort (e : Cl) : ∀ l : List Cl, l.Pairwise LC → e ∉ l → (insCl e l).Pairwise LC
  | [], _, _ => by simp [insCl]
  | y :: l, hs, hn => by
    obtain ⟨hy, hl⟩ := List.pairwise_cons.1 hs
    have hne : y ≠ e := fun h => hn (by simp [h])
    rw [insCl]
    split
    · rename_i h
      have hye := (lessR_LC y e).1 h
      refine List.pairwise_cons.2 ⟨fun z hz => ?_, insCl_sort e l hl fun h => hn (by simp [h])⟩
      rcases (insCl_mem e z l).1 hz with rfl | hz
      · exact hye
      · exact hy z hz
    · rename_i h
      have hey : LC e y := by
        by_cases h2 : LC e y
        · exact h2
        · exact absurd (LC.tri (fun h3 => h ((lessR_LC y e).2 h3)) h2) hne
      refine List.pairwise_cons.2 ⟨fun z hz => ?_, hs⟩
      rcases List.mem_cons.1 hz with rfl | hz
      · exact hey
      · exact hey.trans (hy z hz)
def InM (T : List Cl) (x : Cl) : Prop := x ∈ T ∧ ∀ d ∈ T, ¬ Ovr x d
structure PlainOf (T S : List Cl) : Prop where
  sort : S.Pairwise LC
  mem : ∀ x, x ∈ S ↔ InM T x
  dom : ∀ d ∈ T, ∃ x ∈ S, x = d ∨ Ovr d x
theorem same_of {x e : Cl} (g : GC x e) (hn : x.num = e.num) (hs : x.strict = e.strict) : x = e := (Cl.eq_iff x e).2 ⟨g.1, hs, g.2.1, g.2.2, hn⟩
theorem GC.bnd {x e : Cl} (g : GC x e) : Bnd x ↔ Bnd e := by unfold Bnd; rw [g.1]
theorem GC.trans {x y z : Cl} (h : GC x y) (k : GC y z) : GC x z := ⟨h.1.trans k.1, h.2.1.trans k.2.1, h.2.2.trans k.2.2⟩
theorem GC.symm {x y : Cl} (h : GC x y) : GC y x := ⟨h.1.symm, h.2.1.symm, h.2.2.symm⟩
/-- What blocks a clause is it, or says more. -/
theorem blk_says {x e : Cl} (hx : Loose x) (he : Loose e) (h : Blk x e) : x = e ∨ Ovr e x := by
  obtain ⟨g, hh⟩ := h
  rcases hh with ⟨hb, hn⟩ | ⟨hb, hn, hs⟩
  · by_cases hne : x.num = e.num
    · exact .inl (same_of g hne ((hx (g.bnd.2 hb)).trans (he hb).symm))
    · exact .inr ⟨g.symm, fun h => hne (by rw [h]), .inl ⟨hb, by omega⟩⟩
  · by_cases hss : x.strict = e.strict
    · exact .inl (same_of g hn hss)
    · refine .inr ⟨g.symm, fun h => hss (by rw [h]), .inr ⟨hb, hn.symm, ?_⟩⟩
      rcases hs with hs | hs
      · exact hs
      · cases hx1 : x.strict
        · rw [hx1, hs] at hss; exact absurd rfl hss
        · rfl
theorem plain_step {T S : List Cl} {e : Cl} (hT : ∀ d ∈ T, Loose d) (he : Loose e) (h : PlainOf T S) : PlainOf (T ++ [e]) (match scanCl e S with | none => S | some out => insCl e out) := by
  have hS : ∀ x ∈ S, x ∈ T := fun x hx => ((h.mem x).1 hx).1
  cases hsc : scanCl e S with
  | none =>
    obtain ⟨x, hx, hb⟩ := scan_none hsc
    have hsay := blk_says (hT x (hS x hx)) he hb
    simp only
    refine ⟨h.sort, fun y => ?_, fun d hd => ?_⟩
    · rw [h.mem]
      constructor
      · rintro ⟨h1, h2⟩
        refine ⟨List.mem_append_left _ h1, fun d hd ho => ?_⟩
        rcases List.mem_append.1 hd with hd | hd
        · exact h2 d hd ho
        · rw [List.mem_singleton] at hd
          subst hd
          rcases hsay with rfl | hsay
          · exact h2 _ (hS _ hx) ho
          · obtain ⟨g1, n1, k1⟩ := ho
            obtain ⟨g2, n2, k2⟩ := hsay
            rcases k1 with ⟨b1, k1⟩ | ⟨b1, k1, s1⟩
            · rcases k2 with ⟨b2, k2⟩ | ⟨b2, k2, s2⟩
              · exact h2 x (hS x hx) ⟨g1.trans g2, fun hh => by rw [hh] at k1; omega, .inl ⟨b1, by omega⟩⟩
              · exact b2 (g1.bnd.1 b1)
            · rcases k2 with ⟨b2, k2⟩ | ⟨b2, k2, s2⟩
              · exact b1 (g1.bnd.2 b2)
              · exact n2 (same_of g2 k2 (s1.trans s2.symm))
      · rintro ⟨h1, h2⟩
        have hnT : ∀ d ∈ T, ¬ Ovr y d := fun d hd => h2 d (List.mem_append_left _ hd)
        rcases List.mem_append.1 h1 with h1 | h1
        · exact ⟨h1, hnT⟩
        · rw [List.mem_singleton] at h1
          subst h1
          rcases hsay with hsay | hsay
          · exact ⟨by rw [← hsay]; exact hS _ hx, hnT⟩
          · exact absurd hsay (hnT x (hS x hx))
    · rcases List.mem_append.1 hd with hd | hd
      · exact h.dom d hd
      · rw [List.mem_singleton] at hd
        subst hd
        exact ⟨x, hx, hsay⟩
  | some out =>
    obtain ⟨hsub, hmem, hnb⟩ := scan_some hsc
    simp only
    have heo : e ∉ out := fun hm => by
      have h1 := ((hmem e).1 hm).1
      refine hnb e h1 ⟨⟨rfl, rfl, rfl⟩, ?_⟩
      by_cases hb : Bnd e
      · exact .inl ⟨hb, Int.le_refl _⟩
      · exact .inr ⟨hb, rfl, by cases e.strict <;> simp⟩
    have drop : ∀ x ∈ S, ¬ Kept x e → Ovr x e := fun x hx hk => by
      have hk : GC x e ∧ (Bnd e ∨ x.num = e.num) := Classical.byContradiction hk
      obtain ⟨g, hk⟩ := hk
      have hb := hnb x hx
      by_cases hbe : Bnd e
      · have hlt : e.num < x.num := by
          refine Classical.byContradiction fun hh => hb ⟨g, .inl ⟨hbe, by omega⟩⟩
        exact ⟨g, fun h => by rw [h] at hlt; omega, .inl ⟨g.bnd.2 hbe, hlt⟩⟩
      · have hn : x.num = e.num := hk.resolve_left hbe
        have hs : ¬ (x.strict = true ∨ e.strict = false) := fun hs => hb ⟨g, .inr ⟨hbe, hn, hs⟩⟩
        have h1 : x.strict = false := by cases hx1 : x.strict; rfl; exact absurd (.inl hx1) hs
        have h2 : e.strict = true := by cases he1 : e.strict; exact absurd (.inr he1) hs; rfl
        exact ⟨g, fun h => (by rw [h, h2] at h1; cases h1), .inr ⟨fun hbx => hbe (g.bnd.1 hbx), hn, h2⟩⟩
    have hovr : ∀ d x, Ovr d x → Ovr x e → Ovr d e := fun d x h1 h2 => by
      obtain ⟨g1, n1, k1⟩ := h1
      obtain ⟨g2, n2, k2⟩ := h2
      rcases k1 with ⟨b1, k1⟩ | ⟨b1, k1, s1⟩
      · rcases k2 with ⟨b2, k2⟩ | ⟨b2, k2, s2⟩
        · exact ⟨g1.trans g2, fun hh => by rw [hh] at k1; omega, .inl ⟨b1, by omega⟩⟩
        · exact absurd (g1.bnd.1 b1) b2
      · rcases k2 with ⟨b2, k2⟩ | ⟨b2, k2, s2⟩
        · exact absurd (g1.bnd.2 b2) b1
        · exact absurd (same_of g2 k2 (s1.trans s2.symm)) n2
    refine ⟨insCl_sort e out (h.sort.sublist hsub) heo, fun y => ?_, fun d hd => ?_⟩
    · rw [insCl_mem, hmem]
      constructor
      · rintro (rfl | ⟨h1, hk⟩)
        · refine ⟨by simp, fun d hd ho => ?_⟩
          rcases List.mem_append.1 hd with hd | hd
          · obtain ⟨x, hx, hxd⟩ := h.dom d hd
            obtain ⟨g1, n1, k1⟩ := ho
            refine hnb x hx ?_
            rcases hxd with rfl | hxd
            · refine ⟨g1.symm, ?_⟩
              rcases k1 with ⟨b1, k1⟩ | ⟨b1, k1, s1⟩
              · exact .inl ⟨b1, by omega⟩
              · exact .inr ⟨b1, k1.symm, .inl s1⟩
            · obtain ⟨g2, n2, k2⟩ := hxd
              refine ⟨(g1.trans g2).symm, ?_⟩
              rcases k1 with ⟨b1, k1⟩ | ⟨b1, k1, s1⟩
              · rcases k2 with ⟨b2, k2⟩ | ⟨b2, k2, s2⟩
                · exact .inl ⟨b1, by omega⟩
                · exact absurd (g1.bnd.1 b1) b2
              · rcases k2 with ⟨b2, k2⟩ | ⟨b2, k2, s2⟩
                · exact absurd (g1.bnd.2 b2) b1
                · exact .inr ⟨b1, (k1.trans k2).symm, .inl s2⟩
          · rw [List.mem_singleton] at hd
            exact ho.2.1 hd.symm
        · obtain ⟨h2, h3⟩ := (h.mem y).1 h1
          refine ⟨List.mem_append_left _ h2, fun d hd ho => ?_⟩
          rcases List.mem_append.1 hd with hd | hd
          · exact h3 d hd ho
          · rw [List.mem_singleton] at hd
            subst hd
            refine hk ⟨ho.1, ?_⟩
            rcases ho.2.2 with ⟨b1, _⟩ | ⟨_, k1, _⟩
            · exact .inl (ho.1.bnd.1 b1)
            · exact .inr k1
      · rintro ⟨h1, h2⟩
        rcases List.mem_append.1 h1 with h1 | h1
        · have hyS : y ∈ S := (h.mem y).2 ⟨h1, fun d hd => h2 d (List.mem_append_left _ hd)⟩
          refine .inr ⟨hyS, ?_⟩
          exact Classical.byContradiction fun hk => h2 e (by simp) (drop y hyS hk)
        · exact .inl (List.mem_singleton.1 h1)
    · have hein : e ∈ insCl e out := (insCl_mem e e out).2 (.inl rfl)
      rcases List.mem_append.1 hd with hd | hd
      · obtain ⟨x, hx, hxd⟩ := h.dom d hd
        by_cases hk : Kept x e
        · exact ⟨x, (insCl_mem e x out).2 (.inr ((hmem x).2 ⟨hx, hk⟩)), hxd⟩
        · have ho := drop x hx hk
          refine ⟨e, hein, .inr ?_⟩
          rcases hxd with rfl | hxd
          · exact ho
          · exact hovr d x hxd ho
      · rw [List.mem_singleton] at hd
        exact ⟨e, hein, .inl hd.symm⟩
end Go.AM
namespace Go.AM
open Go.Proofs Go.Shelf Go.Sort
theorem clB_loose {r : Rul} {c : Cl} (h : clB r c = true) : Loose (turnC c) ∧ turnR c = turnC c := by
  have hs : Bnd c → c.strict = false := fun hb => by
    unfold clB at h
    rcases hb with hb | hb
    · rw [if_neg (by omega), if_neg (by omega), if_pos hb] at h
      simp only [Bool.and_eq_true, Bool.not_eq_true'] at h
      exact h.2
    · rw [if_neg (by omega), if_neg (by omega), if_neg (by omega), if_pos hb] at h
      simp only [Bool.and_eq_true, Bool.not_eq_true'] at h
      exact h.2
  unfold turnC turnR
  split
  · rename_i h5
    unfold clB at h
    rw [if_pos (.inr h5.1)] at h
    simp only [Bool.and_eq_true, decide_eq_true_eq] at h
    refine ⟨fun hb => ?_, by rw [h.2]⟩
    rcases hb with hb | hb
    · simp only at hb; omega
    · simp only at hb; omega
  · exact ⟨hs, rfl⟩
theorem putsCl_plain {l : List Cl} (hl : ∀ c ∈ l, Loose (turnC c) ∧ turnR c = turnC c) : ∀ i, i ≤ l.length → PlainOf ((l.take i).map turnC) (putsCl (l.take i))
  | 0, _ => ⟨by simp [putsCl], fun x => by simp [putsCl, InM], fun d hd => by simp at hd⟩
  | i + 1, hi => by
    have ih := putsCl_plain hl i (by omega)
    have hc := hl _ (List.getElem_mem (show i < l.length by omega))
    have := plain_step (e := turnC l[i]) (fun d hd => by
      obtain ⟨c, hc, rfl⟩ := List.mem_map.1 hd
      exact (hl c (List.mem_of_mem_take hc)).1) hc.1 ih
    rw [putsCl_take l i (by omega), List.take_succ_eq_append_getElem (by omega), List.map_append, List.map_singleton]
    unfold putCl
    rw [hc.2]
    exact this
theorem cmpN_sort {S : List Cl} (hs : S.Pairwise fun x y => ¬ LC y x) : ∀ i, i ≤ S.length → (cmpN S i).Pairwise LC ∧ ∀ x, x ∈ cmpN S i ↔ x ∈ S.take i
  | 0, _ => by simp [cmpN]
  | i + 1, hi => by
    obtain ⟨h1, h2⟩ := cmpN_sort hs i (by omega)
    have hlt : i < S.length := by omega
    have e : S.take (i + 1) = S.take i ++ [S[i]] := List.take_succ_eq_append_getElem hlt
    by_cases h0 : ∃ k, i = k + 1 ∧ ∃ hk : k < S.length, S[k] = S[i]
    · obtain ⟨k, rfl, hk, he⟩ := h0
      rw [cmpN_eq S k (k + 1) rfl hlt he.symm]
      refine ⟨h1, fun x => ?_⟩
      rw [h2, e, List.mem_append, List.mem_singleton]
      constructor
      · exact .inl
      · rintro (h | rfl)
        · exact h
        · rw [← he, List.mem_take_iff_getElem]
          exact ⟨k, by omega, rfl⟩
    · have hstep : cmpN S (i + 1) = cmpN S i ++ [S[i]] := by
        cases i with
        | zero =>
          conv => lhs; unfold cmpN
          rw [List.getElem?_eq_getElem hlt]
          simp
        | succ k => exact cmpN_ne S k (k + 1) rfl hlt fun he => h0 ⟨k, rfl, by omega, he.symm⟩
      have hlow : ∀ y ∈ S.take i, LC y S[i] := fun y hy => by
        rw [List.mem_take_iff_getElem] at hy
        obtain ⟨j, hj, rfl⟩ := hy
        have hj : j < i := by omega
        have hn : ¬ LC S[i] S[j] := List.pairwise_iff_getElem.1 hs j i (by omega) hlt hj
        have hne : S[j] ≠ S[i] := fun he => by
          cases i with
          | zero => omega
          | succ k =>
            refine h0 ⟨k, rfl, by omega, ?_⟩
            refine LC.tri (fun hlc => ?_) (List.pairwise_iff_getElem.1 hs k (k + 1) (by omega) hlt (by omega))
            rcases Nat.lt_or_ge j k with hjk | hjk
            · have := List.pairwise_iff_getElem.1 hs j k (by omega) (by omega) hjk
              rw [he] at this
              exact this hlc
            · have : j = k := by omega
              subst this
              rw [he] at hlc
              exact LC.irrefl _ hlc
        by_cases h : LC S[j] S[i]
        · exact h
        · exact absurd (LC.tri h hn) hne
      rw [hstep]
      refine ⟨List.pairwise_append.2 ⟨h1, by simp, fun a ha b hb => ?_⟩, fun x => ?_⟩
      · rw [List.mem_singleton] at hb
        subst hb
        exact hlow a ((h2 a).1 ha)
      · rw [e, List.mem_append, List.mem_append, h2]
theorem allCl_spec (l : List Cl) : (allCl l).Pairwise LC ∧ ∀ x, x ∈ allCl l ↔ x ∈ l.map turnC := by
  have hp := List.pairwise_mergeSort (le := fun x y => !(ltOf cmpCl) y x) (fun a b c h1 h2 => by
    have h1' : ¬ LC b a := by simpa [LC] using h1
    have h2' : ¬ LC c b := by simpa [LC] using h2
    have : ¬ LC c a := by rw [LC_iff] at *; omega
    simpa [LC] using this) (fun a b => by
    by_cases h : LC a b
    · have := h.asymm
      have h2 : ltOf cmpCl b a = false := by simpa [LC] using this
      simp [h2]
    · have h2 : ltOf cmpCl a b = false := by simpa [LC] using h
      simp [h2]) (l.map turnC)
  have hs : (sortCl (l.map turnC)).Pairwise fun x y => ¬ LC y x := hp.imp fun {a b} h => by
    show ¬ ltOf cmpCl b a = true
    simpa using h
  obtain ⟨h1, h2⟩ := cmpN_sort hs (sortCl (l.map turnC)).length (Nat.le_refl _)
  refine ⟨h1, fun x => ?_⟩
  have h3 := h2 x
  rw [List.take_length] at h3
  refine h3.trans ?_
  unfold sortCl
  exact (List.mergeSort_perm _ _).mem_iff
theorem clausesP_spec (l : List Cl) : (clausesP l).Pairwise LC ∧ ∀ x, x ∈ clausesP l ↔ InM (l.map turnC) x := by
  obtain ⟨h1, h2⟩ := allCl_spec l
  refine ⟨h1.filter _, fun x => ?_⟩
  unfold clausesP InM
  rw [List.mem_filter, h2]
  simp only [Bool.not_eq_true', List.any_eq_false, h2, over_iff]
theorem clauses_law {l : List Cl} (hl : ∀ c ∈ l, Loose (turnC c) ∧ turnR c = turnC c) : putsCl l = clausesP l := by
  have h1 := putsCl_plain hl l.length (Nat.le_refl _)
  rw [List.take_length] at h1
  obtain ⟨h2, h3⟩ := clausesP_spec l
  exact sorted_unique LC.irrefl LC.asymm _ _ h1.sort h2 fun x => (h1.mem x).trans (h3 x).symm
def LD (x y : Dg) : Prop := x.kind < y.kind ∨ x.kind = y.kind ∧ x.thing < y.thing
theorem LD.irrefl (x : Dg) : ¬ LD x x := by unfold LD; omega
def DK (x y : Dg) : Prop := toK x ≠ toK y
theorem DK.symm {x y : Dg} (h : DK x y) : DK y x := Ne.symm h
theorem DK.key {x y : Dg} (h : DK x y) : ¬ (x.kind = y.kind ∧ x.thing = y.thing) := fun ⟨h1, h2⟩ => h (by unfold toK; rw [h1, h2])
theorem opB_iff (r : Rul) (o : Opn) : opB r o = true ↔ (1 ≤ o.does.length ∧ o.does.length ≤ 16) ∧ (∀ d ∈ o.does, doB r d = true) ∧ o.does.Pairwise DK := by
  simp only [opB, Bool.and_eq_true, inB, decide_eq_true_eq, List.all_eq_true]
  constructor
  · rintro ⟨h1, h2⟩
    refine ⟨by omega, fun d hd => ?_, ?_⟩
    · obtain ⟨i, hi, rfl⟩ := List.mem_iff_getElem.1 hd
      have := h2 i (by simpa using hi)
      rw [oprAt_at r hi, Bool.and_eq_true] at this
      exact this.1
    · rw [List.pairwise_iff_getElem]
      intro i j hi hj hij he
      have := h2 j (by simpa using hj)
      rw [oprAt_at r hj, Bool.and_eq_true, Bool.not_eq_true', didB] at this
      have h3 : (o.does.take j).any (fun x => decide (toK x = toK o.does[j])) = true := List.any_eq_true.2 ⟨o.does[i], by
        rw [List.mem_take_iff_getElem]; exact ⟨i, by omega, rfl⟩, by simpa using he⟩
      rw [h3] at this
      cases this.2
  · rintro ⟨h1, h2, h3⟩
    refine ⟨by omega, fun i hi => ?_⟩
    have hi : i < o.does.length := by simpa using hi
    rw [oprAt_at r hi, h2 _ (List.getElem_mem hi), Bool.true_and, Bool.not_eq_true', didB, List.any_eq_false]
    intro x hx he
    rw [List.mem_take_iff_getElem] at hx
    obtain ⟨j, hj, rfl⟩ := hx
    exact List.pairwise_iff_getElem.1 h3 j i (by omega) hi (by omega) (by simpa using he)
theorem sortDg_perm (l : List Dg) : (sortDg l).Perm l := List.mergeSort_perm _ _
theorem rulesB_parts {r : Rul} (h : rulesB r = true) : lensB r = true ∧ namedB (allN r) = true ∧ floorsB r.cls = true ∧ (∀ c ∈ r.cls, clB r c = true) ∧ ∀ o ∈ r.opers, opB r o = true := by
  simp only [rulesB, headB, Bool.and_eq_true, List.all_eq_true] at h
  exact ⟨h.1.1.1.1, h.1.1.1.2, h.1.1.2, h.1.2, h.2⟩
end Go.AM
namespace Go.AM
open Go.Proofs Go.Shelf Go.Sort
theorem turnC_kind (c : Cl) : (turnC c).kind = c.kind := by unfold turnC; split <;> rfl
theorem turnC_8 {c : Cl} (h : c.kind = 8) : turnC c = c := by unfold turnC; rw [if_neg (by omega)]
theorem floors_apart {l : List Cl} (h : floorsB l = true) {p q : Nat} (hp : p < l.length) (hq : q < l.length) (hpq : p < q) (h1 : l[p].kind = 8) (h2 : l[q].kind = 8) (ha : l[p].a = l[q].a) : False := by
  simp only [floorsB, List.all_eq_true] at h
  have := h q (by simpa using hq)
  rw [floorAt_at hq, h2] at this
  have h3 : flooredB (l.take q) l[q] = true := by
    unfold flooredB
    refine List.any_eq_true.2 ⟨l[p], ?_, by simp [h1, ha]⟩
    rw [List.mem_take_iff_getElem]; exact ⟨p, by omega, rfl⟩
  rw [h3] at this
  simp at this
theorem allN_plain (r : Rul) : allN (plainP r) = allN r := by simp [allN, plainP, sortO, Function.comp_def]
theorem clausesP_len (l : List Cl) : (clausesP l).length ≤ l.length := Nat.le_trans (List.length_filter_le ..) (allCl_len l)
theorem clB_turn {r : Rul} {c : Cl} (h : clB r c = true) : clB (plainP r) (turnC c) = true := by
  have e : clB (plainP r) (turnC c) = clB r (turnC c) := by
    unfold clB plainP
    simp only
  rw [e]
  unfold turnC
  split
  · rename_i h5
    unfold clB at h ⊢
    rw [if_pos (.inr h5.1)] at h ⊢
    simp only [Bool.and_eq_true, Bool.not_eq_true', decide_eq_false_iff_not, decide_eq_true_eq] at h ⊢
    exact ⟨⟨⟨h.1.1.2, h.1.1.1⟩, fun hh => h.1.2 hh.symm⟩, h.2⟩
  · exact h
/-- Plain rules may be. -/
theorem plain_may {r : Rul} (h : rulesB r = true) : rulesB (plainP r) = true := by
  obtain ⟨h1, h2, h3, h4, h5⟩ := rulesB_parts h
  obtain ⟨hs, hm⟩ := clausesP_spec r.cls
  have hof : ∀ x ∈ clausesP r.cls, ∃ c ∈ r.cls, turnC c = x := fun x hx => List.mem_map.1 ((hm x).1 hx).1
  have hlens : lensB (plainP r) = true := by
    have := clausesP_len r.cls
    simp only [lensB, Bool.and_eq_true, Bool.not_eq_true', decide_eq_false_iff_not] at h1 ⊢
    obtain ⟨⟨⟨⟨a, b⟩, c⟩, d⟩, e⟩ := h1
    refine ⟨⟨⟨⟨a, b⟩, c⟩, ?_⟩, ?_⟩
    · show ¬ (16 : Int) < (r.opers.map sortO).length
      simpa using d
    · show ¬ (12 : Int) < (clausesP r.cls).length
      omega
  have hfl : floorsB (clausesP r.cls) = true := by
    simp only [floorsB, List.all_eq_true]
    intro i hi
    have hi : i < (clausesP r.cls).length := by simpa using hi
    rw [floorAt_at hi]
    cases hfb : decide ((clausesP r.cls)[i].kind = 8) && flooredB ((clausesP r.cls).take i) (clausesP r.cls)[i]
    · rfl
    · exfalso
      simp only [Bool.and_eq_true, decide_eq_true_eq, flooredB, List.any_eq_true] at hfb
      obtain ⟨k8, x, hx, x8, xa⟩ := hfb
      rw [List.mem_take_iff_getElem] at hx
      obtain ⟨j, hj, rfl⟩ := hx
      have hj : j < i := by omega
      have hne : (clausesP r.cls)[j] ≠ (clausesP r.cls)[i] := fun he => by
        have := List.pairwise_iff_getElem.1 hs j i (by omega) hi hj
        rw [he] at this
        exact LC.irrefl _ this
      obtain ⟨c1, m1, e1⟩ := hof _ (List.getElem_mem (show j < (clausesP r.cls).length by omega))
      obtain ⟨c2, m2, e2⟩ := hof _ (List.getElem_mem hi)
      have n1 : c1.kind = 8 := by rw [← turnC_kind, e1]; exact x8
      have n2 : c2.kind = 8 := by rw [← turnC_kind, e2]; exact k8
      rw [turnC_8 n1] at e1
      rw [turnC_8 n2] at e2
      rw [← e1, ← e2] at hne xa
      obtain ⟨p, hp, rfl⟩ := List.mem_iff_getElem.1 m1
      obtain ⟨q, hq, rfl⟩ := List.mem_iff_getElem.1 m2
      rcases Nat.lt_trichotomy p q with hpq | hpq | hpq
      · exact floors_apart h3 hp hq hpq n1 n2 xa
      · subst hpq; exact hne rfl
      · exact floors_apart h3 hq hp hpq n2 n1 xa.symm
  have hcl : ∀ c ∈ clausesP r.cls, clB (plainP r) c = true := fun c hc => by
    obtain ⟨c0, m0, rfl⟩ := hof c hc
    exact clB_turn (h4 c0 m0)
  have hop : ∀ o ∈ (plainP r).opers, opB (plainP r) o = true := fun o ho => by
    obtain ⟨o0, m0, rfl⟩ := List.mem_map.1 ho
    have h6 := (opB_iff r o0).1 (h5 o0 m0)
    rw [opB_iff]
    refine ⟨?_, fun d hd => ?_, ?_⟩
    · show 1 ≤ (sortDg o0.does).length ∧ (sortDg o0.does).length ≤ 16
      rw [sortDg_len]; exact h6.1
    · have := h6.2.1 d ((sortDg_perm o0.does).mem_iff.1 hd)
      have e : doB (plainP r) d = doB r d := by unfold doB plainP; simp only
      rw [e]; exact this
    · exact ((sortDg_perm o0.does).pairwise_iff DK.symm).2 h6.2.2
  simp only [rulesB, headB, Bool.and_eq_true, List.all_eq_true]
  exact ⟨⟨⟨⟨hlens, by rw [allN_plain]; exact h2⟩, hfl⟩, hcl⟩, hop⟩
theorem normR_ok {r : Rul} (h : rulesB r = true) : normR r = plainP r := by rw [normR, if_pos h]
theorem slim_plain {r : Rul} (hr : Slim r) : Slim (normR r) := by
  obtain ⟨h1, h2⟩ := normR_slight hr
  refine ⟨h1, h2, ?_⟩
  unfold normR
  split
  · rw [allN_plain]; exact hr.2.2
  · intro s hs; simp [allN, emptyR] at hs
def w18 : Rul := ⟨[⟨#[97]⟩], [], [], [⟨6, false, 0, 0, 5⟩, ⟨6, false, 0, 0, 3⟩], []⟩
def v18 : Rul := ⟨[⟨#[97]⟩], [], [], [⟨6, false, 0, 0, 3⟩], []⟩
end Go.AM
namespace Go.AM
open Go.Proofs
def lightK (l : List Cel) : Bool := l.all (fun c => !decide ((100 : Int) < c.key.size)) && decide ((l.length : Int) ≤ 60)
theorem lightK_not {l : List Cel} {i : Nat} (h : i < l.length) (hp : (100 : Int) < l[i].key.size) : lightK l = false := by
  have : (l.all fun c => !decide ((100 : Int) < c.key.size)) = false := all_not h (by simpa using hp)
  simp [lightK, this]
set_option maxRecDepth 8000 in
set_option maxHeartbeats 1000000 in
theorem c_law10_Light (l : List Cel) (hlen : l.length ≤ 9223372036854775807) : Pure Tryz.prog 25 [.sl .fro 2 (celsAV l)] (.b (lightK l)) := by
  refine proc_of (cx Tryz.prog 24 [0, 2, 3, 11, 20] [2]) 23 [.tmp 2] Tryz.func25 rfl rfl rfl rfl rfl rfl (Nat.le_refl _) rfl ?_
  refine AWp.go [0] [] fun K hK => ?_
  simp
  first | refine hK _ _ ?_ | refine ⟨by omega, hK _ _ ?_⟩ | refine ⟨by omega, by omega, hK _ _ ?_⟩
  clear hK K
  refine AWp.seq ?_
  refine AWp.go [0, 3] [] fun K hK => ?_
  simp
  first | refine hK _ _ ?_ | refine ⟨by omega, hK _ _ ?_⟩ | refine ⟨by omega, by omega, hK _ _ ?_⟩
  clear hK K
  refine AWp.block (AWp.while (fun i : Nat => [(0, .sl .fro 2 (celsAV l)), (3, .i .i64 i)]) (fun i => []) (fun i => i ≤ l.length ∧ i ≤ 61 ∧ ∀ k (hk : k < i) (hk2 : k < l.length), (!decide ((100 : Int) < l[k].key.size)) = true) (fun i => l.length - i) [0, 3] [] 0 (by simp) (by simp) ?_)
  rintro i ⟨hi, hi2, hall⟩
  refine AWp.seq ?_
  refine AWp.step [0, 3, 11] [] [(0, .sl .fro 2 (celsAV l)), (3, .i .i64 i), (11, .b (decide (i < l.length) && decide (i ≤ 60)))] [] ?_ ?_
  · by_cases q : i < l.length <;> simp [q]
    omega
  cases h0 : decide (i < l.length) && decide (i ≤ 60)
  · refine AWp.cond (t := false) (by simp) (by simp) (fun _ => ?_)
    refine AWp.exit ?_
    show AWp _ _ _ _
    simp only [Bool.and_eq_false_iff, decide_eq_false_iff_not] at h0
    have hE : decide ((l.length : Int) ≤ 60) = lightK l := by
      by_cases q : l.length ≤ 60
      · have : (l.all fun c => !decide ((100 : Int) < c.key.size)) = true := all_of fun k hk => hall k (by omega) hk
        simp [lightK, this]
      · have e : decide ((l.length : Int) ≤ 60) = false := by simp; omega
        simp only [lightK, e, Bool.and_false]
    refine AWp.go [2] [] fun K hK => ?_
    simp
    first | refine hK _ _ ?_ | refine ⟨by omega, hK _ _ ?_⟩ | refine ⟨by omega, by omega, hK _ _ ?_⟩
    clear hK K
    refine AWp.ret ?_
    simp [← hE]
  · refine AWp.cond (t := true) (by simp) (fun _ => ?_) (by simp)
    refine AWp.skip ?_
    show AWp _ _ _ _
    refine AWp.seq ?_
    refine AWp.block ?_
    simp only [Bool.and_eq_true, decide_eq_true_eq] at h0
    obtain ⟨h, h60⟩ := h0
    refine AWp.go [0, 3, 20] [] fun K hK => ?_
    simp [h]
    first | refine hK _ _ ?_ | refine ⟨by omega, hK _ _ ?_⟩ | refine ⟨by omega, by omega, hK _ _ ?_⟩
    clear hK K
    by_cases hp : (100 : Int) < l[i].key.size
    · refine AWp.cond (t := true) (by first | (simp [hp]; done) | (simp [hp]; omega)) (fun _ => ?_) (by simp)
      refine AWp.go [2] [] fun K hK => ?_
      simp
      first | refine hK _ _ ?_ | refine ⟨by omega, hK _ _ ?_⟩ | refine ⟨by omega, by omega, hK _ _ ?_⟩
      clear hK K
      refine AWp.ret ?_
      simp [lightK_not h hp]
    · refine AWp.cond (t := false) (by first | (simp [hp]; done) | (simp [hp]; omega)) (by simp) (fun _ => ?_)
      refine AWp.skip ?_
      show AWp _ _ _ _
      refine AWp.goLast [0, 3] [] fun K hK => ?_
      simp
      first | refine hK _ _ ?_ | refine ⟨by omega, hK _ _ ?_⟩ | refine ⟨by omega, by omega, hK _ _ ?_⟩
      clear hK K
      refine ⟨i + 1, ⟨by omega, by omega, fun k hk hk2 => ?_⟩, by omega, ?_⟩
      · by_cases hki : k = i
        · subst hki; simpa using hp
        · exact hall k (by omega) hk2
      · simp
        exact wrap64 (by omega) (by omega)
def lightL (l : List ByteArray) : Bool := !decide ((30 : Int) < l.length) && l.all (fun k => !decide ((100 : Int) < k.size))
def lightC (l : List Cel) : Bool := lightK l && !decide ((30 : Int) < l.length)
def lightS (s : Sta) : Bool := s.sets.all lightL && s.counts.all lightC && decide ((s.sets.length : Int) ≤ 20) && decide ((s.counts.length : Int) ≤ 20)
theorem lightS_set {s : Sta} {i : Nat} (h : i < s.sets.length) (hp : lightL s.sets[i] = false) : lightS s = false := by
  have : s.sets.all lightL = false := all_not h hp
  simp [lightS, this]
theorem lightS_count {s : Sta} {i : Nat} (h : i < s.counts.length) (hp : lightC s.counts[i] = false) : lightS s = false := by
  have : s.counts.all lightC = false := all_not h hp
  simp [lightS, this]
set_option maxRecDepth 8000 in
set_option maxHeartbeats 8000000 in
theorem c_law19_Light (s : Sta) (n1 : s.sets.length ≤ 9223372036854775807) (n2 : s.counts.length ≤ 9223372036854775807) (n3 : ∀ l ∈ s.sets, l.length ≤ 9223372036854775807) (n4 : ∀ l ∈ s.counts, l.length ≤ 9223372036854775807) : Pure Tryz.prog 7 [.agg (staC s)] (.b (lightS s)) := by
  refine proc_of (cx Tryz.prog 81 [1, 2, 3, 4, 5, 14, 23, 31, 43, 52, 70] [2]) 80 [.tmp 2] Tryz.func7 rfl rfl rfl rfl rfl rfl (Nat.le_refl _) rfl ?_
  refine AWp.go [1] [1] fun K hK => ?_
  simp [staC]
  first | refine hK _ _ ?_ | refine ⟨by omega, hK _ _ ?_⟩ | refine ⟨by omega, by omega, hK _ _ ?_⟩
  clear hK K
  refine AWp.seq ?_
  refine AWp.go [1, 3] [1] fun K hK => ?_
  simp
  first | refine hK _ _ ?_ | refine ⟨by omega, hK _ _ ?_⟩ | refine ⟨by omega, by omega, hK _ _ ?_⟩
  clear hK K
  refine AWp.block (AWp.while (fun i : Nat => [(1, .ptr 1 0), (3, .i .i64 i)]) (fun i => [(1, [.sl .fro 1 (rowsS s.sets), .sl .fro 1 (rowsK s.counts)])]) (fun i => i ≤ s.sets.length ∧ i ≤ 21 ∧ ∀ k (hk : k < i) (hk2 : k < s.sets.length), lightL s.sets[k] = true) (fun i => s.sets.length - i) [1, 3] [1] 0 (by simp) (by simp) ?_)
  rintro i ⟨hi, hi2, hall⟩
  refine AWp.seq ?_
  refine AWp.step [1, 3, 14] [1] [(1, .ptr 1 0), (3, .i .i64 i), (14, .b (decide (i < s.sets.length) && decide (i ≤ 20)))] [(1, [.sl .fro 1 (rowsS s.sets), .sl .fro 1 (rowsK s.counts)])] ?_ ?_
  · by_cases q : i < s.sets.length <;> simp [q]
    omega
  cases h0 : decide (i < s.sets.length) && decide (i ≤ 20)
  · refine AWp.cond (t := false) (by simp) (by simp) (fun _ => ?_)
    refine AWp.exit ?_
    show AWp _ _ _ _
    refine AWp.seq ?_
    simp only [Bool.and_eq_false_iff, decide_eq_false_iff_not] at h0
    have hA : s.sets.all lightL = true ∨ 20 < s.sets.length := by
      by_cases q : s.sets.length ≤ 20
      · exact .inl (all_of fun k hk => hall k (by omega) hk)
      · exact .inr (by omega)
    clear hall h0
    refine AWp.go [1, 5] [1] fun K hK => ?_
    simp
    first | refine hK _ _ ?_ | refine ⟨by omega, hK _ _ ?_⟩ | refine ⟨by omega, by omega, hK _ _ ?_⟩
    clear hK K
    refine AWp.block (AWp.while (fun c : Nat => [(1, .ptr 1 0), (5, .i .i64 c)]) (fun c => [(1, [.sl .fro 1 (rowsS s.sets), .sl .fro 1 (rowsK s.counts)])]) (fun c => c ≤ s.counts.length ∧ c ≤ 21 ∧ ∀ k (hk : k < c) (hk2 : k < s.counts.length), lightC s.counts[k] = true) (fun c => s.counts.length - c) [1, 5] [1] 0 (by simp) (by simp) ?_)
    rintro c ⟨hc, hc2, hall⟩
    refine AWp.seq ?_
    refine AWp.step [1, 5, 52] [1] [(1, .ptr 1 0), (5, .i .i64 c), (52, .b (decide (c < s.counts.length) && decide (c ≤ 20)))] [(1, [.sl .fro 1 (rowsS s.sets), .sl .fro 1 (rowsK s.counts)])] ?_ ?_
    · by_cases q : c < s.counts.length <;> simp [q]
      omega
    cases h0 : decide (c < s.counts.length) && decide (c ≤ 20)
    · refine AWp.cond (t := false) (by simp) (by simp) (fun _ => ?_)
      refine AWp.exit ?_
      show AWp _ _ _ _
      simp only [Bool.and_eq_false_iff, decide_eq_false_iff_not] at h0
      have hC : s.counts.all lightC = true ∨ 20 < s.counts.length := by
        by_cases q : s.counts.length ≤ 20
        · exact .inl (all_of fun k hk => hall k (by omega) hk)
        · exact .inr (by omega)
      have hE : (decide ((s.sets.length : Int) ≤ 20) && decide ((s.counts.length : Int) ≤ 20)) = lightS s := by
        unfold lightS
        by_cases q1 : (s.sets.length : Int) ≤ 20
        · by_cases q2 : (s.counts.length : Int) ≤ 20
          · rw [hA.resolve_right (by omega), hC.resolve_right (by omega)]; simp
          · simp [q2]
        · simp [q1]
      refine AWp.step [2] [1] [(2, .b (lightS s))] [(1, [.sl .fro 1 (rowsS s.sets), .sl .fro 1 (rowsK s.counts)])] ?_ ?_
      · rw [← hE]
        by_cases q1 : (s.sets.length : Int) ≤ 20 <;> simp [q1]
      refine AWp.ret ?_
      simp
    · refine AWp.cond (t := true) (by simp) (fun _ => ?_) (by simp)
      refine AWp.skip ?_
      show AWp _ _ _ _
      refine AWp.seq ?_
      refine AWp.block ?_
      simp only [Bool.and_eq_true, decide_eq_true_eq] at h0
      obtain ⟨h, h20⟩ := h0
      have hn := n4 _ (List.getElem_mem h)
      refine AWp.step [1, 5, 70] [1] [(1, .ptr 1 0), (5, .i .i64 c), (70, .b (!lightC s.counts[c]))] [(1, [.sl .fro 1 (rowsS s.sets), .sl .fro 1 (rowsK s.counts)])] ?_ ?_
      · simp [h]
        refine call_pure (c_law10_Light s.counts[c] (by omega)) (by simp) ?_
        cases q1 : lightK s.counts[c] <;> simp [h, lightC, q1]
      cases hp : lightC s.counts[c]
      · refine AWp.cond (t := true) (by simp) (fun _ => ?_) (by simp)
        refine AWp.go [2] [1] fun K hK => ?_
        simp
        first | refine hK _ _ ?_ | refine ⟨by omega, hK _ _ ?_⟩ | refine ⟨by omega, by omega, hK _ _ ?_⟩
        clear hK K
        refine AWp.ret ?_
        simp [lightS_count h hp]
      · refine AWp.cond (t := false) (by simp) (by simp) (fun _ => ?_)
        refine AWp.skip ?_
        show AWp _ _ _ _
        refine AWp.goLast [1, 5] [1] fun K hK => ?_
        simp
        first | refine hK _ _ ?_ | refine ⟨by omega, hK _ _ ?_⟩ | refine ⟨by omega, by omega, hK _ _ ?_⟩
        clear hK K
        refine ⟨c + 1, ⟨by omega, by omega, fun k hk hk2 => ?_⟩, by omega, ?_⟩
        · by_cases hki : k = c
          · subst hki; exact hp
          · exact hall k (by omega) hk2
        · simp
          exact wrap64 (by omega) (by omega)
  · refine AWp.cond (t := true) (by simp) (fun _ => ?_) (by simp)
    refine AWp.skip ?_
    show AWp _ _ _ _
    refine AWp.seq ?_
    refine AWp.block ?_
    refine AWp.seq ?_
    simp only [Bool.and_eq_true, decide_eq_true_eq] at h0
    obtain ⟨h, h20⟩ := h0
    have hn := n3 _ (List.getElem_mem h)
    refine AWp.go [1, 3, 23] [1] fun K hK => ?_
    simp [h]
    first | refine hK _ _ ?_ | refine ⟨by omega, hK _ _ ?_⟩ | refine ⟨by omega, by omega, hK _ _ ?_⟩
    clear hK K
    by_cases hp : (30 : Int) < s.sets[i].length
    · refine AWp.cond (t := true) (by first | (simp [hp]; done) | (simp [hp]; omega)) (fun _ => ?_) (by simp)
      refine AWp.go [2] [1] fun K hK => ?_
      simp
      first | refine hK _ _ ?_ | refine ⟨by omega, hK _ _ ?_⟩ | refine ⟨by omega, by omega, hK _ _ ?_⟩
      clear hK K
      refine AWp.ret ?_
      simp [lightS_set h (by simp [lightL, hp])]
    · refine AWp.cond (t := false) (by first | (simp [hp]; done) | (simp [hp]; omega)) (by simp) (fun _ => ?_)
      refine AWp.skip ?_
      show AWp _ _ _ _
      refine AWp.go [1, 3, 4] [1] fun K hK => ?_
      simp
      first | refine hK _ _ ?_ | refine ⟨by omega, hK _ _ ?_⟩ | refine ⟨by omega, by omega, hK _ _ ?_⟩
      clear hK K
      refine AWp.block (AWp.while (fun j : Nat => [(1, .ptr 1 0), (3, .i .i64 i), (4, .i .i64 j)]) (fun j => [(1, [.sl .fro 1 (rowsS s.sets), .sl .fro 1 (rowsK s.counts)])]) (fun j => j ≤ s.sets[i].length ∧ ∀ k (hk : k < j) (hk2 : k < s.sets[i].length), (!decide ((100 : Int) < s.sets[i][k].size)) = true) (fun j => s.sets[i].length - j) [1, 3, 4] [1] 0 (by simp) (by simp) ?_)
      rintro j ⟨hj, hallj⟩
      refine AWp.seq ?_
      refine AWp.go [1, 3, 4, 31] [1] fun K hK => ?_
      simp [h]
      first | refine hK _ _ ?_ | refine ⟨by omega, hK _ _ ?_⟩ | refine ⟨by omega, by omega, hK _ _ ?_⟩
      clear hK K
      by_cases g : j < s.sets[i].length
      · refine AWp.cond (t := true) (by first | (simp [g]; done) | (simp [g]; omega)) (fun _ => ?_) (by simp)
        refine AWp.skip ?_
        show AWp _ _ _ _
        refine AWp.seq ?_
        refine AWp.block ?_
        refine AWp.go [1, 3, 4, 43] [1] fun K hK => ?_
        simp [h, g]
        first | refine hK _ _ ?_ | refine ⟨by omega, hK _ _ ?_⟩ | refine ⟨by omega, by omega, hK _ _ ?_⟩
        clear hK K
        by_cases hq : (100 : Int) < s.sets[i][j].size
        · refine AWp.cond (t := true) (by first | (simp [hq]; done) | (simp [hq]; omega)) (fun _ => ?_) (by simp)
          have hz : lightL s.sets[i] = false := by
            have : (s.sets[i].all fun k => !decide ((100 : Int) < k.size)) = false := all_not g (by simpa using hq)
            simp [lightL, this]
          refine AWp.go [2] [1] fun K hK => ?_
          simp
          first | refine hK _ _ ?_ | refine ⟨by omega, hK _ _ ?_⟩ | refine ⟨by omega, by omega, hK _ _ ?_⟩
          clear hK K
          refine AWp.ret ?_
          simp [lightS_set h hz]
        · refine AWp.cond (t := false) (by first | (simp [hq]; done) | (simp [hq]; omega)) (by simp) (fun _ => ?_)
          refine AWp.skip ?_
          show AWp _ _ _ _
          refine AWp.goLast [1, 3, 4] [1] fun K hK => ?_
          simp
          first | refine hK _ _ ?_ | refine ⟨by omega, hK _ _ ?_⟩ | refine ⟨by omega, by omega, hK _ _ ?_⟩
          clear hK K
          refine ⟨j + 1, ⟨by omega, fun k hk hk2 => ?_⟩, by omega, ?_⟩
          · by_cases hki : k = j
            · subst hki; simpa using hq
            · exact hallj k (by omega) hk2
          · simp
            exact wrap64 (by omega) (by omega)
      · refine AWp.cond (t := false) (by first | (simp [g]; done) | (simp [g]; omega)) (by simp) (fun _ => ?_)
        refine AWp.exit ?_
        show AWp _ _ _ _
        refine AWp.goLast [1, 3] [1] fun K hK => ?_
        simp
        first | refine hK _ _ ?_ | refine ⟨by omega, hK _ _ ?_⟩ | refine ⟨by omega, by omega, hK _ _ ?_⟩
        clear hK K
        have hz : lightL s.sets[i] = true := by
          have : (s.sets[i].all fun k => !decide ((100 : Int) < k.size)) = true := all_of fun k hk => hallj k (by omega) hk
          simp [lightL, this]; omega
        refine ⟨i + 1, ⟨by omega, by omega, fun k hk hk2 => ?_⟩, by omega, ?_⟩
        · by_cases hki : k = i
          · subst hki; exact hz
          · exact hall k (by omega) hk2
        · simp
          exact wrap64 (by omega) (by omega)
theorem flat_le_mul {α : Type} (n : Nat) : ∀ (l : List (List α)), (∀ x ∈ l, x.length ≤ n) → l.flatten.length ≤ l.length * n
  | [], _ => by simp
  | a :: l, h => by
    have h1 := flat_le_mul n l fun x hx => h x (List.mem_cons_of_mem _ hx)
    have h2 := h a (List.mem_cons_self ..)
    rw [List.flatten_cons, List.length_append, List.length_cons, Nat.succ_mul]; omega
theorem few_of {s : Sta} (h : lightS s = true) : Few s := by
  simp only [lightS, Bool.and_eq_true, decide_eq_true_eq, List.all_eq_true] at h
  obtain ⟨⟨⟨h1, h2⟩, h3⟩, h4⟩ := h
  have k1 : ∀ l ∈ s.sets, l.length ≤ 30 := fun l hl => by
    have := h1 l hl
    simp only [lightL, Bool.and_eq_true, Bool.not_eq_true', decide_eq_false_iff_not] at this
    omega
  have k2 : ∀ l ∈ s.counts, l.length ≤ 30 := fun l hl => by
    have := h2 l hl
    simp only [lightC, Bool.and_eq_true, Bool.not_eq_true', decide_eq_false_iff_not] at this
    omega
  have m1 := flat_le_mul 30 _ k1
  have m2 := flat_le_mul 30 _ k2
  refine ⟨⟨by omega, by omega, fun l hl => ?_, fun l hl => ?_⟩, by omega, by omega⟩
  · have := k1 l hl; omega
  · have := k2 l hl; omega
def placeI (n m : Int) : Int := if n < 0 ∨ m ≤ n then 0 else n
end Go.AM
namespace Go.AM
open Go.Proofs
def kA : ByteArray := ⟨#[97]⟩
def kB : ByteArray := ⟨#[98]⟩
def kK : ByteArray := ⟨#[107]⟩
def kL : ByteArray := ⟨#[108]⟩
def awR : Rul := ⟨[kA, kB], [], [], [⟨4, false, 0, 1, 0⟩], []⟩
def awS : Sta := ⟨[[kK], []], []⟩
def awT : Sta := ⟨[[kK], [kK, kL]], []⟩
theorem aw_broken : brokenP awR awS = [0] := by kernel_rfl
theorem aw_holds : heldP awR awS 0 = false := by kernel_rfl
theorem aw_holdsT : heldP awR awT 0 = true := by kernel_rfl
theorem aw_in : inOf awT 1 kL = true := by kernel_rfl
theorem awR_slim : Slim awR := by
  refine ⟨⟨by decide, by decide, by decide, by decide, by decide⟩, fun o ho => ?_, fun s hs => ?_⟩
  · cases ho
  · simp [allN, awR] at hs
    rcases hs with rfl | rfl <;> decide
theorem awS_slight : SlightS awS := by
  refine ⟨by decide, by decide, fun l hl => ?_, fun l hl => ?_⟩
  · simp [awS] at hl
    rcases hl with rfl | rfl <;> decide
  · cases hl
theorem awT_slight : SlightS awT := by
  refine ⟨by decide, by decide, fun l hl => ?_, fun l hl => ?_⟩
  · simp [awT] at hl
    rcases hl with rfl | rfl <;> decide
  · cases hl
set_option maxRecDepth 8000 in
set_option maxHeartbeats 8000000 in
theorem c_law19_awake : Pure Tryz.prog 8 [] (.b true) := by
  have g1 := c_eval_Broken awR awS awR_slim awS_slight
  have g2 := c_eval_Holds awR awS awR_slim awS_slight 0
  have g3 := c_eval_Holds awR awT awR_slim awT_slight 0
  have g4 := c_eval_In awT awT_slight 1 kL
  rw [aw_broken] at g1
  rw [aw_holds] at g2
  rw [aw_holdsT] at g3
  rw [aw_in] at g4
  simp [rulC, staC, awR, awS, awT, strsAV, clsAV, clC, rowsS, rowsK, opnsAV, kA, kB, kK, kL] at g1 g2 g3 g4
  refine proc_of (cx Tryz.prog 36 [0, 1, 2, 3] [0]) 36 [.tmp 0] Tryz.func8 rfl rfl rfl rfl rfl rfl (Nat.le_refl _) rfl ?_
  refine AWp.go [] [] fun K hK => ?_
  simp
  first | refine hK _ _ ?_ | refine ⟨by omega, hK _ _ ?_⟩ | refine ⟨by omega, by omega, hK _ _ ?_⟩
  clear hK K
  refine AWp.go [1] [1] fun K hK => ?_
  simp
  first | refine hK _ _ ?_ | refine ⟨by omega, hK _ _ ?_⟩ | refine ⟨by omega, by omega, hK _ _ ?_⟩
  clear hK K
  refine AWp.frzc [(1, 0)] ?_
  simp
  refine AWp.frzc [(1, 3)] ?_
  simp
  refine AWp.go [1, 2] [1, 2] fun K hK => ?_
  simp [-rowsS_nils, -rowsK_nils]
  first | refine hK _ _ ?_ | refine ⟨by omega, hK _ _ ?_⟩ | refine ⟨by omega, by omega, hK _ _ ?_⟩
  clear hK K
  refine AWp.frzc [(2, 0)] ?_
  simp
  refine AWp.go [1, 2, 3] [1, 2, 3] fun K hK => ?_
  simp [-rowsS_nils, -rowsK_nils]
  first | refine hK _ _ ?_ | refine ⟨by omega, hK _ _ ?_⟩ | refine ⟨by omega, by omega, hK _ _ ?_⟩
  clear hK K
  refine AWp.frzc [(3, 0)] ?_
  simp
  refine AWp.go [0] [1] fun K hK => ?_
  simp
  refine call_pure g1 (by simp) ?_
  simp
  refine call_pure g2 (by simp) ?_
  simp
  refine call_pure g3 (by simp) ?_
  simp
  refine call_pure g4 (by simp) ?_
  simp
  first | refine hK _ _ ?_ | refine ⟨by omega, hK _ _ ?_⟩ | refine ⟨by omega, by omega, hK _ _ ?_⟩
  clear hK K
  refine AWp.ret ?_
  simp
end Go.AM
namespace Go.AM
open Go.Proofs
theorem any_both {A B : List ByteArray} (hA : SortS A) (hB : SortS B) : A.any (fun k => thereS B k) = B.any (fun k => thereS A k) := by
  rw [Bool.eq_iff_iff, List.any_eq_true, List.any_eq_true]
  constructor
  · rintro ⟨x, hx, h⟩
    rw [thereS_eq hB, hasS_iff] at h
    exact ⟨x, h, by rw [thereS_eq hA, hasS_iff]; exact hx⟩
  · rintro ⟨x, hx, h⟩
    rw [thereS_eq hA, hasS_iff] at h
    exact ⟨x, h, by rw [thereS_eq hB, hasS_iff]; exact hx⟩
theorem setOf_sort {s : Sta} (h : ∀ l ∈ s.sets, setB l = true) (n : Int) : SortS (setOf s n) := by
  unfold setOf
  rw [List.getD_eq_getElem?_getD]
  cases hx : s.sets[n.toNat]? with
  | some x => exact setB_sort (h _ (List.mem_of_getElem? hx))
  | none => exact List.Pairwise.nil
theorem holds_turn {s : Sta} (h : ∀ l ∈ s.sets, setB l = true) (c : Cl) : holdsP s (turnC c) = holdsP s c := by
  unfold turnC
  split
  · rename_i h5
    unfold holdsP
    simp only
    rw [if_neg (by omega), if_pos h5.1, if_neg (by omega), if_pos h5.1, any_both (setOf_sort h _) (setOf_sort h _)]
  · rfl
theorem holds_over {s : Sta} {c d : Cl} (ho : Ovr c d) (h : holdsP s d = true) : holdsP s c = true := by
  obtain ⟨⟨g1, g2, g3⟩, _, hk⟩ := ho
  rcases hk with ⟨hb, hn⟩ | ⟨hb, hn, _⟩
  · unfold holdsP at h ⊢
    rw [← g1, ← g2] at h
    rcases hb with hb | hb
    · rw [if_neg (by omega), if_neg (by omega), if_pos hb] at h ⊢
      simp only [decide_eq_true_eq] at h ⊢
      omega
    · rw [if_neg (by omega), if_neg (by omega), if_neg (by omega), if_pos hb] at h ⊢
      simp only [Bool.not_eq_true', List.any_eq_false, decide_eq_true_eq] at h ⊢
      intro x hx
      have := h x hx
      omega
  · unfold holdsP at h ⊢
    rw [← g1, ← g2, ← g3, ← hn] at h
    exact h
theorem brokenTo_nil {p : Nat → Bool} (n : Nat) : brokenTo p n = [] ↔ ∀ i, i < n → p i = true := by
  unfold brokenTo
  rw [List.map_eq_nil_iff, List.filter_eq_nil_iff]
  simp
theorem broken_nil {r : Rul} {s : Sta} (h : okB r s = true) : brokenP r s = [] ↔ ∀ c ∈ r.cls, holdsP s c = true := by
  unfold brokenP
  rw [if_pos h, brokenTo_nil]
  constructor
  · intro h1 c hc
    obtain ⟨i, hi, rfl⟩ := List.mem_iff_getElem.1 hc
    have := h1 i hi
    rw [holdsAt, List.getElem?_eq_getElem hi] at this
    exact this
  · intro h1 i hi
    rw [holdsAt, List.getElem?_eq_getElem hi]
    exact h1 _ (List.getElem_mem hi)
theorem plain_holds {r : Rul} {s : Sta} (h : okB r s = true) : okB (plainP r) s = true ∧ (brokenP (plainP r) s = [] ↔ brokenP r s = []) := by
  have hr : rulesB r = true ∧ stateB r s = true := by simpa [okB] using h
  have hp := plain_may hr.1
  have hst : stateB (plainP r) s = true := hr.2
  have hok : okB (plainP r) s = true := by simp [okB, hp, hst]
  refine ⟨hok, ?_⟩
  obtain ⟨hset, _⟩ := stateB_sets hr.2
  obtain ⟨h1, h2, h3, h4, h5⟩ := rulesB_parts hr.1
  have hpl := putsCl_plain (l := r.cls) (fun c hc => clB_loose (h4 c hc)) r.cls.length (Nat.le_refl _)
  rw [List.take_length, clauses_law fun c hc => clB_loose (h4 c hc)] at hpl
  rw [broken_nil h, broken_nil hok]
  constructor
  · intro hh c hc
    rw [← holds_turn hset]
    obtain ⟨x, hx, hxc⟩ := hpl.dom (turnC c) (List.mem_map.2 ⟨c, hc, rfl⟩)
    rcases hxc with rfl | hxc
    · exact hh _ hx
    · exact holds_over hxc (hh x hx)
  · intro hh c hc
    obtain ⟨c0, m0, rfl⟩ := List.mem_map.1 ((hpl.mem c).1 hc).1
    rw [holds_turn hset]
    exact hh c0 m0
set_option maxRecDepth 8000 in
set_option maxHeartbeats 16000000 in
theorem c_EvalPlain (r : Rul) (s : Sta) (n1 : s.sets.length ≤ 9223372036854775807) (n2 : s.counts.length ≤ 9223372036854775807) (n3 : ∀ l ∈ s.sets, l.length ≤ 9223372036854775807) (n4 : ∀ l ∈ s.counts, l.length ≤ 9223372036854775807) : Pure Tryz.prog 5 [.agg (rulC r), .agg (staC s)] (.b true) := by
  have g0 := c_law16_Light r
  have g0' := c_law19_Light s n1 n2 n3 n4
  have gw := c_law19_awake
  simp [rulC, staC] at g0 g0'
  refine proc_of (cx Tryz.prog 44 [2, 3, 4, 5, 6, 14, 28] [4]) 42 [.tmp 4] Tryz.func5 rfl rfl rfl rfl rfl rfl (Nat.le_refl _) rfl ?_
  refine AWp.go [2, 3] [2, 3] fun K hK => ?_
  simp [rulC, staC]
  first | refine hK _ _ ?_ | refine ⟨by omega, hK _ _ ?_⟩ | refine ⟨by omega, by omega, hK _ _ ?_⟩
  clear hK K
  refine AWp.seq ?_
  refine AWp.step [2, 3, 14] [2, 3] [(2, .ptr 2 0), (3, .ptr 3 0), (14, .b (!(slimB r && lightS s)))] [(2, [.sl .fro 1 (strsAV r.sets), .sl .fro 1 (strsAV r.counts), .sl .fro 1 (strsAV r.notes), .sl .fro 5 (clsAV r.cls), .sl .fro 2 (opnsAV r.opers)]), (3, [.sl .fro 1 (rowsS s.sets), .sl .fro 1 (rowsK s.counts)])] ?_ ?_
  · simp
    refine call_pure g0 (by simp) ?_
    cases q1 : slimB r
    · simp
    simp
    refine call_pure g0' (by simp) ?_
    simp
  cases hg : slimB r && lightS s
  · refine AWp.cond (t := true) (by simp) (fun _ => ?_) (by simp)
    refine AWp.go [4] [2, 3] fun K hK => ?_
    simp
    refine call_pure gw (by simp) ?_
    simp
    first | refine hK _ _ ?_ | refine ⟨by omega, hK _ _ ?_⟩ | refine ⟨by omega, by omega, hK _ _ ?_⟩
    clear hK K
    refine AWp.ret ?_
    simp
  · refine AWp.cond (t := false) (by simp) (by simp) (fun _ => ?_)
    refine AWp.skip ?_
    show AWp _ _ _ _
    have hL : slimB r = true ∧ lightS s = true := by simpa using hg
    have hr := slim_of hL.1
    have hs := (few_of hL.2).1
    clear g0 g0'
    have gP := (c_norm_Plain r hr).fro
    have gC := c_eval_Check r s hr hs
    have gB := (c_eval_Broken r s hr hs).fro
    have gB2 := (c_eval_Broken (normR r) s (slim_plain hr) hs).fro
    have hlaw := fun h => plain_holds (r := r) (s := s) h
    have hnok := fun h => normR_ok (r := r) h
    obtain ⟨N, hN⟩ : ∃ N, N = normR r := ⟨_, rfl⟩
    rw [← hN] at gP gB2 hnok
    simp [rulC, staC] at gP gC gB gB2
    refine AWp.go [2, 3, 5, 6] [2, 3, 5] fun K hK => ?_
    simp
    refine call_pure gP (by simp) ?_
    simp
    first | refine hK _ _ ?_ | refine ⟨by omega, hK _ _ ?_⟩ | refine ⟨by omega, by omega, hK _ _ ?_⟩
    clear hK K
    refine AWp.seq ?_
    refine AWp.step [2, 3, 5, 28] [2, 3, 5] [(2, .ptr 2 0), (3, .ptr 3 0), (5, .ptr 5 0), (28, .b (!okB r s))] [(2, [.sl .fro 1 (strsAV r.sets), .sl .fro 1 (strsAV r.counts), .sl .fro 1 (strsAV r.notes), .sl .fro 5 (clsAV r.cls), .sl .fro 2 (opnsAV r.opers)]), (3, [.sl .fro 1 (rowsS s.sets), .sl .fro 1 (rowsK s.counts)]), (5, [.sl .fro 1 (strsAV N.sets), .sl .fro 1 (strsAV N.counts), .sl .fro 1 (strsAV N.notes), .sl .fro 5 (clsAV N.cls), .sl .fro 2 (opnsAV N.opers)])] ?_ ?_
    · cases q1 : rulesB r
      · simp [okB, q1]
      rw [q1] at gC
      simp
      refine call_pure gC (by simp) ?_
      cases q2 : stateB r s <;> simp [okB, q1, q2]
    cases hok : okB r s
    · refine AWp.cond (t := true) (by simp) (fun _ => ?_) (by simp)
      refine AWp.go [4] [2, 3, 5] fun K hK => ?_
      simp
      refine call_pure gw (by simp) ?_
      simp
      first | refine hK _ _ ?_ | refine ⟨by omega, hK _ _ ?_⟩ | refine ⟨by omega, by omega, hK _ _ ?_⟩
      clear hK K
      refine AWp.ret ?_
      simp
    · refine AWp.cond (t := false) (by simp) (by simp) (fun _ => ?_)
      refine AWp.skip ?_
      show AWp _ _ _ _
      have hrB : rulesB r = true := by
        simp only [okB, Bool.and_eq_true] at hok
        exact hok.1
      have hlaw2 := (hlaw hok).2
      rw [← hnok hrB] at hlaw2
      clear hlaw hnok hN gP gC
      obtain ⟨B1, hB1⟩ : ∃ B1, B1 = brokenP r s := ⟨_, rfl⟩
      obtain ⟨B2, hB2⟩ : ∃ B2, B2 = brokenP N s := ⟨_, rfl⟩
      rw [← hB1] at gB hlaw2
      rw [← hB2] at gB2 hlaw2
      refine AWp.stepA 14 (fun j => if j = 2 then .sl .fro 1 (intsAV B1) else if j = 7 then .sl .fro 1 (intsAV B2) else if j = 12 then .b true else .any) [4] [2, 3, 5] [(4, .b true)] [(2, [.sl .fro 1 (strsAV r.sets), .sl .fro 1 (strsAV r.counts), .sl .fro 1 (strsAV r.notes), .sl .fro 5 (clsAV r.cls), .sl .fro 2 (opnsAV r.opers)]), (3, [.sl .fro 1 (rowsS s.sets), .sl .fro 1 (rowsK s.counts)]), (5, [.sl .fro 1 (strsAV N.sets), .sl .fro 1 (strsAV N.counts), .sl .fro 1 (strsAV N.notes), .sl .fro 5 (clsAV N.cls), .sl .fro 2 (opnsAV N.opers)])] mix (by kernel_rfl) ?_ ?_
      · by_cases q : B1 = []
        · have q2 := hlaw2.2 q
          subst q
          subst q2
          rw [show intsAV [] = [] from rfl] at gB gB2
          simp [gB, gB2, gw]
        · have q2 : ¬ B2 = [] := fun h => q (hlaw2.1 h)
          simp [gB, gB2, gw, q, q2]
      refine AWp.ret ?_
      simp
end Go.AM
