/- slices.Delete in place, at elements of any size in cells: what it does with the row that is handed to it. -/
import Derived.Test.YtlilmkblggifaaaAmT
import Derived.Test.YtlilmkblggifaaaAmB
import Derived.WalkKit
import Derived.Deep.LoopGhost
import Derived.Deep.RegionLaw
import Derived.Lib.Walk
import Derived.Lib.SliceRun
import Derived.Test.YtlilmkblggifaaaAmD
import Derived.Test.YtlilmkblggifaaaAmE
namespace Go.AM
open Go.RowKit Go.Lib

theorem step_append {P : Program} {ops : Array Oper} {o : Oper} {a : Act} {w : World} {K : Act → World → Prop} {Q : Exit → Act → World → Prop} {E : Prop} (hg : o.guard = none) (s x : Operand) (t t2 : TypeId)
    (hop : o.op = Op.call { callee := Callee.builtin Builtin.append, args := #[s, x], argTypes := #[t, t2] }) (vs vx v : Value) (w' : World) (hs : a.eval s = vs) (hx : a.eval x = vx)
    (hr : ∀ ty, (Builtin.append_ #[t, t2] ty #[vs, vx]).run P w = .ok v w') (hK : K (a.put o.dst v) w') : if Region.wanted o (yielded ops a.tmps) = true then Oper.wp P o a w K Q else E := by
  have hw : Region.wanted o (yielded ops a.tmps) = true := by simp [Region.wanted, hg]
  rw [if_pos hw]
  unfold Oper.wp
  have : (execOp a.eval o).run P w = .ok (.value v) w' := by
    obtain ⟨dst, op, type, pos, after, guard⟩ := o
    simp only at hop
    subst hop
    simp [execOp, resolve, invoke, builtin, hs, hx, hr]
  rw [this]
  exact hK

/-- A row behind a deletion: ahead of i, from j on, then zero cells. -/
def cutRow (cs : Array Value) (i j n : Nat) (zs : List Value) : Array Value := (cs.toList.take i ++ (cs.toList.take n).drop j ++ zs ++ cs.toList.drop n).toArray

theorem run_clear_row {P : Program} (w : World) (t e ty : TypeId) (z : Value) (ht : P.underlying t = some (.slice e)) (hv : ∀ w, (zeroValue e).run P w = .ok z w) (h1 : ∀ v ∈ z.cells, v.oneCell' = true) (b o n c : Nat) (T : TypeId) (cur : Array Value)
    (hn : 0 < n) (hg : w.heap[b]? = some (.cells cur T (0, 0))) (hl : o + n * z.cells.size ≤ cur.size) :
    (Builtin.clear_ #[t] ty #[.slice (some ⟨b, o, none⟩) n c]).run P w = .ok (.tuple #[]) (w.setRow b (cur.toList.take o ++ (Builtin.zeroCells z.cells n).toList ++ cur.toList.drop (o + n * z.cells.size)).toArray) := by
  have hsz : (Builtin.zeroCells z.cells n).toList.length = n * z.cells.size := by rw [Array.length_toList, size_zeroCells]
  have hst := run_storeCells_at P b o T (Builtin.zeroCells z.cells n).toList 0 cur w hg (by rw [hsz]; simpa using hl) (fun v hv' => by
    have : v ∈ Builtin.zeroCells z.cells n := by simpa using hv'
    unfold Builtin.zeroCells at this
    obtain ⟨k, hk, rfl⟩ := Array.mem_map.1 this
    have hp : 0 < z.cells.size := by
      rcases Nat.eq_zero_or_pos z.cells.size with h0 | h0
      · simp [h0] at hk
      · exact h0
    rw [getElem!_pos z.cells _ (Nat.mod_lt _ hp)]
    exact h1 _ (Array.getElem_mem _))
  simp only [Nat.add_zero, hsz] at hst
  obtain ⟨m, rfl⟩ : ∃ m, n = m + 1 := ⟨n - 1, by omega⟩
  simp [Builtin.clear_, run_underlying ht, hv, hst]
end Go.AM
namespace Go.AM
open Go.RowKit Go.Lib Go.Proofs

set_option maxHeartbeats 1000000 in
theorem delete73 (bk i j n cap : Nat) (T : TypeId) (cells : Array Value) (w : World) (hg : w.heap[bk]? = some (.cells cells T (0, 0))) (hsz : cells.size = cap * 3) (hij : i < j) (hjn : j ≤ n) (hcap : n ≤ cap)
    (one : ∀ (k : Nat) v, k < n * 3 → cells[k]? = some v → v.oneCell' = true) :
    Calls Try.prog 73 #[.slice (some ⟨bk, 0, none⟩) n cap, .int .i64 i, .int .i64 j] w fun e w' => e = .returned (.slice (some ⟨bk, 0, none⟩) (n - (j - i)) cap) ∧
      ∃ zs, zs.length = (j - i) * 3 ∧ w' = w.drew.setRow bk (cutRow cells (i * 3) (j * 3) (n * 3) zs) := by
  have hj3 : j * 3 ≤ n * 3 := by omega
  have hn3 : n * 3 ≤ cells.size := by omega
  obtain ⟨ad, had⟩ : ∃ ad : Addr, (if cap = j then some (⟨bk, 0, none⟩ : Addr) else some ⟨bk, j * 3, none⟩) = some ad := by
    split <;> exact ⟨_, rfl⟩
  have hread : ∀ w', w'.heap = w.heap → (Builtin.firstCells 3 (n - j) (.slice (some ad) (n - j) (cap - j))).run Try.prog w' = .ok ((cells.toList.take (n * 3)).drop (j * 3)).toArray w' := by
    intro w' hw'
    show (loadCells ad _).run _ w' = _
    have hl : ((cells.toList.take (n * 3)).drop (j * 3)).length = (n - j) * 3 := by simp; omega
    rw [← hl]
    split at had
    · have : (cells.toList.take (n * 3)).drop (j * 3) = [] := List.eq_nil_of_length_eq_zero (by rw [hl]; omega)
      rw [this]
      rfl
    · cases had
      refine load_cells bk (j * 3) _ fun k v hk => ?_
      rw [List.getElem?_drop, List.getElem?_take] at hk
      split at hk
      · simp only [World.cell?, hw', hg]
        rw [Array.getElem?_toList] at hk
        simpa using hk
      · cases hk
  have hap : ∀ ty, (Builtin.append_ #[27, 27] ty #[.slice (some ⟨bk, 0, none⟩) i cap, .slice (some ad) (n - j) (cap - j)]).run Try.prog w.drew =
      .ok (.slice (some ⟨bk, 0, none⟩) (i + (n - j)) cap) (w.drew.setRow bk (cells.toList.take (i * 3) ++ (cells.toList.take (n * 3)).drop (j * 3) ++ cells.toList.drop (i * 3 + ((n - j) * 3))).toArray) := by
    intro ty
    obtain ⟨i0, hi0, hz⟩ : ∃ i0, Try.prog.info? 32 = some i0 ∧ i0.size = 3 := ⟨Try.prog.types[32]!, by kernel_rfl, by kernel_rfl⟩
    have hl : ((cells.toList.take (n * 3)).drop (j * 3)).length = (n - j) * 3 := by simp; omega
    have h := append_in (P := Try.prog) (w := w.drew) (ty := ty) (i := i0) Try.underlying27 Try.underlying27 (.inr ⟨32, rfl⟩) hi0 (g := bk) (sLen := i) (sCap := cap) (T := T) (cur := cells) hg (x := .slice (some ad) (n - j) (cap - j)) (m := n - j)
      (news := (cells.toList.take (n * 3)).drop (j * 3)) ⟨rfl, fun w' hw' => by rw [hz]; exact hread w' hw', by rw [hz]; exact hl, fun u hu => ?_⟩ (by omega) (by rw [hl, hz]; omega)
    · rw [hl, hz] at h
      exact h
    · obtain ⟨k, hk⟩ := List.mem_iff_getElem?.1 hu
      rw [List.getElem?_drop, List.getElem?_take] at hk
      split at hk
      · rename_i hlt
        rw [Array.getElem?_toList] at hk
        exact one _ u hlt hk
      · cases hk
  have hic : i ≤ cap := by omega
  have hjc : j ≤ cap := by omega
  obtain ⟨W1, hW1⟩ : ∃ W1, W1 = w.drew.setRow bk (cells.toList.take (i * 3) ++ (cells.toList.take (n * 3)).drop (j * 3) ++ cells.toList.drop (i * 3 + ((n - j) * 3))).toArray := ⟨_, rfl⟩
  obtain ⟨zs, W2, hzs, hcl, hW2⟩ : ∃ zs W2, zs.length = (j - i) * 3 ∧ (∀ ty, (Builtin.clear_ #[27] ty #[.slice (some ⟨bk, (i + (n - j)) * 3, none⟩) (n - (i + (n - j))) (cap - (i + (n - j)))]).run Try.prog W1 = .ok (.tuple #[]) W2) ∧ W2 = w.drew.setRow bk (cutRow cells (i * 3) (j * 3) (n * 3) zs) := by
    have hg1 := setRow_heap w.drew bk cells (cells.toList.take (i * 3) ++ (cells.toList.take (n * 3)).drop (j * 3) ++ cells.toList.drop (i * 3 + ((n - j) * 3))).toArray T (0, 0) hg
    rw [← hW1] at hg1
    have h := fun ty => run_clear_row (P := Try.prog) W1 27 32 ty _ Try.underlying27 Try.zeroValue32 (by simp [Value.cells, Value.oneCell']) bk ((i + (n - j)) * 3) (n - (i + (n - j))) (cap - (i + (n - j))) T _ (by omega) hg1 (by
      simp [Value.cells]; omega)
    refine ⟨(Builtin.zeroCells (Value.agg #[Value.int IntKind.i64 0, Value.int IntKind.i64 0, Value.slice none 0 0]).cells (n - (i + (n - j)))).toList, _, ?_, h, ?_⟩
    · rw [Array.length_toList, size_zeroCells]
      simp [Value.cells]; omega
    · rw [hW1, setRow_setRow]
      congr 1
      unfold cutRow
      congr 1
      have hA : (cells.toList.take (i * 3)).length = i * 3 := by simp; omega
      have hB : ((cells.toList.take (n * 3)).drop (j * 3)).length = (n - j) * 3 := by simp; omega
      have hAB : (cells.toList.take (i * 3) ++ (cells.toList.take (n * 3)).drop (j * 3)).length = (i + (n - j)) * 3 := by rw [List.length_append, hA, hB]; omega
      simp only [Value.cells, List.size_toArray, List.length_cons, List.length_nil, Nat.zero_add]
      have e1 : (i + (n - j)) * 3 + (n - (i + (n - j))) * (1 + 1 + 1) = (cells.toList.take (i * 3) ++ (cells.toList.take (n * 3)).drop (j * 3)).length + (j - i) * 3 := by rw [hAB]; omega
      rw [e1]
      conv => lhs; lhs; lhs; rw [← hAB]
      rw [List.take_left, List.drop_append]
      congr 1
      rw [List.drop_eq_nil_of_le (by omega), List.nil_append, List.drop_drop]
      congr 1
      rw [hAB]; omega
  rw [← hW1] at hap
  refine Calls.mono ?_ fun e w' (h : e = .returned (.slice (some ⟨bk, 0, none⟩) (i + (n - j)) cap) ∧ w' = W2) => ?_
  · clear hW1 hzs hW2 hread
    go_enter Try.func73, Try.f73
    go_wp2_with fail
    go_region_law (refine step_append rfl (.tmp 22) (.tmp 25) 27 27 rfl _ _ _ _ (by simp [Act.eval, Act.put]) (by simp [Act.eval, Act.put]) hap ?_)
    go_wp2
    go_ret
    exact ⟨rfl, rfl⟩
  · rcases h with ⟨rfl, rfl⟩
    exact ⟨by rw [show n - (j - i) = i + (n - j) by omega], zs, hzs, hW2⟩
end Go.AM
namespace Go.AM
open Go.RowKit Go.Lib Go.Proofs

theorem cutRow_row {Pub : Nat → Prop} {w w' : World} {bk sz i j : Nat} {T : TypeId} {cells : Array Value} {xs : List (List AV)} {zs : List Value} (hrow : Row Pub w bk 0 sz xs) (hg : w.heap[bk]? = some (.cells cells T (0, 0)))
    (hg' : w'.heap[bk]? = some (.cells (cutRow cells (i * sz) (j * sz) (xs.length * sz) zs) T (0, 0))) (hsame : ∀ b, Pub b → w'.heap[b]? = w.heap[b]?) (hij : i ≤ j) (hj : j ≤ xs.length) (hsz : xs.length * sz ≤ cells.size) :
    Row Pub w' bk 0 sz (xs.take i ++ xs.drop j) := by
  have hfl := flatten_length hrow.1
  have htk : ∀ n, n ≤ xs.length → (xs.take n).flatten = xs.flatten.take (n * sz) := by
    intro n hn
    have h1 : xs.flatten = (xs.take n).flatten ++ (xs.drop n).flatten := by rw [← List.flatten_append, List.take_append_drop]
    have h2 : (xs.take n).flatten.length = n * sz := by
      rw [flatten_length fun x hx => hrow.1 x (List.mem_of_mem_take hx), List.length_take, Nat.min_eq_left hn]
    rw [h1, ← h2, List.take_left]
  have hdr : (xs.drop j).flatten = xs.flatten.drop (j * sz) := by
    have h1 : xs.flatten = (xs.take j).flatten ++ (xs.drop j).flatten := by rw [← List.flatten_append, List.take_append_drop]
    have h2 : (xs.take j).flatten.length = j * sz := by
      rw [flatten_length fun x hx => hrow.1 x (List.mem_of_mem_take hx), List.length_take, Nat.min_eq_left hj]
    rw [h1, ← h2, List.drop_left]
  have hi3 : i * sz ≤ xs.length * sz := Nat.mul_le_mul_right _ (by omega)
  have hj3 : j * sz ≤ xs.length * sz := Nat.mul_le_mul_right _ hj
  refine ⟨fun x hx => (List.mem_append.1 hx).elim (fun h => hrow.1 x (List.mem_of_mem_take h)) (fun h => hrow.1 x (List.mem_of_mem_drop h)), fun k c hk => ?_⟩
  rw [List.flatten_append, htk i (by omega), hdr] at hk
  have key : ∀ (m : Nat) c, xs.flatten[m]? = some c → (cutRow cells (i * sz) (j * sz) (xs.length * sz) zs)[k]? = cells[m]? → ∃ u, w'.cell? ⟨bk, 0 + k, none⟩ = some u ∧ DatC Pub w' c u := by
    intro m c hm he
    obtain ⟨u, hu, hd⟩ := hrow.2 m c hm
    refine ⟨u, ?_, hd.mono fun b hb => ⟨hb, hsame b hb⟩⟩
    simp only [World.cell?, hg, hg', Nat.zero_add] at hu ⊢
    rw [he]; exact hu
  have hA : (cells.toList.take (i * sz)).length = i * sz := by simp; omega
  have hB : ((cells.toList.take (xs.length * sz)).drop (j * sz)).length = xs.length * sz - j * sz := by simp; omega
  have hm := (List.getElem?_eq_some_iff.1 hk).1
  simp only [List.length_append, List.length_take, List.length_drop, hfl] at hm
  have hcell : (cutRow cells (i * sz) (j * sz) (xs.length * sz) zs)[k]? = (cells.toList.take (i * sz) ++ (cells.toList.take (xs.length * sz)).drop (j * sz))[k]? := by
    unfold cutRow
    rw [← Array.getElem?_toList, List.append_assoc, List.getElem?_append_left (by rw [List.length_append, hA, hB]; omega)]
  by_cases hlt : k < i * sz
  · rw [List.getElem?_append_left (by rw [List.length_take, hfl]; omega), List.getElem?_take, if_pos hlt] at hk
    refine key k c hk ?_
    rw [hcell, List.getElem?_append_left (by omega), List.getElem?_take, if_pos hlt, Array.getElem?_toList]
  · rw [List.getElem?_append_right (by rw [List.length_take, hfl]; omega), List.length_take, hfl, Nat.min_eq_left hi3, List.getElem?_drop] at hk
    refine key _ c hk ?_
    rw [hcell, List.getElem?_append_right (by omega), hA, List.getElem?_drop, List.getElem?_take, if_pos (by omega), Array.getElem?_toList]

theorem row_one {Pub : Nat → Prop} {w : World} {bk sz : Nat} {T : TypeId} {cells : Array Value} {xs : List (List AV)} (hrow : Row Pub w bk 0 sz xs) (hg : w.heap[bk]? = some (.cells cells T (0, 0))) : ∀ (k : Nat) v, k < xs.length * sz → cells[k]? = some v → v.oneCell' = true := by
  intro k v hk hv
  have hfl := flatten_length hrow.1
  obtain ⟨u, hu, hd⟩ := hrow.2 k _ (List.getElem?_eq_getElem (by omega))
  simp only [World.cell?, hg, Nat.zero_add] at hu
  simp [hv] at hu
  subst hu
  exact hd.2

theorem h73 (xs : List (List AV)) (i j : Nat) (hij : i < j) (hj : j ≤ xs.length) : HProc Try.prog 73 3 xs [.i .i64 i, .i .i64 j] (xs.take i ++ xs.drop j) := by
  refine ⟨⟨_, _, Try.func73, rfl, rfl⟩, fun w β Pub bk cap T cells vs hg hcs hcap hrow hpub hl hv => ?_⟩
  have hvs : vs = #[.int .i64 i, .int .i64 j] := by
    have h0 := hv 0 _ rfl
    have h1 := hv 1 _ rfl
    have e0 : vs.getD 0 undef = .int .i64 i := val_int rfl h0
    have e1 : vs.getD 1 undef = .int .i64 j := val_int rfl h1
    have hs : vs.size = 2 := by rw [← hl]; rfl
    apply Array.ext
    · rw [hs]; rfl
    · intro k hk hk2
      rw [Array.getD_eq_getD_getElem?, Array.getElem?_eq_getElem (by omega)] at e0 e1
      rcases k with _ | _ | k
      · exact e0
      · exact e1
      · rw [hs] at hk; omega
  subst hvs
  refine (delete73 bk i j xs.length cap T cells w hg hcs hij hj hcap (row_one hrow hg)).mono ?_
  rintro e w' ⟨rfl, zs, hz, rfl⟩
  have hn3 : xs.length * 3 ≤ cells.size := by omega
  have hset := setRow_heap w.drew bk cells (cutRow cells (i * 3) (j * 3) (xs.length * 3) zs) T (0, 0) hg
  have hoth : ∀ b, b ≠ bk → (w.drew.setRow bk (cutRow cells (i * 3) (j * 3) (xs.length * 3) zs)).heap[b]? = w.heap[b]? := fun b hb => setRow_other w.drew bk b _ hb
  have hlen : (xs.take i ++ xs.drop j).length = xs.length - (j - i) := by simp; omega
  refine ⟨_, by rw [hlen], by omega, ?_, hset, fun b _ hb => hoth b hb, by rw [size_setRow]; exact Nat.le_refl _, rfl, rfl, rfl, cutRow_row hrow hg hset (fun b hb => hoth b (hpub b hb).2) (by omega) hj hn3⟩
  unfold cutRow
  simp [hz]
  omega
end Go.AM
namespace Go.AM
open Go.Proofs

def mayB (m : Msg) : Bool := decide (1 ≤ m.src) && decide (m.src ≤ 5) && decide (1 ≤ m.dst) && decide (m.dst ≤ 5) && decide (m.src ≠ m.dst) && decide (m.body.length ≤ 65536)
/-- What Send answers, and what it leaves. -/
def sendE (b : Bool) (l : List Msg) (m : Msg) : Int := if b && mayB m then (if 200 ≤ l.length then 6 else 0) else 1
def sendL (b : Bool) (l : List Msg) (m : Msg) : List Msg := if b && mayB m && decide (l.length < 200) then l ++ [m] else l

set_option maxRecDepth 8000 in
theorem c18 (l : List Msg) (b : Bool) (m : Msg) (hl : l.length ≤ 1000000) (hm : m.body.length ≤ 140737488355328) : Proc Try.prog 1 18 [.ptr 0 0, .agg (msgAV m)] [(0, [.sl .own 3 (msgsAV l), .b b])] (.i .i64 (sendE b l m)) [(0, [.sl .own 3 (msgsAV (sendL b l m)), .b b])] := by
  refine proc_of (cxb Try.prog 48 1 [0, 3, 4, 5, 30] [4] [4]) 46 [.tmp 4] Try.func18 rfl rfl rfl rfl rfl rfl (Nat.le_refl _) rfl ?_
  refine AWp.go [0, 3] [0, 4] fun K hK => ?_
  simp [msgAV]
  refine hK _ _ (AWp.seq (AWp.block (AWp.seq ?_)))
  clear hK K
  refine AWp.go [0, 3, 5] [0, 4] fun K hK => ?_
  simp
  refine hK _ _ ?_
  clear hK K
  refine AWp.cond (t := false) (by simp) (by simp) (fun _ => ?_)
  refine AWp.go [0, 3, 5] [0, 4] fun K hK => ?_
  simp
  refine hK _ _ ?_
  clear hK K
  cases b
  · refine AWp.cond (t := true) (by simp) (fun _ => AWp.skip ?_) (by simp)
    show AWp _ _ _ _
    refine AWp.cond (t := true) (by first | (simp; done) | (simp; omega)) (fun _ => ?_) (by simp)
    refine AWp.go [0, 4] [0] fun K hK => ?_
    simp
    refine hK _ _ (AWp.ret ?_)
    simp [sendE, sendL, mayB]
  refine AWp.cond (t := false) (by simp) (by simp) (fun _ => ?_)
  refine AWp.go [0, 3, 5] [0, 4] fun K hK => ?_
  simp
  refine call_pure (c71 m.src) (by simp) ?_
  simp
  refine hK _ _ ?_
  clear hK K
  by_cases h1 : 1 ≤ m.src ∧ m.src ≤ 5
  case neg =>
    refine AWp.cond (t := true) (by first | (simp; done) | (simp; omega)) (fun _ => AWp.skip ?_) (by simp)
    show AWp _ _ _ _
    refine AWp.cond (t := true) (by first | (simp; done) | (simp; omega)) (fun _ => ?_) (by simp)
    refine AWp.go [0, 4] [0] fun K hK => ?_
    simp
    refine hK _ _ (AWp.ret ?_)
    have hf : mayB m = false := by cases hq : mayB m with | false => rfl | true => simp [mayB] at hq; omega
    simp [sendE, sendL, hf]
  refine AWp.cond (t := false) (by simp [h1]) (by simp) (fun _ => ?_)
  refine AWp.go [0, 3, 5] [0, 4] fun K hK => ?_
  simp
  refine call_pure (c71 m.dst) (by simp) ?_
  simp
  refine hK _ _ ?_
  clear hK K
  by_cases h2 : 1 ≤ m.dst ∧ m.dst ≤ 5
  case neg =>
    refine AWp.cond (t := true) (by first | (simp; done) | (simp; omega)) (fun _ => AWp.skip ?_) (by simp)
    show AWp _ _ _ _
    refine AWp.cond (t := true) (by first | (simp; done) | (simp; omega)) (fun _ => ?_) (by simp)
    refine AWp.go [0, 4] [0] fun K hK => ?_
    simp
    refine hK _ _ (AWp.ret ?_)
    have hf : mayB m = false := by cases hq : mayB m with | false => rfl | true => simp [mayB] at hq; omega
    simp [sendE, sendL, hf]
  refine AWp.cond (t := false) (by simp [h2]) (by simp) (fun _ => ?_)
  refine AWp.go [0, 3, 5] [0, 4] fun K hK => ?_
  simp
  refine hK _ _ ?_
  clear hK K
  by_cases h3 : m.src ≠ m.dst
  case neg =>
    refine AWp.cond (t := true) (by first | (simp; done) | (simp; omega)) (fun _ => AWp.skip ?_) (by simp)
    show AWp _ _ _ _
    refine AWp.cond (t := true) (by first | (simp; done) | (simp; omega)) (fun _ => ?_) (by simp)
    refine AWp.go [0, 4] [0] fun K hK => ?_
    simp
    refine hK _ _ (AWp.ret ?_)
    have hf : mayB m = false := by cases hq : mayB m with | false => rfl | true => simp [mayB] at hq; omega
    simp [sendE, sendL, hf]
  refine AWp.cond (t := false) (by simp [h3]) (by simp) (fun _ => ?_)
  refine AWp.goLast [0, 3, 5] [0, 4] fun K hK => ?_
  simp
  refine hK _ _ ?_
  clear hK K
  show AWp _ _ _ _
  by_cases h4 : m.body.length ≤ 65536
  case neg =>
    refine AWp.cond (t := true) (by simp; omega) (fun _ => ?_) (by simp)
    refine AWp.go [0, 4] [0] fun K hK => ?_
    simp
    refine hK _ _ (AWp.ret ?_)
    have hf : mayB m = false := by cases hq : mayB m with | false => rfl | true => simp [mayB] at hq; omega
    simp [sendE, sendL, hf]
  have hf : mayB m = true := by simp [mayB]; omega
  refine AWp.cond (t := false) (by simp; omega) (by simp) (fun _ => ?_)
  refine AWp.go [0, 3, 30] [0, 4] fun K hK => ?_
  simp
  refine hK _ _ ?_
  clear hK K
  by_cases h5 : 200 ≤ l.length
  · refine AWp.cond (t := true) (by simp; omega) (fun _ => ?_) (by simp)
    refine AWp.go [0, 4] [0] fun K hK => ?_
    simp
    refine hK _ _ (AWp.ret ?_)
    simp [sendE, sendL, hf, h5, show ¬ l.length < 200 by omega]
  · refine AWp.cond (t := false) (by simp; omega) (by simp) (fun _ => AWp.skip ?_)
    show AWp _ _ _ _
    refine AWp.stepT (.take 0 (.take 1 (.take 2 (.take 3 (.alt 4 (.alt 5 (.alt 6 (.alt 7 (.alt 8 (.take 9 (.take 10 (.alt 11 .fin .stop))) .stop) .stop) .stop) .stop) (.alt 5 (.alt 4 (.alt 6 (.alt 7 (.alt 8 (.take 9 (.take 10 (.alt 11 .fin .stop))) .stop) .stop) .stop) (.alt 6 (.alt 4 (.alt 7 (.alt 8 (.take 9 (.take 10 (.alt 11 .fin .stop))) .stop) .stop) (.alt 7 (.alt 4 (.alt 8 (.take 9 (.take 10 (.alt 11 .fin .stop))) .stop) .stop) .stop)) .stop)) .stop)))))) [0] [0] [(0, .ptr 0 0)] [(0, [.sl .own 3 (msgsAV (l ++ [m])), .b true])] mix (by kernel_rfl) ?_ ?_
    focus
      refine atree.tk fun K1 h1 => ?_
      simp
      refine h1 _ _ ?_
      clear h1 K1
      refine atree.tk fun K1 h1 => ?_
      simp
      refine h1 _ _ ?_
      clear h1 K1
      refine atree.tk fun K1 h1 => ?_
      simp
      refine h1 _ _ ?_
      clear h1 K1
      refine atree.tk fun K1 h1 => ?_
      simp
      refine h1 _ _ ?_
      clear h1 K1
      refine atree.al (fun K1 h1 => ?_) ?_
      · simp
        refine h1 _ _ ?_
        clear h1 K1
        refine atree.a1 fun K1 h1 => ?_
        simp
        refine h1 _ _ ?_
        clear h1 K1
        refine atree.a1 fun K1 h1 => ?_
        simp
        refine call_pure (c70 m.src m.dst (bytesAV m.body) (by simpa using hm)) (by simp) ?_
        simp
        refine h1 _ _ ?_
        clear h1 K1
        refine atree.a1 fun K1 h1 => ?_
        simp
        refine h1 _ _ ?_
        clear h1 K1
        refine atree.a1 fun K1 h1 => ?_
        simp
        refine ⟨by omega, h1 _ _ ?_⟩
        clear h1 K1
        refine atree.tk fun K1 h1 => ?_
        simp
        refine h1 _ _ ?_
        clear h1 K1
        refine atree.tk fun K1 h1 => ?_
        simp
        refine h1 _ _ ?_
        clear h1 K1
        refine atree.a1 fun K1 h1 => ?_
        simp
        refine h1 _ _ ?_
        clear h1 K1
        simp [msgsAV, msgAV]
      · refine atree.a1 fun K1 h1 => ?_
        simp
        refine h1 _ _ ?_
        clear h1 K1
        refine atree.al (fun K1 h1 => ?_) ?_
        · simp
          refine h1 _ _ ?_
          clear h1 K1
          refine atree.a1 fun K1 h1 => ?_
          simp
          refine call_pure (c70 m.src m.dst (bytesAV m.body) (by simpa using hm)) (by simp) ?_
          simp
          refine h1 _ _ ?_
          clear h1 K1
          refine atree.a1 fun K1 h1 => ?_
          simp
          refine h1 _ _ ?_
          clear h1 K1
          refine atree.a1 fun K1 h1 => ?_
          simp
          refine ⟨by omega, h1 _ _ ?_⟩
          clear h1 K1
          refine atree.tk fun K1 h1 => ?_
          simp
          refine h1 _ _ ?_
          clear h1 K1
          refine atree.tk fun K1 h1 => ?_
          simp
          refine h1 _ _ ?_
          clear h1 K1
          refine atree.a1 fun K1 h1 => ?_
          simp
          refine h1 _ _ ?_
          clear h1 K1
          simp [msgsAV, msgAV]
        · refine atree.a1 fun K1 h1 => ?_
          simp
          refine call_pure (c70 m.src m.dst (bytesAV m.body) (by simpa using hm)) (by simp) ?_
          simp
          refine h1 _ _ ?_
          clear h1 K1
          refine atree.al (fun K1 h1 => ?_) ?_
          · simp
            refine h1 _ _ ?_
            clear h1 K1
            refine atree.a1 fun K1 h1 => ?_
            simp
            refine h1 _ _ ?_
            clear h1 K1
            refine atree.a1 fun K1 h1 => ?_
            simp
            refine ⟨by omega, h1 _ _ ?_⟩
            clear h1 K1
            refine atree.tk fun K1 h1 => ?_
            simp
            refine h1 _ _ ?_
            clear h1 K1
            refine atree.tk fun K1 h1 => ?_
            simp
            refine h1 _ _ ?_
            clear h1 K1
            refine atree.a1 fun K1 h1 => ?_
            simp
            refine h1 _ _ ?_
            clear h1 K1
            simp [msgsAV, msgAV]
          · refine atree.a1 fun K1 h1 => ?_
            simp
            refine h1 _ _ ?_
            clear h1 K1
            refine atree.a1 fun K1 h1 => ?_
            simp
            refine h1 _ _ ?_
            clear h1 K1
            refine atree.a1 fun K1 h1 => ?_
            simp
            refine ⟨by omega, h1 _ _ ?_⟩
            clear h1 K1
            refine atree.tk fun K1 h1 => ?_
            simp
            refine h1 _ _ ?_
            clear h1 K1
            refine atree.tk fun K1 h1 => ?_
            simp
            refine h1 _ _ ?_
            clear h1 K1
            refine atree.a1 fun K1 h1 => ?_
            simp
            refine h1 _ _ ?_
            clear h1 K1
            simp [msgsAV, msgAV]
    refine AWp.go [0, 4] [0] fun K hK => ?_
    simp
    refine hK _ _ (AWp.ret ?_)
    simp [sendE, sendL, hf, h5, show l.length < 200 by omega]
end Go.AM
namespace Go.AM
open Go.Proofs

def loseE (l : List Msg) (n : Int) : Int := if 0 ≤ n ∧ n < l.length then 0 else 3
def loseL (l : List Msg) (n : Int) : List Msg := if 0 ≤ n ∧ n < l.length then l.take n.toNat ++ l.drop (n.toNat + 1) else l

set_option maxRecDepth 8000 in
theorem c21 (l : List Msg) (b : Bool) (n : Int) (hl : l.length ≤ 1000000) : Proc Try.prog 1 21 [.ptr 0 0, .i .i64 n] [(0, [.sl .own 3 (msgsAV l), .b b])] (.i .i64 (loseE l n)) [(0, [.sl .own 3 (msgsAV (loseL l n)), .b b])] := by
  refine proc_of (cxb Try.prog 21 1 [0, 1, 4, 8] [] [4]) 19 [.tmp 4] Try.func21 rfl rfl rfl rfl rfl rfl (Nat.le_refl _) rfl ?_
  refine AWp.go [0, 1] [0] fun K hK => ?_
  simp
  refine hK _ _ (AWp.seq ?_)
  clear hK K
  refine AWp.go [0, 1, 8] [0] fun K hK => ?_
  simp
  refine call_proc [(0, 0)] none (c72 n (msgsAV l) b) (by simp) (by simp) ?_
  simp
  refine hK _ _ ?_
  clear hK K
  by_cases h : 0 ≤ n ∧ n < l.length
  · refine AWp.cond (t := false) (by simp [h]) (by simp) (fun _ => AWp.skip ?_)
    show AWp _ _ _ _
    obtain ⟨k, rfl⟩ : ∃ k : Nat, n = k := ⟨n.toNat, by omega⟩
    refine AWp.go [0] [0] fun K hK => ?_
    simp
    refine call_pure (c74 (msgsAV l) (by simp; omega)) (by simp) ?_
    simp
    refine call_hand (h73 (msgsAV l) k (k + 1) (by omega) (by simp; omega)) ⟨_, rfl, by simp [wrap64 (show -9223372036854775808 ≤ (k : Int) + 1 by omega) (by omega)], by simp⟩ (by intro h0; have := congrArg List.length h0; rw [msgsAV_length, List.length_nil] at this; omega) (by simp) ?_
    simp
    refine hK _ _ ?_
    clear hK K
    refine AWp.go [4] [0] fun K hK => ?_
    simp
    refine hK _ _ (AWp.ret ?_)
    simp [loseE, loseL, h, msgsAV_append, msgsAV_take, msgsAV_drop]
  · refine AWp.cond (t := true) (by simp; omega) (fun _ => ?_) (by simp)
    refine AWp.go [4] [0] fun K hK => ?_
    simp
    refine hK _ _ (AWp.ret ?_)
    simp [loseE, loseL, h]
end Go.AM
namespace Go.AM
open Go.Proofs

instance : Inhabited Msg := ⟨⟨0, 0, []⟩⟩
def copyE (b : Bool) (l : List Msg) (n : Int) : Int := if 0 ≤ n ∧ n < l.length then sendE b l (l.getD n.toNat default) else 3
def copyL (b : Bool) (l : List Msg) (n : Int) : List Msg := if 0 ≤ n ∧ n < l.length then sendL b l (l.getD n.toNat default) else l

set_option maxRecDepth 8000 in
theorem c19 (l : List Msg) (b : Bool) (n : Int) (hl : l.length ≤ 1000000) (hb : ∀ m ∈ l, m.body.length ≤ 140737488355328) : Proc Try.prog 1 19 [.ptr 0 0, .i .i64 n] [(0, [.sl .own 3 (msgsAV l), .b b])] (.i .i64 (copyE b l n)) [(0, [.sl .own 3 (msgsAV (copyL b l n)), .b b])] := by
  refine proc_of (cxb Try.prog 18 1 [0, 1, 4, 8] [] [4]) 16 [.tmp 4] Try.func19 rfl rfl rfl rfl rfl rfl (Nat.le_refl _) rfl ?_
  refine AWp.go [0, 1] [0] fun K hK => ?_
  simp
  refine hK _ _ (AWp.seq ?_)
  clear hK K
  refine AWp.go [0, 1, 8] [0] fun K hK => ?_
  simp
  refine call_proc [(0, 0)] none (c72 n (msgsAV l) b) (by simp) (by simp) ?_
  simp
  refine hK _ _ ?_
  clear hK K
  by_cases h : 0 ≤ n ∧ n < l.length
  · refine AWp.cond (t := false) (by simp [h]) (by simp) (fun _ => AWp.skip ?_)
    show AWp _ _ _ _
    obtain ⟨k, rfl⟩ : ∃ k : Nat, n = k := ⟨n.toNat, by omega⟩
    have hk : k < l.length := by omega
    refine AWp.go [4] [0] fun K hK => ?_
    simp [hk]
    refine call_proc [(0, 0)] none (c18 l b l[k] hl (hb _ (List.getElem_mem hk))) (by simp [msgAV]) (by simp) ?_
    simp
    refine hK _ _ (AWp.ret ?_)
    simp [copyE, copyL, hk]
  · refine AWp.cond (t := true) (by simp; omega) (fun _ => ?_) (by simp)
    refine AWp.go [4] [0] fun K hK => ?_
    simp
    refine hK _ _ (AWp.ret ?_)
    simp [copyE, copyL, h]

def takeM (l : List Msg) (n : Int) : Msg := if 0 ≤ n ∧ n < l.length then l.getD n.toNat default else default

set_option maxRecDepth 8000 in
theorem c22 (l : List Msg) (b : Bool) (n : Int) (hl : l.length ≤ 1000000) (hb : ∀ m ∈ l, m.body.length ≤ 140737488355328) : Proc Try.prog 1 22 [.ptr 0 0, .i .i64 n] [(0, [.sl .own 3 (msgsAV l), .b b])] (.tup [.agg [.i .i64 (takeM l n).src, .i .i64 (takeM l n).dst, .sl .own 1 (bytesAV (takeM l n).body)], .i .i64 (loseE l n)]) [(0, [.sl .own 3 (msgsAV (loseL l n)), .b b])] := by
  refine proc_of (cxb Try.prog 24 1 [0, 1, 4, 5, 6, 10] [4, 6] [4, 5]) 22 [.cell 4 32, .tmp 5] Try.func22 rfl rfl rfl rfl rfl rfl (Nat.le_refl _) rfl ?_
  refine AWp.go [0, 1, 4] [0, 5] fun K hK => ?_
  simp
  refine hK _ _ (AWp.seq ?_)
  clear hK K
  refine AWp.go [0, 1, 4, 10] [0, 5] fun K hK => ?_
  simp
  refine call_proc [(0, 0)] none (c72 n (msgsAV l) b) (by simp) (by simp) ?_
  simp
  refine hK _ _ ?_
  clear hK K
  by_cases h : 0 ≤ n ∧ n < l.length
  · refine AWp.cond (t := false) (by simp [h]) (by simp) (fun _ => AWp.skip ?_)
    show AWp _ _ _ _
    obtain ⟨k, rfl⟩ : ∃ k : Nat, n = k := ⟨n.toNat, by omega⟩
    have hk : k < l.length := by omega
    refine AWp.go [0, 1, 4, 6] [0, 5, 7] fun K hK => ?_
    simp [hk]
    refine call_pure (c70 l[k].src l[k].dst (bytesAV l[k].body) (by rw [bytesAV_length]; exact hb _ (List.getElem_mem hk))) (by simp) ?_
    simp
    refine hK _ _ ?_
    clear hK K
    refine AWp.stepT (.take 1 (.take 2 (.alt 0 (.alt 3 (.alt 4 (.take 5 .fin) .stop) .stop) (.alt 3 (.alt 0 (.alt 4 (.take 5 .fin) .stop) .stop) .stop)))) [4, 5] [0, 5] [(4, .ptr 5 0), (5, .i .i64 (loseE l k))] [(0, [.sl .own 3 (msgsAV (loseL l k)), .b b]), (5, [.i .i64 l[k].src, .i .i64 l[k].dst, .sl .own 1 (bytesAV l[k].body)])] mix (by kernel_rfl) ?_ ?_
    focus
      refine atree.tk fun K1 h1 => ?_
      simp
      refine h1 _ _ ?_
      clear h1 K1
      refine atree.tk fun K1 h1 => ?_
      simp
      refine h1 _ _ ?_
      clear h1 K1
      refine atree.al (fun K1 h1 => ?_) ?_
      · simp
        refine h1 _ _ ?_
        clear h1 K1
        refine atree.a1 fun K1 h1 => ?_
        simp
        refine call_proc [(0, 0)] none (c21 l b k hl) (by simp) (by simp) ?_
        simp
        refine h1 _ _ ?_
        clear h1 K1
        refine atree.a1 fun K1 h1 => ?_
        simp
        refine h1 _ _ ?_
        clear h1 K1
        refine atree.tk fun K1 h1 => ?_
        simp
        refine h1 _ _ ?_
        clear h1 K1
        simp
      · refine atree.a1 fun K1 h1 => ?_
        simp
        refine call_proc [(0, 0)] none (c21 l b k hl) (by simp) (by simp) ?_
        simp
        refine h1 _ _ ?_
        clear h1 K1
        refine atree.a1 fun K1 h1 => ?_
        simp
        refine h1 _ _ ?_
        clear h1 K1
        refine atree.a1 fun K1 h1 => ?_
        simp
        refine h1 _ _ ?_
        clear h1 K1
        refine atree.tk fun K1 h1 => ?_
        simp
        refine h1 _ _ ?_
        clear h1 K1
        simp
    refine AWp.ret ?_
    simp [takeM, h, hk]
  · refine AWp.cond (t := true) (by simp; omega) (fun _ => ?_) (by simp)
    refine AWp.go [4, 5] [0, 5] fun K hK => ?_
    simp
    refine hK _ _ (AWp.ret ?_)
    simp [takeM, loseE, loseL, h, bytesAV]
    exact ⟨rfl, rfl, rfl⟩
end Go.AM
namespace Go.AM
open Go.Proofs

/-- The places of messages to someone, among the first i. -/
def forL (l : List Msg) (t : Int) (i : Nat) : List Nat := (List.range i).filter fun k => decide ((l.getD k default).dst = t)
def natsAV (l : List Nat) : List (List AV) := l.map fun (i : Nat) => [AV.i .i64 (i : Int)]
@[simp] theorem natsAV_length (l : List Nat) : (natsAV l).length = l.length := by simp [natsAV]
theorem forL_le (l : List Msg) (t : Int) (i : Nat) : (forL l t i).length ≤ i := by
  unfold forL
  have := List.length_filter_le (fun k => decide ((l.getD k default).dst = t)) (List.range i)
  simpa using this
theorem forL_succ (l : List Msg) (t : Int) (i : Nat) : forL l t (i + 1) = forL l t i ++ if (l.getD i default).dst = t then [i] else [] := by
  unfold forL
  rw [List.range_succ, List.filter_append]
  congr 1
  rw [List.filter_cons, List.filter_nil]
  by_cases h : (l.getD i default).dst = t
  · rw [if_pos h, if_pos (by simpa using h)]
  · rw [if_neg h, if_neg (by simpa using h)]

set_option maxRecDepth 8000 in
theorem c15 (l : List Msg) (b : Bool) (t : Int) (hl : l.length ≤ 1000000) (hb : ∀ m ∈ l, m.body.length ≤ 140737488355328) : Proc Try.prog 1 15 [.ptr 0 0, .i .i64 t] [(0, [.sl .own 3 (msgsAV l), .b b])] (.sl .own 1 (natsAV (forL l t l.length))) [(0, [.sl .own 3 (msgsAV l), .b b])] := by
  refine proc_of (cxb Try.prog 26 1 [0, 1, 5, 6, 7, 9, 10, 11, 12, 19] [7] [4]) 24 [.tmp 4] Try.func15 rfl rfl rfl rfl rfl rfl (Nat.le_refl _) rfl ?_
  refine AWp.go [0, 1] [0] fun K hK => ?_
  simp
  refine hK _ _ ?_
  refine AWp.go [0, 1, 5] [0] fun K hK => ?_
  simp
  refine hK _ _ (AWp.seq ?_)
  refine AWp.go [1, 5, 9, 10, 11] [0] fun K hK => ?_
  simp
  refine call_proc [(0, 0)] none (c17 l b hl hb) (by simp) (by simp) ?_
  simp
  refine hK _ _ ?_
  clear hK K
  refine AWp.block (AWp.while (fun i : Nat => [(1, .i .i64 t), (5, .sl .own 1 (natsAV (forL l t i))), (9, .sl .own 3 (msgsAV l)), (10, .i .i64 l.length), (11, .i .i64 i)]) (fun _ => [(0, [.sl .own 3 (msgsAV l), .b b])]) (fun i => i ≤ l.length) (fun i => l.length - i) [1, 5, 9, 10, 11] [0] 0 (by simp) (by simp [forL, natsAV]) ?_)
  intro i hi
  refine AWp.go [1, 5, 9, 10, 11, 12] [0] fun K hK => ?_
  simp
  refine hK _ _ ?_
  clear hK K
  by_cases h : i < l.length
  · refine AWp.seq (AWp.cond (t := true) (by simp [h]) (fun _ => AWp.skip ?_) (by simp))
    refine AWp.seq (AWp.block ?_)
    refine AWp.go [1, 5, 6, 7, 9, 10, 11] [0, 8] fun K hK => ?_
    simp [h]
    refine hK _ _ ?_
    clear hK K
    refine AWp.go [1, 5, 6, 9, 10, 11, 19] [0] fun K hK => ?_
    simp
    refine hK _ _ ?_
    clear hK K
    have hw : IntKind.i64.wrap ((i : Int) + 1) = (i : Int) + 1 := wrap64 (by omega) (by omega)
    by_cases ht : l[i].dst = t
    · refine AWp.cond (t := true) (by simp [ht]) (fun _ => ?_) (by simp)
      refine AWp.goLast [1, 5, 9, 10, 11] [0] fun K hK => ?_
      simp
      have hle := forL_le l t i
      refine ⟨by omega, hK _ _ ?_⟩
      clear hK K
      show AWp _ _ _ _
      refine AWp.goLast [1, 5, 9, 10, 11] [0] fun K hK => ?_
      simp
      refine hK _ _ ?_
      refine ⟨i + 1, by omega, by omega, ?_⟩
      simp [forL_succ, h, ht, natsAV, hw]
    · refine AWp.cond (t := false) (by simp [ht]) (by simp) (fun _ => AWp.skip ?_)
      show AWp _ _ _ _
      refine AWp.goLast [1, 5, 9, 10, 11] [0] fun K hK => ?_
      simp
      refine hK _ _ ?_
      refine ⟨i + 1, by omega, by omega, ?_⟩
      simp [forL_succ, h, ht, hw]
  · refine AWp.seq (AWp.cond (t := false) (by simp [h]) (by simp) (fun _ => AWp.exit ?_))
    have hil : i = l.length := by omega
    subst hil
    show AWp _ _ _ _
    refine AWp.go [4] [0] fun K hK => ?_
    simp
    refine hK _ _ (AWp.ret ?_)
    simp
end Go.AM
namespace Go.AM
open Go.Proofs

structure PAct where
  d : Int
  msg : Msg
  n : Int

def pactAV (a : PAct) : List AV := [.i .i64 a.d, .i .i64 a.msg.src, .i .i64 a.msg.dst, .sl .fro 1 (bytesAV a.msg.body), .i .i64 a.n]
def pactsAV (l : List PAct) : List (List AV) := l.map pactAV
@[simp] theorem pactsAV_length (l : List PAct) : (pactsAV l).length = l.length := by simp [pactsAV]
@[simp] theorem pactsAV_getElem (l : List PAct) (i : Nat) (h : i < (pactsAV l).length) : (pactsAV l)[i] = [.i .i64 (l[i]'(by simpa using h)).d, .i .i64 (l[i]'(by simpa using h)).msg.src, .i .i64 (l[i]'(by simpa using h)).msg.dst, .sl .fro 1 (bytesAV (l[i]'(by simpa using h)).msg.body), .i .i64 (l[i]'(by simpa using h)).n] := by simp [pactsAV, pactAV]

def lightB (l : List PAct) : Bool := decide (l.length ≤ 60) && l.all fun a => decide (a.msg.body.length ≤ 200)

set_option maxRecDepth 8000 in
theorem c11 (l : List PAct) : Pure Try.prog 11 [.sl .fro 5 (pactsAV l)] (.b (lightB l)) := by
  refine proc_of (cx Try.prog 25 [0, 2, 3, 11, 21] [2]) 24 [.tmp 2] Try.func11 rfl rfl rfl rfl rfl rfl (Nat.le_refl _) rfl ?_
  refine AWp.go [0] [] fun K hK => ?_
  simp
  refine hK _ _ (AWp.seq ?_)
  refine AWp.go [0, 3] [] fun K hK => ?_
  simp
  refine hK _ _ ?_
  clear hK K
  refine AWp.block (AWp.while (fun i : Nat => [(0, .sl .fro 5 (pactsAV l)), (3, .i .i64 i)]) (fun _ => []) (fun i => i ≤ l.length ∧ i ≤ 61 ∧ ∀ a ∈ l.take i, a.msg.body.length ≤ 200) (fun i => l.length - i) [0, 3] [] 0 (by simp) (by simp) ?_)
  rintro i ⟨hi, hi2, hall⟩
  refine AWp.seq ?_
  by_cases h : i < l.length ∧ i ≤ 60
  · refine AWp.step [0, 3, 11] [] [(0, .sl .fro 5 (pactsAV l)), (3, .i .i64 i), (11, .b true)] [] ?_ ?_
    · simp [h.1]
      omega
    refine AWp.cond (t := true) (by simp) (fun _ => AWp.skip ?_) (by simp)
    show AWp _ _ _ _
    refine AWp.seq (AWp.block ?_)
    refine AWp.go [0, 3, 21] [] fun K hK => ?_
    simp [h.1]
    refine hK _ _ ?_
    clear hK K
    by_cases hb : l[i].msg.body.length ≤ 200
    · refine AWp.cond (t := false) (by simp; omega) (by simp) (fun _ => AWp.skip ?_)
      show AWp _ _ _ _
      refine AWp.goLast [0, 3] [] fun K hK => ?_
      simp
      refine hK _ _ ?_
      refine ⟨i + 1, ⟨by omega, by omega, ?_⟩, by omega, ?_⟩
      · rw [List.take_succ_eq_append_getElem h.1]
        intro a ha
        rcases List.mem_append.1 ha with ha | ha
        · exact hall a ha
        · simp at ha; subst ha; exact hb
      · simp [wrap64 (show -9223372036854775808 ≤ (i : Int) + 1 by omega) (by omega)]
    · refine AWp.cond (t := true) (by simp; omega) (fun _ => ?_) (by simp)
      refine AWp.go [2] [] fun K hK => ?_
      simp
      refine hK _ _ (AWp.ret ?_)
      have : lightB l = false := by
        cases hq : lightB l with
        | false => rfl
        | true =>
          simp [lightB] at hq
          exact absurd (hq.2 _ (List.getElem_mem h.1)) hb
      simp [this]
  · refine AWp.step [0, 3, 11] [] [(0, .sl .fro 5 (pactsAV l)), (3, .i .i64 i), (11, .b false)] [] ?_ ?_
    · by_cases h1 : i < l.length
      · simp [h1]
        omega
      · simp [h1]
    refine AWp.cond (t := false) (by simp) (by simp) (fun _ => AWp.exit ?_)
    show AWp _ _ _ _
    refine AWp.go [2] [] fun K hK => ?_
    simp
    refine hK _ _ (AWp.ret ?_)
    have : lightB l = decide ((l.length : Int) ≤ 60) := by
      by_cases h60 : l.length ≤ 60
      · have hil : i = l.length := by omega
        subst hil
        rw [List.take_length] at hall
        have h2 : (l.all fun a => decide (a.msg.body.length ≤ 200)) = true := by simpa using hall
        have h3 : (l.length : Int) ≤ 60 := by omega
        unfold lightB
        rw [h2, decide_eq_true h60, decide_eq_true h3]
        rfl
      · have h3 : ¬ (l.length : Int) ≤ 60 := by omega
        unfold lightB
        rw [decide_eq_false h60, decide_eq_false h3]
        rfl
    simp [this]
end Go.AM
namespace Go.AM
open Go.Proofs

def m0 : Msg := ⟨1, 2, [7]⟩

set_option maxRecDepth 8000 in
theorem c12 : Pure Try.prog 12 [] (.b true) := by
  refine proc_of (cx Try.prog 39 [0, 1, 2, 3, 4, 5] [0]) 39 [.tmp 0] Try.func12 rfl rfl rfl rfl rfl rfl (Nat.le_refl _) rfl ?_
  refine AWp.go [] [] fun K hK => ?_
  simp
  refine hK _ _ ?_
  clear hK K
  refine AWp.go [1] [6] fun K hK => ?_
  simp
  refine call_proc [] (some (2, 6)) c13 (by simp) (by simp) ?_
  simp
  refine hK _ _ ?_
  clear hK K
  refine AWp.go [1, 2] [6] fun K hK => ?_
  simp
  refine call_proc [(0, 6)] none (c18 [] true m0 (by simp) (by simp [m0])) (by simp [msgAV, m0, bytesAV]) (by simp) ?_
  simp [msgsAV]
  rw [show sendE true [] m0 = 0 by decide, show sendL true [] m0 = [m0] by decide]
  refine hK _ _ ?_
  clear hK K
  refine AWp.go [1, 2, 3] [6] fun K hK => ?_
  simp
  refine call_proc [(0, 6)] none (c19 [m0] true 0 (by simp) (by simp [m0])) (by simp) (by simp) ?_
  simp [msgsAV]
  rw [show copyE true [m0] 0 = 0 by decide, show copyL true [m0] 0 = [m0, m0] by decide]
  refine hK _ _ ?_
  clear hK K
  refine AWp.go [1, 2, 3, 4, 5] [4, 6] fun K hK => ?_
  simp
  refine call_proc [(0, 6)] none (c22 [m0, m0] true 1 (by simp) (by simp [m0])) (by simp) (by simp) ?_
  simp [msgsAV]
  rw [show loseE [m0, m0] 1 = 0 by decide, show takeM [m0, m0] 1 = m0 by decide, show loseL [m0, m0] 1 = [m0] by decide]
  refine hK _ _ ?_
  clear hK K
  refine AWp.go [0] [] fun K hK => ?_
  simp [m0]
  refine call_proc [(0, 6)] none (c17 [⟨1, 2, [7]⟩] true (by simp) (by simp)) (by simp) (by simp) ?_
  simp [msgsAV]
  refine hK _ _ (AWp.ret ?_)
  simp
end Go.AM
