/- Rows of one's own: made, appended to, written. No project text. -/
import Derived.Test.YtjpedhcgokiojaaGreatAmA
import Derived.Laws.AppendOwn
import Derived.IntWalk
set_option linter.unusedSimpArgs false
set_option linter.unusedVariables false
namespace Go.AM
section
variable {P : Program} {N : Nat} {S : Start} {E : Env}
structure Reads (P : Program) (w : World) (size : Nat) (x : Value) (m : Nat) (news : List Value) : Prop where
 len : (Builtin.lenOf x).run P w = .ok m w
 first : ∀ w', w'.heap = w.heap → (Builtin.firstCells size m x).run P w' = .ok news.toArray w'
 length : news.length = m * size
 one : ∀ u ∈ news, u.oneCell' = true
theorem append_in {w : World} {t t2 ty e : TypeId} {i : TypeInfo} {d2 : TypeDesc} (ht : P.underlying t = some (.slice e)) (ht2 : P.underlying t2 = some d2) (hd2 : d2 = .string ∨ ∃ e', d2 = .slice e') (hi : P.info? e = some i)
  {g sLen sCap T : Nat} {cur : Array Value} (hg : w.heap[g]? = some (.cells cur T (0, 0))) {x : Value} {m : Nat} {news : List Value} (hx : Reads P w i.size x m news)
  (hroom : sLen + m ≤ sCap) (hfit : sLen * i.size + news.length ≤ cur.size) :
  (Builtin.append_ #[t, t2] ty #[.slice (some ⟨g, 0, none⟩) sLen sCap, x]).run P w =
   .ok (.slice (some ⟨g, 0, none⟩) (sLen + m) sCap) (w.setRow g (cur.toList.take (sLen * i.size) ++ news ++ cur.toList.drop (sLen * i.size + news.length)).toArray) := by
 have hst := run_storeCells_at P g (sLen * i.size) T news 0 cur w hg (by simpa using hfit) hx.one
 simp only [Nat.add_zero] at hst
 have hf := hx.first w rfl
 rcases hd2 with rfl | ⟨e', rfl⟩
 ·simp [Builtin.append_, run_underlying ht, run_underlying ht2, sizeOf, typeInfo, hi, hx.len, hroom, hf, Addr.add_lit, hst]
 ·simp [Builtin.append_, run_underlying ht, run_underlying ht2, sizeOf, typeInfo, hi, hx.len, hroom, hf, Addr.add_lit, hst]
theorem append_new {w : World} {t t2 ty e : TypeId} {i : TypeInfo} {z : Value} {d2 : TypeDesc} (ht : P.underlying t = some (.slice e)) (ht2 : P.underlying t2 = some d2) (hd2 : d2 = .string ∨ ∃ e', d2 = .slice e') (hi : P.info? e = some i) (hz : i.zero = some z)
  {base : Option Addr} {sLen sCap : Nat} {olds : List Value} (hold : ∀ w', w'.heap = w.heap → (Builtin.firstCells i.size sLen (.slice base sLen sCap)).run P w' = .ok olds.toArray w')
  {x : Value} {m : Nat} {news : List Value} (hx : Reads P w i.size x m news)
  (hg : sCap < sLen + m) (h63 : ((sLen + m : Nat) : Int) ≤ 9223372036854775807) (hfit : Builtin.nextslicecap (sLen + m) sCap * i.bytes ≤ 281474976710656) :
  (Builtin.append_ #[t, t2] ty #[.slice base sLen sCap, x]).run P w =
   .ok (.slice (some ⟨w.heap.size, 0, none⟩) (sLen + m) (grownCap w (sLen + m) sCap e))
    (w.drew.alloc (.cells (olds.toArray ++ news.toArray ++ Builtin.zeroCells z.cells (grownCap w (sLen + m) sCap e - (sLen + m))) e)) := by
 have hn : ¬ (sLen + m ≤ sCap) := by omega
 have h63' : ¬ (9223372036854775807 < ((sLen : Int) + (m : Int))) := by omega
 have h48' : ¬ (281474976710656 < Builtin.nextslicecap (sLen + m) sCap * i.bytes) := by omega
 have hf := hx.first w.drew rfl
 have hfo := hold w.drew rfl
 have ha : (olds.toArray ++ news.toArray ++ Builtin.zeroCells z.cells (grownCap w (sLen + m) sCap e - (sLen + m))) = (olds ++ news).toArray ++ Builtin.zeroCells z.cells (grownCap w (sLen + m) sCap e - (sLen + m)) := by simp
 rw [ha]
 rcases hd2 with rfl | ⟨e', rfl⟩
 ·simp [Builtin.append_, run_underlying ht, run_underlying ht2, sizeOf, typeInfo, zeroValue, hi, hz, hx.len, hn, h63', h48', Question.forced, hf, hfo, newRow, grownCap]
  congr 2; apply Array.ext'; simp
 ·simp [Builtin.append_, run_underlying ht, run_underlying ht2, sizeOf, typeInfo, zeroValue, hi, hz, hx.len, hn, h63', h48', Question.forced, hf, hfo, newRow, grownCap]
  congr 2; apply Array.ext'; simp
theorem row_values {Pub : Nat → Prop} {w : World} {bk off : Nat} : ∀ {cs : List AV}, Cells Pub w bk off cs → ∃ vs : List Value, vs.length = cs.length ∧ (∀ (k : Nat) u, vs[k]? = some u → w.cell? ⟨bk, off + k, none⟩ = some u) ∧
  ∀ (k : Nat) c, cs[k]? = some c → ∃ u, vs[k]? = some u ∧ DatC Pub w c u := by
 intro cs h
 refine ⟨(List.range cs.length).map fun k => (w.cell? ⟨bk, off + k, none⟩).getD undef, by simp, fun k u hk => ?_, fun k c hk => ?_⟩
 ·rw [List.getElem?_map] at hk
  obtain ⟨j, hj, rfl⟩ := Option.map_eq_some_iff.1 hk
  obtain ⟨hj1, hj2⟩ := List.getElem?_eq_some_iff.1 hj
  simp at hj1 hj2; subst hj2
  obtain ⟨u, hu, _⟩ := h k cs[k] (List.getElem?_eq_getElem hj1)
  simp [hu]
 ·have hlt := (List.getElem?_eq_some_iff.1 hk).1
  obtain ⟨u, hu, hd⟩ := h k c hk
  exact ⟨u, by simp [hlt, hu], hd⟩
theorem oneCell_dat {Pub : Nat → Prop} {w : World} {c : AV} {u : Value} (h : Dat Pub w c u) (hc : c.cellOk = true) : u.oneCell' = true := by
 cases h <;> first | rfl | (simp [AV.cellOk] at hc)
theorem SameOs.drew (a : World) : SameOs a.drew a := ⟨rfl, fun _ => Nat.le_succ _⟩
theorem Inv.putRow (I : Inv N S E) (w1 : World) (hh : w1.heap = E.w.heap) (ho : SameOs w1 E.w ∧ w1.tape = E.w.tape ∧ w1.output = E.w.output) (d : Nat) (hd : d < N) (hno : NoOwn (E.st.slots d))
  (sz cap : Nat) (xs : List (List AV)) (arr : Array Value) (T : TypeId) (hsz : arr.size = cap * sz) (hcap : xs.length ≤ cap) (hl : ∀ x ∈ xs, x.length = sz)
  (hc : ∀ (k : Nat) c, xs.flatten[k]? = some c → ∃ u, arr[k]? = some u ∧ DatC E.Pub E.w c u) :
  ∃ ω', Inv N S ⟨w1.alloc (.cells arr T), E.β, ω', E.Pub, E.st.put d (.sl .own sz xs), E.tm.setIfInBounds d (.slice (some ⟨E.w.heap.size, 0, none⟩) xs.length cap)⟩ := by
 have hsize : (w1.alloc (.cells arr T)).heap.size = E.w.heap.size + 1 := by rw [heap_alloc_size', hh]
 have hold : ∀ bk, bk < E.w.heap.size → (w1.alloc (.cells arr T)).heap[bk]? = E.w.heap[bk]? := fun bk h => by rw [heap_alloc_old' _ _ _ (by rw [hh]; exact h), hh]
 have hnew : (w1.alloc (.cells arr T)).heap[E.w.heap.size]? = some (.cells arr T (0, 0)) := by rw [← hh]; exact heap_alloc_new' _ _
 let ω' : Nat → Option Place := fun bk => if bk = E.w.heap.size then some (.slot d []) else E.ω bk
 have hω : ∀ bk q, E.ω bk = some q → ω' bk = some q := fun bk q h => by
  have : bk ≠ E.w.heap.size := by have := I.rel.own bk q h; omega
  simp only [ω', this, if_false]; exact h
 obtain ⟨_, hR⟩ := I.rel.put (fun _ => False) (fun _ _ _ _ h => h) (fun _ h => h) (fun h => h) (w1.alloc (.cells arr T)) ω' E.Pub d (.sl .own sz xs) (.slice (some ⟨E.w.heap.size, 0, none⟩) xs.length cap) hd hno
  (fun bk h _ => hold bk h) hω (fun _ h => h)
  (fun bk h => ⟨by rw [hsize]; have := (I.rel.pub bk h).1; omega, by
   have h1 := I.rel.pub bk h
   have : bk ≠ E.w.heap.size := by omega
   simp only [ω', this, if_false]; exact h1.2⟩)
  (fun bk q h => by
   rw [hsize]
   simp only [ω'] at h
   split at h
   ·omega
   ·have := I.rel.own bk q h; omega)
 refine ⟨ω', hR ?_, ⟨ho.1.trans I.fr.os, ho.2.1.trans I.fr.tape, ho.2.2.trans I.fr.output, by show S.w0.heap.size ≤ _; rw [hsize]; have := I.fr.size; omega, fun k hk hn => ?_, fun k q h => ?_, I.fr.pub0, I.fr.pub1, I.fr.beta⟩⟩
 ·refine .sl _ .own sz xs E.w.heap.size 0 cap hcap ⟨hl, fun k c hk => ?_⟩ ⟨by simp [ω'], arr, T, hnew, rfl, hsz⟩ trivial
  obtain ⟨u, hu, hdt⟩ := hc k c hk
  refine ⟨u, ?_, hdt.mono fun bk hb => ⟨hb, hold bk (I.rel.pub bk hb).1⟩⟩
  show (w1.alloc (.cells arr T)).cell? _ = _
  simp [World.cell?, hnew, hu]
 ·show (w1.alloc (.cells arr T)).heap[k]? = _
  rw [hold k (by have := I.fr.size; omega)]
  exact I.fr.block k hk hn
 ·simp only [ω'] at h
  split at h
  ·left; have := I.fr.size; omega
  ·exact I.fr.own k q h
theorem Inv.putNil (I : Inv N S E) (d : Nat) (hd : d < N) (hno : NoOwn (E.st.slots d)) (sz : Nat) :
  Inv N S { E with st := E.st.put d (.sl .own sz []), tm := E.tm.setIfInBounds d (.slice none 0 0) } := by
 obtain ⟨_, hR⟩ := I.rel.put (fun _ => False) (fun _ _ _ _ h => h) (fun _ h => h) (fun h => h) E.w E.ω E.Pub d (.sl .own sz []) (.slice none 0 0) hd hno (fun _ _ _ => rfl) (fun _ _ h => h) (fun _ h => h) I.rel.pub I.rel.own
 exact ⟨hR (.sl0 _ _ _ (by simp) trivial), ⟨I.fr.os, I.fr.tape, I.fr.output, I.fr.size, I.fr.block, I.fr.own, I.fr.pub0, I.fr.pub1, I.fr.beta⟩⟩
theorem flatten_length {sz : Nat} : ∀ {xs : List (List AV)}, (∀ x ∈ xs, x.length = sz) → xs.flatten.length = xs.length * sz
 | [], _ => by simp
 | x :: xs, h => by
  simp only [List.flatten_cons, List.length_append, List.length_cons, h x (by simp), flatten_length (xs := xs) fun y hy => h y (by simp [hy]), Nat.add_mul]
  omega
theorem Inv.append (I : Inv N S E) {t t2 e : TypeId} (ty : TypeId) {y ye : TI} (oy : TyOk P t y) (oe : TyOk P e ye) (hk : y.kind = .slice e) {d2 : TypeDesc} (ht2 : P.underlying t2 = some d2) (hd2 : d2 = .string ∨ ∃ e', d2 = .slice e')
  (d : Nat) (hd : d < N) (hno : NoOwn (E.st.slots d)) (xs ys : List (List AV)) (s x : Value) (hby : 0 < ye.bytes)
  (hs : (s = .slice none 0 0 ∧ xs = []) ∨ ∃ bk cap, s = .slice (some ⟨bk, 0, none⟩) xs.length cap ∧ xs.length ≤ cap ∧ E.ω bk = some (.slot d []) ∧ Row E.Pub E.w bk 0 ye.size xs ∧ Room E.w bk 0 (cap * ye.size))
  (vs : List Value) (hx : Reads P E.w ye.size x ys.length vs) (hyl : ∀ x ∈ ys, x.length = ye.size) (hyv : ∀ (k : Nat) c, ys.flatten[k]? = some c → ∃ u, vs[k]? = some u ∧ DatC E.Pub E.w c u)
  (hbound : (xs.length + ys.length) * ye.bytes ≤ 140737488355328) :
  ∃ v' E', (Builtin.append_ #[t, t2] ty #[s, x]).run P E.w = .ok v' E'.w ∧ Inv N S E' ∧ E'.st = E.st.put d (.sl .own ye.size (xs ++ ys)) ∧ E'.tm = E.tm.setIfInBounds d v' := by
 have ht : P.underlying t = some (.slice e) := oy.und.trans (congrArg some (kind_slice (oy.kind.trans hk)))
 have hi := oe.info
 have hsize : oe.i.size = ye.size := oe.size
 have hbytes : oe.i.bytes = ye.bytes := oe.bytes
 have hx' : Reads P E.w oe.i.size x ys.length vs := by rw [hsize]; exact hx
 have hle : xs.length + ys.length ≤ (xs.length + ys.length) * ye.bytes := Nat.le_mul_of_pos_right _ hby
 have h63 : ((xs.length + ys.length : Nat) : Int) ≤ 9223372036854775807 := by omega
 have hflat : (xs ++ ys).flatten = xs.flatten ++ ys.flatten := by simp
 have hylen := flatten_length hyl
 rcases hs with ⟨rfl, rfl⟩ | ⟨bk, cap, rfl, hcap, hown, hrow, hroom⟩
 ·by_cases hm : ys.length = 0
  ·have hys : ys = [] := List.eq_nil_of_length_eq_zero hm
   subst hys
   have hvs : vs = [] := List.eq_nil_of_length_eq_zero (by have := hx.length; simpa using this)
   subst hvs
   refine ⟨.slice none 0 0, _, ?_, I.putNil d hd hno ye.size, rfl, rfl⟩
   have hf := hx'.first E.w rfl
   have hl := hx'.len
   simp only [List.length_nil] at hl hf
   rcases hd2 with rfl | ⟨e', rfl⟩
   ·simp [Builtin.append_, run_underlying ht, run_underlying ht2, sizeOf, typeInfo, hi, hl, hf]
   ·simp [Builtin.append_, run_underlying ht, run_underlying ht2, sizeOf, typeInfo, hi, hl, hf]
  ·have hold : ∀ w', w'.heap = E.w.heap → (Builtin.firstCells oe.i.size 0 (.slice none 0 0)).run P w' = .ok ([] : List Value).toArray w' := fun w' _ => rfl
   have hgc := grownCap_ge E.w (0 + ys.length) 0 e
   have hr := append_new (P := P) (ty := ty) ht ht2 hd2 hi oe.zero hold hx' (by omega) (by simpa using h63) (growslice_fits (by omega) (by rw [hbytes]; simpa using hbound))
   simp only [Nat.zero_add] at hr hgc
   obtain ⟨ω', hI⟩ := I.putRow E.w.drew rfl ⟨SameOs.drew _, rfl, rfl⟩ d hd hno ye.size (grownCap E.w ys.length 0 e) ys (([] : List Value).toArray ++ vs.toArray ++ Builtin.zeroCells oe.z.cells (grownCap E.w ys.length 0 e - ys.length)) e
    (by simp only [Array.size_append, List.size_toArray, size_zeroCells, oe.zcs, hx.length, List.length_nil, Nat.zero_add, ← Nat.add_mul]; congr 1; omega) hgc hyl
    (fun k c hk => by
     obtain ⟨u, hu, hdt⟩ := hyv k c hk
     refine ⟨u, ?_, hdt⟩
     have : k < vs.length := (List.getElem?_eq_some_iff.1 hu).1
     rw [Array.getElem?_append_left (by simpa using this)]
     simpa using hu)
   exact ⟨_, _, hr, hI, by simp, by simp⟩
 ·obtain ⟨cur, T, hcur, _, hcs⟩ := hroom
  by_cases hin : xs.length + ys.length ≤ cap
  ·have hfit : xs.length * oe.i.size + vs.length ≤ cur.size := by rw [hsize, hx.length, hcs, ← Nat.add_mul]; exact Nat.mul_le_mul_right _ hin
   have hr := append_in (P := P) (ty := ty) ht ht2 hd2 hi hcur hx' hin hfit
   rw [hsize] at hr hfit
   generalize harr : (cur.toList.take (xs.length * ye.size) ++ vs ++ cur.toList.drop (xs.length * ye.size + vs.length)).toArray = arr' at hr
   have hal : arr'.toList = cur.toList.take (xs.length * ye.size) ++ vs ++ cur.toList.drop (xs.length * ye.size + vs.length) := by rw [← harr]
   have hasz : arr'.size = cap * ye.size := by rw [← Array.length_toList, hal, ← hcs]; simp; omega
   have hset : (E.w.setRow bk arr').heap[bk]? = some (.cells arr' T (0, 0)) := setRow_heap E.w bk cur arr' T (0, 0) hcur
   have hoth : ∀ k, k ≠ bk → (E.w.setRow bk arr').heap[k]? = E.w.heap[k]? := fun k hk => setRow_other E.w bk k arr' hk
   have hsz' : (E.w.setRow bk arr').heap.size = E.w.heap.size := by simp
   have hpb : ∀ b, E.Pub b → b ≠ bk := fun b h e => by have := (I.rel.pub b h).2; rw [e, hown] at this; cases this
   have hxl := flatten_length hrow.1
   obtain ⟨_, hR⟩ := I.rel.put (fun q => q = .slot d []) (fun q sz xs' ha he => by subst he; exact hno [] sz xs' ha) (fun id => by simp) (by simp) (E.w.setRow bk arr') E.ω E.Pub d (.sl .own ye.size (xs ++ ys))
    (.slice (some ⟨bk, 0, none⟩) (xs.length + ys.length) cap) hd hno
    (fun b hb hnd => hoth b fun e => by subst e; exact hnd _ hown rfl) (fun _ _ h => h) (fun _ h => h) (fun b h => by rw [hsz']; exact I.rel.pub b h) (fun b q h => by rw [hsz']; exact I.rel.own b q h)
   refine ⟨_, ⟨E.w.setRow bk arr', E.β, E.ω, E.Pub, E.st.put d (.sl .own ye.size (xs ++ ys)), E.tm.setIfInBounds d (.slice (some ⟨bk, 0, none⟩) (xs.length + ys.length) cap)⟩, hr, ⟨hR ?_, ⟨I.fr.os, I.fr.tape, I.fr.output, by show S.w0.heap.size ≤ _; rw [hsz']; exact I.fr.size, fun k hk hn => ?_, I.fr.own, I.fr.pub0, I.fr.pub1, I.fr.beta⟩⟩, rfl, rfl⟩
   ·have := Val.sl (E := ⟨E.w.setRow bk arr', E.β, E.ω, E.Pub, E.st.put d (.sl .own ye.size (xs ++ ys)), E.tm.setIfInBounds d (.slice (some ⟨bk, 0, none⟩) (xs.length + ys.length) cap)⟩) (.slot d []) .own ye.size (xs ++ ys) bk 0 cap
     (by simpa using hin) ⟨fun z hz => (List.mem_append.1 hz).elim (hrow.1 z) (hyl z), fun k c hk => ?_⟩ ⟨hown, arr', T, hset, rfl, hasz⟩ trivial
    ·simpa using this
    ·have hcell : ∀ (k : Nat), (E.w.setRow bk arr').cell? ⟨bk, 0 + k, none⟩ = arr'[k]? := by intro k; simp [World.cell?, hset]
     have hmon : ∀ {c u}, DatC E.Pub E.w c u → DatC E.Pub (E.w.setRow bk arr') c u := fun h => h.mono fun b hb => ⟨hb, hoth b (hpb b hb)⟩
     show ∃ u, (E.w.setRow bk arr').cell? ⟨bk, 0 + k, none⟩ = some u ∧ DatC E.Pub (E.w.setRow bk arr') c u
     rw [hcell, ← Array.getElem?_toList, hal]
     rw [hflat] at hk
     have htl : (cur.toList.take (xs.length * ye.size)).length = xs.length * ye.size := by simp; omega
     by_cases hlt : k < xs.length * ye.size
     ·rw [List.getElem?_append_left (by omega)] at hk
      obtain ⟨u, hu, hdt⟩ := hrow.2 k c hk
      refine ⟨u, ?_, hmon hdt⟩
      rw [List.append_assoc, List.getElem?_append_left (by omega), List.getElem?_take, if_pos hlt]
      simpa [World.cell?, hcur] using hu
     ·rw [List.getElem?_append_right (by omega)] at hk
      obtain ⟨u, hu, hdt⟩ := hyv _ c hk
      refine ⟨u, ?_, hmon hdt⟩
      rw [hxl] at hu
      have hul := (List.getElem?_eq_some_iff.1 hu).1
      rw [List.append_assoc, List.getElem?_append_right (by omega), htl, List.getElem?_append_left hul]
      exact hu
   ·show (E.w.setRow bk arr').heap[k]? = _
    rw [hoth k fun e => ?_]
    ·exact I.fr.block k hk hn
    ·have := I.fr.own bk _ hown
     rcases this with h | h
     ·omega
     ·exact hn (e ▸ h)
  ·obtain ⟨os, hol, hoc, hov⟩ := row_values hrow.2
   have hxl := flatten_length hrow.1
   have hold : ∀ w', w'.heap = E.w.heap → (Builtin.firstCells oe.i.size xs.length (.slice (some ⟨bk, 0, none⟩) xs.length cap)).run P w' = .ok os.toArray w' := by
    intro w' hw'
    show (loadCells _ _).run P w' = _
    rw [hsize, ← hxl, ← hol]
    refine load_cells bk 0 os fun j v hj => ?_
    rw [cell_same (w' := w') (w := E.w) (by rw [hw'])]
    exact hoc j v hj
   have hgc := grownCap_ge E.w (xs.length + ys.length) cap e
   have hr := append_new (P := P) (ty := ty) ht ht2 hd2 hi oe.zero hold hx' (by omega) h63 (growslice_fits (by omega) (by rw [hbytes]; exact hbound))
   obtain ⟨ω', hI⟩ := I.putRow E.w.drew rfl ⟨SameOs.drew _, rfl, rfl⟩ d hd hno ye.size (grownCap E.w (xs.length + ys.length) cap e) (xs ++ ys) (os.toArray ++ vs.toArray ++ Builtin.zeroCells oe.z.cells (grownCap E.w (xs.length + ys.length) cap e - (xs.length + ys.length))) e
    (by simp only [Array.size_append, List.size_toArray, size_zeroCells, oe.zcs, hx.length, hol, hxl, ← Nat.add_mul]; congr 1; omega) (by simpa using hgc)
    (fun z hz => (List.mem_append.1 hz).elim (hrow.1 z) (hyl z))
    (fun k c hk => by
     rw [hflat] at hk
     by_cases hlt : k < os.length
     ·rw [List.getElem?_append_left (by omega)] at hk
      obtain ⟨u, hu, hdt⟩ := hov k c hk
      refine ⟨u, ?_, hdt⟩
      rw [Array.getElem?_append_left (by simp; omega), Array.getElem?_append_left (by simpa using hlt)]
      simpa using hu
     ·rw [List.getElem?_append_right (by omega)] at hk
      obtain ⟨u, hu, hdt⟩ := hyv _ c hk
      refine ⟨u, ?_, hdt⟩
      rw [← hol] at hu
      have hul := (List.getElem?_eq_some_iff.1 hu).1
      rw [Array.getElem?_append_left (by simp; omega), Array.getElem?_append_right (by simp; omega)]
      simpa using hu)
   exact ⟨_, _, hr, hI, by simp, by simp⟩
theorem Inv.appendCut (I : Inv N S E) {t t2 e : TypeId} (ty : TypeId) {y ye : TI} (oy : TyOk P t y) (oe : TyOk P e ye) (hk : y.kind = .slice e) {d2 : TypeDesc} (ht2 : P.underlying t2 = some d2) (hd2 : d2 = .string ∨ ∃ e', d2 = .slice e')
  (d : Nat) (hd : d < N) (hno : NoOwn (E.st.slots d)) {p : Place} {xs ys : List (List AV)} {s : Value} (hs : Val E p (.sl .cut ye.size xs) s) (hne : ys ≠ []) (x : Value) (hby : 0 < ye.bytes)
  (vs : List Value) (hx : Reads P E.w ye.size x ys.length vs) (hyl : ∀ x ∈ ys, x.length = ye.size) (hyv : ∀ (k : Nat) c, ys.flatten[k]? = some c → ∃ u, vs[k]? = some u ∧ DatC E.Pub E.w c u)
  (hbound : (xs.length + ys.length) * ye.bytes ≤ 140737488355328) :
  ∃ v' E', (Builtin.append_ #[t, t2] ty #[s, x]).run P E.w = .ok v' E'.w ∧ Inv N S E' ∧ E'.st = E.st.put d (.sl .own ye.size (xs ++ ys)) ∧ E'.tm = E.tm.setIfInBounds d v' := by
 have ht : P.underlying t = some (.slice e) := oy.und.trans (congrArg some (kind_slice (oy.kind.trans hk)))
 have hi := oe.info
 have hsize : oe.i.size = ye.size := oe.size
 have hbytes : oe.i.bytes = ye.bytes := oe.bytes
 have hx' : Reads P E.w oe.i.size x ys.length vs := by rw [hsize]; exact hx
 have hle : xs.length + ys.length ≤ (xs.length + ys.length) * ye.bytes := Nat.le_mul_of_pos_right _ hby
 have h63 : ((xs.length + ys.length : Nat) : Int) ≤ 9223372036854775807 := by omega
 have hflat : (xs ++ ys).flatten = xs.flatten ++ ys.flatten := by simp
 have hypos : 0 < ys.length := List.length_pos_iff.2 hne
 obtain ⟨a, rfl, os, hol, hov, hxl, hold⟩ : ∃ a, s = .slice a xs.length xs.length ∧ ∃ os : List Value, os.length = xs.flatten.length ∧ (∀ (k : Nat) c, xs.flatten[k]? = some c → ∃ u, os[k]? = some u ∧ DatC E.Pub E.w c u) ∧ (∀ z ∈ xs, z.length = ye.size) ∧
   ∀ w', w'.heap = E.w.heap → (Builtin.firstCells oe.i.size xs.length (.slice a xs.length xs.length)).run P w' = .ok os.toArray w' := by
  cases hs with
  | sl2 _ _ a => exact ⟨some a, rfl, [], rfl, by simp, by simp, fun w' _ => by simp [Builtin.firstCells, loadCells, loadCellsFrom]⟩
  | sl0 => exact ⟨none, rfl, [], rfl, by simp, by simp, fun w' _ => rfl⟩
  | sl _ _ _ _ bk off cap hc hrow hg ha =>
   obtain ⟨_, rfl⟩ := hg
   obtain ⟨os, hol, hoc, hov⟩ := row_values hrow.2
   have hxl := flatten_length hrow.1
   refine ⟨some ⟨bk, off, none⟩, rfl, os, hol, hov, hrow.1, fun w' hw' => ?_⟩
   show (loadCells _ _).run P w' = _
   rw [hsize, ← hxl, ← hol]
   refine load_cells bk off os fun j v hj => ?_
   rw [cell_same (w' := w') (w := E.w) (by rw [hw'])]
   exact hoc j v hj
 have hxf := flatten_length hxl
 have hgc := grownCap_ge E.w (xs.length + ys.length) xs.length e
 have hr := append_new (P := P) (ty := ty) ht ht2 hd2 hi oe.zero hold hx' (by omega) h63 (growslice_fits (by omega) (by rw [hbytes]; exact hbound))
 obtain ⟨ω', hI⟩ := I.putRow E.w.drew rfl ⟨SameOs.drew _, rfl, rfl⟩ d hd hno ye.size (grownCap E.w (xs.length + ys.length) xs.length e) (xs ++ ys) (os.toArray ++ vs.toArray ++ Builtin.zeroCells oe.z.cells (grownCap E.w (xs.length + ys.length) xs.length e - (xs.length + ys.length))) e
  (by simp only [Array.size_append, List.size_toArray, size_zeroCells, oe.zcs, hx.length, hol, hxf, ← Nat.add_mul]; congr 1; omega) (by simpa using hgc)
  (fun z hz => (List.mem_append.1 hz).elim (hxl z) (hyl z))
  (fun k c hk => by
   rw [hflat] at hk
   by_cases hlt : k < os.length
   ·rw [List.getElem?_append_left (by omega)] at hk
    obtain ⟨u, hu, hdt⟩ := hov k c hk
    refine ⟨u, ?_, hdt⟩
    rw [Array.getElem?_append_left (by simp; omega), Array.getElem?_append_left (by simpa using hlt)]
    simpa using hu
   ·rw [List.getElem?_append_right (by omega)] at hk
    obtain ⟨u, hu, hdt⟩ := hyv _ c hk
    refine ⟨u, ?_, hdt⟩
    rw [← hol] at hu
    have hul := (List.getElem?_eq_some_iff.1 hu).1
    rw [Array.getElem?_append_left (by simp; omega), Array.getElem?_append_right (by simp; omega)]
    simpa using hu)
 exact ⟨_, _, hr, hI, by simp, by simp⟩
end
end Go.AM
namespace Go.AM
section
variable {P : Program} {N : Nat} {S : Start} {E : Env}
theorem set_flat {sz : Nat} {xs : List (List AV)} (hl : ∀ x ∈ xs, x.length = sz) {ix : Nat} {old new : List AV} (hix : xs[ix]? = some old) (hn : new.length = sz) (k : Nat) :
  (xs.set ix new).flatten[k]? = if ix * sz ≤ k ∧ k < ix * sz + sz then new[k - ix * sz]? else xs.flatten[k]? := by
 induction xs generalizing ix k with
 | nil => simp at hix
 | cons x xs ih =>
  have hx : x.length = sz := hl x (by simp)
  cases ix with
  | zero =>
   simp at hix; subst hix
   simp only [List.set_cons_zero, List.flatten_cons, Nat.zero_mul, Nat.zero_le, true_and, Nat.zero_add, Nat.sub_zero]
   by_cases hk : k < sz
   ·rw [if_pos hk, List.getElem?_append_left (by omega)]
   ·rw [if_neg hk, List.getElem?_append_right (by omega), List.getElem?_append_right (by omega), hn, hx]
  | succ ix =>
   simp only [List.set_cons_succ, List.flatten_cons]
   by_cases hk : k < sz
   ·rw [List.getElem?_append_left (by omega), List.getElem?_append_left (by omega), if_neg]
    have : sz ≤ (ix + 1) * sz := by rw [Nat.add_mul]; omega
    omega
   ·rw [List.getElem?_append_right (by omega), List.getElem?_append_right (by omega), hx, ih (fun y hy => hl y (by simp [hy])) (by simpa using hix)]
    have e : (ix + 1) * sz = ix * sz + sz := by rw [Nat.add_mul]; omega
    by_cases hin : ix * sz ≤ k - sz ∧ k - sz < ix * sz + sz
    ·rw [if_pos hin, if_pos (by omega), e]; congr 1; omega
    ·rw [if_neg hin, if_neg (by omega)]
theorem tm_set_same (tm : Array Value) (t : Nat) (v : Value) (h : tm.getD t undef = v) : tm.setIfInBounds t v = tm := by
 apply Array.ext_getElem?
 intro k
 by_cases hk : k = t
 ·subst hk
  by_cases hlt : k < tm.size
  ·simp only [Array.getElem?_setIfInBounds_self, hlt, if_true, Array.getElem?_eq_getElem hlt]
   rw [Array.getD_eq_getD_getElem?, Array.getElem?_eq_getElem hlt] at h
   simpa using h.symm
  ·rw [Array.getElem?_eq_none (by simp; omega), Array.getElem?_eq_none (by omega)]
 ·rw [Array.getElem?_setIfInBounds_ne (Ne.symm hk)]
def St.setAt (st : St) (q : Place) (x : AV) : St :=
 match q with
 | .slot t [] => st.put t x
 | .cell id j => st.setBox id ((st.boxes id).map fun cs => cs.set j x)
 | _ => st
def selfTake (q : Place) (p : Place) : Option Place := if p = q then some q else none
theorem Inv.storeElem (I : Inv N S E) {t : TypeId} {y : TI} (oy : TyOk P t y) (F : Place → Bool) (hF : ∀ id, F (.box id) = false) (q : Place) (ix off sz : Nat) (cells : List AV) (xs : List (List AV)) (vp : Value) (x : AV) (v : Value)
  (hv : Val E .no x v) (hp : Val E .no (.pt (.vw q true) ix cells off) vp) (hab : E.st.abs q = .sl .own sz xs) (hq : (∃ t, q = .slot t []) ∨ ∃ id j, q = .cell id j) (hFq : F q = false) (hh : x.hole = false) (hn : (flatA x).length = y.size)
  (hle : off + y.size ≤ cells.length) (hdata : AV.dataL ((flatA x).map (AV.dz F)) = true) (hcell : (flatA x).all AV.cellOk = true) :
  ∃ E', (Instr.storeAt t vp v).run P E.w = .ok () E'.w ∧ Inv N S E' ∧ E'.tm = E.tm ∧
   E'.st = ((E.st.fz F).take (selfTake q)).setAt q (.sl .own sz (xs.set ix (spliceL cells off ((flatA x).map (AV.dz F))))) := by
 cases hp with
 | pt _ _ _ _ _ bk o hcs hg hat =>
 obtain ⟨hω, hex⟩ := hg
 obtain ⟨sz', xs', o', cap, hcon, hab', hix, ho⟩ := hex rfl
 rw [hab] at hab'
 obtain ⟨_, rfl, rfl⟩ := AV.sl.inj hab'
 obtain ⟨cur, T, hcur, ho0, hcs0⟩ := exact_room I.rel hcon hab
 subst ho0
 have hval := I.rel.at hcon
 rw [hab] at hval
 cases hval with
 | sl _ _ _ _ _ _ _ hcap hrow _ _ =>
 have hlen : cells.length = sz := hrow.1 cells (List.mem_of_getElem? hix)
 have hixl : ix < xs.length := (List.getElem?_eq_some_iff.1 hix).1
 obtain ⟨hl1, hv1⟩ := flatA_val hv hh
 have hone : ∀ u ∈ v.cells.toList, u.oneCell' = true := by
  intro u hu
  obtain ⟨k, hk⟩ := List.getElem?_of_mem hu
  have hkl : k < (flatA x).length := by rw [hl1]; have := (List.getElem?_eq_some_iff.1 hk).1; simpa using this
  have := hv1 k _ (List.getElem?_eq_getElem hkl)
  have he : v.cells.getD k undef = u := by
   rw [Array.getD_eq_getD_getElem?, ← Array.getElem?_toList, hk]; rfl
  rw [he] at this
  exact oneCell_of this (List.all_eq_true.1 hcell _ (List.getElem_mem hkl))
 have hend : ix * sz + sz ≤ cap * sz := by
  have : (ix + 1) * sz ≤ cap * sz := Nat.mul_le_mul_right _ (by omega)
  rw [Nat.add_mul] at this; omega
 have hob : o + off = ix * sz + off := by omega
 have hfit : (ix * sz + off) + 0 + v.cells.toList.length ≤ cur.size := by simp only [Array.length_toList, Nat.add_zero]; omega
 have hrun := run_storeCells_at P bk (ix * sz + off) T v.cells.toList 0 cur E.w hcur hfit hone
 simp only [Nat.add_zero, Array.length_toList] at hrun
 generalize harr : (cur.toList.take (ix * sz + off) ++ v.cells.toList ++ cur.toList.drop (ix * sz + off + v.cells.size)).toArray = arr' at hrun
 have hal : arr'.toList = cur.toList.take (ix * sz + off) ++ v.cells.toList ++ cur.toList.drop (ix * sz + off + v.cells.size) := by rw [← harr]
 have hvsz : v.cells.size = y.size := by omega
 have hasz : arr'.size = cap * sz := by rw [← Array.length_toList, hal, ← hcs0]; simp; omega
 have hget : ∀ j : Nat, arr'[j]? = if ix * sz + off ≤ j ∧ j < ix * sz + off + v.cells.size then v.cells[j - (ix * sz + off)]? else cur[j]? := by
  intro j
  rw [← Array.getElem?_toList, hal]
  have hto : (cur.toList.take (ix * sz + off)).length = ix * sz + off := by simp; omega
  by_cases ha : j < ix * sz + off
  ·rw [if_neg (by omega), List.append_assoc, List.getElem?_append_left (by omega), List.getElem?_take, if_pos ha]
   simp
  ·by_cases hbb : j < ix * sz + off + v.cells.size
   ·rw [if_pos (by omega), List.append_assoc, List.getElem?_append_right (by omega), hto, List.getElem?_append_left (by simp; omega)]
    simp
   ·rw [if_neg (by omega), List.getElem?_append_right (by simp; omega)]
    simp only [List.length_append, hto, Array.length_toList, List.getElem?_drop, Array.getElem?_toList]
    congr 1; omega
 let E2 := (E.fz F).take (selfTake q)
 have hqb : ∀ id, selfTake q (.box id) = none := by
  intro id
  unfold selfTake
  rcases hq with ⟨t, rfl⟩ | ⟨id', j, rfl⟩ <;> rw [if_neg (by simp)]
 have I2 : Inv N S E2 := (I.fz F hF).take (selfTake q) hqb
 have hω2 : E2.ω bk = some q := by
  show (match (E.fz F).ω bk with | some q' => some ((selfTake q q').getD q') | none => none) = _
  simp [Env.fz, hω, hFq, selfTake]
 have hdead : ∀ p sz xs, E2.st.abs p = .sl .own sz xs → ¬ p = q := by
  intro p sz' xs' ha he
  subst he
  rcases hq with ⟨t, rfl⟩ | ⟨id', j, rfl⟩
  ·have h1 : (E2.st).abs (.slot t []) = .sl .own sz' xs' := ha
   have h2 : ((E.fz F).st.take (selfTake (.slot t []))).abs (.slot t []) = .sl .own sz' xs' := h1
   unfold St.take at h2
   rw [St.abs_tr (fun _ => rfl) (takeLeaf_leaf _)] at h2
   simp only at h2
   generalize (E.fz F).st.abs (.slot t []) = z at h2
   cases z with
   | sl g a b => rw [AV.tr_leaf rfl] at h2; cases g <;> simp [takeLeaf, selfTake] at h2; (split at h2 <;> simp at h2)
   | pt g a b c => rw [AV.tr_leaf rfl] at h2; cases g <;> simp [takeLeaf] at h2; (split at h2 <;> simp at h2)
   | agg => simp [AV.tr] at h2
   | tup => simp [AV.tr] at h2
   | fn => simp [AV.tr] at h2
   | _ => simp [AV.tr, takeLeaf] at h2
  ·exact take_cell (E.fz F).st (selfTake (.cell id' j)) id' j (by simp [selfTake]) sz' xs' ha
 have hset : (E.w.setRow bk arr').heap[bk]? = some (.cells arr' T (0, 0)) := setRow_heap E.w bk cur arr' T (0, 0) hcur
 have hoth : ∀ k, k ≠ bk → (E.w.setRow bk arr').heap[k]? = E.w.heap[k]? := fun k hk => setRow_other E.w bk k arr' hk
 have hsz' : (E.w.setRow bk arr').heap.size = E.w.heap.size := by simp
 have hpb : ∀ b, E2.Pub b → b ≠ bk := fun b h e => by have := (I2.rel.pub b h).2; rw [e, hω2] at this; cases this
 have hfrb : ∀ k, k < S.w0.heap.size → ¬ S.own0 k → (E.w.setRow bk arr').heap[k]? = S.w0.heap[k]? := by
  intro k hk hn
  rw [hoth k fun e => ?_]
  ·exact I.fr.block k hk hn
  ·have := I.fr.own bk _ hω
   rcases this with h | h
   ·omega
   ·exact hn (e ▸ h)
 have hnlen : ((flatA x).map (AV.dz F)).length = y.size := by rw [List.length_map, hn]
 have hsl : off + ((flatA x).map (AV.dz F)).length ≤ cells.length := by omega
 generalize hnew : spliceL cells off ((flatA x).map (AV.dz F)) = new
 have hnl : new.length = sz := by rw [← hnew, splice_length _ _ _ hsl, hlen]
 have hrow' : Row E2.Pub (E.w.setRow bk arr') bk 0 sz (xs.set ix new) := by
  refine ⟨fun z hz => ?_, fun k c hk => ?_⟩
  ·rcases List.mem_or_eq_of_mem_set hz with h | h
   ·exact hrow.1 z h
   ·rw [h]; exact hnl
  ·have hcellk : (E.w.setRow bk arr').cell? ⟨bk, 0 + k, none⟩ = arr'[k]? := by simp [World.cell?, hset]
   rw [hcellk, hget, hvsz]
   have hmonE : ∀ {c u}, DatC E.Pub E.w c u → DatC E2.Pub (E.w.setRow bk arr') c u := fun h => h.mono fun b hb => ⟨.inl hb, hoth b (hpb b (.inl hb))⟩
   rw [set_flat hrow.1 hix hnl] at hk
   split at hk
   ·rename_i hin
    rw [← hnew, splice_get _ _ _ _ hsl, hnlen] at hk
    split at hk
    ·rename_i hin2
     rw [if_pos (by omega)]
     rw [List.getElem?_map] at hk
     obtain ⟨c0, hc0, rfl⟩ := Option.map_eq_some_iff.1 hk
     have hd := (hv1 _ c0 hc0).dz (F := F) (AV.dataL_iff.1 hdata _ (List.mem_of_getElem? (by rw [List.getElem?_map, hc0]; rfl)))
     have hlt := (List.getElem?_eq_some_iff.1 hc0).1
     have hone1 : (v.cells.getD (k - ix * sz - off) undef).oneCell' = true := oneCell_of (hv1 _ c0 hc0) (List.all_eq_true.1 hcell _ (List.mem_of_getElem? hc0))
     refine ⟨v.cells.getD (k - ix * sz - off) undef, ?_, hd.mono fun b hb => ⟨hb, hoth b (hpb b hb)⟩, hone1⟩
     have : k - (ix * sz + off) = k - ix * sz - off := by omega
     rw [this, Array.getD_eq_getD_getElem?, Array.getElem?_eq_getElem (by omega)]
     rfl
    ·rename_i hin2
     rw [if_neg (by omega)]
     obtain ⟨u, hu, hd⟩ := hrow.2 k c (by
      have := flat_get hrow.1 ix (k - ix * sz) cells c hix hk
      rwa [show ix * sz + (k - ix * sz) = k by omega] at this)
     exact ⟨u, by simpa [World.cell?, hcur] using hu, hmonE hd⟩
   ·rename_i hin
    rw [if_neg (by omega)]
    obtain ⟨u, hu, hd⟩ := hrow.2 k c hk
    exact ⟨u, by simpa [World.cell?, hcur] using hu, hmonE hd⟩
 have hrun' : (Instr.storeAt t (.pointer (some ⟨bk, o + off, none⟩)) v).run P E.w = .ok () (E.w.setRow bk arr') := by
  simp only [Instr.storeAt, Sem.run_bind, Instr.sureAddr, Sem.run_pure, Result.andThen_ok, storeVar, oy.sizeOf]
  rw [if_neg (by simp; omega), hob]
  exact hrun
 rcases hq with ⟨t', rfl⟩ | ⟨id, j, rfl⟩
 ·
  have hd : t' < N := by
   rcases Nat.lt_or_ge t' N with h | h
   ·exact h
   ·have : E.tm.getD t' undef = undef := by rw [Array.getD_eq_getD_getElem?, Array.getElem?_eq_none (by rw [I.rel.size]; exact h)]; rfl
    have hcon' : some (E.tm.getD t' undef) = some _ := hcon
    rw [this] at hcon'; cases hcon'
  have htm : E.tm.getD t' undef = .slice (some ⟨bk, 0, none⟩) xs.length cap := Option.some.inj hcon
  have hno2 : NoOwn (E2.st.slots t') := by
   intro π sz' xs' he
   have hs0 : E.st.slots t' = .sl .own sz xs := hab
   have hs2 : E2.st.slots t' = .any := by
    show (((E.st.slots t').tr (fzLeaf F) (.slot t' [])).tr (takeLeaf (selfTake (.slot t' []))) (.slot t' [])) = .any
    rw [hs0]
    simp [AV.tr, fzLeaf, hFq, takeLeaf, selfTake]
   rw [hs2, AV.at_any] at he; cases he
  obtain ⟨_, hR⟩ := I2.rel.put (fun p => p = .slot t' []) hdead (fun id => by simp) (by simp) (E.w.setRow bk arr') E2.ω E2.Pub t' (.sl .own sz (xs.set ix new)) (.slice (some ⟨bk, 0, none⟩) xs.length cap) hd hno2
   (fun b hb hnd => hoth b fun e => by subst e; exact hnd _ hω2 rfl) (fun _ _ h => h) (fun _ h => h) (fun b h => by rw [hsz']; exact I2.rel.pub b h) (fun b q h => by rw [hsz']; exact I2.rel.own b q h)
  refine ⟨_, hrun', ⟨hR ?_, ⟨I2.fr.os, I2.fr.tape, I2.fr.output, by show S.w0.heap.size ≤ _; rw [hsz']; exact I2.fr.size, hfrb, I2.fr.own, I2.fr.pub0, I2.fr.pub1, I2.fr.beta⟩⟩, tm_set_same _ _ _ htm, rfl⟩
  have := Val.sl (E := ⟨E.w.setRow bk arr', E2.β, E2.ω, E2.Pub, E2.st.put t' (.sl .own sz (xs.set ix new)), E2.tm.setIfInBounds t' (.slice (some ⟨bk, 0, none⟩) xs.length cap)⟩) (.slot t' []) .own sz (xs.set ix new) bk 0 cap
   (by simpa using hcap) hrow' ⟨hω2, arr', T, hset, rfl, hasz⟩ trivial
  simpa using this
 ·
  have hlive : ∃ cs, E2.st.boxes id = some cs := by
   cases hb : E.st.boxes id with
   | none => simp [St.abs, hb] at hab
   | some cs => exact ⟨_, boxes_tr _ _ _ (boxes_tr _ _ _ hb)⟩
  obtain ⟨cs, hb2⟩ := hlive
  obtain ⟨hb1, barr, bT, hbh, hbl, _⟩ := I2.rel.boxes id cs hb2
  have hne : E2.β id ≠ bk := fun e => by rw [e, hω2] at hb1; cases hb1
  have hcj : E.w.cell? ⟨E.β id, j, none⟩ = some (.slice (some ⟨bk, 0, none⟩) xs.length cap) := hcon
  have hbh' : E.w.heap[E.β id]? = some (.cells barr bT (0, 0)) := hbh
  have hbj : barr[j]? = some (.slice (some ⟨bk, 0, none⟩) xs.length cap) := by simpa [World.cell?, hbh'] using hcj
  have hjl : j < cs.length := by rw [← hbl]; exact (Array.getElem?_eq_some_iff.1 hbj).1
  obtain ⟨_, hR⟩ := I2.rel.setBox (fun p => p = .cell id j) hdead (fun id => by simp) (by simp) (E.w.setRow bk arr') E2.ω E2.Pub id (fun k => k = j) cs (cs.set j (.sl .own sz (xs.set ix new))) barr barr bT bT hb2 hbh
   (fun b hb hnb hnd => hoth b fun e => by subst e; exact hnd _ hω2 rfl) (by rw [hoth _ hne]; exact hbh) (by simpa using hbl) (by simp)
   (fun k c hk hkj sz' xs' he => by
    subst hkj
    refine hdead (.cell id k) sz' xs' ?_ rfl
    show ((E2.st.boxes id).getD []).getD k .any = _
    rw [hb2]; exact (getD_get hk).trans he)
   (fun k hk => ⟨by rw [List.getElem?_set_ne (Ne.symm hk)], rfl⟩) (fun _ _ h => h) (fun _ h => h) (fun b h => by rw [hsz']; exact I2.rel.pub b h) (fun b q h => by rw [hsz']; exact I2.rel.own b q h)
  refine ⟨_, hrun', ⟨hR ?_, ⟨I2.fr.os, I2.fr.tape, I2.fr.output, by show S.w0.heap.size ≤ _; rw [hsz']; exact I2.fr.size, hfrb, I2.fr.own, I2.fr.pub0, I2.fr.pub1, I2.fr.beta⟩⟩, rfl, ?_⟩
  ·intro k c hk hkj
   subst hkj
   rw [List.getElem?_set_self hjl] at hk
   obtain rfl := Option.some.inj hk
   have hbd : barr.getD k undef = .slice (some ⟨bk, 0, none⟩) xs.length cap := by rw [Array.getD_eq_getD_getElem?, hbj]; rfl
   rw [hbd]
   have := Val.sl (E := ⟨E.w.setRow bk arr', E2.β, E2.ω, E2.Pub, E2.st.setBox id (some (cs.set k (.sl .own sz (xs.set ix new)))), E2.tm⟩) (.cell id k) .own sz (xs.set ix new) bk 0 cap
    (by simpa using hcap) hrow' ⟨hω2, arr', T, hset, rfl, hasz⟩ trivial
   simpa using this
  ·have : ∀ z, E2.st.setBox id (some (cs.set j z)) = E2.st.setAt (.cell id j) z := by
    intro z
    show _ = E2.st.setBox id ((E2.st.boxes id).map fun cs => cs.set j z)
    rw [hb2]; rfl
   exact this _
end
end Go.AM
namespace Go.AM
section
variable {P : Program} {N : Nat} {S : Start} {E : Env}
theorem Inv.writeBox (I : Inv N S E) {id o : Nat} {cs ds : List AV} {news : List Value} {arr : Array Value} {T : TypeId} (hb : E.st.boxes id = some cs) (hfree : ∀ (j : Nat) c, o ≤ j → j < o + ds.length → cs[j]? = some c → c.free = true) (hle : o + ds.length ≤ cs.length)
  (hn : news.length = ds.length) (hv : ∀ (k : Nat) c, ds[k]? = some c → ∃ u, news[k]? = some u ∧ Dat E.Pub E.w c u) (ha : E.w.heap[E.β id]? = some (.cells arr T (0, 0))) (hsz : arr.size = cs.length) :
  Inv N S { E with w := E.w.setRow (E.β id) (arr.toList.take o ++ news ++ arr.toList.drop (o + news.length)).toArray, st := E.st.setBox id (some (cs.take o ++ ds ++ cs.drop (o + ds.length))) } := by
 obtain ⟨hω, arr0, T0, h1, h2, h3⟩ := I.rel.boxes id cs hb
 rw [ha] at h1
 cases h1
 have hset := setRow_heap E.w (E.β id) arr (arr.toList.take o ++ news ++ arr.toList.drop (o + news.length)).toArray T (0, 0) ha
 have hoth : ∀ k, k ≠ E.β id → (E.w.setRow (E.β id) (arr.toList.take o ++ news ++ arr.toList.drop (o + news.length)).toArray).heap[k]? = E.w.heap[k]? := fun k hk => setRow_other E.w (E.β id) k _ hk
 have htc : (cs.take o).length = o := by simp; omega
 have hta : (arr.toList.take o).length = o := by simp; omega
 have hpb : ∀ b, E.Pub b → b ≠ E.β id := fun b h e => by have := (I.rel.pub b h).2; rw [e, hω] at this; cases this
 obtain ⟨_, hR⟩ := I.rel.setBox (fun _ => False) (fun _ _ _ _ h => h) (fun _ h => h) (fun h => h) (E.w.setRow (E.β id) (arr.toList.take o ++ news ++ arr.toList.drop (o + news.length)).toArray) E.ω E.Pub id (fun j => o ≤ j ∧ j < o + ds.length) cs (cs.take o ++ ds ++ cs.drop (o + ds.length))
  arr (arr.toList.take o ++ news ++ arr.toList.drop (o + news.length)).toArray T T hb ha (fun bk _ hne _ => hoth bk hne) hset (by simp; omega) (by simp; omega)
  (fun j c hj hD sz xs he => by have := hfree j c hD.1 hD.2 hj; rw [he] at this; simp [AV.free] at this)
  (fun j hj => by
   by_cases hlt : j < o
   ·refine ⟨?_, ?_⟩
    ·rw [List.append_assoc, List.getElem?_append_left (by omega), List.getElem?_take, if_pos hlt]
    ·rw [← Array.getElem?_toList]
     show (arr.toList.take o ++ news ++ arr.toList.drop (o + news.length))[j]? = _
     rw [List.append_assoc, List.getElem?_append_left (by omega), List.getElem?_take, if_pos hlt, Array.getElem?_toList]
   ·have hge : o + ds.length ≤ j := by
     by_cases h2 : j < o + ds.length
     ·exact absurd ⟨by omega, h2⟩ hj
     ·omega
    refine ⟨?_, ?_⟩
    ·rw [List.getElem?_append_right (by rw [List.length_append]; omega), List.length_append, htc, List.getElem?_drop]; congr 1; omega
    ·rw [← Array.getElem?_toList]
     show (arr.toList.take o ++ news ++ arr.toList.drop (o + news.length))[j]? = _
     rw [List.getElem?_append_right (by rw [List.length_append]; omega), List.length_append, hta, List.getElem?_drop, Array.getElem?_toList]; congr 1; omega)
  (fun _ _ h => h) (fun _ h => h) (fun b h => ⟨by rw [size_setRow]; exact (I.rel.pub b h).1, (I.rel.pub b h).2⟩) (fun b q h => by rw [size_setRow]; exact I.rel.own b q h)
 refine ⟨hR fun j c hj hD => ?_, ⟨I.fr.os, I.fr.tape, I.fr.output, by show S.w0.heap.size ≤ _; rw [size_setRow]; exact I.fr.size, fun k hk hn' => ?_, I.fr.own, I.fr.pub0, I.fr.pub1, I.fr.beta⟩⟩
 ·obtain ⟨hD1, hD2⟩ : o ≤ j ∧ j < o + ds.length := hD
  rw [List.append_assoc, List.getElem?_append_right (by omega), htc, List.getElem?_append_left (by omega)] at hj
  obtain ⟨u, hu, hd⟩ := hv _ c hj
  have : (arr.toList.take o ++ news ++ arr.toList.drop (o + news.length)).toArray.getD j undef = u := by
   rw [Array.getD_eq_getD_getElem?, ← Array.getElem?_toList]
   show ((arr.toList.take o ++ news ++ arr.toList.drop (o + news.length))[j]?).getD undef = u
   rw [List.append_assoc, List.getElem?_append_right (by omega), hta, List.getElem?_append_left (by omega), hu]
   rfl
  rw [this]
  exact Dat.val (E := { E with w := E.w.setRow (E.β id) (arr.toList.take o ++ news ++ arr.toList.drop (o + news.length)).toArray, st := E.st.setBox id (some (cs.take o ++ ds ++ cs.drop (o + ds.length))) }) (hd.mono fun b hb => ⟨hb, hoth b (hpb b hb)⟩) _
 ·show (E.w.setRow (E.β id) _).heap[k]? = _
  rw [hoth k fun e => ?_]
  ·exact I.fr.block k hk hn'
  ·have := I.fr.own (E.β id) _ hω
   rcases this with h | h
   ·omega
   ·exact hn' (e ▸ h)
end
end Go.AM
namespace Go.AM
theorem AV.tr_id {h : Place → AV → AV} (hl : ∀ p x, x.leaf = true → h p x = x) (x : AV) : ∀ p, x.tr h p = x := by
 refine AV.rec (motive_1 := fun x => ∀ p, x.tr h p = x) (motive_2 := fun l => (∀ p k, AV.trL h p k l = l) ∧ AV.trN h l = l) (motive_3 := fun _ => True)
  ?_ ?_ ?_ ?_ ?_ ?_ ?_ ?_ ?_ ?_ ?_ ?_ ?_ ?_ ?_ ?_ ?_ ?_ ?_ ?_ x
 ·intro p; exact hl _ _ rfl
 ·intro x p; exact hl _ _ rfl
 ·intro k n p; exact hl _ _ rfl
 ·intro x p; exact hl _ _ rfl
 ·intro p; exact hl _ _ rfl
 ·intro p; exact hl _ _ rfl
 ·intro id off n cap p; exact hl _ _ rfl
 ·intro b0 p; exact hl _ _ rfl
 ·intro b0 p; exact hl _ _ rfl
 ·intro id off p; exact hl _ _ rfl
 ·intro id off n cap p; exact hl _ _ rfl
 ·intro g ix cells off _ p; exact hl _ _ rfl
 ·intro f fi ca h1 h2 p; simp [AV.tr, h1.2, h2.2]
 ·intro g sz xs _ p; exact hl _ _ rfl
 ·intro cs h p; simp [AV.tr, h.1]
 ·intro cs h p; simp [AV.tr, h.1]
 ·exact ⟨fun _ _ => rfl, rfl⟩
 ·intro x xs h1 h2
  exact ⟨fun p k => by simp [AV.trL, h1, h2.1], by simp [AV.trN, h1, h2.2]⟩
 ·trivial
 ·intros; trivial
theorem AV.trC_id {h : Place → AV → AV} (hl : ∀ p x, x.leaf = true → h p x = x) (id : Nat) : ∀ (cs : List AV) (k : Nat), AV.trC h id k cs = cs
 | [], _ => rfl
 | x :: xs, k => by simp [AV.trC, AV.tr_id hl, AV.trC_id hl id xs]
theorem St.tr_id {h : Place → AV → AV} (hl : ∀ p x, x.leaf = true → h p x = x) (st : St) : st.tr h = st := by
 cases st with
 | mk slots boxes =>
  simp only [St.tr, AV.tr_id hl]
  congr 1
  funext id
  cases boxes id with
  | none => rfl
  | some cs => simp [AV.trC_id hl]
def noQ : Place → Option Place := fun _ => none
def noF : Place → Bool := fun _ => false
theorem fzLeaf_no (p : Place) (x : AV) : fzLeaf noF p x = x := by
 unfold fzLeaf
 split <;> simp [noF]
theorem takeLeaf_no (p : Place) (x : AV) : takeLeaf noQ p x = x := by
 unfold takeLeaf
 split <;> simp [noQ]
@[simp] theorem St.fz_no (st : St) : st.fz noF = st := St.tr_id (fun p x _ => fzLeaf_no p x) st
@[simp] theorem St.take_no (st : St) : st.take noQ = st := St.tr_id (fun p x _ => takeLeaf_no p x) st
theorem Env.settle_no (E : Env) : E.settle noQ noF = E := by
 cases E with
 | mk w β ω Pub st tm =>
  simp only [Env.settle, Env.take, Env.fz, St.fz_no, St.take_no]
  congr 1
  ·funext bk
   cases ω bk with
   | none => rfl
   | some q => simp [noF, noQ]
  ·funext bk
   simp [noF]
def St.settle (st : St) (Q : Place → Option Place) (F : Place → Bool) : St := (st.fz F).take Q
@[simp] theorem St.settle_no (st : St) : st.settle noQ noF = st := by simp [St.settle]
mutual
def AV.vws : Place → AV → List (Place × Bool × Place)
 | p, .sl (.vw q ex) _ _ => [(q, ex, p)]
 | p, .pt (.vw q _) _ _ _ => [(q, false, p)]
 | p, .agg cs => AV.vwsL p 0 cs
 | p, .tup cs => AV.vwsL p 0 cs
 | _, .fn _ fi ca => AV.vwsN fi ++ AV.vwsN ca
 | _, _ => []
def AV.vwsL : Place → Nat → List AV → List (Place × Bool × Place)
 | _, _, [] => []
 | p, k, x :: xs => AV.vws (p.sub k) x ++ AV.vwsL p (k + 1) xs
def AV.vwsN : List AV → List (Place × Bool × Place)
 | [] => []
 | x :: xs => AV.vws .no x ++ AV.vwsN xs
end
def AV.vwsC (id : Nat) : Nat → List AV → List (Place × Bool × Place)
 | _, [] => []
 | k, x :: xs => AV.vws (.cell id k) x ++ AV.vwsC id (k + 1) xs
abbrev Views := List (Place × Bool × Place)
def mkQ (leak : Place → Bool) (l : Views) (tk : Place → Bool) (q : Place) : Option Place :=
 match q with
 | .box _ => none
 | q => if leak q then some .no else (l.find? fun e => decide (e.1 = q) && e.2.1 && tk q).map fun e => e.2.2
def mkF (l : Views) (tk : Place → Bool) (q : Place) : Bool :=
 match q with
 | .box _ => false
 | q => l.any fun e => decide (e.1 = q) && !(e.2.1 && tk q)
structure Cx where
 P : Program
 N : Nat
 kept : List Nat
 keptB : List Nat
 res : List Nat
 base : Nat
def Cx.T (C : Cx) : Nat → Option TI := ti C.P
def Cx.tk (C : Cx) (rf : Bool) (d : Option Nat) : Place → Bool
 | .slot t _ => (rf || !C.kept.contains t) && decide (some t ≠ d)
 | .cell _ _ => rf
 | _ => false
def isSlotOf (d : Nat) : Place → Bool
 | .slot t _ => t == d
 | _ => false
def isCellOf (id off n : Nat) : Place → Bool
 | .cell i j => i == id && decide (off ≤ j) && decide (j < off + n)
 | _ => false
def isBoxOf (id d : Nat) : Place → Bool
 | .cell i _ => i == id
 | .slot t _ => t == d
 | _ => false
def settleQ (fast : Bool) (leak : Place → Bool) (l : Views) (tk : Place → Bool) : Place → Option Place := match fast with | true => noQ | false => mkQ leak l tk
def settleF (fast : Bool) (l : Views) (tk : Place → Bool) : Place → Bool := match fast with | true => noF | false => mkF l tk
theorem settleQ_box (fast leak l tk id) : settleQ fast leak l tk (.box id) = none := by cases fast <;> rfl
theorem settleF_box (fast l tk id) : settleF fast l tk (.box id) = false := by cases fast <;> rfl
def szOf (T : Nat → Option TI) (t : Nat) : Nat :=
 match T t with
 | some y => match y.kind with
  | .slice e => ((T e).map TI.size).getD 0
  | _ => 0
 | none => 0
def aassign (C : Cx) (st : St) (d : Nat) (X : AV) (K : St → Prop) : Prop :=
 let l := X.vws (.slot d [])
 let fast := l.isEmpty && (st.slots d).free
 let tk := C.tk (C.res.contains d) (some d)
 let Q := settleQ fast (isSlotOf d) l tk
 let F := settleF fast l tk
 d < C.N ∧ X.resOk Q F (.slot d []) = true ∧ K ((st.settle Q F).put d (X.tr (resLeaf F) (.slot d [])))
def astoreBox (C : Cx) (st : St) (t : Nat) (rf : Bool) (id off : Nat) (X : AV) (K : St → Prop) : Prop :=
 match C.T t, st.boxes id with
 | some y, some cs =>
  let l := AV.vwsC id off (flatA X)
  let fast := l.isEmpty && AV.freeL ((cs.drop off).take y.size)
  let tk := C.tk rf none
  let Q := settleQ fast (isCellOf id off y.size) l tk
  let F := settleF fast l tk
  X.hole = false ∧ (flatA X).length = y.size ∧ off + y.size ≤ cs.length ∧ (flatA X).all AV.cellOk = true ∧ AV.resOkC Q F id off (flatA X) = true ∧
   K ((st.settle Q F).setBox id (some (spliceL (((st.settle Q F).boxes id).getD []) off (AV.trC (resLeaf F) id off (flatA X)))))
 | _, _ => False
def anewBox (C : Cx) (st : St) (d : Nat) (X : AV) (K : St → Prop) : Prop :=
 let id := C.base + d
 let l := AV.vwsC id 0 (flatA X)
 let tk := C.tk false (some d)
 let Q := mkQ (isBoxOf id d) l tk
 let F := mkF l tk
 d < C.N ∧ C.base + d < 1000000 ∧ X.hole = false ∧ AV.resOkC Q F id 0 (flatA X) = true ∧ AV.noPtrL id (AV.trC (resLeaf F) id 0 (flatA X)) = true ∧
  K ((((st.settle Q F).killB id).setBox id (some (AV.trC (resLeaf F) id 0 (flatA X)))).put d (.ptr id 0))
def astoreElem (C : Cx) (st : St) (t : Nat) (q : Place) (ix off : Nat) (cells : List AV) (X : AV) (K : St → Prop) : Prop :=
 match C.T t, st.abs q with
 | some y, .sl .own sz xs =>
  let l := AV.vwsL .no 0 (flatA X)
  let F := settleF l.isEmpty l (fun _ => false)
  (match q with | .slot _ [] => True | .cell _ _ => True | _ => False) ∧ F q = false ∧ X.hole = false ∧ (flatA X).length = y.size ∧ off + y.size ≤ cells.length ∧
   AV.dataL ((flatA X).map (AV.dz F)) = true ∧ (flatA X).all AV.cellOk = true ∧
   K (((st.fz F).take (selfTake q)).setAt q (.sl .own sz (xs.set ix (spliceL cells off ((flatA X).map (AV.dz F))))))
 | _, _ => False
section
variable {C : Cx} {S : Start} {E : Env}
theorem free_noOwn : ∀ (π : List Nat) {x : AV} {sz : Nat} {xs : List (List AV)}, x.free = true → x.at π ≠ .sl .own sz xs
 | [], x, sz, xs, h => by intro e; cases x <;> simp [AV.at] at e; obtain ⟨rfl, _⟩ := e; simp [AV.free] at h
 | k :: π, x, sz, xs, h => by
  cases x with
  | agg cs =>
   simp only [AV.at]
   rw [AV.free] at h
   cases hk : cs[k]? with
   | none => rw [List.getD_eq_getElem?_getD, hk, Option.getD_none, AV.at_any]; simp
   | some c => rw [getD_get hk]; exact free_noOwn π (AV.freeL_get h hk)
  | tup cs =>
   simp only [AV.at]
   rw [AV.free] at h
   cases hk : cs[k]? with
   | none => rw [List.getD_eq_getElem?_getD, hk, Option.getD_none, AV.at_any]; simp
   | some c => rw [getD_get hk]; exact free_noOwn π (AV.freeL_get h hk)
  | _ => simp [AV.at]
theorem settle_noOwn {st : St} {d : Nat} {fast : Bool} {l : Views} {tk : Place → Bool} {leak : Place → Bool} (hl : ∀ π, leak (.slot d π) = true) (h : fast = true → (st.slots d).free = true) :
  NoOwn ((st.settle (settleQ fast leak l tk) (settleF fast l tk)).slots d) := by
 cases fast with
 | true =>
  show NoOwn ((st.settle noQ noF).slots d)
  rw [St.settle_no]
  intro π sz xs
  exact free_noOwn π (h rfl)
 | false => exact take_noOwn _ _ d fun π => by simp [settleQ, mkQ, hl π]
theorem aassign_sound (I : Inv C.N S E) {d : Nat} {X : AV} {v : Value} {K : St → Prop} (hv : Val E .no X v) (h : aassign C E.st d X K) :
  ∃ E', E'.w = E.w ∧ Inv C.N S E' ∧ E'.tm = E.tm.setIfInBounds d v ∧ K E'.st := by
 obtain ⟨hd, hr, hk⟩ := h
 generalize hfast : ((X.vws (.slot d [])).isEmpty && (E.st.slots d).free) = fast at hr hk
 have hff : fast = true → (E.st.slots d).free = true := fun e => by rw [e] at hfast; simp only [Bool.and_eq_true] at hfast; exact hfast.2
 generalize hQ : settleQ fast (isSlotOf d) (X.vws (.slot d [])) (C.tk (C.res.contains d) (some d)) = Q at hr hk
 generalize hF : settleF fast (X.vws (.slot d [])) (C.tk (C.res.contains d) (some d)) = F at hr hk
 have hQb : ∀ id, Q (.box id) = none := fun id => by rw [← hQ]; exact settleQ_box ..
 have hFb : ∀ id, F (.box id) = false := fun id => by rw [← hF]; exact settleF_box ..
 have hno : NoOwn ((E.settle Q F).st.slots d) := by
  have := settle_noOwn (st := E.st) (d := d) (fast := fast) (l := X.vws (.slot d [])) (tk := C.tk (C.res.contains d) (some d)) (leak := isSlotOf d) (fun π => by simp [isSlotOf]) hff
  rw [hQ, hF] at this; exact this
 have I1 := I.settle Q F hQb hFb
 have hv1 := hv.settle I.rel _ hr
 obtain ⟨_, hR⟩ := I1.rel.put (fun _ => False) (fun _ _ _ _ h => h) (fun _ h => h) (fun h => h) E.w (E.settle Q F).ω (E.settle Q F).Pub d (X.tr (resLeaf F) (.slot d [])) v hd hno (fun _ _ _ => rfl) (fun _ _ h => h) (fun _ h => h) I1.rel.pub I1.rel.own
 have hfin := hR (by
  refine Val.moved (E := E.settle Q F) (fun bk h => ?_) (fun bk q h _ => ?_) (fun _ => ?_) hv1 (AV.res_solid F X _) (by simp)
  ·exact ⟨h, rfl⟩
  ·exact ⟨h, rfl⟩
  ·rfl)
 exact ⟨⟨E.w, (E.settle Q F).β, (E.settle Q F).ω, (E.settle Q F).Pub, (E.settle Q F).st.put d (X.tr (resLeaf F) (.slot d [])), (E.settle Q F).tm.setIfInBounds d v⟩, rfl,
  ⟨hfin, ⟨I1.fr.os, I1.fr.tape, I1.fr.output, I1.fr.size, I1.fr.block, I1.fr.own, I1.fr.pub0, I1.fr.pub1, I1.fr.beta⟩⟩, rfl, hk⟩
theorem noOwn_cell {st : St} {id off n : Nat} {cs : List AV} (hb : st.boxes id = some cs) (hf : AV.freeL ((cs.drop off).take n) = true) (j : Nat) (h1 : off ≤ j) (h2 : j < off + n) (sz : Nat) (xs : List (List AV)) :
  st.abs (.cell id j) ≠ .sl .own sz xs := by
 intro he
 simp only [St.abs, hb, Option.getD_some] at he
 cases hj : cs[j]? with
 | none => rw [List.getD_eq_getElem?_getD, hj] at he; simp at he
 | some c =>
  rw [getD_get hj] at he; subst he
  have : ((cs.drop off).take n)[j - off]? = some (.sl .own sz xs) := by
   rw [List.getElem?_take, if_pos (by omega), List.getElem?_drop, show off + (j - off) = j by omega]; exact hj
  have := AV.freeL_get hf this
  simp [AV.free] at this
theorem astoreBox_sound (I : Inv C.N S E) {t : Nat} {rf : Bool} {id off : Nat} {X : AV} {v : Value} {K : St → Prop} (hv : Val E .no X v) (h : astoreBox C E.st t rf id off X K) :
  ∃ E', (Instr.storeAt t (.pointer (some ⟨E.β id, off, none⟩)) v).run C.P E.w = .ok () E'.w ∧ Inv C.N S E' ∧ E'.tm = E.tm ∧ K E'.st := by
 unfold astoreBox at h
 split at h
 ·rename_i y cs hy hb
  obtain ⟨oy⟩ := ti_ok hy
  simp only at h
  generalize hfast : ((AV.vwsC id off (flatA X)).isEmpty && AV.freeL ((cs.drop off).take y.size)) = fast at h
  have hff : fast = true → AV.freeL ((cs.drop off).take y.size) = true := fun e => by rw [e] at hfast; simp only [Bool.and_eq_true] at hfast; exact hfast.2
  generalize hQ : settleQ fast (isCellOf id off y.size) (AV.vwsC id off (flatA X)) (C.tk rf none) = Q at h
  generalize hF : settleF fast (AV.vwsC id off (flatA X)) (C.tk rf none) = F at h
  obtain ⟨hh, hn, hle, hcell, hr, hk⟩ := h
  have hQb : ∀ id, Q (.box id) = none := fun id => by rw [← hQ]; exact settleQ_box ..
  have hFb : ∀ id, F (.box id) = false := fun id => by rw [← hF]; exact settleF_box ..
  have hl : ∀ j, off ≤ j → j < off + y.size → ∀ sz xs, (E.settle Q F).st.abs (.cell id j) ≠ .sl .own sz xs := by
   intro j h1 h2 sz xs
   cases hfb : fast with
   | true =>
    rw [hfb] at hQ hF
    have e1 : Q = noQ := hQ.symm
    have e2 : F = noF := hF.symm
    subst e1; subst e2
    rw [Env.settle_no]
    exact noOwn_cell hb (hff hfb) j h1 h2 sz xs
   | false =>
    rw [hfb] at hQ
    refine take_cell (E.fz F).st Q id j ?_ sz xs
    rw [← hQ]
    simp [settleQ, mkQ, isCellOf, h1, h2]
  obtain ⟨w', hrun, hI⟩ := I.storeBox oy Q F id off cs X v hv hb hh hn hle hcell hQb hFb hl hr
  exact ⟨⟨w', (E.settle Q F).β, (E.settle Q F).ω, (E.settle Q F).Pub, _, (E.settle Q F).tm⟩, hrun, hI, rfl, hk⟩
 ·exact h.elim
theorem anewBox_sound (I : Inv C.N S E) (hbase : S.k ≤ C.base) {d : Nat} {X : AV} {v : Value} (T : TypeId) {K : St → Prop} (hv : Val E .no X v) (h : anewBox C E.st d X K) :
  ∃ E', E'.w = E.w.alloc (.cells v.cells T) ∧ Inv C.N S E' ∧ E'.tm = E.tm.setIfInBounds d (.pointer (some ⟨E.w.heap.size, 0, none⟩)) ∧ K E'.st := by
 obtain ⟨hd, hd2, hh, hr, hp, hk⟩ := h
 obtain ⟨ω', β', hI⟩ := I.newBox (mkQ (isBoxOf (C.base + d) d) (AV.vwsC (C.base + d) 0 (flatA X)) (C.tk false (some d))) (mkF (AV.vwsC (C.base + d) 0 (flatA X)) (C.tk false (some d))) d (C.base + d) X v T hd hv hh
  (fun id => rfl) (fun id => rfl) (fun j => by simp [mkQ, isBoxOf]) (fun π => by simp [mkQ, isBoxOf]) hr hp (by omega) (by unfold parkM; omega)
 exact ⟨⟨_, _, _, _, _, _⟩, rfl, hI, rfl, hk⟩
theorem astoreElem_sound (I : Inv C.N S E) {t : Nat} {q : Place} {ix off : Nat} {cells : List AV} {X : AV} {v vp : Value} {K : St → Prop} (hv : Val E .no X v) (hp : Val E .no (.pt (.vw q true) ix cells off) vp)
  (h : astoreElem C E.st t q ix off cells X K) :
  ∃ E', (Instr.storeAt t vp v).run C.P E.w = .ok () E'.w ∧ Inv C.N S E' ∧ E'.tm = E.tm ∧ K E'.st := by
 unfold astoreElem at h
 split at h
 ·rename_i y sz xs hy hab
  obtain ⟨oy⟩ := ti_ok hy
  obtain ⟨hq, hFq, hh, hn, hle, hdata, hcell, hk⟩ := h
  have hq' : (∃ t, q = .slot t []) ∨ ∃ id j, q = .cell id j := by
   split at hq
   ·exact .inl ⟨_, rfl⟩
   ·exact .inr ⟨_, _, rfl⟩
   ·exact hq.elim
  obtain ⟨E', h1, h2, h3, h4⟩ := I.storeElem oy (settleF (AV.vwsL .no 0 (flatA X)).isEmpty (AV.vwsL .no 0 (flatA X)) (fun _ => false)) (fun id => settleF_box ..) q ix off sz cells xs vp X v hv hp hab hq' hFq hh hn hle hdata hcell
  exact ⟨E', h1, h2, h3, by rw [h4]; exact hk⟩
 ·exact h.elim
def chunk (sz : Nat) : Nat → List AV → List (List AV)
 | 0, _ => []
 | n + 1, cs => cs.take sz :: chunk sz n (cs.drop sz)
def abuildSlice (C : Cx) (st : St) (d t len : Nat) (parts : List (Nat × AV)) (K : St → Prop) : Prop :=
 match (C.T t).map TI.kind with
 | some (.slice e) => match C.T e with
  | some y =>
   let l := AV.vwsN (parts.map (·.2))
   let F := settleF l.isEmpty l (fun _ => false)
   match fillL (fun i => some (i * y.size, y.size)) (List.replicate len (y.zero.map (AV.dz noF))).flatten (parts.map fun p => (p.1, p.2.dz F)) with
   | some cs => d < C.N ∧ (st.slots d).free = true ∧ len * y.size ≤ 16777216 ∧ 0 < y.size ∧ (parts.all fun p => (p.2.dz F).data) = true ∧ AV.dataL (y.zero.map (AV.dz noF)) = true ∧ AV.dataL cs = true ∧ cs.all AV.cellOk = true ∧
     K ((st.fz F).put d (.sl .own y.size (chunk y.size len cs)))
   | none => False
  | none => False
 | _ => False
def amakeSlice (C : Cx) (st : St) (d t : Nat) (l c : AV) (K : St → Prop) : Prop :=
 match (C.T t).map TI.kind, l, c with
 | some (.slice e), .i _ l, .i _ c => match C.T e with
  | some y => d < C.N ∧ (st.slots d).free = true ∧ 0 ≤ l ∧ l ≤ c ∧ c * y.bytes ≤ 140737488355328 ∧ 0 < y.bytes ∧ AV.dataL (y.zero.map (AV.dz noF)) = true ∧ (y.zero.map (AV.dz noF)).all AV.cellOk = true ∧
     K (st.put d (.sl .own y.size (List.replicate l.toNat (y.zero.map (AV.dz noF)))))
  | none => False
 | _, _, _ => False
def appendix (x : AV) : Option (Nat × List (List AV)) :=
 match x with
 | .sl _ sz ys => some (sz, ys)
 | .s b => some (1, b.data.toList.map fun c => [.i .u8 c.toNat])
 | _ => none
def appendQ (d : Nat) (q p : Place) : Option Place :=
 match p with
 | .box _ => none
 | p => if p = q then some (.slot d []) else if isSlotOf d p then some .no else none
def aappendTo (st : St) (d : Nat) (y : TI) (ys : List (List AV)) (s : AV) (K : St → Prop) : Prop :=
 match s with
 | .sl .nl _ xs => (st.slots d).free = true ∧ xs = [] ∧ ys.length * y.bytes ≤ 140737488355328 ∧ K (st.put d (.sl .own y.size ys))
 | .sl .cut sz xs => (st.slots d).free = true ∧ sz = y.size ∧ ys ≠ [] ∧ (xs.length + ys.length) * y.bytes ≤ 140737488355328 ∧ K (st.put d (.sl .own y.size (xs ++ ys)))
 | .sl (.vw q true) sz xs => sz = y.size ∧ (xs.length + ys.length) * y.bytes ≤ 140737488355328 ∧ K ((st.take (appendQ d q)).put d (.sl .own y.size (xs ++ ys)))
 | _ => False
def aappend (C : Cx) (st : St) (d t t2 : Nat) (s x : AV) (K : St → Prop) : Prop :=
 match (C.T t).map TI.kind, (C.T t2).map TI.kind, appendix x with
 | some (.slice e), some k2, some (sz2, ys) => match C.T e, k2 with
  | some y, .str | some y, .slice _ => d < C.N ∧ 0 < y.bytes ∧ sz2 = y.size ∧ aappendTo st d y ys s K
  | _, _ => False
 | _, _, _ => False
theorem chunk_flatten (sz : Nat) : ∀ (n : Nat) (cs : List AV), (chunk sz n cs).flatten = cs.take (n * sz)
 | 0, cs => by simp [chunk]
 | n + 1, cs => by
  simp only [chunk, List.flatten_cons, chunk_flatten sz n]
  rw [show (n + 1) * sz = sz + n * sz by rw [Nat.add_mul]; omega, List.take_add]
theorem chunk_length (sz : Nat) : ∀ (n : Nat) (cs : List AV), (chunk sz n cs).length = n
 | 0, cs => rfl
 | n + 1, cs => by simp [chunk, chunk_length sz n]
theorem chunk_each (sz : Nat) : ∀ (n : Nat) (cs : List AV), n * sz ≤ cs.length → ∀ x ∈ chunk sz n cs, x.length = sz
 | 0, cs, _, x, hx => by simp [chunk] at hx
 | n + 1, cs, h, x, hx => by
  rw [Nat.add_mul] at h
  simp only [chunk, List.mem_cons] at hx
  rcases hx with rfl | hx
  ·simp; omega
  ·exact chunk_each sz n (cs.drop sz) (by simp; omega) x hx
theorem fillL_length {place : Nat → Option (Nat × Nat)} : ∀ (ps : List (Nat × AV)) (cs cs' : List AV), fillL place cs ps = some cs' → cs'.length = cs.length
 | [], cs, cs', h => by simp [fillL] at h; rw [h]
 | (i, x) :: ps, cs, cs', h => by
  unfold fillL at h
  split at h
  ·cases h
  ·split at h
   ·cases h
   ·rename_i hc
    have := fillL_length ps _ _ h
    rw [this, splice_length]
    simp only [not_or] at hc; omega
theorem zero_dz {P : Program} {t : TypeId} {y : TI} (o : TyOk P t y) (hd : AV.dataL (y.zero.map (AV.dz noF)) = true) (E : Env) (k : Nat) (c : AV) (hk : (y.zero.map (AV.dz noF))[k]? = some c) : Dat E.Pub E.w c (o.z.cells.getD k undef) := by
 rw [List.getElem?_map] at hk
 obtain ⟨c0, hc0, rfl⟩ := Option.map_eq_some_iff.1 hk
 have := (o.zval E .no k c0 hc0).dz (F := noF) (AV.dataL_iff.1 hd _ (List.mem_of_getElem? (by rw [List.getElem?_map, hc0]; rfl)))
 exact this.mono fun bk hb => ⟨by rcases hb with h | ⟨q, _, h⟩; exact h; simp [noF] at h, rfl⟩
theorem rep_flat_get {α : Type} (z : List α) (n k : Nat) (c : α) (h : (List.replicate n z).flatten[k]? = some c) : k < n * z.length ∧ z[k % z.length]? = some c := by
 induction n generalizing k with
 | zero => simp at h
 | succ n ih =>
  rw [List.replicate_succ, List.flatten_cons] at h
  by_cases hk : k < z.length
  ·rw [List.getElem?_append_left hk] at h
   rw [Nat.mod_eq_of_lt hk]
   exact ⟨by rw [Nat.add_mul]; omega, h⟩
  ·rw [List.getElem?_append_right (by omega)] at h
   obtain ⟨h1, h2⟩ := ih _ h
   refine ⟨by rw [Nat.add_mul]; omega, ?_⟩
   rwa [← Nat.mod_eq_sub_mod (by omega)] at h2
end
end Go.AM
namespace Go.AM
theorem getbang {arr : Array Value} {k : Nat} (h : k < arr.size) : arr[k]! = arr[k] := getElem!_pos arr k h
section
variable {C : Cx} {S : Start} {E : Env}
theorem abuildSlice_sound (I : Inv C.N S E) {d t len : Nat} {ps : List (Nat × AV)} {qs : Array (Nat × Value)} {K : St → Prop} (hl : ps.length = qs.size)
  (hv : ∀ (j : Nat) p q, ps[j]? = some p → qs[j]? = some q → p.1 = q.1 ∧ Val E .no p.2 q.2) (h : abuildSlice C E.st d t len ps K) :
  ∃ v E', (Instr.buildSlice t len qs).run C.P E.w = .ok v E'.w ∧ Inv C.N S E' ∧ E'.tm = E.tm.setIfInBounds d v ∧ K E'.st ∧ ∃ bk, v = .slice (some ⟨bk, 0, none⟩) len len := by
 unfold abuildSlice at h
 split at h
 ·rename_i e hk
  obtain ⟨z, oz, hz⟩ := kind_of_map (P := C.P) hk
  have hd := kind_slice (oz.kind.trans hz)
  split at h
  ·rename_i y hy
   obtain ⟨oy⟩ := ti_ok hy
   simp only at h
   generalize hF : settleF (AV.vwsN (ps.map (·.2))).isEmpty (AV.vwsN (ps.map (·.2))) (fun _ => false) = F at h
   have hFb : ∀ id, F (.box id) = false := fun id => by rw [← hF]; exact settleF_box ..
   split at h
   ·rename_i cs hfill
    obtain ⟨hdN, hfree, hmany, hsz, hpd, hzd, hcd, hcok, hk⟩ := h
    have I1 := I.fz F hFb
    have hzl : (y.zero.map (AV.dz noF)).length = y.size := by rw [List.length_map, oy.zlen]
    have hside0 : Side (E.fz F) (List.replicate len (y.zero.map (AV.dz noF))).flatten ((Array.range (len * y.size)).map (oy.z.cells[· % oy.z.cells.size]!)) := by
     refine ⟨by simp [oy.zlen], fun k c hk => ?_⟩
     obtain ⟨h1, h2⟩ := rep_flat_get _ _ _ _ hk
     rw [hzl] at h1 h2
     have := (zero_dz oy hzd (E.fz F) _ c h2).val (E := E.fz F) .no
     have he : ((Array.range (len * y.size)).map (oy.z.cells[· % oy.z.cells.size]!)).getD k undef = oy.z.cells.getD (k % y.size) undef := by
      have hlt : k % y.size < oy.z.cells.size := by rw [oy.zcs]; exact Nat.mod_lt _ hsz
      rw [Array.getD_eq_getD_getElem?, Array.getElem?_map, Array.getElem?_range, if_pos h1]
      simp [oy.zcs, getbang hlt]
      rw [Array.getElem?_eq_getElem hlt]; rfl
     rw [he]; exact this
    have hfree0 : AV.freeL (List.replicate len (y.zero.map (AV.dz noF))).flatten = true := by
     rw [AV.freeL_iff]
     intro c hc
     obtain ⟨k, hk⟩ := List.getElem?_of_mem hc
     obtain ⟨h1, h2⟩ := rep_flat_get _ _ _ _ hk
     exact (zero_dz oy hzd E _ c h2).free
    obtain ⟨f1, arr', f2, f3⟩ := fill_sound (E := E.fz F) (ps.map fun p => (p.1, p.2.dz F)) qs.toList _ _ cs hside0 hfree0 (by simpa using hl) (fun j p q h1 h2 => by
     rw [List.getElem?_map] at h1
     obtain ⟨p0, hp0, rfl⟩ := Option.map_eq_some_iff.1 h1
     obtain ⟨e1, e2⟩ := hv j p0 q hp0 (by simpa using h2)
     have hdat := e2.dz (F := F) (List.all_eq_true.1 hpd _ (List.mem_of_getElem? hp0))
     exact ⟨e1, hdat.val (E := E.fz F) .no, hdat.free⟩) hfill
    have hcl : cs.length = len * y.size := by rw [fillL_length _ _ _ hfill]; simp [oy.zlen]
    have hno : NoOwn ((E.fz F).st.slots d) := by
     intro π sz xs
     have : (E.st.slots d).free = true := hfree
     show ((E.st.slots d).tr (fzLeaf F) (.slot d [])).at π ≠ _
     rw [AV.at_tr (fun _ => rfl) (fzLeaf_leaf F)]
     intro he
     have h1 := free_noOwn π this (sz := sz) (xs := xs)
     generalize (E.st.slots d).at π = u at he h1
     cases u with
     | sl g a b =>
      rw [AV.tr_leaf rfl] at he
      cases g with
      | own => simp only [fzLeaf] at he; split at he <;> simp_all
      | vw q ex => simp only [fzLeaf] at he; split at he <;> simp at he
      | fro => simp [fzLeaf] at he
      | cut => simp [fzLeaf] at he
      | nl => simp [fzLeaf] at he
     | pt g a b c => rw [AV.tr_leaf rfl] at he; cases g <;> simp [fzLeaf] at he; (split at he <;> simp at he)
     | agg => simp [AV.tr] at he
     | tup => simp [AV.tr] at he
     | fn => simp [AV.tr] at he
     | _ => simp [AV.tr, fzLeaf] at he
    have hchl := chunk_length y.size len cs
    obtain ⟨ω', hI⟩ := I1.putRow E.w rfl ⟨SameOs.refl _, rfl, rfl⟩ d hdN hno y.size len (chunk y.size len cs) arr' e (by rw [← f3.1, hcl]) (by rw [hchl]; exact Nat.le_refl _) (chunk_each y.size len cs (by omega))
     (fun k c hkk => by
      rw [chunk_flatten, List.take_of_length_le (by omega)] at hkk
      have hv' := f3.2 k c hkk
      have hdd := hv'.dat (AV.dataL_iff.1 hcd c (List.mem_of_getElem? hkk))
      have hlt : k < arr'.size := by rw [← f3.1]; exact (List.getElem?_eq_some_iff.1 hkk).1
      refine ⟨arr'[k], Array.getElem?_eq_getElem hlt, ?_⟩
      rw [Array.getD_eq_getD_getElem?, Array.getElem?_eq_getElem hlt] at hdd
      exact ⟨hdd, oneCell_dat hdd (List.all_eq_true.1 hcok c (List.mem_of_getElem? hkk))⟩)
    refine ⟨.slice (some ⟨E.w.heap.size, 0, none⟩) len len, ⟨_, _, _, _, _, _⟩, ?_, hI, by rw [hchl]; rfl, hk, _, rfl⟩
    have hlim : ¬ (len * y.size > 2 ^ 24) := by omega
    have hlim' : ¬ (len * y.size > 16777216) := by omega
    by_cases h0 : len * y.size = 0
    ·have he : ((Array.range (len * y.size)).map ((#[] : Array Value)[· % (#[] : Array Value).size]!)) = ((Array.range (len * y.size)).map (oy.z.cells[· % oy.z.cells.size]!)) := by rw [h0]; simp
     simp only [Instr.buildSlice, Sem.run_bind, oz.underlying, hd, Result.andThen_ok, oy.sizeOf, if_neg hlim]
     rw [if_pos h0]
     simp only [Sem.run_bind, Sem.run_pure, Result.andThen_ok, he, f2]
     rfl
    ·simp only [Instr.buildSlice, Sem.run_bind, oz.underlying, hd, Result.andThen_ok, oy.sizeOf, if_neg hlim]
     rw [if_neg h0]
     simp only [Sem.run_bind, oy.zeroValue, Sem.run_pure, Result.andThen_ok, f2]
     rfl
   ·exact h.elim
  ·exact h.elim
 ·exact h.elim
theorem amakeSlice_sound (I : Inv C.N S E) {d t : Nat} {l c : AV} {vl vc : Value} {K : St → Prop} (hl : Val E .no l vl) (hc : Val E .no c vc) (h : amakeSlice C E.st d t l c K) :
  ∃ v E', (Instr.makeSlice t vl vc).run C.P E.w = .ok v E'.w ∧ Inv C.N S E' ∧ E'.tm = E.tm.setIfInBounds d v ∧ K E'.st := by
 unfold amakeSlice at h
 split at h
 ·rename_i e kl l kc c hk
  obtain ⟨z, oz, hz⟩ := kind_of_map (P := C.P) hk
  have hd := kind_slice (oz.kind.trans hz)
  split at h
  ·rename_i y hy
   obtain ⟨oy⟩ := ti_ok hy
   obtain ⟨hdN, hfree, h0, h1, h2, hby, hzd, hzok, hK⟩ := h
   cases hl; cases hc
   obtain ⟨l, rfl⟩ : ∃ n : Nat, l = n := ⟨l.toNat, by omega⟩
   obtain ⟨c, rfl⟩ : ∃ n : Nat, c = n := ⟨c.toNat, by omega⟩
   have hlc : l ≤ c := by omega
   have hcb : c * y.bytes ≤ 140737488355328 := by
    have h3 : ((c * y.bytes : Nat) : Int) ≤ 140737488355328 := by rw [Int.natCast_mul]; exact h2
    omega
   have hc63 : c ≤ 140737488355328 := Nat.le_trans (Nat.le_mul_of_pos_right c hby) hcb
   have hwl : IntKind.i64.wrap (l : Int) = l := IntWalk.i64_in _ (by omega)
   have hwc : IntKind.i64.wrap (c : Int) = c := IntWalk.i64_in _ (by omega)
   have hzl : (y.zero.map (AV.dz noF)).length = y.size := by rw [List.length_map, oy.zlen]
   have hgetr : ∀ k, k < c * y.size → ((Array.range (c * y.size)).map (oy.z.cells[· % oy.z.cells.size]!))[k]? = some (oy.z.cells.getD (k % y.size) undef) := by
    intro k hk
    have hsz : 0 < y.size := by rcases Nat.eq_zero_or_pos y.size with h | h; (rw [h] at hk; simp at hk); exact h
    have hlt : k % y.size < oy.z.cells.size := by rw [oy.zcs]; exact Nat.mod_lt _ hsz
    rw [Array.getElem?_map, Array.getElem?_range, if_pos hk]
    simp [oy.zcs, getbang hlt]
    rw [Array.getElem?_eq_getElem hlt]; rfl
   obtain ⟨ω', hI⟩ := I.putRow E.w rfl ⟨SameOs.refl _, rfl, rfl⟩ d hdN (fun π sz xs => free_noOwn π hfree) y.size c (List.replicate l (y.zero.map (AV.dz noF))) ((Array.range (c * y.size)).map (oy.z.cells[· % oy.z.cells.size]!)) e
    (by simp) (by simpa using hlc) (fun x hx => by rw [List.eq_of_mem_replicate hx, hzl])
    (fun k a hk => by
     obtain ⟨g1, g2⟩ := rep_flat_get _ _ _ _ hk
     rw [hzl] at g1 g2
     exact ⟨_, hgetr k (Nat.lt_of_lt_of_le g1 (Nat.mul_le_mul_right _ hlc)), zero_dz oy hzd E _ a g2, oneCell_dat (zero_dz oy hzd E _ a g2) (List.all_eq_true.1 hzok a (List.mem_of_getElem? g2))⟩)
   refine ⟨.slice (some ⟨E.w.heap.size, 0, none⟩) l c, ⟨_, _, _, _, _, _⟩, ?_, hI, by simp, by simpa using hK⟩
   have hbi : oy.i.bytes = y.bytes := oy.bytes
   have hfit : ¬ ((y.bytes : Int) * (c : Int) > 2 ^ 48) := by
    have : (y.bytes : Int) * (c : Int) = ((c * y.bytes : Nat) : Int) := by rw [Nat.mul_comm]; simp
    rw [this]; omega
   unfold Instr.makeSlice
   simp only [Sem.run_bind, oz.underlying, hd, Result.andThen_ok, asInt, asIntOf, Sem.run_pure, oy.typeInfo, hwl, hwc, hbi]
   have hcond : ¬ ((decide ((c : Int) < 0) || decide ((y.bytes : Int) * (c : Int) > 2 ^ 48) || decide ((l : Int) < 0) || decide ((l : Int) > (c : Int))) = true) := by
    have e1 : decide ((c : Int) < 0) = false := decide_eq_false (by omega)
    have e2 : decide ((y.bytes : Int) * (c : Int) > 2 ^ 48) = false := decide_eq_false hfit
    have e3 : decide ((l : Int) < 0) = false := decide_eq_false (by omega)
    have e4 : decide ((l : Int) > (c : Int)) = false := decide_eq_false (by omega)
    rw [e1, e2, e3, e4]; decide
   rw [if_neg hcond]
   simp only [Sem.run_bind, run_askRoom, Result.andThen_ok, Int.toNat_natCast, oy.sizeOf]
   by_cases hn0 : c * y.size = 0
   ·have he : ((Array.range (c * y.size)).map ((#[] : Array Value)[· % (#[] : Array Value).size]!)) = ((Array.range (c * y.size)).map (oy.z.cells[· % oy.z.cells.size]!)) := by rw [hn0]; simp
    rw [if_pos hn0]
    simp only [Sem.run_bind, Sem.run_pure, Result.andThen_ok, he]
    rfl
   ·rw [if_neg hn0]
    simp only [Sem.run_bind, oy.zeroValue, Sem.run_pure, Result.andThen_ok]
    rfl
  ·exact h.elim
 ·exact h.elim
theorem appendix_reads {x : AV} {vx : Value} (hx : Val E .no x vx) {sz : Nat} {ys : List (List AV)} (h : appendix x = some (sz, ys)) (hf : x.free = true) :
  (∀ z ∈ ys, z.length = sz) ∧ ∃ vs : List Value, Reads C.P E.w sz vx ys.length vs ∧ ∀ (k : Nat) c, ys.flatten[k]? = some c → ∃ u, vs[k]? = some u ∧ DatC E.Pub E.w c u := by
 unfold appendix at h
 split at h
 ·rename_i g sz' ys'
  obtain ⟨rfl, rfl⟩ := Prod.mk.inj (Option.some.inj h)
  cases hx with
  | sl1 => exact ⟨by simp, [], ⟨rfl, fun w' _ => by simp [Builtin.firstCells, loadCells, loadCellsFrom], by simp, by simp⟩, by simp⟩
  | sl2 => exact ⟨by simp, [], ⟨rfl, fun w' _ => by simp [Builtin.firstCells, loadCells, loadCellsFrom], by simp, by simp⟩, by simp⟩
  | sl0 => exact ⟨by simp, [], ⟨rfl, fun w' _ => rfl, by simp, by simp⟩, by simp⟩
  | sl _ _ _ _ bk off cap hcap hrow hg _ =>
   obtain ⟨vs, h1, h2, h3⟩ := row_values hrow.2
   refine ⟨hrow.1, vs, ⟨rfl, fun w' hw' => ?_, by rw [h1, flatten_length hrow.1], fun u hu => ?_⟩, h3⟩
   ·show (loadCells _ _).run C.P w' = _
    rw [← flatten_length hrow.1, ← h1]
    refine load_cells bk off vs fun j v hj => ?_
    rw [cell_same (w' := w') (w := E.w) (by rw [hw'])]
    exact h2 j v hj
   ·obtain ⟨k, hk⟩ := List.getElem?_of_mem hu
    have hlt : k < ys'.flatten.length := by rw [← h1]; exact (List.getElem?_eq_some_iff.1 hk).1
    obtain ⟨u', hu', hd⟩ := h3 k _ (List.getElem?_eq_getElem hlt)
    rw [hk] at hu'
    obtain rfl := Option.some.inj hu'
    exact hd.2
 ·rename_i b
  obtain ⟨rfl, rfl⟩ := Prod.mk.inj (Option.some.inj h)
  cases hx
  refine ⟨fun z hz => ?_, b.data.toList.map fun c => .int .u8 c.toNat, ⟨?_, fun w' _ => ?_, by simp, fun u hu => ?_⟩, fun k c hk => ?_⟩
  ·obtain ⟨c, _, rfl⟩ := List.mem_map.1 hz; rfl
  ·have hsz : (b.data.toList.map fun c => [AV.i .u8 c.toNat]).length = b.size := by rw [List.length_map, Array.length_toList]; rfl
   rw [hsz]; rfl
  ·have hsz : (b.data.toList.map fun c => [AV.i .u8 c.toNat]).length = b.size := by rw [List.length_map, Array.length_toList]; rfl
   rw [hsz]
   have he : b.extract 0 b.size = b := by simp
   simp only [Builtin.firstCells, he, Sem.run_pure]
   congr 1
   apply Array.ext'
   simp
  ·obtain ⟨c, _, rfl⟩ := List.mem_map.1 hu; rfl
  ·have hfl : (b.data.toList.map fun c => [AV.i .u8 c.toNat]).flatten = b.data.toList.map fun c => AV.i .u8 c.toNat := by
    generalize b.data.toList = l
    induction l with
    | nil => rfl
    | cons c l ih => simp [ih]
   rw [hfl, List.getElem?_map] at hk
   obtain ⟨c0, hc0, rfl⟩ := Option.map_eq_some_iff.1 hk
   exact ⟨.int .u8 c0.toNat, by rw [List.getElem?_map, hc0]; rfl, .i _ _, rfl⟩
 ·cases h
theorem und_text {P : Program} {t2 : TypeId} {k2 : Kind} (h : (ti P t2).map TI.kind = some k2) (hk : k2 = .str ∨ ∃ e, k2 = .slice e) : ∃ d2, P.underlying t2 = some d2 ∧ (d2 = .string ∨ ∃ e', d2 = .slice e') := by
 obtain ⟨z, oz, hz⟩ := kind_of_map h
 rcases hk with rfl | ⟨e, rfl⟩
 ·exact ⟨oz.d, oz.und, .inl (kind_str (oz.kind.trans hz))⟩
 ·exact ⟨oz.d, oz.und, .inr ⟨e, kind_slice (oz.kind.trans hz)⟩⟩
theorem aappend_sound (I : Inv C.N S E) {d t t2 : Nat} (ty : TypeId) {s x : AV} {vs vx : Value} {K : St → Prop} (hs : Val E .no s vs) (hx : Val E .no x vx) (hxf : x.free = true) (h : aappend C E.st d t t2 s x K) :
  ∃ v E', (Builtin.append_ #[t, t2] ty #[vs, vx]).run C.P E.w = .ok v E'.w ∧ Inv C.N S E' ∧ E'.tm = E.tm.setIfInBounds d v ∧ K E'.st := by
 unfold aappend at h
 split at h
 ·rename_i e k2 sz2 ys hk hk2 hap
  obtain ⟨z, oz, hz⟩ := kind_of_map (P := C.P) hk
  have main : ∀ (y : TI), C.T e = some y → (k2 = .str ∨ ∃ e, k2 = .slice e) →
    (d < C.N ∧ 0 < y.bytes ∧ sz2 = y.size ∧ aappendTo E.st d y ys s K) →
    ∃ v E', (Builtin.append_ #[t, t2] ty #[vs, vx]).run C.P E.w = .ok v E'.w ∧ Inv C.N S E' ∧ E'.tm = E.tm.setIfInBounds d v ∧ K E'.st := by
   clear h
   intro y hy hkk h
   obtain ⟨oy⟩ := ti_ok hy
   obtain ⟨hdN, hby, rfl, h⟩ := h
   obtain ⟨d2, hd2u, hd2⟩ := und_text hk2 hkk
   have hs0 : ∃ g sz xs, s = .sl g sz xs := by cases s <;> first | exact ⟨_, _, _, rfl⟩ | exact h.elim
   obtain ⟨g, sz, xs, rfl⟩ := hs0
   cases g with
   | own => exact h.elim
   | fro => exact h.elim
   | cut =>
    obtain ⟨hfree, rfl, hne, hb, hK⟩ := h
    obtain ⟨hyl, uv, hrd, hyv⟩ := appendix_reads (C := C) hx hap hxf
    obtain ⟨v', E', h1, h2, h3, h4⟩ := I.appendCut (t2 := t2) ty oz oy hz hd2u hd2 d hdN (fun π sz xs => free_noOwn π hfree) hs hne vx hby uv hrd hyl hyv hb
    exact ⟨v', E', h1, h2, h4, by rw [h3]; exact hK⟩
   | nl =>
    obtain ⟨hfree, rfl, hb, hK⟩ := h
    obtain ⟨hyl, uv, hrd, hyv⟩ := appendix_reads (C := C) hx hap hxf
    have hvs : vs = .slice none 0 0 := by
     cases hs with
     | sl0 => rfl
     | sl _ _ _ _ _ _ _ _ _ hg _ => exact hg.elim
    subst hvs
    obtain ⟨v', E', h1, h2, h3, h4⟩ := I.append ty oz oy hz hd2u hd2 d hdN (fun π sz xs => free_noOwn π hfree) [] ys (.slice none 0 0) vx hby (.inl ⟨rfl, rfl⟩) uv hrd hyl hyv (by simpa using hb)
    exact ⟨v', E', h1, h2, h4, by rw [h3]; simpa using hK⟩
   | vw q ex =>
    cases ex with
    | false => exact h.elim
    | true =>
    obtain ⟨rfl, hb, hK⟩ := h
    generalize hQ : appendQ d q = Q at hK
    have hQb : ∀ id, Q (.box id) = none := fun id => by rw [← hQ]; rfl
    have hat : ∃ sz' xs', E.st.abs q = .sl .own sz' xs' := by
     cases hs with
     | sl0 _ _ _ _ ha => exact ha
     | sl _ _ _ _ _ _ _ _ _ _ ha => exact ha
    have hqb : ∀ id, q ≠ .box id := by
     intro id e; subst e
     obtain ⟨_, _, h⟩ := hat
     simp [St.abs] at h
    have hQq : Q q = some (.slot d []) := by
     rw [← hQ]
     cases q <;> first | (exact absurd rfl (hqb _)) | simp [appendQ]
    have I1 := I.take Q hQb
    have hno : NoOwn ((E.take Q).st.slots d) := take_noOwn E.st Q d fun π => by
     rw [← hQ]; simp only [appendQ]; split
     ·rfl
     ·simp [isSlotOf]
    obtain ⟨hyl, uv, hrd, hyv⟩ := appendix_reads (C := C) hx hap hxf
    have hsrc : (vs = .slice none 0 0 ∧ xs = []) ∨ ∃ bk cap, vs = .slice (some ⟨bk, 0, none⟩) xs.length cap ∧ xs.length ≤ cap ∧ (E.take Q).ω bk = some (.slot d []) ∧ Row (E.take Q).Pub (E.take Q).w bk 0 y.size xs ∧ Room (E.take Q).w bk 0 (cap * y.size) := by
     cases hs with
     | sl0 => exact .inl ⟨rfl, rfl⟩
     | sl _ _ _ _ bk off cap hcap hrow hg _ =>
      obtain ⟨g1, g2⟩ := hg
      obtain ⟨g3, g4⟩ := g2 rfl
      have hroom := exact_room I.rel g3 g4
      obtain ⟨_, _, _, ho, _⟩ := id hroom
      subst ho
      exact .inr ⟨bk, cap, rfl, hcap, by simp [Env.take, g1, hQq], hrow, hroom⟩
    obtain ⟨v', E', h1, h2, h3, h4⟩ := I1.append ty oz oy hz hd2u hd2 d hdN hno xs ys vs vx hby hsrc uv hrd hyl hyv hb
    exact ⟨v', E', h1, h2, h4, by rw [h3]; exact hK⟩
  split at h
  ·rename_i _ y hy
   exact main y hy (.inl rfl) h
  ·rename_i _ y e2 hy
   exact main y hy (.inr ⟨_, rfl⟩) h
  ·exact h.elim
 ·exact h.elim
end
end Go.AM
namespace Go.AM
abbrev Boxes := List (Nat × List AV)
def St.ofBoxes (bx : Boxes) : St := ⟨fun _ => .any, fun id => bx.lookup id⟩
def inBx (bx : Boxes) : Place → Prop
 | .cell id _ => (bx.lookup id).isSome = true
 | .box id => (bx.lookup id).isSome = true
 | _ => False
def Proc (P : Program) (k : Nat) (f : Nat) (args : List AV) (bx : Boxes) (r : AV) (bx' : Boxes) : Prop :=
 (∃ fn c, P.funcs[f]? = some fn ∧ fn.body = some c ∧ (fn.name == "runtime.NumGoroutine") = false) ∧
 ∀ (w : World) (β : Nat → Nat) (ω : Nat → Option Place) (Pub : Nat → Prop) (vs : Array Value), Rel 0 ⟨w, β, ω, Pub, St.ofBoxes bx, #[]⟩ → (∀ bk q, ω bk = some q → inBx bx q) →
  args.length = vs.size → (∀ (k : Nat) c, args[k]? = some c → Val ⟨w, β, ω, Pub, St.ofBoxes bx, #[]⟩ .no c (vs.getD k undef)) →
  Calls P f vs w fun e w' => ∃ v E', e = .returned v ∧ E'.w = w' ∧ Inv 0 ⟨w, fun bk => ω bk ≠ none, Pub, β, k⟩ E' ∧ E'.st = St.ofBoxes bx' ∧ (∀ bk q, E'.ω bk = some q → inBx bx' q ∨ ∃ π, q = .slot 0 π) ∧
   Val E' (.slot 0 []) r v
def ProcE {ι : Type} (P : Program) (k : Nat) (f : Nat) (args : List AV) (bx : Boxes) (r : ι → AV) (bx' : ι → Boxes) : Prop :=
 (∃ fn c, P.funcs[f]? = some fn ∧ fn.body = some c ∧ (fn.name == "runtime.NumGoroutine") = false) ∧
 ∀ (w : World) (β : Nat → Nat) (ω : Nat → Option Place) (Pub : Nat → Prop) (vs : Array Value), Rel 0 ⟨w, β, ω, Pub, St.ofBoxes bx, #[]⟩ → (∀ bk q, ω bk = some q → inBx bx q) →
  args.length = vs.size → (∀ (k : Nat) c, args[k]? = some c → Val ⟨w, β, ω, Pub, St.ofBoxes bx, #[]⟩ .no c (vs.getD k undef)) →
  Calls P f vs w fun e w' => ∃ i v E', e = .returned v ∧ E'.w = w' ∧ Inv 0 ⟨w, fun bk => ω bk ≠ none, Pub, β, k⟩ E' ∧ E'.st = St.ofBoxes (bx' i) ∧ (∀ bk q, E'.ω bk = some q → inBx (bx' i) q ∨ ∃ π, q = .slot 0 π) ∧
   Val E' (.slot 0 []) (r i) v
theorem Proc.toE {P : Program} {k f : Nat} {args : List AV} {bx bx' : Boxes} {r : AV} (h : Proc P k f args bx r bx') : ProcE (ι := Unit) P k f args bx (fun _ => r) (fun _ => bx') :=
 ⟨h.1, fun w β ω Pub vs R h1 h2 h3 => (h.2 w β ω Pub vs R h1 h2 h3).mono fun _ _ ⟨v, E', g⟩ => ⟨(), v, E', g⟩⟩
def Pure (P : Program) (f : Nat) (args : List AV) (r : AV) : Prop := Proc P 0 f args [] r []
def argLeaf (_ : Place) : AV → AV
 | .sl (.vw _ _) sz xs => .sl .fro sz xs
 | .sl .nl sz xs => .sl .fro sz xs
 | .sl .cut sz xs => .sl .fro sz xs
 | .pt (.vw _ _) ix cs off => .pt .fro ix cs off
 | x => x
def AV.argz (x : AV) : AV := x.tr argLeaf .no
mutual
def AV.scalar : AV → Bool
 | .b _ | .i _ _ | .s _ | .nil | .nofn | .ab _ _ _ _ | .mp _ | .it _ => true
 | .agg cs => AV.scalarL cs
 | .tup cs => AV.scalarL cs
 | _ => false
def AV.scalarL : List AV → Bool
 | [] => true
 | x :: xs => x.scalar && AV.scalarL xs
end
theorem AV.scalarL_get : ∀ {cs : List AV}, AV.scalarL cs = true → ∀ {k : Nat} {c : AV}, cs[k]? = some c → c.scalar = true
 | [], _, k, c, h => by simp at h
 | x :: xs, h, 0, c, hk => by
  simp at hk; subst hk
  simp only [AV.scalarL, Bool.and_eq_true] at h; exact h.1
 | x :: xs, h, k + 1, c, hk => by
  simp only [AV.scalarL, Bool.and_eq_true] at h
  exact AV.scalarL_get h.2 (by simpa using hk)
theorem Val.scalar {E : Env} {p : Place} {x : AV} {v : Value} (hv : Val E p x v) : x.scalar = true → ∀ E' p', Val E' p' x v := by
 induction hv with
 | b p x => exact fun _ E' p' => .b p' x
 | i p k n => exact fun _ E' p' => .i p' k n
 | s p x => exact fun _ E' p' => .s p' x
 | nil p => exact fun _ E' p' => .nil p'
 | nofn p => exact fun _ E' p' => .nofn p'
 | ab p b0 o0 n0 c0 => exact fun _ E' p' => .ab p' b0 o0 n0 c0
 | mp p b0 => exact fun _ E' p' => .mp p' b0
 | it p b0 => exact fun _ E' p' => .it p' b0
 | agg p cs arr h1 _ ih =>
  intro hs E' p'
  rw [AV.scalar] at hs
  exact .agg p' cs arr h1 fun k c hk => ih k c hk (AV.scalarL_get hs hk) E' _
 | tup p cs arr h1 _ ih =>
  intro hs E' p'
  rw [AV.scalar] at hs
  exact .tup p' cs arr h1 fun k c hk => ih k c hk (AV.scalarL_get hs hk) E' _
 | any => intro h; simp [AV.scalar] at h
 | ptr => intro h; simp [AV.scalar] at h
 | bs => intro h; simp [AV.scalar] at h
 | pt => intro h; simp [AV.scalar] at h
 | fn => intro h; simp [AV.scalar] at h
 | sl1 => intro h; simp [AV.scalar] at h
 | sl2 => intro h; simp [AV.scalar] at h
 | sl0 => intro h; simp [AV.scalar] at h
 | sl => intro h; simp [AV.scalar] at h
theorem Val.argz {E : Env} {Pub' : Nat → Prop} {F : Place → Bool} {ω' : Nat → Option Place} {st' : St} {tm' : Array Value} (hP : ∀ bk, E.Pub bk → Pub' bk) (hF : ∀ bk q, E.ω bk = some q → F q = true → Pub' bk) {p : Place} {x : AV} {v : Value}
  (hv : Val E p x v) : x.free = true → ∀ p0, x.resOk noQ F p0 = true → ∀ p', Val ⟨E.w, E.β, ω', Pub', st', tm'⟩ p' (x.tr argLeaf p') v := by
 have hpub : ∀ bk, E.Pub bk → Pub' bk ∧ E.w.heap[bk]? = E.w.heap[bk]? := fun bk h => ⟨hP bk h, rfl⟩
 induction hv with
 | any p v => exact fun _ _ _ p' => .any p' v
 | b p x => exact fun _ _ _ p' => .b p' x
 | i p k n => exact fun _ _ _ p' => .i p' k n
 | s p x => exact fun _ _ _ p' => .s p' x
 | nil p => exact fun _ _ _ p' => .nil p'
 | nofn p => exact fun _ _ _ p' => .nofn p'
 | ab p b0 o0 n0 c0 => exact fun _ _ _ p' => .ab p' b0 o0 n0 c0
 | mp p b0 => exact fun _ _ _ p' => .mp p' b0
 | it p b0 => exact fun _ _ _ p' => .it p' b0
 | ptr p id off => exact fun _ _ _ p' => .ptr (E := ⟨E.w, E.β, ω', Pub', st', tm'⟩) p' id off
 | bs p id off n cap => exact fun _ _ _ p' => .bs (E := ⟨E.w, E.β, ω', Pub', st', tm'⟩) p' id off n cap
 | pt p g ix cells off bk o hc hg ha =>
  intro _ p0 hr p'
  rw [AV.tr_leaf rfl]
  cases g with
  | own => exact hg.elim
  | nl => exact hg.elim
  | fro => exact .pt p' .fro ix cells off bk o (hc.mono hpub rfl) (hP _ hg) trivial
  | cut => exact hg.elim
  | vw q ex =>
   simp only [AV.resOk, resLeafOk] at hr
   exact .pt p' .fro ix cells off bk o (hc.mono hpub rfl) (hF _ _ hg.1 hr) trivial
 | sl1 p sz a cap => exact fun _ _ _ p' => .sl1 p' sz a cap
 | sl2 p sz a => exact fun _ _ _ p' => by rw [AV.tr_leaf rfl]; exact .sl1 p' sz a 0
 | sl0 p g sz h0 ha =>
  intro hf p0 hr p'
  rw [AV.tr_leaf rfl]
  cases g with
  | own => simp [AV.free] at hf
  | _ => exact .sl0 p' _ sz (by simp) trivial
 | sl p g sz xs bk off cap hc hr1 hg ha =>
  intro hf p0 hr p'
  rw [AV.tr_leaf rfl]
  cases g with
  | own => simp [AV.free] at hf
  | nl => exact hg.elim
  | fro => exact .sl p' .fro sz xs bk off cap hc (hr1.mono hpub rfl) (hP _ hg) trivial
  | cut => exact .sl p' .fro sz xs bk off cap hc (hr1.mono hpub rfl) (hP _ hg.1) trivial
  | vw q ex =>
   simp only [AV.resOk, resLeafOk, noQ] at hr
   have : F q = true := by simpa using hr
   exact .sl p' .fro sz xs bk off cap hc (hr1.mono hpub rfl) (hF _ _ hg.1 this) trivial
 | fn p f fi ca fi' ca' h1 h2 _ _ ih1 ih2 =>
  intro hf p0 hr p'
  rw [AV.tr]
  simp only [AV.free, Bool.and_eq_true] at hf
  simp only [AV.resOk, Bool.and_eq_true] at hr
  refine .fn p' f _ _ fi' ca' (by rw [AV.trN_length]; exact h1) (by rw [AV.trN_length]; exact h2) (fun k c hk => ?_) (fun k c hk => ?_)
  ·rw [AV.trN_get] at hk
   obtain ⟨c', hc, rfl⟩ := Option.map_eq_some_iff.1 hk
   exact ih1 k c' hc (AV.freeL_get hf.1 hc) .no (AV.resOkN_get hr.1 k c' hc) .no
  ·rw [AV.trN_get] at hk
   obtain ⟨c', hc, rfl⟩ := Option.map_eq_some_iff.1 hk
   exact ih2 k c' hc (AV.freeL_get hf.2 hc) .no (AV.resOkN_get hr.2 k c' hc) .no
 | agg p cs arr h1 _ ih =>
  intro hf p0 hr p'
  rw [AV.tr]
  rw [AV.free] at hf
  rw [AV.resOk] at hr
  refine .agg p' _ arr (by rw [AV.trL_length]; exact h1) (fun k c hk => ?_)
  rw [AV.trL_get] at hk
  obtain ⟨c', hc, rfl⟩ := Option.map_eq_some_iff.1 hk
  rw [Nat.zero_add]
  exact ih k c' hc (AV.freeL_get hf hc) _ (AV.resOkL_get hr k c' hc) _
 | tup p cs arr h1 _ ih =>
  intro hf p0 hr p'
  rw [AV.tr]
  rw [AV.free] at hf
  rw [AV.resOk] at hr
  refine .tup p' _ arr (by rw [AV.trL_length]; exact h1) (fun k c hk => ?_)
  rw [AV.trL_get] at hk
  obtain ⟨c', hc, rfl⟩ := Option.map_eq_some_iff.1 hk
  rw [Nat.zero_add]
  exact ih k c' hc (AV.freeL_get hf hc) _ (AV.resOkL_get hr k c' hc) _
mutual
def AV.ptrs (ok : Nat → Bool) : AV → Bool
 | .ptr id _ => ok id
 | .bs id _ _ _ => ok id
 | .agg cs => AV.ptrsL ok cs
 | .tup cs => AV.ptrsL ok cs
 | .fn _ fi ca => AV.ptrsL ok fi && AV.ptrsL ok ca
 | _ => true
def AV.ptrsL (ok : Nat → Bool) : List AV → Bool
 | [] => true
 | x :: xs => x.ptrs ok && AV.ptrsL ok xs
end
theorem AV.ptrsL_get {ok : Nat → Bool} : ∀ {cs : List AV}, AV.ptrsL ok cs = true → ∀ {k : Nat} {c : AV}, cs[k]? = some c → c.ptrs ok = true
 | [], _, k, c, h => by simp at h
 | x :: xs, h, 0, c, hk => by
  simp at hk; subst hk
  simp only [AV.ptrsL, Bool.and_eq_true] at h; exact h.1
 | x :: xs, h, k + 1, c, hk => by
  simp only [AV.ptrsL, Bool.and_eq_true] at h
  exact AV.ptrsL_get h.2 (by simpa using hk)
theorem Val.result {E E' : Env} (hst : ∀ q sz xs, E.st.abs q ≠ .sl .own sz xs) (d : Nat) (hw : E'.w = E.w) (ok : Nat → Bool) (hβ : ∀ id, ok id = true → E'.β id = E.β id) (hP : ∀ bk, E.Pub bk → E'.Pub bk) (hω : ∀ bk π, E.ω bk = some (.slot 0 π) → E'.ω bk = some (.slot d π))
  (hno : ∀ bk, E.ω bk ≠ some .no) {p : Place} {x : AV} {v : Value} (hv : Val E p x v) : x.ptrs ok = true → (∀ π0, p = .slot 0 π0 → Val E' (.slot d π0) x v) ∧ (p = .no → Val E' .no x v) := by
 have hat : ∀ q ex, ¬ GhAt E (.vw q ex) := fun q ex h => by obtain ⟨sz, xs, h⟩ := h; exact hst q sz xs h
 have hpub : ∀ bk, E.Pub bk → E'.Pub bk ∧ E'.w.heap[bk]? = E.w.heap[bk]? := fun bk h => ⟨hP bk h, by rw [hw]⟩
 induction hv with
 | any p v => exact fun _ => ⟨fun _ _ => .any _ v, fun _ => .any _ v⟩
 | b p x => exact fun _ => ⟨fun _ _ => .b _ x, fun _ => .b _ x⟩
 | i p k n => exact fun _ => ⟨fun _ _ => .i _ k n, fun _ => .i _ k n⟩
 | s p x => exact fun _ => ⟨fun _ _ => .s _ x, fun _ => .s _ x⟩
 | nil p => exact fun _ => ⟨fun _ _ => .nil _, fun _ => .nil _⟩
 | nofn p => exact fun _ => ⟨fun _ _ => .nofn _, fun _ => .nofn _⟩
 | ab p b0 o0 n0 c0 => exact fun _ => ⟨fun _ _ => .ab _ b0 o0 n0 c0, fun _ => .ab _ b0 o0 n0 c0⟩
 | mp p b0 => exact fun _ => ⟨fun _ _ => .mp _ b0, fun _ => .mp _ b0⟩
 | it p b0 => exact fun _ => ⟨fun _ _ => .it _ b0, fun _ => .it _ b0⟩
 | ptr p id off =>
  intro hk
  rw [AV.ptrs] at hk
  exact ⟨fun _ _ => by rw [← hβ id hk]; exact .ptr _ id off, fun _ => by rw [← hβ id hk]; exact .ptr _ id off⟩
 | bs p id off n cap =>
  intro hk
  rw [AV.ptrs] at hk
  exact ⟨fun _ _ => by rw [← hβ id hk]; exact .bs _ id off n cap, fun _ => by rw [← hβ id hk]; exact .bs _ id off n cap⟩
 | pt p g ix cells off bk o hc hg ha =>
  intro _
  cases g with
  | own => exact hg.elim
  | nl => exact hg.elim
  | vw q ex => exact (hat q ex ha).elim
  | fro => exact ⟨fun _ _ => .pt _ .fro ix cells off bk o (hc.mono hpub (by rw [hw])) (hP _ hg) trivial, fun _ => .pt _ .fro ix cells off bk o (hc.mono hpub (by rw [hw])) (hP _ hg) trivial⟩
  | cut => exact hg.elim
 | sl1 p sz a cap => exact fun _ => ⟨fun _ _ => .sl1 _ sz a cap, fun _ => .sl1 _ sz a cap⟩
 | sl2 p sz a => exact fun _ => ⟨fun _ _ => .sl2 _ sz a, fun _ => .sl2 _ sz a⟩
 | sl0 p g sz h0 ha =>
  intro _
  cases g with
  | vw q ex => exact (hat q ex ha).elim
  | _ => exact ⟨fun _ _ => .sl0 _ _ sz (by simp) trivial, fun _ => .sl0 _ _ sz (by simp) trivial⟩
 | sl p g sz xs bk off cap hc hr hg ha =>
  intro _
  have hr' := hr.mono (w' := E'.w) hpub (by rw [hw])
  cases g with
  | vw q ex => exact (hat q ex ha).elim
  | nl => exact hg.elim
  | fro => exact ⟨fun _ _ => .sl _ .fro sz xs bk off cap hc hr' (hP _ hg) trivial, fun _ => .sl _ .fro sz xs bk off cap hc hr' (hP _ hg) trivial⟩
  | cut => exact ⟨fun _ _ => .sl _ .cut sz xs bk off cap hc hr' ⟨hP _ hg.1, hg.2⟩ trivial, fun _ => .sl _ .cut sz xs bk off cap hc hr' ⟨hP _ hg.1, hg.2⟩ trivial⟩
  | own =>
   refine ⟨fun π0 he => ?_, fun he => ?_⟩
   ·subst he
    exact .sl _ .own sz xs bk off cap hc hr' ⟨hω bk π0 hg.1, hg.2.mono (by rw [hw])⟩ trivial
   ·subst he
    exact (hno bk hg.1).elim
 | fn p f fi ca fi' ca' h1 h2 h3 h4 ih1 ih2 =>
  intro hp
  simp only [AV.ptrs, Bool.and_eq_true] at hp
  exact ⟨fun _ _ => .fn _ f fi ca fi' ca' h1 h2 (fun k c hk => (ih1 k c hk (AV.ptrsL_get hp.1 hk)).2 rfl) (fun k c hk => (ih2 k c hk (AV.ptrsL_get hp.2 hk)).2 rfl), fun _ => .fn _ f fi ca fi' ca' h1 h2 (fun k c hk => (ih1 k c hk (AV.ptrsL_get hp.1 hk)).2 rfl) (fun k c hk => (ih2 k c hk (AV.ptrsL_get hp.2 hk)).2 rfl)⟩
 | agg p cs arr h1 _ ih =>
  intro hp
  rw [AV.ptrs] at hp
  refine ⟨fun π0 he => ?_, fun he => ?_⟩
  ·subst he
   exact .agg _ cs arr h1 fun k c hk => (ih k c hk (AV.ptrsL_get hp hk)).1 _ rfl
  ·subst he
   exact .agg _ cs arr h1 fun k c hk => (ih k c hk (AV.ptrsL_get hp hk)).2 rfl
 | tup p cs arr h1 _ ih =>
  intro hp
  rw [AV.ptrs] at hp
  refine ⟨fun π0 he => ?_, fun he => ?_⟩
  ·subst he
   exact .tup _ cs arr h1 fun k c hk => (ih k c hk (AV.ptrsL_get hp hk)).1 _ rfl
  ·subst he
   exact .tup _ cs arr h1 fun k c hk => (ih k c hk (AV.ptrsL_get hp hk)).2 rfl
theorem rel_empty (w : World) (β : Nat → Nat) (Pub : Nat → Prop) (hP : ∀ bk, Pub bk → bk < w.heap.size) (hG : Gl Pub w) : Rel 0 ⟨w, β, fun _ => none, Pub, St.ofBoxes [], #[]⟩ where
 size := rfl
 slots t := .any _ _
 boxes id cs h := by simp [St.ofBoxes] at h
 pub bk h := ⟨hP bk h, rfl⟩
 own bk q h := by simp at h
 abs id h := by simp [St.ofBoxes] at h
 gl := hG
theorem Gl.all {Pub : Nat → Prop} {w : World} (h : ∀ bk, Pub bk → bk < w.heap.size) (g : Gl Pub w) : Gl (fun bk => bk < w.heap.size) w := g.mono fun bk hp => ⟨h bk hp, rfl⟩
theorem abs_empty (q : Place) (sz : Nat) (xs : List (List AV)) : (St.ofBoxes []).abs q ≠ .sl .own sz xs := by
 cases q with
 | slot t π => simp [St.abs, St.ofBoxes, AV.at_any]
 | cell id off => simp [St.abs, St.ofBoxes]
 | _ => simp [St.abs]
def acall (C : Cx) (st : St) (d : Nat) (f : Nat) (args : List AV) (K : St → Prop) : Prop :=
 ∃ r, Pure C.P f (args.map AV.argz) r ∧ d < C.N ∧ (st.slots d).free = true ∧
  (match r.scalar with
   | true => K (st.put d r)
   | false =>
    let l := AV.vwsN args
    let F := settleF l.isEmpty l (fun _ => false)
    AV.resOkN noQ F args = true ∧ ((st.fz F).slots d).free = true ∧ r.ptrs (fun _ => false) = true ∧ K ((st.fz F).put d r))
section
variable {C : Cx} {S : Start} {E : Env}
theorem resOk_all {x : AV} : ∀ p, x.free = true → x.resOk noQ (fun _ => true) p = true := by
 refine AV.rec (motive_1 := fun x => ∀ p, x.free = true → x.resOk noQ (fun _ => true) p = true) (motive_2 := fun l => AV.freeL l = true → (∀ p k, AV.resOkL noQ (fun _ => true) p k l = true) ∧ AV.resOkN noQ (fun _ => true) l = true) (motive_3 := fun _ => True)
  ?_ ?_ ?_ ?_ ?_ ?_ ?_ ?_ ?_ ?_ ?_ ?_ ?_ ?_ ?_ ?_ ?_ ?_ ?_ ?_ x
 ·intro p _; rfl
 ·intro x p _; rfl
 ·intro k n p _; rfl
 ·intro x p _; rfl
 ·intro p _; rfl
 ·intro p _; rfl
 ·intro id off n cap p _; rfl
 ·intro b0 p _; rfl
 ·intro b0 p _; rfl
 ·intro id off p _; rfl
 ·intro id off n cap p _; rfl
 ·intro g ix cells off _ p _; cases g <;> rfl
 ·intro f fi ca h1 h2 p h
  simp only [AV.free, Bool.and_eq_true] at h
  simp [AV.resOk, (h1 h.1).2, (h2 h.2).2]
 ·intro g sz xs _ p h
  cases g <;> simp_all [AV.resOk, resLeafOk, AV.free]
 ·intro cs h p hf; rw [AV.free] at hf; simp [AV.resOk, (h hf).1]
 ·intro cs h p hf; rw [AV.free] at hf; simp [AV.resOk, (h hf).1]
 ·exact fun _ => ⟨fun _ _ => rfl, rfl⟩
 ·intro x xs h1 h2 hf
  simp only [AV.freeL, Bool.and_eq_true] at hf
  exact ⟨fun p k => by simp [AV.resOkL, h1 _ hf.1, (h2 hf.2).1], by simp [AV.resOkN, h1 _ hf.1, (h2 hf.2).2]⟩
 ·trivial
 ·intros; trivial
theorem acall_sound (I : Inv C.N S E) {d f : Nat} {args : List AV} {vs : Array Value} {K : St → Prop} (hl : args.length = vs.size) (hf : AV.freeL args = true)
  (hv : ∀ (k : Nat) c, args[k]? = some c → Val E .no c (vs.getD k undef)) (h : acall C E.st d f args K) :
  (∃ fn c, C.P.funcs[f]? = some fn ∧ fn.body = some c ∧ (fn.name == "runtime.NumGoroutine") = false) ∧
  Calls C.P f vs E.w fun e w' => ∃ v E', e = .returned v ∧ E'.w = w' ∧ Inv C.N S E' ∧ E'.tm = E.tm.setIfInBounds d v ∧ K E'.st := by
 obtain ⟨r, ⟨hfn, hP⟩, hd, hfree, hK⟩ := h
 refine ⟨hfn, ?_⟩
 have hargs : ∀ (E1 : Env) (F : Place → Bool) (Pub' : Nat → Prop), (E1 = E) → (∀ bk, E.Pub bk → Pub' bk) → (∀ bk q, E.ω bk = some q → F q = true → Pub' bk) → AV.resOkN noQ F args = true →
   ∀ (k : Nat) c, (args.map AV.argz)[k]? = some c → Val ⟨E.w, E.β, fun _ => none, Pub', St.ofBoxes [], #[]⟩ .no c (vs.getD k undef) := by
  intro E1 F Pub' _ h1 h2 h3 k c hk
  rw [List.getElem?_map] at hk
  obtain ⟨c0, hc0, rfl⟩ := Option.map_eq_some_iff.1 hk
  exact (hv k c0 hc0).argz h1 h2 (AV.freeL_get hf hc0) .no (AV.resOkN_get h3 k c0 hc0) .no
 cases hs : r.scalar with
 | true =>
  rw [hs] at hK
  have hall : AV.resOkN noQ (fun _ => true) args = true := by
   have := resOk_all (x := .fn 0 args []) .no (by simp [AV.free, hf, AV.freeL])
   simpa [AV.resOk, AV.resOkN] using this
  refine (hP E.w E.β (fun _ => none) (fun bk => bk < E.w.heap.size) vs (rel_empty _ _ _ (fun _ h => h) (I.rel.gl.all fun bk h => (I.rel.pub bk h).1)) (by simp) (by simpa using hl) (hargs E (fun _ => true) _ rfl (fun bk h => (I.rel.pub bk h).1) (fun bk q h _ => I.rel.own bk q h) hall)).mono ?_
  rintro e w' ⟨v, E1, rfl, rfl, hI, hst, hω, hr⟩
  have hp1 := hI.fr.pub0
  have hp2 := hI.fr.pub1
  have hold : ∀ bk, bk < E.w.heap.size → E1.w.heap[bk]? = E.w.heap[bk]? := fun bk h => hI.fr.block bk h (by simp)
  obtain ⟨_, hR⟩ := I.rel.put (fun _ => False) (fun _ _ _ _ h => h) (fun _ h => h) (fun h => h) E1.w E.ω E.Pub d r v hd (fun π sz xs => free_noOwn π hfree) (fun bk h _ => hold bk h) (fun _ _ h => h) (fun _ h => h)
   (fun bk h => ⟨Nat.lt_of_lt_of_le (I.rel.pub bk h).1 hI.fr.size, (I.rel.pub bk h).2⟩) (fun bk q h => Nat.lt_of_lt_of_le (I.rel.own bk q h) hI.fr.size)
  exact ⟨v, ⟨E1.w, E.β, E.ω, E.Pub, E.st.put d r, E.tm.setIfInBounds d v⟩, rfl, rfl,
   ⟨hR (hr.scalar hs _ _), ⟨hI.fr.os.trans I.fr.os, hI.fr.tape.trans I.fr.tape, hI.fr.output.trans I.fr.output, Nat.le_trans I.fr.size hI.fr.size, fun k hk hn => (hold k (Nat.lt_of_lt_of_le hk I.fr.size)).trans (I.fr.block k hk hn), I.fr.own, I.fr.pub0, I.fr.pub1, I.fr.beta⟩⟩, rfl, hK⟩
 | false =>
  rw [hs] at hK
  simp only at hK
  generalize hF : settleF (AV.vwsN args).isEmpty (AV.vwsN args) (fun _ => false) = F at hK
  obtain ⟨hres, hfree2, hptr, hK⟩ := hK
  have hFb : ∀ id, F (.box id) = false := fun id => by rw [← hF]; exact settleF_box ..
  have I1 := I.fz F hFb
  refine (hP E.w E.β (fun _ => none) (E.fz F).Pub vs (rel_empty _ _ _ (fun bk h => (I1.rel.pub bk h).1) I1.rel.gl) (by simp) (by simpa using hl) (hargs E F _ rfl (fun bk h => .inl h) (fun bk q h hq => .inr ⟨q, h, hq⟩) hres)).mono ?_
  rintro e w' ⟨v, E1, rfl, rfl, hI, hst, hω, hr⟩
  have hp1 := hI.fr.pub0
  have hp2 := hI.fr.pub1
  have hold : ∀ bk, bk < E.w.heap.size → E1.w.heap[bk]? = E.w.heap[bk]? := fun bk h => hI.fr.block bk h (by simp)
  have hnew : ∀ bk q, E1.ω bk = some q → E.w.heap.size ≤ bk := fun bk q h => (hI.fr.own bk q h).resolve_right (by simp)
  let ω' : Nat → Option Place := fun bk => match (E.fz F).ω bk with
   | some q => some q
   | none => match E1.ω bk with
    | some (.slot 0 π) => some (.slot d π)
    | _ => none
  have hω1 : ∀ bk q, (E.fz F).ω bk = some q → ω' bk = some q := fun bk q h => by simp [ω', h]
  have hωn : ∀ bk, E.w.heap.size ≤ bk → (E.fz F).ω bk = none := fun bk h => by
   cases ho : (E.fz F).ω bk with
   | none => rfl
   | some q => have := I1.rel.own bk q ho; have h' : E.w.heap.size ≤ bk := h; have : bk < E.w.heap.size := this; omega
  have hω2 : ∀ bk q, ω' bk = some q → bk < E1.w.heap.size := by
   intro bk q h
   simp only [ω'] at h
   split at h
   ·rename_i q' hq'; exact Nat.lt_of_lt_of_le (I1.rel.own bk q' hq') hI.fr.size
   ·split at h
    ·rename_i π hq'; exact hI.rel.own bk _ hq'
    ·cases h
  have hP2 : ∀ bk, E1.Pub bk → bk < E1.w.heap.size ∧ ω' bk = none := by
   intro bk h
   refine ⟨(hI.rel.pub bk h).1, ?_⟩
   have h2 := (hI.rel.pub bk h).2
   have h3 : (E.fz F).ω bk = none := by
    rcases hp2 bk h with h | h | h
    ·exact (I1.rel.pub bk h).2
    ·exact hωn bk h
    ·exact absurd rfl h
   simp [ω', h3, h2]
  obtain ⟨_, hR⟩ := I1.rel.put (fun _ => False) (fun _ _ _ _ h => h) (fun _ h => h) (fun h => h) E1.w ω' E1.Pub d r v hd (fun π sz xs => free_noOwn π hfree2) (fun bk h _ => hold bk h) hω1 hp1 hP2 hω2
  have hfin := hR ((Val.result (E := E1) (E' := ⟨E1.w, (E.fz F).β, ω', E1.Pub, (E.fz F).st.put d r, (E.fz F).tm.setIfInBounds d v⟩) (by rw [hst]; exact abs_empty) d rfl (fun _ => false) (by simp) (fun _ h => h)
   (fun bk π h => by simp [ω', hωn bk (hnew bk _ h), h]) (fun bk h => by rcases hω bk _ h with h | ⟨π, h⟩; exact h; cases h) hr hptr).1 [] rfl)
  refine ⟨v, ⟨E1.w, (E.fz F).β, ω', E1.Pub, (E.fz F).st.put d r, (E.fz F).tm.setIfInBounds d v⟩, rfl, rfl,
   ⟨hfin, ⟨hI.fr.os.trans I.fr.os, hI.fr.tape.trans I.fr.tape, hI.fr.output.trans I.fr.output, Nat.le_trans I.fr.size hI.fr.size, fun k hk hn => (hold k (Nat.lt_of_lt_of_le hk I.fr.size)).trans (I.fr.block k hk hn), fun k q h => ?_, fun bk h => hp1 bk (I1.fr.pub0 bk h), fun bk h => ?_, I1.fr.beta⟩⟩, rfl, hK⟩
  have h' : ω' k = some q := h
  simp only [ω'] at h'
  split at h'
  ·rename_i q' hq'; exact I1.fr.own k q' hq'
  ·split at h'
   ·rename_i π hq'; exact .inl (Nat.le_trans I.fr.size (hnew k _ hq'))
   ·cases h'
  rcases hp2 bk h with h | h | h
  ·exact I1.fr.pub1 bk h
  ·exact .inr (.inl (Nat.le_trans I.fr.size h))
  ·exact absurd rfl h
end
end Go.AM
namespace Go.AM
def St.of (l : List (Nat × AV)) (bx : Boxes) : St := ⟨fun t => (l.lookup t).getD .any, fun id => bx.lookup id⟩
theorem St.ext' {s s' : St} (h1 : ∀ t, s.slots t = s'.slots t) (h2 : ∀ id, s.boxes id = s'.boxes id) : s = s' := by
 cases s; cases s'
 simp only at h1 h2
 congr 1
 ·exact funext h1
 ·exact funext h2
theorem St.of_slots (l bx t) : (St.of l bx).slots t = (l.lookup t).getD .any := rfl
theorem St.of_boxes (l bx id) : (St.of l bx).boxes id = bx.lookup id := rfl
theorem lookup_cons' {α} (k : Nat) (v : α) (l : List (Nat × α)) (t : Nat) : List.lookup t ((k, v) :: l) = if t = k then some v else l.lookup t := by
 rw [List.lookup_cons]
 by_cases h : t = k
 ·subst h; simp
 ·have : (t == k) = false := by simpa using h
  simp [this, h]
theorem St.of_put (l bx d v) : (St.of l bx).put d v = St.of ((d, v) :: l) bx := by
 refine St.ext' (fun t => ?_) (fun _ => rfl)
 simp only [St.put, St.of, lookup_cons']
 split <;> rfl
theorem St.of_setBox (l bx id cs) : (St.of l bx).setBox id (some cs) = St.of l ((id, cs) :: bx) := by
 refine St.ext' (fun _ => rfl) (fun i => ?_)
 simp only [St.setBox, St.of, lookup_cons']
theorem lookup_map {α β} (g : Nat → α → β) (l : List (Nat × α)) (t : Nat) : List.lookup t (l.map fun e => (e.1, g e.1 e.2)) = (l.lookup t).map (g t) := by
 induction l with
 | nil => rfl
 | cons e l ih =>
  obtain ⟨k, v⟩ := e
  rw [List.map_cons, lookup_cons', lookup_cons', ih]
  split
  ·rename_i h; subst h; rfl
  ·rfl
def trS (h : Place → AV → AV) (l : List (Nat × AV)) : List (Nat × AV) := l.map fun e => (e.1, e.2.tr h (.slot e.1 []))
def trB (h : Place → AV → AV) (bx : Boxes) : Boxes := bx.map fun e => (e.1, AV.trC h e.1 0 e.2)
theorem St.of_tr (h : Place → AV → AV) (ha : ∀ p, h p .any = .any) (l bx) : (St.of l bx).tr h = St.of (trS h l) (trB h bx) := by
 refine St.ext' (fun t => ?_) (fun id => ?_)
 ·show AV.tr h (.slot t []) ((l.lookup t).getD .any) = ((trS h l).lookup t).getD .any
  rw [trS, lookup_map (fun t x => AV.tr h (.slot t []) x) l t]
  cases l.lookup t with
  | none => exact (AV.tr_leaf rfl).trans (ha _)
  | some x => rfl
 ·show Option.map _ (bx.lookup id) = (trB h bx).lookup id
  rw [trB, lookup_map (fun id cs => AV.trC h id 0 cs) bx id]
theorem St.of_take (Q l bx) : (St.of l bx).take Q = St.of (trS (takeLeaf Q) l) (trB (takeLeaf Q) bx) := St.of_tr _ (fun _ => rfl) l bx
theorem St.of_fz (F l bx) : (St.of l bx).fz F = St.of (trS (fzLeaf F) l) (trB (fzLeaf F) bx) := St.of_tr _ (fun _ => rfl) l bx
theorem St.of_killB (i l bx) : (St.of l bx).killB i = St.of (trS (killBLeaf i) l) (trB (killBLeaf i) bx) := St.of_tr _ (fun _ => rfl) l bx
theorem Inv.forget {N : Nat} {S : Start} {E : Env} (I : Inv N S E) (st' : St) (hs : ∀ t, st'.slots t = E.st.slots t ∨ (st'.slots t = .any ∧ NoOwn (E.st.slots t)))
  (hb : ∀ id, st'.boxes id = E.st.boxes id ∨ (st'.boxes id = none ∧ ∀ j sz xs, E.st.abs (.cell id j) ≠ .sl .own sz xs)) : Inv N S { E with st := st' } := by
 let SP : Place → Prop := fun q => q = .no ∨ ∃ sz xs, E.st.abs q = .sl .own sz xs
 have habs : ∀ q sz xs, E.st.abs q = .sl .own sz xs → st'.abs q = .sl .own sz xs := by
  intro q sz xs h
  cases q with
  | slot t π =>
   simp only [St.abs] at h ⊢
   rcases hs t with h1 | ⟨_, h2⟩
   ·rw [h1]; exact h
   ·exact absurd h (h2 π sz xs)
  | cell id j =>
   rcases hb id with h1 | ⟨_, h2⟩
   ·simp only [St.abs] at h ⊢; rw [h1]; exact h
   ·exact absurd h (h2 j sz xs)
  | box id => exact h
  | no => exact h
 have hst : Stays SP (fun _ => True) E { E with st := st' } :=
  ⟨fun bk h => ⟨h, rfl⟩, fun bk q _ h => ⟨h, rfl⟩, fun _ _ => rfl, fun q u sz xs _ _ h => by
   cases q <;> exact h, fun q sz xs _ h => habs q sz xs h⟩
 refine ⟨⟨I.rel.size, fun t => ?_, fun id cs h => ?_, I.rel.pub, I.rel.own, fun id h hm => I.rel.abs id (by
  rcases hb id with h1 | ⟨h1, _⟩
  ·rw [← h1]; exact h
  ·have h2 : (st'.boxes id).isSome = true := h
   rw [h1] at h2; cases h2) hm, I.rel.gl⟩, ⟨I.fr.os, I.fr.tape, I.fr.output, I.fr.size, I.fr.block, I.fr.own, I.fr.pub0, I.fr.pub1, I.fr.beta⟩⟩
 ·show Val { E with st := st' } (.slot t []) (st'.slots t) _
  rcases hs t with h1 | ⟨h1, _⟩
  ·rw [h1]
   refine (I.rel.slots t).mono hst ((I.rel.slots t).leans (fun q sz xs h => .inr ⟨sz, xs, h⟩) (.inl rfl) fun π sz xs h => .inr ⟨sz, xs, ?_⟩)
   rw [subs_slot]; exact h
  ·rw [h1]; exact .any _ _
 ·have h1 : E.st.boxes id = some cs := by
   rcases hb id with h1 | ⟨h1, _⟩
   ·rw [← h1]; exact h
   ·have h2 : st'.boxes id = some cs := h
    rw [h1] at h2; cases h2
  obtain ⟨g1, arr, T, g2, g3, g4⟩ := I.rel.boxes id cs h1
  refine ⟨g1, arr, T, g2, g3, fun j c hj => ?_⟩
  refine (g4 j c hj).mono hst ((g4 j c hj).leans (fun q sz xs h => .inr ⟨sz, xs, h⟩) (.inl rfl) fun π sz xs h => ?_)
  cases π with
  | nil =>
   right
   refine ⟨sz, xs, ?_⟩
   have h' : c = .sl .own sz xs := by
    cases c <;> simp_all [AV.at]
   simp only [Place.subs, St.abs, h1, Option.getD_some]
   rw [getD_get hj]; exact h'
  | cons k π => left; simp only [Place.subs, Place.sub]; exact subs_no π
def leakQ (ks kb : List Nat) : Place → Option Place
 | .slot t _ => if ks.contains t then none else some .no
 | .cell id _ => if kb.contains id then none else some .no
 | _ => none
def St.clean (ks kb : List Nat) (st : St) : St :=
 ⟨fun t => if ks.contains t then (st.take (leakQ ks kb)).slots t else .any, fun id => if kb.contains id then (st.take (leakQ ks kb)).boxes id else none⟩
theorem Inv.clean {N : Nat} {S : Start} {E : Env} (I : Inv N S E) (ks kb : List Nat) : ∃ E', E'.w = E.w ∧ E'.tm = E.tm ∧ Inv N S E' ∧ E'.st = E.st.clean ks kb := by
 have I1 := I.take (leakQ ks kb) (fun id => rfl)
 refine ⟨{ E.take (leakQ ks kb) with st := E.st.clean ks kb }, rfl, rfl, I1.forget (E.st.clean ks kb) (fun t => ?_) (fun id => ?_), rfl⟩
 ·simp only [St.clean]
  by_cases h : ks.contains t = true
  ·rw [if_pos h]; exact .inl rfl
  ·rw [if_neg h]
   refine .inr ⟨rfl, ?_⟩
   have h' : ks.contains t = false := by simpa using h
   exact take_noOwn E.st (leakQ ks kb) t fun π => by simp only [leakQ, h']; rfl
 ·simp only [St.clean]
  by_cases h : kb.contains id = true
  ·rw [if_pos h]; exact .inl rfl
  ·rw [if_neg h]
   refine .inr ⟨rfl, fun j => ?_⟩
   have h' : kb.contains id = false := by simpa using h
   exact take_cell E.st (leakQ ks kb) id j (by simp only [leakQ, h']; rfl)
def cleanS (ks kb : List Nat) (l : List (Nat × AV)) : List Nat → List (Nat × AV)
 | [] => []
 | t :: ts => (t, ((l.lookup t).getD .any).tr (takeLeaf (leakQ ks kb)) (.slot t [])) :: cleanS ks kb l ts
def cleanB (ks kb : List Nat) (bx : Boxes) : List Nat → Boxes
 | [] => []
 | t :: ts => match bx.lookup t with
  | some cs => (t, AV.trC (takeLeaf (leakQ ks kb)) t 0 cs) :: cleanB ks kb bx ts
  | none => cleanB ks kb bx ts
theorem cleanS_lookup (ks kb l) : ∀ (ts : List Nat) (t : Nat), (cleanS ks kb l ts).lookup t = if ts.contains t then some (((l.lookup t).getD .any).tr (takeLeaf (leakQ ks kb)) (.slot t [])) else none
 | [], t => by simp [cleanS]
 | x :: ts, t => by
  rw [cleanS, lookup_cons', cleanS_lookup ks kb l ts t]
  by_cases h : t = x
  ·subst h; simp
  ·simp [h]
theorem cleanB_lookup (ks kb) (bx : Boxes) : ∀ (ts : List Nat) (t : Nat), (cleanB ks kb bx ts).lookup t = if ts.contains t then (bx.lookup t).map (AV.trC (takeLeaf (leakQ ks kb)) t 0) else none
 | [], t => by simp [cleanB]
 | x :: ts, t => by
  rw [cleanB]
  cases hb : bx.lookup x with
  | none =>
   simp only []
   rw [cleanB_lookup ks kb bx ts t]
   by_cases h : t = x
   ·subst h; simp [hb]
   ·simp [h]
  | some cs =>
   simp only []
   rw [lookup_cons', cleanB_lookup ks kb bx ts t]
   by_cases h : t = x
   ·subst h; simp [hb]
   ·simp [h]
theorem St.of_clean (ks kb l bx) : (St.of l bx).clean ks kb = St.of (cleanS ks kb l ks) (cleanB ks kb bx kb) := by
 refine St.ext' (fun t => ?_) (fun id => ?_)
 ·show (if ks.contains t then _ else _) = ((cleanS ks kb l ks).lookup t).getD .any
  rw [cleanS_lookup]
  by_cases h : ks.contains t = true
  ·rw [if_pos h, if_pos h]; rfl
  ·rw [if_neg h, if_neg h]; rfl
 ·show (if kb.contains id then _ else _) = (cleanB ks kb bx kb).lookup id
  rw [cleanB_lookup]
  by_cases h : kb.contains id = true
  ·rw [if_pos h, if_pos h]; rfl
  ·rw [if_neg h, if_neg h]
mutual
def AV.tidy : AV → Bool
 | .sl (.vw _ _) _ _ => false
 | .pt (.vw _ _) _ _ _ => false
 | .agg cs => AV.tidyL cs
 | .tup cs => AV.tidyL cs
 | .fn _ fi ca => AV.tidyL fi && AV.tidyL ca && AV.freeL fi && AV.freeL ca
 | _ => true
def AV.tidyL : List AV → Bool
 | [] => true
 | x :: xs => x.tidy && AV.tidyL xs
end
theorem AV.tidyL_iff : ∀ {cs : List AV}, AV.tidyL cs = true ↔ ∀ c ∈ cs, c.tidy = true
 | [] => by simp [AV.tidyL]
 | x :: xs => by simp [AV.tidyL, AV.tidyL_iff (cs := xs)]
theorem AV.tidyL_get {cs : List AV} (h : AV.tidyL cs = true) {k : Nat} {c : AV} (hk : cs[k]? = some c) : c.tidy = true := AV.tidyL_iff.1 h c (List.mem_of_getElem? hk)
def AV.still (c : AV) : Bool := c.tidy && (c.free || match c with | .sl .own _ _ => true | _ => false)
end Go.AM
namespace Go.AM
def renLeaf (ρ : Nat → Option Nat) (_ : Place) : AV → AV
 | .ptr id off => match ρ id with
  | some j => .ptr j off
  | none => .any
 | .bs id off n cap => match ρ id with
  | some j => .bs j off n cap
  | none => .any
 | x => x
def AV.ren (ρ : Nat → Option Nat) (x : AV) : AV := x.tr (renLeaf ρ) .no
section
variable {E E' : Env} {ρ : Nat → Option Nat} (hP : ∀ bk, E.Pub bk → E'.Pub bk ∧ E'.w.heap[bk]? = E.w.heap[bk]?) (hB : ∀ id j, ρ id = some j → E'.β j = E.β id)
include hP hB
theorem Val.renFree {p : Place} {x : AV} {v : Value} (hv : Val E p x v) : x.tidy = true → x.free = true → ∀ p0 p', Val E' p' (x.tr (renLeaf ρ) p0) v := by
 induction hv with
 | any p v => exact fun _ _ p0 p' => .any p' v
 | b p x => exact fun _ _ p0 p' => .b p' x
 | i p k n => exact fun _ _ p0 p' => .i p' k n
 | s p x => exact fun _ _ p0 p' => .s p' x
 | nil p => exact fun _ _ p0 p' => .nil p'
 | nofn p => exact fun _ _ p0 p' => .nofn p'
 | ab p b0 o0 n0 c0 => exact fun _ _ p0 p' => .ab p' b0 o0 n0 c0
 | mp p b0 => exact fun _ _ p0 p' => .mp p' b0
 | it p b0 => exact fun _ _ p0 p' => .it p' b0
 | ptr p id off =>
  intro _ _ p0 p'
  rw [AV.tr_leaf rfl]
  simp only [renLeaf]
  split
  ·rename_i j hj; rw [← hB id j hj]; exact .ptr p' j off
  ·exact .any _ _
 | bs p id off n cap =>
  intro hs _ p0 p'
  rw [AV.tr_leaf rfl]
  simp only [renLeaf]
  split
  ·rename_i j hj; rw [← hB id j hj]; exact .bs p' j off n cap
  ·exact .any _ _
 | pt p g ix cells off bk o hc hg ha =>
  intro hs _ p0 p'
  rw [AV.tr_leaf rfl]
  cases g with
  | own => exact hg.elim
  | nl => exact hg.elim
  | fro => exact .pt p' .fro ix cells off bk o (hc.mono hP (hP _ hg).2) (hP _ hg).1 trivial
  | cut => exact hg.elim
  | vw q ex => simp [AV.tidy] at hs
 | sl1 p sz a cap => exact fun _ _ p0 p' => by rw [AV.tr_leaf rfl]; exact .sl1 p' sz a cap
 | sl2 p sz a => exact fun _ _ p0 p' => by rw [AV.tr_leaf rfl]; exact .sl2 p' sz a
 | sl0 p g sz h0 ha =>
  intro hs _ p0 p'
  rw [AV.tr_leaf rfl]
  cases g with
  | vw q ex => simp [AV.tidy] at hs
  | _ => exact .sl0 p' _ sz (by simp) trivial
 | sl p g sz xs bk off cap hc hr hg ha =>
  intro hs hf p0 p'
  rw [AV.tr_leaf rfl]
  cases g with
  | vw q ex => simp [AV.tidy] at hs
  | fro => exact .sl p' .fro sz xs bk off cap hc (hr.mono hP (hP _ hg).2) (hP _ hg).1 trivial
  | cut => exact .sl p' .cut sz xs bk off cap hc (hr.mono hP (hP _ hg.1).2) ⟨(hP _ hg.1).1, hg.2⟩ trivial
  | nl => exact hg.elim
  | own => simp [AV.free] at hf
 | fn p f fi ca fi' ca' h1 h2 _ _ ih1 ih2 =>
  intro hs hf p0 p'
  simp only [AV.tidy, Bool.and_eq_true] at hs
  rw [AV.tr]
  refine .fn p' f _ _ fi' ca' (by rw [AV.trN_length]; exact h1) (by rw [AV.trN_length]; exact h2) (fun k c hk => ?_) (fun k c hk => ?_)
  ·rw [AV.trN_get] at hk
   obtain ⟨c', hc, rfl⟩ := Option.map_eq_some_iff.1 hk
   exact ih1 k c' hc (AV.tidyL_get hs.1.1.1 hc) (AV.freeL_get hs.1.2 hc) _ _
  ·rw [AV.trN_get] at hk
   obtain ⟨c', hc, rfl⟩ := Option.map_eq_some_iff.1 hk
   exact ih2 k c' hc (AV.tidyL_get hs.1.1.2 hc) (AV.freeL_get hs.2 hc) _ _
 | agg p cs arr h1 _ ih =>
  intro hs hf p0 p'
  rw [AV.tidy] at hs
  rw [AV.free] at hf
  rw [AV.tr]
  refine .agg p' _ arr (by rw [AV.trL_length]; exact h1) fun k c hk => ?_
  rw [AV.trL_get] at hk
  obtain ⟨c', hc, rfl⟩ := Option.map_eq_some_iff.1 hk
  exact ih k c' hc (AV.tidyL_get hs hc) (AV.freeL_get hf hc) _ _
 | tup p cs arr h1 _ ih =>
  intro hs hf p0 p'
  rw [AV.tidy] at hs
  rw [AV.free] at hf
  rw [AV.tr]
  refine .tup p' _ arr (by rw [AV.trL_length]; exact h1) fun k c hk => ?_
  rw [AV.trL_get] at hk
  obtain ⟨c', hc, rfl⟩ := Option.map_eq_some_iff.1 hk
  exact ih k c' hc (AV.tidyL_get hs hc) (AV.freeL_get hf hc) _ _
theorem Val.renSlot (d0 d : Nat) (hO : ∀ bk π, E.ω bk = some (.slot d0 π) → E'.ω bk = some (.slot d π) ∧ E'.w.heap[bk]? = E.w.heap[bk]?) {p : Place} {x : AV} {v : Value} (hv : Val E p x v) :
  x.tidy = true → ∀ π0 p0, p = .slot d0 π0 → Val E' (.slot d π0) (x.tr (renLeaf ρ) p0) v := by
 induction hv with
 | sl p g sz xs bk off cap hc hr hg ha =>
  intro hs π0 p0 he
  cases g with
  | vw q ex => simp [AV.tidy] at hs
  | fro => exact (Val.sl (E := E) p .fro sz xs bk off cap hc hr hg ha).renFree hP hB hs rfl _ _
  | cut => exact (Val.sl (E := E) p .cut sz xs bk off cap hc hr hg ha).renFree hP hB hs rfl _ _
  | nl => exact hg.elim
  | own =>
   subst he
   rw [AV.tr_leaf rfl]
   have ho := hO bk π0 hg.1
   exact .sl _ .own sz xs bk off cap hc (hr.mono hP ho.2) ⟨ho.1, hg.2.mono ho.2⟩ trivial
 | sl1 p sz a cap => exact fun _ π0 p0 _ => by rw [AV.tr_leaf rfl]; exact .sl1 _ sz a cap
 | sl2 p sz a => exact fun _ π0 p0 _ => by rw [AV.tr_leaf rfl]; exact .sl2 _ sz a
 | sl0 p g sz h0 ha =>
  intro hs π0 p0 _
  rw [AV.tr_leaf rfl]
  cases g with
  | vw q ex => simp [AV.tidy] at hs
  | _ => exact .sl0 _ _ sz (by simp) trivial
 | agg p cs arr h1 _ ih =>
  intro hs π0 p0 he
  subst he
  rw [AV.tidy] at hs
  rw [AV.tr]
  refine .agg _ _ arr (by rw [AV.trL_length]; exact h1) fun k c hk => ?_
  rw [AV.trL_get] at hk
  obtain ⟨c', hc, rfl⟩ := Option.map_eq_some_iff.1 hk
  exact ih k c' hc (AV.tidyL_get hs hc) _ _ rfl
 | tup p cs arr h1 _ ih =>
  intro hs π0 p0 he
  subst he
  rw [AV.tidy] at hs
  rw [AV.tr]
  refine .tup _ _ arr (by rw [AV.trL_length]; exact h1) fun k c hk => ?_
  rw [AV.trL_get] at hk
  obtain ⟨c', hc, rfl⟩ := Option.map_eq_some_iff.1 hk
  exact ih k c' hc (AV.tidyL_get hs hc) _ _ rfl
 | any p v => exact fun _ _ _ _ => .any _ v
 | b p x => exact fun _ _ _ _ => .b _ x
 | i p k n => exact fun _ _ _ _ => .i _ k n
 | s p x => exact fun _ _ _ _ => .s _ x
 | nil p => exact fun _ _ _ _ => .nil _
 | nofn p => exact fun _ _ _ _ => .nofn _
 | ab p b0 o0 n0 c0 => exact fun _ _ _ _ => .ab _ b0 o0 n0 c0
 | mp p b0 => exact fun _ _ _ _ => .mp _ b0
 | it p b0 => exact fun _ _ _ _ => .it _ b0
 | ptr p id off => exact fun hs π0 p0 _ => (Val.ptr (E := E) p id off).renFree hP hB hs rfl _ _
 | bs p id off n cap => exact fun hs π0 p0 _ => (Val.bs (E := E) p id off n cap).renFree hP hB hs rfl _ _
 | pt p g ix cells off bk o hc hg ha => exact fun hs π0 p0 _ => (Val.pt (E := E) p g ix cells off bk o hc hg ha).renFree hP hB hs rfl _ _
 | fn p f fi ca fi' ca' h1 h2 h3 h4 _ _ =>
  intro hs π0 p0 _
  refine (Val.fn (E := E) p f fi ca fi' ca' h1 h2 h3 h4).renFree hP hB hs ?_ _ _
  simp only [AV.tidy, Bool.and_eq_true] at hs
  simp [AV.free, hs.1.2, hs.2]
theorem Val.renCell (id id' j : Nat) (hO : ∀ bk, E.ω bk = some (.cell id j) → E'.ω bk = some (.cell id' j) ∧ E'.w.heap[bk]? = E.w.heap[bk]?) {x : AV} {v : Value} (hv : Val E (.cell id j) x v) (hs : x.still = true) (p0 : Place) :
  Val E' (.cell id' j) (x.tr (renLeaf ρ) p0) v := by
 simp only [AV.still, Bool.and_eq_true, Bool.or_eq_true] at hs
 obtain ⟨s1, s2⟩ := hs
 rcases s2 with s2 | s2
 ·exact hv.renFree hP hB s1 s2 _ _
 ·split at s2
  ·rename_i sz xs
   rw [AV.tr_leaf rfl]
   cases hv with
   | sl0 => exact .sl0 _ _ _ (by simp) trivial
   | sl _ _ _ _ bk off cap hc hr hg ha =>
    have ho := hO bk hg.1
    exact .sl _ .own _ _ bk off cap hc (hr.mono hP ho.2) ⟨ho.1, hg.2.mono ho.2⟩ trivial
  ·cases s2
end
theorem argz_tidy (x : AV) : ∀ p, x.free = true → (x.tr argLeaf p).tidy = true ∧ (x.tr argLeaf p).free = true := by
 refine AV.rec (motive_1 := fun x => ∀ p, x.free = true → (x.tr argLeaf p).tidy = true ∧ (x.tr argLeaf p).free = true)
  (motive_2 := fun l => AV.freeL l = true → (∀ p k, AV.tidyL (AV.trL argLeaf p k l) = true ∧ AV.freeL (AV.trL argLeaf p k l) = true) ∧ AV.tidyL (AV.trN argLeaf l) = true ∧ AV.freeL (AV.trN argLeaf l) = true) (motive_3 := fun _ => True)
  ?_ ?_ ?_ ?_ ?_ ?_ ?_ ?_ ?_ ?_ ?_ ?_ ?_ ?_ ?_ ?_ ?_ ?_ ?_ ?_ x
 ·intro p _; exact ⟨rfl, rfl⟩
 ·intro x p _; exact ⟨rfl, rfl⟩
 ·intro k n p _; exact ⟨rfl, rfl⟩
 ·intro x p _; exact ⟨rfl, rfl⟩
 ·intro p _; exact ⟨rfl, rfl⟩
 ·intro p _; exact ⟨rfl, rfl⟩
 ·intro id off n cap p _; exact ⟨rfl, rfl⟩
 ·intro b0 p _; exact ⟨rfl, rfl⟩
 ·intro b0 p _; exact ⟨rfl, rfl⟩
 ·intro id off p _; exact ⟨rfl, rfl⟩
 ·intro id off n cap p _; exact ⟨rfl, rfl⟩
 ·intro g ix cells off _ p _; cases g <;> exact ⟨rfl, rfl⟩
 ·intro f fi ca h1 h2 p h
  simp only [AV.free, Bool.and_eq_true] at h
  rw [AV.tr]
  simp [AV.tidy, AV.free, (h1 h.1).2, (h2 h.2).2]
 ·intro g sz xs _ p h
  cases g with
  | own => simp [AV.free] at h
  | _ => exact ⟨rfl, rfl⟩
 ·intro cs h p hf; rw [AV.free] at hf; rw [AV.tr]; exact ⟨((h hf).1 p 0).1, ((h hf).1 p 0).2⟩
 ·intro cs h p hf; rw [AV.free] at hf; rw [AV.tr]; exact ⟨((h hf).1 p 0).1, ((h hf).1 p 0).2⟩
 ·exact fun _ => ⟨fun _ _ => ⟨rfl, rfl⟩, rfl, rfl⟩
 ·intro x xs h1 h2 hf
  simp only [AV.freeL, Bool.and_eq_true] at hf
  refine ⟨fun p k => ?_, ?_, ?_⟩
  ·simp [AV.trL, AV.tidyL, AV.freeL, h1 _ hf.1, (h2 hf.2).1]
  ·simp [AV.trN, AV.tidyL, h1 _ hf.1, (h2 hf.2).2.1]
  ·simp [AV.trN, AV.freeL, h1 _ hf.1, (h2 hf.2).2.2]
 ·trivial
 ·intros; trivial
def St.dropB (given : List Nat) (st : St) : St := { st with boxes := fun id => if given.contains id then none else st.boxes id }
def St.addB (l : Boxes) (st : St) : St := { st with boxes := fun id => match l.lookup id with | some cs => some cs | none => st.boxes id }
theorem lookup_filter {α} (p : Nat → Bool) (l : List (Nat × α)) (t : Nat) : List.lookup t (l.filter fun e => p e.1) = if p t then l.lookup t else none := by
 induction l with
 | nil => simp
 | cons e l ih =>
  obtain ⟨k, v⟩ := e
  rw [List.filter_cons]
  by_cases hk : p k = true
  ·simp only [hk, if_true]
   rw [lookup_cons', lookup_cons', ih]
   by_cases h : t = k
   ·subst h; simp [hk]
   ·simp [h]
  ·simp only [hk, Bool.false_eq_true, if_false]
   rw [lookup_cons', ih]
   by_cases h : t = k
   ·subst h; simp [hk]
   ·simp [h]
theorem lookup_append' {α} (l m : List (Nat × α)) (t : Nat) : List.lookup t (l ++ m) = match l.lookup t with | some x => some x | none => m.lookup t := by
 induction l with
 | nil => rfl
 | cons e l ih =>
  obtain ⟨k, v⟩ := e
  rw [List.cons_append, lookup_cons', lookup_cons', ih]
  split <;> rfl
theorem St.of_dropB (given l bx) : (St.of l bx).dropB given = St.of l (bx.filter fun e => !given.contains e.1) := by
 refine St.ext' (fun _ => rfl) (fun id => ?_)
 show (if given.contains id then none else bx.lookup id) = (bx.filter fun e => !given.contains e.1).lookup id
 rw [lookup_filter fun id => !given.contains id]
 cases given.contains id <;> rfl
theorem St.of_addB (m l bx) : (St.of l bx).addB m = St.of l (m ++ bx) := by
 refine St.ext' (fun _ => rfl) (fun id => ?_)
 show (match m.lookup id with | some cs => some cs | none => bx.lookup id) = (m ++ bx).lookup id
 rw [lookup_append']
 cases m.lookup id <;> rfl
def killO (nw : Option (Nat × Nat)) (st : St) : St :=
 match nw with
 | some e => st.killB e.2
 | none => st
def givenL (m : List (Nat × Nat)) (nw : Option (Nat × Nat)) : List Nat := m.map (·.2) ++ nw.toList.map (·.2)
def swapL (m : List (Nat × Nat)) : List (Nat × Nat) := m.map fun e => (e.2, e.1)
def upL (m : List (Nat × Nat)) (nw : Option (Nat × Nat)) : List (Nat × Nat) := m ++ nw.toList
def givenQ (g : List Nat) : Place → Option Place
 | .cell id _ => if g.contains id then some (.box id) else none
 | _ => none
def nodup : List Nat → Bool
 | [] => true
 | x :: xs => !xs.contains x && nodup xs
def givenOk (m : List (Nat × Nat)) (st : St) : Boxes → Prop
 | [] => True
 | (i, cs) :: bx => (match m.lookup i with
  | some B => match st.boxes B with
   | some cs0 => cs0.all AV.still = true ∧ cs = cs0.map (AV.ren fun id => (swapL m).lookup id)
   | none => False
  | none => False) ∧ givenOk m st bx
def takenL (u : List (Nat × Nat)) (bx' : Boxes) : List (Nat × Nat) → Boxes
 | [] => []
 | (i, B) :: l => match bx'.lookup i with
  | some cs => (B, cs.map (AV.ren fun i => u.lookup i)) :: takenL u bx' l
  | none => takenL u bx' l
def pairsOk (k base : Nat) (m : List (Nat × Nat)) (nw : Option (Nat × Nat)) : Bool :=
 decide (k ≤ 1000000) && m.all (fun e => decide (e.1 < k) && decide (e.2 < 1000000)) && nodup (m.map (·.1)) && nodup (m.map (·.2)) && match nw with
  | some e => decide (k ≤ e.1) && decide (base ≤ e.2) && !(m.map (·.2)).contains e.2 && (decide (e.2 < 1000000) || e.1 == e.2)
  | none => true
def AV.argk : AV → AV
 | .sl .nl sz xs => .sl .nl sz xs
 | .sl .cut sz xs => .sl .cut sz xs
 | x => x.argz
theorem Val.argk {E : Env} {F : Place → Bool} {c : AV} {v : Value} (h : Val E .no c v) (h2 : Val (E.fz F) .no c.argz v) : Val (E.fz F) .no c.argk v := by
 unfold AV.argk
 split
 ·cases h with
  | sl0 => exact .sl0 _ _ _ (by simp) trivial
  | sl _ _ _ _ _ _ _ _ _ hg => exact hg.elim
 ·cases h with
  | sl0 => exact .sl0 _ _ _ (by simp) trivial
  | sl2 => exact .sl2 _ _ _
  | sl _ _ _ _ bk off cap hc hr hg ha => exact .sl _ .cut _ _ bk off cap hc (hr.mono (fun bk h => ⟨.inl h, rfl⟩) rfl) ⟨.inl hg.1, hg.2⟩ trivial
 ·exact h2
theorem argk_tidy (x : AV) (h : x.argz.tidy = true ∧ x.argz.free = true) : x.argk.tidy = true ∧ x.argk.free = true := by
 unfold AV.argk
 split
 ·exact ⟨rfl, rfl⟩
 ·exact ⟨rfl, rfl⟩
 ·exact h
def acallP (C : Cx) (st : St) (d : Option Nat) (f : Nat) (args : List AV) (K : St → Prop) : Prop :=
 ∃ (ι : Type) (k : Nat) (m : List (Nat × Nat)) (nw : ι → Option (Nat × Nat)) (bx : Boxes) (r : ι → AV) (bx' : ι → Boxes),
  (ProcE C.P k f (args.map fun x => x.argz.ren fun id => (swapL m).lookup id) bx r bx' ∨ ProcE C.P k f (args.map fun x => x.argk.ren fun id => (swapL m).lookup id) bx r bx') ∧ pairsOk k C.base m none = true ∧
  (let l := AV.vwsN args
   let F := settleF l.isEmpty l (fun _ => false)
   let st1 := st.fz F
   AV.resOkN noQ F args = true ∧ givenOk m st1 bx ∧ ∀ i, pairsOk k C.base m (nw i) = true ∧
   (let st2 := killO (nw i) ((st1.take (givenQ (givenL m (nw i)))).dropB (givenL m (nw i)))
   (r i).tidy = true ∧ ((bx' i).all fun e => e.2.all AV.still) = true ∧
    match d with
    | some d => d < C.N ∧ (st2.slots d).free = true ∧ K ((st2.addB (takenL (upL m (nw i)) (bx' i) (upL m (nw i)))).put d ((r i).ren fun j => (upL m (nw i)).lookup j))
    | none => K (st2.addB (takenL (upL m (nw i)) (bx' i) (upL m (nw i))))))
theorem Rel.killO {N : Nat} {E : Env} (R : Rel N E) (nw : Option (Nat × Nat)) : Rel N { E with st := Go.AM.killO nw E.st } := by
 cases nw with
 | none => exact R
 | some e => exact R.killB e.2
theorem Inv.killO {N : Nat} {S : Start} {E : Env} (I : Inv N S E) (nw : Option (Nat × Nat)) : Inv N S { E with st := Go.AM.killO nw E.st } :=
 ⟨I.rel.killO nw, ⟨I.fr.os, I.fr.tape, I.fr.output, I.fr.size, I.fr.block, I.fr.own, I.fr.pub0, I.fr.pub1, I.fr.beta⟩⟩
theorem nodup_lookup {α} : ∀ {l : List (Nat × α)}, nodup (l.map (·.1)) = true → ∀ e ∈ l, l.lookup e.1 = some e.2
 | [], _, e, h => by simp at h
 | (k, v) :: l, hn, e, h => by
  simp only [List.map_cons, nodup, Bool.and_eq_true, Bool.not_eq_true'] at hn
  rw [lookup_cons']
  rcases List.mem_cons.1 h with h1 | h1
  ·subst h1; simp
  ·by_cases he : e.1 = k
   ·have h2 := hn.1
    simp at h2
    obtain ⟨a, b⟩ := e
    simp only at he
    subst he
    exact absurd h1 (h2 b)
   ·rw [if_neg he]; exact nodup_lookup hn.2 e h1
theorem lookup_mem {α} : ∀ {l : List (Nat × α)} {k : Nat} {v : α}, l.lookup k = some v → (k, v) ∈ l
 | [], k, v, h => by simp at h
 | (k', v') :: l, k, v, h => by
  rw [lookup_cons'] at h
  split at h
  ·rename_i he; subst he; cases h; simp
  ·exact List.mem_cons_of_mem _ (lookup_mem h)
theorem swap_lookup {m : List (Nat × Nat)} (h2 : nodup (m.map (·.2)) = true) {i B : Nat} (h : (i, B) ∈ m) : (swapL m).lookup B = some i := by
 have : nodup ((swapL m).map (·.1)) = true := by simpa [swapL, Function.comp_def] using h2
 exact nodup_lookup this (B, i) (List.mem_map.2 ⟨(i, B), h, rfl⟩)
theorem swap_mem {m : List (Nat × Nat)} {i B : Nat} (h : (swapL m).lookup B = some i) : (i, B) ∈ m := by
 have := lookup_mem h
 obtain ⟨e, he, h2⟩ := List.mem_map.1 this
 cases h2; exact he
theorem givenOk_get {m : List (Nat × Nat)} {st : St} : ∀ {bx : Boxes}, givenOk m st bx → ∀ {i : Nat} {cs : List AV}, bx.lookup i = some cs →
  ∃ B cs0, m.lookup i = some B ∧ st.boxes B = some cs0 ∧ cs0.all AV.still = true ∧ cs = cs0.map (AV.ren fun id => (swapL m).lookup id)
 | [], _, i, cs, h => by simp at h
 | (k, c) :: bx, hg, i, cs, h => by
  simp only [givenOk] at hg
  rw [lookup_cons'] at h
  split at h
  ·rename_i he
   subst he; cases h
   obtain ⟨hg, _⟩ := hg
   split at hg
   ·rename_i B hB
    split at hg
    ·rename_i cs0 hc; exact ⟨B, cs0, hB, hc, hg.1, hg.2⟩
    ·exact hg.elim
   ·exact hg.elim
  ·exact givenOk_get hg.2 h
theorem takenL_get {u : List (Nat × Nat)} {bx' : Boxes} : ∀ {l : List (Nat × Nat)}, nodup (l.map (·.2)) = true → ∀ B cs, (takenL u bx' l).lookup B = some cs →
  ∃ i cs', (i, B) ∈ l ∧ bx'.lookup i = some cs' ∧ cs = cs'.map (AV.ren fun i => u.lookup i)
 | [], _, B, cs, h => by simp [takenL] at h
 | (i, B0) :: l, hn, B, cs, h => by
  simp only [List.map_cons, nodup, Bool.and_eq_true] at hn
  rw [takenL] at h
  split at h
  ·rename_i cs' hc
   rw [lookup_cons'] at h
   split at h
   ·rename_i he; subst he; cases h; exact ⟨i, cs', by simp, hc, rfl⟩
   ·obtain ⟨i', cs'', h1, h2, h3⟩ := takenL_get hn.2 B cs h
    exact ⟨i', cs'', List.mem_cons_of_mem _ h1, h2, h3⟩
  ·obtain ⟨i', cs'', h1, h2, h3⟩ := takenL_get hn.2 B cs h
   exact ⟨i', cs'', List.mem_cons_of_mem _ h1, h2, h3⟩
theorem takenL_none {u : List (Nat × Nat)} {bx' : Boxes} : ∀ {l : List (Nat × Nat)} {B : Nat}, B ∉ l.map (·.2) → (takenL u bx' l).lookup B = none
 | [], B, _ => by simp [takenL]
 | (i, B0) :: l, B, h => by
  simp only [List.map_cons, List.mem_cons, not_or] at h
  rw [takenL]
  split
  ·rw [lookup_cons', if_neg h.1]; exact takenL_none h.2
  ·exact takenL_none h.2
theorem nodup_append {l m : List Nat} : nodup (l ++ m) = true ↔ nodup l = true ∧ nodup m = true ∧ ∀ x ∈ l, x ∉ m := by
 induction l with
 | nil => simp [nodup]
 | cons x l ih =>
  simp only [List.cons_append, nodup, Bool.and_eq_true, ih, Bool.not_eq_true', List.mem_cons, forall_eq_or_imp]
  simp only [List.contains_eq_mem, List.mem_append, decide_eq_false_iff_not, not_or]
  constructor
  ·rintro ⟨⟨h1, h2⟩, h3, h4, h5⟩; exact ⟨⟨h1, h3⟩, h4, h2, h5⟩
  ·rintro ⟨⟨h1, h3⟩, h4, h2, h5⟩; exact ⟨⟨h1, h2⟩, h3, h4, h5⟩
section
variable {C : Cx} {S : Start} {E : Env}
def setO (tm : Array Value) (d : Option Nat) (v : Value) : Array Value :=
 match d with
 | some d => tm.setIfInBounds d v
 | none => tm
theorem acallP_sound (I : Inv C.N S E) (hbase : S.k ≤ C.base) {d : Option Nat} {f : Nat} {args : List AV} {vs : Array Value} {K : St → Prop} (hl : args.length = vs.size) (hf : AV.freeL args = true)
  (hv : ∀ (k : Nat) c, args[k]? = some c → Val E .no c (vs.getD k undef)) (h : acallP C E.st d f args K) :
  (∃ fn c, C.P.funcs[f]? = some fn ∧ fn.body = some c ∧ (fn.name == "runtime.NumGoroutine") = false) ∧
  Calls C.P f vs E.w fun e w' => ∃ v E', e = .returned v ∧ E'.w = w' ∧ Inv C.N S E' ∧ E'.tm = setO E.tm d v ∧ K E'.st := by
 obtain ⟨ι, k, m, nwF, bx, rF, bxF, hPP, hpairs, hrest⟩ := h
 obtain ⟨az, haz, hfn, hP⟩ : ∃ az : AV → AV, (az = AV.argz ∨ az = AV.argk) ∧ ProcE C.P k f (args.map fun x => (az x).ren fun id => (swapL m).lookup id) bx rF bxF := by
  rcases hPP with h | h
  ·exact ⟨_, .inl rfl, h⟩
  ·exact ⟨_, .inr rfl, h⟩
 refine ⟨hfn, ?_⟩
 simp only at hrest
 generalize hF : settleF (AV.vwsN args).isEmpty (AV.vwsN args) (fun _ => false) = F at hrest
 obtain ⟨hres, hgiven, hrest2⟩ := hrest
 have hFb : ∀ id, F (.box id) = false := fun id => by rw [← hF]; exact settleF_box ..
 have I1 := I.fz F hFb
 simp only [pairsOk, Bool.and_eq_true, List.all_eq_true, decide_eq_true_eq, Bool.and_true] at hpairs
 obtain ⟨⟨⟨pk0, pk1⟩, pn1⟩, pn2⟩ := hpairs
 have pk : ∀ e ∈ m, e.1 < k := fun e he => (pk1 e he).1
 have pkB : ∀ e ∈ m, e.2 < 1000000 := fun e he => (pk1 e he).2
 let β0 : Nat → Nat := fun i => match m.lookup i with | some B => E.β B | none => 0
 let ω0 : Nat → Option Place := fun bk => match E.fz F |>.ω bk with
  | some (.cell B j) => ((swapL m).lookup B).bind fun i => if (bx.lookup i).isSome then some (.cell i j) else none
  | some (.box B) => ((swapL m).lookup B).bind fun i => if (bx.lookup i).isSome then some (.box i) else none
  | _ => none
 let E0 : Env := ⟨E.w, β0, ω0, (E.fz F).Pub, St.ofBoxes bx, #[]⟩
 have hω0 : ∀ bk q, ω0 bk = some q → (∃ q', (E.fz F).ω bk = some q' ∧ ((∃ B j, q' = .cell B j ∧ B ∈ m.map (·.2)) ∨ ∃ B, q' = .box B ∧ B ∈ m.map (·.2))) ∧ inBx bx q := by
  intro bk q h
  simp only [ω0] at h
  split at h
  ·rename_i B j hq
   obtain ⟨i, hi, h2⟩ := Option.bind_eq_some_iff.1 h
   split at h2
   ·rename_i hs; cases h2
    exact ⟨⟨_, hq, .inl ⟨B, j, rfl, List.mem_map.2 ⟨_, swap_mem hi, rfl⟩⟩⟩, hs⟩
   ·cases h2
  ·rename_i B hq
   obtain ⟨i, hi, h2⟩ := Option.bind_eq_some_iff.1 h
   split at h2
   ·rename_i hs; cases h2
    exact ⟨⟨_, hq, .inr ⟨B, rfl, List.mem_map.2 ⟨_, swap_mem hi, rfl⟩⟩⟩, hs⟩
   ·cases h2
  ·cases h
 have hP0 : ∀ bk, (E.fz F).Pub bk → E0.Pub bk ∧ E0.w.heap[bk]? = (E.fz F).w.heap[bk]? := fun bk h => ⟨h, rfl⟩
 have hB0 : ∀ id j, (swapL m).lookup id = some j → E0.β j = (E.fz F).β id := by
  intro id j h
  have := nodup_lookup pn1 _ (swap_mem h)
  show β0 j = E.β id
  simp only at this
  simp [β0, this]
 have R0 : Rel 0 E0 := by
  refine ⟨rfl, fun t => .any _ _, fun i cs h => ?_, fun bk h => ⟨(I1.rel.pub bk h).1, ?_⟩, fun bk q h => ?_, fun i h hm => ?_, I1.rel.gl⟩
  ·obtain ⟨B, cs0, hB, hb, hst, rfl⟩ := givenOk_get hgiven (show bx.lookup i = some cs from h)
   obtain ⟨g1, arr, T, g2, g3, g4⟩ := I1.rel.boxes B cs0 hb
   have hm : (i, B) ∈ m := lookup_mem hB
   have hsw := swap_lookup pn2 hm
   have hin : (bx.lookup i).isSome = true := by
    have h' : bx.lookup i = some (cs0.map (AV.ren fun id => (swapL m).lookup id)) := h
    rw [h']; rfl
   have hbeta : E0.β i = (E.fz F).β B := hB0 B i hsw
   refine ⟨?_, arr, T, by rw [hbeta]; exact g2, by rw [g3, List.length_map], fun j c hj => ?_⟩
   ·rw [hbeta]
    show ω0 _ = _
    simp only [ω0, g1, hsw, Option.bind_some, hin, if_true]
   ·rw [List.getElem?_map] at hj
    obtain ⟨c0, hc0, rfl⟩ := Option.map_eq_some_iff.1 hj
    refine (g4 j c0 hc0).renCell hP0 hB0 B i j (fun bk hbk => ⟨?_, rfl⟩) (List.all_eq_true.1 hst c0 (List.mem_of_getElem? hc0)) .no
    show ω0 bk = _
    simp only [ω0, hbk, hsw, Option.bind_some, hin, if_true]
  ·show ω0 bk = none
   have := (I1.rel.pub bk h).2
   simp only [ω0, this]
  ·obtain ⟨⟨q', hq', _⟩, _⟩ := hω0 bk q h
   exact I1.rel.own bk q' hq'
  ·obtain ⟨cs, hc⟩ := Option.isSome_iff_exists.1 h
   obtain ⟨B, cs0, hB, _⟩ := givenOk_get hgiven (show bx.lookup i = some cs from hc)
   have h1 := pk _ (lookup_mem hB)
   unfold parkM at hm
   simp only at h1
   omega
 have hargs : ∀ (j : Nat) c, (args.map fun x => (az x).ren fun id => (swapL m).lookup id)[j]? = some c → Val E0 .no c (vs.getD j undef) := by
  intro j c hj
  rw [List.getElem?_map] at hj
  obtain ⟨c0, hc0, rfl⟩ := Option.map_eq_some_iff.1 hj
  have hfr := AV.freeL_get hf hc0
  have h1 : Val (E.fz F) .no c0.argz (vs.getD j undef) :=
   (hv j c0 hc0).argz (Pub' := (E.fz F).Pub) (ω' := (E.fz F).ω) (st' := (E.fz F).st) (tm' := E.tm) (fun bk h => .inl h) (fun bk q h hq => .inr ⟨q, h, hq⟩) hfr .no (AV.resOkN_get hres j c0 hc0) .no
  obtain ⟨t1, t2⟩ := argz_tidy c0 .no hfr
  rcases haz with rfl | rfl
  ·exact h1.renFree hP0 hB0 t1 t2 .no .no
  ·obtain ⟨t3, t4⟩ := argk_tidy c0 ⟨t1, t2⟩
   exact (Val.argk (hv j c0 hc0) h1).renFree hP0 hB0 t3 t4 .no .no
 refine (hP E.w β0 ω0 (E.fz F).Pub vs R0 (fun bk q h => (hω0 bk q h).2) (by simpa using hl) hargs).mono ?_
 rintro e w' ⟨i0, v, E1, rfl, rfl, hI, hst1, hω, hr⟩
 obtain ⟨nw, hnwE⟩ : ∃ nw, nw = nwF i0 := ⟨_, rfl⟩
 obtain ⟨r, hrE⟩ : ∃ r, r = rF i0 := ⟨_, rfl⟩
 obtain ⟨bx', hbE⟩ : ∃ bx', bx' = bxF i0 := ⟨_, rfl⟩
 obtain ⟨hpairs2, htidy, hstill, hK⟩ := hrest2 i0
 rw [← hnwE] at hpairs2
 rw [← hrE] at htidy hr
 rw [← hbE] at hstill hst1 hω
 rw [← hnwE, ← hrE, ← hbE] at hK
 simp only [pairsOk, Bool.and_eq_true] at hpairs2
 have pnw := hpairs2.2
 have pnew : ∀ e, nw = some e → k ≤ e.1 ∧ C.base ≤ e.2 ∧ e.2 ∉ m.map (·.2) ∧ (e.2 < 1000000 ∨ e.1 = e.2) := by
  intro e he
  subst he
  simp only [Bool.and_eq_true, decide_eq_true_eq, Bool.not_eq_true', Bool.or_eq_true, beq_iff_eq] at pnw
  refine ⟨pnw.1.1.1, pnw.1.1.2, ?_, pnw.2⟩
  simpa [List.contains_eq_mem] using pnw.1.2
 let u := upL m nw
 let g := givenL m nw
 have hu2 : u.map (·.2) = g := by simp [u, g, upL, givenL]
 have hnd2 : nodup (u.map (·.2)) = true := by
  rw [hu2]
  show nodup (m.map (·.2) ++ nw.toList.map (·.2)) = true
  rw [nodup_append]
  refine ⟨pn2, ?_, fun x hx => ?_⟩
  ·cases nw <;> simp [nodup]
  ·cases hnw : nw with
   | none => simp
   | some e =>
    have := (pnew e hnw).2.2.1
    simp only [Option.toList_some, List.map_cons, List.map_nil, List.mem_singleton]
    intro he; subst he; exact this hx
 have hnd1 : nodup (u.map (·.1)) = true := by
  show nodup ((m ++ nw.toList).map (·.1)) = true
  rw [List.map_append, nodup_append]
  refine ⟨pn1, ?_, fun x hx => ?_⟩
  ·cases nw <;> simp [nodup]
  ·cases hnw : nw with
   | none => simp
   | some e =>
    have h1 := (pnew e hnw).1
    obtain ⟨e', he', rfl⟩ := List.mem_map.1 hx
    have := pk e' he'
    simp only [Option.toList_some, List.map_cons, List.map_nil, List.mem_singleton]
    omega
 refine ⟨v, ?_⟩
 have hp1 := hI.fr.pub0
 have hp2 := hI.fr.pub1
 have hold : ∀ bk, bk < E.w.heap.size → ω0 bk = none → E1.w.heap[bk]? = E.w.heap[bk]? := fun bk h hn => hI.fr.block bk h (by simpa using hn)
 have I2 := (I1.take (givenQ g) (fun id => rfl))
 have I3 := I2.forget (((E.fz F).st.take (givenQ g)).dropB g) (fun t => .inl rfl) (fun id => by
  show (if g.contains id then none else _) = _ ∨ _
  by_cases hg : g.contains id = true
  ·refine .inr ⟨by show (if g.contains id then none else _) = none; rw [if_pos hg], fun j => take_cell (E.fz F).st (givenQ g) id j (by simp only [givenQ, hg]; rfl)⟩
  ·left; rw [if_neg hg]; rfl)
 have I4 := I3.killO nw
 have hgm : ∀ B, B ∈ m.map (·.2) → g.contains B = true := fun B h => by
  have : B ∈ g := List.mem_append_left _ h
  simpa [List.contains_eq_mem] using this
 have hfree0 : ∀ bk q, (E.fz F).ω bk = some q → (∀ B j, q = .cell B j → g.contains B = false) → (∀ B, q = .box B → g.contains B = false) → ω0 bk = none := by
  intro bk q hq h1 h2
  cases ho : ω0 bk with
  | none => rfl
  | some q0 =>
   obtain ⟨⟨q', hq', hc⟩, _⟩ := hω0 bk q0 ho
   rw [hq] at hq'
   cases hq'
   rcases hc with ⟨B, j, he, hm⟩ | ⟨B, he, hm⟩
   ·have := h1 B j he; rw [hgm B hm] at this; cases this
   ·have := h2 B he; rw [hgm B hm] at this; cases this
 have hnone1 : ∀ bk, bk < E.w.heap.size → ω0 bk = none → E1.ω bk = none := by
  intro bk h hn
  cases ho : E1.ω bk with
  | none => rfl
  | some q =>
   rcases hI.fr.own bk q ho with h1 | h1
   ·exact absurd h (by have h1' : E.w.heap.size ≤ bk := h1; omega)
   ·exact absurd hn h1
 classical
 let ω3 : Nat → Option Place := fun bk => match E1.ω bk with
  | some (.slot t π) => if t = 0 then some (.slot (d.getD 0) π) else none
  | some (.cell i j) => (u.lookup i).map fun B => .cell B j
  | some (.box i) => (u.lookup i).map .box
  | some .no => none
  | none => if ω0 bk = none then (E.fz F).ω bk else none
 let β3 : Nat → Nat := fun id => match (swapL u).lookup id with | some i => E1.β i | none => E.β id
 have hω3 : ∀ bk q, (E.fz F).ω bk = some q → ω0 bk = none → ω3 bk = some q := by
  intro bk q h h0
  have := hnone1 bk (I1.rel.own bk q h) h0
  simp only [ω3, this, h0, if_true, h]
 have hβold : ∀ i B, (i, B) ∈ m → E1.β i = E.β B := by
  intro i B h
  rw [hI.fr.beta i (pk _ h)]
  have := nodup_lookup pn1 _ h
  simp only at this
  show β0 i = _
  simp [β0, this]
 have hβu : ∀ i B, (i, B) ∈ u → β3 B = E1.β i := by
  intro i B h
  have := swap_lookup hnd2 h
  simp [β3, this]
 have hβn : ∀ B, g.contains B = false → β3 B = E.β B := by
  intro B h
  cases hs : (swapL u).lookup B with
  | none => simp [β3, hs]
  | some i =>
   have hm : B ∈ u.map (·.2) := List.mem_map.2 ⟨_, swap_mem hs, rfl⟩
   rw [hu2] at hm
   have : g.contains B = true := by simpa [List.contains_eq_mem] using hm
   rw [this] at h; cases h
 let st2 : St := Go.AM.killO nw (((E.fz F).st.take (givenQ g)).dropB g)
 let E4 : Env := { (E.fz F).take (givenQ g) with st := st2 }
 have R4 : Rel C.N E4 := I4.rel
 let E3 : Env := ⟨E1.w, β3, ω3, E1.Pub, st2.addB (takenL u bx' u), E.tm⟩
 let SP : Place → Prop := fun q => (∀ B, q ≠ .box B) ∧ ∀ B j, q = .cell B j → g.contains B = false
 let SB : Nat → Prop := fun i => ∀ e, nw = some e → i ≠ e.2
 have hE4ω : ∀ bk q, E4.ω bk = some q → SP q ∨ (∃ B, q = .box B ∧ g.contains B = false) → (E.fz F).ω bk = some q ∧ ω0 bk = none := by
  intro bk q h hq
  have h' : (match (E.fz F).ω bk with | some q => some ((givenQ g q).getD q) | none => none) = some q := h
  split at h'
  ·rename_i q' hq'
   have h2 := Option.some.inj h'
   have hg : givenQ g q' = none := by
    cases hgq : givenQ g q' with
    | none => rfl
    | some q2 =>
     exfalso
     have h3 : q2 = q := by rw [hgq] at h2; exact h2
     unfold givenQ at hgq
     split at hgq
     ·rename_i id j
      split at hgq
      ·rename_i hc
       cases hgq
       rcases hq with hq | ⟨B, hq, hB⟩
       ·exact hq.1 id h3.symm
       ·rw [← h3] at hq; cases hq; rw [hc] at hB; cases hB
      ·cases hgq
     ·cases hgq
   rw [hg] at h2
   have h2 : q' = q := h2
   subst h2
   refine ⟨hq', hfree0 bk q' hq' (fun B j he => ?_) fun B he => ?_⟩
   ·subst he
    cases hc : g.contains B with
    | false => rfl
    | true =>
     have hg' : (if g.contains B then some (Place.box B) else none) = none := hg
     rw [if_pos hc] at hg'; cases hg'
   ·rcases hq with hq | ⟨B', hq, hB⟩
    ·exact absurd he (hq.1 B)
    ·rw [hq] at he; cases he; exact hB
  ·cases h'
 have hboxes : ∀ id cs, st2.boxes id = some cs → g.contains id = false := by
  intro id cs h
  cases hc : g.contains id with
  | false => rfl
  | true =>
   exfalso
   have h1 : (((E.fz F).st.take (givenQ g)).dropB g).boxes id = none := by
    show (if g.contains id then none else _) = none
    rw [if_pos hc]
   cases hnw : nw with
   | none =>
    have : st2 = ((E.fz F).st.take (givenQ g)).dropB g := by show Go.AM.killO nw _ = _; rw [hnw]; rfl
    rw [this, h1] at h; cases h
   | some e =>
    have : st2 = (((E.fz F).st.take (givenQ g)).dropB g).killB e.2 := by show Go.AM.killO nw _ = _; rw [hnw]; rfl
    rw [this] at h
    have h2 : Option.map (AV.trC (killBLeaf e.2) id 0) ((((E.fz F).st.take (givenQ g)).dropB g).boxes id) = some cs := h
    rw [h1] at h2; cases h2
 have hadd : ∀ id, g.contains id = false → (takenL u bx' u).lookup id = none := by
  intro id h
  refine takenL_none ?_
  rw [hu2]
  simpa [List.contains_eq_mem] using h
 have hst : Stays SP SB E4 E3 := by
  refine ⟨fun bk h => ?_, fun bk q hq h => ?_, fun id hid => ?_, fun q w sz xs hq hab hc => ?_, fun q sz xs hq hab => ?_⟩
  ·have hpub := I1.rel.pub bk h
   refine ⟨hp1 bk h, hold bk hpub.1 ?_⟩
   cases ho : ω0 bk with
   | none => rfl
   | some q0 =>
    obtain ⟨⟨q', hq', _⟩, _⟩ := hω0 bk q0 ho
    rw [hpub.2] at hq'; cases hq'
  ·obtain ⟨h1, h2⟩ := hE4ω bk q h (.inl hq)
   exact ⟨hω3 bk q h1 h2, hold bk (I1.rel.own bk q h1) h2⟩
  ·show β3 id = E.β id
   cases hs : (swapL u).lookup id with
   | none => simp [β3, hs]
   | some i =>
    have hm := swap_mem hs
    rw [hβu i id hm]
    rcases List.mem_append.1 hm with h1 | h1
    ·exact hβold i id h1
    ·cases hnw : nw with
     | none => rw [hnw] at h1; simp at h1
     | some e =>
      rw [hnw] at h1
      simp at h1
      exact absurd (by rw [← h1]) (hid e hnw)
  ·cases q with
   | slot t π => exact hc
   | cell id j =>
    have hgc := hq.2 id j rfl
    have hb : ∃ cs, st2.boxes id = some cs := by
     cases hbx : st2.boxes id with
     | some cs => exact ⟨cs, rfl⟩
     | none =>
      have hab' : ((st2.boxes id).getD []).getD j .any = .sl .own sz xs := hab
      rw [hbx] at hab'; simp at hab'
    obtain ⟨cs, hb⟩ := hb
    obtain ⟨g1, _⟩ := R4.boxes id cs hb
    obtain ⟨h1, h2⟩ := hE4ω _ _ g1 (.inr ⟨id, rfl, hgc⟩)
    have hc' : E.w.cell? ⟨E.β id, j, none⟩ = some w := hc
    show E1.w.cell? ⟨β3 id, j, none⟩ = some w
    rw [hβn id hgc, cell_same (hold _ (cell_lt hc') h2)]; exact hc'
   | box _ => simp [Env.con] at hc
   | no => simp [Env.con] at hc
  ·cases q with
   | slot t π => exact hab
   | cell id j =>
    have hgc := hq.2 id j rfl
    show ((match (takenL u bx' u).lookup id with | some cs => some cs | none => st2.boxes id).getD []).getD j .any = _
    rw [hadd id hgc]; exact hab
   | box _ => simp [St.abs] at hab
   | no => simp [St.abs] at hab
 have hq3 : ∀ q sz xs, (((E.fz F).st.take (givenQ g)).dropB g).abs q = .sl .own sz xs → SP q := by
  intro q sz xs h
  refine ⟨fun B e => by subst e; simp [St.abs] at h, fun B j e => ?_⟩
  subst e
  cases hc : g.contains B with
  | false => rfl
  | true =>
   exfalso
   have h1 : (((E.fz F).st.take (givenQ g)).dropB g).boxes B = none := by
    show (if g.contains B then none else _) = none
    rw [if_pos hc]
   simp [St.abs, h1] at h
 have hno : SP .no := ⟨by simp, by simp⟩
 have hleanS : ∀ t, Leans SP SB (.slot t []) (st2.slots t) := by
  intro t
  have h := I3.rel.leansSlot hq3 hno t
  cases hnw : nw with
  | none =>
   have e1 : SB = fun _ => True := by funext i; simp [SB, hnw]
   have : st2 = ((E.fz F).st.take (givenQ g)).dropB g := by show Go.AM.killO nw _ = _; rw [hnw]; rfl
   rw [e1, this]; exact h
  | some e =>
   have e1 : SB = fun i => i ≠ e.2 := by funext i; simp [SB, hnw]
   have : st2 = (((E.fz F).st.take (givenQ g)).dropB g).killB e.2 := by show Go.AM.killO nw _ = _; rw [hnw]; rfl
   rw [e1, this]; exact h.killB
 have hleanC : ∀ id cs j c, st2.boxes id = some cs → cs[j]? = some c → Leans SP SB (.cell id j) c := by
  intro id cs j c hb hj
  cases hnw : nw with
  | none =>
   have e1 : SB = fun _ => True := by funext i; simp [SB, hnw]
   have : st2 = ((E.fz F).st.take (givenQ g)).dropB g := by show Go.AM.killO nw _ = _; rw [hnw]; rfl
   rw [e1]; rw [this] at hb; exact I3.rel.leansCell hq3 hno hb hj
  | some e =>
   have e1 : SB = fun i => i ≠ e.2 := by funext i; simp [SB, hnw]
   have : st2 = (((E.fz F).st.take (givenQ g)).dropB g).killB e.2 := by show Go.AM.killO nw _ = _; rw [hnw]; rfl
   rw [e1]; rw [this] at hb
   simp only [St.killB, St.tr, Option.map_eq_some_iff] at hb
   obtain ⟨cs0, hb0, rfl⟩ := hb
   rw [AV.trC_get] at hj
   obtain ⟨c0, hc0, rfl⟩ := Option.map_eq_some_iff.1 hj
   have := (I3.rel.leansCell hq3 hno hb0 hc0).killB (id := e.2)
   simpa only [Nat.zero_add] using this
 have hsz : E.w.heap.size ≤ E1.w.heap.size := hI.fr.size
 have hω3s : ∀ bk q, ω3 bk = some q → (∃ q', E1.ω bk = some q') ∨ (ω0 bk = none ∧ ∃ q', (E.fz F).ω bk = some q') := by
  intro bk q h
  cases ho : E1.ω bk with
  | some q' => exact .inl ⟨q', rfl⟩
  | none =>
   simp only [ω3, ho] at h
   split at h
   ·rename_i h0; exact .inr ⟨h0, q, h⟩
   ·cases h
 have R3 : Rel C.N E3 := by
  refine ⟨I.rel.size, fun t => (R4.slots t).mono hst (hleanS t), fun id cs h => ?_, fun bk h => ⟨(hI.rel.pub bk h).1, ?_⟩, fun bk q h => ?_, fun id h hm => ?_, hI.rel.gl⟩
  ·have h' : (match (takenL u bx' u).lookup id with | some cs => some cs | none => st2.boxes id) = some cs := h
   cases ht : (takenL u bx' u).lookup id with
   | some cs1 =>
    rw [ht] at h'
    cases h'
    obtain ⟨i, cs', hm, hb, rfl⟩ := takenL_get hnd2 id cs ht
    obtain ⟨g1, arr, T, g2, g3, g4⟩ := hI.rel.boxes i cs' (by rw [hst1]; exact hb)
    have hlk := nodup_lookup hnd1 _ hm
    simp only at hlk
    have hbeta := hβu i id hm
    refine ⟨?_, arr, T, by show E1.w.heap[β3 id]? = _; rw [hbeta]; exact g2, by rw [g3, List.length_map], fun j c hj => ?_⟩
    ·show ω3 (β3 id) = _
     rw [hbeta]
     simp [ω3, g1, hlk]
    ·rw [List.getElem?_map] at hj
     obtain ⟨c0, hc0, rfl⟩ := Option.map_eq_some_iff.1 hj
     refine Val.renCell (E := E1) (E' := E3) (fun bk h => ⟨h, rfl⟩) (fun i' B h => hβu i' B (lookup_mem h)) i id j (fun bk hbk => ⟨?_, rfl⟩) (g4 j c0 hc0) ?_ .no
     ·show ω3 bk = _
      simp [ω3, hbk, hlk]
     ·have := List.all_eq_true.1 hstill _ (lookup_mem hb)
      exact List.all_eq_true.1 this c0 (List.mem_of_getElem? hc0)
   | none =>
    rw [ht] at h'
    have h'' : st2.boxes id = some cs := h'
    have hgc := hboxes id cs h''
    obtain ⟨g1, arr, T, g2, g3, g4⟩ := R4.boxes id cs h''
    obtain ⟨h1, h2⟩ := hE4ω _ _ g1 (.inr ⟨id, rfl, hgc⟩)
    have hbeta : E3.β id = E4.β id := hβn id hgc
    refine ⟨by rw [hbeta]; exact hω3 _ _ h1 h2, arr, T, ?_, g3, fun j c hj => (g4 j c hj).mono hst (hleanC id cs j c h'' hj)⟩
    rw [hbeta]
    exact (hold _ (I1.rel.own _ _ h1) h2).trans g2
  ·show ω3 bk = none
   have h1 := (hI.rel.pub bk h).2
   simp only [ω3, h1]
   rcases hp2 bk h with h | h | h
   ·rw [(I1.rel.pub bk h).2]; simp
   ·have h' : E.w.heap.size ≤ bk := h
    cases ho : (E.fz F).ω bk with
    | none => simp
    | some q => have := I1.rel.own bk q ho; have h2 : bk < E.w.heap.size := this; omega
   ·rw [if_neg h]
  ·show bk < E1.w.heap.size
   rcases hω3s bk q h with ⟨q', hq'⟩ | ⟨_, q', hq'⟩
   ·exact hI.rel.own bk q' hq'
   ·exact Nat.lt_of_lt_of_le (I1.rel.own bk q' hq') hsz
  ·obtain ⟨cs, hc⟩ := Option.isSome_iff_exists.1 h
   have h' : (match (takenL u bx' u).lookup id with | some cs => some cs | none => st2.boxes id) = some cs := hc
   show β3 id + parkM = id
   cases ht : (takenL u bx' u).lookup id with
   | some cs1 =>
    obtain ⟨i, cs', hm1, hb, rfl⟩ := takenL_get hnd2 id cs1 ht
    rw [hβu i id hm1]
    rcases List.mem_append.1 hm1 with h1 | h1
    ·have := pkB _ h1
     unfold parkM at hm
     simp only at this
     omega
    ·have hnw : nw = some (i, id) := by
      cases hn : nw with
      | none => rw [hn] at h1; simp at h1
      | some e => rw [hn] at h1; simp at h1; rw [h1]
     have h2 := (pnew _ hnw).2.2.2
     simp only at h2
     unfold parkM at hm
     have h3 : i = id := by omega
     subst h3
     exact hI.rel.abs i (by rw [hst1]; show (bx'.lookup i).isSome = true; rw [hb]; rfl) hm
   | none =>
    rw [ht] at h'
    have h'' : st2.boxes id = some cs := h'
    have hgc := hboxes id cs h''
    have hbeta : E3.β id = E4.β id := hβn id hgc
    show E3.β id + parkM = id
    rw [hbeta]
    exact R4.abs id (by rw [show E4.st.boxes id = st2.boxes id from rfl, h'']; rfl) hm
 have hFr : Fr S E3 := by
  refine ⟨hI.fr.os.trans I.fr.os, hI.fr.tape.trans I.fr.tape, hI.fr.output.trans I.fr.output, Nat.le_trans I.fr.size hsz, fun kk hk hn => ?_, fun kk q h => ?_, fun bk h => hp1 bk (I1.fr.pub0 bk h), fun bk h => ?_, fun id hid => ?_⟩
  ·refine (hold kk (Nat.lt_of_lt_of_le hk I.fr.size) ?_).trans (I.fr.block kk hk hn)
   cases ho : ω0 kk with
   | none => rfl
   | some q0 =>
    obtain ⟨⟨q', hq', _⟩, _⟩ := hω0 kk q0 ho
    rcases I1.fr.own kk q' hq' with h1 | h1
    ·omega
    ·exact absurd h1 hn
  ·rcases hω3s kk q h with ⟨q', hq'⟩ | ⟨_, q', hq'⟩
   ·rcases hI.fr.own kk q' hq' with h1 | h1
    ·exact .inl (Nat.le_trans I.fr.size h1)
    ·cases ho : ω0 kk with
     | none => exact absurd ho h1
     | some q0 =>
      obtain ⟨⟨q2, hq2, _⟩, _⟩ := hω0 kk q0 ho
      exact I1.fr.own kk q2 hq2
   ·exact I1.fr.own kk q' hq'
  ·rcases hp2 bk h with h | h | h
   ·exact I1.fr.pub1 bk h
   ·exact .inr (.inl (Nat.le_trans I.fr.size h))
   ·cases ho : ω0 bk with
    | none => exact absurd ho h
    | some q0 =>
     obtain ⟨⟨q2, hq2, _⟩, _⟩ := hω0 bk q0 ho
     rcases I1.fr.own bk q2 hq2 with h1 | h1
     ·exact .inr (.inl h1)
     ·exact .inr (.inr h1)
  ·show β3 id = S.β0 id
   rw [← I.fr.beta id hid]
   cases hs : (swapL u).lookup id with
   | none => simp [β3, hs]
   | some i =>
    have hm := swap_mem hs
    rw [hβu i id hm]
    rcases List.mem_append.1 hm with h1 | h1
    ·exact hβold i id h1
    ·cases hnw : nw with
     | none => rw [hnw] at h1; simp at h1
     | some e =>
      rw [hnw] at h1
      simp at h1
      have := (pnew e hnw).2.1
      rw [← h1] at this
      simp only at this
      omega
 cases d with
 | none => exact ⟨E3, rfl, rfl, ⟨R3, hFr⟩, rfl, hK⟩
 | some d =>
  obtain ⟨hd, hfree, hK⟩ := hK
  obtain ⟨_, hR⟩ := R3.put (fun _ => False) (fun _ _ _ _ h => h) (fun _ h => h) (fun h => h) E1.w ω3 E1.Pub d (r.ren fun i => u.lookup i) v hd (fun π sz xs => free_noOwn π hfree) (fun _ _ _ => rfl) (fun _ _ h => h) (fun _ h => h) R3.pub R3.own
  have hfin := hR (Val.renSlot (E := E1) (E' := ⟨E1.w, β3, ω3, E1.Pub, E3.st.put d (r.ren fun i => u.lookup i), E.tm.setIfInBounds d v⟩) (fun bk h => ⟨h, rfl⟩) (fun i' B h => hβu i' B (lookup_mem h)) 0 d (fun bk π h => ⟨by simp [ω3, h], rfl⟩) hr htidy [] .no rfl)
  exact ⟨⟨E1.w, β3, ω3, E1.Pub, E3.st.put d (r.ren fun i => u.lookup i), E.tm.setIfInBounds d v⟩, rfl, rfl, ⟨hfin, ⟨hFr.os, hFr.tape, hFr.output, hFr.size, hFr.block, hFr.own, hFr.pub0, hFr.pub1, hFr.beta⟩⟩, rfl, hK⟩
end
end Go.AM
namespace Go.AM
def HProc (P : Program) (f sz : Nat) (xs : List (List AV)) (rest : List AV) (xs' : List (List AV)) : Prop :=
 (∃ fn c, P.funcs[f]? = some fn ∧ fn.body = some c ∧ (fn.name == "runtime.NumGoroutine") = false) ∧
 ∀ (w : World) (β : Nat → Nat) (Pub : Nat → Prop) (bk cap : Nat) (T : TypeId) (cells : Array Value) (vs : Array Value),
  w.heap[bk]? = some (.cells cells T (0, 0)) → cells.size = cap * sz → xs.length ≤ cap → Row Pub w bk 0 sz xs → (∀ b, Pub b → b < w.heap.size ∧ b ≠ bk) → Gl Pub w →
  rest.length = vs.size → (∀ (k : Nat) c, rest[k]? = some c → Val ⟨w, β, fun _ => none, Pub, St.ofBoxes [], #[]⟩ .no c (vs.getD k undef)) →
  Calls P f (#[.slice (some ⟨bk, 0, none⟩) xs.length cap] ++ vs) w fun e w' => ∃ cells' T' Pub', e = .returned (.slice (some ⟨bk, 0, none⟩) xs'.length cap) ∧ xs'.length ≤ cap ∧ cells'.size = cap * sz ∧
   w'.heap[bk]? = some (.cells cells' T' (0, 0)) ∧ (∀ b, b < w.heap.size → b ≠ bk → w'.heap[b]? = w.heap[b]?) ∧ w.heap.size ≤ w'.heap.size ∧ SameOs w' w ∧ w'.tape = w.tape ∧ w'.output = w.output ∧
   (∀ b, Pub b → Pub' b) ∧ (∀ b, Pub' b → Pub b ∨ w.heap.size ≤ b ∧ b < w'.heap.size) ∧ Row Pub' w' bk 0 sz xs'
def LProc (P : Program) (f sz : Nat) (xs : List (List AV)) (rest : List AV) (xs' : List (List AV)) : Prop :=
 (∃ fn c, P.funcs[f]? = some fn ∧ fn.body = some c ∧ (fn.name == "runtime.NumGoroutine") = false) ∧
 ∀ (w : World) (β : Nat → Nat) (Pub : Nat → Prop) (bk cap : Nat) (T : TypeId) (cells : Array Value) (vs : Array Value),
  w.heap[bk]? = some (.cells cells T (0, 0)) → cells.size = cap * sz → xs.length ≤ cap → Row Pub w bk 0 sz xs → (∀ b, Pub b → b < w.heap.size ∧ b ≠ bk) → Gl Pub w →
  rest.length = vs.size → (∀ (k : Nat) c, rest[k]? = some c → Val ⟨w, β, fun _ => none, Pub, St.ofBoxes [], #[]⟩ .no c (vs.getD k undef)) →
  Calls P f (#[.slice (some ⟨bk, 0, none⟩) xs.length cap] ++ vs) w fun e w' => ∃ cells' T' Pub', e = .returned (.tuple #[]) ∧ xs'.length = xs.length ∧ cells'.size = cap * sz ∧
   w'.heap[bk]? = some (.cells cells' T' (0, 0)) ∧ (∀ b, b < w.heap.size → b ≠ bk → w'.heap[b]? = w.heap[b]?) ∧ w.heap.size ≤ w'.heap.size ∧ SameOs w' w ∧ w'.tape = w.tape ∧ w'.output = w.output ∧
   (∀ b, Pub b → Pub' b) ∧ (∀ b, Pub' b → Pub b ∨ w.heap.size ≤ b ∧ b < w'.heap.size) ∧ Row Pub' w' bk 0 sz xs'
def acallH (C : Cx) (st : St) (d f : Nat) (args : List AV) (K : St → Prop) : Prop :=
 match args with
 | .sl (.vw q true) sz xs :: rest => ∃ xs', HProc C.P f sz xs (rest.map AV.argz) xs' ∧ xs ≠ [] ∧ AV.resOkN noQ noF rest = true ∧ d < C.N ∧ K ((st.take (appendQ d q)).put d (.sl .own sz xs'))
 | _ => False
def acallL (C : Cx) (st : St) (d f : Nat) (args : List AV) (K : St → Prop) : Prop :=
 match args with
 | .sl (.vw (.slot t []) true) sz xs :: rest => ∃ xs', LProc C.P f sz xs (rest.map AV.argz) xs' ∧ xs ≠ [] ∧ AV.resOkN noQ noF rest = true ∧ d < C.N ∧ d ≠ t ∧ ((st.take (selfTake (.slot t []))).slots d).free = true ∧
   K (((st.take (selfTake (.slot t []))).put t (.sl .own sz xs')).put d (.tup []))
 | _ => False
section
variable {C : Cx} {S : Start} {E : Env}
theorem acallH_sound (I : Inv C.N S E) {d f : Nat} {args : List AV} {vs : Array Value} {K : St → Prop} (hl : args.length = vs.size) (hf : AV.freeL args = true)
  (hv : ∀ (k : Nat) c, args[k]? = some c → Val E .no c (vs.getD k undef)) (h : acallH C E.st d f args K) :
  (∃ fn c, C.P.funcs[f]? = some fn ∧ fn.body = some c ∧ (fn.name == "runtime.NumGoroutine") = false) ∧
  Calls C.P f vs E.w fun e w' => ∃ v E', e = .returned v ∧ E'.w = w' ∧ Inv C.N S E' ∧ E'.tm = E.tm.setIfInBounds d v ∧ K E'.st := by
 unfold acallH at h
 split at h
 ·rename_i q sz xs rest
  obtain ⟨xs', ⟨hfn, hP⟩, hne, hok, hdN, hK⟩ := h
  refine ⟨hfn, ?_⟩
  simp only [AV.freeL, Bool.and_eq_true] at hf
  generalize hQ : appendQ d q = Q at hK
  have hQb : ∀ id, Q (.box id) = none := fun id => by rw [← hQ]; rfl
  have h0 := hv 0 _ rfl
  have hat : ∃ sz' xs', E.st.abs q = .sl .own sz' xs' := by
   generalize vs.getD 0 undef = v0 at h0
   cases h0 with
   | sl0 _ _ _ _ ha => exact ha
   | sl _ _ _ _ _ _ _ _ _ _ ha => exact ha
  have hqb : ∀ id, q ≠ .box id := by
   intro id e; subst e
   obtain ⟨_, _, h⟩ := hat
   simp [St.abs] at h
  have hQq : Q q = some (.slot d []) := by
   rw [← hQ]
   cases q <;> first | (exact absurd rfl (hqb _)) | simp [appendQ]
  have I1 := I.take Q hQb
  have hno : NoOwn ((E.take Q).st.slots d) := take_noOwn E.st Q d fun π => by
   rw [← hQ]; simp only [appendQ]; split
   ·rfl
   ·simp [isSlotOf]
  obtain ⟨bk, cap, hvs0, hcap, hown, hrow, hroom⟩ : ∃ bk cap, vs.getD 0 undef = .slice (some ⟨bk, 0, none⟩) xs.length cap ∧ xs.length ≤ cap ∧ (E.take Q).ω bk = some (.slot d []) ∧ Row E.Pub E.w bk 0 sz xs ∧ Room E.w bk 0 (cap * sz) := by
   generalize hv0 : vs.getD 0 undef = v0 at h0
   cases h0 with
   | sl0 => exact absurd rfl hne
   | sl _ _ _ _ bk off cap hcap hrow hg _ =>
    obtain ⟨g1, g2⟩ := hg
    obtain ⟨g3, g4⟩ := g2 rfl
    have hroom := exact_room I.rel g3 g4
    obtain ⟨_, _, _, ho, _⟩ := id hroom
    subst ho
    exact ⟨bk, cap, rfl, hcap, by simp [Env.take, g1, hQq], hrow, hroom⟩
  obtain ⟨cur, T, hcur, _, hcs⟩ := hroom
  have hpb : ∀ b, E.Pub b → b ≠ bk := fun b h e => by have := (I1.rel.pub b h).2; rw [e, hown] at this; cases this
  have hvs : vs = #[.slice (some ⟨bk, 0, none⟩) xs.length cap] ++ vs.extract 1 vs.size := by
   apply Array.ext'
   have : 0 < vs.size := by rw [← hl]; simp
   cases hvl : vs.toList with
   | nil => rw [← Array.length_toList, hvl] at this; simp at this
   | cons v l =>
    have h1 : vs.getD 0 undef = v := by rw [Array.getD_eq_getD_getElem?, ← Array.getElem?_toList, hvl]; rfl
    rw [h1] at hvs0
    subst hvs0
    rw [Array.toList_append, Array.toList_extract, List.extract_eq_take_drop, hvl]
    simp
    rw [← Array.length_toList, hvl]; simp
  have hrl : (rest.map AV.argz).length = (vs.extract 1 vs.size).size := by
   simp at hl ⊢; omega
  rw [hvs]
  refine (hP E.w E.β E.Pub bk cap T cur _ hcur hcs hcap hrow (fun b hb => ⟨(I.rel.pub b hb).1, hpb b hb⟩) I.rel.gl hrl (fun k c hk => ?_)).mono ?_
  ·rw [List.getElem?_map] at hk
   obtain ⟨c0, hc0, rfl⟩ := Option.map_eq_some_iff.1 hk
   have h1 := hv (k + 1) c0 (by simpa using hc0)
   have h2 : (vs.extract 1 vs.size).getD k undef = vs.getD (k + 1) undef := by
    rw [Array.getD_eq_getD_getElem?, Array.getD_eq_getD_getElem?, Array.getElem?_extract]
    split
    ·rw [Nat.add_comm]
    ·rename_i hge
     rw [Array.getElem?_eq_none (by omega)]
   rw [h2]
   exact Val.argz (fun _ h => h) (fun _ _ _ h => by cases h) h1 (AV.freeL_iff.1 hf.2 c0 (List.mem_of_getElem? hc0)) .no (AV.resOkN_get hok k c0 hc0) .no
  ·rintro e w' ⟨cells', T', Pub', rfl, hcap', hcs', hset, hoth, hsz, hos, htp, hout, hp0, hp1, hrow'⟩
   have hpn : ∀ b, Pub' b → b < w'.heap.size ∧ (E.take Q).ω b = none := fun b h => by
    rcases hp1 b h with h | ⟨h1, h2⟩
    ·exact ⟨Nat.lt_of_lt_of_le (I1.rel.pub b h).1 hsz, (I1.rel.pub b h).2⟩
    ·refine ⟨h2, ?_⟩
     cases ho : (E.take Q).ω b with
     | none => rfl
     | some q' => have h3 : b < E.w.heap.size := I1.rel.own b q' ho; omega
   obtain ⟨_, hR⟩ := I1.rel.put (fun q => q = .slot d []) (fun q sz xs' ha he => by subst he; exact hno [] sz xs' ha) (fun id => by simp) (by simp) w' (E.take Q).ω Pub' d (.sl .own sz xs')
    (.slice (some ⟨bk, 0, none⟩) xs'.length cap) hdN hno
    (fun b hb hnd => hoth b hb fun e => by subst e; exact hnd _ hown rfl) (fun _ _ h => h) hp0 hpn (fun b q h => Nat.lt_of_lt_of_le (I1.rel.own b q h) hsz)
   refine ⟨_, ⟨w', E.β, (E.take Q).ω, Pub', (E.take Q).st.put d (.sl .own sz xs'), E.tm.setIfInBounds d (.slice (some ⟨bk, 0, none⟩) xs'.length cap)⟩, rfl, rfl, ⟨hR ?_, ⟨hos.trans I.fr.os, htp.trans I.fr.tape, hout.trans I.fr.output, Nat.le_trans I.fr.size hsz, fun k hk hn => ?_, I1.fr.own, fun b h => hp0 b (I.fr.pub0 b h), fun b h => (hp1 b h).elim (I.fr.pub1 b) fun h2 => .inr (.inl (Nat.le_trans I.fr.size h2.1)), I.fr.beta⟩⟩, rfl, hK⟩
   ·exact .sl _ .own sz xs' bk 0 cap hcap' hrow' ⟨hown, cells', T', hset, rfl, hcs'⟩ trivial
   ·show w'.heap[k]? = _
    rw [hoth k (Nat.lt_of_lt_of_le hk I.fr.size) fun e => ?_]
    ·exact I.fr.block k hk hn
    ·have := I1.fr.own bk _ hown
     rcases this with h | h
     ·omega
     ·exact hn (e ▸ h)
 ·exact h.elim
theorem args_split {vs : Array Value} {v : Value} (h0 : vs.getD 0 undef = v) (hpos : 0 < vs.size) : vs = #[v] ++ vs.extract 1 vs.size := by
 apply Array.ext'
 cases hvl : vs.toList with
 | nil => rw [← Array.length_toList, hvl] at hpos; simp at hpos
 | cons u l =>
  have h1 : vs.getD 0 undef = u := by rw [Array.getD_eq_getD_getElem?, ← Array.getElem?_toList, hvl]; rfl
  rw [h1] at h0
  subst h0
  rw [Array.toList_append, Array.toList_extract, List.extract_eq_take_drop, hvl]
  simp
  rw [← Array.length_toList, hvl]; simp
theorem args_rest {vs : Array Value} (k : Nat) : (vs.extract 1 vs.size).getD k undef = vs.getD (k + 1) undef := by
 rw [Array.getD_eq_getD_getElem?, Array.getD_eq_getD_getElem?, Array.getElem?_extract]
 split
 ·rw [Nat.add_comm]
 ·rename_i hge
  rw [Array.getElem?_eq_none (by omega)]
theorem acallL_sound (I : Inv C.N S E) {d f : Nat} {args : List AV} {vs : Array Value} {K : St → Prop} (hl : args.length = vs.size) (hf : AV.freeL args = true)
  (hv : ∀ (k : Nat) c, args[k]? = some c → Val E .no c (vs.getD k undef)) (h : acallL C E.st d f args K) :
  (∃ fn c, C.P.funcs[f]? = some fn ∧ fn.body = some c ∧ (fn.name == "runtime.NumGoroutine") = false) ∧
  Calls C.P f vs E.w fun e w' => ∃ v E', e = .returned v ∧ E'.w = w' ∧ Inv C.N S E' ∧ E'.tm = E.tm.setIfInBounds d v ∧ K E'.st := by
 unfold acallL at h
 split at h
 ·rename_i t sz xs rest
  obtain ⟨xs', ⟨hfn, hP⟩, hne, hok, hdN, hdt, hdf, hK⟩ := h
  refine ⟨hfn, ?_⟩
  simp only [AV.freeL, Bool.and_eq_true] at hf
  have hqb : ∀ id, selfTake (.slot t []) (.box id) = none := fun id => by unfold selfTake; rw [if_neg (by simp)]
  have I2 := I.take (selfTake (.slot t [])) hqb
  generalize hE2 : E.take (selfTake (.slot t [])) = E2 at I2
  have hst2 : E2.st = E.st.take (selfTake (.slot t [])) := by rw [← hE2]; rfl
  have h0 := hv 0 _ rfl
  have hne0 : ∀ v n c, vs.getD 0 undef = v → v = .slice none n c → xs ≠ [] := fun _ _ _ _ _ => hne
  obtain ⟨bk, cap, hvs0, hcap, hω, hcon, hab, hrow, hroom⟩ : ∃ bk cap, vs.getD 0 undef = .slice (some ⟨bk, 0, none⟩) xs.length cap ∧ xs.length ≤ cap ∧ E.ω bk = some (.slot t []) ∧ E.con (.slot t []) = some (.slice (some ⟨bk, 0, none⟩) xs.length cap) ∧
    E.st.abs (.slot t []) = .sl .own sz xs ∧ Row E.Pub E.w bk 0 sz xs ∧ Room E.w bk 0 (cap * sz) := by
   generalize hv0 : vs.getD 0 undef = v0 at h0
   cases h0 with
   | sl0 => exact absurd rfl hne
   | sl _ _ _ _ bk off cap hcap hrow hg _ =>
    obtain ⟨g1, g2⟩ := hg
    obtain ⟨g3, g4⟩ := g2 rfl
    have hroom := exact_room I.rel g3 g4
    obtain ⟨_, _, _, ho, _⟩ := id hroom
    subst ho
    exact ⟨bk, cap, rfl, hcap, g1, g3, g4, hrow, hroom⟩
  obtain ⟨cur, T, hcur, _, hcs⟩ := hroom
  have hpb : ∀ b, E.Pub b → b ≠ bk := fun b h e => by have := (I.rel.pub b h).2; rw [e, hω] at this; cases this
  have htN : t < C.N := by
   rcases Nat.lt_or_ge t C.N with h | h
   ·exact h
   ·have : E.tm.getD t undef = undef := by rw [Array.getD_eq_getD_getElem?, Array.getElem?_eq_none (by rw [I.rel.size]; exact h)]; rfl
    have hcon' : some (E.tm.getD t undef) = some _ := hcon
    rw [this] at hcon'; cases hcon'
  have htm : E.tm.getD t undef = .slice (some ⟨bk, 0, none⟩) xs.length cap := Option.some.inj hcon
  have hsl : E2.st.slots t = .any := by
   rw [hst2]
   show (E.st.slots t).tr (takeLeaf (selfTake (.slot t []))) (.slot t []) = .any
   have hs0 : E.st.slots t = .sl .own sz xs := hab
   rw [hs0]
   simp [AV.tr, takeLeaf, selfTake]
  have hω2 : E2.ω bk = some (.slot t []) := by
   rw [← hE2]
   show (match E.ω bk with | some q' => some ((selfTake (.slot t []) q').getD q') | none => none) = _
   simp [hω, selfTake]
  have hdead : ∀ p sz xs, E2.st.abs p = .sl .own sz xs → ¬ p = .slot t [] := by
   intro p sz' xs' ha he
   subst he
   have : E2.st.abs (.slot t []) = E2.st.slots t := rfl
   rw [this, hsl] at ha
   cases ha
  have hrl : (rest.map AV.argz).length = (vs.extract 1 vs.size).size := by
   simp at hl ⊢; omega
  have hw2 : E2.w = E.w := by rw [← hE2]; rfl
  have hP2 : E2.Pub = E.Pub := by rw [← hE2]; rfl
  have hβ2 : E2.β = E.β := by rw [← hE2]; rfl
  have htm2 : E2.tm = E.tm := by rw [← hE2]; rfl
  rw [args_split hvs0 (by rw [← hl]; simp)]
  refine (hP E.w E.β E.Pub bk cap T cur _ hcur hcs hcap hrow (fun b hb => ⟨(I.rel.pub b hb).1, hpb b hb⟩) I.rel.gl hrl (fun k c hk => ?_)).mono ?_
  ·rw [List.getElem?_map] at hk
   obtain ⟨c0, hc0, rfl⟩ := Option.map_eq_some_iff.1 hk
   rw [args_rest]
   exact Val.argz (fun _ h => h) (fun _ _ _ h => by cases h) (hv (k + 1) c0 (by simpa using hc0)) (AV.freeL_iff.1 hf.2 c0 (List.mem_of_getElem? hc0)) .no (AV.resOkN_get hok k c0 hc0) .no
  ·rintro e w' ⟨cells', T', Pub', rfl, hlen', hcs', hset, hoth, hsz, hos, htp, hout, hp0, hp1, hrow'⟩
   have hown : ∀ b q, E2.ω b = some q → b < E.w.heap.size := fun b q h => by have := I2.rel.own b q h; rwa [hw2] at this
   have hpub2 : ∀ b, E.Pub b → b < E.w.heap.size ∧ E2.ω b = none := fun b h => by have := I2.rel.pub b (by rw [hP2]; exact h); rwa [hw2] at this
   have hpn : ∀ b, Pub' b → b < w'.heap.size ∧ E2.ω b = none := fun b h => by
    rcases hp1 b h with h | ⟨h1, h2⟩
    ·exact ⟨Nat.lt_of_lt_of_le (hpub2 b h).1 hsz, (hpub2 b h).2⟩
    ·refine ⟨h2, ?_⟩
     cases ho : E2.ω b with
     | none => rfl
     | some q' => have h3 : b < E.w.heap.size := hown b q' ho; omega
   obtain ⟨_, hR⟩ := I2.rel.put (fun p => p = .slot t []) hdead (fun id => by simp) (by simp) w' E2.ω Pub' t (.sl .own sz xs') (.slice (some ⟨bk, 0, none⟩) xs.length cap) htN (by rw [hsl]; exact NoOwn.any)
    (fun b hb hnd => by rw [hw2] at hb ⊢; exact hoth b hb fun e => by subst e; exact hnd _ hω2 rfl) (fun _ _ h => h) (fun b h => hp0 b (by rwa [hP2] at h)) hpn (fun b q h => Nat.lt_of_lt_of_le (hown b q h) hsz)
   have I3 : Inv C.N S ⟨w', E2.β, E2.ω, Pub', E2.st.put t (.sl .own sz xs'), E2.tm.setIfInBounds t (.slice (some ⟨bk, 0, none⟩) xs.length cap)⟩ := by
    refine ⟨hR ?_, ⟨hos.trans I.fr.os, htp.trans I.fr.tape, hout.trans I.fr.output, Nat.le_trans I.fr.size hsz, fun k hk hn => ?_, I2.fr.own, fun b h => hp0 b (I.fr.pub0 b h), fun b h => (hp1 b h).elim (I.fr.pub1 b) fun h2 => .inr (.inl (Nat.le_trans I.fr.size h2.1)), by rw [hβ2]; exact I.fr.beta⟩⟩
    ·have := Val.sl (E := ⟨w', E2.β, E2.ω, Pub', E2.st.put t (.sl .own sz xs'), E2.tm.setIfInBounds t (.slice (some ⟨bk, 0, none⟩) xs.length cap)⟩) (.slot t []) .own sz xs' bk 0 cap (by rw [hlen']; exact hcap) hrow' ⟨hω2, cells', T', hset, rfl, hcs'⟩ trivial
     rw [hlen'] at this
     exact this
    ·show w'.heap[k]? = _
     rw [hoth k (Nat.lt_of_lt_of_le hk I.fr.size) fun e => ?_]
     ·exact I.fr.block k hk hn
     ·rcases I.fr.own bk _ hω with h | h
      ·omega
      ·exact hn (e ▸ h)
   have I4 := I3.putq d (.tup []) (.tuple #[]) hdN (by
    show NoOwn ((E2.st.put t (.sl .own sz xs')).slots d)
    simp only [St.put, if_neg hdt]
    rw [hst2]
    exact fun π sz xs => free_noOwn π hdf) rfl (.tup _ _ _ rfl (by simp))
   refine ⟨_, _, rfl, rfl, I4, ?_, by rw [hst2]; exact hK⟩
   show (E2.tm.setIfInBounds t _).setIfInBounds d _ = _
   rw [htm2, tm_set_same _ _ _ htm]
 ·exact h.elim
end
end Go.AM
namespace Go.AM
def AV.atom : AV → Bool
 | .b _ | .i _ _ | .s _ | .nil | .nofn => true
 | _ => false
mutual
def AV.flat : AV → Bool
 | .b _ | .i _ _ | .s _ | .nil | .nofn => true
 | .sl .own _ xs => xs.all fun x => x.all AV.atom
 | .agg cs => AV.flatL cs
 | .tup cs => AV.flatL cs
 | _ => false
def AV.flatL : List AV → Bool
 | [] => true
 | x :: xs => x.flat && AV.flatL xs
end
theorem AV.flatL_get : ∀ {cs : List AV}, AV.flatL cs = true → ∀ {k : Nat} {c : AV}, cs[k]? = some c → c.flat = true
 | [], _, k, c, h => by simp at h
 | x :: xs, h, 0, c, hk => by
  simp at hk; subst hk
  simp only [AV.flatL, Bool.and_eq_true] at h; exact h.1
 | x :: xs, h, k + 1, c, hk => by
  simp only [AV.flatL, Bool.and_eq_true] at h
  exact AV.flatL_get h.2 (by simpa using hk)
theorem Dat.atom {Pub Pub' : Nat → Prop} {w w' : World} {c : AV} {u : Value} (h : Dat Pub w c u) (ha : c.atom = true) : Dat Pub' w' c u := by
 cases h <;> first | (simp [AV.atom] at ha; done) | constructor
theorem row_atom {Pub Pub' : Nat → Prop} {w w' : World} {bk off sz : Nat} {xs : List (List AV)} (h : Row Pub w bk off sz xs) (hb : w'.heap[bk]? = w.heap[bk]?) (ha : (xs.all fun x => x.all AV.atom) = true) : Row Pub' w' bk off sz xs := by
 refine ⟨h.1, fun k c hk => ?_⟩
 obtain ⟨u, hu, hd⟩ := h.2 k c hk
 refine ⟨u, by rw [cell_same hb]; exact hu, hd.1.atom ?_, hd.2⟩
 have hm : c ∈ xs.flatten := List.mem_of_getElem? hk
 obtain ⟨x, hx, hc⟩ := List.mem_flatten.1 hm
 rw [List.all_eq_true] at ha
 have := ha x hx
 rw [List.all_eq_true] at this
 exact this c hc
theorem Val.flat {E E' : Env} (d : Nat) (hw : E'.w = E.w) (hω : ∀ bk π, E.ω bk = some (.slot 0 π) → E'.ω bk = some (.slot d π)) {p : Place} {x : AV} {v : Value} (hv : Val E p x v) : x.flat = true → ∀ π0, p = .slot 0 π0 → Val E' (.slot d π0) x v := by
 induction hv with
 | any p v => intro h; simp [AV.flat] at h
 | b p x => exact fun _ _ _ => .b _ x
 | i p k n => exact fun _ _ _ => .i _ k n
 | s p x => exact fun _ _ _ => .s _ x
 | nil p => exact fun _ _ _ => .nil _
 | nofn p => exact fun _ _ _ => .nofn _
 | ab p b0 o0 n0 c0 => exact fun _ _ _ => .ab _ b0 o0 n0 c0
 | mp p b0 => exact fun _ _ _ => .mp _ b0
 | it p b0 => exact fun _ _ _ => .it _ b0
 | ptr => intro h; simp [AV.flat] at h
 | bs => intro h; simp [AV.flat] at h
 | pt => intro h; simp [AV.flat] at h
 | fn => intro h; simp [AV.flat] at h
 | sl1 => intro h; simp [AV.flat] at h
 | sl2 => intro h; simp [AV.flat] at h
 | sl0 p g sz h0 ha =>
  intro h
  cases g with
  | own => exact fun _ _ => .sl0 _ _ sz (by simp) trivial
  | _ => simp [AV.flat] at h
 | sl p g sz xs bk off cap hc hr hg ha =>
  intro h π0 he
  cases g with
  | own =>
   subst he
   exact .sl _ .own sz xs bk off cap hc (row_atom hr (by rw [hw]) h) ⟨hω bk π0 hg.1, hg.2.mono (by rw [hw])⟩ trivial
  | _ => simp [AV.flat] at h
 | agg p cs arr h1 _ ih =>
  intro h π0 he
  rw [AV.flat] at h
  subst he
  exact .agg _ cs arr h1 fun k c hk => ih k c hk (AV.flatL_get h hk) _ rfl
 | tup p cs arr h1 _ ih =>
  intro h π0 he
  rw [AV.flat] at h
  subst he
  exact .tup _ cs arr h1 fun k c hk => ih k c hk (AV.flatL_get h hk) _ rfl
section
variable {C : Cx} {S : Start} {E : Env}
theorem Inv.callFlat (I : Inv C.N S E) {d f : Nat} {args : List AV} {vs : Array Value} {r : AV} (h : Pure C.P f args r) (hr : r.flat = true) (hd : d < C.N) (hfree : (E.st.slots d).free = true) (hl : args.length = vs.size)
  (hv : ∀ (k : Nat) c, args[k]? = some c → Val ⟨E.w, E.β, fun _ => none, fun bk => bk < E.w.heap.size, St.ofBoxes [], #[]⟩ .no c (vs.getD k undef)) :
  (∃ fn c, C.P.funcs[f]? = some fn ∧ fn.body = some c ∧ (fn.name == "runtime.NumGoroutine") = false) ∧
  Calls C.P f vs E.w fun e w' => ∃ v E', e = .returned v ∧ E'.w = w' ∧ Inv C.N S E' ∧ E'.tm = E.tm.setIfInBounds d v ∧ E'.st = E.st.put d r := by
 refine ⟨h.1, ?_⟩
 refine (h.2 E.w E.β (fun _ => none) (fun bk => bk < E.w.heap.size) vs (rel_empty _ _ _ (fun _ h => h) (I.rel.gl.all fun bk h => (I.rel.pub bk h).1)) (by simp) hl hv).mono ?_
 rintro e w' ⟨v, E1, rfl, rfl, hI, hst, hω, hrv⟩
 have hold : ∀ bk, bk < E.w.heap.size → E1.w.heap[bk]? = E.w.heap[bk]? := fun bk h => hI.fr.block bk h (by simp)
 have hnew : ∀ bk q, E1.ω bk = some q → E.w.heap.size ≤ bk := fun bk q h => (hI.fr.own bk q h).resolve_right (by simp)
 let ω' : Nat → Option Place := fun bk => match E.ω bk with
  | some q => some q
  | none => match E1.ω bk with
   | some (.slot 0 π) => some (.slot d π)
   | _ => none
 have hωn : ∀ bk, E.w.heap.size ≤ bk → E.ω bk = none := fun bk h => by
  cases ho : E.ω bk with
  | none => rfl
  | some q => have := I.rel.own bk q ho; omega
 have hω1 : ∀ bk q, E.ω bk = some q → ω' bk = some q := fun bk q h => by simp [ω', h]
 have hω2 : ∀ bk q, ω' bk = some q → bk < E1.w.heap.size := by
  intro bk q h
  simp only [ω'] at h
  split at h
  ·rename_i q' hq'; exact Nat.lt_of_lt_of_le (I.rel.own bk q' hq') hI.fr.size
  ·split at h
   ·rename_i π hq'; exact hI.rel.own bk _ hq'
   ·cases h
 have hP2 : ∀ bk, E.Pub bk → bk < E1.w.heap.size ∧ ω' bk = none := by
  intro bk h
  have h1 := I.rel.pub bk h
  refine ⟨Nat.lt_of_lt_of_le h1.1 hI.fr.size, ?_⟩
  have h3 : E1.ω bk = none := by
   cases ho : E1.ω bk with
   | none => rfl
   | some q => have := hnew bk q ho; omega
  simp [ω', h1.2, h3]
 obtain ⟨_, hR⟩ := I.rel.put (fun _ => False) (fun _ _ _ _ h => h) (fun _ h => h) (fun h => h) E1.w ω' E.Pub d r v hd (fun π sz xs => free_noOwn π hfree) (fun bk h _ => hold bk h) hω1 (fun _ h => h) hP2 hω2
 have hfin := hR (Val.flat (E := E1) (E' := ⟨E1.w, E.β, ω', E.Pub, E.st.put d r, E.tm.setIfInBounds d v⟩) d rfl (fun bk π h => by simp [ω', hωn bk (hnew bk _ h), h]) hrv hr [] rfl)
 refine ⟨v, ⟨E1.w, E.β, ω', E.Pub, E.st.put d r, E.tm.setIfInBounds d v⟩, rfl, rfl,
  ⟨hfin, ⟨hI.fr.os.trans I.fr.os, hI.fr.tape.trans I.fr.tape, hI.fr.output.trans I.fr.output, Nat.le_trans I.fr.size hI.fr.size, fun k hk hn => (hold k (Nat.lt_of_lt_of_le hk I.fr.size)).trans (I.fr.block k hk hn), fun k q h => ?_, I.fr.pub0, I.fr.pub1, I.fr.beta⟩⟩, rfl, rfl⟩
 have h' : ω' k = some q := h
 simp only [ω'] at h'
 split at h'
 ·rename_i q' hq'; exact I.fr.own k q' (by rw [hq', h'])
 ·split at h'
  ·rename_i π hq'; exact .inl (Nat.le_trans I.fr.size (hnew k _ hq'))
  ·cases h'
def AV.argn : AV → AV
 | .sl .nl sz xs => .sl .nl sz xs
 | x => x.argz
def acallS (C : Cx) (st : St) (d f : Nat) (args : List AV) (K : St → Prop) : Prop :=
 ∃ r, (Pure C.P f (args.map AV.argz) r ∨ Pure C.P f (args.map AV.argn) r) ∧ r.flat = true ∧ d < C.N ∧ (st.slots d).free = true ∧ K (st.put d r)
theorem acallS_sound (I : Inv C.N S E) {d f : Nat} {args : List AV} {vs : Array Value} {K : St → Prop} (hl : args.length = vs.size) (hf : AV.freeL args = true)
  (hv : ∀ (k : Nat) c, args[k]? = some c → Val E .no c (vs.getD k undef)) (h : acallS C E.st d f args K) :
  (∃ fn c, C.P.funcs[f]? = some fn ∧ fn.body = some c ∧ (fn.name == "runtime.NumGoroutine") = false) ∧
  Calls C.P f vs E.w fun e w' => ∃ v E', e = .returned v ∧ E'.w = w' ∧ Inv C.N S E' ∧ E'.tm = E.tm.setIfInBounds d v ∧ K E'.st := by
 obtain ⟨r, hP, hr, hd, hfree, hK⟩ := h
 have hall : AV.resOkN noQ (fun _ => true) args = true := by
  have := resOk_all (x := .fn 0 args []) .no (by simp [AV.free, hf, AV.freeL])
  simpa [AV.resOk, AV.resOkN] using this
 have hz : ∀ (k : Nat) c0, args[k]? = some c0 → Val ⟨E.w, E.β, fun _ => none, fun bk => bk < E.w.heap.size, St.ofBoxes [], #[]⟩ .no c0.argz (vs.getD k undef) := fun k c0 hc0 =>
  (hv k c0 hc0).argz (fun bk h => (I.rel.pub bk h).1) (F := fun _ => true) (fun bk q h _ => I.rel.own bk q h) (AV.freeL_get hf hc0) .no (AV.resOkN_get hall k c0 hc0) .no
 have hn : ∀ (k : Nat) c0, args[k]? = some c0 → Val ⟨E.w, E.β, fun _ => none, fun bk => bk < E.w.heap.size, St.ofBoxes [], #[]⟩ .no c0.argn (vs.getD k undef) := fun k c0 hc0 => by
  have h1 := hz k c0 hc0
  have h2 := hv k c0 hc0
  unfold AV.argn
  split
  ·generalize vs.getD k undef = v at h2
   cases h2 with
   | sl0 => exact .sl0 _ _ _ (by simp) trivial
   | sl _ _ _ _ _ _ _ _ _ hg => exact hg.elim
  ·exact h1
 rcases hP with hP | hP
 ·obtain ⟨h1, h2⟩ := I.callFlat hP hr hd hfree (by simpa using hl) (fun k c hk => by
   rw [List.getElem?_map] at hk
   obtain ⟨c0, hc0, rfl⟩ := Option.map_eq_some_iff.1 hk
   exact hz k c0 hc0)
  exact ⟨h1, h2.mono fun e w' ⟨v, E', g1, g2, g3, g4, g5⟩ => ⟨v, E', g1, g2, g3, g4, by rw [g5]; exact hK⟩⟩
 ·obtain ⟨h1, h2⟩ := I.callFlat hP hr hd hfree (by simpa using hl) (fun k c hk => by
   rw [List.getElem?_map] at hk
   obtain ⟨c0, hc0, rfl⟩ := Option.map_eq_some_iff.1 hk
   exact hn k c0 hc0)
  exact ⟨h1, h2.mono fun e w' ⟨v, E', g1, g2, g3, g4, g5⟩ => ⟨v, E', g1, g2, g3, g4, by rw [g5]; exact hK⟩⟩
end
end Go.AM
namespace Go.AM
def allDat (cs : List AV) : Bool := cs.all fun c => c.data && c.cellOk
theorem allDat_nil : allDat [] = true := rfl
theorem allDat_cons (c : AV) (cs : List AV) : allDat (c :: cs) = ((c.data && c.cellOk) && allDat cs) := rfl
def bsrc (st : St) (sz : Nat) (x : AV) : Option (List (List AV)) :=
 match x with
 | .bs id off m _ => match st.boxes id with
  | some cs => if off + m * sz ≤ cs.length ∧ allDat ((cs.drop off).take (m * sz)) = true then some (chunk sz m (cs.drop off)) else none
  | none => none
 | x => match appendix x with
  | some (sz2, ys) => if sz2 = sz then some ys else none
  | none => none
def bput (st : St) (id o : Nat) (ds : List AV) (K : St → Prop) : Prop :=
 match st.boxes id with
 | some cs => o + ds.length ≤ cs.length ∧ AV.freeL ((cs.drop o).take ds.length) = true ∧ K (st.setBox id (some (cs.take o ++ ds ++ cs.drop (o + ds.length))))
 | none => False
def aappendB (C : Cx) (st : St) (d t t2 id off n cap : Nat) (x : AV) (K : St → Prop) : Prop :=
 match (C.T t).map TI.kind, (C.T t2).map TI.kind with
 | some (.slice e), some k2 => (k2 = .str ∨ ∃ e, k2 = .slice e) ∧ match C.T e with
  | some y => match bsrc st y.size x with
   | some ys => d < C.N ∧ (st.slots d).free = true ∧ n + ys.length ≤ cap ∧ bput st id (off + n * y.size) ys.flatten fun st => K (st.put d (.bs id off (n + ys.length) cap))
   | none => False
  | none => False
 | _, _ => False
section
variable {C : Cx} {S : Start} {E : Env}
theorem bsrc_reads (I : Inv C.N S E) {x : AV} {vx : Value} (hx : Val E .no x vx) (hf : x.free = true) {sz : Nat} {ys : List (List AV)} (h : bsrc E.st sz x = some ys) :
  (∀ z ∈ ys, z.length = sz) ∧ ∃ vs : List Value, Reads C.P E.w sz vx ys.length vs ∧ ∀ (k : Nat) c, ys.flatten[k]? = some c → ∃ u, vs[k]? = some u ∧ DatC E.Pub E.w c u := by
 unfold bsrc at h
 split at h
 ·rename_i id off m cap
  split at h
  ·rename_i cs hb
   split at h
   ·rename_i hc
    obtain ⟨h1, h2⟩ := hc
    obtain rfl := Option.some.inj h
    obtain ⟨hω, arr, T, hcur, hasz, hcv⟩ := I.rel.boxes id cs hb
    have hdl : m * sz ≤ (cs.drop off).length := by simp; omega
    cases hx
    have hfl : (chunk sz m (cs.drop off)).flatten = (cs.drop off).take (m * sz) := chunk_flatten sz m _
    have hlen : ((arr.toList.drop off).take (m * sz)).length = m * sz := by simp; omega
    have hcell : ∀ (k : Nat) u, ((arr.toList.drop off).take (m * sz))[k]? = some u → E.w.cell? ⟨E.β id, off + k, none⟩ = some u := by
     intro k u hk
     rw [List.getElem?_take] at hk
     split at hk
     ·rw [List.getElem?_drop, Array.getElem?_toList] at hk
      simp [World.cell?, hcur, hk]
     ·cases hk
    have hdat : ∀ (k : Nat) c, ((cs.drop off).take (m * sz))[k]? = some c → ∃ u, ((arr.toList.drop off).take (m * sz))[k]? = some u ∧ DatC E.Pub E.w c u := by
     intro k c hk
     have hm := List.mem_of_getElem? hk
     unfold allDat at h2
     rw [List.all_eq_true] at h2
     have h3 := h2 c hm
     simp only [Bool.and_eq_true] at h3
     rw [List.getElem?_take] at hk
     split at hk
     ·rename_i hlt
      rw [List.getElem?_drop] at hk
      have hjl : off + k < arr.size := by rw [hasz]; exact (List.getElem?_eq_some_iff.1 hk).1
      have hv := hcv (off + k) c hk
      rw [Array.getD_eq_getD_getElem?, Array.getElem?_eq_getElem hjl] at hv
      refine ⟨arr[off + k], ?_, ?_, ?_⟩
      ·rw [List.getElem?_take, if_pos hlt, List.getElem?_drop, Array.getElem?_toList, Array.getElem?_eq_getElem hjl]
      ·exact hv.dat h3.1
      ·exact oneCell_dat (hv.dat h3.1) h3.2
     ·cases hk
    refine ⟨chunk_each sz m _ hdl, (arr.toList.drop off).take (m * sz), ⟨by rw [chunk_length]; rfl, fun w' hw' => ?_, by rw [chunk_length, hlen], fun u hu => ?_⟩, fun k c hk => by rw [hfl] at hk; exact hdat k c hk⟩
    ·show (loadCells _ _).run C.P w' = _
     rw [chunk_length]
     have := load_cells (P := C.P) (w := w') (E.β id) off ((arr.toList.drop off).take (m * sz)) fun k u hk => by
      rw [cell_same (w' := w') (w := E.w) (by rw [hw'])]
      exact hcell k u hk
     rw [hlen] at this
     exact this
    ·obtain ⟨k, hk⟩ := List.getElem?_of_mem hu
     have hkl : k < ((cs.drop off).take (m * sz)).length := by
      have := (List.getElem?_eq_some_iff.1 hk).1
      rw [hlen] at this
      simp; omega
     obtain ⟨u', hu', hd⟩ := hdat k _ (List.getElem?_eq_getElem hkl)
     rw [hk] at hu'
     obtain rfl := Option.some.inj hu'
     exact hd.2
   ·cases h
  ·cases h
 ·split at h
  ·rename_i sz2 ys' hap
   split at h
   ·rename_i hsz
    subst hsz
    obtain rfl := Option.some.inj h
    exact appendix_reads (C := C) hx hap hf
   ·cases h
  ·cases h
theorem bput_sound (I : Inv C.N S E) {id o : Nat} {ds : List AV} {news : List Value} {K : St → Prop} (hn : news.length = ds.length) (hv : ∀ (k : Nat) c, ds[k]? = some c → ∃ u, news[k]? = some u ∧ DatC E.Pub E.w c u) (h1 : ∀ u ∈ news, u.oneCell' = true) (h : bput E.st id o ds K) :
  ∃ E', (storeCells ⟨E.β id, o, none⟩ news).run C.P E.w = .ok () E'.w ∧ Inv C.N S E' ∧ E'.tm = E.tm ∧ E'.β = E.β ∧ (∀ t, E'.st.slots t = E.st.slots t) ∧ K E'.st := by
 unfold bput at h
 split at h
 ·rename_i cs hb
  obtain ⟨hle, hfree, hK⟩ := h
  obtain ⟨hω, arr, T, hcur, hasz, hcv⟩ := I.rel.boxes id cs hb
  have hst := run_storeCells_at C.P (E.β id) o T news 0 arr E.w hcur (by omega) h1
  simp only [Nat.add_zero] at hst
  have hI := I.writeBox hb (fun j c hj1 hj2 hj => by
   rw [AV.freeL_iff] at hfree
   refine hfree c (List.mem_of_getElem? (i := j - o) ?_)
   rw [List.getElem?_take, if_pos (by omega), List.getElem?_drop, show o + (j - o) = j by omega]
   exact hj) hle hn (fun k c hk => by
    obtain ⟨u, hu, hd⟩ := hv k c hk
    exact ⟨u, hu, hd.1⟩) hcur hasz
  exact ⟨_, hst, hI, rfl, rfl, fun t => rfl, hK⟩
 ·exact h.elim
theorem aappendB_sound (I : Inv C.N S E) {d t t2 id off n cap : Nat} (ty : TypeId) {x : AV} {vx : Value} {K : St → Prop} (hx : Val E .no x vx) (hxf : x.free = true) (h : aappendB C E.st d t t2 id off n cap x K) :
  ∃ v E', (Builtin.append_ #[t, t2] ty #[.slice (some ⟨E.β id, off, none⟩) n cap, vx]).run C.P E.w = .ok v E'.w ∧ Inv C.N S E' ∧ E'.tm = E.tm.setIfInBounds d v ∧ K E'.st := by
 unfold aappendB at h
 split at h
 ·rename_i e k2 hk hk2
  obtain ⟨hkk, h⟩ := h
  split at h
  ·rename_i y hy
   split at h
   ·rename_i ys hb
    obtain ⟨hdN, hfree, hroom, hput⟩ := h
    obtain ⟨z, oz, hz⟩ := kind_of_map (P := C.P) hk
    obtain ⟨oy⟩ := ti_ok (P := C.P) hy
    have hda := kind_slice (oz.kind.trans hz)
    obtain ⟨d2, hd2u, hd2⟩ := und_text hk2 hkk
    obtain ⟨hyl, news, hrd, hnews⟩ := bsrc_reads I hx hxf hb
    obtain ⟨E', hst, hI, htm, hβ, hsl, hK⟩ := bput_sound I (by rw [hrd.length, flatten_length hyl]) hnews hrd.one hput
    have hI2 := hI.putq d (.bs id off (n + ys.length) cap) (.slice (some ⟨E.β id, off, none⟩) (n + ys.length) cap) hdN (fun π sz xs => free_noOwn π (by rw [hsl]; exact hfree)) rfl (by rw [← hβ]; exact .bs _ _ _ _ _)
    refine ⟨_, _, ?_, hI2, by rw [htm], hK⟩
    have hf := hrd.first E.w rfl
    have hl := hrd.len
    have hsz : oy.i.size = y.size := oy.size
    have hst' : (storeCells ⟨E.β id, off + n * y.size, none⟩ news).run C.P E.w = .ok () E'.w := hst
    rcases hd2 with rfl | ⟨e', rfl⟩
    ·simp [Builtin.append_, oz.underlying, hda, run_underlying hd2u, oy.sizeOf, hl, hroom, hf, add_none, hst']
    ·simp [Builtin.append_, oz.underlying, hda, run_underlying hd2u, oy.sizeOf, hl, hroom, hf, add_none, hst']
   ·exact h.elim
  ·exact h.elim
 ·exact h.elim
def cutTo (n : Nat) : AV → AV
 | .bs id off m c => .bs id off (min m n) c
 | x => x
def acopyB (C : Cx) (st : St) (d t id off n : Nat) (x : AV) (K : St → Prop) : Prop :=
 match (C.T t).map TI.kind with
 | some (.slice e) => match C.T e with
  | some y => match bsrc st y.size (cutTo n x) with
   | some ys => d < C.N ∧ (st.slots d).free = true ∧ ys.length ≤ n ∧ bput st id off ys.flatten fun st => K (st.put d (.i .i64 ys.length))
   | none => False
  | none => False
 | _ => False
theorem acopyB_sound (I : Inv C.N S E) {d t id off n cap : Nat} (t2 : Nat) (ty : TypeId) {x : AV} {vx : Value} {K : St → Prop} (hx : Val E .no x vx) (hxf : x.free = true) (h : acopyB C E.st d t id off n x K) :
  ∃ v E', (Builtin.copy_ #[t, t2] ty #[.slice (some ⟨E.β id, off, none⟩) n cap, vx]).run C.P E.w = .ok v E'.w ∧ Inv C.N S E' ∧ E'.tm = E.tm.setIfInBounds d v ∧ K E'.st := by
 unfold acopyB at h
 split at h
 ·rename_i e hk
  split at h
  ·rename_i y hy
   split at h
   ·rename_i ys hb
    obtain ⟨hdN, hfree, hroom, hput⟩ := h
    obtain ⟨z, oz, hz⟩ := kind_of_map (P := C.P) hk
    obtain ⟨oy⟩ := ti_ok (P := C.P) hy
    have hda := kind_slice (oz.kind.trans hz)
    have hrd0 : (∀ z ∈ ys, z.length = y.size) ∧ ∃ vs : List Value, (∃ m, (Builtin.lenOf vx).run C.P E.w = .ok m E.w ∧ Nat.min m n = ys.length) ∧ (∀ w', w'.heap = E.w.heap → (Builtin.firstCells y.size ys.length vx).run C.P w' = .ok vs.toArray w') ∧
      vs.length = ys.length * y.size ∧ (∀ u ∈ vs, u.oneCell' = true) ∧ ∀ (k : Nat) c, ys.flatten[k]? = some c → ∃ u, vs[k]? = some u ∧ DatC E.Pub E.w c u := by
     by_cases hbs : ∃ id off m c, x = .bs id off m c
     ·obtain ⟨id, off, m, c, rfl⟩ := hbs
      generalize vx = vx at hx
      cases hx
      obtain ⟨hyl, news, hrd, hnews⟩ := bsrc_reads I (Val.bs (E := E) .no id off (min m n) c) rfl hb
      have hl := hrd.len
      have he : min m n = ys.length := by
       simp only [Builtin.lenOf, Sem.run_pure] at hl
       exact (Result.ok.inj hl).1
      exact ⟨hyl, news, ⟨m, rfl, he⟩, hrd.first, hrd.length, hrd.one, hnews⟩
     ·have hx2 : cutTo n x = x := by
       cases x <;> first | rfl | exact absurd ⟨_, _, _, _, rfl⟩ hbs
      rw [hx2] at hb
      obtain ⟨hyl, news, hrd, hnews⟩ := bsrc_reads I hx hxf hb
      exact ⟨hyl, news, ⟨_, hrd.len, Nat.min_eq_left hroom⟩, hrd.first, hrd.length, hrd.one, hnews⟩
    obtain ⟨hyl, news, ⟨m, hlen, hmin⟩, hfirst, hlength, hone, hnews⟩ := hrd0
    obtain ⟨E', hst, hI, htm, hβ, hsl, hK⟩ := bput_sound I (by rw [hlength, flatten_length hyl]) hnews hone hput
    have hI2 := hI.putq d (.i .i64 ys.length) (.int .i64 ys.length) hdN (fun π sz xs => free_noOwn π (by rw [hsl]; exact hfree)) rfl (.i _ _ _)
    refine ⟨_, _, ?_, hI2, by rw [htm], hK⟩
    simp [Builtin.copy_, oz.underlying, hda, oy.sizeOf, hlen, hmin, hfirst E.w rfl, hst, goInt]
   ·exact h.elim
  ·exact h.elim
 ·exact h.elim
def zerosL (zero : List AV) : Nat → List AV
 | 0 => []
 | n + 1 => zero ++ zerosL zero n
theorem zerosL_length (zero : List AV) : ∀ n, (zerosL zero n).length = n * zero.length
 | 0 => by simp [zerosL]
 | n + 1 => by simp [zerosL, zerosL_length zero n, Nat.add_mul, Nat.add_comm]
theorem zerosL_get (zero : List AV) (hz : 0 < zero.length) : ∀ (n k : Nat) (c : AV), (zerosL zero n)[k]? = some c → k < n * zero.length ∧ zero[k % zero.length]? = some c
 | 0, k, c, h => by simp [zerosL] at h
 | n + 1, k, c, h => by
  simp only [zerosL] at h
  by_cases hlt : k < zero.length
  ·rw [List.getElem?_append_left hlt] at h
   refine ⟨by rw [Nat.add_mul]; omega, ?_⟩
   rw [Nat.mod_eq_of_lt hlt]; exact h
  ·rw [List.getElem?_append_right (by omega)] at h
   obtain ⟨g1, g2⟩ := zerosL_get zero hz n _ c h
   refine ⟨by rw [Nat.add_mul]; omega, ?_⟩
   rw [Nat.mod_eq_sub_mod (by omega)]; exact g2
def zdat : AV → AV
 | .sl .nl sz _ => .sl .fro sz []
 | x => x
def aclearB (C : Cx) (st : St) (t id off n : Nat) (K : St → Prop) : Prop :=
 match (C.T t).map TI.kind with
 | some (.slice e) => match C.T e with
  | some y => 0 < y.size ∧ ((y.zero.map zdat).all fun c => c.data && c.cellOk) = true ∧ bput st id off (zerosL (y.zero.map zdat) n) K
  | none => False
 | _ => False
theorem aclearB_sound (I : Inv C.N S E) {t id off n cap : Nat} (ty : TypeId) {K : St → Prop} (h : aclearB C E.st t id off n K) :
  ∃ E', (Builtin.clear_ #[t] ty #[.slice (some ⟨E.β id, off, none⟩) n cap]).run C.P E.w = .ok (.tuple #[]) E'.w ∧ Inv C.N S E' ∧ E'.tm = E.tm ∧ K E'.st := by
 unfold aclearB at h
 split at h
 ·rename_i e hk
  split at h
  ·rename_i y hy
   obtain ⟨hpos, hdat, hput⟩ := h
   obtain ⟨z, oz, hz⟩ := kind_of_map (P := C.P) hk
   obtain ⟨oy⟩ := ti_ok (P := C.P) hy
   have hda := kind_slice (oz.kind.trans hz)
   have hzv : ∀ w, (zeroValue e).run C.P w = .ok oy.z w := fun w => by simp [zeroValue, typeInfo, oy.info, oy.zero]
   have hcs : oy.z.cells.size = y.size := oy.zcs
   have hzl : (y.zero.map zdat).length = y.size := by rw [List.length_map, oy.zlen]
   have hnl : (Builtin.zeroCells oy.z.cells n).toList.length = n * y.size := by rw [Array.length_toList, size_zeroCells, hcs]
   have hget : ∀ (k : Nat) c, (zerosL (y.zero.map zdat) n)[k]? = some c → ∃ u, (Builtin.zeroCells oy.z.cells n).toList[k]? = some u ∧ DatC E.Pub E.w c u := by
    intro k c hk
    obtain ⟨g1, g2⟩ := zerosL_get _ (by rw [hzl]; exact hpos) n k c hk
    rw [hzl] at g1 g2
    rw [List.getElem?_map] at g2
    obtain ⟨c0, hc0, rfl⟩ := Option.map_eq_some_iff.1 g2
    have hv := oy.zval E .no _ c0 hc0
    have hmlt : k % y.size < oy.z.cells.size := by rw [hcs]; exact Nat.mod_lt _ hpos
    rw [Array.getD_eq_getD_getElem?, Array.getElem?_eq_getElem hmlt] at hv
    refine ⟨oy.z.cells[k % y.size], ?_, ?_⟩
    ·rw [Array.getElem?_toList]
     unfold Builtin.zeroCells
     rw [Array.getElem?_map, Array.getElem?_range]
     rw [if_pos (by rw [hcs]; exact g1)]
     simp only [Option.map_some, hcs]
     rw [getElem!_pos oy.z.cells _ hmlt]
    ·rw [List.all_eq_true] at hdat
     have hd := hdat (zdat c0) (List.mem_map_of_mem (List.mem_of_getElem? hc0))
     simp only [Bool.and_eq_true] at hd
     have hdv : Dat E.Pub E.w (zdat c0) oy.z.cells[k % y.size] := by
      simp only [Option.getD_some] at hv
      generalize oy.z.cells[k % y.size] = u at hv
      unfold zdat at hd ⊢
      split
      ·cases hv with
       | sl0 => exact .sl0 _
       | sl _ _ _ _ _ _ _ _ _ hg _ => exact hg.elim
      ·rename_i hne
       refine hv.dat ?_
       split at hd
       ·rename_i sz xs; exact absurd rfl (hne sz xs)
       ·exact hd.1
     exact ⟨hdv, oneCell_dat hdv hd.2⟩
   obtain ⟨E', hst, hI, htm, hβ, hsl, hK⟩ := bput_sound I (news := (Builtin.zeroCells oy.z.cells n).toList) (by rw [hnl, zerosL_length, hzl]) hget (fun u hu => by
    obtain ⟨k, hk⟩ := List.getElem?_of_mem hu
    have hkl := (List.getElem?_eq_some_iff.1 hk).1
    rw [hnl] at hkl
    obtain ⟨u', hu', hd⟩ := hget k _ (List.getElem?_eq_getElem (by rw [zerosL_length, hzl]; exact hkl))
    rw [hk] at hu'
    obtain rfl := Option.some.inj hu'
    exact hd.2) hput
   refine ⟨E', ?_, hI, htm, hK⟩
   cases n with
   | zero =>
    have hz0 : (Builtin.zeroCells oy.z.cells 0).toList = [] := List.eq_nil_of_length_eq_zero (by rw [hnl]; simp)
    rw [hz0] at hst
    simp only [storeCells, Sem.run_pure] at hst
    have hww : E'.w = E.w := by injection hst with _ hw; exact hw.symm
    rw [hww]
    simp [Builtin.clear_, oz.underlying, hda]
   | succ m => simp [Builtin.clear_, oz.underlying, hda, hzv, hst]
  ·exact h.elim
 ·exact h.elim
end
end Go.AM
