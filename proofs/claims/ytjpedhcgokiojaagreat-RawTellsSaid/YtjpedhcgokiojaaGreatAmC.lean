/- Rows in boxes: appended to where there is no room (a new row); two boxes' rows lie apart. No project text. -/
import Derived.Test.YtjpedhcgokiojaaGreatAmB
import Derived.Lib.AppendZerosOnto
import Derived.Lib.Overlaps
import Derived.Laws.Externs
import Derived.Laws.StructEq
import Derived.ChangeKeysEq
import Derived.Lib.ConvBytes
import Derived.KernelRfl
import Derived.Test.YtjpedhcgokiojaaGreatProg
set_option linter.unusedSimpArgs false
set_option linter.unusedVariables false
namespace Go.AM
open Go.Lib
def aappendG (C : Cx) (st : St) (d t t2 id off n cap : Nat) (x : AV) (K : St → Prop) : Prop :=
 match (C.T t).map TI.kind, (C.T t2).map TI.kind with
 | some (.slice e), some k2 => (k2 = .str ∨ ∃ e, k2 = .slice e) ∧ match C.T e with
  | some y => match bsrc st y.size (.bs id off n cap), bsrc st y.size x with
   | some xs, some ys => d < C.N ∧ (st.slots d).free = true ∧ 0 < y.bytes ∧ cap < n + ys.length ∧ (n + ys.length) * y.bytes ≤ 140737488355328 ∧ K (st.put d (.sl .own y.size (xs ++ ys)))
   | _, _ => False
  | none => False
 | _, _ => False
def aappendZ (C : Cx) (st : St) (d t t2 id off n cap : Nat) (x : AV) (K : St → Prop) : Prop :=
 match (C.T t).map TI.kind, (C.T t2).map TI.kind, x with
 | some (.slice e), some (.int _), .i _ m => match C.T e with
  | some y => match bsrc st y.size (.bs id off n cap) with
   | some xs => d < C.N ∧ (st.slots d).free = true ∧ 0 < y.bytes ∧ 0 < y.size ∧ 0 < m ∧ (cap : Int) < n + m ∧ (n + m) * y.bytes ≤ 140737488355328 ∧ AV.dataL (y.zero.map (AV.dz noF)) = true ∧ (y.zero.map (AV.dz noF)).all AV.cellOk = true ∧
     K (st.put d (.sl .own y.size (xs ++ List.replicate m.toNat (y.zero.map (AV.dz noF)))))
   | none => False
  | none => False
 | _, _, _ => False
def Apart (P : Program) (f : Nat) : Prop := ∃ fn t r e sz, P.funcs[f]? = some fn ∧ (fn.name == "runtime.NumGoroutine") = false ∧ fn.body.isNone = true ∧ Extern.findNext fn = none ∧
 Extern.find fn = some (Extern.SlicesOverlaps.overlaps #[t, t] #[r]) ∧ P.underlying t = some (.slice e) ∧ ∀ w, (Go.sizeOf e).run P w = .ok sz w
def acallX (C : Cx) (st : St) (d f : Nat) (args : List AV) (K : St → Prop) : Prop :=
 match args with
 | [.bs i1 _ _ _, .bs i2 _ _ _] => Apart C.P f ∧ i1 ≠ i2 ∧ (st.boxes i1).isSome = true ∧ ((st.boxes i2).getD []).length ≠ 0 ∧ d < C.N ∧ (st.slots d).free = true ∧ K (st.put d (.b false))
 | _ => False
theorem bsrc_len {st : St} {sz id off n cap : Nat} {xs : List (List AV)} (h : bsrc st sz (.bs id off n cap) = some xs) : xs.length = n := by
 simp only [bsrc] at h
 split at h
 ·split at h
  ·obtain rfl := Option.some.inj h
   exact chunk_length ..
  ·cases h
 ·cases h
section
variable {C : Cx} {S : Start} {E : Env}
theorem aappendG_sound (I : Inv C.N S E) {d t t2 id off n cap : Nat} (ty : TypeId) {x : AV} {vx : Value} {K : St → Prop} (hx : Val E .no x vx) (hxf : x.free = true) (h : aappendG C E.st d t t2 id off n cap x K) :
  ∃ v E', (Builtin.append_ #[t, t2] ty #[.slice (some ⟨E.β id, off, none⟩) n cap, vx]).run C.P E.w = .ok v E'.w ∧ Inv C.N S E' ∧ E'.tm = E.tm.setIfInBounds d v ∧ K E'.st := by
 unfold aappendG at h
 split at h
 ·rename_i e k2 hk hk2
  obtain ⟨hkk, h⟩ := h
  split at h
  ·rename_i y hy
   split at h
   ·rename_i xs ys hb0 hb
    obtain ⟨hdN, hfree, hby, hroom, hbound, hK⟩ := h
    obtain ⟨z, oz, hz⟩ := kind_of_map (P := C.P) hk
    obtain ⟨oe⟩ := ti_ok (P := C.P) hy
    have ht : C.P.underlying t = some (.slice e) := oz.und.trans (congrArg some (kind_slice (oz.kind.trans hz)))
    obtain ⟨d2, hd2u, hd2⟩ := und_text hk2 hkk
    have hxn := bsrc_len hb0
    obtain ⟨hyl, news, hrd, hyv⟩ := bsrc_reads I hx hxf hb
    obtain ⟨hxl, os, hro, hov⟩ := bsrc_reads I (Val.bs (E := E) .no id off n cap) rfl hb0
    have hsize : oe.i.size = y.size := oe.size
    have hbytes : oe.i.bytes = y.bytes := oe.bytes
    have hx' : Reads C.P E.w oe.i.size vx ys.length news := by rw [hsize]; exact hrd
    have hle : n + ys.length ≤ (n + ys.length) * y.bytes := Nat.le_mul_of_pos_right _ hby
    have h63 : ((n + ys.length : Nat) : Int) ≤ 9223372036854775807 := by omega
    have hflat : (xs ++ ys).flatten = xs.flatten ++ ys.flatten := by simp
    have hxf2 := flatten_length hxl
    have hol : os.length = n * y.size := by rw [← hxn]; exact hro.length
    have hold : ∀ w', w'.heap = E.w.heap → (Builtin.firstCells oe.i.size n (.slice (some ⟨E.β id, off, none⟩) n cap)).run C.P w' = .ok os.toArray w' := by
     intro w' hw'
     rw [hsize, ← hxn]
     have := hro.first w' hw'
     rw [← hxn] at this
     exact this
    have hgc := grownCap_ge E.w (n + ys.length) cap e
    have hr := append_new (P := C.P) (ty := ty) ht hd2u hd2 oe.info oe.zero hold hx' hroom h63 (growslice_fits hroom (by rw [hbytes]; exact hbound))
    obtain ⟨ω', hI⟩ := I.putRow E.w.drew rfl ⟨SameOs.drew _, rfl, rfl⟩ d hdN (fun π sz xs => free_noOwn π hfree) y.size (grownCap E.w (n + ys.length) cap e) (xs ++ ys) (os.toArray ++ news.toArray ++ Builtin.zeroCells oe.z.cells (grownCap E.w (n + ys.length) cap e - (n + ys.length))) e
     (by simp only [Array.size_append, List.size_toArray, size_zeroCells, oe.zcs, hrd.length, hol, ← Nat.add_mul]; congr 1; omega) (by simpa [hxn] using hgc)
     (fun z hz => (List.mem_append.1 hz).elim (hxl z) (hyl z))
     (fun k c hk => by
      rw [hflat] at hk
      by_cases hlt : k < os.length
      ·rw [List.getElem?_append_left (by rw [hxf2, hxn]; omega)] at hk
       obtain ⟨u, hu, hdt⟩ := hov k c hk
       refine ⟨u, ?_, hdt⟩
       rw [Array.getElem?_append_left (by simp; omega), Array.getElem?_append_left (by simpa using hlt)]
       simpa using hu
      ·rw [List.getElem?_append_right (by rw [hxf2, hxn]; omega), hxf2, hxn, ← hol] at hk
       obtain ⟨u, hu, hdt⟩ := hyv _ c hk
       refine ⟨u, ?_, hdt⟩
       have hul := (List.getElem?_eq_some_iff.1 hu).1
       rw [Array.getElem?_append_left (by simp; omega), Array.getElem?_append_right (by simp; omega)]
       simpa using hu)
    exact ⟨_, _, hr, hI, by simp [hxn], hK⟩
   ·exact h.elim
  ·exact h.elim
 ·exact h.elim
theorem aappendZ_sound (I : Inv C.N S E) {d t t2 id off n cap : Nat} (ty : TypeId) {x : AV} {vx : Value} {K : St → Prop} (hx : Val E .no x vx) (h : aappendZ C E.st d t t2 id off n cap x K) :
  ∃ v E', (Builtin.append_ #[t, t2] ty #[.slice (some ⟨E.β id, off, none⟩) n cap, vx]).run C.P E.w = .ok v E'.w ∧ Inv C.N S E' ∧ E'.tm = E.tm.setIfInBounds d v ∧ K E'.st := by
 unfold aappendZ at h
 split at h
 ·rename_i e kn kq m hk hk2
  split at h
  ·rename_i y hy
   split at h
   ·rename_i xs hb0
    obtain ⟨hdN, hfree, hby, hsz, hm, hroom, hbound, hzd, hzok, hK⟩ := h
    obtain ⟨z, oz, hz⟩ := kind_of_map (P := C.P) hk
    obtain ⟨z2, oz2, hz2⟩ := kind_of_map (P := C.P) hk2
    obtain ⟨oe⟩ := ti_ok (P := C.P) hy
    have ht : C.P.underlying t = some (.slice e) := oz.und.trans (congrArg some (kind_slice (oz.kind.trans hz)))
    have ht2 : C.P.underlying t2 = some (.int kn) := oz2.und.trans (congrArg some (kind_int (oz2.kind.trans hz2)))
    cases hx
    obtain ⟨k, rfl⟩ : ∃ k : Nat, m = k := ⟨m.toNat, by omega⟩
    have hxn := bsrc_len hb0
    obtain ⟨hxl, os, hro, hov⟩ := bsrc_reads I (Val.bs (E := E) .no id off n cap) rfl hb0
    have hsize : oe.i.size = y.size := oe.size
    have hbytes : oe.i.bytes = y.bytes := oe.bytes
    have hxf2 := flatten_length hxl
    have hol : os.length = n * y.size := by rw [← hxn]; exact hro.length
    have hbn : (n + k) * y.bytes ≤ 140737488355328 := by
     have h3 : (((n + k) * y.bytes : Nat) : Int) ≤ 140737488355328 := by rw [Int.natCast_mul, Int.natCast_add]; exact hbound
     omega
    have hle : n + k ≤ (n + k) * y.bytes := Nat.le_mul_of_pos_right _ hby
    have hkb : k * y.bytes ≤ (n + k) * y.bytes := Nat.mul_le_mul_right _ (by omega)
    have hold : (Builtin.firstCells oe.i.size n (.slice (some ⟨E.β id, off, none⟩) n cap)).run C.P E.w.drew = .ok os.toArray E.w.drew := by
     rw [hsize, ← hxn]
     have := hro.first E.w.drew rfl
     rw [← hxn] at this
     exact this
    have hr := run_append_grow_zeros (P := C.P) E.w t t2 ty e oe.i oe.z kq kn ht ht2 oe.info oe.zero (some ⟨E.β id, off, none⟩) n cap os hold k (by omega) (by rw [hsize]; exact hsz) (by omega) (by omega) (by rw [hbytes]; omega)
     (growslice_fits (by omega) (by rw [hbytes]; exact hbn))
    have hgc := grownCap_ge E.w (n + k) cap e
    have hzl : (y.zero.map (AV.dz noF)).length = y.size := by rw [List.length_map, oe.zlen]
    have hflat : (xs ++ List.replicate k (y.zero.map (AV.dz noF))).flatten = xs.flatten ++ (List.replicate k (y.zero.map (AV.dz noF))).flatten := by simp
    obtain ⟨ω', hI⟩ := I.putRow E.w.drew rfl ⟨SameOs.drew _, rfl, rfl⟩ d hdN (fun π sz xs => free_noOwn π hfree) y.size (grownCap E.w (n + k) cap e) (xs ++ List.replicate k (y.zero.map (AV.dz noF)))
     (os.toArray ++ Builtin.zeroCells oe.z.cells k ++ Builtin.zeroCells oe.z.cells (grownCap E.w (n + k) cap e - (n + k))) e
     (by simp only [Array.size_append, List.size_toArray, size_zeroCells, oe.zcs, hol, ← Nat.add_mul]; congr 1; omega) (by simpa [hxn] using hgc)
     (fun z hz => (List.mem_append.1 hz).elim (hxl z) (fun h => by rw [List.eq_of_mem_replicate h, hzl]))
     (fun j c hk => by
      rw [hflat] at hk
      by_cases hlt : j < os.length
      ·rw [List.getElem?_append_left (by rw [hxf2, hxn]; omega)] at hk
       obtain ⟨u, hu, hdt⟩ := hov j c hk
       refine ⟨u, ?_, hdt⟩
       rw [Array.getElem?_append_left (by simp; omega), Array.getElem?_append_left (by simpa using hlt)]
       simpa using hu
      ·rw [List.getElem?_append_right (by rw [hxf2, hxn]; omega), hxf2, hxn, ← hol] at hk
       obtain ⟨g1, g2⟩ := rep_flat_get _ _ _ _ hk
       rw [hzl] at g1 g2
       refine ⟨oe.z.cells.getD ((j - os.length) % y.size) undef, ?_, zero_dz oe hzd E _ c g2, oneCell_dat (zero_dz oe hzd E _ c g2) (List.all_eq_true.1 hzok c (List.mem_of_getElem? g2))⟩
       have hlt2 : (j - os.length) % y.size < oe.z.cells.size := by rw [oe.zcs]; exact Nat.mod_lt _ hsz
       rw [Array.getElem?_append_left (by simp [size_zeroCells, oe.zcs]; omega), Array.getElem?_append_right (by simp; omega)]
       unfold Builtin.zeroCells
       rw [Array.getElem?_map, Array.getElem?_range, if_pos (by simp [oe.zcs]; omega)]
       simp [oe.zcs, getbang hlt2]
       rw [Array.getElem?_eq_getElem hlt2]; rfl)
    refine ⟨_, _, hr, hI, by simp [hxn], by simpa using hK⟩
   ·exact h.elim
  ·exact h.elim
 ·exact h.elim
theorem acallX_sound (I : Inv C.N S E) {d f : Nat} {args : List AV} {vs : Array Value} {K : St → Prop} (hl : args.length = vs.size) (hv : ∀ (k : Nat) c, args[k]? = some c → Val E .no c (vs.getD k undef)) (h : acallX C E.st d f args K) :
  ∃ v E', (callFunc f vs).run C.P E.w = .ok (.value v) E'.w ∧ Inv C.N S E' ∧ E'.tm = E.tm.setIfInBounds d v ∧ K E'.st := by
 unfold acallX at h
 split at h
 ·rename_i i1 o1 n1 c1 i2 o2 n2 c2
  obtain ⟨⟨fn, t, r, e, sz, h1, h2, h3, h4, h5, h6, h7⟩, hne, hb1, hb2, hdN, hfree, hK⟩ := h
  have hvs : vs = #[.slice (some ⟨E.β i1, o1, none⟩) n1 c1, .slice (some ⟨E.β i2, o2, none⟩) n2 c2] := by
   have h0 := hv 0 _ rfl
   have h1 := hv 1 _ rfl
   generalize hv0 : vs.getD 0 undef = v0 at h0
   generalize hv1 : vs.getD 1 undef = v1 at h1
   cases h0; cases h1
   have hs : vs.size = 2 := by rw [← hl]; rfl
   apply Array.ext
   ·rw [hs]; rfl
   ·intro k hk hk2
    rw [Array.getD_eq_getD_getElem?, Array.getElem?_eq_getElem (by omega)] at hv0 hv1
    rcases k with _ | _ | k
    ·exact hv0
    ·exact hv1
    ·rw [hs] at hk; omega
  subst hvs
  obtain ⟨cs1, hc1⟩ := Option.isSome_iff_exists.1 hb1
  obtain ⟨cs2, hc2⟩ : ∃ cs2, E.st.boxes i2 = some cs2 := by
   cases hc : E.st.boxes i2 with
   | none => rw [hc] at hb2; simp at hb2
   | some cs2 => exact ⟨cs2, rfl⟩
  obtain ⟨hω1, arr1, T1, g1, l1, _⟩ := I.rel.boxes i1 cs1 hc1
  obtain ⟨hω2, arr2, T2, g2, l2, _⟩ := I.rel.boxes i2 cs2 hc2
  have hbne : E.β i1 ≠ E.β i2 := by
   intro he
   rw [he, hω2] at hω1
   cases hω1
   exact hne rfl
  have hk2 : arr2.size ≠ 0 := by
   rw [hc2] at hb2
   rw [l2]; exact hb2
  have hI := I.putq d (.b false) (.bool false) hdN (fun π sz xs => free_noOwn π hfree) rfl (.b _ _)
  refine ⟨.bool false, _, ?_, hI, rfl, hK⟩
  rw [run_callFunc_extern h1 h2 h3 h4 h5, run_overlaps_apart E.w t r e h6 sz h7 ⟨E.β i1, o1, none⟩ ⟨E.β i2, o2, none⟩ n1 c1 n2 c2 hbne T1 T2 arr1.size arr2.size (by simp [World.shape?, g1]) (by simp [World.shape?, g2]) hk2 (by simp [World.frozen?, g1]) (by simp [World.frozen?, g1])]
  rfl
 ·exact h.elim
end
end Go.AM
namespace Go.AM
def cellEq (P : Program) (t : Nat) : Option Kind :=
 match (ti P t).map TI.kind with
 | some (.int k) => some (.int k)
 | some .str => some .str
 | some .bool => some .bool
 | _ => none
def cellsEq (P : Program) (t : Nat) : Option (List Kind) :=
 match cellEq P t with
 | some k => some [k]
 | none => match ti P t with
  | some x => match x.kind with
   | .arr n e => match cellEq P e, ti P e with
    | some k, some y => if y.size = 1 ∧ x.size = n then some (List.replicate n k) else none
    | _, _ => none
   | _ => none
  | none => none
def flatF (P : Program) : Nat → List Field → Option (List Kind)
 | _, [] => some []
 | off, f :: fs => if f.name ≠ "_" ∧ f.offset = off then match cellsEq P f.type with
   | some k => match flatF P (off + k.length) fs with
    | some ks => some (k ++ ks)
    | none => none
   | none => none
  else none
def flatEq (P : Program) (t : Nat) : Option (List Kind) :=
 if P.stoodInHeld t = true ∨ P.eqGuardType P.depth t = true then none else match P.underlying t with
 | some (.struct fs) => flatF P 0 fs.toList
 | some (.array _ _) => cellsEq P t
 | _ => none
def eqCell : Kind → AV → AV → Option Bool
 | .int k, .i k1 a, .i k2 b => if k1 = k ∧ k2 = k then some (a == b) else none
 | .str, .s a, .s b => some (a.toList == b.toList)
 | .bool, .b a, .b b => some (a == b)
 | _, _, _ => none
def eqCells : List Kind → List AV → List AV → Option Bool
 | [], [], [] => some true
 | k :: ks, x :: xs, y :: ys => match eqCell k x y, eqCells ks xs ys with
  | some b, some c => some (b && c)
  | _, _ => none
 | _, _, _ => none
section
variable {P : Program} {E : Env}
theorem cellEq_run {t : Nat} {k : Kind} (h : cellEq P t = some k) {x y : AV} {b : Bool} (he : eqCell k x y = some b) {p q : Place} {u v : Value} (hx : Val E p x u) (hy : Val E q y v) (d : Nat) (w : World) :
  (Op.equalIn (d + 1) t u v).run P w = .ok b w ∧ (isAgg t).run P w = .ok false w := by
 unfold cellEq at h
 split at h
 ·rename_i k' hk
  obtain rfl := Option.some.inj h
  obtain ⟨z, o, hz⟩ := kind_of_map hk
  have hd := kind_int (o.kind.trans hz)
  have hu : P.underlying t = some (.int k') := o.und.trans (congrArg some hd)
  have hag : (isAgg t).run P w = .ok false w := by rw [o.isAgg, hz]; rfl
  unfold eqCell at he
  split at he <;> first | (rename_i heq; cases heq; done) | skip
  ·rename_i heq
   cases heq
   split at he
   ·rename_i hc
    obtain ⟨rfl, rfl⟩ := hc
    cases he; cases hx; cases hy
    exact ⟨run_equalIn_int w d t _ _ _ _ hu, hag⟩
   ·cases he
  ·cases he
 ·rename_i hk
  obtain rfl := Option.some.inj h
  obtain ⟨z, o, hz⟩ := kind_of_map hk
  have hd := kind_str (o.kind.trans hz)
  have hu : P.underlying t = some .string := o.und.trans (congrArg some hd)
  have hag : (isAgg t).run P w = .ok false w := by rw [o.isAgg, hz]; rfl
  unfold eqCell at he
  split at he <;> first | (rename_i heq; cases heq; done) | skip
  ·cases he; cases hx; cases hy
   exact ⟨run_equalIn_string w d t _ _ hu, hag⟩
  ·cases he
 ·rename_i hk
  obtain rfl := Option.some.inj h
  obtain ⟨z, o, hz⟩ := kind_of_map hk
  have hd := kind_bool (o.kind.trans hz)
  have hu : P.underlying t = some .bool := o.und.trans (congrArg some hd)
  have hag : (isAgg t).run P w = .ok false w := by rw [o.isAgg, hz]; rfl
  unfold eqCell at he
  split at he <;> first | (rename_i heq; cases heq; done) | skip
  ·cases he; cases hx; cases hy
   exact ⟨run_equalIn_bool' w d t _ _ hu, hag⟩
  ·cases he
 ·cases h
theorem part_run {t : Nat} {cs : Array Value} {off : Nat} {w : World} (h : (isAgg t).run P w = .ok false w) (hl : off < cs.size) : (part t cs off).run P w = .ok (cs.getD off undef) w := by
 unfold part
 simp only [Sem.run_bind, h, Result.andThen_ok, Bool.false_eq_true, if_false]
 rw [Array.getElem?_eq_getElem hl, Array.getD_eq_getD_getElem?, Array.getElem?_eq_getElem hl]
 rfl
theorem eqCells_len : ∀ {ks : List Kind} {xs ys : List AV} {b : Bool}, eqCells ks xs ys = some b → xs.length = ks.length ∧ ys.length = ks.length
 | [], [], [], _, _ => ⟨rfl, rfl⟩
 | [], _ :: _, _, _, h => by simp [eqCells] at h
 | [], [], _ :: _, _, h => by simp [eqCells] at h
 | _ :: _, [], _, _, h => by simp [eqCells] at h
 | _ :: _, _ :: _, [], _, h => by simp [eqCells] at h
 | k :: ks, x :: xs, y :: ys, b, h => by
  simp only [eqCells] at h
  split at h
  ·rename_i b1 c1 hb1 hc1
   have := eqCells_len hc1
   simp [this]
  ·cases h
theorem eqCells_append : ∀ {k ks : List Kind} {xs ys : List AV} {b : Bool}, eqCells (k ++ ks) xs ys = some b → ∃ b1 b2, eqCells k (xs.take k.length) (ys.take k.length) = some b1 ∧ eqCells ks (xs.drop k.length) (ys.drop k.length) = some b2 ∧ b = (b1 && b2)
 | [], ks, xs, ys, b, h => ⟨true, b, by simp [eqCells], by simpa using h, rfl⟩
 | k :: k', ks, [], ys, b, h => by simp [eqCells] at h
 | k :: k', ks, x :: xs, [], b, h => by simp [eqCells] at h
 | k :: k', ks, x :: xs, y :: ys, b, h => by
  simp only [List.cons_append, eqCells] at h
  split at h
  ·rename_i b1 c1 hb1 hc1
   obtain ⟨b2, b3, h1, h2, h3⟩ := eqCells_append hc1
   refine ⟨b1 && b2, b3, by simp [eqCells, hb1, h1], by simpa using h2, ?_⟩
   cases h
   rw [h3, Bool.and_assoc]
  ·cases h
def CellsAt (E : Env) (xs : List AV) (ax : Array Value) (off : Nat) : Prop := ∀ (k : Nat) c, xs[k]? = some c → ∃ p, Val E p c (ax.getD (off + k) undef)
theorem items_run (w : World) (d : Nat) {e : Nat} {k : Kind} (hk : cellEq P e = some k) {ax ay : Array Value} : ∀ (n off : Nat) (xs ys : List AV) (b : Bool), eqCells (List.replicate n k) xs ys = some b → off + n ≤ ax.size → off + n ≤ ay.size →
  CellsAt E xs ax off → CellsAt E ys ay off → (Op.eqItems (d + 1) e 1 ax ay (List.range' off n)).run P w = .ok b w
 | 0, off, xs, ys, b, he, _, _, _, _ => by
  cases xs <;> cases ys <;> simp [eqCells] at he
  subst he
  rfl
 | n + 1, off, xs, ys, b, he, hlx, hly, hx, hy => by
  cases xs with
  | nil => simp [eqCells, List.replicate_succ] at he
  | cons x xs =>
  cases ys with
  | nil => simp [eqCells, List.replicate_succ] at he
  | cons y ys =>
   simp only [List.replicate_succ, eqCells] at he
   split at he
   ·rename_i b1 c1 hb1 hc1
    obtain rfl := Option.some.inj he
    obtain ⟨p, hpx⟩ := hx 0 x rfl
    obtain ⟨q, hqy⟩ := hy 0 y rfl
    obtain ⟨h1, h2⟩ := cellEq_run hk hb1 hpx hqy d w
    have ih := items_run w d hk (ax := ax) (ay := ay) n (off + 1) xs ys c1 hc1 (by omega) (by omega) (fun k c hk => by
     have := hx (k + 1) c (by simpa using hk)
     rwa [show off + (k + 1) = off + 1 + k by omega] at this) (fun k c hk => by
     have := hy (k + 1) c (by simpa using hk)
     rwa [show off + (k + 1) = off + 1 + k by omega] at this)
    rw [List.range'_succ]
    unfold Op.eqItems
    simp only [Sem.run_bind, Nat.mul_one]
    rw [part_run h2 (by omega), Result.andThen_ok, part_run h2 (by omega), Result.andThen_ok]
    simp only [Nat.add_zero] at h1
    rw [h1, Result.andThen_ok]
    cases b1
    ·simp
    ·simp only [Bool.not_true, Bool.false_eq_true, if_false, Bool.true_and]
     exact ih
   ·cases he
theorem arr_run (w : World) (d : Nat) {t n e : Nat} {k : Kind} {x y : TI} (ht : ti P t = some x) (hx : x.kind = .arr n e) (hk : cellEq P e = some k) (hy : ti P e = some y) (h1 : y.size = 1) {ax ay : Array Value} {xs ys : List AV} {b : Bool}
  (he : eqCells (List.replicate n k) xs ys = some b) (hlx : n ≤ ax.size) (hly : n ≤ ay.size) (cx : CellsAt E xs ax 0) (cy : CellsAt E ys ay 0) : (Op.equalIn (d + 2) t (.agg ax) (.agg ay)).run P w = .ok b w := by
 obtain ⟨o⟩ := ti_ok ht
 obtain ⟨oe⟩ := ti_ok hy
 have hd := kind_arr (o.kind.trans hx)
 have hu : P.underlying t = some (.array n e) := o.und.trans (congrArg some hd)
 have hc : P.cellsOf e = 1 := by simp [Program.cellsOf, oe.info, oe.size, h1]
 rw [run_equalIn_array w (d + 1) ax ay hu oe.info, hc, List.range_eq_range']
 exact items_run w d hk n 0 xs ys b he (by omega) (by omega) cx cy
theorem field_run (w : World) (d : Nat) {t off : Nat} {ks : List Kind} (h : cellsEq P t = some ks) {ax ay : Array Value} {xs ys : List AV} {b : Bool} (he : eqCells ks xs ys = some b) (hlx : off + ks.length ≤ ax.size) (hly : off + ks.length ≤ ay.size)
  (cx : CellsAt E xs ax off) (cy : CellsAt E ys ay off) : ∃ u v, (part t ax off).run P w = .ok u w ∧ (part t ay off).run P w = .ok v w ∧ (Op.equalIn (d + 2) t u v).run P w = .ok b w := by
 unfold cellsEq at h
 split at h
 ·rename_i k hk
  obtain rfl := Option.some.inj h
  obtain ⟨lx, ly⟩ := eqCells_len he
  match xs, ys, lx, ly with
  | [x], [y], _, _ =>
   simp only [eqCells] at he
   split at he
   ·rename_i b1 c1 hb1 hc1
    simp only [Option.some.injEq] at he hc1
    obtain ⟨p, hpx⟩ := cx 0 x rfl
    obtain ⟨q, hqy⟩ := cy 0 y rfl
    obtain ⟨h1, h2⟩ := cellEq_run hk hb1 hpx hqy (d + 1) w
    simp only [List.length_singleton] at hlx hly
    rw [← hc1, Bool.and_true] at he
    subst he
    exact ⟨_, _, part_run h2 (by omega), part_run h2 (by omega), h1⟩
   ·cases he
 ·split at h
  ·rename_i x hx
   split at h
   ·rename_i n e hxk
    split at h
    ·rename_i k y hk hy
     split at h
     ·rename_i hc
      obtain rfl := Option.some.inj h
      obtain ⟨o⟩ := ti_ok hx
      have hag : ∀ w, (isAgg t).run P w = .ok true w := fun w => by rw [o.isAgg, hxk]; rfl
      simp only [List.length_replicate] at hlx hly
      have hp : ∀ (a : Array Value), (part t a off).run P w = .ok (.agg (a.extract off (off + n))) w := fun a => by
       unfold part
       simp only [Sem.run_bind, hag, Result.andThen_ok, if_true, o.sizeOf, hc.2]
       rfl
      have cs : ∀ {a : Array Value} {zs : List AV}, zs.length = n → off + n ≤ a.size → CellsAt E zs a off → CellsAt E zs (a.extract off (off + n)) 0 := fun {a zs} hz ha hca k c hk => by
       obtain ⟨p, hv⟩ := hca k c hk
       have hkn : k < n := by have := (List.getElem?_eq_some_iff.1 hk).1; omega
       refine ⟨p, ?_⟩
       have e : (a.extract off (off + n)).getD (0 + k) undef = a.getD (off + k) undef := by
        simp only [Array.getD_eq_getD_getElem?, Nat.zero_add]
        rw [Array.getElem?_extract_of_lt (by omega), Array.getElem?_eq_getElem (by omega)]
       rw [e]
       exact hv
      obtain ⟨lx, ly⟩ := eqCells_len he
      simp only [List.length_replicate] at lx ly
      exact ⟨_, _, hp ax, hp ay, arr_run w d hx hxk hk hy hc.1 he (by simp; omega) (by simp; omega) (cs lx hlx cx) (cs ly hly cy)⟩
     ·cases h
    ·cases h
   ·cases h
  ·cases h
theorem eqFields_run (w : World) (d : Nat) {ax ay : Array Value} : ∀ (fs : List Field) (off : Nat) (ks : List Kind) (xs ys : List AV) (b : Bool), flatF P off fs = some ks → eqCells ks xs ys = some b → xs.length + off = ax.size → ys.length + off = ay.size →
  CellsAt E xs ax off → CellsAt E ys ay off → (Op.eqFields (d + 2) ax ay fs).run P w = .ok b w
 | [], off, ks, xs, ys, b, hf, he, _, _, _, _ => by
  simp only [flatF] at hf
  obtain rfl := Option.some.inj hf
  cases xs <;> cases ys <;> simp [eqCells] at he
  subst he
  rfl
 | f :: fs, off, ks, xs, ys, b, hf, he, hlx, hly, hx, hy => by
  simp only [flatF] at hf
  split at hf
  ·rename_i hc
   obtain ⟨hname, hoff⟩ := hc
   split at hf
   ·rename_i k hk
    split at hf
    ·rename_i ks' hks
     obtain rfl := Option.some.inj hf
     obtain ⟨lx, ly⟩ := eqCells_len he
     rw [List.length_append] at lx ly
     obtain ⟨b1, b2, h1, h2, rfl⟩ := eqCells_append he
     have htk : ∀ {zs : List AV} {a : Array Value}, CellsAt E zs a off → CellsAt E (zs.take k.length) a off := fun hz i c hi => hz i c (by
      rw [List.getElem?_take] at hi
      split at hi
      ·exact hi
      ·cases hi)
     have hdr : ∀ {zs : List AV} {a : Array Value}, CellsAt E zs a off → CellsAt E (zs.drop k.length) a (off + k.length) := fun hz i c hi => by
      rw [List.getElem?_drop] at hi
      have := hz _ c hi
      rwa [← Nat.add_assoc] at this
     obtain ⟨u, v, p1, p2, p3⟩ := field_run (E := E) w d hk h1 (by omega) (by omega) (htk hx) (htk hy)
     have ih := eqFields_run w d (ax := ax) (ay := ay) fs (off + k.length) ks' _ _ b2 hks h2 (by rw [List.length_drop]; omega) (by rw [List.length_drop]; omega) (hdr hx) (hdr hy)
     unfold Op.eqFields
     rw [if_pos hname]
     simp only [Sem.run_bind]
     rw [hoff, p1, Result.andThen_ok, p2, Result.andThen_ok, p3, Result.andThen_ok]
     cases b1
     ·simp
     ·simp only [Bool.not_true, Bool.false_eq_true, if_false, Bool.true_and]
      exact ih
    ·cases hf
   ·cases hf
  ·cases hf
theorem flatEq_equal {t : Nat} {ks : List Kind} (h : flatEq P t = some ks) {xs ys : List AV} {b : Bool} (he : eqCells ks xs ys = some b) {p q : Place} {u v : Value} (hx : Val E p (.agg xs) u) (hy : Val E q (.agg ys) v) (w : World) :
  (Op.equal t u v).run P w = .ok b w ∧ P.eqGuardType P.depth t = false := by
 unfold flatEq at h
 split at h
 ·cases h
 ·rename_i hno
  have h1 : P.stoodInHeld t = false := by cases hs : P.stoodInHeld t with
   | false => rfl
   | true => exact absurd (.inl hs) hno
  have h2 : P.eqGuardType P.depth t = false := by cases hs : P.eqGuardType P.depth t with
   | false => rfl
   | true => exact absurd (.inr hs) hno
  refine ⟨?_, h2⟩
  cases hx with
  | agg _ _ ax lx vx =>
  cases hy with
  | agg _ _ ay ly vy =>
  have cx : CellsAt E xs ax 0 := fun k c hk => ⟨_, by rw [Nat.zero_add]; exact vx k c hk⟩
  have cy : CellsAt E ys ay 0 := fun k c hk => ⟨_, by rw [Nat.zero_add]; exact vy k c hk⟩
  split at h
  ·rename_i fs hu
   have hfo : P.fieldsOf t = fs := by unfold Program.fieldsOf; rw [hu]
   have hrun := eqFields_run (P := P) (E := E) w 9997 (ax := ax) (ay := ay) fs.toList 0 ks xs ys b h he lx ly cx cy
   show (Op.equalIn (9999 + 1) t (.agg ax) (.agg ay)).run P w = _
   rw [run_equalIn_struct w 9999 t ax ay (by rw [hfo]; exact hu) h1, hfo]
   exact hrun
  ·rename_i n0 e0 hu
   unfold cellsEq at h
   split at h
   ·rename_i k hk
    exfalso
    unfold cellEq at hk
    split at hk
    ·rename_i k' hk'
     obtain ⟨z, o, hz⟩ := kind_of_map hk'
     have hd := kind_int (o.kind.trans hz)
     rw [o.und, hd] at hu
     cases hu
    ·rename_i hk'
     obtain ⟨z, o, hz⟩ := kind_of_map hk'
     have hd := kind_str (o.kind.trans hz)
     rw [o.und, hd] at hu
     cases hu
    ·rename_i hk'
     obtain ⟨z, o, hz⟩ := kind_of_map hk'
     have hd := kind_bool (o.kind.trans hz)
     rw [o.und, hd] at hu
     cases hu
    ·cases hk
   ·split at h
    ·rename_i x hx
     split at h
     ·rename_i n e hxk
      split at h
      ·rename_i k y hk hy
       split at h
       ·rename_i hc
        obtain rfl := Option.some.inj h
        obtain ⟨l1, l2⟩ := eqCells_len he
        simp only [List.length_replicate] at l1 l2
        exact arr_run w 9998 hx hxk hk hy hc.1 he (by omega) (by omega) cx cy
       ·cases h
      ·cases h
     ·cases h
    ·cases h
  ·cases h
theorem flatEq_run {t : Nat} {ks : List Kind} (h : flatEq P t = some ks) {xs ys : List AV} {b : Bool} (he : eqCells ks xs ys = some b) {p q : Place} {u v : Value} (hx : Val E p (.agg xs) u) (hy : Val E q (.agg ys) v) (eq : Bool) (x y : Operand) (w : World) :
  (do eqGuard (if eq then .eql else .neq) t x y u v; binOp (if eq then .eql else .neq) t u v).run P w = .ok (.bool (if eq then b else !b)) w := by
 obtain ⟨heq, h2⟩ := flatEq_equal h he hx hy w
 cases hx with
 | agg _ _ ax lx vx =>
 cases hy with
 | agg _ _ ay ly vy =>
 have hg : (eqGuard (if eq then BinOp.eql else .neq) t x y (.agg ax) (.agg ay)).run P w = .ok () w := by
  unfold eqGuard
  cases eq <;> simp [run_program, h2, Sem.run_bind]
 simp only [Sem.run_bind, hg, Result.andThen_ok]
 cases eq
 ·simp only [Bool.false_eq_true, if_false, binOp, Sem.run_bind, heq, Result.andThen_ok, Sem.run_pure]
 ·simp only [if_true, binOp, Sem.run_bind, heq, Result.andThen_ok, Sem.run_pure]
def isEql : Op → Option (Bool × Nat × Operand × Operand)
 | .binOp .eql t x y _ => some (true, t, x, y)
 | .binOp .neq t x y _ => some (false, t, x, y)
 | _ => none
theorem isEql_some {op : Op} {eq : Bool} {t : Nat} {x y : Operand} (h : isEql op = some (eq, t, x, y)) : ∃ yt, op = .binOp (if eq then .eql else .neq) t x y yt := by
 unfold isEql at h
 split at h
 ·cases h; exact ⟨_, rfl⟩
 ·cases h; exact ⟨_, rfl⟩
 ·cases h
def isStr (T : Nat → Option TI) (t : Nat) : Bool :=
 match T t with
 | some y => match y.kind with
  | .strct _ => true
  | .arr _ _ => true
  | _ => false
 | none => false
def qeqS (P : Program) (eq : Bool) (t : Nat) (x y : AV) : QR :=
 match flatEq P t, x, y with
 | some ks, .agg xs, .agg ys => match eqCells ks xs ys with
  | some b => ⟨True, .b (if eq then b else !b)⟩
  | none => .no
 | _, _, _ => .no
def qop2 (C : Cx) (st : St) (ty : Nat) (op : Op) : QR :=
 match isEql op with
 | some (eq, t, x, y) => match isStr C.T t with
  | true => qeqS C.P eq t (st.rd 0 x) (st.rd 0 y)
  | false => qop C.T st ty op
 | none => qop C.T st ty op
theorem qop2_sound {C : Cx} {N : Nat} (R : Rel N E) {a : Act} (ha : a.tmps = E.tm) (o : Oper) (h : (qop2 C E.st o.type o.op).ok) :
  (qop2 C E.st o.type o.op).v.free = true ∧ ∃ v, (execOp a.eval o).run C.P E.w = .ok (.value v) E.w ∧ Val E .no (qop2 C E.st o.type o.op).v v := by
 unfold qop2 at h ⊢
 split at h
 ·rename_i eq t x y hop
  split at h
  ·obtain ⟨yt, ho⟩ := isEql_some hop
   unfold qeqS at h ⊢
   split at h
   ·rename_i ks xs ys hks hxs hys
    split at h
    ·rename_i b hb
     have hx := R.rd ha 0 x .no
     have hy := R.rd ha 0 y .no
     rw [hxs] at hx
     rw [hys] at hy
     refine ⟨rfl, .bool (if eq then b else !b), ?_, .b _ _⟩
     have h1 := flatEq_run (P := C.P) (E := E) hks hb hx hy eq x y E.w
     unfold execOp
     simp only [ho]
     simp only [Sem.run_bind] at h1 ⊢
     generalize (eqGuard (if eq then BinOp.eql else .neq) t x y (a.eval x) (a.eval y)).run C.P E.w = r1 at h1 ⊢
     cases r1 with
     | halt e w1 => simp [Result.andThen] at h1
     | ok u w1 =>
      simp only [Result.andThen_ok] at h1 ⊢
      rw [h1]
      rfl
    ·exact h.elim
   ·exact h.elim
  ·exact qop_sound R ha o h
 ·exact qop_sound R ha o h
end
end Go.AM
namespace Go.AM
def bytesOf (b : ByteArray) : List (List AV) := b.data.toList.map fun c => [.i .u8 c.toNat]
theorem bytesOf_flat (b : ByteArray) : (bytesOf b).flatten = b.data.toList.map fun c => AV.i .u8 c.toNat := by
 unfold bytesOf
 induction b.data.toList with
 | nil => rfl
 | cons c l ih => simp only [List.map_cons, List.flatten_cons, ih]; rfl
variable {C : Cx} {S : Start} {E : Env}
theorem toBytes_sound (I : Inv C.N S E) {d s t e : Nat} {b : ByteArray} {vx : Value} (hx : Val E .no (.s b) vx) (hs : (C.T s).isSome = true) (ht : (C.T t).map TI.kind = some (.slice e)) (he : (C.T e).map TI.kind = some (.int .u8))
  (hd : d < C.N) (hf : (E.st.slots d).free = true) :
  ∃ v E', (convert s t vx).run C.P E.w = .ok v E'.w ∧ Inv C.N S E' ∧ E'.tm = E.tm.setIfInBounds d v ∧ E'.st = E.st.put d (.sl .fro 1 (bytesOf b)) := by
 obtain ⟨y, hy⟩ := Option.isSome_iff_exists.1 hs
 obtain ⟨os⟩ := ti_ok (P := C.P) hy
 obtain ⟨zt, ot, hzt⟩ := kind_of_map (P := C.P) ht
 obtain ⟨ze, oe, hze⟩ := kind_of_map (P := C.P) he
 have hut : C.P.underlying t = some (.slice e) := ot.und.trans (congrArg some (kind_slice (ot.kind.trans hzt)))
 have hue : C.P.underlying e = some (.int .u8) := oe.und.trans (congrArg some (kind_int (oe.kind.trans hze)))
 cases hx
 have run := Lib.run_convert_string_bytes E.w s t e b os.und hut hue
 let w' := Lib.bytesWorld E.w e b
 have hold : ∀ bk, bk < E.w.heap.size → w'.heap[bk]? = E.w.heap[bk]? := Lib.bytesWorld_at_old E.w e b
 have hsz : w'.heap.size = E.w.heap.size + 1 := Lib.bytesWorld_size E.w e b
 have hnone : E.ω E.w.heap.size = none := by
  cases h : E.ω E.w.heap.size with
  | none => rfl
  | some q => exact absurd (I.rel.own _ q h) (Nat.lt_irrefl _)
 obtain ⟨_, hR⟩ := I.rel.put (fun _ => False) (fun _ _ _ _ h => h) (fun _ h => h) (fun h => h) w' E.ω (fun bk => E.Pub bk ∨ bk = E.w.heap.size) d (.sl .fro 1 (bytesOf b)) (.slice (some ⟨E.w.heap.size, 0, none⟩) b.size (grownCap E.w b.size 0 e)) hd (fun π sz xs => free_noOwn π hf) (fun bk h _ => hold bk h) (fun _ _ h => h) (fun _ h => .inl h)
  (fun bk h => by
   rcases h with h | rfl
   ·exact ⟨by have := (I.rel.pub bk h).1; omega, (I.rel.pub bk h).2⟩
   ·exact ⟨by omega, hnone⟩) (fun bk q h => by have := I.rel.own bk q h; omega)
 have hlen : (bytesOf b).length = b.size := by unfold bytesOf; rw [List.length_map, Array.length_toList]; rfl
 have hval := Val.sl (E := ⟨w', E.β, E.ω, fun bk => E.Pub bk ∨ bk = E.w.heap.size, E.st.put d (.sl .fro 1 (bytesOf b)), E.tm.setIfInBounds d (.slice (some ⟨E.w.heap.size, 0, none⟩) b.size (grownCap E.w b.size 0 e))⟩) (.slot d []) .fro 1 (bytesOf b) E.w.heap.size 0 (grownCap E.w b.size 0 e) (by rw [hlen]; exact grownCap_ge ..)
  ⟨fun x hx => by obtain ⟨c, _, rfl⟩ := List.mem_map.1 hx; rfl, fun k c hk => by
   rw [bytesOf_flat, List.getElem?_map] at hk
   obtain ⟨u, hu, rfl⟩ := Option.map_eq_some_iff.1 hk
   have hlt : k < b.size := by have := (List.getElem?_eq_some_iff.1 hu).1; rw [Array.length_toList] at this; exact this
   refine ⟨.int .u8 u.toNat, ?_, .i _ _, rfl⟩
   have := Lib.bytesWorld_cell E.w e b k hlt
   rw [List.getD_eq_getElem?_getD, hu] at this
   rw [Nat.zero_add]
   exact this⟩ (.inr rfl) trivial
 rw [hlen] at hval
 refine ⟨_, ⟨w', E.β, E.ω, fun bk => E.Pub bk ∨ bk = E.w.heap.size, E.st.put d (.sl .fro 1 (bytesOf b)), E.tm.setIfInBounds d (.slice (some ⟨E.w.heap.size, 0, none⟩) b.size (grownCap E.w b.size 0 e))⟩, run, ⟨hR hval, ?_⟩, rfl, rfl⟩
 have hos : w'.os = E.w.os ∧ w'.tape = E.w.tape ∧ w'.output = E.w.output ∧ w'.drawn = E.w.drawn + 1 := by
  simp [w', Lib.bytesWorld, World.freeze, World.alloc, World.drew, -World.alloc_eq, -World.drew_eq]
 refine ⟨⟨hos.1.trans I.fr.os.1, fun h => Nat.le_trans (I.fr.os.2 h) (by show E.w.drawn ≤ w'.drawn; omega)⟩, hos.2.1.trans I.fr.tape, hos.2.2.1.trans I.fr.output, by have := I.fr.size; show S.w0.heap.size ≤ w'.heap.size; omega, fun k hk hn => (hold k (Nat.lt_of_lt_of_le hk I.fr.size)).trans (I.fr.block k hk hn), I.fr.own, fun bk h => .inl (I.fr.pub0 bk h), fun bk h => ?_, I.fr.beta⟩
 rcases h with h | rfl
 ·exact I.fr.pub1 bk h
 ·exact .inr (.inl I.fr.size)
end Go.AM
namespace Go.AM
def abuildBox (C : Cx) (st : St) (d t len : Nat) (parts : List (Nat × AV)) (K : St → Prop) : Prop :=
 match (C.T t).map TI.kind with
 | some (.slice e) => match C.T e with
  | some y => match fillL (fun i => some (i * y.size, y.size)) (List.replicate len y.zero).flatten parts with
   | some cs => len * y.size ≤ 16777216 ∧ 0 < y.size ∧ (parts.all fun p => p.2.free) = true ∧ anewBox C st d (.agg cs) fun s => K (s.put d (.bs (C.base + d) 0 len len))
   | none => False
  | none => False
 | _ => False
def abuild (C : Cx) (st : St) (d t len : Nat) (parts : List (Nat × AV)) (K : St → Prop) : Prop :=
 match parts with
 | (_, .fn _ _ _) :: _ => abuildBox C st d t len parts K
 | _ => abuildSlice C st d t len parts K
section
variable {C : Cx} {S : Start} {E : Env}
theorem abuildBox_sound (I : Inv C.N S E) (hbase : S.k ≤ C.base) {d t len : Nat} {ps : List (Nat × AV)} {qs : Array (Nat × Value)} {K : St → Prop} (hl : ps.length = qs.size)
  (hv : ∀ (j : Nat) p q, ps[j]? = some p → qs[j]? = some q → p.1 = q.1 ∧ Val E .no p.2 q.2) (h : abuildBox C E.st d t len ps K) :
  ∃ v E', (Instr.buildSlice t len qs).run C.P E.w = .ok v E'.w ∧ Inv C.N S E' ∧ E'.tm = E.tm.setIfInBounds d v ∧ K E'.st := by
 unfold abuildBox at h
 split at h
 ·rename_i e hk
  obtain ⟨z, oz, hz⟩ := kind_of_map (P := C.P) hk
  have hd := kind_slice (oz.kind.trans hz)
  split at h
  ·rename_i y hy
   obtain ⟨oy⟩ := ti_ok hy
   split at h
   ·rename_i cs hfill
    obtain ⟨hmany, hsz, hfr, hbox⟩ := h
    have hside0 : Side E (List.replicate len y.zero).flatten ((Array.range (len * y.size)).map (oy.z.cells[· % oy.z.cells.size]!)) := by
     refine ⟨by simp [oy.zlen], fun k c hk => ?_⟩
     obtain ⟨h1, h2⟩ := rep_flat_get _ _ _ _ hk
     rw [oy.zlen] at h1 h2
     have := oy.zval E .no _ c h2
     have he : ((Array.range (len * y.size)).map (oy.z.cells[· % oy.z.cells.size]!)).getD k undef = oy.z.cells.getD (k % y.size) undef := by
      have hlt : k % y.size < oy.z.cells.size := by rw [oy.zcs]; exact Nat.mod_lt _ hsz
      rw [Array.getD_eq_getD_getElem?, Array.getElem?_map, Array.getElem?_range, if_pos h1]
      simp [oy.zcs, getbang hlt]
      rw [Array.getElem?_eq_getElem hlt]; rfl
     rw [he]; exact this
    have hfree0 : AV.freeL (List.replicate len y.zero).flatten = true := by
     rw [AV.freeL_iff]
     intro c hc
     obtain ⟨k, hk⟩ := List.getElem?_of_mem hc
     obtain ⟨h1, h2⟩ := rep_flat_get _ _ _ _ hk
     exact AV.freeL_get oy.zfree h2
    obtain ⟨f1, arr', f2, f3⟩ := fill_sound (E := E) ps qs.toList _ _ cs hside0 hfree0 (by simpa using hl) (fun j p q h1 h2 => by
     obtain ⟨e1, e2⟩ := hv j p q h1 (by simpa using h2)
     exact ⟨e1, e2, List.all_eq_true.1 hfr _ (List.mem_of_getElem? h1)⟩) hfill
    obtain ⟨hdN, b2, b3, b4, b5, b6⟩ := hbox
    obtain ⟨E1, hw, hI, htm, hp0, hK⟩ := anewBox_sound (K := fun s => s.slots d = .ptr (C.base + d) 0 ∧ K (s.put d (.bs (C.base + d) 0 len len))) I hbase (v := .agg arr') e (f3.agg) ⟨hdN, b2, b3, b4, b5, by simp [St.put], b6⟩
    have hp := hI.rel.slots d
    rw [hp0, htm] at hp
    have hno : NoOwn (E1.st.slots d) := fun π sz xs => by rw [hp0]; exact free_noOwn π rfl
    have hsz2 : d < E.tm.size := by rw [I.rel.size]; exact hdN
    have hβ : E1.β (C.base + d) = E.w.heap.size := by
     rw [Array.getD_eq_getD_getElem?, Array.getElem?_setIfInBounds_self_of_lt hsz2] at hp
     generalize hq : (some (Value.pointer (some ⟨E.w.heap.size, 0, none⟩))).getD undef = q at hp
     cases hp with
     | ptr _ _ _ =>
      injection hq with hq
      injection hq with hq
      injection hq with hq
      exact hq.symm
    have hI2 := hI.putq d (.bs (C.base + d) 0 len len) (.slice (some ⟨E.w.heap.size, 0, none⟩) len len) hdN hno rfl (by rw [← hβ]; exact .bs _ _ _ _ _)
    refine ⟨.slice (some ⟨E.w.heap.size, 0, none⟩) len len, _, ?_, hI2, ?_, hK⟩
    ·have hlim : ¬ (len * y.size > 2 ^ 24) := by omega
     by_cases h0 : len * y.size = 0
     ·have he : ((Array.range (len * y.size)).map ((#[] : Array Value)[· % (#[] : Array Value).size]!)) = ((Array.range (len * y.size)).map (oy.z.cells[· % oy.z.cells.size]!)) := by rw [h0]; simp
      simp only [Instr.buildSlice, Sem.run_bind, oz.underlying, hd, Result.andThen_ok, oy.sizeOf, if_neg hlim]
      rw [if_pos h0]
      simp only [Sem.run_bind, Sem.run_pure, Result.andThen_ok, he, f2]
      rw [hw]
      rfl
     ·simp only [Instr.buildSlice, Sem.run_bind, oz.underlying, hd, Result.andThen_ok, oy.sizeOf, if_neg hlim]
      rw [if_neg h0]
      simp only [Sem.run_bind, oy.zeroValue, Sem.run_pure, Result.andThen_ok, f2]
      rw [hw]
      rfl
    ·show E1.tm.setIfInBounds d _ = _
     rw [htm, Array.setIfInBounds_setIfInBounds]
   ·exact h.elim
  ·exact h.elim
 ·exact h.elim
end
end Go.AM
namespace Go.AM
def isRes (C : Cx) : Operand → Bool
 | .tmp t => C.res.contains t
 | _ => false
def aquiet (C : Cx) (o : Oper) (st : St) (d : Nat) (K : St → Prop) : Prop :=
 (qop2 C st o.type o.op).ok ∧ d < C.N ∧ (st.slots d).free = true ∧ K (st.put d (qop2 C st o.type o.op).v)
def astore (C : Cx) (st : St) (t : Nat) (rf : Bool) (x y : AV) (K : St → Prop) : Prop :=
 match x with
 | .ptr id off => astoreBox C st t rf id off y K
 | .pt (.vw q true) ix cells off => astoreElem C st t q ix off cells y K
 | _ => False
def aappendX (C : Cx) (st : St) (d t t2 id off n cap : Nat) (x : AV) (K : St → Prop) : Prop :=
 aappendB C st d t t2 id off n cap x K ∨ aappendG C st d t t2 id off n cap x K ∨ aappendZ C st d t t2 id off n cap x K
def aappendL (C : Cx) (st : St) (d : Nat) : List AV → List Nat → (St → Prop) → Prop
 | [s, x], [t, t2], K => match s with
  | .bs id off n cap => aappendX C st d t t2 id off n cap x K
  | s => aappend C st d t t2 s x K
 | _, _, _ => False
def acopyL (C : Cx) (st : St) (d : Nat) : List AV → List Nat → (St → Prop) → Prop
 | [.bs id off n _, x], [t, _], K => acopyB C st d t id off n x K
 | _, _, _ => False
def aclearL (C : Cx) (st : St) : List AV → List Nat → (St → Prop) → Prop
 | [.bs id off n _], [t], K => aclearB C st t id off n K
 | _, _, _ => False
def rdArgs (C : Cx) (st : St) : List Operand → List Nat → List AV
 | x :: xs, t :: ts => st.rd (szOf C.T t) x :: rdArgs C st xs ts
 | x :: xs, [] => st.rd 0 x :: rdArgs C st xs []
 | [], _ => []
def acallV (C : Cx) (st : St) (d : Nat) (f : AV) (args : List AV) (K : St → Prop) : Prop :=
 match f with
 | .fn f fi ca => acall C st d f (fi ++ args ++ ca) K ∨ acallP C st (some d) f (fi ++ args ++ ca) K ∨ acallH C st d f (fi ++ args ++ ca) K ∨ acallS C st d f (fi ++ args ++ ca) K ∨ acallL C st d f (fi ++ args ++ ca) K ∨ acallX C st d f (fi ++ args ++ ca) K
 | _ => False
def acallN (C : Cx) (st : St) (f : AV) (args : List AV) (K : St → Prop) : Prop :=
 match f with
 | .fn f fi ca => acallP C st none f (fi ++ args ++ ca) K
 | _ => False
def elemSz (T : Nat → Option TI) (t : Nat) : Nat :=
 match T t with
 | some y => match y.kind with
  | .slice e => szOf T e
  | _ => 0
 | none => 0
def isNilCmp : Op → Option (Bool × Nat × Operand)
 | .binOp .eql t x (.const (.slice none 0 0)) _ => some (true, t, x)
 | .binOp .neq t x (.const (.slice none 0 0)) _ => some (false, t, x)
 | _ => none
def anil (C : Cx) (st : St) (d : Nat) (eq : Bool) (t : Nat) (x : AV) (K : St → Prop) : Prop :=
 match (C.T t).map TI.kind, x with
 | some (.slice _), .sl g _ xs => d < C.N ∧ (st.slots d).free = true ∧ (xs = [] → K (st.put d (.b eq))) ∧ (g ≠ .nl → K (st.put d (.b !eq)))
 | some (.slice _), .bs _ _ _ _ => d < C.N ∧ (st.slots d).free = true ∧ K (st.put d (.b !eq))
 | _, _ => False
def qcnv (C : Cx) (st : St) (op : Op) (q : QR) : QR :=
 match op with
 | .convert s t x => match (C.T t).map TI.kind, st.rd 0 x with
  | some (.slice e), .s b => ⟨(C.T s).isSome = true ∧ (C.T e).map TI.kind = some (.int .u8), .sl .fro 1 (bytesOf b)⟩
  | _, _ => q
 | _ => q
def acnv (C : Cx) (o : Oper) (st : St) (d : Nat) (K : St → Prop) : Prop :=
 match o.op with
 | .convert s t x => match (C.T t).map TI.kind, st.rd 0 x with
  | some (.slice e), .s b => ((C.T s).isSome = true ∧ (C.T e).map TI.kind = some (.int .u8)) ∧ d < C.N ∧ (st.slots d).free = true ∧ K (st.put d (.sl .fro 1 (bytesOf b)))
  | _, _ => aquiet C o st d K
 | _ => aquiet C o st d K
def aelse (C : Cx) (o : Oper) (st : St) (d : Nat) (K : St → Prop) : Prop :=
 match isNilCmp o.op with
 | some (eq, t, x) => anil C st d eq t (st.rd 0 x) K
 | none => acnv C o st d K
def aop (C : Cx) (o : Oper) (st : St) (K : St → Prop) : Prop :=
 match o.dst, o.op with
 | some d, .assign x => aassign C st d (st.rd (szOf C.T o.type) x) K
 | some d, .alloc t => match C.T t with
  | some y => anewBox C st d (.agg y.zero) K
  | none => False
 | some d, .box t x => anewBox C st d (st.rd (szOf C.T t) x) K
 | none, .store t a x => astore C st t (isRes C a) (st.rd 0 a) (st.rd (szOf C.T t) x) K
 | some d, .buildSlice t len parts => abuild C st d t len (parts.toList.map fun p => (p.1, st.rd (elemSz C.T t) p.2)) K
 | some d, .makeSlice t l c => amakeSlice C st d t (st.rd 0 l) (st.rd 0 c) K
 | some d, .call ⟨.builtin .append, args, ts⟩ => aappendL C st d (rdArgs C st args.toList ts.toList) ts.toList K
 | some d, .call ⟨.builtin .copy, args, ts⟩ => acopyL C st d (rdArgs C st args.toList ts.toList) ts.toList K
 | some d, .call ⟨.value f, args, ts⟩ => acallV C st d (st.rd 0 f) (rdArgs C st args.toList ts.toList) K
 | some d, _ => aelse C o st d K
 | none, .call ⟨.builtin .clear, args, ts⟩ => aclearL C st (rdArgs C st args.toList ts.toList) ts.toList K
 | none, .call ⟨.value f, args, ts⟩ => acallN C st (st.rd 0 f) (rdArgs C st args.toList ts.toList) K
 | none, _ => False
theorem exec_buildSlice (ρ : Operand → Value) (o : Oper) {t len : Nat} {parts : Array (Nat × Operand)} (ho : o.op = .buildSlice t len parts) :
  execOp ρ o = (do pure (Next.value (← Instr.buildSlice t len (parts.map fun p => (p.1, ρ p.2))))) := by
 unfold execOp
 simp only [ho]
theorem exec_makeSlice (ρ : Operand → Value) (o : Oper) {t : Nat} {l c : Operand} (ho : o.op = .makeSlice t l c) : execOp ρ o = (do pure (Next.value (← Instr.makeSlice t (ρ l) (ρ c)))) := by
 unfold execOp
 simp only [ho]
theorem exec_alloc (ρ : Operand → Value) (o : Oper) {t : Nat} (ho : o.op = .alloc t) : execOp ρ o = (do pure (Next.value (← Instr.alloc t true (.tuple #[])))) := by
 unfold execOp
 simp only [ho]
theorem exec_box (ρ : Operand → Value) (o : Oper) {t : Nat} {x : Operand} (ho : o.op = .box t x) : execOp ρ o = (do pure (Next.value (← Instr.box t (ρ x)))) := by
 unfold execOp
 simp only [ho]
theorem exec_store (ρ : Operand → Value) (o : Oper) {t : Nat} {x y : Operand} (ho : o.op = .store t x y) : execOp ρ o = (do Instr.storeAt t (ρ x) (ρ y); pure .skip) := by
 unfold execOp
 simp only [ho]
theorem exec_assign (ρ : Operand → Value) (o : Oper) {x : Operand} (ho : o.op = .assign x) : execOp ρ o = pure (.value (ρ x)) := by
 unfold execOp
 simp only [ho]
theorem exec_append (ρ : Operand → Value) (o : Oper) {x y : Operand} {t t2 : Nat} (ho : o.op = .call ⟨.builtin .append, #[x, y], #[t, t2]⟩) : execOp ρ o = (do pure (Next.value (← Builtin.append_ #[t, t2] o.type #[ρ x, ρ y]))) := by
 unfold execOp
 simp only [ho, resolve, pure_bind, invoke, Go.builtin, List.map_toArray, List.map_cons, List.map_nil]
theorem exec_copy (ρ : Operand → Value) (o : Oper) {x y : Operand} {t t2 : Nat} (ho : o.op = .call ⟨.builtin .copy, #[x, y], #[t, t2]⟩) : execOp ρ o = (do pure (Next.value (← Builtin.copy_ #[t, t2] o.type #[ρ x, ρ y]))) := by
 unfold execOp
 simp only [ho, resolve, pure_bind, invoke, Go.builtin, List.map_toArray, List.map_cons, List.map_nil]
theorem exec_clear (ρ : Operand → Value) (o : Oper) {x : Operand} {t : Nat} (ho : o.op = .call ⟨.builtin .clear, #[x], #[t]⟩) : execOp ρ o = (do pure (Next.value (← Builtin.clear_ #[t] o.type #[ρ x]))) := by
 unfold execOp
 simp only [ho, resolve, pure_bind, invoke, Go.builtin, List.map_toArray, List.map_cons, List.map_nil]
theorem exec_call (ρ : Operand → Value) (o : Oper) {f : Operand} {args : Array Operand} {ts : Array Nat} {g : Nat} {fi ca : Array Value} (ho : o.op = .call ⟨.value f, args, ts⟩) (hf : ρ f = .func (.func g) fi ca) :
  execOp ρ o = callFunc g (fi ++ args.map ρ ++ ca) := by
 unfold execOp
 simp only [ho, resolve, hf, Deferred.ofValue, pure_bind, invoke]
section
variable {C : Cx} {S : Start} {E : Env}
theorem rdArgs_ok (I : Inv C.N S E) {a : Act} (ha : a.tmps = E.tm) : ∀ (xs : List Operand) (ts : List Nat), (rdArgs C E.st xs ts).length = xs.length ∧ AV.freeL (rdArgs C E.st xs ts) = true ∧
  ∀ (k : Nat) c, (rdArgs C E.st xs ts)[k]? = some c → Val E .no c ((xs.map a.eval).getD k undef)
 | [], ts => by simp [rdArgs, AV.freeL]
 | x :: xs, [] => by
  obtain ⟨h1, h2, h3⟩ := rdArgs_ok I ha xs []
  refine ⟨by simp [rdArgs, h1], by simp [rdArgs, AV.freeL, h2, St.rd_free], fun k c hk => ?_⟩
  cases k with
  | zero => simp [rdArgs] at hk; subst hk; exact I.rel.rd ha 0 x .no
  | succ k => simpa using h3 k c (by simpa [rdArgs] using hk)
 | x :: xs, t :: ts => by
  obtain ⟨h1, h2, h3⟩ := rdArgs_ok I ha xs ts
  refine ⟨by simp [rdArgs, h1], by simp [rdArgs, AV.freeL, h2, St.rd_free], fun k c hk => ?_⟩
  cases k with
  | zero => simp [rdArgs] at hk; subst hk; exact I.rel.rd ha _ x .no
  | succ k => simpa using h3 k c (by simpa [rdArgs] using hk)
theorem act_put (a : Act) (d : Nat) (v : Value) : (a.put (some d) v).tmps = a.tmps.setIfInBounds d v ∧ (a.put (some d) v).defers = a.defers := ⟨rfl, rfl⟩
def Next (C : Cx) (S : Start) (a : Act) (K : St → Prop) (next : Act → World → Prop) : Prop :=
 ∀ E' a', Inv C.N S E' → a'.tmps = E'.tm → a'.defers = a.defers → K E'.st → next a' E'.w
theorem next_put {a : Act} {K : St → Prop} {next : Act → World → Prop} (hnext : Next C S a K next) (ha : a.tmps = E.tm) {o : Oper} {d : Nat} {v : Value} {E' : Env} (hd : o.dst = some d) (hI : Inv C.N S E') (htm : E'.tm = E.tm.setIfInBounds d v)
  (hK : K E'.st) : next (a.put o.dst v) E'.w := by
 refine hnext E' _ hI ?_ ?_ hK
 ·rw [hd, (act_put a d v).1, htm, ha]
 ·rw [hd]; exact (act_put a d v).2
theorem wp_val {a : Act} {K : St → Prop} {next : Act → World → Prop} {Q : Exit → Act → World → Prop} (hnext : Next C S a K next) (ha : a.tmps = E.tm) {o : Oper} {s : Sem Value} {d : Nat} {v : Value} {E' : Env} (hd : o.dst = some d)
  (he : execOp a.eval o = (do pure (Next.value (← s)))) (hr : s.run C.P E.w = .ok v E'.w) (hI : Inv C.N S E') (htm : E'.tm = E.tm.setIfInBounds d v) (hK : K E'.st) : o.wp C.P a E.w next Q := by
 unfold Oper.wp
 rw [he]
 simp only [Sem.run_bind, hr, Result.andThen_ok, Sem.run_pure, Oper.upon_value]
 exact next_put hnext ha hd hI htm hK
section
variable {a : Act} {K : St → Prop} {next : Act → World → Prop} {Q : Exit → Act → World → Prop} {o : Oper} {d : Nat}
theorem wp_assign (I : Inv C.N S E) (ha : a.tmps = E.tm) (hnext : Next C S a K next) {x : Operand} (hd : o.dst = some d) (ho : o.op = .assign x) (h : aassign C E.st d (E.st.rd (szOf C.T o.type) x) K) : o.wp C.P a E.w next Q := by
 obtain ⟨E', hw, hI, htm, hK⟩ := aassign_sound I (I.rel.rd ha _ x .no) h
 unfold Oper.wp
 rw [exec_assign a.eval o ho]
 simp only [Sem.run_pure, Oper.upon_value, ← hw]
 exact next_put hnext ha hd hI htm hK
theorem wp_alloc (I : Inv C.N S E) (hbase : S.k ≤ C.base) (ha : a.tmps = E.tm) (hnext : Next C S a K next) {t : Nat} {y : TI} (hy : C.T t = some y) (hd : o.dst = some d) (ho : o.op = .alloc t) (h : anewBox C E.st d (.agg y.zero) K) : o.wp C.P a E.w next Q := by
 obtain ⟨oy⟩ := ti_ok hy
 obtain ⟨E', hw, hI, htm, hK⟩ := anewBox_sound I hbase (v := .agg oy.z.cells) t ((zero_side oy).agg) h
 refine wp_val hnext ha hd (s := Instr.alloc t true (.tuple #[])) (exec_alloc a.eval o ho) ?_ hI htm hK
 rw [hw]
 simp only [Instr.alloc, Sem.run_bind, oy.zeroValue, Result.andThen_ok]
 rfl
theorem wp_box (I : Inv C.N S E) (hbase : S.k ≤ C.base) (ha : a.tmps = E.tm) (hnext : Next C S a K next) {t : Nat} {x : Operand} (hd : o.dst = some d) (ho : o.op = .box t x) (h : anewBox C E.st d (E.st.rd (szOf C.T t) x) K) : o.wp C.P a E.w next Q := by
 obtain ⟨E', hw, hI, htm, hK⟩ := anewBox_sound I hbase t (I.rel.rd ha _ x .no) h
 refine wp_val hnext ha hd (s := Instr.box t (a.eval x)) (exec_box a.eval o ho) ?_ hI htm hK
 rw [hw]
 rfl
theorem wp_store (I : Inv C.N S E) (ha : a.tmps = E.tm) (hnext : Next C S a K next) {t : Nat} {x y : Operand} {rf : Bool} {sz : Nat} (hd : o.dst = none) (ho : o.op = .store t x y) (h : astore C E.st t rf (E.st.rd 0 x) (E.st.rd sz y) K) : o.wp C.P a E.w next Q := by
 have key : ∃ E', (Instr.storeAt t (a.eval x) (a.eval y)).run C.P E.w = .ok () E'.w ∧ Inv C.N S E' ∧ E'.tm = E.tm ∧ K E'.st := by
  unfold astore at h
  have hp := I.rel.rd ha 0 x .no
  split at h
  ·rename_i id off hx
   rw [hx] at hp
   generalize hv : a.eval x = v at hp ⊢
   cases hp
   exact astoreBox_sound I (I.rel.rd ha _ y .no) h
  ·rename_i q ix cells off hx
   rw [hx] at hp
   exact astoreElem_sound I (I.rel.rd ha _ y .no) hp h
  ·exact h.elim
 obtain ⟨E', hr, hI, htm, hK⟩ := key
 unfold Oper.wp
 rw [exec_store a.eval o ho]
 simp only [Sem.run_bind, hr, Result.andThen_ok, Sem.run_pure, Oper.upon_skip]
 refine hnext E' _ hI ?_ ?_ hK
 ·rw [hd]; show a.tmps = _; rw [htm, ha]
 ·rw [hd]; rfl
theorem wp_buildSlice (I : Inv C.N S E) (ha : a.tmps = E.tm) (hnext : Next C S a K next) {t len : Nat} {parts : Array (Nat × Operand)} {sz : Nat} (hd : o.dst = some d) (ho : o.op = .buildSlice t len parts)
  (h : abuildSlice C E.st d t len (parts.toList.map fun p => (p.1, E.st.rd sz p.2)) K) : o.wp C.P a E.w next Q := by
 have hl : (parts.toList.map fun p => (p.1, E.st.rd sz p.2)).length = (parts.map fun p => (p.1, a.eval p.2)).size := by
  rw [List.length_map, Array.size_map, Array.length_toList]
 have hq : ∀ (j : Nat) (p : Nat × AV) (q : Nat × Value), (parts.toList.map fun p => (p.1, E.st.rd sz p.2))[j]? = some p → (parts.map fun p => (p.1, a.eval p.2))[j]? = some q → p.1 = q.1 ∧ Val E .no p.2 q.2 := by
  intro j p q h1 h2
  rw [List.getElem?_map] at h1
  rw [Array.getElem?_map, ← Array.getElem?_toList] at h2
  cases hz : parts.toList[j]? with
  | none => rw [hz] at h1; cases h1
  | some z =>
   rw [hz] at h1 h2
   have e1 := Option.some.inj h1
   have e2 := Option.some.inj h2
   rw [← e1, ← e2]
   exact ⟨rfl, I.rel.rd ha sz z.2 .no⟩
 generalize hps : (parts.toList.map fun p => (p.1, E.st.rd sz p.2)) = ps at hl hq h
 generalize hqs : (parts.map fun p => (p.1, a.eval p.2)) = qs at hl hq
 have he := exec_buildSlice a.eval o ho
 rw [hqs] at he
 obtain ⟨v, E', hr, hI, htm, hK, _⟩ := abuildSlice_sound I hl hq h
 exact wp_val hnext ha hd he hr hI htm hK
theorem wp_build (I : Inv C.N S E) (hbase : S.k ≤ C.base) (ha : a.tmps = E.tm) (hnext : Next C S a K next) {t len : Nat} {parts : Array (Nat × Operand)} {sz : Nat} (hd : o.dst = some d) (ho : o.op = .buildSlice t len parts)
  (h : abuildBox C E.st d t len (parts.toList.map fun p => (p.1, E.st.rd sz p.2)) K) : o.wp C.P a E.w next Q := by
 have hl : (parts.toList.map fun p => (p.1, E.st.rd sz p.2)).length = (parts.map fun p => (p.1, a.eval p.2)).size := by
  rw [List.length_map, Array.size_map, Array.length_toList]
 have hq : ∀ (j : Nat) (p : Nat × AV) (q : Nat × Value), (parts.toList.map fun p => (p.1, E.st.rd sz p.2))[j]? = some p → (parts.map fun p => (p.1, a.eval p.2))[j]? = some q → p.1 = q.1 ∧ Val E .no p.2 q.2 := by
  intro j p q h1 h2
  rw [List.getElem?_map] at h1
  rw [Array.getElem?_map, ← Array.getElem?_toList] at h2
  cases hz : parts.toList[j]? with
  | none => rw [hz] at h1; cases h1
  | some z =>
   rw [hz] at h1 h2
   have e1 := Option.some.inj h1
   have e2 := Option.some.inj h2
   rw [← e1, ← e2]
   exact ⟨rfl, I.rel.rd ha sz z.2 .no⟩
 generalize hps : (parts.toList.map fun p => (p.1, E.st.rd sz p.2)) = ps at hl hq h
 generalize hqs : (parts.map fun p => (p.1, a.eval p.2)) = qs at hl hq
 have he := exec_buildSlice a.eval o ho
 rw [hqs] at he
 obtain ⟨v, E', hr, hI, htm, hK⟩ := abuildBox_sound I hbase hl hq h
 exact wp_val hnext ha hd he hr hI htm hK
theorem wp_makeSlice (I : Inv C.N S E) (ha : a.tmps = E.tm) (hnext : Next C S a K next) {t : Nat} {l c : Operand} (hd : o.dst = some d) (ho : o.op = .makeSlice t l c) (h : amakeSlice C E.st d t (E.st.rd 0 l) (E.st.rd 0 c) K) : o.wp C.P a E.w next Q := by
 obtain ⟨v, E', hr, hI, htm, hK⟩ := amakeSlice_sound I (I.rel.rd ha 0 l .no) (I.rel.rd ha 0 c .no) h
 exact wp_val hnext ha hd (s := Instr.makeSlice t (a.eval l) (a.eval c)) (exec_makeSlice a.eval o ho) hr hI htm hK
theorem wp_append (I : Inv C.N S E) (ha : a.tmps = E.tm) (hnext : Next C S a K next) {args : Array Operand} {ts : Array Nat} (hd : o.dst = some d) (ho : o.op = .call ⟨.builtin .append, args, ts⟩)
  (h : aappendL C E.st d (rdArgs C E.st args.toList ts.toList) ts.toList K) : o.wp C.P a E.w next Q := by
 obtain ⟨g1, g2, g3⟩ := rdArgs_ok I ha args.toList ts.toList
 have hs : ∃ s x t t2, rdArgs C E.st args.toList ts.toList = [s, x] ∧ ts.toList = [t, t2] := by
  generalize rdArgs C E.st args.toList ts.toList = l1 at h
  generalize ts.toList = l2 at h
  unfold aappendL at h
  split at h
  ·exact ⟨_, _, _, _, rfl, rfl⟩
  ·exact h.elim
 obtain ⟨s, x, t, t2, hrd, hts⟩ := hs
 rw [hrd, hts] at h
 rw [hrd] at g1 g2 g3
 have hal : ∃ o1 o2, args = #[o1, o2] := by
  have h2 : args.toList.length = 2 := by rw [← g1]; rfl
  match hat : args.toList, h2 with
  | [o1, o2], _ => exact ⟨o1, o2, by apply Array.ext'; simpa using hat⟩
 obtain ⟨o1, o2, rfl⟩ := hal
 have het : ts = #[t, t2] := by apply Array.ext'; simpa using hts
 subst het
 simp only [AV.freeL, Bool.and_eq_true] at g2
 have h0 := g3 0 s rfl
 have hx := g3 1 x rfl
 simp only [List.map_cons, List.map_nil, List.getD_cons_zero, List.getD_cons_succ] at h0 hx
 have key : ∃ v E', (Builtin.append_ #[t, t2] o.type #[a.eval o1, a.eval o2]).run C.P E.w = .ok v E'.w ∧ Inv C.N S E' ∧ E'.tm = E.tm.setIfInBounds d v ∧ K E'.st := by
  unfold aappendL at h
  simp only at h
  split at h
  ·generalize a.eval o1 = v1 at h0
   cases h0
   rcases h with h | h | h
   ·exact aappendB_sound I o.type hx g2.2.1 h
   ·exact aappendG_sound I o.type hx g2.2.1 h
   ·exact aappendZ_sound I o.type hx h
  ·exact aappend_sound I o.type h0 hx g2.2.1 h
 obtain ⟨v, E', hr, hI, htm, hK⟩ := key
 exact wp_val hnext ha hd (s := Builtin.append_ #[t, t2] o.type #[a.eval o1, a.eval o2]) (exec_append a.eval o ho) hr hI htm hK
theorem wp_copy (I : Inv C.N S E) (ha : a.tmps = E.tm) (hnext : Next C S a K next) {args : Array Operand} {ts : Array Nat} (hd : o.dst = some d) (ho : o.op = .call ⟨.builtin .copy, args, ts⟩)
  (h : acopyL C E.st d (rdArgs C E.st args.toList ts.toList) ts.toList K) : o.wp C.P a E.w next Q := by
 obtain ⟨g1, g2, g3⟩ := rdArgs_ok I ha args.toList ts.toList
 have hs : ∃ id off n cap x t t2, rdArgs C E.st args.toList ts.toList = [.bs id off n cap, x] ∧ ts.toList = [t, t2] := by
  generalize rdArgs C E.st args.toList ts.toList = l1 at h
  generalize ts.toList = l2 at h
  unfold acopyL at h
  split at h
  ·exact ⟨_, _, _, _, _, _, _, rfl, rfl⟩
  ·exact h.elim
 obtain ⟨id, off, n, cap, x, t, t2, hrd, hts⟩ := hs
 rw [hrd, hts] at h
 rw [hrd] at g1 g2 g3
 have hal : ∃ o1 o2, args = #[o1, o2] := by
  have h2 : args.toList.length = 2 := by rw [← g1]; rfl
  match hat : args.toList, h2 with
  | [o1, o2], _ => exact ⟨o1, o2, by apply Array.ext'; simpa using hat⟩
 obtain ⟨o1, o2, rfl⟩ := hal
 have het : ts = #[t, t2] := by apply Array.ext'; simpa using hts
 subst het
 simp only [AV.freeL, Bool.and_eq_true] at g2
 have h0 := g3 0 _ rfl
 have hx := g3 1 x rfl
 simp only [List.map_cons, List.map_nil, List.getD_cons_zero, List.getD_cons_succ] at h0 hx
 generalize hv1 : a.eval o1 = v1 at h0
 cases h0
 obtain ⟨v, E', hr, hI, htm, hK⟩ := acopyB_sound (cap := cap) I t2 o.type hx g2.2.1 h
 exact wp_val hnext ha hd (s := Builtin.copy_ #[t, t2] o.type #[a.eval o1, a.eval o2]) (exec_copy a.eval o ho) (by rw [hv1]; exact hr) hI htm hK
theorem wp_clear (I : Inv C.N S E) (ha : a.tmps = E.tm) (hnext : Next C S a K next) {args : Array Operand} {ts : Array Nat} (hd : o.dst = none) (ho : o.op = .call ⟨.builtin .clear, args, ts⟩)
  (h : aclearL C E.st (rdArgs C E.st args.toList ts.toList) ts.toList K) : o.wp C.P a E.w next Q := by
 obtain ⟨g1, g2, g3⟩ := rdArgs_ok I ha args.toList ts.toList
 have hs : ∃ id off n cap t, rdArgs C E.st args.toList ts.toList = [.bs id off n cap] ∧ ts.toList = [t] := by
  generalize rdArgs C E.st args.toList ts.toList = l1 at h
  generalize ts.toList = l2 at h
  unfold aclearL at h
  split at h
  ·exact ⟨_, _, _, _, _, rfl, rfl⟩
  ·exact h.elim
 obtain ⟨id, off, n, cap, t, hrd, hts⟩ := hs
 rw [hrd, hts] at h
 rw [hrd] at g1 g2 g3
 have hal : ∃ o1, args = #[o1] := by
  have h2 : args.toList.length = 1 := by rw [← g1]; rfl
  match hat : args.toList, h2 with
  | [o1], _ => exact ⟨o1, by apply Array.ext'; simpa using hat⟩
 obtain ⟨o1, rfl⟩ := hal
 have het : ts = #[t] := by apply Array.ext'; simpa using hts
 subst het
 have h0 := g3 0 _ rfl
 simp only [List.map_cons, List.map_nil, List.getD_cons_zero] at h0
 generalize hv1 : a.eval o1 = v1 at h0
 cases h0
 obtain ⟨E', hr, hI, htm, hK⟩ := aclearB_sound (cap := cap) I o.type h
 unfold Oper.wp
 rw [exec_clear a.eval o ho, hv1]
 simp only [Sem.run_bind, hr, Result.andThen_ok, Sem.run_pure, Oper.upon_value]
 refine hnext E' _ hI ?_ ?_ hK
 ·rw [hd]; show a.tmps = _; rw [htm, ha]
 ·rw [hd]; rfl
theorem wp_call (I : Inv C.N S E) (hbase : S.k ≤ C.base) (ha : a.tmps = E.tm) (hnext : Next C S a K next) {f : Operand} {args : Array Operand} {ts : Array Nat} (hd : o.dst = some d) (ho : o.op = .call ⟨.value f, args, ts⟩)
  (h : acallV C E.st d (E.st.rd 0 f) (rdArgs C E.st args.toList ts.toList) K) : o.wp C.P a E.w next Q := by
 obtain ⟨g1, g2, g3⟩ := rdArgs_ok I ha args.toList ts.toList
 unfold acallV at h
 split at h
 ·rename_i f' fi ca hfv
  have hf := I.rel.rd ha 0 f .no
  have hff := E.st.rd_free 0 f
  rw [hfv] at hf hff
  generalize hv : a.eval f = vf at hf
  cases hf with
  | fn _ _ _ _ fi' ca' l1 l2 h1 h2 =>
  simp only [AV.free, Bool.and_eq_true] at hff
  have hfree : AV.freeL (fi ++ rdArgs C E.st args.toList ts.toList ++ ca) = true := by
   rw [AV.freeL_iff]
   intro c hc
   simp only [List.mem_append] at hc
   rcases hc with (hc | hc) | hc
   ·exact AV.freeL_iff.1 hff.1 c hc
   ·exact AV.freeL_iff.1 g2 c hc
   ·exact AV.freeL_iff.1 hff.2 c hc
  have hargs : ∀ (k : Nat) c, (fi ++ rdArgs C E.st args.toList ts.toList ++ ca)[k]? = some c → Val E .no c ((fi' ++ args.map a.eval ++ ca').getD k undef) := fun k c hk => by
   rw [Array.getD_eq_getD_getElem?]
   by_cases hk1 : k < fi.length
   ·rw [List.append_assoc, List.getElem?_append_left hk1] at hk
    rw [Array.append_assoc, Array.getElem?_append_left (by omega)]
    have := h1 k c hk
    rwa [Array.getD_eq_getD_getElem?] at this
   ·rw [List.append_assoc, List.getElem?_append_right (by omega)] at hk
    rw [Array.append_assoc, Array.getElem?_append_right (by omega), ← l1]
    by_cases hk2 : k - fi.length < args.size
    ·rw [List.getElem?_append_left (by rw [g1]; simpa using hk2)] at hk
     rw [Array.getElem?_append_left (by simpa using hk2)]
     have := g3 _ c hk
     rw [List.getD_eq_getElem?_getD] at this
     simpa [Array.getElem?_map, ← Array.getElem?_toList] using this
    ·rw [List.getElem?_append_right (by rw [g1]; simpa using hk2)] at hk
     rw [Array.getElem?_append_right (by simpa using hk2)]
     rw [g1] at hk
     have := h2 _ c hk
     rw [Array.getD_eq_getD_getElem?] at this
     simpa using this
  have hlen : (fi ++ rdArgs C E.st args.toList ts.toList ++ ca).length = (fi' ++ args.map a.eval ++ ca').size := by simp [l1, l2, g1]
  by_cases hX : acallX C E.st d f' (fi ++ rdArgs C E.st args.toList ts.toList ++ ca) K
  ·obtain ⟨v, E', hr, hI, htm, hK⟩ := acallX_sound I hlen hargs hX
   unfold Oper.wp
   rw [exec_call a.eval o ho hv, hr]
   exact next_put hnext ha hd hI htm hK
  have main : (∃ fn c, C.P.funcs[f']? = some fn ∧ fn.body = some c ∧ (fn.name == "runtime.NumGoroutine") = false) ∧
    Calls C.P f' (fi' ++ args.map a.eval ++ ca') E.w fun e w' => ∃ v E', e = .returned v ∧ E'.w = w' ∧ Inv C.N S E' ∧ E'.tm = E.tm.setIfInBounds d v ∧ K E'.st := by
   rcases h with h | h | h | h | h | h
   ·exact acall_sound I hlen hfree hargs h
   ·exact acallP_sound I hbase hlen hfree hargs h
   ·exact acallH_sound I hlen hfree hargs h
   ·exact acallS_sound I hlen hfree hargs h
   ·exact acallL_sound I hlen hfree hargs h
   ·exact absurd h hX
  obtain ⟨⟨fn, c, hfn, hbody, hname⟩, hcall⟩ := main
  unfold Oper.wp
  rw [exec_call a.eval o ho hv]
  simp only [callFunc, Sem.run_bind, run_program, Result.andThen_ok, hfn, hname, Bool.false_eq_true, if_false, hbody, Option.isNone_some, Sem.run_pure, Oper.upon_enter]
  refine hcall.mono ?_
  rintro e w' ⟨v, E', rfl, rfl, hI, htm, hK⟩
  exact next_put hnext ha hd hI htm hK
 ·exact h.elim
theorem wp_callN (I : Inv C.N S E) (hbase : S.k ≤ C.base) (ha : a.tmps = E.tm) (hnext : Next C S a K next) {f : Operand} {args : Array Operand} {ts : Array Nat} (hd : o.dst = none) (ho : o.op = .call ⟨.value f, args, ts⟩)
  (h : acallN C E.st (E.st.rd 0 f) (rdArgs C E.st args.toList ts.toList) K) : o.wp C.P a E.w next Q := by
 obtain ⟨g1, g2, g3⟩ := rdArgs_ok I ha args.toList ts.toList
 unfold acallN at h
 split at h
 ·rename_i f' fi ca hfv
  have hf := I.rel.rd ha 0 f .no
  have hff := E.st.rd_free 0 f
  rw [hfv] at hf hff
  generalize hv : a.eval f = vf at hf
  cases hf with
  | fn _ _ _ _ fi' ca' l1 l2 h1 h2 =>
  simp only [AV.free, Bool.and_eq_true] at hff
  have hfree : AV.freeL (fi ++ rdArgs C E.st args.toList ts.toList ++ ca) = true := by
   rw [AV.freeL_iff]
   intro c hc
   simp only [List.mem_append] at hc
   rcases hc with (hc | hc) | hc
   ·exact AV.freeL_iff.1 hff.1 c hc
   ·exact AV.freeL_iff.1 g2 c hc
   ·exact AV.freeL_iff.1 hff.2 c hc
  have hargs : ∀ (k : Nat) c, (fi ++ rdArgs C E.st args.toList ts.toList ++ ca)[k]? = some c → Val E .no c ((fi' ++ args.map a.eval ++ ca').getD k undef) := fun k c hk => by
   rw [Array.getD_eq_getD_getElem?]
   by_cases hk1 : k < fi.length
   ·rw [List.append_assoc, List.getElem?_append_left hk1] at hk
    rw [Array.append_assoc, Array.getElem?_append_left (by omega)]
    have := h1 k c hk
    rwa [Array.getD_eq_getD_getElem?] at this
   ·rw [List.append_assoc, List.getElem?_append_right (by omega)] at hk
    rw [Array.append_assoc, Array.getElem?_append_right (by omega), ← l1]
    by_cases hk2 : k - fi.length < args.size
    ·rw [List.getElem?_append_left (by rw [g1]; simpa using hk2)] at hk
     rw [Array.getElem?_append_left (by simpa using hk2)]
     have := g3 _ c hk
     rw [List.getD_eq_getElem?_getD] at this
     simpa [Array.getElem?_map, ← Array.getElem?_toList] using this
    ·rw [List.getElem?_append_right (by rw [g1]; simpa using hk2)] at hk
     rw [Array.getElem?_append_right (by simpa using hk2)]
     rw [g1] at hk
     have := h2 _ c hk
     rw [Array.getD_eq_getD_getElem?] at this
     simpa using this
  have hlen : (fi ++ rdArgs C E.st args.toList ts.toList ++ ca).length = (fi' ++ args.map a.eval ++ ca').size := by simp [l1, l2, g1]
  have main : (∃ fn c, C.P.funcs[f']? = some fn ∧ fn.body = some c ∧ (fn.name == "runtime.NumGoroutine") = false) ∧
    Calls C.P f' (fi' ++ args.map a.eval ++ ca') E.w fun e w' => ∃ v E', e = .returned v ∧ E'.w = w' ∧ Inv C.N S E' ∧ E'.tm = E.tm ∧ K E'.st := acallP_sound I hbase hlen hfree hargs h
  obtain ⟨⟨fn, c, hfn, hbody, hname⟩, hcall⟩ := main
  unfold Oper.wp
  rw [exec_call a.eval o ho hv]
  simp only [callFunc, Sem.run_bind, run_program, Result.andThen_ok, hfn, hname, Bool.false_eq_true, if_false, hbody, Option.isNone_some, Sem.run_pure, Oper.upon_enter]
  refine hcall.mono ?_
  rintro e w' ⟨v, E', rfl, rfl, hI, htm, hK⟩
  refine hnext E' _ hI ?_ ?_ hK
  ·rw [hd]; show a.tmps = _; rw [htm, ha]
  ·rw [hd]; rfl
 ·exact h.elim
theorem wp_quiet (I : Inv C.N S E) (ha : a.tmps = E.tm) (hnext : Next C S a K next) (hd : o.dst = some d) (h : aquiet C o E.st d K) : o.wp C.P a E.w next Q := by
 obtain ⟨hok, hdN, hfree, hK⟩ := h
 obtain ⟨hf, v, hr, hv⟩ := qop2_sound (C := C) I.rel ha o hok
 have hI := I.putq d _ v hdN (fun π sz xs => free_noOwn π hfree) hf hv
 unfold Oper.wp
 rw [hr]
 exact next_put (E' := { E with st := E.st.put d _, tm := E.tm.setIfInBounds d v }) hnext ha hd hI rfl hK
end
theorem wp_conv (I : Inv C.N S E) {a : Act} {K : St → Prop} {next : Act → World → Prop} {Q : Exit → Act → World → Prop} {o : Oper} {d : Nat} (ha : a.tmps = E.tm) (hnext : Next C S a K next) (hd : o.dst = some d) (h : acnv C o E.st d K) : o.wp C.P a E.w next Q := by
 unfold acnv at h
 split at h
 ·rename_i s t x ho
  split at h
  ·rename_i e b hk hx
   obtain ⟨⟨h1, h2⟩, h3, h4, h5⟩ := h
   have hv := I.rel.rd ha 0 x .no
   rw [hx] at hv
   obtain ⟨v, E', hr, hI, htm, hst⟩ := toBytes_sound I hv h1 hk h2 h3 h4
   exact wp_val hnext ha hd (s := convert s t (a.eval x)) (by unfold execOp; simp only [ho]) hr hI htm (by rw [hst]; exact h5)
  ·exact wp_quiet I ha hnext hd h
 ·exact wp_quiet I ha hnext hd h
theorem equal_nil {P : Program} {t e : TypeId} (h : P.underlying t = some (.slice e)) (v : Option Addr) (n c : Nat) (w : World) : (Op.equal t (.slice v n c) (.slice none 0 0)).run P w = .ok v.isNone w := by
 show (Op.equalIn (9999 + 1) t _ _).run P w = _
 rw [Op.equalIn]
 cases v <;> simp [run_underlying h]
theorem isNilCmp_some {op : Op} {eq : Bool} {t : Nat} {x : Operand} (h : isNilCmp op = some (eq, t, x)) : ∃ yt, op = .binOp (if eq then .eql else .neq) t x (.const (.slice none 0 0)) yt := by
 unfold isNilCmp at h
 split at h
 ·cases h; exact ⟨_, rfl⟩
 ·cases h; exact ⟨_, rfl⟩
 ·cases h
theorem wp_else (I : Inv C.N S E) {a : Act} {K : St → Prop} {next : Act → World → Prop} {Q : Exit → Act → World → Prop} {o : Oper} {d : Nat} (ha : a.tmps = E.tm) (hnext : Next C S a K next) (hd : o.dst = some d) (h : aelse C o E.st d K) : o.wp C.P a E.w next Q := by
 unfold aelse at h
 split at h
 ·rename_i eq t x hop
  obtain ⟨yt, ho⟩ := isNilCmp_some hop
  unfold anil at h
  split at h
  ·rename_i e g sz xs hk hx
   obtain ⟨hdN, hfree, h1, h2⟩ := h
   obtain ⟨z, oz, hz⟩ := kind_of_map (P := C.P) hk
   have hdesc := kind_slice (oz.kind.trans hz)
   have hu : C.P.underlying t = some (.slice e) := oz.und.trans (congrArg some hdesc)
   have hval := I.rel.rd ha 0 x .no
   rw [hx] at hval
   have run : ∀ (v : Option Addr) (n c : Nat), a.eval x = .slice v n c → (execOp a.eval o).run C.P E.w = .ok (.value (.bool (if v.isNone then eq else !eq))) E.w := by
    intro v n c hv
    have he : a.eval (.const (.slice none 0 0)) = .slice none 0 0 := rfl
    unfold execOp
    simp only [ho, hv, he]
    simp only [Sem.run_bind, eqGuard_run (a := .slice v n c) (by simp) (by simp), Result.andThen_ok]
    cases eq
    ·simp only [Bool.false_eq_true, if_false, binOp, Sem.run_bind, equal_nil hu, Result.andThen_ok, Sem.run_pure]
     cases v <;> rfl
    ·simp only [if_true, binOp, Sem.run_bind, equal_nil hu, Result.andThen_ok, Sem.run_pure]
     cases v <;> rfl
   have fin : ∀ b, (execOp a.eval o).run C.P E.w = .ok (.value (.bool b)) E.w → K (E.st.put d (.b b)) → o.wp C.P a E.w next Q := by
    intro b hr hK
    have hI := I.putq d (.b b) (.bool b) hdN (fun π sz xs => free_noOwn π hfree) rfl (.b _ _)
    unfold Oper.wp
    rw [hr]
    exact next_put (E' := { E with st := E.st.put d _, tm := E.tm.setIfInBounds d (.bool b) }) hnext ha hd hI rfl hK
   generalize hv : a.eval x = v at hval
   cases hval with
   | sl1 => exact fin (!eq) (run _ _ _ hv) (h2 (by simp))
   | sl2 => exact fin (!eq) (run _ _ _ hv) (h2 (by simp))
   | sl0 => exact fin eq (run _ _ _ hv) (h1 rfl)
   | sl _ _ _ _ bk off cap hc hr hg hat =>
    refine fin (!eq) (run _ _ _ hv) (h2 ?_)
    intro e; subst e; exact hg.elim
  ·rename_i e id off n cap hk hx
   obtain ⟨hdN, hfree, hK⟩ := h
   obtain ⟨z, oz, hz⟩ := kind_of_map (P := C.P) hk
   have hdesc := kind_slice (oz.kind.trans hz)
   have hu : C.P.underlying t = some (.slice e) := oz.und.trans (congrArg some hdesc)
   have hval := I.rel.rd ha 0 x .no
   rw [hx] at hval
   have hrun : (execOp a.eval o).run C.P E.w = .ok (.value (.bool (!eq))) E.w := by
    generalize hv : a.eval x = v at hval
    cases hval
    have he : a.eval (.const (.slice none 0 0)) = .slice none 0 0 := rfl
    unfold execOp
    simp only [ho, hv, he]
    simp only [Sem.run_bind, eqGuard_run (a := .slice _ n cap) (by simp) (by simp), Result.andThen_ok]
    cases eq
    ·simp only [Bool.false_eq_true, if_false, binOp, Sem.run_bind, equal_nil hu, Result.andThen_ok, Sem.run_pure]
     rfl
    ·simp only [if_true, binOp, Sem.run_bind, equal_nil hu, Result.andThen_ok, Sem.run_pure]
     rfl
   have hI := I.putq d (.b !eq) (.bool !eq) hdN (fun π sz xs => free_noOwn π hfree) rfl (.b _ _)
   unfold Oper.wp
   rw [hrun]
   exact next_put (E' := { E with st := E.st.put d _, tm := E.tm.setIfInBounds d (.bool !eq) }) hnext ha hd hI rfl hK
  ·exact h.elim
 ·exact wp_conv I ha hnext hd h
theorem aop_sound (I : Inv C.N S E) (hbase : S.k ≤ C.base) {a : Act} (ha : a.tmps = E.tm) (o : Oper) {K : St → Prop} (h : aop C o E.st K) {next : Act → World → Prop} {Q : Exit → Act → World → Prop} (hnext : Next C S a K next) :
  o.wp C.P a E.w next Q := by
 unfold aop at h
 cases hd : o.dst with
 | none =>
  rw [hd] at h
  split at h
  all_goals first
   | (exact h.elim)
   | (rename_i heq _; cases heq; done)
   | (rename_i heq; cases heq; done)
   | (rename_i t x y _ ho; exact wp_store I ha hnext hd ho h)
   | (rename_i t x y ho; exact wp_store I ha hnext hd ho h)
   | (rename_i args ts _ ho; exact wp_clear I ha hnext hd ho h)
   | (rename_i args ts ho; exact wp_clear I ha hnext hd ho h)
   | (rename_i f args ts _ ho; exact wp_callN I hbase ha hnext hd ho h)
   | (rename_i f args ts ho; exact wp_callN I hbase ha hnext hd ho h)
   | (rename_i heq _ _ _ _ _ _ _; cases heq; done)
   | (rename_i heq _ _ _ _ _ _ _ _; cases heq; done)
 | some d =>
  rw [hd] at h
  split at h
  ·rename_i d' x he ho; cases he; exact wp_assign I ha hnext hd ho h
  ·rename_i d' t he ho; cases he
   split at h
   ·rename_i y hy; exact wp_alloc I hbase ha hnext hy hd ho h
   ·exact h.elim
  ·rename_i d' t x he ho; cases he; exact wp_box I hbase ha hnext hd ho h
  ·rename_i he ho; cases he
  ·rename_i d' t len parts he ho; cases he; unfold abuild at h
   split at h
   ·exact wp_build I hbase ha hnext hd ho h
   ·exact wp_buildSlice I ha hnext hd ho h
  ·rename_i d' t l c he ho; cases he; exact wp_makeSlice I ha hnext hd ho h
  ·rename_i d' args ts he ho; cases he; exact wp_append I ha hnext hd ho h
  ·rename_i d' args ts he ho; cases he; exact wp_copy I ha hnext hd ho h
  ·rename_i d' f args ts he ho; cases he; exact wp_call I hbase ha hnext hd ho h
  ·rename_i d' he _ _ _ _ _ _ _ _; obtain rfl := Option.some.inj he; exact wp_else I ha hnext hd h
  ·rename_i he ho; cases he
  ·rename_i he ho; cases he
  ·exact h.elim
end
end Go.AM
namespace Go.AM
def AV.gv : AV → Option (Option Bool)
 | .b c => some (some c)
 | .tup vs => if vs.isEmpty then some none else none
 | _ => none
@[simp] theorem AV.gv_b {c : Bool} : (AV.b c).gv = some (some c) := rfl
@[simp] theorem AV.gv_off : (AV.tup []).gv = some none := rfl
theorem AV.gv_some {x : AV} {c : Bool} (h : x.gv = some (some c)) : x = .b c := by
 cases x <;> simp [AV.gv] at h ⊢
 exact h
theorem AV.gv_none {x : AV} (h : x.gv = some none) : x = .tup [] := by
 cases x <;> simp [AV.gv] at h ⊢
 exact h
def aops (C : Cx) (ops : Array Oper) : List Oper → St → (St → Prop) → Prop
 | [], st, K => K st
 | o :: rest, st, K =>
  match o.guard with
  | none => aop C o st fun st => aops C ops rest st K
  | some (j, b) =>
   match (ops[j]?).bind (·.dst), o.dst with
   | some t, some d => match (st.slots t).gv with
    | some (some c) => if c = b then aop C o st fun st => aops C ops rest st K else d < C.N ∧ (st.slots d).free = true ∧ aops C ops rest (st.put d (.tup [])) K
    | some none => d < C.N ∧ (st.slots d).free = true ∧ aops C ops rest (st.put d (.tup [])) K
    | none => False
   | _, _ => False
def APost (C : Cx) (S : Start) (Q : Exit → St → Prop) : Exit → Act → World → Prop :=
 fun e a w => ∃ E, E.w = w ∧ Inv C.N S E ∧ a.tmps = E.tm ∧ a.defers = [] ∧ Q e E.st
def AWp (C : Cx) (c : Code) (st : St) (Q : Exit → St → Prop) : Prop :=
 ∀ (S : Start) (E : Env) (a : Act), S.k ≤ C.base → Inv C.N S E → a.tmps = E.tm → a.defers = [] → E.st = st → c.wp C.P (APost C S Q) a E.w
section
variable {C : Cx} {Q : Exit → St → Prop} {st : St}
theorem val_undef {E : Env} {p : Place} : Val E p (.tup []) undef := .tup _ [] #[] rfl fun k c hk => by simp at hk
theorem yielded_off {N : Nat} {S : Start} {ops : Array Oper} {E : Env} (I : Inv N S E) {a : Act} (ha : a.tmps = E.tm) {j t : Nat} (hj : (ops[j]?).bind (·.dst) = some t) (hc : E.st.slots t = .tup []) : yielded ops a.tmps j = none := by
 have hval := I.rel.slots t
 rw [hc] at hval
 have hv : ∃ arr, a.tmps.getD t undef = .tuple arr := by
  rw [ha]
  generalize E.tm.getD t undef = v at hval
  cases hval; exact ⟨_, rfl⟩
 obtain ⟨arr, hv⟩ := hv
 unfold yielded
 rw [hj]
 show (match a.tmps[t]? with | some (.bool b) => some b | _ => none) = none
 cases ht : a.tmps[t]? with
 | none => rfl
 | some u =>
  rw [Array.getD_eq_getD_getElem?, ht] at hv
  have hv' : u = .tuple arr := hv
  rw [hv']
theorem aops_sound {S : Start} (hbase : S.k ≤ C.base) {ops : Array Oper} {K : St → Prop} {R : Exit → Act → World → Prop} (hR : ∀ E a, Inv C.N S E → a.tmps = E.tm → a.defers = [] → K E.st → R .normal a E.w) :
  ∀ (k : Nat) (l : List Oper), ops.toList.drop k = l → ∀ (E : Env) (a : Act), Inv C.N S E → a.tmps = E.tm → a.defers = [] → aops C ops l E.st K → wpOps C.P ops R (List.range' k l.length) a E.w := by
 intro k l
 induction l generalizing k with
 | nil => intro hl E a I ha hd h; exact hR E a I ha hd h
 | cons o rest ih =>
  intro hl E a I ha hd h
  have ho : ops[k]? = some o := by
   rw [← Array.getElem?_toList]
   have := congrArg (·[0]?) hl
   simpa [List.getElem?_drop] using this
  have hrest : ops.toList.drop (k + 1) = rest := by
   have := congrArg List.tail hl
   simpa [List.tail_drop] using this
  have hnext : ∀ E', aops C ops rest E'.st K → Inv C.N S E' → ∀ a', a'.tmps = E'.tm → a'.defers = [] → wpOps C.P ops R (List.range' (k + 1) rest.length) a' E'.w :=
   fun E' h I' a' ha' hd' => ih (k + 1) hrest E' a' I' ha' hd' h
  simp only [List.length_cons, List.range'_succ, wpOps, ho]
  have run : aop C o E.st (fun st => aops C ops rest st K) → o.wp C.P a E.w (wpOps C.P ops R (List.range' (k + 1) rest.length)) R := fun h =>
   aop_sound I hbase ha o h fun E' a' I' ha' hd' hK => hnext E' hK I' a' ha' (hd'.trans hd)
  simp only [aops] at h
  cases hg : o.guard with
  | none =>
   rw [hg] at h
   have hw : Region.wanted o (yielded ops a.tmps) = true := by simp [Region.wanted, hg]
   rw [hw]
   exact .inl (run h)
  | some jb =>
   obtain ⟨j, b⟩ := jb
   rw [hg] at h
   simp only at h
   split at h
   ·rename_i t d hj hd'
    split at h
    ·rename_i c hc
     replace hc := AV.gv_some hc
     have hval := I.rel.slots t
     rw [hc] at hval
     have hv : a.tmps.getD t undef = .bool c := by
      rw [ha]
      generalize E.tm.getD t undef = v at hval
      cases hval; rfl
     have hy : yielded ops a.tmps j = some c := by
      obtain ⟨oj, hoj, hdj⟩ := Option.bind_eq_some_iff.1 hj
      have ht : t < a.tmps.size := by
       rcases Nat.lt_or_ge t a.tmps.size with h1 | h1
       ·exact h1
       ·rw [Array.getD_eq_getD_getElem?, Array.getElem?_eq_none h1] at hv
        simp [undef] at hv
      have hg2 : a.tmps[t]? = some (.bool c) := by
       rw [Array.getElem?_eq_getElem ht]
       rw [Array.getD_eq_getD_getElem?, Array.getElem?_eq_getElem ht] at hv
       exact congrArg some hv
      unfold yielded
      simp [hj, hg2]
     have hw : Region.wanted o (yielded ops a.tmps) = (c == b) := by
      simp only [Region.wanted, hg, hy]
      cases c <;> cases b <;> rfl
     rw [hw]
     by_cases hcb : c = b
     ·have : (c == b) = true := by simpa using hcb
      rw [this]
      rw [if_pos hcb] at h
      exact .inl (run h)
     ·have : (c == b) = false := by simpa using hcb
      rw [this]
      rw [if_neg hcb] at h
      obtain ⟨h1, h2, h3⟩ := h
      have I' := I.putq d (.tup []) undef h1 (fun π sz xs => free_noOwn π h2) rfl val_undef
      refine hnext _ h3 I' _ ?_ ?_
      ·rw [hd']; show a.tmps.setIfInBounds d undef = _; rw [ha]
      ·rw [hd']; exact hd
    ·rename_i hc
     replace hc := AV.gv_none hc
     have hy := yielded_off I ha hj hc
     have hw : Region.wanted o (yielded ops a.tmps) = false := by
      simp only [Region.wanted, hg, hy]
      rfl
     rw [hw]
     obtain ⟨h1, h2, h3⟩ := h
     have I' := I.putq d (.tup []) undef h1 (fun π sz xs => free_noOwn π h2) rfl val_undef
     refine hnext _ h3 I' _ ?_ ?_
     ·rw [hd']; show a.tmps.setIfInBounds d undef = _; rw [ha]
     ·rw [hd']; exact hd
    ·exact h.elim
   ·exact h.elim
theorem AWp.region {id : Nat} {ops : Array Oper} (h : aops C ops ops.toList st (Q .normal)) : AWp C (.region id ops false) st Q := by
 intro S E a hb I ha hd he
 refine wp_region ?_
 have := aops_sound (C := C) hb (ops := ops) (K := Q .normal) (R := APost C S Q) (fun E a I ha hd h => ⟨E, rfl, I, ha, hd, h⟩) 0 ops.toList rfl E a I ha hd (by rw [he]; exact h)
 rw [List.range_eq_range']
 simpa using this
theorem AWp.mono {c : Code} {Q' : Exit → St → Prop} (h : AWp C c st Q) (hq : ∀ e s, Q e s → Q' e s) : AWp C c st Q' := by
 intro S E a hb I ha hd he
 exact wp_mono (h S E a hb I ha hd he) fun e a w ⟨E', h1, h2, h3, h4, h5⟩ => ⟨E', h1, h2, h3, h4, hq e _ h5⟩
theorem AWp.clean (ks kb : List Nat) {c : Code} (h : AWp C c (st.clean ks kb) Q) : AWp C c st Q := by
 intro S E a hb I ha hd he
 obtain ⟨E', h1, h2, h3, h4⟩ := I.clean ks kb
 have := h S E' a hb h3 (by rw [ha, h2]) hd (by rw [h4, he])
 rwa [h1] at this
theorem AWp.post (f : Exit → List Nat × List Nat) {c : Code} (h : AWp C c st fun e s => Q e (s.clean (f e).1 (f e).2)) : AWp C c st Q := by
 intro S E a hb I ha hd he
 refine wp_mono (h S E a hb I ha hd he) ?_
 rintro e a w ⟨E1, rfl, h2, h3, h4, h5⟩
 obtain ⟨E', g1, g2, g3, g4⟩ := h2.clean (f e).1 (f e).2
 exact ⟨E', g1, g3, by rw [h3, g2], h4, by rw [g4]; exact h5⟩
theorem AWp.skip (h : Q .normal st) : AWp C .skip st Q := fun _ E _ _ I ha hd he => wp_skip ⟨E, rfl, I, ha, hd, by rw [he]; exact h⟩
theorem AWp.exit {id : Nat} (h : Q (.exit id) st) : AWp C (.exit id) st Q := fun _ E _ _ I ha hd he => wp_exit ⟨E, rfl, I, ha, hd, by rw [he]; exact h⟩
theorem AWp.goto {l : Nat} (h : Q (.goto l) st) : AWp C (.goto l) st Q := fun _ E _ _ I ha hd he => wp_goto ⟨E, rfl, I, ha, hd, by rw [he]; exact h⟩
theorem AWp.ret (h : Q .ret st) : AWp C .ret st Q := fun _ E _ _ I ha hd he => wp_ret ⟨E, rfl, I, ha, hd, by rw [he]; exact h⟩
def thenQ (R : St → Prop) (Q : Exit → St → Prop) : Exit → St → Prop
 | .normal, s => R s
 | e, s => Q e s
theorem AWp.seq {x y : Code} (h : AWp C x st (thenQ (fun s => AWp C y s Q) Q)) : AWp C (.seq x y) st Q := by
 intro S E a hb I ha hd he
 refine wp_seq (wp_mono (h S E a hb I ha hd he) ?_)
 rintro e a w ⟨E1, rfl, h2, h3, h4, h5⟩
 cases e with
 | normal => exact h5 S E1 a hb h2 h3 h4 rfl
 | _ => exact ⟨E1, rfl, h2, h3, h4, h5⟩
theorem AWp.cond {c : Operand} {x y : Code} {t : Bool} (hc : st.rd 0 c = .b t) (h1 : t = true → AWp C x st Q) (h2 : t = false → AWp C y st Q) : AWp C (.cond c x y) st Q := by
 intro S E a hb I ha hd he
 have hv := I.rel.rd ha 0 c .no
 rw [he, hc] at hv
 have hv' : a.eval c = .bool t := by
  generalize a.eval c = v at hv
  cases hv; rfl
 exact wp_cond_split hv' (fun h => h1 h S E a hb I ha hd he) (fun h => h2 h S E a hb I ha hd he)
theorem AWp.cT {c : Operand} {x y : Code} (hc : st.rd 0 c = .b true) (h : AWp C x st Q) : AWp C (.cond c x y) st Q := AWp.cond hc (fun _ => h) nofun
theorem AWp.cF {c : Operand} {x y : Code} (hc : st.rd 0 c = .b false) (h : AWp C y st Q) : AWp C (.cond c x y) st Q := AWp.cond hc nofun fun _ => h
def blockQ (id : Nat) (Q : Exit → St → Prop) : Exit → St → Prop
 | .exit id', s => if id' = id then Q .normal s else Q (.exit id') s
 | e, s => Q e s
theorem AWp.block {id : Nat} {c : Code} (h : AWp C c st (blockQ id Q)) : AWp C (.block id c) st Q := by
 intro S E a hb I ha hd he
 refine wp_block (wp_mono (h S E a hb I ha hd he) ?_)
 rintro e a w ⟨E1, rfl, h2, h3, h4, h5⟩
 cases e with
 | exit id' =>
  simp only [Exit.inBlock]
  simp only [blockQ] at h5
  split
  ·rename_i hh; rw [if_pos hh] at h5; exact ⟨E1, rfl, h2, h3, h4, h5⟩
  ·rename_i hh; rw [if_neg hh] at h5; exact ⟨E1, rfl, h2, h3, h4, h5⟩
 | _ => exact ⟨E1, rfl, h2, h3, h4, h5⟩
theorem wp_loop_by {P : Program} {R : Exit → Act → World → Prop} {ι : Type} (J : ι → Act → World → Prop) (μ : ι → Nat) {c : Code} (round : ∀ i a w, J i a w → c.wp P (Exit.then (fun a' w' => ∃ i', J i' a' w' ∧ μ i' < μ i) R) a w)
  {i0 : ι} {a : Act} {w : World} (h₀ : J i0 a w) : (Code.loop c).wp P R a w := by
 intro b k cs
 have key : ∀ n i a w, μ i = n → J i a w → ∃ e a' w', R e a' w' ∧ Arrives P (lone (b.at a (.code c :: .inLoop c :: k)) cs w) b k cs e a' w' := by
  intro n
  induction n using Nat.strongRecOn with
  | _ n ih =>
   intro i a w hn hI
   obtain ⟨e, a₁, w₁, hq, harr⟩ := round i a w hI b (.inLoop c :: k) cs
   cases e with
   | normal =>
    obtain ⟨i₁, hI₁, hlt⟩ := hq
    obtain ⟨e₂, a₂, w₂, hq₂, harr₂⟩ := ih (μ i₁) (hn ▸ hlt) i₁ a₁ w₁ rfl hI₁
    exact ⟨e₂, a₂, w₂, hq₂, .of_steps (Steps.trans harr (.one step_inLoop)) harr₂⟩
   | exit id => exact ⟨_, a₁, w₁, hq, .pass (x := .inLoop c) rfl (fun _ _ => .inl (by simp)) harr⟩
   | goto l => exact ⟨_, a₁, w₁, hq, .pass (x := .inLoop c) rfl (fun _ _ => .inl (by simp)) harr⟩
   | ret => exact ⟨_, a₁, w₁, hq, .pass (x := .inLoop c) rfl (fun _ _ => .inl (by simp)) harr⟩
   | panic ch => exact ⟨_, a₁, w₁, hq, .pass (x := .inLoop c) rfl (fun _ _ => .inl (by simp)) harr⟩
   | outgrown => exact ⟨_, a₁, w₁, hq, .pass (x := .inLoop c) rfl (fun _ _ => .inl (by simp)) harr⟩
 obtain ⟨e, a', w', hq, harr⟩ := key _ i0 a w rfl h₀
 exact ⟨e, a', w', hq, .of_steps (.one step_loop) harr⟩
theorem AWp.loop {ι : Type} (F : ι → St) (inv : ι → Prop) (μ : ι → Nat) (ks kb : List Nat) {c : Code} (i0 : ι) (h0 : inv i0) (hst : st.clean ks kb = F i0)
  (round : ∀ i, inv i → AWp C c (F i) (thenQ (fun s => ∃ i', inv i' ∧ μ i' < μ i ∧ s.clean ks kb = F i') Q)) : AWp C (.loop c) st Q := by
 refine AWp.clean ks kb ?_
 intro S E a hb I ha hd he
 refine wp_loop_by (fun i a w => inv i ∧ ∃ E, E.w = w ∧ Inv C.N S E ∧ a.tmps = E.tm ∧ a.defers = [] ∧ E.st = F i) μ ?_ (i0 := i0) ⟨h0, E, rfl, I, ha, hd, he.trans hst⟩
 rintro i a w ⟨hi, E, rfl, I, ha, hd, he⟩
 refine wp_mono (round i hi S E a hb I ha hd he) ?_
 rintro e a w ⟨E1, rfl, h2, h3, h4, h5⟩
 cases e with
 | normal =>
  obtain ⟨i', g1, g2, g3⟩ := h5
  obtain ⟨E2, k1, k2, k3, k4⟩ := h2.clean ks kb
  exact ⟨i', ⟨g1, E2, k1, k3, by rw [h3, k2], h4, by rw [k4, g3]⟩, g2⟩
 | _ => exact ⟨E1, rfl, h2, h3, h4, h5⟩
end
end Go.AM
namespace Go.AM
mutual
def AV.fits : AV → AV → Prop
 | .sl .nl sz xs, y => y = .sl .nl sz xs ∨ (xs = [] ∧ (y = .sl .own sz [] ∨ y = .sl .fro sz [] ∨ y = .sl .cut sz []))
 | .agg xs, y => match y with
  | .agg ys => AV.fitsL xs ys
  | _ => False
 | .tup xs, y => match y with
  | .tup ys => AV.fitsL xs ys
  | _ => False
 | x, y => x = y
def AV.fitsL : List AV → List AV → Prop
 | [], ys => ys = []
 | x :: xs, ys => match ys with
  | y :: ys => AV.fits x y ∧ AV.fitsL xs ys
  | [] => False
end
theorem AV.fitsL_get : ∀ {xs ys : List AV}, AV.fitsL xs ys → xs.length = ys.length ∧ ∀ (k : Nat) y, ys[k]? = some y → ∃ x, xs[k]? = some x ∧ x.fits y
 | [], ys, h => by simp only [AV.fitsL] at h; subst h; simp
 | x :: xs, [], h => by simp [AV.fitsL] at h
 | x :: xs, y :: ys, h => by
  simp only [AV.fitsL] at h
  obtain ⟨h1, h2⟩ := AV.fitsL_get h.2
  refine ⟨by simp [h1], fun k z hk => ?_⟩
  cases k with
  | zero => simp at hk; subst hk; exact ⟨x, rfl, h.1⟩
  | succ k => simpa using h2 k z (by simpa using hk)
theorem AV.fits_refl (x : AV) : x.fits x := by
 refine AV.rec (motive_1 := fun x => x.fits x) (motive_2 := fun l => AV.fitsL l l) (motive_3 := fun _ => True)
  ?_ ?_ ?_ ?_ ?_ ?_ ?_ ?_ ?_ ?_ ?_ ?_ ?_ ?_ ?_ ?_ ?_ ?_ ?_ ?_ x
 ·simp [AV.fits]
 ·intro x; simp [AV.fits]
 ·intro k n; simp [AV.fits]
 ·intro x; simp [AV.fits]
 ·simp [AV.fits]
 ·simp [AV.fits]
 ·intro id off n cap; simp [AV.fits]
 ·intro b0; simp [AV.fits]
 ·intro b0; simp [AV.fits]
 ·intro id off; simp [AV.fits]
 ·intro id off n cap; simp [AV.fits]
 ·intro g ix cells off _; simp [AV.fits]
 ·intro f fi ca _ _; simp [AV.fits]
 ·intro g sz xs _; cases g <;> simp [AV.fits]
 ·intro cs h; simpa [AV.fits] using h
 ·intro cs h; simpa [AV.fits] using h
 ·simp [AV.fitsL]
 ·intro x xs h1 h2; simp [AV.fitsL, h1, h2]
 ·trivial
 ·intros; trivial
theorem AV.fitsL_refl : ∀ (l : List AV), AV.fitsL l l
 | [] => by simp [AV.fitsL]
 | x :: xs => by simp [AV.fitsL, AV.fits_refl, AV.fitsL_refl xs]
theorem Val.fits {E : Env} {p : Place} {x : AV} {v : Value} (hv : Val E p x v) : ∀ {r : AV}, x.fits r → Val E p r v := by
 induction hv with
 | any p v => intro r h; simp only [AV.fits] at h; subst h; exact .any p v
 | b p x => intro r h; simp only [AV.fits] at h; subst h; exact .b p x
 | i p k n => intro r h; simp only [AV.fits] at h; subst h; exact .i p k n
 | s p x => intro r h; simp only [AV.fits] at h; subst h; exact .s p x
 | nil p => intro r h; simp only [AV.fits] at h; subst h; exact .nil p
 | nofn p => intro r h; simp only [AV.fits] at h; subst h; exact .nofn p
 | ab p b0 o0 n0 c0 => intro r h; simp only [AV.fits] at h; subst h; exact .ab p b0 o0 n0 c0
 | mp p b0 => intro r h; simp only [AV.fits] at h; subst h; exact .mp p b0
 | it p b0 => intro r h; simp only [AV.fits] at h; subst h; exact .it p b0
 | ptr p id off => intro r h; simp only [AV.fits] at h; subst h; exact .ptr p id off
 | bs p id off n cap => intro r h; simp only [AV.fits] at h; subst h; exact .bs p id off n cap
 | pt p g ix cells off bk o hc hg ha => intro r h; simp only [AV.fits] at h; subst h; exact .pt p g ix cells off bk o hc hg ha
 | fn p f fi ca fi' ca' h1 h2 h3 h4 _ _ => intro r h; simp only [AV.fits] at h; subst h; exact .fn p f fi ca fi' ca' h1 h2 h3 h4
 | sl1 p sz a cap => intro r h; simp only [AV.fits] at h; subst h; exact .sl1 p sz a cap
 | sl2 p sz a => intro r h; simp only [AV.fits] at h; subst h; exact .sl2 p sz a
 | sl0 p g sz h0 ha =>
  intro r h
  cases g with
  | nl =>
   simp only [AV.fits] at h
   rcases h with h | ⟨_, h | h | h⟩ <;> subst h <;> exact .sl0 p _ sz (by simp) trivial
  | own => simp only [AV.fits] at h; subst h; exact .sl0 p _ sz h0 ha
  | fro => simp only [AV.fits] at h; subst h; exact .sl0 p _ sz h0 ha
  | cut => simp only [AV.fits] at h; subst h; exact .sl0 p _ sz h0 ha
  | vw q ex => simp only [AV.fits] at h; subst h; exact .sl0 p _ sz h0 ha
 | sl p g sz xs bk off cap hc hr hg ha =>
  intro r h
  cases g with
  | nl => exact hg.elim
  | own => simp only [AV.fits] at h; subst h; exact .sl p _ sz xs bk off cap hc hr hg ha
  | fro => simp only [AV.fits] at h; subst h; exact .sl p _ sz xs bk off cap hc hr hg ha
  | cut => simp only [AV.fits] at h; subst h; exact .sl p _ sz xs bk off cap hc hr hg ha
  | vw q ex => simp only [AV.fits] at h; subst h; exact .sl p _ sz xs bk off cap hc hr hg ha
 | agg p cs arr h1 _ ih =>
  intro r h
  simp only [AV.fits] at h
  split at h
  ·rename_i ys
   obtain ⟨g1, g2⟩ := AV.fitsL_get h
   refine .agg p ys arr (by rw [← g1, h1]) fun k y hk => ?_
   obtain ⟨x, hx, hf⟩ := g2 k y hk
   exact ih k x hx hf
  ·exact h.elim
 | tup p cs arr h1 _ ih =>
  intro r h
  simp only [AV.fits] at h
  split at h
  ·rename_i ys
   obtain ⟨g1, g2⟩ := AV.fitsL_get h
   refine .tup p ys arr (by rw [← g1, h1]) fun k y hk => ?_
   obtain ⟨x, hx, hf⟩ := g2 k y hk
   exact ih k x hx hf
  ·exact h.elim
theorem AV.fits_own {x r : AV} {sz : Nat} {xs : List (List AV)} (he : x = .sl .own sz xs) (h : x.fits r) : r = .sl .own sz xs := by
 subst he; simp only [AV.fits] at h; exact h.symm
theorem AV.fitsL_getD {xs ys : List AV} (h : AV.fitsL xs ys) (k : Nat) : (xs.getD k .any).fits (ys.getD k .any) := by
 obtain ⟨h1, h2⟩ := AV.fitsL_get h
 rw [List.getD_eq_getElem?_getD, List.getD_eq_getElem?_getD]
 cases hk : ys[k]? with
 | none =>
  have : xs[k]? = none := by
   rw [List.getElem?_eq_none_iff] at hk ⊢; omega
  rw [this]; exact AV.fits_refl _
 | some y =>
  obtain ⟨x, hx, hf⟩ := h2 k y hk
  rw [hx]; exact hf
theorem AV.fits_at : ∀ (π : List Nat) {x r : AV}, x.fits r → (x.at π).fits (r.at π)
 | [], x, r, h => by
  have e : ∀ y : AV, y.at [] = y := fun y => by cases y <;> rfl
  rw [e, e]; exact h
 | k :: π, x, r, h => by
  cases x with
  | agg cs =>
   simp only [AV.fits] at h
   split at h
   ·exact AV.fits_at π (AV.fitsL_getD h k)
   ·exact h.elim
  | tup cs =>
   simp only [AV.fits] at h
   split at h
   ·exact AV.fits_at π (AV.fitsL_getD h k)
   ·exact h.elim
  | sl g sz xs =>
   have : ∃ g' sz' xs', r = .sl g' sz' xs' := by
    cases g <;> simp only [AV.fits] at h
    ·exact ⟨_, _, _, h.symm⟩
    ·exact ⟨_, _, _, h.symm⟩
    ·rcases h with h | ⟨_, h | h | h⟩ <;> exact ⟨_, _, _, h⟩
    ·exact ⟨_, _, _, h.symm⟩
    ·exact ⟨_, _, _, h.symm⟩
   obtain ⟨g', sz', xs', rfl⟩ := this
   simp [AV.at, AV.fits]
  | _ => simp only [AV.fits] at h; subst h; exact AV.fits_refl _
def fitsS : List (Nat × AV) → List (Nat × AV) → Prop
 | [], m => m = []
 | (k, x) :: l, m => match m with
  | (k', y) :: m => k = k' ∧ x.fits y ∧ fitsS l m
  | [] => False
def fitsB : Boxes → Boxes → Prop
 | [], m => m = []
 | (k, x) :: l, m => match m with
  | (k', y) :: m => k = k' ∧ AV.fitsL x y ∧ fitsB l m
  | [] => False
def St.fits (s s' : St) : Prop :=
 (∀ t, (s.slots t).fits (s'.slots t)) ∧ ∀ id, match s.boxes id, s'.boxes id with
  | some cs, some cs' => AV.fitsL cs cs'
  | none, none => True
  | _, _ => False
theorem fitsS_lookup : ∀ {l m : List (Nat × AV)}, fitsS l m → ∀ t, ((l.lookup t).getD .any).fits ((m.lookup t).getD .any)
 | [], m, h, t => by simp only [fitsS] at h; subst h; exact AV.fits_refl _
 | (k, x) :: l, [], h, t => by simp [fitsS] at h
 | (k, x) :: l, (k', y) :: m, h, t => by
  simp only [fitsS] at h
  obtain ⟨rfl, h1, h2⟩ := h
  rw [lookup_cons', lookup_cons']
  split
  ·exact h1
  ·exact fitsS_lookup h2 t
theorem fitsB_lookup : ∀ {l m : Boxes}, fitsB l m → ∀ t, match l.lookup t, m.lookup t with
  | some cs, some cs' => AV.fitsL cs cs'
  | none, none => True
  | _, _ => False
 | [], m, h, t => by simp only [fitsB] at h; subst h; trivial
 | (k, x) :: l, [], h, t => by simp [fitsB] at h
 | (k, x) :: l, (k', y) :: m, h, t => by
  simp only [fitsB] at h
  obtain ⟨rfl, h1, h2⟩ := h
  rw [lookup_cons', lookup_cons']
  by_cases ht : t = k
  ·simp only [ht, if_true]; exact h1
  ·simp only [ht, if_false]; exact fitsB_lookup h2 t
theorem St.fits_of {l m : List (Nat × AV)} {bx bx' : Boxes} (h1 : fitsS l m) (h2 : fitsB bx bx') : (St.of l bx).fits (St.of m bx') :=
 ⟨fitsS_lookup h1, fitsB_lookup h2⟩
theorem St.fits_refl (s : St) : s.fits s := by
 refine ⟨fun t => AV.fits_refl _, fun id => ?_⟩
 cases s.boxes id with
 | none => trivial
 | some cs => exact AV.fitsL_refl cs
theorem Inv.fits {N : Nat} {S : Start} {E : Env} (I : Inv N S E) {st' : St} (h : E.st.fits st') : Inv N S { E with st := st' } := by
 obtain ⟨hs, hb⟩ := h
 let SP : Place → Prop := fun _ => True
 have habs : ∀ q sz xs, E.st.abs q = .sl .own sz xs → st'.abs q = .sl .own sz xs := by
  intro q sz xs h
  cases q with
  | slot t π => exact AV.fits_own h (AV.fits_at π (hs t))
  | cell id j =>
   simp only [St.abs] at h ⊢
   have h2 := hb id
   cases hb1 : E.st.boxes id with
   | none => rw [hb1] at h; simp at h
   | some cs =>
    rw [hb1] at h h2
    simp only [Option.getD_some] at h
    cases hb2 : st'.boxes id with
    | none => rw [hb2] at h2; exact h2.elim
    | some cs' =>
     rw [hb2] at h2
     exact AV.fits_own h (AV.fitsL_getD h2 j)
  | box id => exact h
  | no => exact h
 have hst : Stays SP (fun _ => True) E { E with st := st' } :=
  ⟨fun bk h => ⟨h, rfl⟩, fun bk q _ h => ⟨h, rfl⟩, fun _ _ => rfl, fun q u sz xs _ _ h => by cases q <;> exact h, fun q sz xs _ h => habs q sz xs h⟩
 have hle : ∀ p x v, Val E p x v → Val { E with st := st' } p x v := fun p x v hv => hv.mono hst (hv.leans (fun _ _ _ _ => trivial) trivial fun _ _ _ _ => trivial)
 refine ⟨⟨I.rel.size, fun t => (hle _ _ _ (I.rel.slots t)).fits (hs t), fun id cs' h => ?_, I.rel.pub, I.rel.own, fun id h hm => I.rel.abs id (by
  obtain ⟨cs', h'⟩ := Option.isSome_iff_exists.1 h
  have h' : st'.boxes id = some cs' := h'
  have h2 := hb id
  rw [h'] at h2
  cases hb1 : E.st.boxes id with
  | none => rw [hb1] at h2; exact h2.elim
  | some _ => rfl) hm, I.rel.gl⟩, ⟨I.fr.os, I.fr.tape, I.fr.output, I.fr.size, I.fr.block, I.fr.own, I.fr.pub0, I.fr.pub1, I.fr.beta⟩⟩
 have h' : st'.boxes id = some cs' := h
 have h2 := hb id
 rw [h'] at h2
 cases hb1 : E.st.boxes id with
 | none => rw [hb1] at h2; exact h2.elim
 | some cs =>
  rw [hb1] at h2
  obtain ⟨f1, f2⟩ := AV.fitsL_get h2
  obtain ⟨g1, arr, T, g2, g3, g4⟩ := I.rel.boxes id cs hb1
  refine ⟨g1, arr, T, g2, by rw [g3, f1], fun j c hj => ?_⟩
  obtain ⟨x, hx, hf⟩ := f2 j c hj
  exact (hle _ _ _ (g4 j x hx)).fits hf
section
variable {C : Cx} {Q : Exit → St → Prop} {st : St}
theorem AWp.fit {st' : St} (hf : st.fits st') {c : Code} (h : AWp C c st' Q) : AWp C c st Q := by
 intro S E a hb I ha hd he
 exact h S { E with st := st' } a hb (I.fits (by rw [he]; exact hf)) ha hd rfl
theorem AWp.postFit {c : Code} (h : AWp C c st fun e s => ∃ s', s.fits s' ∧ Q e s') : AWp C c st Q := by
 intro S E a hb I ha hd he
 refine wp_mono (h S E a hb I ha hd he) ?_
 rintro e a w ⟨E1, rfl, h2, h3, h4, s', h5, h6⟩
 exact ⟨{ E1 with st := s' }, rfl, h2.fits h5, h3, h4, h6⟩
def seeS (ks kb : List Nat) (s : St) : List Nat → List (Nat × AV)
 | [] => []
 | t :: ts => (t, (s.slots t).tr (takeLeaf (leakQ ks kb)) (.slot t [])) :: seeS ks kb s ts
def seeB (ks kb : List Nat) (s : St) : List Nat → Boxes
 | [] => []
 | t :: ts => match s.boxes t with
  | some cs => (t, AV.trC (takeLeaf (leakQ ks kb)) t 0 cs) :: seeB ks kb s ts
  | none => seeB ks kb s ts
theorem seeS_lookup (ks kb s) : ∀ (ts : List Nat) (t : Nat), (seeS ks kb s ts).lookup t = if ts.contains t then some ((s.slots t).tr (takeLeaf (leakQ ks kb)) (.slot t [])) else none
 | [], t => by simp [seeS]
 | x :: ts, t => by
  rw [seeS, lookup_cons', seeS_lookup ks kb s ts t]
  by_cases h : t = x
  ·subst h; simp
  ·simp [h]
theorem seeB_lookup (ks kb) (s : St) : ∀ (ts : List Nat) (t : Nat), (seeB ks kb s ts).lookup t = if ts.contains t then (s.boxes t).map (AV.trC (takeLeaf (leakQ ks kb)) t 0) else none
 | [], t => by simp [seeB]
 | x :: ts, t => by
  rw [seeB]
  cases hb : s.boxes x with
  | none =>
   simp only []
   rw [seeB_lookup ks kb s ts t]
   by_cases h : t = x
   ·subst h; simp [hb]
   ·simp [h]
  | some cs =>
   simp only []
   rw [lookup_cons', seeB_lookup ks kb s ts t]
   by_cases h : t = x
   ·subst h; simp [hb]
   ·simp [h]
theorem St.clean_eq (ks kb) (s : St) : s.clean ks kb = St.of (seeS ks kb s ks) (seeB ks kb s kb) := by
 refine St.ext' (fun t => ?_) (fun id => ?_)
 ·show (if ks.contains t then _ else _) = ((seeS ks kb s ks).lookup t).getD .any
  rw [seeS_lookup]
  by_cases h : ks.contains t = true
  ·rw [if_pos h, if_pos h]; rfl
  ·rw [if_neg h, if_neg h]; rfl
 ·show (if kb.contains id then _ else _) = (seeB ks kb s kb).lookup id
  rw [seeB_lookup]
  by_cases h : kb.contains id = true
  ·rw [if_pos h, if_pos h]; rfl
  ·rw [if_neg h, if_neg h]
def St.sees (s : St) (ks kb : List Nat) (m : List (Nat × AV)) (bx : Boxes) : Prop := fitsS (seeS ks kb s ks) m ∧ fitsB (seeB ks kb s kb) bx
theorem St.sees_fits {s : St} {ks kb m bx} (h : s.sees ks kb m bx) : (s.clean ks kb).fits (St.of m bx) := by
 rw [St.clean_eq]; exact St.fits_of h.1 h.2
class HidK where
 q : St → Prop
class HidQ where
 q : Exit → St → Prop
abbrev Kn [h : HidK] (s : St) : Prop := h.q s
def Kl [h : HidQ] (s : St) : Prop := h.q .normal s
theorem kni {q : St → Prop} {s : St} (h : @Kn ⟨q⟩ s) : @Kn ⟨q⟩ s := h
theorem kl {s : St} (h : Q .normal s) : @Kl ⟨Q⟩ s := h
theorem AWp.last (ks kb : List Nat) (m : List (Nat × AV)) (bx : Boxes) {id : Nat} {ops : Array Oper} (h : aops C ops ops.toList st fun s => s.sees ks kb m bx) (h2 : Q .normal (St.of m bx)) : AWp C (.region id ops false) st Q := by
 refine AWp.postFit (AWp.post (fun _ => (ks, kb)) ((AWp.region (Q := fun e s => thenQ (fun s => s.sees ks kb m bx) (fun _ _ => False) e s) h).mono ?_))
 intro e s hs
 cases e with
 | normal => exact ⟨_, St.sees_fits hs, h2⟩
 | _ => exact hs.elim
theorem AWp.gL (ks kb : List Nat) {id : Nat} {ops : Array Oper} (h : aops C ops ops.toList st fun s => @Kl ⟨Q⟩ (St.of (seeS ks kb s ks) (seeB ks kb s kb))) : AWp C (.region id ops false) st Q := by
 refine AWp.post (fun _ => (ks, kb)) ((AWp.region (Q := fun e s => thenQ (fun s => Q .normal (s.clean ks kb)) (fun _ _ => False) e s) ?_).mono ?_)
 ·simp only [← St.clean_eq] at h
  exact h
 ·intro e s hs
  cases e with
  | normal => exact hs
  | _ => exact hs.elim
theorem AWp.goLast (ks kb : List Nat) {id : Nat} {ops : Array Oper} (h : ∀ K : St → Prop, (∀ l bx, Q .normal (St.of l bx) → K (St.of l bx)) → aops C ops ops.toList st fun s => K (St.of (seeS ks kb s ks) (seeB ks kb s kb))) : AWp C (.region id ops false) st Q := AWp.gL ks kb (h _ fun _ _ h => h)
theorem AWp.step (ks kb : List Nat) (m : List (Nat × AV)) (bx : Boxes) {id : Nat} {ops : Array Oper} {y : Code} (h : aops C ops ops.toList st fun s => s.sees ks kb m bx) (h2 : AWp C y (St.of m bx) Q) : AWp C (.seq (.region id ops false) y) st Q :=
 AWp.seq (AWp.last ks kb m bx h h2)
theorem AWp.g (ks kb : List Nat) {id : Nat} {ops : Array Oper} {y : Code} (h : aops C ops ops.toList st fun s => @Kn ⟨fun s => AWp C y s Q⟩ (St.of (seeS ks kb s ks) (seeB ks kb s kb))) : AWp C (.seq (.region id ops false) y) st Q :=
 AWp.seq (AWp.gL ks kb h)
theorem AWp.go (ks kb : List Nat) {id : Nat} {ops : Array Oper} {y : Code} (h : ∀ K : St → Prop, (∀ l bx, AWp C y (St.of l bx) Q → K (St.of l bx)) → aops C ops ops.toList st fun s => K (St.of (seeS ks kb s ks) (seeB ks kb s kb))) : AWp C (.seq (.region id ops false) y) st Q := AWp.g ks kb (h _ fun _ _ h => h)
theorem AWp.while {ι : Type} (l : ι → List (Nat × AV)) (bx : ι → Boxes) (inv : ι → Prop) (μ : ι → Nat) (ks kb : List Nat) {c : Code} (i0 : ι) (h0 : inv i0) (hst : st.sees ks kb (l i0) (bx i0))
  (round : ∀ i, inv i → AWp C c (St.of (l i) (bx i)) (thenQ (fun s => ∃ i', inv i' ∧ μ i' < μ i ∧ s.sees ks kb (l i') (bx i')) Q)) : AWp C (.loop c) st Q := by
 refine AWp.clean ks kb (AWp.fit (St.sees_fits hst) ?_)
 intro S E a hb I ha hd he
 refine wp_loop_by (fun i a w => inv i ∧ ∃ E, E.w = w ∧ Inv C.N S E ∧ a.tmps = E.tm ∧ a.defers = [] ∧ E.st = St.of (l i) (bx i)) μ ?_ (i0 := i0) ⟨h0, E, rfl, I, ha, hd, he⟩
 rintro i a w ⟨hi, E, rfl, I, ha, hd, he⟩
 refine wp_mono (round i hi S E a hb I ha hd he) ?_
 rintro e a w ⟨E1, rfl, h2, h3, h4, h5⟩
 cases e with
 | normal =>
  obtain ⟨i', g1, g2, g3⟩ := h5
  obtain ⟨E2, k1, k2, k3, k4⟩ := h2.clean ks kb
  exact ⟨i', ⟨g1, { E2 with st := St.of (l i') (bx i') }, k1, k3.fits (by rw [k4]; exact St.sees_fits g3), by rw [h3, k2], h4, rfl⟩, g2⟩
 | _ => exact ⟨E1, rfl, h2, h3, h4, h5⟩
end
end Go.AM
namespace Go.AM
section
variable {E E' : Env} (hP : ∀ bk, E.Pub bk → E'.Pub bk ∧ E'.w.heap[bk]? = E.w.heap[bk]?) (hB : ∀ id, E'.β id = E.β id)
include hP hB
theorem Val.freeOut {p : Place} {x : AV} {v : Value} (hv : Val E p x v) : x.tidy = true → x.free = true → ∀ p', Val E' p' x v := by
 induction hv with
 | any p v => exact fun _ _ p' => .any p' v
 | b p x => exact fun _ _ p' => .b p' x
 | i p k n => exact fun _ _ p' => .i p' k n
 | s p x => exact fun _ _ p' => .s p' x
 | nil p => exact fun _ _ p' => .nil p'
 | nofn p => exact fun _ _ p' => .nofn p'
 | ab p b0 o0 n0 c0 => exact fun _ _ p' => .ab p' b0 o0 n0 c0
 | mp p b0 => exact fun _ _ p' => .mp p' b0
 | it p b0 => exact fun _ _ p' => .it p' b0
 | ptr p id off => exact fun _ _ p' => by rw [← hB id]; exact .ptr p' id off
 | bs p id off n cap => exact fun _ _ p' => by rw [← hB id]; exact .bs p' id off n cap
 | pt p g ix cells off bk o hc hg ha =>
  intro hs _ p'
  cases g with
  | own => exact hg.elim
  | nl => exact hg.elim
  | fro => exact .pt p' .fro ix cells off bk o (hc.mono hP (hP _ hg).2) (hP _ hg).1 trivial
  | cut => exact hg.elim
  | vw q ex => simp [AV.tidy] at hs
 | sl1 p sz a cap => exact fun _ _ p' => .sl1 p' sz a cap
 | sl2 p sz a => exact fun _ _ p' => .sl2 p' sz a
 | sl0 p g sz h0 ha =>
  intro hs _ p'
  cases g with
  | vw q ex => simp [AV.tidy] at hs
  | _ => exact .sl0 p' _ sz (by simp) trivial
 | sl p g sz xs bk off cap hc hr hg ha =>
  intro hs hf p'
  cases g with
  | vw q ex => simp [AV.tidy] at hs
  | fro => exact .sl p' .fro sz xs bk off cap hc (hr.mono hP (hP _ hg).2) (hP _ hg).1 trivial
  | cut => exact .sl p' .cut sz xs bk off cap hc (hr.mono hP (hP _ hg.1).2) ⟨(hP _ hg.1).1, hg.2⟩ trivial
  | nl => exact hg.elim
  | own => simp [AV.free] at hf
 | fn p f fi ca fi' ca' h1 h2 _ _ ih1 ih2 =>
  intro hs hf p'
  simp only [AV.tidy, Bool.and_eq_true] at hs
  exact .fn p' f fi ca fi' ca' h1 h2 (fun k c hk => ih1 k c hk (AV.tidyL_get hs.1.1.1 hk) (AV.freeL_get hs.1.2 hk) _) (fun k c hk => ih2 k c hk (AV.tidyL_get hs.1.1.2 hk) (AV.freeL_get hs.2 hk) _)
 | agg p cs arr h1 _ ih =>
  intro hs hf p'
  rw [AV.tidy] at hs
  rw [AV.free] at hf
  exact .agg p' cs arr h1 fun k c hk => ih k c hk (AV.tidyL_get hs hk) (AV.freeL_get hf hk) _
 | tup p cs arr h1 _ ih =>
  intro hs hf p'
  rw [AV.tidy] at hs
  rw [AV.free] at hf
  exact .tup p' cs arr h1 fun k c hk => ih k c hk (AV.tidyL_get hs hk) (AV.freeL_get hf hk) _
theorem Val.slotOut (d : Nat) (hO : ∀ bk π, E.ω bk = some (.slot d π) → E'.ω bk = some (.slot 0 π) ∧ E'.w.heap[bk]? = E.w.heap[bk]?) {p : Place} {x : AV} {v : Value} (hv : Val E p x v) :
  x.tidy = true → ∀ π0, p = .slot d π0 → Val E' (.slot 0 π0) x v := by
 induction hv with
 | any p v => exact fun _ _ _ => .any _ v
 | b p x => exact fun _ _ _ => .b _ x
 | i p k n => exact fun _ _ _ => .i _ k n
 | s p x => exact fun _ _ _ => .s _ x
 | nil p => exact fun _ _ _ => .nil _
 | nofn p => exact fun _ _ _ => .nofn _
 | ab p b0 o0 n0 c0 => exact fun _ _ _ => .ab _ b0 o0 n0 c0
 | mp p b0 => exact fun _ _ _ => .mp _ b0
 | it p b0 => exact fun _ _ _ => .it _ b0
 | ptr p id off => exact fun _ _ _ => by rw [← hB id]; exact .ptr _ id off
 | bs p id off n cap => exact fun _ _ _ => by rw [← hB id]; exact .bs _ id off n cap
 | pt p g ix cells off bk o hc hg ha => exact fun hs π0 _ => (Val.pt p g ix cells off bk o hc hg ha).freeOut hP hB hs rfl _
 | sl1 p sz a cap => exact fun _ π0 _ => .sl1 _ sz a cap
 | sl2 p sz a => exact fun _ π0 _ => .sl2 _ sz a
 | sl0 p g sz h0 ha =>
  intro hs π0 _
  cases g with
  | vw q ex => simp [AV.tidy] at hs
  | _ => exact .sl0 _ _ sz (by simp) trivial
 | sl p g sz xs bk off cap hc hr hg ha =>
  intro hs π0 he
  cases g with
  | vw q ex => simp [AV.tidy] at hs
  | fro => exact .sl _ .fro sz xs bk off cap hc (hr.mono hP (hP _ hg).2) (hP _ hg).1 trivial
  | cut => exact .sl _ .cut sz xs bk off cap hc (hr.mono hP (hP _ hg.1).2) ⟨(hP _ hg.1).1, hg.2⟩ trivial
  | nl => exact hg.elim
  | own =>
   subst he
   have ho := hO bk π0 hg.1
   exact .sl _ .own sz xs bk off cap hc (hr.mono hP ho.2) ⟨ho.1, hg.2.mono ho.2⟩ trivial
 | fn p f fi ca fi' ca' h1 h2 h3 h4 _ _ =>
  intro hs π0 _
  refine (Val.fn p f fi ca fi' ca' h1 h2 h3 h4).freeOut hP hB hs ?_ _
  simp only [AV.tidy, Bool.and_eq_true] at hs
  simp [AV.free, hs.1.2, hs.2]
 | agg p cs arr h1 _ ih =>
  intro hs π0 he
  subst he
  rw [AV.tidy] at hs
  exact .agg _ cs arr h1 fun k c hk => ih k c hk (AV.tidyL_get hs hk) _ rfl
 | tup p cs arr h1 _ ih =>
  intro hs π0 he
  subst he
  rw [AV.tidy] at hs
  exact .tup _ cs arr h1 fun k c hk => ih k c hk (AV.tidyL_get hs hk) _ rfl
end
def resAV (C : Cx) (st : St) : ResultVar → QR
 | .tmp t => ⟨True, st.rd 0 (.tmp t)⟩
 | .cell a t => qload C.T st t (st.rd 0 (.tmp a))
def resX : List AV → AV
 | [x] => x
 | xs => .tup xs
def retX (C : Cx) (rs : List ResultVar) (st : St) : AV := resX (rs.map fun v => (resAV C st v).v)
def fitsX : Option (List AV) → List AV → Prop
 | some cs, cs' => AV.fitsL cs cs'
 | none, _ => False
def retQ (C : Cx) (rs : List ResultVar) (r : AV) (bx' : Boxes) : Exit → St → Prop
 | .normal, st | .ret, st => (∀ v ∈ rs, (resAV C st v).ok) ∧
   aassign { C with N := C.N + 1, res := [C.N] } st C.N (retX C rs st) fun st' => (st'.slots C.N).fits r ∧ r.tidy = true ∧
    ∀ id cs, bx'.lookup id = some cs → fitsX (st'.boxes id) cs ∧ cs.all AV.still = true
 | _, _ => False
theorem sure_as {P : Program} {x : AV} {p : Place} {E : Env} {v : Value} (hv : Val E p x v) (h : ∃ id off, x = .ptr id off ∨ ∃ g ix cs, x = .pt g ix cs off) {t : TypeId} {w : World} {u : Value}
  (hr : (Instr.loadAt t v).run P w = .ok u w) : (do loadVar t (← asAddr v) : Sem Value).run P w = .ok u w := by
 obtain ⟨id, off, rfl | ⟨g, ix, cs, rfl⟩⟩ := h
 ·cases hv; exact hr
 ·cases hv; exact hr
def oneRes (tm : Array Value) : ResultVar → Sem Value
 | .tmp t => pure (tm.getD t undef)
 | .cell a t => do loadVar t (← asAddr (tm.getD a undef))
theorem results_eq (fn : Func) (tm : Array Value) : results fn tm = (do
  let vs ← fn.results.mapM (oneRes tm)
  pure (if h : vs.size = 1 then vs[0] else .tuple vs)) := by
 unfold results
 congr 2
section
variable {C : Cx} {S : Start} {E : Env}
theorem resAV_sound (R : Rel C.N E) {a : Act} (ha : a.tmps = E.tm) (v : ResultVar) (h : (resAV C E.st v).ok) :
  ∃ u, (oneRes a.tmps v).run C.P E.w = .ok u E.w ∧ Val E .no (resAV C E.st v).v u := by
 cases v with
 | tmp t =>
  have := R.rd ha 0 (.tmp t) .no
  exact ⟨_, rfl, this⟩
 | cell x t =>
  have hx := R.rd ha 0 (.tmp x) .no
  obtain ⟨_, u, h1, h2⟩ := qload_sound (P := C.P) R t _ _ hx h
  refine ⟨u, sure_as hx ?_ h1, h2⟩
  simp only [resAV, qload] at h
  split at h
  ·rename_i y id off _ hq; exact ⟨id, off, .inl hq⟩
  ·rename_i y g ix cs off _ hq; exact ⟨0, off, .inr ⟨g, ix, cs, hq⟩⟩
  ·exact h.elim
theorem results_list (R : Rel C.N E) {a : Act} (ha : a.tmps = E.tm) : ∀ (rs : List ResultVar), (∀ v ∈ rs, (resAV C E.st v).ok) →
  ∃ us : List Value, (rs.mapM (oneRes a.tmps) : Sem (List Value)).run C.P E.w = .ok us E.w ∧
   us.length = rs.length ∧ ∀ (k : Nat) x, (rs.map fun v => (resAV C E.st v).v)[k]? = some x → Val E .no x (us.getD k undef)
 | [], _ => ⟨[], rfl, rfl, by simp⟩
 | v :: rs, h => by
  obtain ⟨u, h1, h2⟩ := resAV_sound R ha v (h v (by simp))
  obtain ⟨us, g1, g2, g3⟩ := results_list R ha rs fun v hv => h v (by simp [hv])
  refine ⟨u :: us, ?_, by simp [g2], fun k x hk => ?_⟩
  ·rw [List.mapM_cons, Sem.run_bind, h1]
   simp only [Result.andThen_ok, Sem.run_bind, g1, Sem.run_pure]
  ·cases k with
   | zero => simp at hk; subst hk; exact h2
   | succ k => simpa using g3 k x (by simpa using hk)
theorem results_sound (R : Rel C.N E) {a : Act} (ha : a.tmps = E.tm) (fn : Func) (h : ∀ v ∈ fn.results.toList, (resAV C E.st v).ok) :
  ∃ u, (results fn a.tmps).run C.P E.w = .ok u E.w ∧ Val E .no (retX C fn.results.toList E.st) u := by
 obtain ⟨us, h1, h2, h3⟩ := results_list R ha fn.results.toList h
 have hl : (fn.results.toList.map fun v => (resAV C E.st v).v).length = us.length := by rw [List.length_map, h2]
 rw [results_eq, Array.mapM_eq_mapM_toList, Sem.run_bind, Sem.run_map, h1]
 simp only [Result.andThen_ok, Sem.run_pure]
 unfold retX
 generalize (fn.results.toList.map fun v => (resAV C E.st v).v) = xs at h3 hl
 refine ⟨_, rfl, ?_⟩
 match xs, us, hl with
 | [x], [u], _ => simpa [resX] using h3 0 x rfl
 | [], [], _ => exact .tup .no [] #[] rfl (by simp)
 | x :: y :: xs, u :: u' :: us, hl =>
  simp only [resX]
  have : ((u :: u' :: us).toArray.size = 1) = False := by simp
  simp only [this, dite_false]
  refine .tup .no _ _ (by simpa using hl) fun k c hk => ?_
  have := h3 k c hk
  simpa [Place.sub] using this
end
def argSlots : Nat → List AV → List (Nat × AV)
 | _, [] => []
 | k, x :: xs => (k, x) :: argSlots (k + 1) xs
theorem argSlots_lookup : ∀ (l : List AV) (k t : Nat), (argSlots k l).lookup t = if k ≤ t then l[t - k]? else none
 | [], k, t => by simp [argSlots]
 | x :: xs, k, t => by
  rw [argSlots, lookup_cons', argSlots_lookup xs (k + 1) t]
  by_cases h : t = k
  ·subst h; simp
  ·by_cases h2 : k ≤ t
   ·rw [if_neg h, if_pos (by omega), if_pos h2, show t - k = (t - (k + 1)) + 1 by omega, List.getElem?_cons_succ]
   ·rw [if_neg h, if_neg (by omega), if_neg h2]
theorem rel_begin {N : Nat} {w : World} {β : Nat → Nat} {ω : Nat → Option Place} {Pub : Nat → Prop} {bx : Boxes} {args : List AV} {vs : Array Value} (n : Nat) (hN : N = args.length + n) (R : Rel 0 ⟨w, β, ω, Pub, St.ofBoxes bx, #[]⟩)
  (hl : args.length = vs.size) (hf : AV.freeL args = true) (hv : ∀ (k : Nat) c, args[k]? = some c → Val ⟨w, β, ω, Pub, St.ofBoxes bx, #[]⟩ .no c (vs.getD k undef)) (_ : ∀ bk q, ω bk = some q → inBx bx q) :
  Rel N ⟨w, β, ω, Pub, St.of (argSlots 0 args) bx, vs ++ Array.replicate n undef⟩ := by
 let E0 : Env := ⟨w, β, ω, Pub, St.ofBoxes bx, #[]⟩
 let E1 : Env := ⟨w, β, ω, Pub, St.of (argSlots 0 args) bx, vs ++ Array.replicate n undef⟩
 let SP : Place → Prop := fun q => q = .no ∨ ∃ sz xs, E0.st.abs q = .sl .own sz xs
 have hcell : ∀ q sz xs, E0.st.abs q = .sl .own sz xs → ∃ id j, q = .cell id j := by
  intro q sz xs h
  cases q with
  | slot t π => simp [E0, St.ofBoxes, St.abs, AV.at_any] at h
  | cell id j => exact ⟨id, j, rfl⟩
  | box id => simp [St.abs] at h
  | no => simp [St.abs] at h
 have hst : Stays SP (fun _ => True) E0 E1 := ⟨fun bk h => ⟨h, rfl⟩, fun bk q _ h => ⟨h, rfl⟩, fun _ _ => rfl, fun q u sz xs _ h1 h2 => by
   obtain ⟨id, j, rfl⟩ := hcell q sz xs h1; exact h2, fun q sz xs _ h => by
   obtain ⟨id, j, rfl⟩ := hcell q sz xs h; exact h⟩
 refine ⟨by simp [hN, hl], fun t => ?_, fun id cs h => ?_, R.pub, R.own, R.abs, R.gl⟩
 ·show Val E1 (.slot t []) (((argSlots 0 args).lookup t).getD .any) ((vs ++ Array.replicate n undef).getD t undef)
  rw [argSlots_lookup]
  simp only [Nat.zero_le, if_true, Nat.sub_zero]
  cases hk : args[t]? with
  | none => exact .any _ _
  | some c =>
   have ht : t < vs.size := by rw [← hl]; exact (List.getElem?_eq_some_iff.1 hk).1
   have h1 : (vs ++ Array.replicate n undef).getD t undef = vs.getD t undef := by
    rw [Array.getD_eq_getD_getElem?, Array.getD_eq_getD_getElem?, Array.getElem?_append_left ht]
   rw [h1]
   have h2 := hv t c hk
   refine ((h2.place (AV.freeL_get hf hk) (.slot t [])).mono (E' := E1) hst ?_)
   refine (h2.place (AV.freeL_get hf hk) (.slot t [])).leans (fun q sz xs h => .inr ⟨sz, xs, h⟩) (.inl rfl) fun π sz xs h => ?_
   exact absurd h (free_noOwn π (AV.freeL_get hf hk))
 ·obtain ⟨g1, arr, T, g2, g3, g4⟩ := R.boxes id cs h
  refine ⟨g1, arr, T, g2, g3, fun j c hj => ?_⟩
  refine (g4 j c hj).mono (E' := E1) hst ((g4 j c hj).leans (fun q sz xs h => .inr ⟨sz, xs, h⟩) (.inl rfl) fun π sz xs h' => ?_)
  cases π with
  | nil =>
   right
   refine ⟨sz, xs, ?_⟩
   have h'' : c = .sl .own sz xs := by cases c <;> simp_all [AV.at]
   have h3 : bx.lookup id = some cs := h
   simp only [Place.subs, E0, St.ofBoxes, St.abs, h3, Option.getD_some]
   rw [getD_get hj]; exact h''
  | cons k π => left; simp only [Place.subs, Place.sub]; exact subs_no π
theorem rel_grow {N : Nat} {E : Env} (R : Rel N E) : Rel (N + 1) { E with tm := E.tm.push undef } := by
 have hget : ∀ t, (E.tm.push undef).getD t undef = E.tm.getD t undef := by
  intro t
  rw [Array.getD_eq_getD_getElem?, Array.getD_eq_getD_getElem?, Array.getElem?_push]
  split
  ·rename_i h; subst h; simp
  ·rfl
 let SP : Place → Prop := fun _ => True
 have hst : Stays SP (fun _ => True) E { E with tm := E.tm.push undef } := ⟨fun bk h => ⟨h, rfl⟩, fun bk q _ h => ⟨h, rfl⟩, fun _ _ => rfl, fun q u sz xs _ _ h => by
   cases q with
   | slot t π => show vat ((E.tm.push undef).getD t undef) π = some u; rw [hget]; exact h
   | _ => exact h, fun q sz xs _ h => h⟩
 have hle : ∀ p x v, Val E p x v → Val { E with tm := E.tm.push undef } p x v := fun p x v hv => hv.mono hst (hv.leans (fun _ _ _ _ => trivial) trivial fun _ _ _ _ => trivial)
 refine ⟨by simp [R.size], fun t => ?_, fun id cs h => ?_, R.pub, R.own, R.abs, R.gl⟩
 ·show Val _ _ _ ((E.tm.push undef).getD t undef)
  rw [hget]; exact hle _ _ _ (R.slots t)
 ·obtain ⟨g1, arr, T, g2, g3, g4⟩ := R.boxes id cs h
  exact ⟨g1, arr, T, g2, g3, fun j c hj => hle _ _ _ (g4 j c hj)⟩
theorem inv_out {N d : Nat} {S : Start} {E : Env} (I : Inv N S E) {r : AV} {v : Value} {bx' : Boxes} (hv : Val E (.slot d []) r v) (ht : r.tidy = true)
  (hb : ∀ id cs, bx'.lookup id = some cs → fitsX (E.st.boxes id) cs ∧ cs.all AV.still = true) :
  ∃ E', E'.w = E.w ∧ Inv 0 S E' ∧ E'.st = St.ofBoxes bx' ∧ (∀ bk q, E'.ω bk = some q → inBx bx' q ∨ ∃ π, q = .slot 0 π) ∧ Val E' (.slot 0 []) r v := by
 classical
 let ω' : Nat → Option Place := fun bk => match E.ω bk with
  | some (.slot t π) => if t = d then some (.slot 0 π) else none
  | some q => if inBx bx' q then some q else none
  | none => none
 let E' : Env := ⟨E.w, E.β, ω', E.Pub, St.ofBoxes bx', #[]⟩
 have hP : ∀ bk, E.Pub bk → E'.Pub bk ∧ E'.w.heap[bk]? = E.w.heap[bk]? := fun bk h => ⟨h, rfl⟩
 have hBt : ∀ id, E'.β id = E.β id := fun _ => rfl
 have hslot : ∀ bk π, E.ω bk = some (.slot d π) → E'.ω bk = some (.slot 0 π) ∧ E'.w.heap[bk]? = E.w.heap[bk]? := fun bk π h => ⟨by simp [E', ω', h], rfl⟩
 have hsome : ∀ bk q, ω' bk = some q → ∃ q', E.ω bk = some q' := by
  intro bk q h
  simp only [ω'] at h
  split at h
  ·rename_i t π hq; exact ⟨_, hq⟩
  ·rename_i q' hq; exact ⟨_, hq⟩
  ·cases h
 have hcell : ∀ bk q, E.ω bk = some q → inBx bx' q → ω' bk = some q := by
  intro bk q h hq
  cases q with
  | slot t π => simp [inBx] at hq
  | no => simp [inBx] at hq
  | cell id j => simp only [ω', h, if_pos hq]
  | box id => simp only [ω', h, if_pos hq]
 refine ⟨E', rfl, ⟨⟨rfl, fun t => ?_, fun id cs h => ?_, fun bk h => ⟨(I.rel.pub bk h).1, ?_⟩, fun bk q h => ?_, fun id h hm => ?_, I.rel.gl⟩, ⟨I.fr.os, I.fr.tape, I.fr.output, I.fr.size, I.fr.block, fun k q h => ?_, I.fr.pub0, I.fr.pub1, I.fr.beta⟩⟩, rfl, fun bk q h => ?_, hv.slotOut hP hBt d hslot ht [] rfl⟩
 ·exact .any _ _
 ·have h' : bx'.lookup id = some cs := h
  obtain ⟨h1', h2⟩ := hb id cs h'
  obtain ⟨cs0, h1, hfit⟩ : ∃ cs0, E.st.boxes id = some cs0 ∧ AV.fitsL cs0 cs := by
   cases hx : E.st.boxes id with
   | none => rw [hx] at h1'; exact h1'.elim
   | some cs0 => rw [hx] at h1'; exact ⟨cs0, rfl, h1'⟩
  obtain ⟨f1, f2⟩ := AV.fitsL_get hfit
  obtain ⟨g1, arr, T, g2, g3, g4⟩ := I.rel.boxes id cs0 h1
  have hin : inBx bx' (.box id) := by simp [inBx, h']
  refine ⟨hcell _ _ g1 hin, arr, T, g2, by rw [g3, f1], fun j c hj => ?_⟩
  have hst : c.still = true := List.all_eq_true.1 h2 c (List.mem_of_getElem? hj)
  simp only [AV.still, Bool.and_eq_true, Bool.or_eq_true] at hst
  obtain ⟨s1, s2⟩ := hst
  obtain ⟨x0, hx0, hf0⟩ := f2 j c hj
  have hvc := (g4 j x0 hx0).fits hf0
  rcases s2 with s2 | s2
  ·exact hvc.freeOut hP hBt s1 s2 _
  ·split at s2
   ·rename_i sz xs
    generalize arr.getD j undef = u at hvc
    cases hvc with
    | sl0 => exact .sl0 _ _ _ (by simp) trivial
    | sl _ _ _ _ bk off cap hc hr hg ha =>
     refine .sl _ .own _ _ bk off cap hc hr ⟨hcell _ _ hg.1 ?_, hg.2⟩ trivial
     simp [inBx, h']
   ·cases s2
 ·have := (I.rel.pub bk h).2
  simp [E', ω', this]
 ·obtain ⟨q', hq⟩ := hsome bk q h
  exact I.rel.own bk q' hq
 ·refine I.rel.abs id ?_ hm
  obtain ⟨cs, hc⟩ := Option.isSome_iff_exists.1 h
  have h1 := (hb id cs hc).1
  cases hx : E.st.boxes id with
  | none => rw [hx] at h1; exact h1.elim
  | some _ => rfl
 ·obtain ⟨q', hq⟩ := hsome k q h
  exact I.fr.own k q' hq
 ·simp only [E', ω'] at h
  split at h
  ·split at h
   ·cases h; exact .inr ⟨_, rfl⟩
   ·cases h
  ·rename_i q' _ hq
   split at h
   ·rename_i hin; cases h; exact .inl hin
   ·cases h
  ·cases h
theorem ret_main {S : Start} {r : AV} {bx' : Boxes} {fn : Func} (C : Cx) (a : Act) (w' : World) (h : APost C S (fun _ st => (∀ v ∈ fn.results.toList, (resAV C st v).ok) ∧
   aassign { C with N := C.N + 1, res := [C.N] } st C.N (retX C fn.results.toList st) fun st' => (st'.slots C.N).fits r ∧ r.tidy = true ∧
    ∀ id cs, bx'.lookup id = some cs → fitsX (st'.boxes id) cs ∧ cs.all AV.still = true) .ret a w') :
   a.defers = [] ∧ ∃ v, (results fn a.tmps).run C.P w' = .ok v w' ∧ ∃ v' E', Ending.returned v = .returned v' ∧ E'.w = w' ∧ Inv 0 S E' ∧ E'.st = St.ofBoxes bx' ∧ (∀ bk q, E'.ω bk = some q → inBx bx' q ∨ ∃ π, q = .slot 0 π) ∧ Val E' (.slot 0 []) r v' := by
 obtain ⟨E, rfl, I, ha, hd, hok, hasg⟩ := h
 refine ⟨hd, ?_⟩
 obtain ⟨u, hu, hval⟩ := results_sound I.rel ha fn hok
 refine ⟨u, hu, u, ?_⟩
 have I2 : Inv (C.N + 1) S { E with tm := E.tm.push undef } := ⟨rel_grow I.rel, ⟨I.fr.os, I.fr.tape, I.fr.output, I.fr.size, I.fr.block, I.fr.own, I.fr.pub0, I.fr.pub1, I.fr.beta⟩⟩
 have hval2 : Val { E with tm := E.tm.push undef } .no (retX C fn.results.toList E.st) u := by
  have hget : ∀ t, (E.tm.push undef).getD t undef = E.tm.getD t undef := by
   intro t
   rw [Array.getD_eq_getD_getElem?, Array.getD_eq_getD_getElem?, Array.getElem?_push]
   split
   ·rename_i h; subst h; simp
   ·rfl
  have hst : Stays (fun _ => True) (fun _ => True) E { E with tm := E.tm.push undef } := ⟨fun bk h => ⟨h, rfl⟩, fun bk q _ h => ⟨h, rfl⟩, fun _ _ => rfl, fun q u sz xs _ _ h => by
    cases q with
    | slot t π => show vat ((E.tm.push undef).getD t undef) π = some u; rw [hget]; exact h
    | _ => exact h, fun q sz xs _ h => h⟩
  exact hval.mono hst (hval.leans (fun _ _ _ _ => trivial) trivial fun _ _ _ _ => trivial)
 obtain ⟨E1, hw, I3, htm, h1, h2, h3⟩ := aassign_sound (C := { C with N := C.N + 1, res := [C.N] }) I2 hval2 hasg
 have hs := I3.rel.slots C.N
 rw [htm] at hs
 have hlast : (E.tm.push undef |>.setIfInBounds C.N u).getD C.N undef = u := tm_set_self _ _ _ (by have := I.rel.size; simp; omega)
 rw [hlast] at hs
 obtain ⟨E', g1, g2, g3, g4, g5⟩ := inv_out I3 (hs.fits h1) h2 h3
 exact ⟨E', rfl, g1.trans hw, g2, g3, g4, g5⟩
theorem proc_of {P : Program} {k f : Nat} {args : List AV} {bx : Boxes} {r : AV} {bx' : Boxes} {fn : Func} {c : Code} (C : Cx) (n : Nat) (rs : List ResultVar) (hf : P.funcs[f]? = some fn) (hb : fn.body = some c) (hname : (fn.name == "runtime.NumGoroutine") = false)
  (hrs : fn.results.toList = rs) (hC : C.P = P) (hn : fn.ntmps - args.length = n) (hN : C.N = args.length + n) (hbase : k ≤ C.base) (hfree : AV.freeL args = true) (h : AWp C c (St.of (argSlots 0 args) bx) (retQ C rs r bx')) : Proc P k f args bx r bx' := by
 subst hC
 subst hrs
 refine ⟨⟨fn, c, hf, hb, hname⟩, fun w β ω Pub vs R hω hl hv => ?_⟩
 let S : Start := ⟨w, fun bk => ω bk ≠ none, Pub, β, k⟩
 have R1 := rel_begin n hN R hl hfree hv hω
 have I1 : Inv C.N S ⟨w, β, ω, Pub, St.of (argSlots 0 args) bx, vs ++ Array.replicate n undef⟩ :=
  ⟨R1, ⟨SameOs.refl _, rfl, rfl, Nat.le_refl _, fun _ _ _ => rfl, fun k q h => .inr (by show ω k ≠ none; have h' : ω k = some q := h; simp [h']), fun _ h => h, fun _ h => .inl h, fun _ _ => rfl⟩⟩
 refine calls_of_wp hf hb (wp_mono (h S _ _ hbase I1 (by simp [← hn, hl]) rfl rfl) ?_)
 have main := fun a w' h => ret_main (S := S) (r := r) (bx' := bx') (fn := fn) C a w' h
 intro e a w' hpost
 cases e with
 | normal => exact main a w' hpost
 | ret => exact main a w' hpost
 | exit id => obtain ⟨_, _, _, _, _, hh⟩ := hpost; exact hh.elim
 | goto l => obtain ⟨_, _, _, _, _, hh⟩ := hpost; exact hh.elim
 | panic ch => obtain ⟨_, _, _, _, _, hh⟩ := hpost; exact hh.elim
 | outgrown => obtain ⟨_, _, _, _, _, hh⟩ := hpost; exact hh.elim
theorem procE_of {ι : Type} {P : Program} {k f : Nat} {args : List AV} {bx : Boxes} {r : ι → AV} {bx' : ι → Boxes} {fn : Func} {c : Code} (C : Cx) (n : Nat) (rs : List ResultVar) (hf : P.funcs[f]? = some fn) (hb : fn.body = some c) (hname : (fn.name == "runtime.NumGoroutine") = false)
  (hrs : fn.results.toList = rs) (hC : C.P = P) (hn : fn.ntmps - args.length = n) (hN : C.N = args.length + n) (hbase : k ≤ C.base) (hfree : AV.freeL args = true) (h : AWp C c (St.of (argSlots 0 args) bx) (fun e st => ∃ i, retQ C rs (r i) (bx' i) e st)) : ProcE P k f args bx r bx' := by
 subst hC
 subst hrs
 refine ⟨⟨fn, c, hf, hb, hname⟩, fun w β ω Pub vs R hω hl hv => ?_⟩
 let S : Start := ⟨w, fun bk => ω bk ≠ none, Pub, β, k⟩
 have R1 := rel_begin n hN R hl hfree hv hω
 have I1 : Inv C.N S ⟨w, β, ω, Pub, St.of (argSlots 0 args) bx, vs ++ Array.replicate n undef⟩ :=
  ⟨R1, ⟨SameOs.refl _, rfl, rfl, Nat.le_refl _, fun _ _ _ => rfl, fun k q h => .inr (by show ω k ≠ none; have h' : ω k = some q := h; simp [h']), fun _ h => h, fun _ h => .inl h, fun _ _ => rfl⟩⟩
 refine calls_of_wp hf hb (wp_mono (h S _ _ hbase I1 (by simp [← hn, hl]) rfl rfl) ?_)
 have main := fun i a w' h => ret_main (S := S) (r := r i) (bx' := bx' i) (fn := fn) C a w' h
 intro e a w' hpost
 obtain ⟨E, h1, h2, h3, h4, i, h5⟩ := hpost
 cases e with
 | normal =>
  obtain ⟨g1, v, g2, v', E', g3⟩ := main i a w' ⟨E, h1, h2, h3, h4, h5⟩
  exact ⟨g1, v, g2, i, v', E', g3⟩
 | ret =>
  obtain ⟨g1, v, g2, v', E', g3⟩ := main i a w' ⟨E, h1, h2, h3, h4, h5⟩
  exact ⟨g1, v, g2, i, v', E', g3⟩
 | exit id => exact h5.elim
 | goto l => exact h5.elim
 | panic ch => exact h5.elim
 | outgrown => exact h5.elim
end Go.AM
namespace Go.AM
def Cx.T' (P : Program) (t : Nat) : Option TI := ti P t
@[simp] theorem Cx.T_eq (C : Cx) (t : Nat) : C.T t = Cx.T' C.P t := rfl
attribute [simp] St.of_put St.of_setBox St.of_slots St.of_boxes lookup_cons' St.of_take St.of_fz St.of_killB St.of_clean cleanS cleanB trS trB leakQ
attribute [simp] aop aelse acnv qcnv anil isNilCmp aquiet aassign astore astoreBox anewBox astoreElem abuildSlice abuild abuildBox amakeSlice aappend aappendTo aappendL rdArgs elemSz isRes appendix
attribute [simp] St.rd cv St.settle settleQ settleF Cx.tk mkQ mkF isSlotOf isCellOf isBoxOf noQ noF szOf
attribute [simp] AV.view AV.tr AV.trL AV.trN AV.trC viewLeaf takeLeaf fzLeaf killBLeaf AV.vws AV.vwsL AV.vwsN AV.vwsC AV.free AV.freeL AV.resOk AV.resOkL AV.resOkN resLeafOk resLeaf AV.noPtr AV.noPtrL AV.solid AV.solidL AV.tidy AV.tidyL AV.still AV.hole AV.cellOk flatA spliceL
attribute [simp] AV.resOkC Place.sub St.abs AV.at AV.data AV.dataL AV.dz dzLeaf AV.argz argLeaf AV.scalar AV.scalarL AV.ptrs AV.ptrsL
attribute [simp] qop ibin ishift sbin qpeq qbin qun qconv qbytes bytesL fieldOf qfield qpart qfieldv qload Gh.atop qindexAddr qindex qbound Gh.part qslice qslice3 qsliceC qcap qcapA qlen qlenA qmaxL qminL qmax qmin qpick fillL strPlace qbuild qnil qextract isAggK
attribute [simp] AV.fits AV.fitsL fitsS fitsB fitsX seeS seeB St.sees
attribute [simp] renLeaf AV.ren St.of_dropB St.of_addB killO givenL swapL upL givenQ nodup givenOk takenL pairsOk
attribute [simp] AV.atom AV.flat AV.flatL AV.argn AV.argk
attribute [simp] bsrc bput aappendB aappendG aappendZ acopyL acopyB cutTo allDat_nil allDat_cons aclearL aclearB zerosL zdat isEql isStr qop2 qeqS eqCell eqCells
attribute [simp] argSlots thenQ blockQ retQ retX resX resAV chunk appendQ selfTake
@[congr] theorem acallV_congr {C : Cx} {st st' : St} {d : Nat} {f f' : AV} {args args' : List AV} {K : St → Prop} (h1 : st = st') (h2 : f = f') (h3 : args = args') : acallV C st d f args K = acallV C st' d f' args' K := by
 rw [h1, h2, h3]
@[congr] theorem acallN_congr {C : Cx} {st st' : St} {f f' : AV} {args args' : List AV} {K : St → Prop} (h1 : st = st') (h2 : f = f') (h3 : args = args') : acallN C st f args K = acallN C st' f' args' K := by
 rw [h1, h2, h3]
@[congr] theorem aop_congr {C : Cx} {o : Oper} {st : St} {st' : St} {K : St → Prop} (hst : st = st') : aop C o st K = aop C o st' K := by
 subst_vars; rfl
@[congr] theorem aelse_congr {C : Cx} {o : Oper} {st : St} {d : Nat} {st' : St} {K : St → Prop} (hst : st = st') : aelse C o st d K = aelse C o st' d K := by
 subst_vars; rfl
@[congr] theorem acnv_congr {C : Cx} {o : Oper} {st : St} {d : Nat} {st' : St} {K : St → Prop} (hst : st = st') : acnv C o st d K = acnv C o st' d K := by
 subst_vars; rfl
@[congr] theorem aquiet_congr {C : Cx} {o : Oper} {st : St} {d : Nat} {st' : St} {K : St → Prop} (hst : st = st') : aquiet C o st d K = aquiet C o st' d K := by
 subst_vars; rfl
@[congr] theorem anil_congr {C : Cx} {st : St} {d : Nat} {eq : Bool} {t : Nat} {x : AV} {st' : St} {x' : AV} {K : St → Prop} (hst : st = st') (hx : x = x') : anil C st d eq t x K = anil C st' d eq t x' K := by
 subst_vars; rfl
@[congr] theorem aassign_congr {C : Cx} {st : St} {d : Nat} {X : AV} {st' : St} {X' : AV} {K : St → Prop} (hst : st = st') (hX : X = X') : aassign C st d X K = aassign C st' d X' K := by
 subst_vars; rfl
@[congr] theorem astore_congr {C : Cx} {st : St} {t : Nat} {rf : Bool} {x : AV} {y : AV} {st' : St} {rf' : Bool} {x' : AV} {y' : AV} {K : St → Prop} (hst : st = st') (hrf : rf = rf') (hx : x = x') (hy : y = y') : astore C st t rf x y K = astore C st' t rf' x' y' K := by
 subst_vars; rfl
@[congr] theorem astoreBox_congr {C : Cx} {st : St} {t : Nat} {rf : Bool} {id : Nat} {off : Nat} {X : AV} {st' : St} {rf' : Bool} {id' : Nat} {off' : Nat} {X' : AV} {K : St → Prop} (hst : st = st') (hrf : rf = rf') (hid : id = id') (hoff : off = off') (hX : X = X') : astoreBox C st t rf id off X K = astoreBox C st' t rf' id' off' X' K := by
 subst_vars; rfl
@[congr] theorem anewBox_congr {C : Cx} {st : St} {d : Nat} {X : AV} {st' : St} {X' : AV} {K : St → Prop} (hst : st = st') (hX : X = X') : anewBox C st d X K = anewBox C st' d X' K := by
 subst_vars; rfl
@[congr] theorem abuildSlice_congr {C : Cx} {st : St} {d : Nat} {t : Nat} {len : Nat} {parts : List (Nat × AV)} {st' : St} {parts' : List (Nat × AV)} {K : St → Prop} (hst : st = st') (hparts : parts = parts') : abuildSlice C st d t len parts K = abuildSlice C st' d t len parts' K := by
 subst_vars; rfl
@[congr] theorem abuild_congr {C : Cx} {st : St} {d : Nat} {t : Nat} {len : Nat} {parts : List (Nat × AV)} {st' : St} {parts' : List (Nat × AV)} {K : St → Prop} (hst : st = st') (hparts : parts = parts') : abuild C st d t len parts K = abuild C st' d t len parts' K := by
 subst_vars; rfl
@[congr] theorem abuildBox_congr {C : Cx} {st : St} {d : Nat} {t : Nat} {len : Nat} {parts : List (Nat × AV)} {st' : St} {parts' : List (Nat × AV)} {K : St → Prop} (hst : st = st') (hparts : parts = parts') : abuildBox C st d t len parts K = abuildBox C st' d t len parts' K := by
 subst_vars; rfl
@[congr] theorem amakeSlice_congr {C : Cx} {st : St} {d : Nat} {t : Nat} {l : AV} {c : AV} {st' : St} {l' : AV} {c' : AV} {K : St → Prop} (hst : st = st') (hl : l = l') (hc : c = c') : amakeSlice C st d t l c K = amakeSlice C st' d t l' c' K := by
 subst_vars; rfl
@[congr] theorem aappendL_congr {C : Cx} {st : St} {d : Nat} {asv : List AV} {ts : List Nat} {st' : St} {asw : List AV} {ts' : List Nat} {K : St → Prop} (hst : st = st') (has : asv = asw) (hts : ts = ts') : aappendL C st d asv ts K = aappendL C st' d asw ts' K := by
 subst_vars; rfl
@[congr] theorem aappendX_congr {C : Cx} {st st' : St} {d t t2 id off n cap : Nat} {id' off' n' cap' : Nat} {x x' : AV} {K : St → Prop} (hst : st = st') (h1 : id = id') (h2 : off = off') (h3 : n = n') (h4 : cap = cap') (hx : x = x') : aappendX C st d t t2 id off n cap x K = aappendX C st' d t t2 id' off' n' cap' x' K := by
 subst_vars; rfl
@[congr] theorem aappendG_congr {C : Cx} {st st' : St} {d t t2 id off n cap : Nat} {id' off' n' cap' : Nat} {x x' : AV} {K : St → Prop} (hst : st = st') (h1 : id = id') (h2 : off = off') (h3 : n = n') (h4 : cap = cap') (hx : x = x') : aappendG C st d t t2 id off n cap x K = aappendG C st' d t t2 id' off' n' cap' x' K := by
 subst_vars; rfl
@[congr] theorem aappendZ_congr {C : Cx} {st st' : St} {d t t2 id off n cap : Nat} {id' off' n' cap' : Nat} {x x' : AV} {K : St → Prop} (hst : st = st') (h1 : id = id') (h2 : off = off') (h3 : n = n') (h4 : cap = cap') (hx : x = x') : aappendZ C st d t t2 id off n cap x K = aappendZ C st' d t t2 id' off' n' cap' x' K := by
 subst_vars; rfl
theorem append_room {C : Cx} {st : St} {d t t2 id off n cap : Nat} {x : AV} {K : St → Prop} (h : aappendB C st d t t2 id off n cap x K) : aappendX C st d t t2 id off n cap x K := .inl h
theorem append_grow {C : Cx} {st : St} {d t t2 id off n cap : Nat} {x : AV} {K : St → Prop} (h : aappendG C st d t t2 id off n cap x K) : aappendX C st d t t2 id off n cap x K := .inr (.inl h)
theorem append_zeros {C : Cx} {st : St} {d t t2 id off n cap : Nat} {x : AV} {K : St → Prop} (h : aappendZ C st d t t2 id off n cap x K) : aappendX C st d t t2 id off n cap x K := .inr (.inr h)
@[congr] theorem aappendB_congr {C : Cx} {st st' : St} {d t t2 id off n cap : Nat} {id' off' n' cap' : Nat} {x x' : AV} {K : St → Prop} (hst : st = st') (h1 : id = id') (h2 : off = off') (h3 : n = n') (h4 : cap = cap') (hx : x = x') : aappendB C st d t t2 id off n cap x K = aappendB C st' d t t2 id' off' n' cap' x' K := by
 subst_vars; rfl
@[congr] theorem acopyL_congr {C : Cx} {st : St} {d : Nat} {asv : List AV} {ts : List Nat} {st' : St} {asw : List AV} {ts' : List Nat} {K : St → Prop} (hst : st = st') (has : asv = asw) (hts : ts = ts') : acopyL C st d asv ts K = acopyL C st' d asw ts' K := by
 subst_vars; rfl
@[congr] theorem acopyB_congr {C : Cx} {st st' : St} {d t id off n : Nat} {id' off' n' : Nat} {x x' : AV} {K : St → Prop} (hst : st = st') (h1 : id = id') (h2 : off = off') (h3 : n = n') (hx : x = x') : acopyB C st d t id off n x K = acopyB C st' d t id' off' n' x' K := by
 subst_vars; rfl
@[congr] theorem aclearL_congr {C : Cx} {st : St} {asv : List AV} {ts : List Nat} {st' : St} {asw : List AV} {ts' : List Nat} {K : St → Prop} (hst : st = st') (has : asv = asw) (hts : ts = ts') : aclearL C st asv ts K = aclearL C st' asw ts' K := by
 subst_vars; rfl
@[congr] theorem aclearB_congr {C : Cx} {st st' : St} {t id off n : Nat} {id' off' n' : Nat} {K : St → Prop} (hst : st = st') (h1 : id = id') (h2 : off = off') (h3 : n = n') : aclearB C st t id off n K = aclearB C st' t id' off' n' K := by
 subst_vars; rfl
@[congr] theorem bput_congr {st st' : St} {id o : Nat} {id' o' : Nat} {ds ds' : List AV} {K : St → Prop} (hst : st = st') (h1 : id = id') (h2 : o = o') (h3 : ds = ds') : bput st id o ds K = bput st' id' o' ds' K := by
 subst_vars; rfl
@[congr] theorem aappend_congr {C : Cx} {st : St} {d : Nat} {t : Nat} {t2 : Nat} {s : AV} {x : AV} {st' : St} {s' : AV} {x' : AV} {K : St → Prop} (hst : st = st') (hs : s = s') (hx : x = x') : aappend C st d t t2 s x K = aappend C st' d t t2 s' x' K := by
 subst_vars; rfl
def aopsK (C : Cx) (ops : Array Oper) (l : List Oper) (K : St → Prop) (st : St) : Prop := aops C ops l st K
@[simp] theorem aopsK_of {C : Cx} {ops : Array Oper} {l : List Oper} {K : St → Prop} {m : List (Nat × AV)} {bx : Boxes} : aopsK C ops l K (St.of m bx) = aops C ops l (St.of m bx) K := rfl
@[simp] theorem aops_nil {C : Cx} {ops : Array Oper} {st : St} {K : St → Prop} : aops C ops [] st K = K st := rfl
@[simp] theorem aops_plain {C : Cx} {ops : Array Oper} {dst op type pos after} {rest : List Oper} {st : St} {K : St → Prop} : aops C ops (⟨dst, op, type, pos, after, none⟩ :: rest) st K = aop C ⟨dst, op, type, pos, after, none⟩ st (aopsK C ops rest K) := rfl
@[simp] theorem aops_guard {C : Cx} {ops : Array Oper} {dst op type pos after j b} {rest : List Oper} {st : St} {K : St → Prop} : aops C ops (⟨dst, op, type, pos, after, some (j, b)⟩ :: rest) st K =
  match (ops[j]?).bind (·.dst), dst with
   | some t, some d => match (st.slots t).gv with
    | some (some c) => if c = b then aop C ⟨dst, op, type, pos, after, some (j, b)⟩ st (aopsK C ops rest K) else d < C.N ∧ (st.slots d).free = true ∧ aopsK C ops rest K (st.put d (.tup []))
    | some none => d < C.N ∧ (st.slots d).free = true ∧ aopsK C ops rest K (st.put d (.tup []))
    | none => False
   | _, _ => False := rfl
@[congr] theorem aops_congr {C : Cx} {ops : Array Oper} {l l' : List Oper} {st st' : St} {K : St → Prop} (h1 : l = l') (h2 : st = st') : aops C ops l st K = aops C ops l' st' K := by
 subst_vars; rfl
@[congr] theorem aappendTo_congr {st st' : St} {d : Nat} {y : TI} {ys ys' : List (List AV)} {s s' : AV} {K : St → Prop} (h1 : st = st') (h2 : ys = ys') (h3 : s = s') : aappendTo st d y ys s K = aappendTo st' d y ys' s' K := by
 subst_vars; rfl
section
variable {C : Cx} {st : St} {d f : Nat} {fi args ca asv : List AV} {K : St → Prop} {r : AV}
theorem call_pure (h : Pure C.P f asv r) (ha : (fi ++ args ++ ca).map AV.argz = asv) (hK : d < C.N ∧ (st.slots d).free = true ∧
  (match r.scalar with
   | true => K (st.put d r)
   | false =>
    let l := AV.vwsN (fi ++ args ++ ca)
    let F := settleF l.isEmpty l (fun _ => false)
    AV.resOkN noQ F (fi ++ args ++ ca) = true ∧ ((st.fz F).slots d).free = true ∧ r.ptrs (fun _ => false) = true ∧ K ((st.fz F).put d r))) : acallV C st d (.fn f fi ca) args K := by
 subst ha
 exact .inl ⟨r, h, hK⟩
theorem pairsOk_none {k base : Nat} {m : List (Nat × Nat)} {nw : Option (Nat × Nat)} (h : pairsOk k base m nw = true) : pairsOk k base m none = true := by
 simp only [pairsOk, Bool.and_eq_true] at h ⊢
 exact ⟨h.1, trivial⟩
theorem call_procE {ι : Type} {k : Nat} {bx : Boxes} {rE : ι → AV} {bx' : ι → Boxes} (m : List (Nat × Nat)) (nw : ι → Option (Nat × Nat)) (h : ProcE C.P k f asv bx rE bx') (ha : ((fi ++ args ++ ca).map fun x => x.argz.ren fun id => (swapL m).lookup id) = asv) (hp : pairsOk k C.base m none = true)
  (hK : let l := AV.vwsN (fi ++ args ++ ca)
   let F := settleF l.isEmpty l (fun _ => false)
   let st1 := st.fz F
   AV.resOkN noQ F (fi ++ args ++ ca) = true ∧ givenOk m st1 bx ∧ ∀ i, pairsOk k C.base m (nw i) = true ∧
   (let st2 := killO (nw i) ((st1.take (givenQ (givenL m (nw i)))).dropB (givenL m (nw i)))
   (rE i).tidy = true ∧ ((bx' i).all fun e => e.2.all AV.still) = true ∧
    (d < C.N ∧ (st2.slots d).free = true ∧ K ((st2.addB (takenL (upL m (nw i)) (bx' i) (upL m (nw i)))).put d ((rE i).ren fun j => (upL m (nw i)).lookup j))))) : acallV C st d (.fn f fi ca) args K := by
 subst ha
 exact .inr (.inl ⟨ι, k, m, nw, bx, rE, bx', .inl h, hp, hK.1, hK.2.1, hK.2.2⟩)
theorem call_p (h : Pure C.P f asv r) (hK : d < C.N ∧ (st.slots d).free = true ∧
  (match r.scalar with
   | true => K (st.put d r)
   | false =>
    let l := AV.vwsN (fi ++ args ++ ca)
    let F := settleF l.isEmpty l (fun _ => false)
    AV.resOkN noQ F (fi ++ args ++ ca) = true ∧ ((st.fz F).slots d).free = true ∧ r.ptrs (fun _ => false) = true ∧ K ((st.fz F).put d r))) (ha : (fi ++ args ++ ca).map AV.argz = asv := by simp) : acallV C st d (.fn f fi ca) args K := call_pure h ha hK
theorem call_proc {k : Nat} {bx bx' : Boxes} (m : List (Nat × Nat)) (nw : Option (Nat × Nat)) (h : Proc C.P k f asv bx r bx') (ha : ((fi ++ args ++ ca).map fun x => x.argz.ren fun id => (swapL m).lookup id) = asv) (hp : pairsOk k C.base m nw = true)
  (hK : let l := AV.vwsN (fi ++ args ++ ca)
   let F := settleF l.isEmpty l (fun _ => false)
   let st1 := st.fz F
   let st2 := killO nw ((st1.take (givenQ (givenL m nw))).dropB (givenL m nw))
   AV.resOkN noQ F (fi ++ args ++ ca) = true ∧ givenOk m st1 bx ∧ r.tidy = true ∧ (bx'.all fun e => e.2.all AV.still) = true ∧
     (d < C.N ∧ (st2.slots d).free = true ∧ K ((st2.addB (takenL (upL m nw) bx' (upL m nw))).put d (r.ren fun i => (upL m nw).lookup i)))) : acallV C st d (.fn f fi ca) args K := by
 subst ha
 exact .inr (.inl ⟨Unit, k, m, fun _ => nw, bx, fun _ => r, fun _ => bx', .inl h.toE, pairsOk_none hp, hK.1, hK.2.1, fun _ => ⟨hp, hK.2.2⟩⟩)
theorem call_procK {k : Nat} {bx bx' : Boxes} (m : List (Nat × Nat)) (nw : Option (Nat × Nat)) (h : Proc C.P k f asv bx r bx') (ha : ((fi ++ args ++ ca).map fun x => x.argk.ren fun id => (swapL m).lookup id) = asv) (hp : pairsOk k C.base m nw = true)
  (hK : let l := AV.vwsN (fi ++ args ++ ca)
   let F := settleF l.isEmpty l (fun _ => false)
   let st1 := st.fz F
   let st2 := killO nw ((st1.take (givenQ (givenL m nw))).dropB (givenL m nw))
   AV.resOkN noQ F (fi ++ args ++ ca) = true ∧ givenOk m st1 bx ∧ r.tidy = true ∧ (bx'.all fun e => e.2.all AV.still) = true ∧
     (d < C.N ∧ (st2.slots d).free = true ∧ K ((st2.addB (takenL (upL m nw) bx' (upL m nw))).put d (r.ren fun i => (upL m nw).lookup i)))) : acallV C st d (.fn f fi ca) args K := by
 subst ha
 exact .inr (.inl ⟨Unit, k, m, fun _ => nw, bx, fun _ => r, fun _ => bx', .inr h.toE, pairsOk_none hp, hK.1, hK.2.1, fun _ => ⟨hp, hK.2.2⟩⟩)
theorem call_hand {q : Place} {sz : Nat} {xs rest xs' : _} (h : HProc C.P f sz xs rest xs') (ha : ∃ rest0, fi ++ args ++ ca = .sl (.vw q true) sz xs :: rest0 ∧ rest0.map AV.argz = rest ∧ AV.resOkN noQ noF rest0 = true) (hne : xs ≠ []) (hd : d < C.N) (hK : K ((st.take (appendQ d q)).put d (.sl .own sz xs'))) : acallV C st d (.fn f fi ca) args K := by
 obtain ⟨rest0, h1, h2, h3⟩ := ha
 subst h2
 refine .inr (.inr (.inl ?_))
 rw [h1]
 exact ⟨xs', h, hne, h3, hd, hK⟩
theorem call_lend {t sz : Nat} {xs rest xs' : _} (h : LProc C.P f sz xs rest xs') (ha : ∃ rest0, fi ++ args ++ ca = .sl (.vw (.slot t []) true) sz xs :: rest0 ∧ rest0.map AV.argz = rest ∧ AV.resOkN noQ noF rest0 = true) (hne : xs ≠ []) (hd : d < C.N ∧ d ≠ t)
  (hf : ((st.take (selfTake (.slot t []))).slots d).free = true) (hK : K (((st.take (selfTake (.slot t []))).put t (.sl .own sz xs')).put d (.tup []))) : acallV C st d (.fn f fi ca) args K := by
 obtain ⟨rest0, h1, h2, h3⟩ := ha
 subst h2
 refine .inr (.inr (.inr (.inr (.inl ?_))))
 rw [h1]
 exact ⟨xs', h, hne, h3, hd.1, hd.2, hf, hK⟩
theorem call_apart {i1 o1 n1 c1 i2 o2 n2 c2 : Nat} (h : Apart C.P f) (ha : fi ++ args ++ ca = [.bs i1 o1 n1 c1, .bs i2 o2 n2 c2]) (hb : i1 ≠ i2 ∧ (st.boxes i1).isSome = true ∧ ((st.boxes i2).getD []).length ≠ 0) (hK : d < C.N ∧ (st.slots d).free = true ∧ K (st.put d (.b false))) : acallV C st d (.fn f fi ca) args K := by
 refine .inr (.inr (.inr (.inr (.inr ?_))))
 rw [ha]
 exact ⟨h, hb.1, hb.2.1, hb.2.2, hK⟩
end
end Go.AM
namespace Go.AM
open Go.Proofs
@[simp] theorem tryz_ti0 : Cx.T' Tryz.prog 0 = some ⟨.other, 1, 0, [.any]⟩ := by kernel_rfl
@[simp] theorem tryz_ti1 : Cx.T' Tryz.prog 1 = some ⟨.fn, 1, 8, [.nofn]⟩ := by kernel_rfl
@[simp] theorem tryz_ti2 : Cx.T' Tryz.prog 2 = some ⟨.int .i64, 1, 8, [.i .i64 0]⟩ := by kernel_rfl
@[simp] theorem tryz_ti3 : Cx.T' Tryz.prog 3 = some ⟨.int .i64, 1, 8, [.i .i64 0]⟩ := by kernel_rfl
@[simp] theorem tryz_ti4 : Cx.T' Tryz.prog 4 = some ⟨.bool, 1, 1, [.b false]⟩ := by kernel_rfl
@[simp] theorem tryz_ti5 : Cx.T' Tryz.prog 5 = some ⟨.int .u8, 1, 1, [.i .u8 0]⟩ := by kernel_rfl
@[simp] theorem tryz_ti6 : Cx.T' Tryz.prog 6 = some ⟨.int .u8, 1, 1, [.i .u8 0]⟩ := by kernel_rfl
@[simp] theorem tryz_ti7 : Cx.T' Tryz.prog 7 = some ⟨.strct [(0, 2), (1, 3), (2, 4), (3, 6)], 4, 24, [.i .i64 0, .i .i64 0, .b false, .i .u8 0]⟩ := by kernel_rfl
@[simp] theorem tryz_ti8 : Cx.T' Tryz.prog 8 = some ⟨.strct [(0, 2), (1, 3), (2, 4), (3, 6)], 4, 24, [.i .i64 0, .i .i64 0, .b false, .i .u8 0]⟩ := by kernel_rfl
@[simp] theorem tryz_ti9 : Cx.T' Tryz.prog 9 = some ⟨.str, 1, 16, [.s ByteArray.empty]⟩ := by kernel_rfl
@[simp] theorem tryz_ti10 : Cx.T' Tryz.prog 10 = some ⟨.str, 1, 16, [.s ByteArray.empty]⟩ := by kernel_rfl
@[simp] theorem tryz_ti11 : Cx.T' Tryz.prog 11 = some ⟨.str, 1, 16, [.s ByteArray.empty]⟩ := by kernel_rfl
@[simp] theorem tryz_ti12 : Cx.T' Tryz.prog 12 = some ⟨.int .u64, 1, 8, [.i .u64 0]⟩ := by kernel_rfl
@[simp] theorem tryz_ti13 : Cx.T' Tryz.prog 13 = some ⟨.strct [(0, 9), (1, 12)], 2, 24, [.s ByteArray.empty, .i .u64 0]⟩ := by kernel_rfl
@[simp] theorem tryz_ti14 : Cx.T' Tryz.prog 14 = some ⟨.strct [(0, 9), (1, 12)], 2, 24, [.s ByteArray.empty, .i .u64 0]⟩ := by kernel_rfl
@[simp] theorem tryz_ti15 : Cx.T' Tryz.prog 15 = some ⟨.ptr 263, 1, 8, [.nil]⟩ := by kernel_rfl
@[simp] theorem tryz_ti16 : Cx.T' Tryz.prog 16 = some ⟨.ptr 266, 1, 8, [.nil]⟩ := by kernel_rfl
@[simp] theorem tryz_ti17 : Cx.T' Tryz.prog 17 = some ⟨.ptr 275, 1, 8, [.nil]⟩ := by kernel_rfl
@[simp] theorem tryz_ti18 : Cx.T' Tryz.prog 18 = some ⟨.strct [(0, 17)], 1, 8, [.nil]⟩ := by kernel_rfl
@[simp] theorem tryz_ti19 : Cx.T' Tryz.prog 19 = some ⟨.strct [(0, 17)], 1, 8, [.nil]⟩ := by kernel_rfl
@[simp] theorem tryz_ti20 : Cx.T' Tryz.prog 20 = some ⟨.other, 1, 16, [.any]⟩ := by kernel_rfl
@[simp] theorem tryz_ti21 : Cx.T' Tryz.prog 21 = some ⟨.int .i32, 1, 4, [.i .i32 0]⟩ := by kernel_rfl
@[simp] theorem tryz_ti22 : Cx.T' Tryz.prog 22 = some ⟨.slice 4, 1, 24, [.sl .nl 1 []]⟩ := by kernel_rfl
@[simp] theorem tryz_ti23 : Cx.T' Tryz.prog 23 = some ⟨.slice 84, 1, 24, [.sl .nl 2 []]⟩ := by kernel_rfl
@[simp] theorem tryz_ti24 : Cx.T' Tryz.prog 24 = some ⟨.strct [(0, 22), (1, 23), (2, 3)], 3, 56, [.sl .nl 1 [], .sl .nl 2 [], .i .i64 0]⟩ := by kernel_rfl
@[simp] theorem tryz_ti25 : Cx.T' Tryz.prog 25 = some ⟨.strct [(0, 22), (1, 23), (2, 3)], 3, 56, [.sl .nl 1 [], .sl .nl 2 [], .i .i64 0]⟩ := by kernel_rfl
@[simp] theorem tryz_ti26 : Cx.T' Tryz.prog 26 = some ⟨.slice 74, 1, 24, [.sl .nl 1 []]⟩ := by kernel_rfl
@[simp] theorem tryz_ti27 : Cx.T' Tryz.prog 27 = some ⟨.slice 76, 1, 24, [.sl .nl 1 []]⟩ := by kernel_rfl
@[simp] theorem tryz_ti28 : Cx.T' Tryz.prog 28 = some ⟨.slice 78, 1, 24, [.sl .nl 1 []]⟩ := by kernel_rfl
@[simp] theorem tryz_ti29 : Cx.T' Tryz.prog 29 = some ⟨.slice 80, 1, 24, [.sl .nl 1 []]⟩ := by kernel_rfl
@[simp] theorem tryz_ti30 : Cx.T' Tryz.prog 30 = some ⟨.strct [(0, 26), (1, 27), (2, 28), (3, 29)], 4, 96, [.sl .nl 1 [], .sl .nl 1 [], .sl .nl 1 [], .sl .nl 1 []]⟩ := by kernel_rfl
@[simp] theorem tryz_ti31 : Cx.T' Tryz.prog 31 = some ⟨.strct [(0, 26), (1, 27), (2, 28), (3, 29)], 4, 96, [.sl .nl 1 [], .sl .nl 1 [], .sl .nl 1 [], .sl .nl 1 []]⟩ := by kernel_rfl
@[simp] theorem tryz_ti32 : Cx.T' Tryz.prog 32 = some ⟨.strct [(0, 3), (1, 3)], 2, 16, [.i .i64 0, .i .i64 0]⟩ := by kernel_rfl
@[simp] theorem tryz_ti33 : Cx.T' Tryz.prog 33 = some ⟨.strct [(0, 3), (1, 3)], 2, 16, [.i .i64 0, .i .i64 0]⟩ := by kernel_rfl
@[simp] theorem tryz_ti34 : Cx.T' Tryz.prog 34 = some ⟨.slice 3, 1, 24, [.sl .nl 1 []]⟩ := by kernel_rfl
@[simp] theorem tryz_ti35 : Cx.T' Tryz.prog 35 = some ⟨.slice 3, 1, 24, [.sl .nl 1 []]⟩ := by kernel_rfl
@[simp] theorem tryz_ti36 : Cx.T' Tryz.prog 36 = some ⟨.slice 82, 1, 24, [.sl .nl 6 []]⟩ := by kernel_rfl
@[simp] theorem tryz_ti37 : Cx.T' Tryz.prog 37 = some ⟨.strct [(0, 33), (2, 35), (3, 36)], 4, 64, [.i .i64 0, .i .i64 0, .sl .nl 1 [], .sl .nl 6 []]⟩ := by kernel_rfl
@[simp] theorem tryz_ti38 : Cx.T' Tryz.prog 38 = some ⟨.strct [(0, 33), (2, 35), (3, 36)], 4, 64, [.i .i64 0, .i .i64 0, .sl .nl 1 [], .sl .nl 6 []]⟩ := by kernel_rfl
@[simp] theorem tryz_ti39 : Cx.T' Tryz.prog 39 = some ⟨.fn, 1, 8, [.nofn]⟩ := by kernel_rfl
@[simp] theorem tryz_ti40 : Cx.T' Tryz.prog 40 = some ⟨.fn, 1, 8, [.nofn]⟩ := by kernel_rfl
@[simp] theorem tryz_ti41 : Cx.T' Tryz.prog 41 = some ⟨.slice 38, 1, 24, [.sl .nl 4 []]⟩ := by kernel_rfl
@[simp] theorem tryz_ti42 : Cx.T' Tryz.prog 42 = some ⟨.fn, 1, 8, [.nofn]⟩ := by kernel_rfl
@[simp] theorem tryz_ti43 : Cx.T' Tryz.prog 43 = some ⟨.fn, 1, 8, [.nofn]⟩ := by kernel_rfl
@[simp] theorem tryz_ti44 : Cx.T' Tryz.prog 44 = some ⟨.fn, 1, 8, [.nofn]⟩ := by kernel_rfl
@[simp] theorem tryz_ti45 : Cx.T' Tryz.prog 45 = some ⟨.fn, 1, 8, [.nofn]⟩ := by kernel_rfl
@[simp] theorem tryz_ti46 : Cx.T' Tryz.prog 46 = some ⟨.int .i64, 1, 8, [.i .i64 0]⟩ := by kernel_rfl
@[simp] theorem tryz_ti47 : Cx.T' Tryz.prog 47 = some ⟨.other, 1, 0, [.any]⟩ := by kernel_rfl
@[simp] theorem tryz_ti48 : Cx.T' Tryz.prog 48 = some ⟨.fn, 1, 8, [.nofn]⟩ := by kernel_rfl
@[simp] theorem tryz_ti49 : Cx.T' Tryz.prog 49 = some ⟨.fn, 1, 8, [.nofn]⟩ := by kernel_rfl
@[simp] theorem tryz_ti50 : Cx.T' Tryz.prog 50 = some ⟨.fn, 1, 8, [.nofn]⟩ := by kernel_rfl
@[simp] theorem tryz_ti51 : Cx.T' Tryz.prog 51 = some ⟨.fn, 1, 8, [.nofn]⟩ := by kernel_rfl
@[simp] theorem tryz_ti52 : Cx.T' Tryz.prog 52 = some ⟨.other, 1, 0, [.any]⟩ := by kernel_rfl
@[simp] theorem tryz_ti53 : Cx.T' Tryz.prog 53 = some ⟨.fn, 1, 8, [.nofn]⟩ := by kernel_rfl
@[simp] theorem tryz_ti54 : Cx.T' Tryz.prog 54 = some ⟨.fn, 1, 8, [.nofn]⟩ := by kernel_rfl
@[simp] theorem tryz_ti55 : Cx.T' Tryz.prog 55 = some ⟨.fn, 1, 8, [.nofn]⟩ := by kernel_rfl
@[simp] theorem tryz_ti56 : Cx.T' Tryz.prog 56 = some ⟨.slice 5, 1, 24, [.sl .nl 1 []]⟩ := by kernel_rfl
@[simp] theorem tryz_ti57 : Cx.T' Tryz.prog 57 = some ⟨.fn, 1, 8, [.nofn]⟩ := by kernel_rfl
@[simp] theorem tryz_ti58 : Cx.T' Tryz.prog 58 = some ⟨.fn, 1, 8, [.nofn]⟩ := by kernel_rfl
@[simp] theorem tryz_ti59 : Cx.T' Tryz.prog 59 = some ⟨.fn, 1, 8, [.nofn]⟩ := by kernel_rfl
@[simp] theorem tryz_ti60 : Cx.T' Tryz.prog 60 = some ⟨.other, 1, 0, [.any]⟩ := by kernel_rfl
@[simp] theorem tryz_ti61 : Cx.T' Tryz.prog 61 = some ⟨.fn, 1, 8, [.nofn]⟩ := by kernel_rfl
@[simp] theorem tryz_ti62 : Cx.T' Tryz.prog 62 = some ⟨.fn, 1, 8, [.nofn]⟩ := by kernel_rfl
@[simp] theorem tryz_ti63 : Cx.T' Tryz.prog 63 = some ⟨.fn, 1, 8, [.nofn]⟩ := by kernel_rfl
@[simp] theorem tryz_ti64 : Cx.T' Tryz.prog 64 = some ⟨.fn, 1, 8, [.nofn]⟩ := by kernel_rfl
@[simp] theorem tryz_ti65 : Cx.T' Tryz.prog 65 = some ⟨.fn, 1, 8, [.nofn]⟩ := by kernel_rfl
@[simp] theorem tryz_ti66 : Cx.T' Tryz.prog 66 = some ⟨.fn, 1, 8, [.nofn]⟩ := by kernel_rfl
@[simp] theorem tryz_ti67 : Cx.T' Tryz.prog 67 = some ⟨.fn, 1, 8, [.nofn]⟩ := by kernel_rfl
@[simp] theorem tryz_ti68 : Cx.T' Tryz.prog 68 = some ⟨.fn, 1, 8, [.nofn]⟩ := by kernel_rfl
@[simp] theorem tryz_ti69 : Cx.T' Tryz.prog 69 = some ⟨.fn, 1, 8, [.nofn]⟩ := by kernel_rfl
@[simp] theorem tryz_ti70 : Cx.T' Tryz.prog 70 = some ⟨.fn, 1, 8, [.nofn]⟩ := by kernel_rfl
@[simp] theorem tryz_ti71 : Cx.T' Tryz.prog 71 = some ⟨.fn, 1, 8, [.nofn]⟩ := by kernel_rfl
@[simp] theorem tryz_ti72 : Cx.T' Tryz.prog 72 = some ⟨.fn, 1, 8, [.nofn]⟩ := by kernel_rfl
@[simp] theorem tryz_ti73 : Cx.T' Tryz.prog 73 = some ⟨.fn, 1, 8, [.nofn]⟩ := by kernel_rfl
@[simp] theorem tryz_ti74 : Cx.T' Tryz.prog 74 = some ⟨.slice 130, 1, 24, [.sl .nl 3 []]⟩ := by kernel_rfl
@[simp] theorem tryz_ti75 : Cx.T' Tryz.prog 75 = some ⟨.fn, 1, 8, [.nofn]⟩ := by kernel_rfl
@[simp] theorem tryz_ti76 : Cx.T' Tryz.prog 76 = some ⟨.slice 135, 1, 24, [.sl .nl 2 []]⟩ := by kernel_rfl
@[simp] theorem tryz_ti77 : Cx.T' Tryz.prog 77 = some ⟨.fn, 1, 8, [.nofn]⟩ := by kernel_rfl
@[simp] theorem tryz_ti78 : Cx.T' Tryz.prog 78 = some ⟨.slice 138, 1, 24, [.sl .nl 6 []]⟩ := by kernel_rfl
@[simp] theorem tryz_ti79 : Cx.T' Tryz.prog 79 = some ⟨.fn, 1, 8, [.nofn]⟩ := by kernel_rfl
@[simp] theorem tryz_ti80 : Cx.T' Tryz.prog 80 = some ⟨.slice 112, 1, 24, [.sl .nl 4 []]⟩ := by kernel_rfl
@[simp] theorem tryz_ti81 : Cx.T' Tryz.prog 81 = some ⟨.strct [(0, 3), (1, 3), (2, 9), (3, 3), (4, 3), (5, 9)], 6, 64, [.i .i64 0, .i .i64 0, .s ByteArray.empty, .i .i64 0, .i .i64 0, .s ByteArray.empty]⟩ := by kernel_rfl
@[simp] theorem tryz_ti82 : Cx.T' Tryz.prog 82 = some ⟨.strct [(0, 3), (1, 3), (2, 9), (3, 3), (4, 3), (5, 9)], 6, 64, [.i .i64 0, .i .i64 0, .s ByteArray.empty, .i .i64 0, .i .i64 0, .s ByteArray.empty]⟩ := by kernel_rfl
@[simp] theorem tryz_ti83 : Cx.T' Tryz.prog 83 = some ⟨.strct [(0, 4), (1, 3)], 2, 16, [.b false, .i .i64 0]⟩ := by kernel_rfl
@[simp] theorem tryz_ti84 : Cx.T' Tryz.prog 84 = some ⟨.strct [(0, 4), (1, 3)], 2, 16, [.b false, .i .i64 0]⟩ := by kernel_rfl
@[simp] theorem tryz_ti85 : Cx.T' Tryz.prog 85 = some ⟨.fn, 1, 8, [.nofn]⟩ := by kernel_rfl
@[simp] theorem tryz_ti86 : Cx.T' Tryz.prog 86 = some ⟨.fn, 1, 8, [.nofn]⟩ := by kernel_rfl
@[simp] theorem tryz_ti87 : Cx.T' Tryz.prog 87 = some ⟨.fn, 1, 8, [.nofn]⟩ := by kernel_rfl
@[simp] theorem tryz_ti88 : Cx.T' Tryz.prog 88 = some ⟨.fn, 1, 8, [.nofn]⟩ := by kernel_rfl
@[simp] theorem tryz_ti89 : Cx.T' Tryz.prog 89 = some ⟨.fn, 1, 8, [.nofn]⟩ := by kernel_rfl
@[simp] theorem tryz_ti90 : Cx.T' Tryz.prog 90 = some ⟨.fn, 1, 8, [.nofn]⟩ := by kernel_rfl
@[simp] theorem tryz_ti91 : Cx.T' Tryz.prog 91 = some ⟨.ptr 94, 1, 8, [.nil]⟩ := by kernel_rfl
@[simp] theorem tryz_ti92 : Cx.T' Tryz.prog 92 = some ⟨.fn, 1, 8, [.nofn]⟩ := by kernel_rfl
@[simp] theorem tryz_ti93 : Cx.T' Tryz.prog 93 = some ⟨.strct [(0, 25), (3, 31), (7, 38)], 11, 216, [.sl .nl 1 [], .sl .nl 2 [], .i .i64 0, .sl .nl 1 [], .sl .nl 1 [], .sl .nl 1 [], .sl .nl 1 [], .i .i64 0, .i .i64 0, .sl .nl 1 [], .sl .nl 6 []]⟩ := by kernel_rfl
@[simp] theorem tryz_ti94 : Cx.T' Tryz.prog 94 = some ⟨.strct [(0, 25), (3, 31), (7, 38)], 11, 216, [.sl .nl 1 [], .sl .nl 2 [], .i .i64 0, .sl .nl 1 [], .sl .nl 1 [], .sl .nl 1 [], .sl .nl 1 [], .i .i64 0, .i .i64 0, .sl .nl 1 [], .sl .nl 6 []]⟩ := by kernel_rfl
@[simp] theorem tryz_ti95 : Cx.T' Tryz.prog 95 = some ⟨.fn, 1, 8, [.nofn]⟩ := by kernel_rfl
@[simp] theorem tryz_ti96 : Cx.T' Tryz.prog 96 = some ⟨.slice 95, 1, 24, [.sl .nl 1 []]⟩ := by kernel_rfl
@[simp] theorem tryz_ti97 : Cx.T' Tryz.prog 97 = some ⟨.fn, 1, 8, [.nofn]⟩ := by kernel_rfl
@[simp] theorem tryz_ti98 : Cx.T' Tryz.prog 98 = some ⟨.fn, 1, 8, [.nofn]⟩ := by kernel_rfl
@[simp] theorem tryz_ti99 : Cx.T' Tryz.prog 99 = some ⟨.fn, 1, 8, [.nofn]⟩ := by kernel_rfl
@[simp] theorem tryz_ti100 : Cx.T' Tryz.prog 100 = some ⟨.fn, 1, 8, [.nofn]⟩ := by kernel_rfl
@[simp] theorem tryz_ti101 : Cx.T' Tryz.prog 101 = some ⟨.fn, 1, 8, [.nofn]⟩ := by kernel_rfl
@[simp] theorem tryz_ti102 : Cx.T' Tryz.prog 102 = some ⟨.fn, 1, 8, [.nofn]⟩ := by kernel_rfl
@[simp] theorem tryz_ti103 : Cx.T' Tryz.prog 103 = some ⟨.fn, 1, 8, [.nofn]⟩ := by kernel_rfl
@[simp] theorem tryz_ti104 : Cx.T' Tryz.prog 104 = some ⟨.fn, 1, 8, [.nofn]⟩ := by kernel_rfl
@[simp] theorem tryz_ti105 : Cx.T' Tryz.prog 105 = some ⟨.fn, 1, 8, [.nofn]⟩ := by kernel_rfl
@[simp] theorem tryz_ti106 : Cx.T' Tryz.prog 106 = some ⟨.fn, 1, 8, [.nofn]⟩ := by kernel_rfl
@[simp] theorem tryz_ti107 : Cx.T' Tryz.prog 107 = some ⟨.fn, 1, 8, [.nofn]⟩ := by kernel_rfl
@[simp] theorem tryz_ti108 : Cx.T' Tryz.prog 108 = some ⟨.fn, 1, 8, [.nofn]⟩ := by kernel_rfl
@[simp] theorem tryz_ti109 : Cx.T' Tryz.prog 109 = some ⟨.fn, 1, 8, [.nofn]⟩ := by kernel_rfl
@[simp] theorem tryz_ti110 : Cx.T' Tryz.prog 110 = some ⟨.fn, 1, 8, [.nofn]⟩ := by kernel_rfl
@[simp] theorem tryz_ti111 : Cx.T' Tryz.prog 111 = some ⟨.strct [(0, 9), (1, 3), (2, 3), (3, 9)], 4, 48, [.s ByteArray.empty, .i .i64 0, .i .i64 0, .s ByteArray.empty]⟩ := by kernel_rfl
@[simp] theorem tryz_ti112 : Cx.T' Tryz.prog 112 = some ⟨.strct [(0, 9), (1, 3), (2, 3), (3, 9)], 4, 48, [.s ByteArray.empty, .i .i64 0, .i .i64 0, .s ByteArray.empty]⟩ := by kernel_rfl
@[simp] theorem tryz_ti113 : Cx.T' Tryz.prog 113 = some ⟨.fn, 1, 8, [.nofn]⟩ := by kernel_rfl
@[simp] theorem tryz_ti114 : Cx.T' Tryz.prog 114 = some ⟨.fn, 1, 8, [.nofn]⟩ := by kernel_rfl
@[simp] theorem tryz_ti115 : Cx.T' Tryz.prog 115 = some ⟨.fn, 1, 8, [.nofn]⟩ := by kernel_rfl
@[simp] theorem tryz_ti116 : Cx.T' Tryz.prog 116 = some ⟨.fn, 1, 8, [.nofn]⟩ := by kernel_rfl
@[simp] theorem tryz_ti117 : Cx.T' Tryz.prog 117 = some ⟨.fn, 1, 8, [.nofn]⟩ := by kernel_rfl
@[simp] theorem tryz_ti118 : Cx.T' Tryz.prog 118 = some ⟨.fn, 1, 8, [.nofn]⟩ := by kernel_rfl
@[simp] theorem tryz_ti119 : Cx.T' Tryz.prog 119 = some ⟨.fn, 1, 8, [.nofn]⟩ := by kernel_rfl
@[simp] theorem tryz_ti120 : Cx.T' Tryz.prog 120 = some ⟨.slice 56, 1, 24, [.sl .nl 1 []]⟩ := by kernel_rfl
@[simp] theorem tryz_ti121 : Cx.T' Tryz.prog 121 = some ⟨.fn, 1, 8, [.nofn]⟩ := by kernel_rfl
@[simp] theorem tryz_ti122 : Cx.T' Tryz.prog 122 = some ⟨.fn, 1, 8, [.nofn]⟩ := by kernel_rfl
@[simp] theorem tryz_ti123 : Cx.T' Tryz.prog 123 = some ⟨.fn, 1, 8, [.nofn]⟩ := by kernel_rfl
@[simp] theorem tryz_ti124 : Cx.T' Tryz.prog 124 = some ⟨.fn, 1, 8, [.nofn]⟩ := by kernel_rfl
@[simp] theorem tryz_ti125 : Cx.T' Tryz.prog 125 = some ⟨.fn, 1, 8, [.nofn]⟩ := by kernel_rfl
@[simp] theorem tryz_ti126 : Cx.T' Tryz.prog 126 = some ⟨.slice 33, 1, 24, [.sl .nl 2 []]⟩ := by kernel_rfl
@[simp] theorem tryz_ti127 : Cx.T' Tryz.prog 127 = some ⟨.fn, 1, 8, [.nofn]⟩ := by kernel_rfl
@[simp] theorem tryz_ti128 : Cx.T' Tryz.prog 128 = some ⟨.fn, 1, 8, [.nofn]⟩ := by kernel_rfl
@[simp] theorem tryz_ti129 : Cx.T' Tryz.prog 129 = some ⟨.strct [(0, 9), (1, 126), (2, 126)], 3, 64, [.s ByteArray.empty, .sl .nl 2 [], .sl .nl 2 []]⟩ := by kernel_rfl
@[simp] theorem tryz_ti130 : Cx.T' Tryz.prog 130 = some ⟨.strct [(0, 9), (1, 126), (2, 126)], 3, 64, [.s ByteArray.empty, .sl .nl 2 [], .sl .nl 2 []]⟩ := by kernel_rfl
@[simp] theorem tryz_ti131 : Cx.T' Tryz.prog 131 = some ⟨.fn, 1, 8, [.nofn]⟩ := by kernel_rfl
@[simp] theorem tryz_ti132 : Cx.T' Tryz.prog 132 = some ⟨.fn, 1, 8, [.nofn]⟩ := by kernel_rfl
@[simp] theorem tryz_ti133 : Cx.T' Tryz.prog 133 = some ⟨.fn, 1, 8, [.nofn]⟩ := by kernel_rfl
@[simp] theorem tryz_ti134 : Cx.T' Tryz.prog 134 = some ⟨.strct [(0, 9), (1, 3)], 2, 24, [.s ByteArray.empty, .i .i64 0]⟩ := by kernel_rfl
@[simp] theorem tryz_ti135 : Cx.T' Tryz.prog 135 = some ⟨.strct [(0, 9), (1, 3)], 2, 24, [.s ByteArray.empty, .i .i64 0]⟩ := by kernel_rfl
@[simp] theorem tryz_ti136 : Cx.T' Tryz.prog 136 = some ⟨.arr 5 3, 5, 40, [.i .i64 0, .i .i64 0, .i .i64 0, .i .i64 0, .i .i64 0]⟩ := by kernel_rfl
@[simp] theorem tryz_ti137 : Cx.T' Tryz.prog 137 = some ⟨.strct [(0, 9), (1, 136)], 6, 56, [.s ByteArray.empty, .i .i64 0, .i .i64 0, .i .i64 0, .i .i64 0, .i .i64 0]⟩ := by kernel_rfl
@[simp] theorem tryz_ti138 : Cx.T' Tryz.prog 138 = some ⟨.strct [(0, 9), (1, 136)], 6, 56, [.s ByteArray.empty, .i .i64 0, .i .i64 0, .i .i64 0, .i .i64 0, .i .i64 0]⟩ := by kernel_rfl
@[simp] theorem tryz_ti139 : Cx.T' Tryz.prog 139 = some ⟨.fn, 1, 8, [.nofn]⟩ := by kernel_rfl
@[simp] theorem tryz_ti140 : Cx.T' Tryz.prog 140 = some ⟨.other, 1, 0, [.any]⟩ := by kernel_rfl
@[simp] theorem tryz_ti141 : Cx.T' Tryz.prog 141 = some ⟨.fn, 1, 8, [.nofn]⟩ := by kernel_rfl
@[simp] theorem tryz_ti142 : Cx.T' Tryz.prog 142 = some ⟨.fn, 1, 8, [.nofn]⟩ := by kernel_rfl
@[simp] theorem tryz_ti143 : Cx.T' Tryz.prog 143 = some ⟨.fn, 1, 8, [.nofn]⟩ := by kernel_rfl
@[simp] theorem tryz_ti144 : Cx.T' Tryz.prog 144 = some ⟨.fn, 1, 8, [.nofn]⟩ := by kernel_rfl
@[simp] theorem tryz_ti145 : Cx.T' Tryz.prog 145 = some ⟨.fn, 1, 8, [.nofn]⟩ := by kernel_rfl
@[simp] theorem tryz_ti146 : Cx.T' Tryz.prog 146 = some ⟨.fn, 1, 8, [.nofn]⟩ := by kernel_rfl
@[simp] theorem tryz_ti147 : Cx.T' Tryz.prog 147 = some ⟨.fn, 1, 8, [.nofn]⟩ := by kernel_rfl
@[simp] theorem tryz_ti148 : Cx.T' Tryz.prog 148 = some ⟨.fn, 1, 8, [.nofn]⟩ := by kernel_rfl
@[simp] theorem tryz_ti149 : Cx.T' Tryz.prog 149 = some ⟨.fn, 1, 8, [.nofn]⟩ := by kernel_rfl
@[simp] theorem tryz_ti150 : Cx.T' Tryz.prog 150 = some ⟨.fn, 1, 8, [.nofn]⟩ := by kernel_rfl
@[simp] theorem tryz_ti151 : Cx.T' Tryz.prog 151 = some ⟨.fn, 1, 8, [.nofn]⟩ := by kernel_rfl
@[simp] theorem tryz_ti152 : Cx.T' Tryz.prog 152 = some ⟨.fn, 1, 8, [.nofn]⟩ := by kernel_rfl
@[simp] theorem tryz_ti153 : Cx.T' Tryz.prog 153 = some ⟨.fn, 1, 8, [.nofn]⟩ := by kernel_rfl
@[simp] theorem tryz_ti154 : Cx.T' Tryz.prog 154 = some ⟨.fn, 1, 8, [.nofn]⟩ := by kernel_rfl
@[simp] theorem tryz_ti155 : Cx.T' Tryz.prog 155 = some ⟨.fn, 1, 8, [.nofn]⟩ := by kernel_rfl
@[simp] theorem tryz_ti156 : Cx.T' Tryz.prog 156 = some ⟨.fn, 1, 8, [.nofn]⟩ := by kernel_rfl
@[simp] theorem tryz_ti157 : Cx.T' Tryz.prog 157 = some ⟨.fn, 1, 8, [.nofn]⟩ := by kernel_rfl
@[simp] theorem tryz_ti158 : Cx.T' Tryz.prog 158 = some ⟨.fn, 1, 8, [.nofn]⟩ := by kernel_rfl
@[simp] theorem tryz_ti159 : Cx.T' Tryz.prog 159 = some ⟨.fn, 1, 8, [.nofn]⟩ := by kernel_rfl
@[simp] theorem tryz_ti160 : Cx.T' Tryz.prog 160 = some ⟨.fn, 1, 8, [.nofn]⟩ := by kernel_rfl
@[simp] theorem tryz_ti161 : Cx.T' Tryz.prog 161 = some ⟨.fn, 1, 8, [.nofn]⟩ := by kernel_rfl
@[simp] theorem tryz_ti162 : Cx.T' Tryz.prog 162 = some ⟨.other, 1, 0, [.any]⟩ := by kernel_rfl
@[simp] theorem tryz_ti163 : Cx.T' Tryz.prog 163 = some ⟨.fn, 1, 8, [.nofn]⟩ := by kernel_rfl
@[simp] theorem tryz_ti164 : Cx.T' Tryz.prog 164 = some ⟨.other, 1, 0, [.any]⟩ := by kernel_rfl
@[simp] theorem tryz_ti165 : Cx.T' Tryz.prog 165 = some ⟨.fn, 1, 8, [.nofn]⟩ := by kernel_rfl
@[simp] theorem tryz_ti166 : Cx.T' Tryz.prog 166 = some ⟨.fn, 1, 8, [.nofn]⟩ := by kernel_rfl
@[simp] theorem tryz_ti167 : Cx.T' Tryz.prog 167 = some ⟨.fn, 1, 8, [.nofn]⟩ := by kernel_rfl
@[simp] theorem tryz_ti168 : Cx.T' Tryz.prog 168 = some ⟨.fn, 1, 8, [.nofn]⟩ := by kernel_rfl
@[simp] theorem tryz_ti169 : Cx.T' Tryz.prog 169 = some ⟨.fn, 1, 8, [.nofn]⟩ := by kernel_rfl
@[simp] theorem tryz_ti170 : Cx.T' Tryz.prog 170 = some ⟨.fn, 1, 8, [.nofn]⟩ := by kernel_rfl
@[simp] theorem tryz_ti171 : Cx.T' Tryz.prog 171 = some ⟨.fn, 1, 8, [.nofn]⟩ := by kernel_rfl
@[simp] theorem tryz_ti172 : Cx.T' Tryz.prog 172 = some ⟨.fn, 1, 8, [.nofn]⟩ := by kernel_rfl
@[simp] theorem tryz_ti173 : Cx.T' Tryz.prog 173 = some ⟨.fn, 1, 8, [.nofn]⟩ := by kernel_rfl
@[simp] theorem tryz_ti174 : Cx.T' Tryz.prog 174 = some ⟨.fn, 1, 8, [.nofn]⟩ := by kernel_rfl
@[simp] theorem tryz_ti175 : Cx.T' Tryz.prog 175 = some ⟨.fn, 1, 8, [.nofn]⟩ := by kernel_rfl
@[simp] theorem tryz_ti176 : Cx.T' Tryz.prog 176 = some ⟨.fn, 1, 8, [.nofn]⟩ := by kernel_rfl
@[simp] theorem tryz_ti177 : Cx.T' Tryz.prog 177 = some ⟨.fn, 1, 8, [.nofn]⟩ := by kernel_rfl
@[simp] theorem tryz_ti178 : Cx.T' Tryz.prog 178 = some ⟨.fn, 1, 8, [.nofn]⟩ := by kernel_rfl
@[simp] theorem tryz_ti179 : Cx.T' Tryz.prog 179 = some ⟨.fn, 1, 8, [.nofn]⟩ := by kernel_rfl
@[simp] theorem tryz_ti180 : Cx.T' Tryz.prog 180 = some ⟨.fn, 1, 8, [.nofn]⟩ := by kernel_rfl
@[simp] theorem tryz_ti181 : Cx.T' Tryz.prog 181 = some ⟨.int .u64, 1, 8, [.i .u64 0]⟩ := by kernel_rfl
@[simp] theorem tryz_ti182 : Cx.T' Tryz.prog 182 = some ⟨.fn, 1, 8, [.nofn]⟩ := by kernel_rfl
@[simp] theorem tryz_ti183 : Cx.T' Tryz.prog 183 = some ⟨.fn, 1, 8, [.nofn]⟩ := by kernel_rfl
@[simp] theorem tryz_ti184 : Cx.T' Tryz.prog 184 = some ⟨.fn, 1, 8, [.nofn]⟩ := by kernel_rfl
@[simp] theorem tryz_ti185 : Cx.T' Tryz.prog 185 = some ⟨.fn, 1, 8, [.nofn]⟩ := by kernel_rfl
@[simp] theorem tryz_ti186 : Cx.T' Tryz.prog 186 = some ⟨.fn, 1, 8, [.nofn]⟩ := by kernel_rfl
@[simp] theorem tryz_ti187 : Cx.T' Tryz.prog 187 = some ⟨.fn, 1, 8, [.nofn]⟩ := by kernel_rfl
@[simp] theorem tryz_ti188 : Cx.T' Tryz.prog 188 = some ⟨.fn, 1, 8, [.nofn]⟩ := by kernel_rfl
@[simp] theorem tryz_ti189 : Cx.T' Tryz.prog 189 = some ⟨.arr 5 3, 5, 40, [.i .i64 0, .i .i64 0, .i .i64 0, .i .i64 0, .i .i64 0]⟩ := by kernel_rfl
@[simp] theorem tryz_ti190 : Cx.T' Tryz.prog 190 = some ⟨.fn, 1, 8, [.nofn]⟩ := by kernel_rfl
@[simp] theorem tryz_ti191 : Cx.T' Tryz.prog 191 = some ⟨.fn, 1, 8, [.nofn]⟩ := by kernel_rfl
@[simp] theorem tryz_ti192 : Cx.T' Tryz.prog 192 = some ⟨.fn, 1, 8, [.nofn]⟩ := by kernel_rfl
@[simp] theorem tryz_ti193 : Cx.T' Tryz.prog 193 = some ⟨.other, 1, 0, [.any]⟩ := by kernel_rfl
@[simp] theorem tryz_ti194 : Cx.T' Tryz.prog 194 = some ⟨.fn, 1, 8, [.nofn]⟩ := by kernel_rfl
@[simp] theorem tryz_ti195 : Cx.T' Tryz.prog 195 = some ⟨.fn, 1, 8, [.nofn]⟩ := by kernel_rfl
@[simp] theorem tryz_ti196 : Cx.T' Tryz.prog 196 = some ⟨.fn, 1, 8, [.nofn]⟩ := by kernel_rfl
@[simp] theorem tryz_ti197 : Cx.T' Tryz.prog 197 = some ⟨.fn, 1, 8, [.nofn]⟩ := by kernel_rfl
@[simp] theorem tryz_ti198 : Cx.T' Tryz.prog 198 = some ⟨.other, 1, 0, [.any]⟩ := by kernel_rfl
@[simp] theorem tryz_ti199 : Cx.T' Tryz.prog 199 = some ⟨.fn, 1, 8, [.nofn]⟩ := by kernel_rfl
@[simp] theorem tryz_ti200 : Cx.T' Tryz.prog 200 = some ⟨.other, 1, 0, [.any]⟩ := by kernel_rfl
@[simp] theorem tryz_ti201 : Cx.T' Tryz.prog 201 = some ⟨.fn, 1, 8, [.nofn]⟩ := by kernel_rfl
@[simp] theorem tryz_ti202 : Cx.T' Tryz.prog 202 = some ⟨.fn, 1, 8, [.nofn]⟩ := by kernel_rfl
@[simp] theorem tryz_ti203 : Cx.T' Tryz.prog 203 = some ⟨.other, 1, 0, [.any]⟩ := by kernel_rfl
@[simp] theorem tryz_ti204 : Cx.T' Tryz.prog 204 = some ⟨.fn, 1, 8, [.nofn]⟩ := by kernel_rfl
@[simp] theorem tryz_ti205 : Cx.T' Tryz.prog 205 = some ⟨.fn, 1, 8, [.nofn]⟩ := by kernel_rfl
@[simp] theorem tryz_ti206 : Cx.T' Tryz.prog 206 = some ⟨.fn, 1, 8, [.nofn]⟩ := by kernel_rfl
@[simp] theorem tryz_ti207 : Cx.T' Tryz.prog 207 = some ⟨.fn, 1, 8, [.nofn]⟩ := by kernel_rfl
@[simp] theorem tryz_ti208 : Cx.T' Tryz.prog 208 = some ⟨.fn, 1, 8, [.nofn]⟩ := by kernel_rfl
@[simp] theorem tryz_ti209 : Cx.T' Tryz.prog 209 = some ⟨.int .u64, 1, 8, [.i .u64 0]⟩ := by kernel_rfl
@[simp] theorem tryz_ti210 : Cx.T' Tryz.prog 210 = some ⟨.fn, 1, 8, [.nofn]⟩ := by kernel_rfl
@[simp] theorem tryz_ti211 : Cx.T' Tryz.prog 211 = some ⟨.fn, 1, 8, [.nofn]⟩ := by kernel_rfl
@[simp] theorem tryz_ti212 : Cx.T' Tryz.prog 212 = some ⟨.fn, 1, 8, [.nofn]⟩ := by kernel_rfl
@[simp] theorem tryz_ti213 : Cx.T' Tryz.prog 213 = some ⟨.fn, 1, 8, [.nofn]⟩ := by kernel_rfl
@[simp] theorem tryz_ti214 : Cx.T' Tryz.prog 214 = some ⟨.fn, 1, 8, [.nofn]⟩ := by kernel_rfl
@[simp] theorem tryz_ti215 : Cx.T' Tryz.prog 215 = some ⟨.fn, 1, 8, [.nofn]⟩ := by kernel_rfl
@[simp] theorem tryz_ti216 : Cx.T' Tryz.prog 216 = some ⟨.fn, 1, 8, [.nofn]⟩ := by kernel_rfl
@[simp] theorem tryz_ti217 : Cx.T' Tryz.prog 217 = some ⟨.fn, 1, 8, [.nofn]⟩ := by kernel_rfl
@[simp] theorem tryz_ti218 : Cx.T' Tryz.prog 218 = some ⟨.fn, 1, 8, [.nofn]⟩ := by kernel_rfl
@[simp] theorem tryz_ti219 : Cx.T' Tryz.prog 219 = some ⟨.fn, 1, 8, [.nofn]⟩ := by kernel_rfl
@[simp] theorem tryz_ti220 : Cx.T' Tryz.prog 220 = some ⟨.fn, 1, 8, [.nofn]⟩ := by kernel_rfl
@[simp] theorem tryz_ti221 : Cx.T' Tryz.prog 221 = some ⟨.fn, 1, 8, [.nofn]⟩ := by kernel_rfl
@[simp] theorem tryz_ti222 : Cx.T' Tryz.prog 222 = some ⟨.fn, 1, 8, [.nofn]⟩ := by kernel_rfl
@[simp] theorem tryz_ti223 : Cx.T' Tryz.prog 223 = some ⟨.fn, 1, 8, [.nofn]⟩ := by kernel_rfl
@[simp] theorem tryz_ti224 : Cx.T' Tryz.prog 224 = some ⟨.fn, 1, 8, [.nofn]⟩ := by kernel_rfl
@[simp] theorem tryz_ti225 : Cx.T' Tryz.prog 225 = some ⟨.fn, 1, 8, [.nofn]⟩ := by kernel_rfl
@[simp] theorem tryz_ti226 : Cx.T' Tryz.prog 226 = some ⟨.fn, 1, 8, [.nofn]⟩ := by kernel_rfl
@[simp] theorem tryz_ti227 : Cx.T' Tryz.prog 227 = some ⟨.fn, 1, 8, [.nofn]⟩ := by kernel_rfl
@[simp] theorem tryz_ti228 : Cx.T' Tryz.prog 228 = some ⟨.fn, 1, 8, [.nofn]⟩ := by kernel_rfl
@[simp] theorem tryz_ti229 : Cx.T' Tryz.prog 229 = some ⟨.fn, 1, 8, [.nofn]⟩ := by kernel_rfl
@[simp] theorem tryz_ti230 : Cx.T' Tryz.prog 230 = some ⟨.fn, 1, 8, [.nofn]⟩ := by kernel_rfl
@[simp] theorem tryz_ti231 : Cx.T' Tryz.prog 231 = some ⟨.fn, 1, 8, [.nofn]⟩ := by kernel_rfl
@[simp] theorem tryz_ti232 : Cx.T' Tryz.prog 232 = some ⟨.fn, 1, 8, [.nofn]⟩ := by kernel_rfl
@[simp] theorem tryz_ti233 : Cx.T' Tryz.prog 233 = some ⟨.fn, 1, 8, [.nofn]⟩ := by kernel_rfl
@[simp] theorem tryz_ti234 : Cx.T' Tryz.prog 234 = some ⟨.fn, 1, 8, [.nofn]⟩ := by kernel_rfl
@[simp] theorem tryz_ti235 : Cx.T' Tryz.prog 235 = some ⟨.fn, 1, 8, [.nofn]⟩ := by kernel_rfl
@[simp] theorem tryz_ti236 : Cx.T' Tryz.prog 236 = some ⟨.fn, 1, 8, [.nofn]⟩ := by kernel_rfl
@[simp] theorem tryz_ti237 : Cx.T' Tryz.prog 237 = some ⟨.fn, 1, 8, [.nofn]⟩ := by kernel_rfl
@[simp] theorem tryz_ti238 : Cx.T' Tryz.prog 238 = some ⟨.fn, 1, 8, [.nofn]⟩ := by kernel_rfl
@[simp] theorem tryz_ti239 : Cx.T' Tryz.prog 239 = some ⟨.fn, 1, 8, [.nofn]⟩ := by kernel_rfl
@[simp] theorem tryz_ti240 : Cx.T' Tryz.prog 240 = some ⟨.int .i64, 1, 8, [.i .i64 0]⟩ := by kernel_rfl
@[simp] theorem tryz_ti241 : Cx.T' Tryz.prog 241 = some ⟨.other, 1, 0, [.any]⟩ := by kernel_rfl
@[simp] theorem tryz_ti242 : Cx.T' Tryz.prog 242 = some ⟨.fn, 1, 8, [.nofn]⟩ := by kernel_rfl
@[simp] theorem tryz_ti243 : Cx.T' Tryz.prog 243 = some ⟨.fn, 1, 8, [.nofn]⟩ := by kernel_rfl
@[simp] theorem tryz_ti244 : Cx.T' Tryz.prog 244 = some ⟨.fn, 1, 8, [.nofn]⟩ := by kernel_rfl
@[simp] theorem tryz_ti245 : Cx.T' Tryz.prog 245 = some ⟨.fn, 1, 8, [.nofn]⟩ := by kernel_rfl
@[simp] theorem tryz_ti246 : Cx.T' Tryz.prog 246 = some ⟨.fn, 1, 8, [.nofn]⟩ := by kernel_rfl
@[simp] theorem tryz_ti247 : Cx.T' Tryz.prog 247 = some ⟨.int .u32, 1, 4, [.i .u32 0]⟩ := by kernel_rfl
@[simp] theorem tryz_ti248 : Cx.T' Tryz.prog 248 = some ⟨.fn, 1, 8, [.nofn]⟩ := by kernel_rfl
@[simp] theorem tryz_ti249 : Cx.T' Tryz.prog 249 = some ⟨.fn, 1, 8, [.nofn]⟩ := by kernel_rfl
@[simp] theorem tryz_ti250 : Cx.T' Tryz.prog 250 = some ⟨.int .u64, 1, 8, [.i .u64 0]⟩ := by kernel_rfl
@[simp] theorem tryz_ti251 : Cx.T' Tryz.prog 251 = some ⟨.fn, 1, 8, [.nofn]⟩ := by kernel_rfl
@[simp] theorem tryz_ti252 : Cx.T' Tryz.prog 252 = some ⟨.fn, 1, 8, [.nofn]⟩ := by kernel_rfl
@[simp] theorem tryz_ti253 : Cx.T' Tryz.prog 253 = some ⟨.fn, 1, 8, [.nofn]⟩ := by kernel_rfl
@[simp] theorem tryz_ti254 : Cx.T' Tryz.prog 254 = some ⟨.ptr 3, 1, 8, [.nil]⟩ := by kernel_rfl
@[simp] theorem tryz_ti255 : Cx.T' Tryz.prog 255 = some ⟨.fn, 1, 8, [.nofn]⟩ := by kernel_rfl
@[simp] theorem tryz_ti256 : Cx.T' Tryz.prog 256 = some ⟨.fn, 1, 8, [.nofn]⟩ := by kernel_rfl
@[simp] theorem tryz_ti257 : Cx.T' Tryz.prog 257 = some ⟨.fn, 1, 8, [.nofn]⟩ := by kernel_rfl
@[simp] theorem tryz_ti258 : Cx.T' Tryz.prog 258 = some ⟨.ptr 250, 1, 8, [.nil]⟩ := by kernel_rfl
@[simp] theorem tryz_ti259 : Cx.T' Tryz.prog 259 = some ⟨.other, 1, 0, [.any]⟩ := by kernel_rfl
@[simp] theorem tryz_ti260 : Cx.T' Tryz.prog 260 = some ⟨.fn, 1, 8, [.nofn]⟩ := by kernel_rfl
@[simp] theorem tryz_ti261 : Cx.T' Tryz.prog 261 = some ⟨.fn, 1, 8, [.nofn]⟩ := by kernel_rfl
@[simp] theorem tryz_ti262 : Cx.T' Tryz.prog 262 = some ⟨.strct [(0, 17), (1, 17), (2, 17), (3, 9)], 4, 40, [.nil, .nil, .nil, .s ByteArray.empty]⟩ := by kernel_rfl
@[simp] theorem tryz_ti263 : Cx.T' Tryz.prog 263 = some ⟨.strct [(0, 17), (1, 17), (2, 17), (3, 9)], 4, 40, [.nil, .nil, .nil, .s ByteArray.empty]⟩ := by kernel_rfl
@[simp] theorem tryz_ti264 : Cx.T' Tryz.prog 264 = some ⟨.arr 0 16, 0, 0, []⟩ := by kernel_rfl
@[simp] theorem tryz_ti265 : Cx.T' Tryz.prog 265 = some ⟨.strct [(0, 264)], 0, 0, []⟩ := by kernel_rfl
@[simp] theorem tryz_ti266 : Cx.T' Tryz.prog 266 = some ⟨.strct [(0, 264)], 0, 0, []⟩ := by kernel_rfl
@[simp] theorem tryz_ti267 : Cx.T' Tryz.prog 267 = some ⟨.fn, 1, 8, [.nofn]⟩ := by kernel_rfl
@[simp] theorem tryz_ti268 : Cx.T' Tryz.prog 268 = some ⟨.int .u8, 1, 1, [.i .u8 0]⟩ := by kernel_rfl
@[simp] theorem tryz_ti269 : Cx.T' Tryz.prog 269 = some ⟨.int .u8, 1, 1, [.i .u8 0]⟩ := by kernel_rfl
@[simp] theorem tryz_ti270 : Cx.T' Tryz.prog 270 = some ⟨.fn, 1, 8, [.nofn]⟩ := by kernel_rfl
@[simp] theorem tryz_ti271 : Cx.T' Tryz.prog 271 = some ⟨.ptr 5, 1, 8, [.nil]⟩ := by kernel_rfl
@[simp] theorem tryz_ti272 : Cx.T' Tryz.prog 272 = some ⟨.int .i32, 1, 4, [.i .i32 0]⟩ := by kernel_rfl
@[simp] theorem tryz_ti273 : Cx.T' Tryz.prog 273 = some ⟨.int .i32, 1, 4, [.i .i32 0]⟩ := by kernel_rfl
@[simp] theorem tryz_ti274 : Cx.T' Tryz.prog 274 = some ⟨.strct [(0, 12), (1, 12), (2, 247), (3, 268), (4, 5), (5, 5), (6, 269), (7, 270), (8, 271), (9, 272), (10, 273)], 11, 48, [.i .u64 0, .i .u64 0, .i .u32 0, .i .u8 0, .i .u8 0, .i .u8 0, .i .u8 0, .nofn, .nil, .i .i32 0, .i .i32 0]⟩ := by kernel_rfl
@[simp] theorem tryz_ti275 : Cx.T' Tryz.prog 275 = some ⟨.strct [(0, 12), (1, 12), (2, 247), (3, 268), (4, 5), (5, 5), (6, 269), (7, 270), (8, 271), (9, 272), (10, 273)], 11, 48, [.i .u64 0, .i .u64 0, .i .u32 0, .i .u8 0, .i .u8 0, .i .u8 0, .i .u8 0, .nofn, .nil, .i .i32 0, .i .i32 0]⟩ := by kernel_rfl
@[simp] theorem tryz_ti276 : Cx.T' Tryz.prog 276 = some ⟨.other, 1, 8, [.any]⟩ := by kernel_rfl
end Go.AM
