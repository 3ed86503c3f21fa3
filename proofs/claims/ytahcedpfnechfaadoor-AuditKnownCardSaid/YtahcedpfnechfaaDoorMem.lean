/-
  Memory words and laws of the walk, over whatever program: rows of cells, blocks known whole, loads and stores of structs; regions that draw, in the class 'Below'.
-/
import Derived.WalkKit
import Derived.WalkSpells
import Derived.WalkLawsBesides
import Derived.Handy
import Derived.Lib.Hide
import Derived.BigQuiet
import Derived.Lib.QuietBelow
import Derived.Maps.AppendAt
namespace Go.Proofs.YtahcedpfnechfaaDoor
set_option maxRecDepth 100000
open Go.RowKit Go.Sort

/-- The cells cs lie from offset o of block g on. (A structure: so that two that differ are seen to differ at once.) -/
structure RowAt (w : World) (g o : Nat) (cs : Array Value) : Prop where
  at_ : ∀ j v, cs[j]? = some v → w.cell? ⟨g, o + j, none⟩ = some v

/-- Block g is just the cells cs of element type t, none frozen. -/
structure Blk (w : World) (g : Nat) (t : TypeId) (cs : Array Value) : Prop where
  eq : w.heap[g]? = some (.cells cs t (0, 0))

section
variable {w w' : World} {g o : Nat} {t : TypeId} {cs : Array Value}
theorem Blk.lt (h : Blk w g t cs) : g < w.heap.size := by
  rcases Nat.lt_or_ge g w.heap.size with hlt | hge
  · exact hlt
  · have h := h.eq; rw [Array.getElem?_eq_none hge] at h; cases h
theorem Blk.cell (h : Blk w g t cs) (i : Nat) : w.cell? ⟨g, i, none⟩ = cs[i]? := cell_of_row w g i cs t (0, 0) h.eq
theorem Blk.frozen (h : Blk w g t cs) (i : Nat) : w.frozen? ⟨g, i, none⟩ = false := by
  simp [World.frozen?, h.eq]
theorem Blk.new (w : World) (t : TypeId) (cs : Array Value) : Blk (w.alloc (.cells cs t)) w.heap.size t cs := ⟨heap_alloc_new w _⟩
theorem Blk.new_at {w : World} {t : TypeId} {cs : Array Value} {g : Nat} (h : g = w.heap.size) : Blk (w.alloc (.cells cs t)) g t cs := by subst h; exact Blk.new _ _ _
theorem Blk.drew (h : Blk w g t cs) : Blk w.drew g t cs := ⟨h.eq⟩
theorem Blk.alloc (h : Blk w g t cs) (x : Obj) : Blk (w.alloc x) g t cs := ⟨(Below.heap_alloc w x g h.lt).trans h.eq⟩
theorem Blk.set_ (h : Blk w g t cs) (i : Nat) (u : Value) : Blk (w.setCell ⟨g, i, none⟩ u) g t (cs.setIfInBounds i u) := by
  constructor
  simp [World.setCell, Array.getElem?_modify, h.eq]
theorem Blk.far (h : Blk w g t cs) {p : Addr} (hp : g ≠ p.block) (u : Value) : Blk (w.setCell p u) g t cs := ⟨(Below.heap_setCell w p u g hp).trans h.eq⟩
theorem Blk.below {B : Nat} (h : Blk w g t cs) (hb : Below B w w') (hg : g < B) : Blk w' g t cs := ⟨(hb.block g hg).trans h.eq⟩
theorem Blk.grown {row : Option Nat} (h : Blk w g t cs) (hb : w.grownBy w' row) (hg : some g ≠ row) : Blk w' g t cs := ⟨(hb.block g h.lt hg).trans h.eq⟩
theorem Blk.setRow_same (h : Blk w g t cs) (ds : Array Value) : Blk (w.setRow g ds) g t ds := ⟨setRow_heap w g cs ds t _ h.eq⟩
theorem Blk.setRow_ne (h : Blk w g t cs) {k : Nat} (hk : g ≠ k) (ds : Array Value) : Blk (w.setRow k ds) g t cs := ⟨(setRow_other w k g ds hk).trans h.eq⟩
theorem Blk.row (h : Blk w g t cs) : RowAt w g 0 cs := ⟨fun j v hv => by rw [Nat.zero_add, h.cell, hv]⟩

theorem RowAt.below {B : Nat} (h : RowAt w g o cs) (hb : Below B w w') (hg : g < B) : RowAt w' g o cs := ⟨fun j v hv => (hb.cell (p := ⟨g, o + j, none⟩) hg).trans (h.at_ j v hv)⟩
theorem RowAt.alloc (h : RowAt w g o cs) (hg : g < w.heap.size) (x : Obj) : RowAt (w.alloc x) g o cs := h.below ((Below.refl w.heap.size w).alloc (Nat.le_refl _) x) hg
theorem RowAt.grown {row : Option Nat} (h : RowAt w g o cs) (hb : w.grownBy w' row) (hlt : g < w.heap.size) (hg : some g ≠ row) : RowAt w' g o cs :=
  ⟨fun j v hv => (World.cell?_of_block (a := ⟨g, o + j, none⟩) (hb.block g hlt hg)).trans (h.at_ j v hv)⟩
theorem RowAt.cell0 (h : RowAt w g o cs) {v : Value} (hv : cs[0]? = some v) : w.cell? ⟨g, o, none⟩ = some v := by simpa using h.at_ 0 v hv
theorem RowAt.cells (h : RowAt w g o cs) : ∀ j v, cs.toList[j]? = some v → w.cell? ((⟨g, o, none⟩ : Addr).add j) = some v := fun j v hv => by
  rw [Addr.add_lit]; exact h.at_ j v (by simpa using hv)
end

theorem bel_setRow {B g : Nat} {w0 w : World} (hb : Below B w0 w) (hBg : B ≤ g) (cs : Array Value) : Below B w0 (w.setRow g cs) :=
  hb.trans ⟨rfl, rfl, rfl, by simp [World.setRow], fun k hk => setRow_other w g k cs (by omega)⟩

/-! ### loads and stores of structs and arrays -/
section
variable {P : Program}
/-- A struct's or an array's type. -/
def isAggD (d : TypeDesc) : Bool := match d with | .struct _ | .array _ _ => true | _ => false

theorem run_isAgg (w : World) {ty : TypeId} {d : TypeDesc} (hu : P.underlying ty = some d) (hd : isAggD d = true) : (isAgg ty).run P w = .ok true w := by
  unfold isAgg
  rw [Sem.run_bind, run_underlying hu w]
  cases d <;> simp_all [isAggD]

theorem run_loadVar_at (w : World) {ty : TypeId} {d : TypeDesc} (hu : P.underlying ty = some d) (hd : isAggD d = true) {g o : Nat} {cs : Array Value} (hi : (P.info? ty).map (·.size) = some cs.size) (h : RowAt w g o cs) :
    (loadVar ty ⟨g, o, none⟩).run P w = .ok (.agg cs) w := by
  have hl := run_loadCells_list (P := P) w ⟨g, o, none⟩ cs.toList h.cells
  cases hq : P.info? ty with
  | none => simp [hq] at hi
  | some i =>
    have hs : i.size = cs.size := by simpa [hq] using hi
    simp only [Array.length_toList, Array.toArray_toList] at hl
    simp [loadVar, Sem.run_bind, run_isAgg w hu hd, sizeOf, typeInfo, hq, hs, hl]

theorem run_loadAt_at (w : World) {ty : TypeId} {d : TypeDesc} (hu : P.underlying ty = some d) (hd : isAggD d = true) {g o : Nat} {cs : Array Value} (hi : (P.info? ty).map (·.size) = some cs.size) (h : RowAt w g o cs) :
    (Instr.loadAt ty (.pointer (some ⟨g, o, none⟩))).run P w = .ok (.agg cs) w := by
  simp only [Instr.loadAt, Instr.sureAddr, Sem.run_bind, Sem.run_pure, Result.andThen_ok, run_loadVar_at w hu hd hi h]

/-- What a struct's store makes of a block: the new cells from offset o on. -/
def splice (cs : Array Value) (o : Nat) (vs : Array Value) : Array Value := (cs.toList.take o ++ vs.toList ++ cs.toList.drop (o + vs.size)).toArray

theorem splice_all {cs vs : Array Value} (h : vs.size = cs.size) : splice cs 0 vs = vs := by
  unfold splice
  have : cs.toList.drop (0 + vs.size) = [] := by rw [List.drop_eq_nil_iff]; simp; omega
  rw [this]
  simp

theorem run_storeVar_at (w : World) {ty : TypeId} {g o : Nat} {t : TypeId} {cur vs : Array Value} (hi : (P.info? ty).map (·.size) = some vs.size) (hB : Blk w g t cur) (hfit : o + vs.size ≤ cur.size) (h1 : ∀ v ∈ vs.toList, v.oneCell' = true) :
    (storeVar ty ⟨g, o, none⟩ (.agg vs)).run P w = .ok () (w.setRow g (splice cur o vs)) := by
  have hst := run_storeCells_at P g o t vs.toList 0 cur w hB.eq (by simpa using hfit) h1
  cases hq : P.info? ty with
  | none => simp [hq] at hi
  | some i =>
    have hs : i.size = vs.size := by simpa [hq] using hi
    simp only [Nat.add_zero, Array.length_toList] at hst
    simp [storeVar, Sem.run_bind, Value.cells, sizeOf, typeInfo, hq, hs, hst, splice]

section
variable {ops : Array Oper} {rest : List Oper} {o' : Oper} {a : Act} {w : World} {Q : Exit → Act → World → Prop}
theorem wpList_want (hw : Region.wanted o' (yielded ops a.tmps) = true) (h : ∀ K : Act → World → Prop, (∀ a w, wpList P ops Q rest a w → K a w) → o'.wp P a w K Q) : wpList P ops Q (o' :: rest) a w :=
  wpList_step fun K hK => by rw [if_pos hw]; exact h K hK
/-- The load of a struct whose cells are known. -/
theorem wpList_load_at {ty : TypeId} {x : Operand} (ho : o'.op = .load ty x) (hw : Region.wanted o' (yielded ops a.tmps) = true) {g o : Nat} {cs : Array Value} {d : TypeDesc} (hx : a.eval x = .pointer (some ⟨g, o, none⟩)) (h : RowAt w g o cs)
    (hu : P.underlying ty = some d) (hd : isAggD d = true) (hi : (P.info? ty).map (·.size) = some cs.size)
    (hK : wpList P ops Q rest (a.put o'.dst (.agg cs)) w) : wpList P ops Q (o' :: rest) a w :=
  wpList_want hw fun _ hK' => by
    unfold Oper.wp execOp
    simp only [ho, hx, Sem.run_bind, run_loadAt_at w hu hd hi h, Result.andThen_ok, Sem.run_pure]
    exact hK' _ _ hK

/-- The store of a struct into a block that is known whole. -/
theorem wpList_store_at {ty : TypeId} {x y : Operand} (ho : o'.op = .store ty x y) (hw : Region.wanted o' (yielded ops a.tmps) = true) {g o : Nat} {t : TypeId} {cur vs : Array Value} (hx : a.eval x = .pointer (some ⟨g, o, none⟩)) (hy : a.eval y = .agg vs) (hB : Blk w g t cur)
    (hfit : o + vs.size ≤ cur.size) (h1 : ∀ v ∈ vs.toList, v.oneCell' = true) (hi : (P.info? ty).map (·.size) = some vs.size)
    (hK : wpList P ops Q rest (a.put o'.dst undef) (w.setRow g (splice cur o vs))) : wpList P ops Q (o' :: rest) a w :=
  wpList_want hw fun _ hK' => by
    unfold Oper.wp execOp
    simp only [ho, hx, hy, Instr.storeAt, Instr.sureAddr, Sem.run_bind, Sem.run_pure, Result.andThen_ok, run_storeVar_at w hi hB hfit h1]
    exact hK' _ _ hK

/-- The store of a struct over a whole block. -/
theorem wpList_store_all {ty : TypeId} {x y : Operand} (ho : o'.op = .store ty x y) (hw : Region.wanted o' (yielded ops a.tmps) = true) {g : Nat} {t : TypeId} {cur vs : Array Value} (hx : a.eval x = .pointer (some ⟨g, 0, none⟩)) (hy : a.eval y = .agg vs) (hB : Blk w g t cur)
    (hfit : vs.size = cur.size) (h1 : ∀ v ∈ vs.toList, v.oneCell' = true) (hi : (P.info? ty).map (·.size) = some vs.size)
    (hK : wpList P ops Q rest (a.put o'.dst undef) (w.setRow g vs)) : wpList P ops Q (o' :: rest) a w := by
  refine wpList_store_at ho hw hx hy hB (by omega) h1 hi ?_
  rw [splice_all hfit]
  exact hK

theorem setRow_alloc_new (w : World) (cur vs : Array Value) (t : TypeId) : (w.alloc (.cells cur t)).setRow w.heap.size vs = w.alloc (.cells vs t) := by
  unfold World.setRow World.alloc
  congr 1
  apply Array.ext_getElem?
  intro k
  simp only [Array.getElem?_modify, Array.getElem?_push]
  by_cases hk : k = w.heap.size
  · subst hk; simp
  · simp [hk, Ne.symm hk]

/-- The store of a struct into the block that was made last: it is made with those cells. -/
theorem wpList_store_new {t : TypeId} {cur vs : Array Value} {ty : TypeId} {x y : Operand} (ho : o'.op = .store ty x y) (hw : Region.wanted o' (yielded ops a.tmps) = true) (hx : a.eval x = .pointer (some ⟨w.heap.size, 0, none⟩)) (hy : a.eval y = .agg vs)
    (hfit : vs.size = cur.size) (h1 : ∀ v ∈ vs.toList, v.oneCell' = true) (hi : (P.info? ty).map (·.size) = some vs.size)
    (hK : wpList P ops Q rest (a.put o'.dst undef) (w.alloc (.cells vs t))) : wpList P ops Q (o' :: rest) a (w.alloc (.cells cur t)) := by
  refine wpList_store_all ho hw hx hy (Blk.new w t cur) hfit h1 hi ?_
  rw [setRow_alloc_new]
  exact hK
end
end

/-! ### regions that draw their order, in the class 'Below': one walk in the order of the text -/
section
variable {P : Program} {ops : Array Oper} {C : World → Prop} {Q : Act → Prop} {a : Act} {o' : Oper} {rest : List Oper}
theorem wpQuiet_load_at {ty : TypeId} {x : Operand} (ho : o'.op = .load ty x) (hw : Region.wanted o' (yielded ops a.tmps) = true) {g o : Nat} {cs : Array Value} {d : TypeDesc} (hx : a.eval x = .pointer (some ⟨g, o, none⟩)) (h : ∀ w, C w → RowAt w g o cs)
    (hu : P.underlying ty = some d) (hd : isAggD d = true) (hi : (P.info? ty).map (·.size) = some cs.size)
    (hK : wpQuiet P ops C Q rest (a.put o'.dst (.agg cs))) : wpQuiet P ops C Q (o' :: rest) a :=
  wpQuiet_step fun K hK' => by
    rw [if_pos hw]
    refine ⟨.agg cs, fun w hC => ?_, hK' _ hK⟩
    unfold Oper.quietAt execOp
    simp only [ho, hx, Sem.run_bind, run_loadAt_at w hu hd hi (h w hC), Result.andThen_ok, Sem.run_pure, Oper.quietUpon]
    exact ⟨trivial, trivial⟩

/-- Any operation that yields one value in every world of the class, whose run is known. -/
theorem wpQuiet_val (hw : Region.wanted o' (yielded ops a.tmps) = true) (v : Value) (h : ∀ w, C w → (execOp a.eval o').run P w = .ok (.value v) w)
    (hK : wpQuiet P ops C Q rest (a.put o'.dst v)) : wpQuiet P ops C Q (o' :: rest) a :=
  wpQuiet_step fun K hK' => by
    rw [if_pos hw]
    refine ⟨v, fun w hC => ?_, hK' _ hK⟩
    unfold Oper.quietAt
    rw [h w hC]
    exact ⟨rfl, rfl⟩
end

/-- In every world of the class of W the cells of W's blocks read as in W. -/
theorem cells_regrown (W : World) : ∀ (d : Nat) (os : Array Obj) (b o : Nat), b < W.heap.size → (grow (redrawn W d) os).cell? ⟨b, o, none⟩ = W.cell? ⟨b, o, none⟩ :=
  fun d os b o h => (below_regrown W d os).cell (p := ⟨b, o, none⟩) h
theorem RowAt.class_ {W : World} {g o : Nat} {cs : Array Value} (h : RowAt W g o cs) (hg : g < W.heap.size) : ∀ w, (∃ p : Regrown, w = grow (redrawn W p.d) p.os) → RowAt w g o cs := by
  rintro w ⟨p, rfl⟩
  exact h.below (below_regrown W p.d p.os) hg
theorem below_class {W w : World} (h : ∃ p : Regrown, w = grow (redrawn W p.d) p.os) : Below W.heap.size W w := by
  obtain ⟨p, rfl⟩ := h
  exact below_regrown W p.d p.os

/-! ### results that lie in memory -/
section
variable {P : Program}
theorem results_at {fn : Func} {p : Tmp} {ty : TypeId} (h : fn.results = #[.cell p ty]) {tmps : Array Value} {w : World} {g o : Nat} {cs : Array Value} {d : TypeDesc} (hp : tmps.getD p undef = .pointer (some ⟨g, o, none⟩)) (hr : RowAt w g o cs)
    (hu : P.underlying ty = some d) (hd : isAggD d = true) (hi : (P.info? ty).map (·.size) = some cs.size) : (results fn tmps).run P w = .ok (.agg cs) w := by
  have hp' : tmps[p]?.getD undef = .pointer (some ⟨g, o, none⟩) := by simpa using hp
  simp [results, h, hp', asAddr, run_loadVar_at w hu hd hi hr]

theorem results_at_tmp {fn : Func} {p u : Tmp} {ty : TypeId} (h : fn.results = #[.cell p ty, .tmp u]) {tmps : Array Value} {w : World} {g o : Nat} {cs : Array Value} {d : TypeDesc} (hp : tmps.getD p undef = .pointer (some ⟨g, o, none⟩)) (hr : RowAt w g o cs)
    (hu : P.underlying ty = some d) (hd : isAggD d = true) (hi : (P.info? ty).map (·.size) = some cs.size) : (results fn tmps).run P w = .ok (.tuple #[.agg cs, tmps.getD u undef]) w := by
  rw [results_cell_tmp h, hp]
  simp [asAddr, run_loadVar_at w hu hd hi hr, Result.andThen]
end

/-! ### a slice of one struct, and append of one -/
theorem foldl_set_list (off : Nat) : ∀ (l : List Value) (k : Nat) (cs : Array Value), off + k + l.length ≤ cs.size →
    (l.zipIdx k).foldl (fun (cs : Array Value) (x : Value × Nat) => cs.setIfInBounds (off + x.2) x.1) cs = (cs.toList.take (off + k) ++ l ++ cs.toList.drop (off + k + l.length)).toArray
  | [], k, cs, _ => by simp
  | v :: rest, k, cs, h => by
    have ih := foldl_set_list off rest (k + 1) (cs.setIfInBounds (off + k) v) (by simp at h ⊢; omega)
    simp only [List.zipIdx_cons, List.foldl_cons]
    rw [ih]
    congr 1
    have e := list_seg_step cs.toList (off + k) v rest (by simp at h ⊢; omega)
    simpa [Array.toList_setIfInBounds, Nat.add_assoc] using e

theorem fill_splice (off : Nat) (vs cs : Array Value) (h : off + vs.size ≤ cs.size) :
    (vs.zipIdx.foldl (fun cs x => cs.setIfInBounds (off + x.2) x.1) cs) = splice cs off vs := by
  rw [← Array.foldl_toList, Array.toList_zipIdx]
  have := foldl_set_list off vs.toList 0 cs (by simpa using h)
  simpa [splice] using this

theorem fill_one (place : Nat → Option (Nat × Nat)) (cells vs : Array Value) (hp : place 0 = some (0, vs.size)) (hc : cells.size = vs.size) : Instr.fill place cells [(0, .agg vs)] = some vs := by
  have hf := fill_splice 0 vs cells (by omega)
  rw [splice_all hc.symm] at hf
  simp only [Instr.fill, hp, Value.cells, hc]
  rw [if_neg (by simp), hf]

section
variable {P : Program}
theorem run_buildSlice_one (w : World) {t e : TypeId} {vs : Array Value} (ht : P.underlying t = some (.slice e)) {i : TypeInfo} {z : Value} (hi : P.info? e = some i) (hz : i.zero = some z) (hs : i.size = vs.size) (h0 : 0 < vs.size) (hb : vs.size ≤ 16777216) :
    (Instr.buildSlice t 1 #[(0, .agg vs)]).run P w = .ok (.slice (some ⟨w.heap.size, 0, none⟩) 1 1) (w.alloc (.cells vs e)) := by
  have hne : vs.size ≠ 0 := by omega
  have hbb : ¬ 16777216 < vs.size := by omega
  have hf : ∀ cells : Array Value, cells.size = vs.size → Instr.fill (fun i => some (i * vs.size, vs.size)) cells [(0, .agg vs)] = some vs := fun cells hc => fill_one _ cells vs (by simp) hc
  simp [Instr.buildSlice, run_underlying ht, sizeOf, typeInfo, hi, hs, hne, hbb, zeroValue, hz, newRow, Result.andThen, hf]

theorem wpList_buildSlice_one {ops : Array Oper} {rest : List Oper} {o' : Oper} {a : Act} {w : World} {Q : Exit → Act → World → Prop} {t e : TypeId} {x : Operand} {vs : Array Value}
    (ho : o'.op = .buildSlice t 1 #[(0, x)]) (hw : Region.wanted o' (yielded ops a.tmps) = true) (hx : a.eval x = .agg vs) (ht : P.underlying t = some (.slice e)) {i : TypeInfo} {z : Value} (hi : P.info? e = some i) (hz : i.zero = some z) {size : Nat} (hs' : i.size = size) (hv : vs.size = size) (h0' : 0 < size) (hb' : size ≤ 16777216)
    (hK : wpList P ops Q rest (a.put o'.dst (.slice (some ⟨w.heap.size, 0, none⟩) 1 1)) (w.alloc (.cells vs e))) : wpList P ops Q (o' :: rest) a w :=
  wpList_want hw fun _ hK' => by
    subst hv
    have hs := hs'
    have h0 := h0'
    have hb := hb'
    unfold Oper.wp execOp
    simp only [ho, List.map_toArray, List.map_cons, List.map_nil, hx, Sem.run_bind, run_buildSlice_one w ht hi hz hs h0 hb, Result.andThen_ok, Sem.run_pure]
    exact hK' _ _ hK
end

theorem own_form {w : World} {base : Nat} {e : TypeId} {size : Nat} {v : Value} {n : Nat} {xs : List Value} (h : w.ownsRow base e size v n xs) (hn : 0 < n) : ∃ g cap, v = .slice (some ⟨g, 0, none⟩) n cap := by
  rcases h.2 with ⟨_, h0⟩ | ⟨g, cap, cur, hv, _⟩
  · omega
  · exact ⟨g, cap, hv⟩
theorem own_cap {w : World} {base : Nat} {e : TypeId} {size : Nat} {g n cap : Nat} {xs : List Value} (h : w.ownsRow base e size (.slice (some ⟨g, 0, none⟩) n cap) n xs) : n ≤ cap ∧ cap ≤ maxLen ∧ base ≤ g ∧ g < w.heap.size := by
  have hl := h.lt g rfl
  rcases h.2 with ⟨h, _⟩ | ⟨g', cap', cur, hv, _, _, h1, h2, _⟩
  · cases h
  · injection hv with h3 h4 h5
    subst h5
    exact ⟨h1, h2, hl.1, hl.2⟩
section
variable {P : Program} {ops : Array Oper} {rest : List Oper} {o' : Oper} {a : Act} {w : World} {Q : Exit → Act → World → Prop}
/-- 'append(v, x)': x lies in the block that was made last. -/
theorem wpList_append_one {cs : Array Value} {e : TypeId} (hgd : o'.guard = none) (s x : Operand) (t : TypeId) (ho : o'.op = .call { callee := .builtin .append, args := #[s, x], argTypes := #[t, t] })
    {base : Nat} {i : TypeInfo} {z : Value} {size bytes : Nat} (ht : P.underlying t = some (.slice e)) (hi : P.info? e = some i) (hz : i.zero = some z)
    (hsize : i.size = size) (hby : i.bytes = bytes) (hzs : z.cells.size = size) (hsz : 0 < size)
    {v : Value} {n : Nat} {xs : List Value} (hs : a.eval s = v) (hown : w.ownsRow base e size v n xs)
    (hx : a.eval x = .slice (some ⟨w.heap.size, 0, none⟩) 1 1) (hcs : cs.size = size) (h1 : ∀ u ∈ cs.toList, u.oneCell' = true)
    (h63 : n + 1 ≤ maxLen) (hbytes : (n + 1) * bytes ≤ 140737488355328) (hbase : base ≤ w.heap.size)
    (h : ∀ g cap w', w'.ownsRow base e size (.slice (some ⟨g, 0, none⟩) (n + 1) cap) (n + 1) (xs ++ cs.toList) → w.grownBy w' v.ownBlock → wpList P ops Q rest (a.put o'.dst (.slice (some ⟨g, 0, none⟩) (n + 1) cap)) w') :
    wpList P ops Q (o' :: rest) a (w.alloc (.cells cs e)) := by
  refine wpList_append_own (w.alloc (.cells cs e)) hgd s x t ho base e i z size bytes ht hi hz hsize hby hzs hsz v n xs hs (hown.alloc _) ⟨w.heap.size, 0, none⟩ 1 1 cs.toList hx (by simp [hcs]) ?_ h1 h63 hbytes (by simp; omega) ?_
  · intro j u hu
    rw [Addr.add_lit]
    exact (Blk.new w e cs).row.at_ j u (by simpa using hu)
  · intro v' w' hown' hgrow _
    obtain ⟨g, cap, rfl⟩ := own_form hown' (by omega)
    refine h g cap w' hown' ?_
    have := World.grownBy_alloc w (.cells cs e) v.ownBlock
    exact ⟨hgrow.os.trans this.os, hgrow.tape.trans this.tape, hgrow.output.trans this.output, Nat.le_trans this.size hgrow.size, fun k hk hne => (hgrow.block k (Nat.lt_of_lt_of_le hk this.size) hne).trans (this.block k hk hne)⟩
end

/-- 'Below' across a step that may have written a row of the call's own. -/
theorem bel_grown {B : Nat} {w0 w w' : World} {base : Nat} {e : TypeId} {size : Nat} {v : Value} {n : Nat} {xs : List Value} (h : Below B w0 w) (hg : w.grownBy w' v.ownBlock) (ho : w.ownsRow base e size v n xs) (hB : B ≤ base) (hs : B ≤ w.heap.size) : Below B w0 w' :=
  h.grown hg hs fun k hk => by have := (ho.lt k hk).1; omega

/-- What is owned stays owned across a step that turns nothing. -/
theorem own_below {w w' : World} {base : Nat} {e : TypeId} {size : Nat} {v : Value} {n : Nat} {xs : List Value} (h : w.ownsRow base e size v n xs) (hb : Below w.heap.size w w') : w'.ownsRow base e size v n xs :=
  h.kept (row := none) ⟨hb.os, hb.tape, hb.output, hb.size, fun k hk _ => hb.block k hk⟩ (by cases v.ownBlock <;> simp)

/-! ### lists of structs, laid out cell by cell -/
def flat {α : Type} (f : α → Array Value) (l : List α) : List Value := l.flatMap fun x => (f x).toList
section
variable {α : Type} {f : α → Array Value} {l : List α}
theorem flat_nil : flat f [] = [] := rfl
theorem flat_snoc (x : α) : flat f (l ++ [x]) = flat f l ++ (f x).toList := by simp [flat]
theorem flat_append (m : List α) : flat f (l ++ m) = flat f l ++ flat f m := by simp [flat]
theorem flat_get {size : Nat} (hf : ∀ x, (f x).size = size) : ∀ (l : List α) (k : Nat) (x : α), l[k]? = some x → ∀ j v, (f x)[j]? = some v → (flat f l)[k * size + j]? = some v
  | [], k, x, h, _, _, _ => by simp at h
  | y :: l, 0, x, h, j, v, hv => by
    simp at h
    subst h
    have hj : j < (f y).size := (Array.getElem?_eq_some_iff.1 hv).1
    simp only [flat, List.flatMap_cons, Nat.zero_mul, Nat.zero_add]
    rw [List.getElem?_append_left (by simpa using hj)]
    simpa using hv
  | y :: l, k + 1, x, h, j, v, hv => by
    have h' : l[k]? = some x := by simpa using h
    have := flat_get hf l k x h' j v hv
    simp only [flat, List.flatMap_cons]
    rw [List.getElem?_append_right (by simp [hf, Nat.add_mul]; omega)]
    simp only [Array.length_toList, hf]
    rw [show (k + 1) * size + j - size = k * size + j from by rw [Nat.add_mul]; omega]
    exact this
/-- An element of a row of the call's own. -/
theorem own_row {size : Nat} (hf : ∀ x, (f x).size = size) {w : World} {base : Nat} {e : TypeId} {g n cap : Nat} (h : w.ownsRow base e size (.slice (some ⟨g, 0, none⟩) n cap) n (flat f l)) {k : Nat} {x : α} (hk : l[k]? = some x) : RowAt w g (k * size) (f x) :=
  ⟨fun j v hv => by
    have hc := h.cells (g := g) rfl (k * size + j) v (flat_get hf l k x hk j v hv)
    rwa [Addr.add_lit, Nat.zero_add] at hc⟩
end

/-- A slice made of known parts, by its run. -/
theorem wpList_buildSlice_run {P : Program} {ops : Array Oper} {rest : List Oper} {o' : Oper} {a : Act} {w : World} {Q : Exit → Act → World → Prop} {t e : TypeId} {n : Nat} {parts : Array (Nat × Operand)} {ps : Array (Nat × Value)} {cs : Array Value}
    (ho : o'.op = .buildSlice t n parts) (hw : Region.wanted o' (yielded ops a.tmps) = true) (hp : (parts.map fun (i, x) => (i, a.eval x)) = ps) (hrun : ∀ w, (Instr.buildSlice t n ps).run P w = .ok (.slice (some ⟨w.heap.size, 0, none⟩) n n) (w.alloc (.cells cs e)))
    (hK : wpList P ops Q rest (a.put o'.dst (.slice (some ⟨w.heap.size, 0, none⟩) n n)) (w.alloc (.cells cs e))) : wpList P ops Q (o' :: rest) a w :=
  wpList_want hw fun _ hK' => by
    unfold Oper.wp execOp
    simp only [ho, hp, Sem.run_bind, hrun, Result.andThen_ok, Sem.run_pure]
    exact hK' _ _ hK

/-! ### a row of the call's own that grows -/
/-- Nothing that was there is turned but the row of v; v' lies in v's row, or in a new one. -/
structure Grows (w w' : World) (v v' : Value) : Prop where
  grown : w.grownBy w' v.ownBlock
  own : v'.ownBlock = v.ownBlock ∨ ∃ g, v'.ownBlock = some g ∧ w.heap.size ≤ g
theorem grownBy_refl (w : World) (row : Option Nat) : w.grownBy w row := ⟨rfl, rfl, rfl, Nat.le_refl _, fun _ _ _ => rfl⟩
theorem Grows.refl (w : World) (v : Value) : Grows w w v v := ⟨grownBy_refl w _, .inl rfl⟩
theorem Grows.trans {w w1 w2 : World} {v v1 v2 : Value} (h : Grows w w1 v v1) (h2 : Grows w1 w2 v1 v2) : Grows w w2 v v2 := by
  refine ⟨⟨h2.grown.os.trans h.grown.os, h2.grown.tape.trans h.grown.tape, h2.grown.output.trans h.grown.output, Nat.le_trans h.grown.size h2.grown.size, fun k hk hne => ?_⟩, ?_⟩
  · have hne1 : some k ≠ v1.ownBlock := by
      rcases h.own with e | ⟨g, e, hg⟩
      · rw [e]; exact hne
      · rw [e]; intro h'; injection h' with h'; omega
    exact (h2.grown.block k (Nat.lt_of_lt_of_le hk h.grown.size) hne1).trans (h.grown.block k hk hne)
  · rcases h2.own with e | ⟨g, e, hg⟩
    · rcases h.own with e1 | ⟨g1, e1, hg1⟩
      · exact .inl (e.trans e1)
      · exact .inr ⟨g1, e.trans e1, hg1⟩
    · exact .inr ⟨g, e, Nat.le_trans h.grown.size hg⟩
theorem Grows.below {w w1 : World} {v v1 : Value} (h : Grows w w1 v v1) {w2 : World} (hb : Below w1.heap.size w1 w2) : Grows w w2 v v1 := by
  refine ⟨⟨hb.os.trans h.grown.os, hb.tape.trans h.grown.tape, hb.output.trans h.grown.output, Nat.le_trans h.grown.size hb.size, fun k hk hne => ?_⟩, h.own⟩
  exact (hb.block k (Nat.lt_of_lt_of_le hk h.grown.size)).trans (h.grown.block k hk hne)
theorem Grows.of_below {w w1 : World} (v : Value) (hb : Below w.heap.size w w1) : Grows w w1 v v :=
  ⟨⟨hb.os, hb.tape, hb.output, hb.size, fun k hk _ => hb.block k hk⟩, .inl rfl⟩
theorem bel_grows {B : Nat} {w0 w w' : World} {base : Nat} {e : TypeId} {size : Nat} {v v' : Value} {n : Nat} {xs : List Value} (h : Below B w0 w) (hg : Grows w w' v v') (ho : w.ownsRow base e size v n xs) (hB : B ≤ base) (hs : B ≤ w.heap.size) : Below B w0 w' :=
  bel_grown h hg.grown ho hB hs
theorem Blk.grows {w w' : World} {v v' : Value} {g : Nat} {t : TypeId} {cs : Array Value} (h : Blk w g t cs) (hg : Grows w w' v v') (hne : some g ≠ v.ownBlock) : Blk w' g t cs := h.grown hg.grown hne
section
variable {P : Program} {ops : Array Oper} {rest : List Oper} {o' : Oper} {a : Act} {w : World} {Q : Exit → Act → World → Prop}
/-- 'append(v, x)': x lies in the block that was made last; where the new row lies. -/
theorem wpList_append_grows {cs : Array Value} {e : TypeId} (hgd : o'.guard = none) (s x : Operand) (t : TypeId) (ho : o'.op = .call { callee := .builtin .append, args := #[s, x], argTypes := #[t, t] })
    {base : Nat} {i : TypeInfo} {z : Value} {size bytes : Nat} (ht : P.underlying t = some (.slice e)) (hi : P.info? e = some i) (hz : i.zero = some z)
    (hsize : i.size = size) (hby : i.bytes = bytes) (hzs : z.cells.size = size) (hsz : 0 < size)
    {v : Value} {n : Nat} {xs : List Value} (hs : a.eval s = v) (hown : w.ownsRow base e size v n xs)
    (hx : a.eval x = .slice (some ⟨w.heap.size, 0, none⟩) 1 1) (hcs : cs.size = size) (h1 : ∀ u ∈ cs.toList, u.oneCell' = true)
    (h63 : n + 1 ≤ maxLen) (hbytes : (n + 1) * bytes ≤ 140737488355328) (hbase : base ≤ w.heap.size)
    (h : ∀ g cap w', w'.ownsRow base e size (.slice (some ⟨g, 0, none⟩) (n + 1) cap) (n + 1) (xs ++ cs.toList) → Grows w w' v (.slice (some ⟨g, 0, none⟩) (n + 1) cap) → wpList P ops Q rest (a.put o'.dst (.slice (some ⟨g, 0, none⟩) (n + 1) cap)) w') :
    wpList P ops Q (o' :: rest) a (w.alloc (.cells cs e)) := by
  refine wpList_append_own_at (w.alloc (.cells cs e)) hgd s x t ho base e i z size bytes ht hi hz hsize hby hzs hsz v n xs hs (hown.alloc _) ⟨w.heap.size, 0, none⟩ 1 1 cs.toList hx (by simp [hcs]) ?_ h1 h63 hbytes (by simp; omega) ?_
  · intro j u hu
    rw [Addr.add_lit]
    exact (Blk.new w e cs).row.at_ j u (by simpa using hu)
  · intro v' w' hown' hgrow _ hat
    obtain ⟨g, cap, rfl⟩ := own_form hown' (by omega)
    refine h g cap w' hown' ⟨?_, ?_⟩
    · have := World.grownBy_alloc w (.cells cs e) v.ownBlock
      exact ⟨hgrow.os.trans this.os, hgrow.tape.trans this.tape, hgrow.output.trans this.output, Nat.le_trans this.size hgrow.size, fun k hk hne => (hgrow.block k (Nat.lt_of_lt_of_le hk this.size) hne).trans (this.block k hk hne)⟩
    · rcases hat with e | e
      · exact .inl e
      · exact .inr ⟨_, e, by simp⟩
end

/-! ### what a call hands back -/
def RetSame (v : Value) (w : World) (e : Ending) (w' : World) : Prop := e = .returned v ∧ w = w'
def RetB (v : Value) (w : World) (e : Ending) (w' : World) : Prop := e = .returned v ∧ Below w.heap.size w w'
theorem same_b {P : Program} {f : FuncId} {args : Array Value} {v : Value} {w : World} (h : Calls P f args w (RetSame v w)) : Calls P f args w (RetB v w) := h.mono fun _ _ ⟨h1, h2⟩ => ⟨h1, h2 ▸ Below.refl _ _⟩
/-- A callee that turns nothing, met in a region that draws, in any world of the class. -/
theorem quiet_of {P : Program} {f : FuncId} {args : Array Value} {v : Value} (h : ∀ w, Calls P f args w (RetB v w)) (w : World) (d : Nat) (os : Array Obj) : Calls P f args (grow (redrawn w d) os) fun e w'' => e = .returned v ∧ ∃ p : Regrown, w'' = grow (redrawn w p.d) p.os :=
  Calls.regrown_of (h _)
theorem quiet_same {P : Program} {f : FuncId} {args : Array Value} {v : Value} (h : ∀ w, Calls P f args w (RetSame v w)) (w : World) (d : Nat) (os : Array Obj) : Calls P f args (grow (redrawn w d) os) fun e w'' => e = .returned v ∧ ∃ p : Regrown, w'' = grow (redrawn w p.d) p.os :=
  Calls.regrown_of (same_b (h _))
end Go.Proofs.YtahcedpfnechfaaDoor
