/-
  Merged texts: Mem, QuietTail, Errno, RangeS, CollS, Ints.
-/
import Derived.WalkKit
import Derived.WalkSpells
import Derived.WalkLawsBesides
import Derived.Handy
import Derived.Lib.Hide
import Derived.BigQuiet
import Derived.Lib.QuietBelow
import Derived.Maps.AppendAt
import Derived.StillTail
import Derived.Deep.Quiet
import Derived.Test.YtbidgpeeogoglaaProg
import Derived.RangeFuncNested
import Derived.RangeFuncBound
import Derived.RangeFuncCalls
import Derived.RangeFuncLeaves
import Derived.Shelf.Abstract
import Derived.OwnWalkIn
import Derived.TacticsInMore
import Derived.LoopNIn
import Derived.LoopIn
/-
  Memory words and laws of the walk, over whatever program: rows of cells, blocks known whole, loads and stores of structs; regions that draw, in the class 'Below'.
-/
namespace Go.Proofs.Ytbidgpeeogoglaa
set_option maxRecDepth 100000
open Go.RowKit Go.Sort

/-- The cells cs lie from offset o of block g on. (A structure: so that two that differ are seen to differ at once.) -/
structure RowAt (w : World) (g o : Nat) (cs : Array Value) : Prop where
  at_ : ∀ j v, cs[j]? = some v → w.cell? ⟨g, o + j, none⟩ = some v

/-- Block g is just the cells cs of element type t, none frozen. -/
structure Blk (w : World) (g : Nat) (t : TypeId) (cs : Array Value) : Prop where
  eq : w.heap[g]? = some (.cells cs t (0, 0))

section
variable {w w' : World} {g o : Nat} {t : TypeId} {cs : Array Value}
theorem Blk.lt (h : Blk w g t cs) : g < w.heap.size := by
  rcases Nat.lt_or_ge g w.heap.size with hlt | hge
  · exact hlt
  · have h := h.eq; rw [Array.getElem?_eq_none hge] at h; cases h
theorem Blk.cell (h : Blk w g t cs) (i : Nat) : w.cell? ⟨g, i, none⟩ = cs[i]? := cell_of_row w g i cs t (0, 0) h.eq
theorem Blk.frozen (h : Blk w g t cs) (i : Nat) : w.frozen? ⟨g, i, none⟩ = false := by
  simp [World.frozen?, h.eq]
theorem Blk.new (w : World) (t : TypeId) (cs : Array Value) : Blk (w.alloc (.cells cs t)) w.heap.size t cs := ⟨heap_alloc_new w _⟩
theorem Blk.new_at {w : World} {t : TypeId} {cs : Array Value} {g : Nat} (h : g = w.heap.size) : Blk (w.alloc (.cells cs t)) g t cs := by subst h; exact Blk.new _ _ _
theorem Blk.drew (h : Blk w g t cs) : Blk w.drew g t cs := ⟨h.eq⟩
theorem Blk.alloc (h : Blk w g t cs) (x : Obj) : Blk (w.alloc x) g t cs := ⟨(Below.heap_alloc w x g h.lt).trans h.eq⟩
theorem Blk.set_ (h : Blk w g t cs) (i : Nat) (u : Value) : Blk (w.setCell ⟨g, i, none⟩ u) g t (cs.setIfInBounds i u) := by
  constructor
  simp [World.setCell, Array.getElem?_modify, h.eq]
theorem Blk.far (h : Blk w g t cs) {p : Addr} (hp : g ≠ p.block) (u : Value) : Blk (w.setCell p u) g t cs := ⟨(Below.heap_setCell w p u g hp).trans h.eq⟩
theorem Blk.below {B : Nat} (h : Blk w g t cs) (hb : Below B w w') (hg : g < B) : Blk w' g t cs := ⟨(hb.block g hg).trans h.eq⟩
theorem Blk.grown {row : Option Nat} (h : Blk w g t cs) (hb : w.grownBy w' row) (hg : some g ≠ row) : Blk w' g t cs := ⟨(hb.block g h.lt hg).trans h.eq⟩
theorem Blk.setRow_same (h : Blk w g t cs) (ds : Array Value) : Blk (w.setRow g ds) g t ds := ⟨setRow_heap w g cs ds t _ h.eq⟩
theorem Blk.setRow_ne (h : Blk w g t cs) {k : Nat} (hk : g ≠ k) (ds : Array Value) : Blk (w.setRow k ds) g t cs := ⟨(setRow_other w k g ds hk).trans h.eq⟩
theorem Blk.row (h : Blk w g t cs) : RowAt w g 0 cs := ⟨fun j v hv => by rw [Nat.zero_add, h.cell, hv]⟩

theorem RowAt.below {B : Nat} (h : RowAt w g o cs) (hb : Below B w w') (hg : g < B) : RowAt w' g o cs := ⟨fun j v hv => (hb.cell (p := ⟨g, o + j, none⟩) hg).trans (h.at_ j v hv)⟩
theorem RowAt.alloc (h : RowAt w g o cs) (hg : g < w.heap.size) (x : Obj) : RowAt (w.alloc x) g o cs := h.below ((Below.refl w.heap.size w).alloc (Nat.le_refl _) x) hg
theorem RowAt.grown {row : Option Nat} (h : RowAt w g o cs) (hb : w.grownBy w' row) (hlt : g < w.heap.size) (hg : some g ≠ row) : RowAt w' g o cs :=
  ⟨fun j v hv => (World.cell?_of_block (a := ⟨g, o + j, none⟩) (hb.block g hlt hg)).trans (h.at_ j v hv)⟩
theorem RowAt.cell0 (h : RowAt w g o cs) {v : Value} (hv : cs[0]? = some v) : w.cell? ⟨g, o, none⟩ = some v := by simpa using h.at_ 0 v hv
theorem RowAt.cells (h : RowAt w g o cs) : ∀ j v, cs.toList[j]? = some v → w.cell? ((⟨g, o, none⟩ : Addr).add j) = some v := fun j v hv => by
  rw [Addr.add_lit]; exact h.at_ j v (by simpa using hv)
end

theorem bel_setRow {B g : Nat} {w0 w : World} (hb : Below B w0 w) (hBg : B ≤ g) (cs : Array Value) : Below B w0 (w.setRow g cs) :=
  hb.trans ⟨rfl, rfl, rfl, by simp [World.setRow], fun k hk => setRow_other w g k cs (by omega)⟩

/-! ### loads and stores of structs and arrays -/
section
variable {P : Program}
/-- A struct's or an array's type. -/
def isAggD (d : TypeDesc) : Bool := match d with | .struct _ | .array _ _ => true | _ => false

theorem run_isAgg (w : World) {ty : TypeId} {d : TypeDesc} (hu : P.underlying ty = some d) (hd : isAggD d = true) : (isAgg ty).run P w = .ok true w := by
  unfold isAgg
  rw [Sem.run_bind, run_underlying hu w]
  cases d <;> simp_all [isAggD]

theorem run_loadVar_at (w : World) {ty : TypeId} {d : TypeDesc} (hu : P.underlying ty = some d) (hd : isAggD d = true) {g o : Nat} {cs : Array Value} (hi : (P.info? ty).map (·.size) = some cs.size) (h : RowAt w g o cs) :
    (loadVar ty ⟨g, o, none⟩).run P w = .ok (.agg cs) w := by
  have hl := run_loadCells_list (P := P) w ⟨g, o, none⟩ cs.toList h.cells
  cases hq : P.info? ty with
  | none => simp [hq] at hi
  | some i =>
    have hs : i.size = cs.size := by simpa [hq] using hi
    simp only [Array.length_toList, Array.toArray_toList] at hl
    simp [loadVar, Sem.run_bind, run_isAgg w hu hd, sizeOf, typeInfo, hq, hs, hl]

theorem run_loadAt_at (w : World) {ty : TypeId} {d : TypeDesc} (hu : P.underlying ty = some d) (hd : isAggD d = true) {g o : Nat} {cs : Array Value} (hi : (P.info? ty).map (·.size) = some cs.size) (h : RowAt w g o cs) :
    (Instr.loadAt ty (.pointer (some ⟨g, o, none⟩))).run P w = .ok (.agg cs) w := by
  simp only [Instr.loadAt, Instr.sureAddr, Sem.run_bind, Sem.run_pure, Result.andThen_ok, run_loadVar_at w hu hd hi h]

/-- What a struct's store makes of a block: the new cells from offset o on. -/
def splice (cs : Array Value) (o : Nat) (vs : Array Value) : Array Value := (cs.toList.take o ++ vs.toList ++ cs.toList.drop (o + vs.size)).toArray

theorem splice_all {cs vs : Array Value} (h : vs.size = cs.size) : splice cs 0 vs = vs := by
  unfold splice
  have : cs.toList.drop (0 + vs.size) = [] := by rw [List.drop_eq_nil_iff]; simp; omega
  rw [this]
  simp

theorem run_storeVar_at (w : World) {ty : TypeId} {g o : Nat} {t : TypeId} {cur vs : Array Value} (hi : (P.info? ty).map (·.size) = some vs.size) (hB : Blk w g t cur) (hfit : o + vs.size ≤ cur.size) (h1 : ∀ v ∈ vs.toList, v.oneCell' = true) :
    (storeVar ty ⟨g, o, none⟩ (.agg vs)).run P w = .ok () (w.setRow g (splice cur o vs)) := by
  have hst := run_storeCells_at P g o t vs.toList 0 cur w hB.eq (by simpa using hfit) h1
  cases hq : P.info? ty with
  | none => simp [hq] at hi
  | some i =>
    have hs : i.size = vs.size := by simpa [hq] using hi
    simp only [Nat.add_zero, Array.length_toList] at hst
    simp [storeVar, Sem.run_bind, Value.cells, sizeOf, typeInfo, hq, hs, hst, splice]

section
variable {ops : Array Oper} {rest : List Oper} {o' : Oper} {a : Act} {w : World} {Q : Exit → Act → World → Prop}
theorem wpList_want (hw : Region.wanted o' (yielded ops a.tmps) = true) (h : ∀ K : Act → World → Prop, (∀ a w, wpList P ops Q rest a w → K a w) → o'.wp P a w K Q) : wpList P ops Q (o' :: rest) a w :=
  wpList_step fun K hK => by rw [if_pos hw]; exact h K hK
/-- The load of a struct whose cells are known. -/
theorem wpList_load_at {ty : TypeId} {x : Operand} (ho : o'.op = .load ty x) (hw : Region.wanted o' (yielded ops a.tmps) = true) {g o : Nat} {cs : Array Value} {d : TypeDesc} (hx : a.eval x = .pointer (some ⟨g, o, none⟩)) (h : RowAt w g o cs)
    (hu : P.underlying ty = some d) (hd : isAggD d = true) (hi : (P.info? ty).map (·.size) = some cs.size)
    (hK : wpList P ops Q rest (a.put o'.dst (.agg cs)) w) : wpList P ops Q (o' :: rest) a w :=
  wpList_want hw fun _ hK' => by
    unfold Oper.wp execOp
    simp only [ho, hx, Sem.run_bind, run_loadAt_at w hu hd hi h, Result.andThen_ok, Sem.run_pure]
    exact hK' _ _ hK

/-- The store of a struct into a block that is known whole. -/
theorem wpList_store_at {ty : TypeId} {x y : Operand} (ho : o'.op = .store ty x y) (hw : Region.wanted o' (yielded ops a.tmps) = true) {g o : Nat} {t : TypeId} {cur vs : Array Value} (hx : a.eval x = .pointer (some ⟨g, o, none⟩)) (hy : a.eval y = .agg vs) (hB : Blk w g t cur)
    (hfit : o + vs.size ≤ cur.size) (h1 : ∀ v ∈ vs.toList, v.oneCell' = true) (hi : (P.info? ty).map (·.size) = some vs.size)
    (hK : wpList P ops Q rest (a.put o'.dst undef) (w.setRow g (splice cur o vs))) : wpList P ops Q (o' :: rest) a w :=
  wpList_want hw fun _ hK' => by
    unfold Oper.wp execOp
    simp only [ho, hx, hy, Instr.storeAt, Instr.sureAddr, Sem.run_bind, Sem.run_pure, Result.andThen_ok, run_storeVar_at w hi hB hfit h1]
    exact hK' _ _ hK

/-- The store of a struct over a whole block. -/
theorem wpList_store_all {ty : TypeId} {x y : Operand} (ho : o'.op = .store ty x y) (hw : Region.wanted o' (yielded ops a.tmps) = true) {g : Nat} {t : TypeId} {cur vs : Array Value} (hx : a.eval x = .pointer (some ⟨g, 0, none⟩)) (hy : a.eval y = .agg vs) (hB : Blk w g t cur)
    (hfit : vs.size = cur.size) (h1 : ∀ v ∈ vs.toList, v.oneCell' = true) (hi : (P.info? ty).map (·.size) = some vs.size)
    (hK : wpList P ops Q rest (a.put o'.dst undef) (w.setRow g vs)) : wpList P ops Q (o' :: rest) a w := by
  refine wpList_store_at ho hw hx hy hB (by omega) h1 hi ?_
  rw [splice_all hfit]
  exact hK

theorem setRow_alloc_new (w : World) (cur vs : Array Value) (t : TypeId) : (w.alloc (.cells cur t)).setRow w.heap.size vs = w.alloc (.cells vs t) := by
  unfold World.setRow World.alloc
  congr 1
  apply Array.ext_getElem?
  intro k
  simp only [Array.getElem?_modify, Array.getElem?_push]
  by_cases hk : k = w.heap.size
  · subst hk; simp
  · simp [hk, Ne.symm hk]

/-- The store of a struct into the block that was made last: it is made with those cells. -/
theorem wpList_store_new {t : TypeId} {cur vs : Array Value} {ty : TypeId} {x y : Operand} (ho : o'.op = .store ty x y) (hw : Region.wanted o' (yielded ops a.tmps) = true) (hx : a.eval x = .pointer (some ⟨w.heap.size, 0, none⟩)) (hy : a.eval y = .agg vs)
    (hfit : vs.size = cur.size) (h1 : ∀ v ∈ vs.toList, v.oneCell' = true) (hi : (P.info? ty).map (·.size) = some vs.size)
    (hK : wpList P ops Q rest (a.put o'.dst undef) (w.alloc (.cells vs t))) : wpList P ops Q (o' :: rest) a (w.alloc (.cells cur t)) := by
  refine wpList_store_all ho hw hx hy (Blk.new w t cur) hfit h1 hi ?_
  rw [setRow_alloc_new]
  exact hK
end
end

/-! ### regions that draw their order, in the class 'Below': one walk in the order of the text -/
section
variable {P : Program} {ops : Array Oper} {C : World → Prop} {Q : Act → Prop} {a : Act} {o' : Oper} {rest : List Oper}
theorem wpQuiet_load_at {ty : TypeId} {x : Operand} (ho : o'.op = .load ty x) (hw : Region.wanted o' (yielded ops a.tmps) = true) {g o : Nat} {cs : Array Value} {d : TypeDesc} (hx : a.eval x = .pointer (some ⟨g, o, none⟩)) (h : ∀ w, C w → RowAt w g o cs)
    (hu : P.underlying ty = some d) (hd : isAggD d = true) (hi : (P.info? ty).map (·.size) = some cs.size)
    (hK : wpQuiet P ops C Q rest (a.put o'.dst (.agg cs))) : wpQuiet P ops C Q (o' :: rest) a :=
  wpQuiet_step fun K hK' => by
    rw [if_pos hw]
    refine ⟨.agg cs, fun w hC => ?_, hK' _ hK⟩
    unfold Oper.quietAt execOp
    simp only [ho, hx, Sem.run_bind, run_loadAt_at w hu hd hi (h w hC), Result.andThen_ok, Sem.run_pure, Oper.quietUpon]
    exact ⟨trivial, trivial⟩

/-- Any operation that yields one value in every world of the class, whose run is known. -/
theorem wpQuiet_val (hw : Region.wanted o' (yielded ops a.tmps) = true) (v : Value) (h : ∀ w, C w → (execOp a.eval o').run P w = .ok (.value v) w)
    (hK : wpQuiet P ops C Q rest (a.put o'.dst v)) : wpQuiet P ops C Q (o' :: rest) a :=
  wpQuiet_step fun K hK' => by
    rw [if_pos hw]
    refine ⟨v, fun w hC => ?_, hK' _ hK⟩
    unfold Oper.quietAt
    rw [h w hC]
    exact ⟨rfl, rfl⟩
end

/-- In every world of the class of W the cells of W's blocks read as in W. -/
theorem cells_regrown (W : World) : ∀ (d : Nat) (os : Array Obj) (b o : Nat), b < W.heap.size → (grow (redrawn W d) os).cell? ⟨b, o, none⟩ = W.cell? ⟨b, o, none⟩ :=
  fun d os b o h => (below_regrown W d os).cell (p := ⟨b, o, none⟩) h
theorem RowAt.class_ {W : World} {g o : Nat} {cs : Array Value} (h : RowAt W g o cs) (hg : g < W.heap.size) : ∀ w, (∃ p : Regrown, w = grow (redrawn W p.d) p.os) → RowAt w g o cs := by
  rintro w ⟨p, rfl⟩
  exact h.below (below_regrown W p.d p.os) hg
theorem below_class {W w : World} (h : ∃ p : Regrown, w = grow (redrawn W p.d) p.os) : Below W.heap.size W w := by
  obtain ⟨p, rfl⟩ := h
  exact below_regrown W p.d p.os

/-! ### results that lie in memory -/
section
variable {P : Program}
theorem results_at {fn : Func} {p : Tmp} {ty : TypeId} (h : fn.results = #[.cell p ty]) {tmps : Array Value} {w : World} {g o : Nat} {cs : Array Value} {d : TypeDesc} (hp : tmps.getD p undef = .pointer (some ⟨g, o, none⟩)) (hr : RowAt w g o cs)
    (hu : P.underlying ty = some d) (hd : isAggD d = true) (hi : (P.info? ty).map (·.size) = some cs.size) : (results fn tmps).run P w = .ok (.agg cs) w := by
  have hp' : tmps[p]?.getD undef = .pointer (some ⟨g, o, none⟩) := by simpa using hp
  simp [results, h, hp', asAddr, run_loadVar_at w hu hd hi hr]

theorem results_at_tmp {fn : Func} {p u : Tmp} {ty : TypeId} (h : fn.results = #[.cell p ty, .tmp u]) {tmps : Array Value} {w : World} {g o : Nat} {cs : Array Value} {d : TypeDesc} (hp : tmps.getD p undef = .pointer (some ⟨g, o, none⟩)) (hr : RowAt w g o cs)
    (hu : P.underlying ty = some d) (hd : isAggD d = true) (hi : (P.info? ty).map (·.size) = some cs.size) : (results fn tmps).run P w = .ok (.tuple #[.agg cs, tmps.getD u undef]) w := by
  rw [results_cell_tmp h, hp]
  simp [asAddr, run_loadVar_at w hu hd hi hr, Result.andThen]
end

/-! ### a slice of one struct, and append of one -/
theorem foldl_set_list (off : Nat) : ∀ (l : List Value) (k : Nat) (cs : Array Value), off + k + l.length ≤ cs.size →
    (l.zipIdx k).foldl (fun (cs : Array Value) (x : Value × Nat) => cs.setIfInBounds (off + x.2) x.1) cs = (cs.toList.take (off + k) ++ l ++ cs.toList.drop (off + k + l.length)).toArray
  | [], k, cs, _ => by simp
  | v :: rest, k, cs, h => by
    have ih := foldl_set_list off rest (k + 1) (cs.setIfInBounds (off + k) v) (by simp at h ⊢; omega)
    simp only [List.zipIdx_cons, List.foldl_cons]
    rw [ih]
    congr 1
    have e := list_seg_step cs.toList (off + k) v rest (by simp at h ⊢; omega)
    simpa [Array.toList_setIfInBounds, Nat.add_assoc] using e

theorem fill_splice (off : Nat) (vs cs : Array Value) (h : off + vs.size ≤ cs.size) :
    (vs.zipIdx.foldl (fun cs x => cs.setIfInBounds (off + x.2) x.1) cs) = splice cs off vs := by
  rw [← Array.foldl_toList, Array.toList_zipIdx]
  have := foldl_set_list off vs.toList 0 cs (by simpa using h)
  simpa [splice] using this

theorem fill_one (place : Nat → Option (Nat × Nat)) (cells vs : Array Value) (hp : place 0 = some (0, vs.size)) (hc : cells.size = vs.size) : Instr.fill place cells [(0, .agg vs)] = some vs := by
  have hf := fill_splice 0 vs cells (by omega)
  rw [splice_all hc.symm] at hf
  simp only [Instr.fill, hp, Value.cells, hc]
  rw [if_neg (by simp), hf]

section
variable {P : Program}
theorem run_buildSlice_one (w : World) {t e : TypeId} {vs : Array Value} (ht : P.underlying t = some (.slice e)) {i : TypeInfo} {z : Value} (hi : P.info? e = some i) (hz : i.zero = some z) (hs : i.size = vs.size) (h0 : 0 < vs.size) (hb : vs.size ≤ 16777216) :
    (Instr.buildSlice t 1 #[(0, .agg vs)]).run P w = .ok (.slice (some ⟨w.heap.size, 0, none⟩) 1 1) (w.alloc (.cells vs e)) := by
  have hne : vs.size ≠ 0 := by omega
  have hbb : ¬ 16777216 < vs.size := by omega
  have hf : ∀ cells : Array Value, cells.size = vs.size → Instr.fill (fun i => some (i * vs.size, vs.size)) cells [(0, .agg vs)] = some vs := fun cells hc => fill_one _ cells vs (by simp) hc
  simp [Instr.buildSlice, run_underlying ht, sizeOf, typeInfo, hi, hs, hne, hbb, zeroValue, hz, newRow, Result.andThen, hf]

theorem wpList_buildSlice_one {ops : Array Oper} {rest : List Oper} {o' : Oper} {a : Act} {w : World} {Q : Exit → Act → World → Prop} {t e : TypeId} {x : Operand} {vs : Array Value}
    (ho : o'.op = .buildSlice t 1 #[(0, x)]) (hw : Region.wanted o' (yielded ops a.tmps) = true) (hx : a.eval x = .agg vs) (ht : P.underlying t = some (.slice e)) {i : TypeInfo} {z : Value} (hi : P.info? e = some i) (hz : i.zero = some z) {size : Nat} (hs' : i.size = size) (hv : vs.size = size) (h0' : 0 < size) (hb' : size ≤ 16777216)
    (hK : wpList P ops Q rest (a.put o'.dst (.slice (some ⟨w.heap.size, 0, none⟩) 1 1)) (w.alloc (.cells vs e))) : wpList P ops Q (o' :: rest) a w :=
  wpList_want hw fun _ hK' => by
    subst hv
    have hs := hs'
    have h0 := h0'
    have hb := hb'
    unfold Oper.wp execOp
    simp only [ho, List.map_toArray, List.map_cons, List.map_nil, hx, Sem.run_bind, run_buildSlice_one w ht hi hz hs h0 hb, Result.andThen_ok, Sem.run_pure]
    exact hK' _ _ hK
end

theorem own_form {w : World} {base : Nat} {e : TypeId} {size : Nat} {v : Value} {n : Nat} {xs : List Value} (h : w.ownsRow base e size v n xs) (hn : 0 < n) : ∃ g cap, v = .slice (some ⟨g, 0, none⟩) n cap := by
  rcases h.2 with ⟨_, h0⟩ | ⟨g, cap, cur, hv, _⟩
  · omega
  · exact ⟨g, cap, hv⟩
theorem own_cap {w : World} {base : Nat} {e : TypeId} {size : Nat} {g n cap : Nat} {xs : List Value} (h : w.ownsRow base e size (.slice (some ⟨g, 0, none⟩) n cap) n xs) : n ≤ cap ∧ cap ≤ maxLen ∧ base ≤ g ∧ g < w.heap.size := by
  have hl := h.lt g rfl
  rcases h.2 with ⟨h, _⟩ | ⟨g', cap', cur, hv, _, _, h1, h2, _⟩
  · cases h
  · injection hv with h3 h4 h5
    subst h5
    exact ⟨h1, h2, hl.1, hl.2⟩
section
variable {P : Program} {ops : Array Oper} {rest : List Oper} {o' : Oper} {a : Act} {w : World} {Q : Exit → Act → World → Prop}
/-- 'append(v, x)': x lies in the block that was made last. -/
theorem wpList_append_one {cs : Array Value} {e : TypeId} (hgd : o'.guard = none) (s x : Operand) (t : TypeId) (ho : o'.op = .call { callee := .builtin .append, args := #[s, x], argTypes := #[t, t] })
    {base : Nat} {i : TypeInfo} {z : Value} {size bytes : Nat} (ht : P.underlying t = some (.slice e)) (hi : P.info? e = some i) (hz : i.zero = some z)
    (hsize : i.size = size) (hby : i.bytes = bytes) (hzs : z.cells.size = size) (hsz : 0 < size)
    {v : Value} {n : Nat} {xs : List Value} (hs : a.eval s = v) (hown : w.ownsRow base e size v n xs)
    (hx : a.eval x = .slice (some ⟨w.heap.size, 0, none⟩) 1 1) (hcs : cs.size = size) (h1 : ∀ u ∈ cs.toList, u.oneCell' = true)
    (h63 : n + 1 ≤ maxLen) (hbytes : (n + 1) * bytes ≤ 140737488355328) (hbase : base ≤ w.heap.size)
    (h : ∀ g cap w', w'.ownsRow base e size (.slice (some ⟨g, 0, none⟩) (n + 1) cap) (n + 1) (xs ++ cs.toList) → w.grownBy w' v.ownBlock → wpList P ops Q rest (a.put o'.dst (.slice (some ⟨g, 0, none⟩) (n + 1) cap)) w') :
    wpList P ops Q (o' :: rest) a (w.alloc (.cells cs e)) := by
  refine wpList_append_own (w.alloc (.cells cs e)) hgd s x t ho base e i z size bytes ht hi hz hsize hby hzs hsz v n xs hs (hown.alloc _) ⟨w.heap.size, 0, none⟩ 1 1 cs.toList hx (by simp [hcs]) ?_ h1 h63 hbytes (by simp; omega) ?_
  · intro j u hu
    rw [Addr.add_lit]
    exact (Blk.new w e cs).row.at_ j u (by simpa using hu)
  · intro v' w' hown' hgrow _
    obtain ⟨g, cap, rfl⟩ := own_form hown' (by omega)
    refine h g cap w' hown' ?_
    have := World.grownBy_alloc w (.cells cs e) v.ownBlock
    exact ⟨hgrow.os.trans this.os, hgrow.tape.trans this.tape, hgrow.output.trans this.output, Nat.le_trans this.size hgrow.size, fun k hk hne => (hgrow.block k (Nat.lt_of_lt_of_le hk this.size) hne).trans (this.block k hk hne)⟩
end

/-- 'Below' across a step that may have written a row of the call's own. -/
theorem bel_grown {B : Nat} {w0 w w' : World} {base : Nat} {e : TypeId} {size : Nat} {v : Value} {n : Nat} {xs : List Value} (h : Below B w0 w) (hg : w.grownBy w' v.ownBlock) (ho : w.ownsRow base e size v n xs) (hB : B ≤ base) (hs : B ≤ w.heap.size) : Below B w0 w' :=
  h.grown hg hs fun k hk => by have := (ho.lt k hk).1; omega

/-- What is owned stays owned across a step that turns nothing. -/
theorem own_below {w w' : World} {base : Nat} {e : TypeId} {size : Nat} {v : Value} {n : Nat} {xs : List Value} (h : w.ownsRow base e size v n xs) (hb : Below w.heap.size w w') : w'.ownsRow base e size v n xs :=
  h.kept (row := none) ⟨hb.os, hb.tape, hb.output, hb.size, fun k hk _ => hb.block k hk⟩ (by cases v.ownBlock <;> simp)

/-! ### lists of structs, laid out cell by cell -/
def flat {α : Type} (f : α → Array Value) (l : List α) : List Value := l.flatMap fun x => (f x).toList
section
variable {α : Type} {f : α → Array Value} {l : List α}
theorem flat_nil : flat f [] = [] := rfl
theorem flat_snoc (x : α) : flat f (l ++ [x]) = flat f l ++ (f x).toList := by simp [flat]
theorem flat_append (m : List α) : flat f (l ++ m) = flat f l ++ flat f m := by simp [flat]
theorem flat_get {size : Nat} (hf : ∀ x, (f x).size = size) : ∀ (l : List α) (k : Nat) (x : α), l[k]? = some x → ∀ j v, (f x)[j]? = some v → (flat f l)[k * size + j]? = some v
  | [], k, x, h, _, _, _ => by simp at h
  | y :: l, 0, x, h, j, v, hv => by
    simp at h
    subst h
    have hj : j < (f y).size := (Array.getElem?_eq_some_iff.1 hv).1
    simp only [flat, List.flatMap_cons, Nat.zero_mul, Nat.zero_add]
    rw [List.getElem?_append_left (by simpa using hj)]
    simpa using hv
  | y :: l, k + 1, x, h, j, v, hv => by
    have h' : l[k]? = some x := by simpa using h
    have := flat_get hf l k x h' j v hv
    simp only [flat, List.flatMap_cons]
    rw [List.getElem?_append_right (by simp [hf, Nat.add_mul]; omega)]
    simp only [Array.length_toList, hf]
    rw [show (k + 1) * size + j - size = k * size + j from by rw [Nat.add_mul]; omega]
    exact this
/-- An element of a row of the call's own. -/
theorem own_row {size : Nat} (hf : ∀ x, (f x).size = size) {w : World} {base : Nat} {e : TypeId} {g n cap : Nat} (h : w.ownsRow base e size (.slice (some ⟨g, 0, none⟩) n cap) n (flat f l)) {k : Nat} {x : α} (hk : l[k]? = some x) : RowAt w g (k * size) (f x) :=
  ⟨fun j v hv => by
    have hc := h.cells (g := g) rfl (k * size + j) v (flat_get hf l k x hk j v hv)
    rwa [Addr.add_lit, Nat.zero_add] at hc⟩
end

/-- A slice made of known parts, by its run. -/
theorem wpList_buildSlice_run {P : Program} {ops : Array Oper} {rest : List Oper} {o' : Oper} {a : Act} {w : World} {Q : Exit → Act → World → Prop} {t e : TypeId} {n : Nat} {parts : Array (Nat × Operand)} {ps : Array (Nat × Value)} {cs : Array Value}
    (ho : o'.op = .buildSlice t n parts) (hw : Region.wanted o' (yielded ops a.tmps) = true) (hp : (parts.map fun (i, x) => (i, a.eval x)) = ps) (hrun : ∀ w, (Instr.buildSlice t n ps).run P w = .ok (.slice (some ⟨w.heap.size, 0, none⟩) n n) (w.alloc (.cells cs e)))
    (hK : wpList P ops Q rest (a.put o'.dst (.slice (some ⟨w.heap.size, 0, none⟩) n n)) (w.alloc (.cells cs e))) : wpList P ops Q (o' :: rest) a w :=
  wpList_want hw fun _ hK' => by
    unfold Oper.wp execOp
    simp only [ho, hp, Sem.run_bind, hrun, Result.andThen_ok, Sem.run_pure]
    exact hK' _ _ hK

/-! ### a row of the call's own that grows -/
/-- Nothing that was there is turned but the row of v; v' lies in v's row, or in a new one. -/
structure Grows (w w' : World) (v v' : Value) : Prop where
  grown : w.grownBy w' v.ownBlock
  own : v'.ownBlock = v.ownBlock ∨ ∃ g, v'.ownBlock = some g ∧ w.heap.size ≤ g
theorem grownBy_refl (w : World) (row : Option Nat) : w.grownBy w row := ⟨rfl, rfl, rfl, Nat.le_refl _, fun _ _ _ => rfl⟩
theorem Grows.refl (w : World) (v : Value) : Grows w w v v := ⟨grownBy_refl w _, .inl rfl⟩
theorem Grows.trans {w w1 w2 : World} {v v1 v2 : Value} (h : Grows w w1 v v1) (h2 : Grows w1 w2 v1 v2) : Grows w w2 v v2 := by
  refine ⟨⟨h2.grown.os.trans h.grown.os, h2.grown.tape.trans h.grown.tape, h2.grown.output.trans h.grown.output, Nat.le_trans h.grown.size h2.grown.size, fun k hk hne => ?_⟩, ?_⟩
  · have hne1 : some k ≠ v1.ownBlock := by
      rcases h.own with e | ⟨g, e, hg⟩
      · rw [e]; exact hne
      · rw [e]; intro h'; injection h' with h'; omega
    exact (h2.grown.block k (Nat.lt_of_lt_of_le hk h.grown.size) hne1).trans (h.grown.block k hk hne)
  · rcases h2.own with e | ⟨g, e, hg⟩
    · rcases h.own with e1 | ⟨g1, e1, hg1⟩
      · exact .inl (e.trans e1)
      · exact .inr ⟨g1, e.trans e1, hg1⟩
    · exact .inr ⟨g, e, Nat.le_trans h.grown.size hg⟩
theorem Grows.below {w w1 : World} {v v1 : Value} (h : Grows w w1 v v1) {w2 : World} (hb : Below w1.heap.size w1 w2) : Grows w w2 v v1 := by
  refine ⟨⟨hb.os.trans h.grown.os, hb.tape.trans h.grown.tape, hb.output.trans h.grown.output, Nat.le_trans h.grown.size hb.size, fun k hk hne => ?_⟩, h.own⟩
  exact (hb.block k (Nat.lt_of_lt_of_le hk h.grown.size)).trans (h.grown.block k hk hne)
theorem Grows.of_below {w w1 : World} (v : Value) (hb : Below w.heap.size w w1) : Grows w w1 v v :=
  ⟨⟨hb.os, hb.tape, hb.output, hb.size, fun k hk _ => hb.block k hk⟩, .inl rfl⟩
theorem bel_grows {B : Nat} {w0 w w' : World} {base : Nat} {e : TypeId} {size : Nat} {v v' : Value} {n : Nat} {xs : List Value} (h : Below B w0 w) (hg : Grows w w' v v') (ho : w.ownsRow base e size v n xs) (hB : B ≤ base) (hs : B ≤ w.heap.size) : Below B w0 w' :=
  bel_grown h hg.grown ho hB hs
theorem Blk.grows {w w' : World} {v v' : Value} {g : Nat} {t : TypeId} {cs : Array Value} (h : Blk w g t cs) (hg : Grows w w' v v') (hne : some g ≠ v.ownBlock) : Blk w' g t cs := h.grown hg.grown hne
section
variable {P : Program} {ops : Array Oper} {rest : List Oper} {o' : Oper} {a : Act} {w : World} {Q : Exit → Act → World → Prop}
/-- 'append(v, x)': x lies in the block that was made last; where the new row lies. -/
theorem wpList_append_grows {cs : Array Value} {e : TypeId} (hgd : o'.guard = none) (s x : Operand) (t : TypeId) (ho : o'.op = .call { callee := .builtin .append, args := #[s, x], argTypes := #[t, t] })
    {base : Nat} {i : TypeInfo} {z : Value} {size bytes : Nat} (ht : P.underlying t = some (.slice e)) (hi : P.info? e = some i) (hz : i.zero = some z)
    (hsize : i.size = size) (hby : i.bytes = bytes) (hzs : z.cells.size = size) (hsz : 0 < size)
    {v : Value} {n : Nat} {xs : List Value} (hs : a.eval s = v) (hown : w.ownsRow base e size v n xs)
    (hx : a.eval x = .slice (some ⟨w.heap.size, 0, none⟩) 1 1) (hcs : cs.size = size) (h1 : ∀ u ∈ cs.toList, u.oneCell' = true)
    (h63 : n + 1 ≤ maxLen) (hbytes : (n + 1) * bytes ≤ 140737488355328) (hbase : base ≤ w.heap.size)
    (h : ∀ g cap w', w'.ownsRow base e size (.slice (some ⟨g, 0, none⟩) (n + 1) cap) (n + 1) (xs ++ cs.toList) → Grows w w' v (.slice (some ⟨g, 0, none⟩) (n + 1) cap) → wpList P ops Q rest (a.put o'.dst (.slice (some ⟨g, 0, none⟩) (n + 1) cap)) w') :
    wpList P ops Q (o' :: rest) a (w.alloc (.cells cs e)) := by
  refine wpList_append_own_at (w.alloc (.cells cs e)) hgd s x t ho base e i z size bytes ht hi hz hsize hby hzs hsz v n xs hs (hown.alloc _) ⟨w.heap.size, 0, none⟩ 1 1 cs.toList hx (by simp [hcs]) ?_ h1 h63 hbytes (by simp; omega) ?_
  · intro j u hu
    rw [Addr.add_lit]
    exact (Blk.new w e cs).row.at_ j u (by simpa using hu)
  · intro v' w' hown' hgrow _ hat
    obtain ⟨g, cap, rfl⟩ := own_form hown' (by omega)
    refine h g cap w' hown' ⟨?_, ?_⟩
    · have := World.grownBy_alloc w (.cells cs e) v.ownBlock
      exact ⟨hgrow.os.trans this.os, hgrow.tape.trans this.tape, hgrow.output.trans this.output, Nat.le_trans this.size hgrow.size, fun k hk hne => (hgrow.block k (Nat.lt_of_lt_of_le hk this.size) hne).trans (this.block k hk hne)⟩
    · rcases hat with e | e
      · exact .inl e
      · exact .inr ⟨_, e, by simp⟩
end

/-! ### what a call hands back -/
def RetSame (v : Value) (w : World) (e : Ending) (w' : World) : Prop := e = .returned v ∧ w = w'
def RetB (v : Value) (w : World) (e : Ending) (w' : World) : Prop := e = .returned v ∧ Below w.heap.size w w'
theorem same_b {P : Program} {f : FuncId} {args : Array Value} {v : Value} {w : World} (h : Calls P f args w (RetSame v w)) : Calls P f args w (RetB v w) := h.mono fun _ _ ⟨h1, h2⟩ => ⟨h1, h2 ▸ Below.refl _ _⟩
/-- A callee that turns nothing, met in a region that draws, in any world of the class. -/
theorem quiet_of {P : Program} {f : FuncId} {args : Array Value} {v : Value} (h : ∀ w, Calls P f args w (RetB v w)) (w : World) (d : Nat) (os : Array Obj) : Calls P f args (grow (redrawn w d) os) fun e w'' => e = .returned v ∧ ∃ p : Regrown, w'' = grow (redrawn w p.d) p.os :=
  Calls.regrown_of (h _)
theorem quiet_same {P : Program} {f : FuncId} {args : Array Value} {v : Value} (h : ∀ w, Calls P f args w (RetSame v w)) (w : World) (d : Nat) (os : Array Obj) : Calls P f args (grow (redrawn w d) os) fun e w'' => e = .returned v ∧ ∃ p : Regrown, w'' = grow (redrawn w p.d) p.os :=
  Calls.regrown_of (same_b (h _))
end Go.Proofs.Ytbidgpeeogoglaa
/-
  A region that draws its order: operations that only read or call quietly (in a class of worlds), and behind them a tail in one forced order: one walk in the order of the text, the tail as a plain list. After the library's StillTail, over a class of worlds. Over any program.
-/
namespace Go.Proofs.Ytbidgpeeogoglaa
set_option maxRecDepth 100000
open Go.Sort Go.RowKit

section
variable {P : Program} {ops : Array Oper} {md : Region.Mode} {C : World → Prop}

def wpAnyLQ (P : Program) (md : Region.Mode) (ops : Array Oper) (C : World → Prop) (n : Nat) (L : Array Bool → Act → Prop) : Nat → Array Bool → Act → Prop
  | 0, listed, a => L listed a
  | f + 1, listed, a => Region.ready md ops listed ≠ [] ∧ ∀ i ∈ Region.ready md ops listed, i < n ∧ qOp P ops C i (wpAnyLQ P md ops C n L f (listed.setIfInBounds i true)) a

theorem wpAny_of_headQ {n g : Nat} {L : Array Bool → Act → Prop} {Q' : Exit → Act → World → Prop} (hL : ∀ listed a w, C w → L listed a → wpAny P md ops Q' g listed a w) :
    ∀ (f : Nat) (listed : Array Bool) (a : Act) (w : World), C w → wpAnyLQ P md ops C n L f listed a → wpAny P md ops Q' (f + g) listed a w
  | 0, listed, a, w, hC, h => by rw [Nat.zero_add]; exact hL _ _ _ hC h
  | f + 1, listed, a, w, hC, h => by
    rw [show f + 1 + g = (f + g) + 1 by omega]
    exact ⟨fun h0 => absurd h0 h.1, fun i hi => wpOp_of_qOp hC (fun a' w' hw' h' => wpAny_of_headQ hL f _ a' w' hw' h') (h.2 i hi).2⟩

theorem wpAnyLQ_first {n i : Nat} {oi : Oper} {v : Value} {L : Array Bool → Act → Prop} (hi : ops[i]? = some oi) (hsel : ∀ (j : Nat) (o : Oper) cs b, ops[j]? = some o → o.op ≠ .select cs b)
    (hs : Region.sinkB md ops n = true) (hc : Region.chainB md ops n = true) (hn : n < ops.size) (hin : i < n)
    (hdone : ∀ listed a, L listed a → ∀ j ∈ Region.ready md ops listed, n ≤ j) :
    ∀ (f : Nat) (listed : Array Bool) (a : Act), HeadInv md ops n listed →
      (∀ j oj, ops[j]? = some oj → j ≠ i → listed.getD j true = false → (∀ e ∈ oj.after, Region.binds md e = true → e.on ≠ i) → oi.apart ops oj = true) →
      i ∈ Region.ready md ops listed → YieldsIn P ops C oi v a →
      wpAnyLQ P md ops C n L f (listed.setIfInBounds i true) (a.put oi.dst v) → wpAnyLQ P md ops C n L (f + 1) listed a := by
  intro f
  induction f with
  | zero =>
    intro listed a inv _ hr hy H
    have hun := (mem_ready.1 hr).1
    refine ⟨fun h => (by rw [h] at hr; cases hr), fun j hj => ?_⟩
    have hjn : j < n := by
      rcases Nat.lt_or_ge j n with h | h
      · exact h
      · exact absurd hj (tail_waits hs hc hn inv _ i rfl hin hun j h)
    refine ⟨hjn, ?_⟩
    by_cases hji : j = i
    · subst hji; exact hy.qOp hi H
    · have := hdone _ _ H j (ready_mono hj hji)
      omega
  | succ f ih =>
    intro listed a inv hfree hr hy H
    have hun := (mem_ready.1 hr).1
    refine ⟨fun h => (by rw [h] at hr; cases hr), fun j hj => ?_⟩
    have hjn : j < n := by
      rcases Nat.lt_or_ge j n with h | h
      · exact h
      · exact absurd hj (tail_waits hs hc hn inv _ i rfl hin hun j h)
    refine ⟨hjn, ?_⟩
    by_cases hji : j = i
    · subst hji; exact hy.qOp hi H
    · have h1 := (H.2 j (ready_mono hj hji)).2
      obtain ⟨hjun, oj, hoj, hall⟩ := mem_ready.1 hj
      have hnot : ∀ e ∈ oj.after, Region.binds md e = true → e.on ≠ i := fun e he hb heq => by
        have h1 := hall e he hb
        rw [heq, getD_both hun] at h1
        cases h1
      have h2 := qOp_put hoj (hfree j oj hoj hji hjun hnot) (fun cs b => hsel i oi cs b hi) (fun cs b => hsel j oj cs b hoj) hy h1
      have hfree' : ∀ k ok, ops[k]? = some ok → k ≠ i → (listed.setIfInBounds j true).getD k true = false →
          (∀ e ∈ ok.after, Region.binds md e = true → e.on ≠ i) → oi.apart ops ok = true := fun k ok hk hki hun hno => by
        refine hfree k ok hk hki ?_ hno
        by_cases hjk : j = k
        · subst hjk; exact hjun
        · rw [getD_set_ne true hjk] at hun; exact hun
      refine qOp_mono (fun a' h3 => ih (listed.setIfInBounds j true) a' (inv.set hj hjn) hfree' (ready_mono hr (Ne.symm hji)) h3.1 ?_) h2
      rw [Array.setIfInBounds_comm _ _ hji]
      exact h3.2

theorem wpAnyLQ_lex {n g : Nat} {Lq : Act → Prop} (hsel : Region.noSelect ops = true) (hs : Region.sinkB md ops n = true) (hc : Region.chainB md ops n = true) (hn : n < ops.size) :
    ∀ (l : List Oper) (k : Nat) (listed : Array Bool) (a : Act), (∀ j, j < l.length → l[j]? = ops[k + j]?) → k + l.length = n → HeadInv md ops n listed →
    Region.lexHead md ops g l.length k listed = true → wpQuiet P ops C Lq l a →
    wpAnyLQ P md ops C n (fun listed' a' => Region.seqB md ops g n listed' = true ∧ Lq a') l.length listed a
  | [], k, listed, a, _, hk, _, hB, h => by
    have : k = n := by simpa using hk
    subst this
    exact ⟨by simpa [Region.lexHead] using hB, h⟩
  | o :: l, k, listed, a, hl, hk, inv, hB, h => by
    have h0 : ops[k]? = some o := by simpa using (hl 0 (by simp)).symm
    simp only [List.length_cons, Region.lexHead, Bool.and_eq_true] at hB
    obtain ⟨⟨hr, hf⟩, hB'⟩ := hB
    have hkn : k < n := by simp only [List.length_cons] at hk; omega
    have hr' : k ∈ Region.ready md ops listed := by simpa using hr
    have hst : qOp P ops C k (wpQuiet P ops C Lq l) a := by unfold qOp; simp only [h0]; exact h
    obtain ⟨v, hy, hK⟩ := yieldsIn_of_qOp h0 hst
    exact wpAnyLQ_first h0 (Region.noSelect_spec hsel) hs hc hn hkn (fun listed' a' hL => seqB_ready hL.1) l.length listed a inv (Region.free_spec h0 hf) hr' hy
      (wpAnyLQ_lex hsel hs hc hn l (k + 1) _ _ (fun j hj => by have := hl (j + 1) (by simp; omega); simpa [Nat.add_assoc, Nat.add_comm 1 j] using this) (by simp only [List.length_cons] at hk; omega) (inv.set hr' hkn) hB' hK)

/-- Quiet operations, and then a tail in one forced order: as a plain list, from every world of the class. -/
theorem wp_region_quiet_tail {id : Nat} {Q : Exit → Act → World → Prop} {a : Act} {w : World} {l : List Oper} (n : Nat) (hm : P.follows .mixedOrders = true) (hB : Region.lexTailB .any l.toArray n = true) (hC : C { w with drawn := w.drawn + 1 })
    (h : wpQuiet P l.toArray C (fun a' => ∀ w', C w' → wpList P l.toArray Q (l.drop n) a' w') (l.take n) a) : (Code.region id l.toArray true).wp P Q a w := by
  simp only [Region.lexTailB, Bool.and_eq_true, decide_eq_true_eq] at hB
  obtain ⟨⟨⟨⟨hsel, hn⟩, hs⟩, hc⟩, hlex⟩ := hB
  have hn' : n < l.length := by simpa using hn
  have htl : (l.take n).length = n := by simp; omega
  have hdl : (l.drop n).length = l.toArray.size - n := by simp
  have inv0 : HeadInv .any l.toArray n (Array.replicate l.toArray.size false) :=
    ⟨by simp, fun j oj _ hl => (by rw [getD_replicate_false] at hl; cases hl), fun t _ ht => getD_in (by simpa using ht) (getD_replicate_false _ _)⟩
  have H := wpAnyLQ_lex (md := .any) (g := l.toArray.size - n) hsel hs hc hn (l.take n) 0 _ a (fun j hj => by
    have hj' : j < n := by rw [htl] at hj; exact hj
    simp [hj']) (by simpa using htl) inv0 (by rw [htl]; exact hlex) h
  refine wp_region_any hm ?_
  have := wpAny_of_headQ (Q' := Q) (g := l.toArray.size - n) (fun listed a' w' hw' hL => by
    have := wpAny_of_seq (md := .any) (Q' := Q) (l.drop n) n listed a' w' (fun j => by simp [List.getElem?_drop]) (by rw [hdl]; exact hL.1) (hL.2 w' hw')
    rwa [hdl] at this) _ _ _ _ hC H
  rw [htl, show n + (l.toArray.size - n) = l.toArray.size by omega] at this
  exact this

/-- The same at the class 'Below'. -/
theorem wp_region_quiet_tail_below {id : Nat} {Q : Exit → Act → World → Prop} {a : Act} {w : World} {l : List Oper} (n : Nat) (hm : P.follows .mixedOrders = true) (hB : Region.lexTailB .any l.toArray n = true)
    (h : wpQuiet P l.toArray (fun w' => ∃ p : Regrown, w' = grow (redrawn w p.d) p.os) (fun a' => ∀ w', (∃ p : Regrown, w' = grow (redrawn w p.d) p.os) → wpList P l.toArray Q (l.drop n) a' w') (l.take n) a) : (Code.region id l.toArray true).wp P Q a w :=
  wp_region_quiet_tail (C := fun w' => ∃ p : Regrown, w' = grow (redrawn w p.d) p.os) n hm hB ⟨⟨w.drawn + 1, #[]⟩, by rw [grow_empty]; rfl⟩ h
end
end Go.Proofs.Ytbidgpeeogoglaa
/-
  An error by its number.
-/
namespace Go.Proofs.Ytbidgpeeogoglaa
set_option maxRecDepth 100000
/-- The error with this number. -/
def errno (k : Int) : Value := .iface 73 (.int .i64 k)
end Go.Proofs.Ytbidgpeeogoglaa
/-
  A range over a function, at the wide fence: an iterator's contract whose own cells lie in a zone of blocks, and the law of the statement over it.
-/
namespace Go.Proofs.Ytbidgpeeogoglaa
set_option maxRecDepth 100000
open Go.RowKit Go.Shelf

/-- J minds neither new blocks, nor the turn of a block from B on that is no cells or lies from lo up to hi. -/
def Zone {β : Type} (B lo hi : Nat) (J : β → World → Prop) : Prop :=
  ∀ s W W' row, J s W → W.grownBy W' row → (∀ r, row = some r → B ≤ r ∧ ((lo ≤ r ∧ r < hi) ∨ ∃ o : Obj, W.heap[r]? = some o ∧ o.isCells = false)) → J s W'

section
variable {β : Type} {B lo hi : Nat}
theorem Zone.alloc {J : β → World → Prop} (h : Zone B lo hi J) {s : β} {W : World} (o : Obj) (hs : J s W) : J s (W.alloc o) :=
  h s W _ none hs (World.grownBy_alloc W o none) (fun r e => by cases e)
theorem Zone.putObj {J : β → World → Prop} (h : Zone B lo hi J) {s : β} {W : World} {l : Nat} {o : Obj} (o' : Obj) (hs : J s W) (hB : B ≤ l) (hl : W.heap[l]? = some o) (ho : o.isCells = false) : J s (W.putObj l o') :=
  h s W _ (some l) hs (grownBy_putObj' W l o') (fun r e => by cases e; exact ⟨hB, .inr ⟨o, hl, ho⟩⟩)
theorem Zone.set {J : β → World → Prop} (h : Zone B lo hi J) {s : β} {W : World} {b : Nat} (v : Value) (hs : J s W) (hB : B ≤ b) (h1 : lo ≤ b) (h2 : b < hi) : J s (W.setCell ⟨b, 0, none⟩ v) :=
  h s W _ (some b) hs (grownBy_setCell' W b v) (fun r e => by cases e; exact ⟨hB, .inl ⟨h1, h2⟩⟩)
theorem Zone.and {J K : β → World → Prop} (h : Zone B lo hi J) (k : Zone B lo hi K) : Zone B lo hi (fun s W => J s W ∧ K s W) :=
  fun s W W' row hs hg hr => ⟨h s W W' row hs.1 hg hr, k s W W' row hs.2 hg hr⟩
theorem Zone.ex {γ : Type} {J : γ → β → World → Prop} (h : ∀ c, Zone B lo hi (J c)) : Zone B lo hi (fun s W => ∃ c, J c s W) :=
  fun s W W' row hs hg hr => hs.elim fun c hc => ⟨c, h c s W W' row hc hg hr⟩
theorem Zone.pure (p : β → Prop) : Zone B lo hi (fun s (_ : World) => p s) := fun _ _ _ _ hs _ _ => hs
theorem Zone.none : Zone B lo hi (fun (_ : β) (_ : World) => False) := fun _ _ _ _ hs _ _ => hs
theorem Zone.mono {J : β → World → Prop} (h : Zone B lo hi J) {B' lo' hi' : Nat} (hB : B ≤ B') (hE : hi' ≤ lo' ∨ (lo ≤ lo' ∧ hi' ≤ hi)) : Zone B' lo' hi' J :=
  fun s W W' row hs hg hr => h s W W' row hs hg fun r e => ⟨Nat.le_trans hB (hr r e).1, (hr r e).2.imp (fun h => by omega) id⟩
theorem Zone.map {γ : Type} {J : β → World → Prop} (h : Zone B lo hi J) (f : γ → β) : Zone B lo hi (fun s W => J (f s) W) := fun s W W' row hs hg hr => h (f s) W W' row hs hg hr
theorem Zone.below {n₀ : Nat} {w : World} (hn : n₀ ≤ B) (hB : n₀ ≤ w.heap.size) : Zone B lo hi (fun (_ : β) W => Below n₀ w W) :=
  fun s W W' row hs hg hr => hs.grown hg (Nat.le_trans hB hs.size) (fun k e => Nat.le_trans hn (hr k e).1)
/-- What lay ahead of B. -/
theorem Zone.block {j : Nat} {o : Option Obj} (hj : j < B) : Zone B lo hi (fun (_ : β) W => j < W.heap.size ∧ W.heap[j]? = o) :=
  fun s W W' row hs hg hr => ⟨Nat.lt_of_lt_of_le hs.1 hg.size, (hg.block j hs.1 (fun e => by have := (hr j e.symm).1; omega)).trans hs.2⟩
theorem Zone.size {k : Nat} : Zone B lo hi (fun (_ : β) W => k ≤ W.heap.size) := fun s W W' row hs hg hr => Nat.le_trans hs hg.size
/-- A box out of the zone. -/
theorem Zone.box {b : Nat} {t : TypeId} (hb : b < lo ∨ hi ≤ b) (f : β → Value) : Zone B lo hi (fun s W => Boxed W b t (f s)) :=
  fun s W W' row hs hg hr => hs.kept hg (fun e => by
    rcases (hr b e.symm).2 with h | ⟨o, ho, hc⟩
    · omega
    · rw [show W.heap[b]? = _ from hs] at ho; cases ho; cases hc)
/-- A row of one's own, from hi on. -/
theorem Zone.owns {base : Nat} {t : TypeId} {size : Nat} (hb : hi ≤ base) (v : β → Value) (k : β → Nat) (f : β → List Value) : Zone B lo hi (fun s W => W.ownsRow base t size (v s) (k s) (f s)) := by
  intro s W W' row hs hg hr
  refine hs.kept hg ?_
  rcases hs.2 with ⟨h, _⟩ | ⟨g, cap, cur, h, hbg, hgb, _⟩
  · exact .inl (by rw [h]; rfl)
  · refine .inr fun e' => ?_
    rw [h] at e'
    have e2 : row = some g := by simpa [Value.ownBlock] using e'.symm
    obtain ⟨h1, h2 | ⟨o, ho, hc⟩⟩ := hr g e2
    · omega
    · rw [hgb] at ho; cases ho; cases hc
end

/-- What a round keeps: whatever from B on is no cells; whatever lies below n₀; the blocks x; the zone. -/
structure Kept (B n₀ : Nat) (x : Nat → Prop) (lo hi : Nat) (W W' : World) : Prop where
  others : KeepsFrom B W W'
  below : Below n₀ W W'
  extra : ∀ k, x k → k < W.heap.size → W'.heap[k]? = W.heap[k]?
  zone : ∀ k, lo ≤ k → k < hi → k < W.heap.size → W'.heap[k]? = W.heap[k]?
section
variable {B n₀ lo hi : Nat} {x : Nat → Prop}
theorem Kept.refl (W : World) : Kept B n₀ x lo hi W W := ⟨KeepsFrom.refl _ _, Below.refl _ _, fun _ _ _ => rfl, fun _ _ _ _ => rfl⟩
theorem Kept.trans {X Y Z : World} (h : Kept B n₀ x lo hi X Y) (k : Kept B n₀ x lo hi Y Z) : Kept B n₀ x lo hi X Z :=
  ⟨h.others.trans k.others, h.below.trans k.below, fun j hj h3 => (k.extra j hj (Nat.lt_of_lt_of_le h3 h.below.size)).trans (h.extra j hj h3), fun j h1 h2 h3 => (k.zone j h1 h2 (Nat.lt_of_lt_of_le h3 h.below.size)).trans (h.zone j h1 h2 h3)⟩
theorem Kept.alloc {X Y : World} (h : Kept B n₀ x lo hi X Y) (hn : n₀ ≤ X.heap.size) (o : Obj) : Kept B n₀ x lo hi X (Y.alloc o) :=
  h.trans ⟨(KeepsOthers.alloc _ _).from _, (Below.refl _ _).alloc (Nat.le_trans hn h.below.size) o, fun _ _ h3 => Below.heap_alloc _ _ _ h3, fun k _ _ h3 => Below.heap_alloc _ _ _ h3⟩
theorem Kept.setAt {X Y : World} (h : Kept B n₀ x lo hi X Y) (p : Addr) (hn : n₀ ≤ p.block) (hx : ¬ x p.block) (hz : p.block < lo ∨ hi ≤ p.block) (v : Value) : Kept B n₀ x lo hi X (Y.setCell p v) :=
  h.trans ⟨(KeepsOthers.setCell _ _ _).from _, (Below.refl _ _).setCell hn v, fun k hk _ => Below.heap_setCell _ _ _ k (fun e => hx (e ▸ hk)), fun k h1 h2 _ => Below.heap_setCell _ _ _ k (by omega)⟩
theorem Kept.set {X Y : World} (h : Kept B n₀ x lo hi X Y) {b : Nat} (hn : n₀ ≤ b) (hx : ¬ x b) (hz : b < lo ∨ hi ≤ b) (v : Value) : Kept B n₀ x lo hi X (Y.setCell ⟨b, 0, none⟩ v) := h.setAt ⟨b, 0, none⟩ hn hx hz v
/-- A step that lays blocks and turns one at most, of cells. -/
theorem Kept.grown {X Y Y' : World} {row : Option Nat} (h : Kept B n₀ x lo hi X Y) (hn : n₀ ≤ X.heap.size) (hg : Y.grownBy Y' row) (hr : ∀ r, row = some r → n₀ ≤ r ∧ (¬ x r ∧ (r < lo ∨ hi ≤ r)) ∧ ∀ o : Obj, Y.heap[r]? = some o → o.isCells = true) : Kept B n₀ x lo hi X Y' :=
  h.trans ⟨(KeepsOthers.of_grownBy hg (fun j o e ho => (hr j e).2.2 o ho)).from _, (Below.refl _ _).grown hg (Nat.le_trans hn h.below.size) (fun k e => (hr k e).1),
    fun k hk h3 => hg.block k h3 (fun e => (hr k e.symm).2.1.1 hk), fun k h1 h2 h3 => hg.block k h3 (fun e => by have := (hr k e.symm).2.1.2; omega)⟩
/-- Seen from a loop that began later, with no zone. -/
theorem Kept.far {B' lo' hi' : Nat} {X Y : World} (h : Kept B n₀ x lo hi X Y) (hB : B ≤ B') (hz : hi' ≤ lo') : Kept B' n₀ x lo' hi' X Y :=
  ⟨⟨h.others.size, fun k o hk h1 h2 => h.others.same k o (Nat.le_trans hB hk) h1 h2⟩, h.below, h.extra, fun k h1 h2 _ => by omega⟩
theorem Kept.drew {X Y : World} (h : Kept B n₀ x lo hi X Y) : Kept B n₀ x lo hi X Y.drew := h.trans ⟨(KeepsOthers.drew _).from _, (Below.refl _ _).drew, fun _ _ _ => rfl, fun _ _ _ _ => rfl⟩
/-- A callee that keeps all that lay. -/
theorem Kept.call {X Y Y' : World} (h : Kept B n₀ x lo hi X Y) (hn : n₀ ≤ X.heap.size) (hb : Below Y.heap.size Y Y') : Kept B n₀ x lo hi X Y' :=
  h.trans ⟨⟨hb.size, fun k o _ hk _ => (hb.block k (Array.getElem?_eq_some_iff.1 hk).1).trans hk⟩, hb.mono (Nat.le_trans hn h.below.size), fun k _ h3 => hb.block k h3, fun k _ _ h3 => hb.block k h3⟩
theorem Kept.box {X Y : World} {b : Nat} {t : TypeId} {v : Value} (h : Kept B n₀ x lo hi X Y) (hb : Boxed X b t v) (hz : b < n₀ ∨ x b ∨ (lo ≤ b ∧ b < hi)) : Boxed Y b t v := by
  rcases hz with hz | hz | hz
  · exact (h.below.block b hz).trans hb
  · exact (h.extra b hz hb.lt).trans hb
  · exact (h.zone b hz.1 hz.2 hb.lt).trans hb
end

theorem RoundIn.inRound {F : Fence} {n : Nat} {P : Program} {l : Nat} {f : FuncId} {tmps : Array Value} {assign body : Code} {w : World} {R : Ending → World → Prop} (l2 : Nat) (h : RoundIn F n P l f tmps assign body w R) : RoundIn (F.inRound l2) n P l f tmps assign body w R := h

/-- **AN ITERATOR's CONTRACT**: the function g with the captured values lb hands out just the elements xs, in their order, or a part of them from the first on where a round has said 'no more'. c: how many blocks it lays of its own ahead of the first round, which it may turn. A round keeps what lies below n₀, and the blocks z. -/
def Seqs {α : Type} (P : Program) (g : Nat) (lb : Array Value) (encs : α → Array Value) (n₀ : Nat) (z : Nat → Prop) (c : Nat) (xs : List α) (w : World) : Prop :=
  ∀ (l : Nat) (J Jx : List α → World → Prop) (W : World), Below w.heap.size w W → Zone W.heap.size W.heap.size (W.heap.size + c) J → Zone W.heap.size W.heap.size (W.heap.size + c) Jx →
    (∀ pre x W1, J pre W1 → W.heap.size + c ≤ W1.heap.size → pre ++ [x] <+: xs → YieldAt Fence.wide 5 P l (encs x) W1 fun e W' =>
      (e = .returned (.bool true) ∧ J (pre ++ [x]) W' ∧ Kept W.heap.size n₀ z W.heap.size (W.heap.size + c) W1 W') ∨ (e = .returned (.bool false) ∧ Jx (pre ++ [x]) W' ∧ Kept W.heap.size n₀ z W.heap.size (W.heap.size + c) W1 W')) →
    J [] W →
    Calls P g (#[.func (.yield l) #[] #[]] ++ lb) W fun e W' => (∃ v, e = .returned v) ∧ (J xs W' ∨ ∃ pre, pre <+: xs ∧ Jx pre W')
theorem Seqs.later {α : Type} {P : Program} {g : Nat} {lb : Array Value} {encs : α → Array Value} {n₀ c : Nat} {z : Nat → Prop} {xs : List α} {w w' : World} (h : Seqs P g lb encs n₀ z c xs w) (hb : Below w.heap.size w w') : Seqs P g lb encs n₀ z c xs w' :=
  fun l J Jx W hW hJ hJx hY h0 => h l J Jx W (hb.trans (hW.mono hb.size)) hJ hJx hY h0

/-- How a round may be left. -/
def roundEnd {α : Type} (B n₀ : Nat) (z : Nat → Prop) (c : Nat) (I : List α → World → Prop) (Ix : Code → List α → World → Prop) (ys : List α) (W : World) : Exit → Act → World → Prop
  | .normal, _, W' => Kept B n₀ z (B + 2) (B + 2 + c) W W' ∧ I ys W'
  | .ret, _, W' => Kept B n₀ z (B + 2) (B + 2 + c) W W' ∧ Ix .ret ys W'
  | .exit id, _, W' => Kept B n₀ z (B + 2) (B + 2 + c) W W' ∧ Ix (.exit id) ys W'
  | .goto t, _, W' => Kept B n₀ z (B + 2) (B + 2 + c) W W' ∧ Ix (.goto t) ys W'
  | .panic _, _, _ => False
  | .outgrown, _, _ => False

theorem below_putObj {n₀ : Nat} {W0 W : World} (h : Below n₀ W0 W) {l : Nat} (hl : n₀ ≤ l) (o : Obj) (hW : n₀ ≤ W.heap.size) : Below n₀ W0 (W.putObj l o) :=
  h.grown (grownBy_putObj' W l o) hW (fun k e => by cases e; exact hl)

/-- **THE STATEMENT 'for .. := range g { .. }'**, over an iterator that has its contract. -/
theorem wpIn_seqs {α : Type} {P : Program} {g : Operand} {ps : Array Tmp} {assign body : Code} {Q : Exit → Act → World → Prop} {a : Act} {w : World} {n : Nat}
    {gf : Nat} {lb : Array Value} (hg : a.eval g = .func (.func gf) #[] lb) (eg : ∀ args w, (callFunc gf args).run P w = .ok (.enter gf args) w)
    {encs : α → Array Value} {n₀ c : Nat} {z : Nat → Prop} {xs : List α} {w0 : World} (hseq : Seqs P gf lb encs n₀ z c xs w0) (hn₀ : n₀ ≤ w.heap.size) (hz0 : ∀ k, z k → k < w.heap.size) (hb0 : Below w0.heap.size w0 w) (hps : ∀ x, (encs x).size = ps.size)
    (I : List α → World → Prop) (Ix : Code → List α → World → Prop) (hI : Zone w.heap.size (w.heap.size + 2) (w.heap.size + 2 + c) I) (hIx : ∀ cd, Zone w.heap.size (w.heap.size + 2) (w.heap.size + 2 + c) (Ix cd)) (h0 : I [] w)
    (hround : ∀ (l : Nat) (pre : List α) (x : α) (W : World), pre ++ [x] <+: xs → assign.wpIn (Fence.wide.inRound l) 5 P
      (Exit.then (fun a' W' => W' = W ∧ ∀ V, w.heap.size + 2 + c ≤ V.heap.size → I pre V → body.wpIn (Fence.wide.inRound l) 5 P (roundEnd w.heap.size n₀ z c I Ix (pre ++ [x]) V) a' V) (fun _ _ _ => False))
      { tmps := (ps.zip (encs x)).foldl (fun t (p, v) => t.setIfInBounds p v) a.tmps, defers := [] } W)
    (hdone : ∀ W, I xs W → W.heap[w.heap.size]? = some (.deferred (some [])) → Q .normal { a with defers := { target := .collected w.heap.size, args := #[] } :: a.defers } W)
    (hstop : ∀ (cd : Code) (pre : List α) (W : World), pre <+: xs → Ix cd pre W → W.heap[w.heap.size]? = some (.deferred (some [])) → cd.wpIn Fence.wide n P Q { a with defers := { target := .collected w.heap.size, args := #[] } :: a.defers } W) :
    (Code.rangeFunc g ps assign body).wpIn Fence.wide n P Q a w := by
  refine wpIn_rangeFunc ?_
  intro fn _
  obtain ⟨mk, hmk⟩ : ∃ mk : LoopState → Option Code → Loop, mk = fun st pe => { state := st, pending := pe, fn, tmps := a.tmps, params := ps, assign, body, defers := w.heap.size } := ⟨_, rfl⟩
  obtain ⟨V, hV⟩ : ∃ V, (w.alloc (.deferred (some []))).alloc (.loop (mk .ready none)) = V := ⟨_, rfl⟩
  have hVs : V.heap.size = w.heap.size + 2 := by rw [← hV]; simp
  have hVL : V.heap[w.heap.size + 1]? = some (.loop (mk .ready none)) := by
    rw [← hV]; have := World.alloc_heap_new (w.alloc (.deferred (some []))) (.loop (mk .ready none)); rwa [World.size_alloc] at this
  have hVD : V.heap[w.heap.size]? = some (.deferred (some [])) := by
    rw [← hV]; exact (Below.heap_alloc _ _ _ (by simp)).trans (World.alloc_heap_new w _)
  have hVI : I [] V := by rw [← hV]; exact hI.alloc _ (hI.alloc _ h0)
  have hVb : Below w0.heap.size w0 V := by
    rw [← hV]; exact hb0.trans ((((Below.refl _ w).alloc (Nat.le_refl _) _).alloc (by simp) _).mono hb0.size)
  -- what the iterator may do leaves the two blocks as they are
  have far : ∀ {A A' : World} {row : Option Nat} {k : Nat} {o : Obj}, A.grownBy A' row → (∀ r, row = some r → V.heap.size ≤ r ∧ ((V.heap.size ≤ r ∧ r < V.heap.size + c) ∨ ∃ o : Obj, A.heap[r]? = some o ∧ o.isCells = false)) → k < w.heap.size + 2 → A.heap[k]? = some o → A'.heap[k]? = some o :=
    fun hg hr hk ho => (hg.block _ (Array.getElem?_eq_some_iff.1 ho).1 (fun e => by have := (hr _ e.symm).1; omega)).trans ho
  have wide : ∀ {A : World} {row : Option Nat}, (∀ r, row = some r → V.heap.size ≤ r ∧ ((V.heap.size ≤ r ∧ r < V.heap.size + c) ∨ ∃ o : Obj, A.heap[r]? = some o ∧ o.isCells = false)) → (∀ r, row = some r → w.heap.size ≤ r ∧ ((w.heap.size + 2 ≤ r ∧ r < w.heap.size + 2 + c) ∨ ∃ o : Obj, A.heap[r]? = some o ∧ o.isCells = false)) :=
    fun hr r e => ⟨by have := (hr r e).1; omega, (hr r e).2.imp (fun h => by omega) id⟩
  refine ⟨w.heap.size + 1, [{ target := .collected w.heap.size, args := #[] }], V, { target := .fn (.func gf) lb, args := #[.func (.yield (w.heap.size + 1)) #[] #[]] }, V, gf,
    #[.func (.yield (w.heap.size + 1)) #[] #[]] ++ lb, V, ?_, ?_, fun _ _ => trivial, ?_, (fun h => (by simp [Fence.wide] at h)), ?_⟩
  · rw [← hV, hmk]; exact run_enterLoop_outer _ _ _ _ _
  · simp only [resolve, hg]
    simp [go_sem]
  · simp [invoke, go_sem, eg]
  · refine callsIn_wide.2 ((hseq (w.heap.size + 1)
      (fun pre W => I pre W ∧ W.heap[w.heap.size + 1]? = some (.loop (mk .ready none)) ∧ W.heap[w.heap.size]? = some (.deferred (some [])))
      (fun pre W => ∃ cd, Ix cd pre W ∧ W.heap[w.heap.size + 1]? = some (.loop (mk .done (some cd))) ∧ W.heap[w.heap.size]? = some (.deferred (some [])))
      V hVb
      (fun s A A' row hs hg' hr => ⟨hI s A A' row hs.1 hg' (wide hr), far hg' hr (by omega) hs.2.1, far hg' hr (by omega) hs.2.2⟩)
      (fun s A A' row hs hg' hr => by
        obtain ⟨cd, hc, hl, hk⟩ := hs
        exact ⟨cd, hIx cd s A A' row hc hg' (wide hr), far hg' hr (by omega) hl, far hg' hr (by omega) hk⟩)
      ?_ ⟨hVI, hVL, hVD⟩).mono ?_)
    · rintro pre x W ⟨hi, hl, hk⟩ hsz hpre
      have hlt : w.heap.size + 1 < W.heap.size := (Array.getElem?_eq_some_iff.1 hl).1
      have hy := run_yield (P := P) (args := encs x) hl (by rw [hmk]; exact hps x)
      rw [hmk] at hy
      refine ⟨fn, _, assign, body, hy, roundIn_of_wpIn trivial (wpIn_mono (hround _ pre x W hpre) ?_)⟩
      intro e0 a0 W0 h0
      cases e0 <;> try exact h0
      obtain ⟨e1, hbody⟩ := h0
      rw [e1]
      refine ⟨_, run_beginRound hl (by rw [hmk]), ?_⟩
      have hl2 : (W.putObj (w.heap.size + 1) (.loop { mk .ready none with state := .busy })).heap[w.heap.size + 1]? = some (.loop { mk .ready none with state := .busy }) := World.putObj_heap_same hlt
      have hk2 : (W.putObj (w.heap.size + 1) (.loop { mk .ready none with state := .busy })).heap[w.heap.size]? = some (.deferred (some [])) := (World.putObj_heap_other (by omega)).trans hk
      have hw2 : Below n₀ W (W.putObj (w.heap.size + 1) (.loop { mk .ready none with state := .busy })) := below_putObj (Below.refl _ _) (by omega) _ (by omega)
      refine wpIn_mono (hbody _ (by rw [World.putObj_size]; omega) (hI.putObj _ hi (by omega) hl rfl)) ?_
      have fin : ∀ (jump : Option Code) (W3 : World), KeepsFrom w.heap.size (W.putObj (w.heap.size + 1) (.loop { mk .ready none with state := .busy })) W3 →
          (Instr.endRound (w.heap.size + 1) jump).run P W3 = .ok (.bool jump.isNone) (W3.putObj (w.heap.size + 1) (.loop (mk (if jump.isNone then .ready else .done) jump))) ∧
          W3.heap[w.heap.size + 1]? = some (.loop { mk .ready none with state := .busy }) ∧
          (W3.putObj (w.heap.size + 1) (.loop (mk (if jump.isNone then .ready else .done) jump))).heap[w.heap.size + 1]? = some (.loop (mk (if jump.isNone then .ready else .done) jump)) ∧
          (W3.putObj (w.heap.size + 1) (.loop (mk (if jump.isNone then .ready else .done) jump))).heap[w.heap.size]? = some (.deferred (some [])) := fun jump W3 hk3 => by
        have hl3 := hk3.same _ _ (by omega) hl2 rfl
        have := run_endRound (P := P) jump hl3
        rw [hmk] at this ⊢
        exact ⟨this, by rw [hmk] at hl3; exact hl3, World.putObj_heap_same (Array.getElem?_eq_some_iff.1 hl3).1, (World.putObj_heap_other (by omega)).trans (hk3.same _ _ (Nat.le_refl _) hk2 rfl)⟩
      have bel : ∀ (o : Obj) (W3 : World), Kept w.heap.size n₀ z (w.heap.size + 2) (w.heap.size + 2 + c) (W.putObj (w.heap.size + 1) (.loop { mk .ready none with state := .busy })) W3 → Kept V.heap.size n₀ z V.heap.size (V.heap.size + c) W (W3.putObj (w.heap.size + 1) o) :=
        fun o W3 hb3 => by
          have hsz3 := hb3.below.size
          rw [World.putObj_size] at hsz3
          refine ⟨⟨by rw [World.putObj_size]; exact hsz3, fun k o' hk1 hk2 hk3 => (World.putObj_heap_other (by omega)).trans (hb3.others.same k o' (by omega) ((World.putObj_heap_other (by omega)).trans hk2) hk3)⟩, below_putObj (hw2.trans hb3.below) (by omega) _ (by omega), fun k hk h3 => by have h4 := hz0 k hk; exact (World.putObj_heap_other (by omega)).trans ((hb3.extra k hk (by rw [World.putObj_size]; exact h3)).trans (World.putObj_heap_other (by omega))), fun k h1 h2 h3 => ?_⟩
          exact (World.putObj_heap_other (by omega)).trans ((hb3.zone k (by omega) (by omega) (by rw [World.putObj_size]; exact h3)).trans (World.putObj_heap_other (by omega)))
      rintro e a3 W3 hp
      cases e with
      | normal =>
        obtain ⟨hb3, hi3⟩ := hp
        have hk3 := hb3.others
        obtain ⟨hr, hl3, hl4, hk4⟩ := fin none W3 hk3
        exact ⟨_, _, hr, .inl ⟨rfl, ⟨hI.putObj _ hi3 (by omega) hl3 rfl, hl4, hk4⟩, bel _ _ hb3⟩⟩
      | ret =>
        obtain ⟨hb3, hi3⟩ := hp
        have hk3 := hb3.others
        obtain ⟨hr, hl3, hl4, hk4⟩ := fin (some .ret) W3 hk3
        exact ⟨_, _, hr, .inr ⟨rfl, ⟨.ret, (hIx _).putObj _ hi3 (by omega) hl3 rfl, hl4, hk4⟩, bel _ _ hb3⟩⟩
      | exit id =>
        obtain ⟨hb3, hi3⟩ := hp
        have hk3 := hb3.others
        obtain ⟨hr, hl3, hl4, hk4⟩ := fin (some (.exit id)) W3 hk3
        exact ⟨_, _, hr, .inr ⟨rfl, ⟨.exit id, (hIx _).putObj _ hi3 (by omega) hl3 rfl, hl4, hk4⟩, bel _ _ hb3⟩⟩
      | goto t =>
        obtain ⟨hb3, hi3⟩ := hp
        have hk3 := hb3.others
        obtain ⟨hr, hl3, hl4, hk4⟩ := fin (some (.goto t)) W3 hk3
        exact ⟨_, _, hr, .inr ⟨rfl, ⟨.goto t, (hIx _).putObj _ hi3 (by omega) hl3 rfl, hl4, hk4⟩, bel _ _ hb3⟩⟩
      | panic ch => exact hp.elim
      | outgrown => exact hp.elim
    · rintro e W2 ⟨⟨v, rfl⟩, (⟨hi, hl, hk⟩ | ⟨pre, hSp, cd, hi, hl, hk⟩)⟩
      · exact ⟨none, _, by have := run_endLoop (P := P) hl (by rw [hmk]; simp); rw [hmk] at this; exact this, hdone _ (hI.putObj _ hi (by omega) hl rfl) ((World.putObj_heap_other (by omega)).trans hk)⟩
      · exact ⟨some cd, _, by have := run_endLoop (P := P) hl (by rw [hmk]; simp); rw [hmk] at this; exact this, hstop cd pre _ hSp ((hIx cd).putObj _ hi (by omega) hl rfl) ((World.putObj_heap_other (by omega)).trans hk)⟩

/-- The marks of ranges over functions among a function's deferred calls, each block ready to be taken. -/
def marks (ds : List Nat) : List Deferred := ds.map fun D => { target := .collected D, args := #[] }
structure Marked (B : Nat) (ds : List Nat) (W : World) : Prop where
  at_ : ∀ D ∈ ds, B ≤ D ∧ W.heap[D]? = some (.deferred (some []))
  nodup : ds.Nodup
theorem Marked.nil (B : Nat) (W : World) : Marked B [] W := ⟨fun _ h => (by cases h), List.nodup_nil⟩
theorem leaves_marks {P : Program} {fn : Func} {tmps : Array Value} {R : Ending → World → Prop} {n : Nat} {B : Nat} : ∀ (ds : List Nat) (W : World), Marked B ds W →
    (∀ W', Below B W W' → (∀ (g : Nat) (cs : Array Value) t f, W.heap[g]? = some (.cells cs t f) → W'.heap[g]? = some (.cells cs t f)) → LeavesIn Fence.wide n P fn tmps R [] .returning W') → B ≤ W.heap.size →
    LeavesInM Fence.wide n P fn tmps R (marks ds) .returning W
  | [], W, _, h, _ => h W (Below.refl _ _) (fun _ _ _ _ h => h)
  | D :: ds, W, hm, h, hB => by
    obtain ⟨hD1, hD2⟩ := hm.at_ D (List.mem_cons_self ..)
    have hnd := List.nodup_cons.1 hm.nodup
    refine ⟨by simp, .inl ⟨D, _, rfl, run_takeDeferred hD2, leaves_marks ds _ ⟨fun D' hD' => ⟨(hm.at_ D' (List.mem_cons_of_mem _ hD')).1, (World.putObj_heap_other (fun e => hnd.1 (by rw [← e]; exact hD'))).trans (hm.at_ D' (List.mem_cons_of_mem _ hD')).2⟩, hnd.2⟩ ?_ (by rw [World.putObj_size]; exact hB)⟩⟩
    intro W' hb hc
    refine h W' ((below_putObj (Below.refl _ _) hD1 _ hB).trans hb) fun g cs t f hg => hc g cs t f ?_
    refine (World.putObj_heap_other ?_).trans hg
    rintro rfl
    rw [hD2] at hg; cases hg
end Go.Proofs.Ytbidgpeeogoglaa
/-
  A loop over an iterator that collects into a slice of its own: what the walk owes at an append; a function's body walked at the plain fence, with its marks.
-/
namespace Go.Proofs.Ytbidgpeeogoglaa
set_option maxRecDepth 100000
open Go.RowKit Go.Shelf

/-- One or more new elements behind a row of one's own, in a round. -/
theorem wpListIn_append_new {F : Fence} {n : Nat} {P : Program} {w : World} {ops : Array Oper} {rest : List Oper} {o' : Oper} {a : Act} {Q : Exit → Act → World → Prop} {cs : Array Value} {e : TypeId} (hgd : o'.guard = none) (s x : Operand) (t : TypeId) (ho : o'.op = .call { callee := .builtin .append, args := #[s, x], argTypes := #[t, t] })
    {base : Nat} {i : TypeInfo} {z : Value} {size bytes : Nat} (ht : P.underlying t = some (.slice e)) (hi : P.info? e = some i) (hz : i.zero = some z)
    (hsize : i.size = size) (hby : i.bytes = bytes) (hzs : z.cells.size = size) (hsz : 0 < size)
    {v : Value} {k : Nat} {xs : List Value} (hs : a.eval s = v) (hown : w.ownsRow base e size v k xs) (m : Nat)
    (hx : a.eval x = .slice (some ⟨w.heap.size, 0, none⟩) (m + 1) (m + 1)) (hcs : cs.size = (m + 1) * size) (h1 : ∀ u ∈ cs.toList, u.oneCell' = true)
    (h63 : k + (m + 1) ≤ maxLen) (hbytes : (k + (m + 1)) * bytes ≤ 140737488355328) (hbase : base ≤ w.heap.size)
    (h : ∀ g cap w', w'.ownsRow base e size (.slice (some ⟨g, 0, none⟩) (k + (m + 1)) cap) (k + (m + 1)) (xs ++ cs.toList) → (w.alloc (.cells cs e)).grownBy w' v.ownBlock → wpListIn F n P ops Q rest (a.put o'.dst (.slice (some ⟨g, 0, none⟩) (k + (m + 1)) cap)) w') :
    wpListIn F n P ops Q (o' :: rest) a (w.alloc (.cells cs e)) := by
  refine wpListIn_append_own (w.alloc (.cells cs e)) hgd s x t ho base e i z size bytes ht hi hz hsize hby hzs hsz v k xs hs (hown.alloc _) ⟨w.heap.size, 0, none⟩ (m + 1) (m + 1) cs.toList hx (by simp [hcs]) ?_ h1 h63 hbytes (by simp; omega) ?_
  · intro j u hu
    rw [Addr.add_lit]
    exact (Blk.new w e cs).row.at_ j u (by simpa using hu)
  · intro v' w' hown' hgrow _
    obtain ⟨g', cap', rfl⟩ := ownsRow_succ hown'
    exact h g' cap' w' hown' hgrow

/-- Since w: the box b holds a row of one's own of the values xs (from base on); nothing else that lay in w has turned. -/
structure Coll (w : World) (b : Nat) (tb : TypeId) (base : Nat) (te : TypeId) (size k : Nat) (xs : List Value) (W : World) (v : Value) : Prop where
  box : Boxed W b tb v
  row : W.ownsRow base te size v k xs
  grown : w.grownBy W (some b)

theorem Zone.coll {β : Type} {B lo hi : Nat} {w : World} {b : Nat} {tb : TypeId} {base : Nat} {te : TypeId} {size : Nat} (hb : b < lo) (hbase : hi ≤ base) (hw : w.heap.size ≤ B) (k : β → Nat) (f : β → List Value) :
    Zone B lo hi (fun s W => ∃ v, Coll w b tb base te size (k s) (f s) W v) := by
  intro s W W' row hs hg hr
  obtain ⟨v, h1, h2, h3⟩ := hs
  refine ⟨v, Zone.box (β := Unit) (.inl hb) (fun _ => v) () W W' row h1 hg hr, Zone.owns (β := Unit) hbase (fun _ => v) (fun _ => k s) (fun _ => f s) () W W' row h2 hg hr, ?_⟩
  refine ⟨hg.os.trans h3.os, hg.tape.trans h3.tape, hg.output.trans h3.output, Nat.le_trans h3.size hg.size, fun j hj hne => ?_⟩
  exact (hg.block j (Nat.lt_of_lt_of_le hj h3.size) (fun e => by have := (hr j e.symm).1; omega)).trans (h3.block j hj hne)
theorem Zone.grownBy {β : Type} {B lo hi : Nat} {w : World} {b : Option Nat} (hw : w.heap.size ≤ B) : Zone B lo hi (fun (_ : β) W => w.grownBy W b) :=
  fun s W W' row h3 hg hr => ⟨hg.os.trans h3.os, hg.tape.trans h3.tape, hg.output.trans h3.output, Nat.le_trans h3.size hg.size, fun j hj hne => (hg.block j (Nat.lt_of_lt_of_le hj h3.size) (fun e => by have := (hr j e.symm).1; omega)).trans (h3.block j hj hne)⟩
theorem Zone.blk {β : Type} {B lo hi b : Nat} {t : TypeId} (hb : b < lo ∨ hi ≤ b) (f : β → Array Value) : Zone B lo hi (fun s W => Blk W b t (f s)) :=
  fun s W W' row hs hg hr => hs.grown hg (fun e => by
    rcases (hr b e.symm).2 with h | ⟨o, ho, hc⟩
    · omega
    · rw [hs.eq] at ho; cases ho; cases hc)
theorem Coll.start {w : World} {b : Nat} {tb : TypeId} (h : Boxed w b tb (.slice none 0 0)) (base : Nat) (te : TypeId) (size : Nat) : Coll w b tb base te size 0 [] w (.slice none 0 0) :=
  ⟨h, World.ownsRow_nil _ _ _ _, ⟨rfl, rfl, rfl, Nat.le_refl _, fun _ _ _ => rfl⟩⟩
/-- **'l = append(l, ..)' in a round**, the list in a box. -/
theorem append_box {V w1 : World} {b : Nat} {tb : TypeId} {base : Nat} {te : TypeId} {size k k' : Nat} {xs ys : List Value} {v v' : Value} {tmp : Obj} (hbox : Boxed V b tb v) (hrow : V.ownsRow base te size v k xs)
    (hb : b < base) (hV : base ≤ V.heap.size) (hown : w1.ownsRow base te size v' k' ys) (hgrow : (V.alloc tmp).grownBy w1 v.ownBlock) :
    Boxed w1 b tb v ∧ Boxed (w1.setCell ⟨b, 0, none⟩ v') b tb v' ∧ (w1.setCell ⟨b, 0, none⟩ v').ownsRow base te size v' k' ys ∧
    (∀ B n₀ (x : Nat → Prop) lo hi, n₀ ≤ b → ¬ x b → (∀ k, base ≤ k → ¬ x k) → b < lo → hi ≤ base → Kept B n₀ x lo hi V (w1.setCell ⟨b, 0, none⟩ v')) ∧ (∀ j, j < base → j ≠ b → (w1.setCell ⟨b, 0, none⟩ v').heap[j]? = V.heap[j]?) ∧
    (∀ w : World, w.heap.size ≤ base → w.grownBy V (some b) → w.grownBy (w1.setCell ⟨b, 0, none⟩ v') (some b)) := by
  have hob : ∀ r, v.ownBlock = some r → base ≤ r ∧ ∃ cs t f, V.heap[r]? = some (.cells cs t f) := fun r e => by
    rcases hrow.2 with ⟨e0, _⟩ | ⟨g, cap, cur, e0, hbg, hgb, _⟩
    · rw [e0] at e; cases e
    · rw [e0] at e
      obtain rfl : g = r := by simpa [Value.ownBlock] using e
      exact ⟨hbg, _, _, _, hgb⟩
  have hv1 : Boxed w1 b tb v := (hbox.alloc tmp).kept hgrow (fun e => by have := (hob b e.symm).1; omega)
  have hob' : v'.ownBlock = none ∨ some b ≠ v'.ownBlock := .inr fun e => by
    rcases hown.2 with ⟨e0, _⟩ | ⟨g, cap, cur, e0, hbg, _⟩
    · rw [e0] at e; cases e
    · rw [e0] at e
      obtain rfl : b = g := by simpa [Value.ownBlock] using e
      omega
  have hsame : ∀ j, j < base → j ≠ b → (w1.setCell ⟨b, 0, none⟩ v').heap[j]? = V.heap[j]? := fun j hj hne =>
    (Below.heap_setCell w1 ⟨b, 0, none⟩ v' j hne).trans ((hgrow.block j (by rw [World.size_alloc]; omega) (fun e => by have := (hob j e.symm).1; omega)).trans (Below.heap_alloc V tmp j (by omega)))
  refine ⟨hv1, hv1.set v', hown.kept (grownBy_setCell' w1 b v') (hob'.imp id Ne.symm), ?_, hsame, ?_⟩
  · intro B n₀ x lo hi hn hx hxb hlo hhi
    refine ((((Kept.refl V).alloc (by omega) tmp).grown (by omega) hgrow ?_).set hn hx (.inl hlo) v')
    intro r e
    obtain ⟨h1, cs, t, f, h2⟩ := hob r e
    refine ⟨by omega, ⟨hxb _ h1, .inr (by omega)⟩, fun o ho => ?_⟩
    have := (Below.heap_alloc V tmp r (Array.getElem?_eq_some_iff.1 h2).1).trans h2
    rw [this] at ho; cases ho; rfl
  · intro w hw hg
    have g1 := hgrow
    have g2 := grownBy_setCell' w1 b v'
    exact ⟨g2.os.trans (g1.os.trans hg.os), g2.tape.trans (g1.tape.trans hg.tape), g2.output.trans (g1.output.trans hg.output), by have := hg.size; have := g1.size; have := g2.size; rw [World.size_alloc] at *; omega,
      fun j hj hne => (hsame j (by omega) (fun e => hne (by rw [e]))).trans (hg.block j hj hne)⟩
theorem Coll.step {w V w1 : World} {b : Nat} {tb : TypeId} {base : Nat} {te : TypeId} {size k k' : Nat} {xs ys : List Value} {v v' : Value} {tmp : Obj} (h : Coll w b tb base te size k xs V v)
    (hb : b < base) (hw : w.heap.size ≤ base) (hV : base ≤ V.heap.size) (hown : w1.ownsRow base te size v' k' ys) (hgrow : (V.alloc tmp).grownBy w1 v.ownBlock) :
    Boxed w1 b tb v ∧ Coll w b tb base te size k' ys (w1.setCell ⟨b, 0, none⟩ v') v' ∧ ∀ B n₀ (x : Nat → Prop) lo hi, n₀ ≤ b → ¬ x b → (∀ k, base ≤ k → ¬ x k) → b < lo → hi ≤ base → Kept B n₀ x lo hi V (w1.setCell ⟨b, 0, none⟩ v') := by
  obtain ⟨h1, h2, h3, h4, _, h5⟩ := append_box h.box h.row hb hV hown hgrow
  exact ⟨h1, ⟨h2, h3, h5 w hw h.grown⟩, h4⟩
theorem owns_slice {w : World} {base : Nat} {e : TypeId} {size : Nat} {v : Value} {k : Nat} {xs : List Value} (h : w.ownsRow base e size v k xs) : ∃ p cap, v = .slice p k cap := by
  rcases h.2 with ⟨rfl, rfl⟩ | ⟨g, cap, _, rfl, _⟩
  · exact ⟨_, _, rfl⟩
  · exact ⟨_, _, rfl⟩

theorem owns_kept {w w' : World} {base : Nat} {e : TypeId} {size : Nat} {v : Value} {k b : Nat} {xs : List Value} (h : w.ownsRow base e size v k xs) (hg : w.grownBy w' (some b)) (hb : b < base) : w'.ownsRow base e size v k xs := by
  refine h.kept hg ?_
  rcases h.2 with ⟨rfl, _⟩ | ⟨g, cap, _, rfl, hbg, _⟩
  · exact .inl rfl
  · refine .inr fun e => ?_
    obtain rfl : g = b := by simpa [Value.ownBlock] using e
    omega
theorem owns_lower {w : World} {base base' : Nat} {e : TypeId} {size : Nat} {v : Value} {k : Nat} {xs : List Value} (h : w.ownsRow base e size v k xs) (hb : base' ≤ base) : w.ownsRow base' e size v k xs :=
  ⟨h.1, h.2.imp id fun ⟨g, cap, cur, a, b, c⟩ => ⟨g, cap, cur, a, Nat.le_trans hb b, c⟩⟩
theorem Coll.below {w W : World} {b : Nat} {tb : TypeId} {base : Nat} {te : TypeId} {size k : Nat} {xs : List Value} {v : Value} (h : Coll w b tb base te size k xs W v) {n : Nat} (hn : n ≤ b) (hw : n ≤ w.heap.size) : Below n w W :=
  (Below.refl n w).grown h.grown hw (fun k e => by cases e; exact hn)

/-! ### the plain fence -/
/-- The statement at the plain fence: as the walk meets it. -/
theorem wp_seqs {α : Type} {P : Program} {g : Operand} {ps : Array Tmp} {assign body : Code} {Q : Exit → Act → World → Prop} {a : Act} {w : World}
    {gf : Nat} {lb : Array Value} (hg : a.eval g = .func (.func gf) #[] lb) (eg : ∀ args w, (callFunc gf args).run P w = .ok (.enter gf args) w)
    {encs : α → Array Value} {n₀ c : Nat} {z : Nat → Prop} {xs : List α} {w0 : World} (hseq : Seqs P gf lb encs n₀ z c xs w0) (hn₀ : n₀ ≤ w.heap.size) (hz0 : ∀ k, z k → k < w.heap.size) (hb0 : Below w0.heap.size w0 w) (hps : ∀ x, (encs x).size = ps.size)
    (I : List α → World → Prop) (Ix : Code → List α → World → Prop) (hI : Zone w.heap.size (w.heap.size + 2) (w.heap.size + 2 + c) I) (hIx : ∀ cd, Zone w.heap.size (w.heap.size + 2) (w.heap.size + 2 + c) (Ix cd)) (h0 : I [] w)
    (hround : ∀ (l : Nat) (pre : List α) (x : α) (W : World), pre ++ [x] <+: xs → assign.wpIn (Fence.wide.inRound l) 5 P
      (Exit.then (fun a' W' => W' = W ∧ ∀ V, w.heap.size + 2 + c ≤ V.heap.size → I pre V → body.wpIn (Fence.wide.inRound l) 5 P (roundEnd w.heap.size n₀ z c I Ix (pre ++ [x]) V) a' V) (fun _ _ _ => False))
      { tmps := (ps.zip (encs x)).foldl (fun t (p, v) => t.setIfInBounds p v) a.tmps, defers := [] } W)
    (hdone : ∀ W, I xs W → W.heap[w.heap.size]? = some (.deferred (some [])) → Q .normal { a with defers := { target := .collected w.heap.size, args := #[] } :: a.defers } W)
    (hstop : ∀ (cd : Code) (pre : List α) (W : World), pre <+: xs → Ix cd pre W → W.heap[w.heap.size]? = some (.deferred (some [])) → cd.wp P Q { a with defers := { target := .collected w.heap.size, args := #[] } :: a.defers } W) :
    (Code.rangeFunc g ps assign body).wp P Q a w :=
  wpIn_wide.1 (wpIn_seqs (n := 5) hg eg hseq hn₀ hz0 hb0 hps I Ix hI hIx h0 hround hdone (fun cd pre W h1 h2 h3 => wpIn_wide.2 (hstop cd pre W h1 h2 h3)))
/-- A function's contract from its body, where the body holds ranges over functions. -/
theorem calls_marks {P : Program} {f : FuncId} {fn : Func} {c : Code} {args : Array Value} {w : World} {R : Ending → World → Prop} (hf : P.funcs[f]? = some fn) (hb : fn.body = some c)
    (h : c.wp P (bodyPostM Fence.wide 5 P fn R) { tmps := args ++ Array.replicate (fn.ntmps - args.size) undef, defers := [] } w) : Calls P f args w R :=
  (callsIn_wide (n := 5)).1 (callsIn_of_wp_marks hf hb trivial (wpIn_wide.2 h) rfl)

/-! ### a loop of few rounds, walked round by round -/
def Times (P : Program) (c : Code) (Q : Exit → Act → World → Prop) : Nat → Act → World → Prop
  | 0, _, _ => False
  | n + 1, a, w => c.wp P (Exit.then (Times P c Q n) Q) a w
theorem least {p : Nat → Prop} : ∀ n, p n → ∃ m, p m ∧ ∀ k, k < m → ¬ p k := fun n => by
  induction n using Nat.strongRecOn with
  | _ n ih =>
    intro hn
    rcases Classical.em (∃ k, k < n ∧ p k) with ⟨k, hk, hp⟩ | h
    · exact ih k hk hp
    · exact ⟨n, hn, fun k hk hp => h ⟨k, hk, hp⟩⟩
open Classical in
theorem wp_loop_times {P : Program} {c : Code} {Q : Exit → Act → World → Prop} {a : Act} {w : World} (n : Nat) (h : Times P c Q n a w) : (Code.loop c).wp P Q a w := by
  refine wp_loop (fun a w => ∃ n, Times P c Q n a w) (fun a w => if h : ∃ m, Times P c Q m a w ∧ ∀ k, k < m → ¬ Times P c Q k a w then Classical.choose h else 0) ⟨n, h⟩ ?_
  rintro a w ⟨n, hn⟩
  have hI := least (p := fun n => Times P c Q n a w) n hn
  have hs := Classical.choose_spec hI
  rw [dif_pos hI]
  generalize Classical.choose hI = m0 at hs
  cases m0 with
  | zero => exact hs.1.elim
  | succ m =>
    refine wp_mono hs.1 ?_
    intro e a' w' he
    cases e <;> try exact he
    have he' : Times P c Q m a' w' := he
    refine ⟨⟨m, he'⟩, ?_⟩
    have hI2 := least (p := fun n => Times P c Q n a' w') m he'
    have hs2 := Classical.choose_spec hI2
    rw [dif_pos hI2]
    rcases Nat.lt_or_ge m (Classical.choose hI2) with h1 | h1
    · exact absurd he' (hs2.2 m h1)
    · omega
end Go.Proofs.Ytbidgpeeogoglaa
/-
  Lists of ints in memory: rows of one's own, rows that may be read; SameInts of a list and itself.
-/
namespace Go.Proofs.Ytbidgpeeogoglaa
set_option maxRecDepth 100000
open Go.RowKit

def intVs (l : List Int) : List Value := l.map (.int .i64)
/-- A row of ints of one's own is handed back. -/
def RetInts (l : List Int) (w : World) (e : Ending) (w' : World) : Prop :=
  ∃ v, e = .returned v ∧ w'.ownsRow w.heap.size 3 1 v l.length (intVs l) ∧ Below w.heap.size w w'
theorem int_one (i : Int) : ∀ u ∈ (#[Value.int .i64 i] : Array Value).toList, u.oneCell' = true := by intro u hu; simp at hu; subst hu; rfl
theorem intInfo : ∃ i z, Try.prog.info? 3 = some i ∧ i.zero = some z ∧ i.size = 1 ∧ i.bytes = 8 ∧ z.cells.size = 1 := by
  have h : (match Try.prog.info? 3 with | some i => (match i.zero with | some z => i.size == 1 && i.bytes == 8 && z.cells.size == 1 | none => false) | none => false) = true := by decide +kernel
  cases hi : Try.prog.info? 3 with
  | none => rw [hi] at h; cases h
  | some i =>
    rw [hi] at h
    cases hz : i.zero with
    | none => simp only [hz] at h; cases h
    | some z =>
      simp only [hz, Bool.and_eq_true, beq_iff_eq] at h
      exact ⟨i, z, rfl, hz, h.1.1, h.1.2, h.2⟩
theorem ownsInts_nil (w : World) : w.ownsRow w.heap.size 3 1 (.slice none 0 0) 0 [] := ⟨rfl, .inl ⟨rfl, rfl⟩⟩
/-- A row of ints that may be read: its cells lie where the slice says. -/
def IntsAt (w : World) (A : Option Addr) (xs : List Int) : Prop := 0 < xs.length → ∃ b off, A = some ⟨b, off, none⟩ ∧ b < w.heap.size ∧ ∀ k i, xs[k]? = some i → w.cell? ⟨b, off + k, none⟩ = some (.int .i64 i)
theorem IntsAt.below {w w' : World} {A : Option Addr} {xs : List Int} {B : Nat} (h : IntsAt w A xs) (hb : Below B w w') (hB : w.heap.size ≤ B) : IntsAt w' A xs := fun hn => by
  obtain ⟨b, off, rfl, hlt, hc⟩ := h hn
  have hs := hb.size
  exact ⟨b, off, rfl, by omega, fun k i hk => (hb.cell (p := ⟨b, off + k, none⟩) (by show b < B; omega)).trans (hc k i hk)⟩

theorem own_ints {w : World} {base g n cap : Nat} {l : List Int} (h : w.ownsRow base 3 1 (.slice (some ⟨g, 0, none⟩) n cap) n (intVs l)) : IntsAt w (some ⟨g, 0, none⟩) l := fun _ =>
  ⟨g, 0, rfl, (h.lt g rfl).2, fun k x hk => by
    have hc := h.cells rfl k (.int .i64 x) (by unfold intVs; rw [List.getElem?_map, hk]; rfl)
    rw [Addr.add_lit] at hc
    exact hc⟩
theorem owns_intsAt {w : World} {base n : Nat} {v : Value} {l : List Int} (h : w.ownsRow base 3 1 v n (intVs l)) : ∃ A cap, v = .slice A n cap ∧ IntsAt w A l := by
  rcases h.2 with ⟨rfl, rfl⟩ | ⟨g, cap, cur, rfl, _⟩
  · refine ⟨_, _, rfl, fun hp => ?_⟩
    have h1 := h.1
    rw [show (intVs l).length = l.length from List.length_map _] at h1
    omega
  · exact ⟨_, _, rfl, own_ints h⟩

/-- .. and from which block on it lies. -/
theorem owns_intsFrom {w : World} {base n : Nat} {v : Value} {l : List Int} (h : w.ownsRow base 3 1 v n (intVs l)) : ∃ A cap, v = .slice A n cap ∧ IntsAt w A l ∧ ∀ a, A = some a → base ≤ a.block ∧ a.block < w.heap.size := by
  rcases h.2 with ⟨rfl, rfl⟩ | ⟨g, cap, cur, rfl, hg, _⟩
  · refine ⟨_, _, rfl, fun hp => ?_, fun a e => by cases e⟩
    have h1 := h.1
    rw [show (intVs l).length = l.length from List.length_map _] at h1
    omega
  · exact ⟨_, _, rfl, own_ints h, fun a e => by cases e; exact ⟨hg, (h.lt g rfl).2⟩⟩
theorem IntsAt.kept {w w' : World} {A : Option Addr} {xs : List Int} (h : IntsAt w A xs) (hs : w.heap.size ≤ w'.heap.size) (hb : ∀ a, A = some a → a.block < w.heap.size → w'.heap[a.block]? = w.heap[a.block]?) : IntsAt w' A xs := fun hn => by
  obtain ⟨b, off, rfl, hlt, hc⟩ := h hn
  exact ⟨b, off, rfl, by omega, fun k i hk => (World.cell?_of_block (a := ⟨b, off + k, none⟩) (hb ⟨b, off, none⟩ rfl hlt)).trans (hc k i hk)⟩
theorem marks_cons (D : Nat) (ds : List Nat) : ({ target := .collected D, args := #[] } :: marks ds : List Deferred) = marks (D :: ds) := rfl
theorem int_two (i j : Int) : ∀ u ∈ (#[Value.int .i64 i, .int .i64 j] : Array Value).toList, u.oneCell' = true := by
  intro u hu; simp at hu; rcases hu with rfl | rfl <;> rfl
theorem intVs_app (l m : List Int) : intVs (l ++ m) = intVs l ++ intVs m := List.map_append
theorem owns_intsCap {w : World} {base n : Nat} {v : Value} {l : List Int} (h : w.ownsRow base 3 1 v n (intVs l)) : ∃ A cap, v = .slice A n cap ∧ n ≤ cap ∧ IntsAt w A l := by
  rcases h.2 with ⟨rfl, rfl⟩ | ⟨g, cap, cur, rfl, _, _, hc, _⟩
  · refine ⟨_, _, rfl, Nat.le_refl _, fun hp => ?_⟩
    have h1 := h.1
    rw [show (intVs l).length = l.length from List.length_map _] at h1
    omega
  · exact ⟨_, _, rfl, hc, own_ints h⟩
theorem IntsAt.take {w : World} {A : Option Addr} {l : List Int} (h : IntsAt w A l) (m : Nat) : IntsAt w A (l.take m) := fun hp => by
  rw [List.length_take] at hp
  obtain ⟨b, off, e, hb, hc⟩ := h (by omega)
  refine ⟨b, off, e, hb, fun k i hk => hc k i ?_⟩
  rw [List.getElem?_take] at hk
  split at hk
  · exact hk
  · cases hk
set_option maxHeartbeats 1000000 in
theorem sameI_eq (A1 A2 : Option Addr) (c1 c2 n : Nat) (l : List Int) (hl : l.length = n) (hn : n * 8 ≤ 140737488355328) (w : World) (h1 : IntsAt w A1 l) (h2 : IntsAt w A2 l) :
    Calls Try.prog 12 #[.slice A1 n c1, .slice A2 n c2] w (RetB (.bool true) w) := by
  have H1 := Lib.hid h1
  have H2 := Lib.hid h2
  have HL := Lib.hid hl
  have hn' : (n : Int) * 8 ≤ 140737488355328 := by omega
  clear h1 h2 hl
  go_enter Try.func12, Try.ntmps12
  go_wp2
  go_loopw [5] (fun i wr => ∃ k : Nat, k ≤ n ∧ i = .int .i64 k ∧ Below w.heap.size w wr) (fun i _ => n - (intOf i).toNat)
  case atStart => exact ⟨0, Nat.zero_le _, rfl, Below.refl _ _⟩
  case round =>
    obtain ⟨k, hk, rfl, hbel⟩ := hrel
    have BEL := Lib.hid hbel
    by_cases hlt : k < n
    · have hlt' : (k : Int) < (n : Int) := by omega
      obtain ⟨x, hx⟩ : ∃ x, l[k]? = some x := ⟨_, List.getElem?_eq_getElem (by rw [HL.out]; exact hlt)⟩
      obtain ⟨b1, o1, rfl, g1, r1⟩ := (H1.out.below hbel (Nat.le_refl _)) (by have := HL.out; omega)
      obtain ⟨b2, o2, rfl, g2, r2⟩ := (H2.out.below hbel (Nat.le_refl _)) (by have := HL.out; omega)
      have d1 := cell_regrown (r1 k x hx)
      have d2 := cell_regrown (r2 k x hx)
      clear r1 r2 hx H1 H2 hbel
      go_wp2
      refine wp_region_quiet_below (by kernel_rfl) (by kernel_rfl) ?_
      repeat (first | go_big_quiet_skip | (go_big_quiet_want; go_big_quiet_op; first | go_big_quiet_on))
      refine wpQuiet_nil ?_
      intro w1 hC
      have B1 := Lib.hid (BEL.out.trans ((below_class hC).mono BEL.out.size))
      clear hC d1 d2 BEL
      go_wp2
      go_roundw
      case rel => exact ⟨k + 1, by omega, by go_num, B1.out⟩
      case measure => simp [intOf]; omega
    · have hlt' : ¬ (k : Int) < (n : Int) := by omega
      clear H1 H2
      go_wp2
      go_ret
      exact ⟨rfl, BEL.out⟩

def natInts (l : List Nat) : List Int := l.map fun (n : Nat) => (n : Int)
theorem natInts_snoc (l : List Nat) (x : Nat) : intVs (natInts (l ++ [x])) = intVs (natInts l) ++ [Value.int .i64 x] := by simp [natInts, intVs]
theorem natInts_len (l : List Nat) : (natInts l).length = l.length := by simp [natInts]
theorem take_of_prefix {α : Type} {pre l : List α} (h : pre <+: l) : l.take pre.length = pre := by
  obtain ⟨t, rfl⟩ := h; simp

theorem intsNew (w : World) (l : List Int) (cs : Array Value) (h : cs = (l.map (Value.int .i64)).toArray) : IntsAt (w.alloc (.cells cs 3)) (some ⟨w.heap.size, 0, none⟩) l := fun _ => ⟨_, 0, rfl, by simp, fun k i hk => by
  rw [World.cell?_alloc_at _ _ _ _ rfl, h]
  simp [hk]⟩
end Go.Proofs.Ytbidgpeeogoglaa
