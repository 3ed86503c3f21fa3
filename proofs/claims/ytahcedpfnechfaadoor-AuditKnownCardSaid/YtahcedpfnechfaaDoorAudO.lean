/-
  lineagelaw29: one, parts, works.
-/
import Derived.Test.YtahcedpfnechfaaDoorAudE
import Derived.Test.YtahcedpfnechfaaDoorAudKP
import Derived.Test.YtahcedpfnechfaaDoorFault3
namespace Go.Proofs.YtahcedpfnechfaaDoor
set_option maxRecDepth 100000
open Go.RowKit Go.Sort

theorem flat_len (xs : List SlotV) : (flat SlotV.cells xs).length = 17 * xs.length := flat_len17 xs
theorem take_splice (C S : List Value) (a m : Nat) (h : a + S.length ≤ m) (hm : m ≤ C.length) : (C.take a ++ S ++ C.drop (a + S.length)).take m = (C.take m).take a ++ S ++ (C.take m).drop (a + S.length) := by
  have h1 : (C.take a ++ S).length = a + S.length := by rw [List.length_append, List.length_take]; omega
  rw [List.take_append, List.take_of_length_le (by omega), h1, List.drop_take, List.take_take, Nat.min_eq_left (by omega)]
/-- A slot of a row of one's own is written whole. -/
theorem own_struct {w : World} {B gs cs n : Nat} {xs : List SlotV} (h : w.ownsRow B 49 17 (.slice (some ⟨gs, 0, none⟩) n cs) n (flat SlotV.cells xs)) (k : Nat) (hk : k < n) (s : SlotV) :
    ∃ cur, Blk w gs 49 cur ∧ k * 17 + 17 ≤ cur.size ∧ (w.setRow gs (splice cur (k * 17) s.cells)).ownsRow B 49 17 (.slice (some ⟨gs, 0, none⟩) n cs) n (flat SlotV.cells (xs.set k s)) := by
  have hl := h.1
  have hln := flat_len xs
  rcases h.2 with ⟨hv, _⟩ | ⟨g', cap, cur, hv, hb, hg, h1, h2, h3, h4⟩
  · cases hv
  · injection hv with e1 e2 e3
    injection e1 with e1
    injection e1 with e1 _ _
    subst e1 e3
    have hB : Blk w gs 49 cur := ⟨hg⟩
    have hsz : k * 17 + 17 ≤ cur.size := by rw [h3]; have : (k + 1) * 17 ≤ cs * 17 := Nat.mul_le_mul_right 17 (by omega); omega
    refine ⟨cur, hB, hsz, ?_, .inr ⟨gs, cs, splice cur (k * 17) s.cells, rfl, hb, (hB.setRow_same _).eq, h1, h2, ?_, ?_⟩⟩
    · rw [flat_len, List.length_set]; omega
    · have hS : s.cells.toList.length = 17 := rfl
      rw [← h3]
      unfold splice
      rw [List.size_toArray, List.length_append, List.length_append, List.length_take, List.length_drop, Array.length_toList, hS, SlotV.size]
      omega
    · have hxs : k < xs.length := by omega
      have hf := flat_set17 xs k s hxs
      unfold flat at h4 ⊢
      rw [← hf, ← h4, Nat.mul_comm 17 k]
      have hS : s.cells.toList.length = 17 := rfl
      have := take_splice cur.toList s.cells.toList (k * 17) (n * 17) (by omega) (by rw [Array.length_toList]; have : n ≤ cs := h1; omega)
      rw [hS] at this
      unfold splice
      rw [SlotV.size, List.toList_toArray]
      exact this
/-- One cell of a slot of such a row is written. -/
theorem own_field {w : World} {B gs cs n : Nat} {xs : List SlotV} (h : w.ownsRow B 49 17 (.slice (some ⟨gs, 0, none⟩) n cs) n (flat SlotV.cells xs)) {k : Nat} {s s' : SlotV} (hk : xs[k]? = some s) (j : Nat) (hj : j < 17) (v : Value) (hs : s'.cells = s.cells.setIfInBounds j v) :
    (w.setCell ⟨gs, k * 17 + j, none⟩ v).ownsRow B 49 17 (.slice (some ⟨gs, 0, none⟩) n cs) n (flat SlotV.cells (xs.set k s')) := by
  have hl := h.1
  have hln := flat_len xs
  have hxs := (List.getElem?_eq_some_iff.1 hk).1
  rcases h.2 with ⟨hv, _⟩ | ⟨g', cap, cur, hv, hb, hg, h1, h2, h3, h4⟩
  · cases hv
  · injection hv with e1 e2 e3
    injection e1 with e1
    injection e1 with e1 _ _
    subst e1 e3
    have hB : Blk w gs 49 cur := ⟨hg⟩
    refine ⟨?_, .inr ⟨gs, cs, cur.setIfInBounds (k * 17 + j) v, rfl, hb, (hB.set_ (k * 17 + j) v).eq, h1, h2, by rw [Array.size_setIfInBounds]; exact h3, ?_⟩⟩
    · rw [flat_len, List.length_set]; omega
    · rw [Array.toList_setIfInBounds, List.take_set, h4]
      unfold flat
      rw [← flat_set17 xs k s' hxs]
      have hf := flat_set17 xs k s hxs
      have hse : xs.set k s = xs := by
        apply List.ext_getElem?
        intro i
        rw [List.getElem?_set]
        by_cases e : k = i
        · subst e; rw [if_pos rfl, if_pos hxs, hk]
        · rw [if_neg e]
      rw [hse] at hf
      conv => lhs; rw [← hf]
      have hl1 : ((xs.flatMap fun s => s.cells.toList).take (17 * k)).length = 17 * k := by rw [List.length_take, flat_len17]; omega
      rw [List.append_assoc, List.append_assoc, List.set_append_right _ _ (by rw [hl1]; omega), hl1, List.set_append_left _ _ (by show _ < 17; omega), hs, Array.toList_setIfInBounds, show k * 17 + j - 17 * k = j by omega]
theorem own_frozen {w : World} {B gs cs n : Nat} {xs : List Value} (h : w.ownsRow B 49 17 (.slice (some ⟨gs, 0, none⟩) n cs) n xs) (o : Nat) : w.frozen? ⟨gs, o, none⟩ = false := by
  rcases h.2 with ⟨hv, _⟩ | ⟨g', cap, cur, hv, hb, hg, _⟩
  · cases hv
  · injection hv with e1 e2 e3
    injection e1 with e1
    injection e1 with e1 _ _
    subst e1
    exact (show Blk w gs 49 cur from ⟨hg⟩).frozen o
theorem own_cell {w : World} {B gs cs n : Nat} {xs : List SlotV} (h : w.ownsRow B 49 17 (.slice (some ⟨gs, 0, none⟩) n cs) n (flat SlotV.cells xs)) {k : Nat} {s : SlotV} (hk : xs[k]? = some s) (j : Nat) {v : Value} (hj : s.cells[j]? = some v) : w.cell? ⟨gs, k * 17 + j, none⟩ = some v := (own_row SlotV.size h hk).at_ j v hj
theorem dump_cells {w : World} {D : Nat} {a b c d e f : Value} (h : Blk w D 25 #[a, b, c, d, e, f]) :
    w.cell? ⟨D, 0, none⟩ = some a ∧ w.cell? ⟨D, 1, none⟩ = some b ∧ w.cell? ⟨D, 2, none⟩ = some c ∧ w.cell? ⟨D, 3, none⟩ = some d ∧ w.cell? ⟨D, 4, none⟩ = some e ∧ w.cell? ⟨D, 5, none⟩ = some f :=
  ⟨(h.cell 0).trans rfl, (h.cell 1).trans rfl, (h.cell 2).trans rfl, (h.cell 3).trans rfl, (h.cell 4).trans rfl, (h.cell 5).trans rfl⟩
/-- A dump in a variable: its six cells at D, its slots at gs, all in memory that is new since W0. -/
structure DSt (W0 w : World) (D : Nat) (d : DumpV) (gs cs : Nat) (Af : Option Addr) (cf : Nat) : Prop where
  blk : Blk w D 25 (d.dc (some ⟨gs, 0, none⟩) cs Af cf).toArray
  own : w.ownsRow W0.heap.size 49 17 (.slice (some ⟨gs, 0, none⟩) d.slots.length cs) d.slots.length (flat SlotV.cells d.slots)
  free : IntsAt w Af d.free
  lt : ∀ a, Af = some a → W0.heap.size ≤ a.block ∧ a.block < w.heap.size ∧ a.block ≠ gs ∧ a.block ≠ D
  bl : Below W0.heap.size W0 w
  hD : W0.heap.size ≤ D
  ne : D ≠ gs
section
variable {W0 w : World} {D : Nat} {d : DumpV} {gs cs : Nat} {Af : Option Addr} {cf : Nat}
theorem DSt.dump (h : DSt W0 w D d gs cs Af cf) : DumpIn w d (some ⟨gs, 0, none⟩) Af := (show DumpH w W0.heap.size d gs cs Af from ⟨h.own, h.free, fun a e => ⟨(h.lt a e).1, (h.lt a e).2.1, (h.lt a e).2.2.1⟩⟩).dump
theorem DSt.below {w' : World} (h : DSt W0 w D d gs cs Af cf) (hb : Below w.heap.size w w') : DSt W0 w' D d gs cs Af cf :=
  ⟨h.blk.below hb h.blk.lt, own_below h.own hb, h.free.below hb (Nat.le_refl _), fun a e => by have := h.lt a e; have := hb.size; exact ⟨by omega, by omega, by omega, by omega⟩, h.bl.trans (hb.mono h.bl.size), h.hD, h.ne⟩
/-- What a call made is laid in a variable. -/
theorem DSt.start {W0 w1 : World} {d : DumpV} {gs cs : Nat} {Af : Option Addr} {cf : Nat} (h : DumpH w1 W0.heap.size d gs cs Af) (hb : Below W0.heap.size W0 w1) : DSt W0 (w1.alloc (.cells (d.dc (some ⟨gs, 0, none⟩) cs Af cf).toArray 25)) w1.heap.size d gs cs Af cf := by
  have ha : Below w1.heap.size w1 (w1.alloc (.cells (d.dc (some ⟨gs, 0, none⟩) cs Af cf).toArray 25)) := (Below.refl _ _).alloc (Nat.le_refl _) _
  have h2 := h.below ha
  have hg := (own_cap h.own).2.2
  exact ⟨Blk.new _ _ _, h2.own, h2.free, fun a e => ⟨(h2.lt a e).1, (h2.lt a e).2.1, (h2.lt a e).2.2, by have := (h.lt a e).2.1; omega⟩, hb.trans (ha.mono hb.size), hb.size, by omega⟩
/-- One of the variable's cells is written. -/
theorem DSt.put (h : DSt W0 w D d gs cs Af cf) (i : Nat) (v : Value) (d' : DumpV) (Af' : Option Addr) (cf' : Nat) (hc : (d.dc (some ⟨gs, 0, none⟩) cs Af cf).toArray.setIfInBounds i v = (d'.dc (some ⟨gs, 0, none⟩) cs Af' cf').toArray) (hs : d'.slots = d.slots)
    (hf : ∀ w', IntsAt w' Af d.free → IntsAt w' Af' d'.free) (hA : ∀ a', Af' = some a' → ∃ a, Af = some a ∧ a'.block = a.block) : DSt W0 (w.setCell ⟨D, i, none⟩ v) D d' gs cs Af' cf' := by
  have hne := h.ne
  refine ⟨by rw [← hc]; exact h.blk.set_ i v, by rw [hs]; exact ownsRow_setCell_other h.own (by show some gs ≠ some D; intro e; injection e with e; exact hne e.symm) v, hf _ (h.free.kept (by simp) fun a e _ => Below.heap_setCell _ _ _ _ (h.lt a e).2.2.2), fun a e => ?_, h.bl.setCell h.hD v, h.hD, hne⟩
  obtain ⟨a0, e0, eb⟩ := hA a e
  have := h.lt a0 e0
  rw [eb]
  exact ⟨this.1, by simpa using this.2.1, this.2.2⟩
theorem DSt.clock (h : DSt W0 w D d gs cs Af cf) (k : Int) : DSt W0 (w.setCell ⟨D, 0, none⟩ (.int .i64 k)) D { d with clock := k } gs cs Af cf := h.put 0 _ { d with clock := k } Af cf rfl rfl (fun _ h => h) (fun a e => ⟨a, e, rfl⟩)
theorem DSt.births (h : DSt W0 w D d gs cs Af cf) (k : Int) : DSt W0 (w.setCell ⟨D, 1, none⟩ (.int .i64 k)) D { d with births := k } gs cs Af cf := h.put 1 _ { d with births := k } Af cf rfl rfl (fun _ h => h) (fun a e => ⟨a, e, rfl⟩)
theorem DSt.garbage (h : DSt W0 w D d gs cs Af cf) (k : Int) : DSt W0 (w.setCell ⟨D, 4, none⟩ (.int .i64 k)) D { d with garbage := k } gs cs Af cf := h.put 4 _ { d with garbage := k } Af cf rfl rfl (fun _ h => h) (fun a e => ⟨a, e, rfl⟩)
theorem DSt.roots (h : DSt W0 w D d gs cs Af cf) (k : Int) : DSt W0 (w.setCell ⟨D, 5, none⟩ (.int .i64 k)) D { d with roots := k } gs cs Af cf := h.put 5 _ { d with roots := k } Af cf rfl rfl (fun _ h => h) (fun a e => ⟨a, e, rfl⟩)
/-- 'd.Free = d.Free[1:]'. -/
theorem DSt.tail {b o : Nat} (h : DSt W0 w D d gs cs (some ⟨b, o, none⟩) cf) (n c : Nat) (hn : d.free.tail.length = n) : DSt W0 (w.setCell ⟨D, 3, none⟩ (.slice (some ⟨b, o + 1, none⟩) n c)) D { d with free := d.free.tail } gs cs (some ⟨b, o + 1, none⟩) c :=
  h.put 3 _ { d with free := d.free.tail } _ c (by rw [← hn]; rfl) rfl (fun w' hi hp => by
    have h0 : 0 < d.free.length := by
      have : 0 < d.free.tail.length := hp
      rw [List.length_tail] at this; omega
    obtain ⟨b', o', e, hl, hc⟩ := hi h0
    injection e with e
    injection e with e1 e2
    subst e1 e2
    refine ⟨b, o + 1, rfl, hl, fun k i hk => ?_⟩
    have hk' : d.free[k + 1]? = some i := by rw [← List.getElem?_tail]; exact hk
    rw [show o + 1 + k = o + (k + 1) by omega]
    exact hc (k + 1) i hk') (fun a' e => ⟨_, rfl, by cases e; rfl⟩)
/-- One cell of a slot is written. -/
theorem DSt.field (h : DSt W0 w D d gs cs Af cf) {k : Nat} {s : SlotV} (hk : d.slots[k]? = some s) (j o : Nat) (ho : o = k * 17 + j) (hj : j < 17) (v : Value) (s' : SlotV) (hs : s'.cells = s.cells.setIfInBounds j v) : DSt W0 (w.setCell ⟨gs, o, none⟩ v) D { d with slots := d.slots.set k s' } gs cs Af cf := by
  subst ho
  have hg := (own_cap h.own).2.2
  refine ⟨?_, ?_, h.free.kept (by simp) fun a e _ => Below.heap_setCell _ _ _ _ (h.lt a e).2.2.1, fun a e => by have := h.lt a e; exact ⟨this.1, by simpa using this.2.1, this.2.2⟩, h.bl.setCell hg.1 v, h.hD, h.ne⟩
  · have := h.blk.far (p := ⟨gs, k * 17 + j, none⟩) h.ne v
    unfold DumpV.dc at this ⊢
    simpa using this
  · have := own_field h.own hk j hj v hs
    rw [List.length_set]
    exact this
/-- A slot is written whole. -/
theorem DSt.slot (h : DSt W0 w D d gs cs Af cf) (k o : Nat) (ho : o = k * 17) (hk : k < d.slots.length) (s : SlotV) : ∃ cur, Blk w gs 49 cur ∧ o + s.cells.size ≤ cur.size ∧ DSt W0 (w.setRow gs (splice cur o s.cells)) D { d with slots := d.slots.set k s } gs cs Af cf := by
  subst ho
  obtain ⟨cur, hB, hfit, hown⟩ := own_struct h.own k hk s
  have hg := (own_cap h.own).2.2
  refine ⟨cur, hB, hfit, ?_, ?_, h.free.kept (by simp [World.setRow]) fun a e _ => setRow_other _ _ _ _ (h.lt a e).2.2.1, fun a e => by have := h.lt a e; exact ⟨this.1, by simpa [World.setRow] using this.2.1, this.2.2⟩, bel_setRow h.bl hg.1 _, h.hD, h.ne⟩
  · have := h.blk.setRow_ne (k := gs) h.ne (splice cur (k * 17) s.cells)
    unfold DumpV.dc at this ⊢
    simpa using this
  · rw [List.length_set]
    exact hown
theorem DSt.at_ (h : DSt W0 w D d gs cs Af cf) {k : Nat} {s : SlotV} (hk : d.slots[k]? = some s) (j o : Nat) (ho : o = k * 17 + j) {v : Value} (hj : s.cells[j]? = some v) : w.cell? ⟨gs, o, none⟩ = some v := by subst ho; exact own_cell h.own hk j hj
theorem DSt.ice (h : DSt W0 w D d gs cs Af cf) (o : Nat) : w.frozen? ⟨gs, o, none⟩ = false := own_frozen h.own o
end
def slot0 : SlotV := ⟨true, false, -1, 0, 0, 0, 1, 0, 0, 0, ByteArray.empty, ByteArray.empty, 0, 0, 0, 9, 0⟩
def oneD : DumpV := ⟨3, 1, emptyD.slots.set 0 slot0, emptyD.free.tail, -1, 0⟩
end Go.Proofs.YtahcedpfnechfaaDoor
