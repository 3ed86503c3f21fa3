/-
  Merged texts: Slot, Arena, ArNew, ArOps, ArOps2, ArOps3, ArSt, ArPlace, ArFrees, ArWorks, Pick.
-/
import Derived.Test.YtbidgpeeogoglaaProg
import Derived.Test.YtbidgpeeogoglaaGa
import Derived.BigRegion
/-
  A slot of an arena: its seventeen cells.
-/
namespace Go.Proofs.Ytbidgpeeogoglaa
set_option maxRecDepth 100000
open Go.RowKit Go.Sort

structure SlotV where
  used : Bool
  dead : Bool
  kids : Int
  prev : Int
  next : Int
  slot : Int
  birth : Int
  upSlot : Int
  upBirth : Int
  kind : Int
  user : ByteArray
  label : ByteArray
  scopes : Int
  level : Int
  born : Int
  deadline : Int
  depth : Int

def SlotV.cells (s : SlotV) : Array Value := #[.bool s.used, .bool s.dead, .int .i64 s.kids, .int .i64 s.prev, .int .i64 s.next, .int .i64 s.slot, .int .i64 s.birth, .int .i64 s.upSlot, .int .i64 s.upBirth, .int .i64 s.kind, .string s.user, .string s.label, .int .u64 s.scopes, .int .i64 s.level, .int .i64 s.born, .int .i64 s.deadline, .int .i64 s.depth]
def SlotV.zero : SlotV := ⟨false, false, 0, 0, 0, 0, 0, 0, 0, 0, ByteArray.empty, ByteArray.empty, 0, 0, 0, 0, 0⟩
def SlotV.bare : SlotV := ⟨false, false, -1, -1, -1, 0, 0, 0, 0, 0, ByteArray.empty, ByteArray.empty, 0, 0, 0, 0, 0⟩
@[go_sem] theorem SlotV.size (s : SlotV) : (SlotV.cells s).size = 17 := rfl
theorem SlotV.one (s : SlotV) : ∀ v ∈ (SlotV.cells s).toList, v.oneCell' = true := by
  intro v hv
  simp [SlotV.cells] at hv
  rcases hv with rfl | rfl | rfl | rfl | rfl | rfl | rfl | rfl | rfl | rfl | rfl | rfl | rfl | rfl | rfl | rfl | rfl <;> rfl
theorem slotInfo : (Try.prog.info? 57).map (·.size) = some 17 := by kernel_rfl
theorem slotU : ∃ fs, Try.prog.underlying 57 = some (.struct fs) := ⟨_, Try.underlying57⟩
theorem ite_ok_false {p : Prop} [Decidable p] (c : Bool) (w : World) : (if p then Result.ok (Value.bool c) w else Result.ok (Value.bool false) w) = Result.ok (Value.bool (decide p && c)) w := by split <;> simp_all
theorem eql_slot (s : SlotV) (w : World) : (binOp .eql 57 (.agg s.cells) (.agg s.cells)).run Try.prog w = .ok (.bool true) w := by
  unfold SlotV.cells
  simp [go_sem]
theorem neq_slot (s : SlotV) (w : World) : (binOp .neq 57 (.agg s.cells) (.agg s.cells)).run Try.prog w = .ok (.bool false) w := by
  unfold SlotV.cells
  simp [go_sem]

/-! ### the arena's block -/
/-- What an arena holds. -/
structure Ar where
  slots : List SlotV
  next : List Int
  first : Int
  writes : Int
def Ar.cells (A : Ar) : Array Value := ((A.slots.flatMap fun (s : SlotV) => (SlotV.cells s).toList) ++ (A.next.map (Value.int .i64) ++ [Value.int .i64 A.first, Value.int .i64 A.writes])).toArray
structure Ar.Full (A : Ar) : Prop where
  slots : A.slots.length = 32
  next : A.next.length = 32
theorem flat_len17 : ∀ l : List SlotV, (l.flatMap fun (s : SlotV) => (SlotV.cells s).toList).length = 17 * l.length
  | [] => rfl
  | s :: l => by
    have h := flat_len17 l
    have e : s.cells.toList.length = 17 := rfl
    simp only [List.flatMap_cons, List.length_append, List.length_cons, h, e]
    omega
theorem flat_at17 : ∀ (l : List SlotV) (i j : Nat) (s : SlotV), l[i]? = some s → j < 17 → (l.flatMap fun (s : SlotV) => (SlotV.cells s).toList)[17 * i + j]? = s.cells[j]?
  | [], i, j, s, h, _ => by simp at h
  | a :: l, 0, j, s, h, hj => by
    simp only [List.getElem?_cons_zero, Option.some.injEq] at h
    subst h
    have e : a.cells.toList.length = 17 := rfl
    rw [List.flatMap_cons, List.getElem?_append_left (by omega)]
    simp
  | a :: l, i + 1, j, s, h, hj => by
    have e : a.cells.toList.length = 17 := rfl
    rw [List.flatMap_cons, List.getElem?_append_right (by omega), e, show 17 * (i + 1) + j - 17 = 17 * i + j by omega]
    exact flat_at17 l i j s (by simpa using h) hj
theorem flat_set17 : ∀ (l : List SlotV) (i : Nat) (s : SlotV), i < l.length → (l.flatMap fun (s : SlotV) => (SlotV.cells s).toList).take (17 * i) ++ s.cells.toList ++ (l.flatMap fun (s : SlotV) => (SlotV.cells s).toList).drop (17 * i + 17) = (l.set i s).flatMap fun (s : SlotV) => (SlotV.cells s).toList
  | [], i, s, h => by simp at h
  | a :: l, 0, s, _ => by
    have e : a.cells.toList.length = 17 := rfl
    simp [e]
  | a :: l, i + 1, s, h => by
    have e : a.cells.toList.length = 17 := rfl
    have ih := flat_set17 l i s (by simpa using h)
    rw [List.flatMap_cons, List.set_cons_succ, List.flatMap_cons, ← ih, List.take_append, List.drop_append, e]
    rw [List.take_of_length_le (by omega), List.drop_eq_nil_of_le (by omega)]
    simp [show 17 * (i + 1) - 17 = 17 * i by omega, show 17 * (i + 1) + 17 - 17 = 17 * i + 17 by omega]
section
variable {A : Ar}
theorem Ar.Full.size (h : A.Full) : A.cells.size = 578 := by
  simp only [Ar.cells, List.size_toArray, List.length_append, flat_len17, h.slots, h.next, List.length_map, List.length_cons, List.length_nil]
theorem Ar.Full.slot_at (h : A.Full) {i : Nat} {s : SlotV} (hs : A.slots[i]? = some s) {j : Nat} {v : Value} (hv : s.cells[j]? = some v) : A.cells[i * 17 + j]? = some v := by
  rw [Nat.mul_comm]
  have hi := (List.getElem?_eq_some_iff.1 hs).1
  have hj : j < 17 := (Array.getElem?_eq_some_iff.1 hv).1
  have hl := flat_len17 A.slots
  rw [h.slots] at hi hl
  simp only [Ar.cells, List.getElem?_toArray]
  rw [List.getElem?_append_left (by omega), flat_at17 _ _ _ _ hs hj]
  exact hv
theorem Ar.Full.next_at (h : A.Full) {i : Nat} {n : Int} (hn : A.next[i]? = some n) : A.cells[544 + i]? = some (.int .i64 n) := by
  have hi := (List.getElem?_eq_some_iff.1 hn).1
  have hl := flat_len17 A.slots
  rw [h.slots] at hl
  simp only [Ar.cells, List.getElem?_toArray]
  rw [List.getElem?_append_right (by omega), List.getElem?_append_left (by rw [List.length_map]; omega), hl, show 544 + i - 17 * 32 = i by omega]
  simp [hn]
theorem Ar.Full.first_at (h : A.Full) : A.cells[576]? = some (.int .i64 A.first) := by
  have hl := flat_len17 A.slots
  rw [h.slots] at hl
  have hn := h.next
  simp only [Ar.cells, List.getElem?_toArray]
  rw [List.getElem?_append_right (by omega), List.getElem?_append_right (by rw [List.length_map]; omega), hl]
  simp [hn]
theorem Ar.Full.writes_at (h : A.Full) : A.cells[577]? = some (.int .i64 A.writes) := by
  have hl := flat_len17 A.slots
  rw [h.slots] at hl
  have hn := h.next
  simp only [Ar.cells, List.getElem?_toArray]
  rw [List.getElem?_append_right (by omega), List.getElem?_append_right (by rw [List.length_map]; omega), hl]
  simp [hn]
theorem Ar.Full.row (h : A.Full) {i : Nat} {s : SlotV} (hs : A.slots[i]? = some s) {w : World} {g : Nat} {t : TypeId} (hB : Blk w g t A.cells) : RowAt w g (i * 17) s.cells :=
  ⟨fun j v hv => by rw [hB.cell]; exact h.slot_at hs hv⟩
theorem Ar.Full.slot_ex (h : A.Full) {i : Nat} (hi : i < 32) : ∃ s, A.slots[i]? = some s := ⟨_, List.getElem?_eq_getElem (by rw [h.slots]; exact hi)⟩
theorem Ar.Full.next_ex (h : A.Full) {i : Nat} (hi : i < 32) : ∃ n, A.next[i]? = some n := ⟨_, List.getElem?_eq_getElem (by rw [h.next]; exact hi)⟩
/-! what a store makes of it -/
def Ar.putSlot (A : Ar) (i : Nat) (s : SlotV) : Ar := { A with slots := A.slots.set i s }
def Ar.putNext (A : Ar) (i : Nat) (n : Int) : Ar := { A with next := A.next.set i n }
def Ar.putFirst (A : Ar) (n : Int) : Ar := { A with first := n }
def Ar.putWrites (A : Ar) (n : Int) : Ar := { A with writes := n }
theorem Ar.Full.putSlot (h : A.Full) (i : Nat) (s : SlotV) : (A.putSlot i s).Full := ⟨by simp [Ar.putSlot, h.slots], h.next⟩
theorem Ar.Full.putNext (h : A.Full) (i : Nat) (n : Int) : (A.putNext i n).Full := ⟨h.slots, by simp [Ar.putNext, h.next]⟩
theorem Ar.Full.putFirst (h : A.Full) (n : Int) : (A.putFirst n).Full := ⟨h.slots, h.next⟩
theorem Ar.Full.putWrites (h : A.Full) (n : Int) : (A.putWrites n).Full := ⟨h.slots, h.next⟩
theorem Ar.Full.splice (h : A.Full) {i : Nat} (hi : i < 32) (s : SlotV) : splice A.cells (i * 17) s.cells = (A.putSlot i s).cells := by
  rw [Nat.mul_comm]
  have hl := flat_len17 A.slots
  rw [h.slots] at hl
  have e : s.cells.size = 17 := rfl
  unfold Go.Proofs.Ytbidgpeeogoglaa.splice Ar.cells Ar.putSlot
  simp only [e]
  rw [← flat_set17 A.slots i s (by rw [h.slots]; exact hi), List.take_append_of_le_length (by omega), List.drop_append_of_le_length (by omega)]
  simp
theorem Ar.Full.setNext (h : A.Full) {i : Nat} (hi : i < 32) (n : Int) : A.cells.setIfInBounds (544 + i) (.int .i64 n) = (A.putNext i n).cells := by
  have hl := flat_len17 A.slots
  rw [h.slots] at hl
  have hn := h.next
  simp only [Ar.cells, Ar.putNext, List.setIfInBounds_toArray]
  congr 1
  rw [List.set_append_right _ _ (by omega), List.set_append_left _ _ (by rw [List.length_map]; omega), hl, show 544 + i - 17 * 32 = i by omega, List.map_set]
theorem Ar.Full.setFirst (h : A.Full) (n : Int) : A.cells.setIfInBounds 576 (.int .i64 n) = (A.putFirst n).cells := by
  have hl := flat_len17 A.slots
  rw [h.slots] at hl
  have hn := h.next
  simp only [Ar.cells, Ar.putFirst, List.setIfInBounds_toArray]
  congr 1
  rw [List.set_append_right _ _ (by omega), List.set_append_right _ _ (by rw [List.length_map]; omega), hl]
  simp [hn]
theorem Ar.Full.setWrites (h : A.Full) (n : Int) : A.cells.setIfInBounds 577 (.int .i64 n) = (A.putWrites n).cells := by
  have hl := flat_len17 A.slots
  rw [h.slots] at hl
  have hn := h.next
  simp only [Ar.cells, Ar.putWrites, List.setIfInBounds_toArray]
  congr 1
  rw [List.set_append_right _ _ (by omega), List.set_append_right _ _ (by rw [List.length_map]; omega), hl]
  simp [hn]
end
end Go.Proofs.Ytbidgpeeogoglaa
/-
  Package arena, function by function: there, bare, New.
-/
namespace Go.Proofs.Ytbidgpeeogoglaa
set_option maxRecDepth 100000
open Go.RowKit Go.Sort

structure ArAt (w : World) (g : Nat) (A : Ar) : Prop where
  blk : Blk w g 78 A.cells
  full : A.Full
section
variable {P : Program} {ops : Array Oper} {rest : List Oper} {o' : Oper} {a : Act} {w : World} {Q : Exit → Act → World → Prop}
/-- A struct or an array, built: its cells by name. -/
theorem wpList_build_as {ty : TypeId} {parts : Array (Nat × Operand)} {ps : Array (Nat × Value)} {vs : Array Value} (ho : o'.op = .build ty parts) (hw : Region.wanted o' (yielded ops a.tmps) = true) (hp : (parts.map fun (i, x) => (i, a.eval x)) = ps) (hb : P.built ty ps.toList = some vs)
    (hK : wpList P ops Q rest (a.put o'.dst (.agg vs)) w) : wpList P ops Q (o' :: rest) a w :=
  wpList_want hw fun K hK' => by
    refine wp_build ty parts ho (by rw [hp, hb]; rfl) ?_
    rw [hp, hb]
    exact hK' _ _ hK
end
theorem built_bare : Try.prog.built 57 (#[(2, Value.int .i64 (-1)), (3, .int .i64 (-1)), (4, .int .i64 (-1))] : Array (Nat × Value)).toList = some SlotV.bare.cells := by kernel_rfl
theorem built_zero : Try.prog.built 57 (#[] : Array (Nat × Value)).toList = some SlotV.zero.cells := by kernel_rfl
theorem there_any (i : Int) (w : World) : Calls Try.prog 42 #[.int .i64 i] w (RetSame (.bool (decide (0 ≤ i) && decide (i < 32))) w) := by
  by_cases h0 : 0 ≤ i
  · by_cases h1 : i < 32
    · have e : (decide (0 ≤ i) && decide (i < 32)) = true := by simp [h0, h1]
      have e1 : decide (i < 32) = true := by simp [h1]
      have e0 : decide (0 ≤ i) = true := by simp [h0]
      go_enter Try.func42, Try.ntmps42
      go_wp2
      go_ret
      exact ⟨by simp [h0, h1], rfl⟩
    · go_enter Try.func42, Try.ntmps42
      go_wp2
      go_ret
      exact ⟨by simp; omega, rfl⟩
  · have h0' : i < 0 := by omega
    go_enter Try.func42, Try.ntmps42
    go_wp2
    go_ret
    exact ⟨by simp; omega, rfl⟩
theorem bare_any (w : World) : Calls Try.prog 43 #[] w (RetB (.agg SlotV.bare.cells) w) := by
  go_enter Try.func43, Try.ntmps43
  go_wp2_with (first
    | (refine wpList_build_as rfl rfl rfl built_bare ?_)
    | (refine wpList_store_new rfl rfl rfl rfl rfl (SlotV.one _) slotInfo ?_))
  exact bodyPost_ret (results_at rfl rfl (Blk.new w 57 SlotV.bare.cells).row rfl rfl slotInfo) rfl ⟨rfl, (Below.refl _ _).alloc (Nat.le_refl _) _⟩
end Go.Proofs.Ytbidgpeeogoglaa
/-
  Package arena: New.
-/
namespace Go.Proofs.Ytbidgpeeogoglaa
set_option maxRecDepth 100000
open Go.RowKit Go.Sort

def Ar.zero : Ar := ⟨List.replicate 32 SlotV.zero, List.replicate 32 0, 0, 0⟩
theorem Ar.zero_full : Ar.zero.Full := ⟨by simp [Ar.zero], by simp [Ar.zero]⟩
theorem zero_arena (w : World) : (zeroValue 78).run Try.prog w = .ok (.agg Ar.zero.cells) w := by kernel_rfl
/-- The first k slots are made. -/
def Ar.made (k : Nat) : Ar := ⟨List.replicate k SlotV.bare ++ List.replicate (32 - k) SlotV.zero, (List.range k).map (fun (i : Nat) => (i : Int) + 1) ++ List.replicate (32 - k) 0, 0, 0⟩
theorem Ar.made_full {k : Nat} (h : k ≤ 32) : (Ar.made k).Full := ⟨by simp [Ar.made]; omega, by simp [Ar.made]; omega⟩
theorem Ar.made_zero : Ar.made 0 = Ar.zero := by simp [Ar.made, Ar.zero]
theorem Ar.made_succ {k : Nat} (h : k < 32) : ((Ar.made k).putSlot k SlotV.bare).putNext k ((k : Int) + 1) = Ar.made (k + 1) := by
  have e1 : 32 - k = (32 - (k + 1)) + 1 := by omega
  unfold Ar.putSlot Ar.putNext Ar.made
  simp only [e1, List.replicate_succ, Ar.mk.injEq, and_true]
  constructor
  · rw [List.set_append_right _ _ (by simp), List.length_replicate, Nat.sub_self, List.set_cons_zero, List.append_cons, ← List.replicate_succ']
    simp [List.replicate_succ]
  · rw [List.set_append_right _ _ (by simp), List.length_map, List.length_range, Nat.sub_self, List.set_cons_zero, List.append_cons, List.range_succ, List.map_append]
    simp
def Ar.new : Ar := (Ar.made 32).putNext 31 (-1)

set_option maxHeartbeats 2000000 in
theorem arNew_any (w : World) : Calls Try.prog 25 #[] w fun e w' => ∃ g, e = .returned (.pointer (some ⟨g, 0, none⟩)) ∧ w.heap.size ≤ g ∧ ArAt w' g Ar.new ∧ Below w.heap.size w w' := by
  have hza := zero_arena
  go_enter Try.func25, Try.ntmps25
  go_wp2
  go_loopw [5] (fun i wr => ∃ k : Nat, k ≤ 32 ∧ i = .int .i64 k ∧ ArAt wr w.heap.size (Ar.made k) ∧ Below w.heap.size w wr) (fun i _ => 32 - (intOf i).toNat)
  case atStart => exact ⟨0, by omega, rfl, ⟨by rw [Ar.made_zero]; exact Blk.new _ _ _, Ar.made_full (by omega)⟩, (Below.refl _ _).alloc (Nat.le_refl _) _⟩
  case round =>
    obtain ⟨k, hk, rfl, hA, hbel⟩ := hrel
    have HA := Lib.hid hA
    have BEL := Lib.hid hbel
    have HQ := Lib.hid (quiet_of (fun w => bare_any w))
    clear hA hbel hza
    by_cases hlt : k < 32
    · have hki : (k : Int) < 32 := by omega
      have hk0 : (0 : Int) ≤ (k : Int) := by omega
      go_wp2
      refine wp_region_quiet_tail_below 6 (by kernel_rfl) (by kernel_rfl) ?_
      simp only [List.take_succ_cons, List.take_zero, List.drop_succ_cons, List.drop_zero]
      repeat (first | go_big_quiet_skip | (go_big_quiet_want; go_big_quiet_op; first | go_big_quiet_on | go_big_quiet_call (with_reducible exact HQ.out _ _ _)))
      refine wpQuiet_nil ?_
      intro v0 hC
      have hb := below_class hC
      have b0 := HA.out.blk.below hb HA.out.blk.lt
      have hfu := HA.out.full
      refine wpList_store_at rfl rfl rfl rfl b0 (by rw [hfu.size]; show _ + 17 ≤ 578; omega) (SlotV.one _) slotInfo ?_
      rw [hfu.splice hlt]
      have b1 := b0.setRow_same ((Ar.made k).putSlot k SlotV.bare).cells
      have hf1 := hfu.putSlot k SlotV.bare
      obtain ⟨n, hn⟩ := hf1.next_ex hlt
      have c1 := (b1.cell (544 + k)).trans (hf1.next_at hn)
      have f1 := b1.frozen (544 + k)
      have B1 : Hid (Blk ((v0.setRow w.heap.size ((Ar.made k).putSlot k SlotV.bare).cells).setCell ⟨w.heap.size, 544 + k, none⟩ (.int .i64 ((k : Int) + 1))) w.heap.size 78 (Ar.made (k + 1)).cells) := by
        have := b1.set_ (544 + k) (.int .i64 ((k : Int) + 1))
        rw [hf1.setNext hlt, Ar.made_succ hlt] at this
        exact Lib.hid this
      have BL := Lib.hid ((bel_setRow (BEL.out.trans (hb.mono BEL.out.size)) (Nat.le_refl _) ((Ar.made k).putSlot k SlotV.bare).cells).setCell (p := ⟨w.heap.size, 544 + k, none⟩) (Nat.le_refl _) (.int .i64 ((k : Int) + 1)))
      clear hb b0 hfu b1 hf1 hn hC HQ
      go_wp2
      go_roundw
      case rel => exact ⟨k + 1, by omega, by go_num, ⟨B1.out, Ar.made_full (by omega)⟩, BL.out⟩
      case measure => simp [intOf]; omega
    · obtain rfl : k = 32 := by omega
      have b0 := HA.out.blk
      have hfu := HA.out.full
      obtain ⟨n, hn⟩ := hfu.next_ex (i := 31) (by omega)
      have c1 : wr.cell? ⟨w.heap.size, 575, none⟩ = some (.int .i64 n) := (b0.cell 575).trans (hfu.next_at hn)
      have f1 := b0.frozen 575
      have B1 := Lib.hid (show Blk (wr.setCell ⟨w.heap.size, 575, none⟩ (.int .i64 (-1))) w.heap.size 78 Ar.new.cells by
        have := b0.set_ (544 + 31) (.int .i64 (-1))
        rw [hfu.setNext (by omega)] at this
        exact this)
      clear hn b0 hfu HQ hk hlt
      go_wp2
      go_ret
      exact ⟨_, rfl, Nat.le_refl _, ⟨B1.out, (Ar.made_full (by omega)).putNext 31 (-1)⟩, BEL.out.setCell (p := ⟨w.heap.size, 575, none⟩) (Nat.le_refl _) _⟩
end Go.Proofs.Ytbidgpeeogoglaa
/-
  Package arena: Get, Put, Take, Free, Writes.
-/
namespace Go.Proofs.Ytbidgpeeogoglaa
set_option maxRecDepth 100000
open Go.RowKit Go.Sort

/-- Only block g of what lay has turned. -/
def Turned (w : World) (g : Nat) (w' : World) : Prop := w.grownBy w' (some g)
theorem turned_refl (w : World) (g : Nat) : w.grownBy w (some g) := ⟨rfl, rfl, rfl, Nat.le_refl _, fun _ _ _ => rfl⟩
theorem grownBy_trans {A B C : World} {r : Option Nat} (h : A.grownBy B r) (k : B.grownBy C r) : A.grownBy C r :=
  ⟨k.os.trans h.os, k.tape.trans h.tape, k.output.trans h.output, Nat.le_trans h.size k.size, fun j hj hn => (k.block j (Nat.lt_of_lt_of_le hj h.size) hn).trans (h.block j hj hn)⟩
theorem grownBy_below {A B : World} (h : Below A.heap.size A B) (r : Option Nat) : A.grownBy B r := ⟨h.os, h.tape, h.output, h.size, fun j hj _ => h.block j hj⟩
theorem grownBy_setRow (w : World) (g : Nat) (cs : Array Value) : w.grownBy (w.setRow g cs) (some g) :=
  ⟨rfl, rfl, rfl, by simp [World.setRow], fun k _ hk => setRow_other w g k cs (fun e => hk (by rw [e]))⟩
theorem grownBy_set (w : World) (g o : Nat) (v : Value) : w.grownBy (w.setCell ⟨g, o, none⟩ v) (some g) :=
  ⟨rfl, rfl, rfl, by simp [World.setCell], fun k _ hk => Below.heap_setCell _ _ _ _ (fun e => hk (by rw [e]))⟩

theorem there_in {i : Nat} (h : i < 32) (w : World) : Calls Try.prog 42 #[.int .i64 i] w (RetSame (.bool true) w) := by
  have := there_any i w
  rwa [show (decide (0 ≤ (i : Int)) && decide ((i : Int) < 32)) = true by simp; omega] at this
theorem there_out {i : Int} (h : i < 0 ∨ 32 ≤ i) (w : World) : Calls Try.prog 42 #[.int .i64 i] w (RetSame (.bool false) w) := by
  have := there_any i w
  rwa [show (decide (0 ≤ i) && decide (i < 32)) = false by simp; omega] at this

set_option maxHeartbeats 2000000 in
theorem get_in {i : Nat} (hi : i < 32) (g : Nat) (A : Ar) {s : SlotV} (hs : A.slots[i]? = some s) (w : World) (hA : ArAt w g A) :
    Calls Try.prog 23 #[.pointer (some ⟨g, 0, none⟩), .int .i64 i] w (RetB (.tuple #[.agg s.cells, .nilIface]) w) := by
  have hrow := hA.full.row hs hA.blk
  have hlt := hA.blk.lt
  have HR := Lib.hid (hrow.alloc hlt (.cells SlotV.zero.cells 57))
  have hi1 : (i : Int) < 32 := by omega
  have hi0 : (0 : Int) ≤ (i : Int) := by omega
  have hU := Try.underlying57
  have HU := Lib.hid hU
  clear hA hrow hs hU
  go_enter Try.func23, Try.ntmps23
  go_wp2_with (first
    | (go_at_call 42; refine (there_in hi _).mono ?_; rintro e w' ⟨rfl, rfl⟩)
    | (refine wpList_load_at rfl rfl rfl HR.out HU.out rfl slotInfo ?_)
    | (refine wpList_store_new rfl rfl rfl rfl rfl (SlotV.one _) slotInfo ?_))
  exact bodyPost_ret (results_at_tmp rfl rfl (Blk.new w 57 s.cells).row HU.out rfl slotInfo) rfl ⟨rfl, (Below.refl _ _).alloc (Nat.le_refl _) _⟩
set_option maxHeartbeats 2000000 in
theorem get_out {i : Int} (hi : i < 0 ∨ 32 ≤ i) (p : Option Addr) (w : World) :
    Calls Try.prog 23 #[.pointer p, .int .i64 i] w (RetB (.tuple #[.agg SlotV.zero.cells, errno 1]) w) := by
  have HU := Lib.hid Try.underlying57
  have hz : ∀ w, (zeroValue 57).run Try.prog w = .ok (.agg SlotV.zero.cells) w := fun w => by kernel_rfl
  go_enter Try.func23, Try.ntmps23
  go_wp2_with (first
    | (go_at_call 42; refine (there_out hi _).mono ?_; rintro e w' ⟨rfl, rfl⟩)
    | (refine wpList_store_new rfl rfl rfl rfl rfl (SlotV.one _) slotInfo ?_))
  exact bodyPost_ret (results_at_tmp rfl rfl (Blk.new w 57 SlotV.zero.cells).row HU.out rfl slotInfo) rfl ⟨rfl, (Below.refl _ _).alloc (Nat.le_refl _) _⟩
end Go.Proofs.Ytbidgpeeogoglaa
/-
  Package arena: Put, Take.
-/
namespace Go.Proofs.Ytbidgpeeogoglaa
set_option maxRecDepth 100000
open Go.RowKit Go.Sort

/-- How an operation on the arena at g leaves it. -/
def RetAr (v : Value) (w : World) (g : Nat) (A' : Ar) (e : Ending) (w' : World) : Prop := e = .returned v ∧ ArAt w' g A' ∧ w.grownBy w' (some g)

set_option maxHeartbeats 2000000 in
theorem put_in {i : Nat} (hi : i < 32) (g : Nat) (A : Ar) (s : SlotV) (w : World) (hA : ArAt w g A) (hw0 : 0 ≤ A.writes) (hw1 : A.writes < 1000000000) :
    Calls Try.prog 26 #[.pointer (some ⟨g, 0, none⟩), .int .i64 i, .agg s.cells] w (RetAr .nilIface w g ((A.putSlot i s).putWrites (A.writes + 1))) := by
  have hlt := hA.blk.lt
  have hfu := hA.full
  have hB1 : Blk (w.alloc (.cells s.cells 57)) g 78 A.cells := hA.blk.alloc _
  have HB := Lib.hid hB1
  have HF := Lib.hid hfu
  have hi1 : (i : Int) < 32 := by omega
  have hi0 : (0 : Int) ≤ (i : Int) := by omega
  have HU := Lib.hid Try.underlying57
  have HR := Lib.hid ((Blk.new w 57 s.cells).row.class_ (by simp))
  clear hA hB1 hfu
  go_enter Try.func26, Try.ntmps26
  go_wp2_with (first
    | (go_at_call 42; refine (there_in hi _).mono ?_; rintro e w' ⟨rfl, rfl⟩))
  refine wp_region_quiet_tail_below 6 (by kernel_rfl) (by kernel_rfl) ?_
  simp only [List.take_succ_cons, List.take_zero, List.drop_succ_cons, List.drop_zero]
  repeat (first
    | go_big_quiet_skip
    | (refine wpQuiet_load_at rfl rfl rfl HR.out HU.out rfl slotInfo ?_; simp only [Act.put, List.setIfInBounds_toArray, List.set_cons_zero, List.set_cons_succ])
    | (go_big_quiet_want; go_big_quiet_op; first | go_big_quiet_on))
  refine wpQuiet_nil ?_
  intro v0 hC
  have hb := below_class hC
  have b0 := HB.out.below hb HB.out.lt
  refine wpList_store_at rfl rfl rfl rfl b0 (by rw [HF.out.size]; show _ + 17 ≤ 578; omega) (SlotV.one _) slotInfo ?_
  rw [HF.out.splice hi]
  have b1 := b0.setRow_same (A.putSlot i s).cells
  have hf1 := HF.out.putSlot i s
  have c1 := (b1.cell 577).trans hf1.writes_at
  have f1 := b1.frozen 577
  have hwr : IntKind.i64.wrap (A.writes + 1) = A.writes + 1 := IntWalk.i64_in _ (by omega)
  have hws : (A.putSlot i s).writes = A.writes := rfl
  rw [hws] at c1
  have B2 := Lib.hid (show Blk ((v0.setRow g (A.putSlot i s).cells).setCell ⟨g, 577, none⟩ (.int .i64 (A.writes + 1))) g 78 ((A.putSlot i s).putWrites (A.writes + 1)).cells by
    have := b1.set_ 577 (.int .i64 (A.writes + 1))
    rwa [hf1.setWrites] at this)
  have G2 := Lib.hid (grownBy_trans (grownBy_trans (grownBy_below (((Below.refl w.heap.size w).alloc (Nat.le_refl _) _).trans (hb.mono (by simp))) (some g)) (grownBy_setRow v0 g (A.putSlot i s).cells)) (grownBy_set _ g 577 (.int .i64 (A.writes + 1))))
  have F2 := Lib.hid (hf1.putWrites (A.writes + 1))
  clear hb b0 b1 hf1 hC HB HF HR hws
  go_wp2
  go_ret
  exact ⟨rfl, ⟨B2.out, F2.out⟩, G2.out⟩
set_option maxHeartbeats 2000000 in
theorem put_out {i : Int} (hi : i < 0 ∨ 32 ≤ i) (p : Option Addr) (s : SlotV) (w : World) :
    Calls Try.prog 26 #[.pointer p, .int .i64 i, .agg s.cells] w (RetB (errno 1) w) := by
  go_enter Try.func26, Try.ntmps26
  go_wp2_with (first
    | (go_at_call 42; refine (there_out hi _).mono ?_; rintro e w' ⟨rfl, rfl⟩))
  go_ret
  exact ⟨rfl, (Below.refl _ _).alloc (Nat.le_refl _) _⟩
set_option maxHeartbeats 2000000 in
theorem take_none (g : Nat) (A : Ar) (w : World) (hA : ArAt w g A) (h : A.first = -1) :
    Calls Try.prog 38 #[.pointer (some ⟨g, 0, none⟩)] w (RetSame (.tuple #[.int .i64 0, errno 19]) w) := by
  have c := (hA.blk.cell 576).trans hA.full.first_at
  rw [h] at c
  clear hA h
  go_enter Try.func38, Try.ntmps38
  go_wp2
  go_ret2
  exact ⟨rfl, rfl⟩
set_option maxHeartbeats 4000000 in
theorem take_some {i : Nat} (hi : i < 32) (g : Nat) (A : Ar) (n : Int) (w : World) (hA : ArAt w g A) (h : A.first = i) (hn : A.next[i]? = some n) :
    Calls Try.prog 38 #[.pointer (some ⟨g, 0, none⟩)] w (RetAr (.tuple #[.int .i64 i, .nilIface]) w g ((A.putFirst n).putNext i (-2))) := by
  have c := (hA.blk.cell 576).trans hA.full.first_at
  rw [h] at c
  have c2 := (hA.blk.cell (544 + i)).trans (hA.full.next_at hn)
  have f1 := hA.blk.frozen 576
  have f2 := hA.blk.frozen (544 + i)
  have HA := Lib.hid hA
  have hi1 : (i : Int) < 32 := by omega
  have hi0 : (0 : Int) ≤ (i : Int) := by omega
  have hne : ((i : Int) == -1) = false := by simp
  clear hA h hn
  go_enter Try.func38, Try.ntmps38
  go_wp2
  go_region
  have hfu := HA.out.full
  have b1 := HA.out.blk.set_ 576 (.int .i64 n)
  rw [hfu.setFirst] at b1
  have hf1 := hfu.putFirst n
  have b2 := b1.set_ (544 + i) (.int .i64 (-2))
  rw [hf1.setNext hi] at b2
  have B2 := Lib.hid b2.drew
  have F2 := Lib.hid (hf1.putNext i (-2))
  have G2 := Lib.hid (grownBy_trans (grownBy_trans (grownBy_set w g 576 (.int .i64 n)) (grownBy_set _ g (544 + i) (.int .i64 (-2)))) (grownBy_below (Below.refl _ _).drew (some g)))
  clear b1 b2 hf1 hfu HA c c2 f1 f2
  go_wp2
  go_ret2
  exact ⟨rfl, ⟨B2.out, F2.out⟩, G2.out⟩
end Go.Proofs.Ytbidgpeeogoglaa
/-
  Package arena: Free.
-/
namespace Go.Proofs.Ytbidgpeeogoglaa
set_option maxRecDepth 100000
open Go.RowKit Go.Sort

set_option maxHeartbeats 2000000 in
theorem free_out {i : Int} (hi : i < 0 ∨ 32 ≤ i) (p : Option Addr) (w : World) :
    Calls Try.prog 55 #[.pointer p, .int .i64 i] w (RetSame (errno 1) w) := by
  go_enter Try.func55, Try.ntmps55
  go_wp2_with (first
    | (go_at_call 42; refine (there_out hi _).mono ?_; rintro e w' ⟨rfl, rfl⟩))
  go_ret
  exact ⟨rfl, rfl⟩
set_option maxHeartbeats 2000000 in
theorem free_twice {i : Nat} (hi : i < 32) (g : Nat) (A : Ar) (n : Int) (w : World) (hA : ArAt w g A) (hn : A.next[i]? = some n) (h : n ≠ -2) :
    Calls Try.prog 55 #[.pointer (some ⟨g, 0, none⟩), .int .i64 i] w (RetSame (errno 9) w) := by
  have c2 := (hA.blk.cell (544 + i)).trans (hA.full.next_at hn)
  have hi1 : (i : Int) < 32 := by omega
  have hi0 : (0 : Int) ≤ (i : Int) := by omega
  have hne : (n == -2) = false := by simp [h]
  have hne2 : (n != -2) = true := by simp [h]
  clear hA h hn
  go_enter Try.func55, Try.ntmps55
  go_wp2_with (first
    | (go_at_call 42; refine (there_in hi _).mono ?_; rintro e w' ⟨rfl, rfl⟩))
  go_ret
  exact ⟨rfl, rfl⟩
def Ar.freed (A : Ar) (i : Nat) : Ar := (((A.putSlot i SlotV.bare).putFirst i).putNext i A.first).putWrites (A.writes + 1)
set_option maxHeartbeats 4000000 in
theorem free_in {i : Nat} (hi : i < 32) (g : Nat) (A : Ar) (w : World) (hA : ArAt w g A) (hn : A.next[i]? = some (-2)) (hw0 : 0 ≤ A.writes) (hw1 : A.writes < 1000000000) :
    Calls Try.prog 55 #[.pointer (some ⟨g, 0, none⟩), .int .i64 i] w (RetAr .nilIface w g (A.freed i)) := by
  have c2 := (hA.blk.cell (544 + i)).trans (hA.full.next_at hn)
  have HA := Lib.hid hA
  have HN := Lib.hid hn
  have HQ := Lib.hid (quiet_of (fun w => bare_any w))
  have hi1 : (i : Int) < 32 := by omega
  have hi0 : (0 : Int) ≤ (i : Int) := by omega
  clear hA hn
  go_enter Try.func55, Try.ntmps55
  go_wp2_with (first
    | (go_at_call 42; refine (there_in hi _).mono ?_; rintro e w' ⟨rfl, rfl⟩))
  refine wp_region_quiet_tail_below 6 (by kernel_rfl) (by kernel_rfl) ?_
  simp only [List.take_succ_cons, List.take_zero, List.drop_succ_cons, List.drop_zero]
  repeat (first | go_big_quiet_skip | (go_big_quiet_want; go_big_quiet_op; first | go_big_quiet_on | go_big_quiet_call (with_reducible exact HQ.out _ _ _)))
  refine wpQuiet_nil ?_
  intro v0 hC
  have hb := below_class hC
  have b0 := HA.out.blk.below hb HA.out.blk.lt
  have hfu := HA.out.full
  refine wpList_store_at rfl rfl rfl rfl b0 (by rw [hfu.size]; show _ + 17 ≤ 578; omega) (SlotV.one _) slotInfo ?_
  rw [hfu.splice hi]
  obtain ⟨v1, hv1⟩ : ∃ v1, v0.setRow g (A.putSlot i SlotV.bare).cells = v1 := ⟨_, rfl⟩
  have b1 := b0.setRow_same (A.putSlot i SlotV.bare).cells
  rw [hv1] at b1 ⊢
  have G1 := Lib.hid (grownBy_trans (grownBy_below hb (some g)) (hv1 ▸ grownBy_setRow v0 g (A.putSlot i SlotV.bare).cells))
  have hf1 := hfu.putSlot i SlotV.bare
  have c1 : v1.cell? ⟨g, 576, none⟩ = some (.int .i64 A.first) := (b1.cell 576).trans hf1.first_at
  have c3 : v1.cell? ⟨g, 544 + i, none⟩ = some (.int .i64 (-2)) := (b1.cell (544 + i)).trans (hf1.next_at HN.out)
  have f1 := b1.frozen 576
  have f2 := b1.frozen (544 + i)
  have f3 := b1.frozen 577
  have c4 : v1.cell? ⟨g, 577, none⟩ = some (.int .i64 A.writes) := (b1.cell 577).trans hf1.writes_at
  have HB1 := Lib.hid b1
  have HF1 := Lib.hid hf1
  have hwr : IntKind.i64.wrap (A.writes + 1) = A.writes + 1 := IntWalk.i64_in _ (by omega)
  clear hb b0 hfu b1 hf1 hC HQ hv1 c2
  go_wp2
  go_region
  have b2 := HB1.out.set_ 576 (.int .i64 i)
  rw [HF1.out.setFirst] at b2
  have hf2 := HF1.out.putFirst i
  have b3 := b2.set_ (544 + i) (.int .i64 A.first)
  rw [hf2.setNext hi] at b3
  have hf3 := hf2.putNext i A.first
  obtain ⟨v2, hv2⟩ : ∃ v2, ((v1.setCell ⟨g, 576, none⟩ (.int .i64 i)).setCell ⟨g, 544 + i, none⟩ (.int .i64 A.first)).drew = v2 := ⟨_, rfl⟩
  have b4 : Blk v2 g 78 (((A.putSlot i SlotV.bare).putFirst i).putNext i A.first).cells := hv2 ▸ b3.drew
  have G2 := Lib.hid (grownBy_trans G1.out (hv2 ▸ grownBy_trans (grownBy_trans (grownBy_set v1 g 576 (.int .i64 i)) (grownBy_set _ g (544 + i) (.int .i64 A.first))) (grownBy_below (Below.refl _ _).drew (some g))))
  rw [hv2]
  have c5 : v2.cell? ⟨g, 577, none⟩ = some (.int .i64 A.writes) := (b4.cell 577).trans hf3.writes_at
  have f5 := b4.frozen 577
  have B5 := Lib.hid (show Blk (v2.setCell ⟨g, 577, none⟩ (.int .i64 (A.writes + 1))) g 78 (A.freed i).cells by
    have := b4.set_ 577 (.int .i64 (A.writes + 1))
    rwa [hf3.setWrites] at this)
  have F5 := Lib.hid (hf3.putWrites (A.writes + 1))
  have G5 := Lib.hid (grownBy_trans G2.out (grownBy_set v2 g 577 (.int .i64 (A.writes + 1))))
  clear b2 b3 b4 hf2 hf3 hv2 c1 c3 f1 f2 f3 c4 G1 G2 HB1 HF1 HN HA
  go_wp2
  go_ret
  exact ⟨rfl, ⟨B5.out, F5.out⟩, G5.out⟩
end Go.Proofs.Ytbidgpeeogoglaa
/-
  What an arena is: its slots, the list of the free ones; the operations on it. Of no program.
-/
namespace Go.Proofs.Ytbidgpeeogoglaa
set_option maxRecDepth 100000

/-- From f on, the free ones are just L. -/
def Chain (nx : List Int) : Int → List Nat → Prop
  | f, [] => f = -1
  | f, i :: L => f = i ∧ i < 32 ∧ ∃ n, nx[i]? = some n ∧ Chain nx n L
theorem Chain.lt {nx : List Int} : ∀ {f : Int} {L : List Nat}, Chain nx f L → ∀ i ∈ L, i < 32
  | _, [], _, i, h => by cases h
  | _, a :: L, ⟨_, h1, n, _, h2⟩, i, h => by
    rcases List.mem_cons.1 h with rfl | h
    · exact h1
    · exact h2.lt i h
theorem Chain.next {nx : List Int} : ∀ {f : Int} {L : List Nat}, Chain nx f L → ∀ i ∈ L, ∃ n, nx[i]? = some n ∧ n ≠ -2
  | _, [], _, i, h => by cases h
  | _, a :: L, ⟨_, h1, n, hn, h2⟩, i, h => by
    rcases List.mem_cons.1 h with rfl | h
    · refine ⟨n, hn, ?_⟩
      cases L with
      | nil => have h3 : n = -1 := h2; omega
      | cons b L => have h3 : n = b := h2.1; omega
    · exact h2.next i h
theorem Chain.set {nx : List Int} {j : Nat} {v : Int} : ∀ {f : Int} {L : List Nat}, Chain nx f L → j ∉ L → Chain (nx.set j v) f L
  | _, [], h, _ => h
  | _, a :: L, ⟨h0, h1, n, hn, h2⟩, hj => by
    have ha : j ≠ a := fun e => hj (e ▸ List.mem_cons_self ..)
    exact ⟨h0, h1, n, by rw [List.getElem?_set_ne ha]; exact hn, h2.set (fun h => hj (List.mem_cons_of_mem _ h))⟩
/-- A number is taken out of the midst: the one ahead leads to the one behind. -/
theorem Chain.cut {nx : List Int} {i : Nat} {rest : List Nat} {n : Int} (hn : nx[i]? = some n) : ∀ {f : Int} {pre : List Nat} (j : Nat), Chain nx f (pre ++ j :: i :: rest) → (pre ++ j :: i :: rest).Nodup → Chain (nx.set j n) f (pre ++ j :: rest)
  | f, [], j, h, hd => by
    obtain ⟨h0, h1, m, hm, h2, h3, k, hk, h4⟩ := h
    rw [hn] at hk
    obtain rfl := Option.some.inj hk
    have hl : j < nx.length := (List.getElem?_eq_some_iff.1 hm).1
    have hj : j ∉ rest := fun h => (List.nodup_cons.1 hd).1 (List.mem_cons_of_mem _ h)
    exact ⟨h0, h1, n, by simp [hl], h4.set hj⟩
  | f, a :: pre, j, h, hd => by
    obtain ⟨h0, h1, m, hm, h2⟩ := h
    have hd' := List.nodup_cons.1 hd
    have ha : j ≠ a := fun e => hd'.1 (by rw [← e]; simp)
    exact ⟨h0, h1, m, by rw [List.getElem?_set_ne ha]; exact hm, Chain.cut hn j h2 hd'.2⟩
theorem Chain.mid {nx : List Int} : ∀ {f : Int} {pre : List Nat} {i : Nat} {rest : List Nat}, Chain nx f (pre ++ i :: rest) → Chain nx i (i :: rest)
  | _, [], i, rest, h => by obtain ⟨h0, h1⟩ := h; exact ⟨rfl, h1⟩
  | _, a :: pre, i, rest, ⟨_, _, n, _, h⟩ => h.mid

/-- An arena as it is thought of. -/
structure St where
  slots : List SlotV
  free : List Nat
  writes : Int
structure Rep (A : Ar) (S : St) : Prop where
  slots : A.slots = S.slots
  writes : A.writes = S.writes
  chain : Chain A.next A.first S.free
  nodup : S.free.Nodup
  taken : ∀ i, i < 32 → i ∉ S.free → A.next[i]? = some (-2)
  full : A.Full
section
variable {A : Ar} {S : St}
def St.take (S : St) : St := { S with free := S.free.tail }
def St.drop (S : St) (i : Nat) : St := { S with free := S.free.erase i }
def St.give (S : St) (i : Nat) : St := ⟨S.slots.set i SlotV.bare, i :: S.free, S.writes + 1⟩
def St.put (S : St) (i : Nat) (s : SlotV) : St := { S with slots := S.slots.set i s, writes := S.writes + 1 }
theorem Rep.put (h : Rep A S) (i : Nat) (s : SlotV) : Rep ((A.putSlot i s).putWrites (A.writes + 1)) (S.put i s) :=
  ⟨by simp [Ar.putSlot, Ar.putWrites, St.put, h.slots], by simp [Ar.putWrites, St.put, h.writes], h.chain, h.nodup, h.taken, (h.full.putSlot i s).putWrites _⟩
theorem Rep.first_none (h : Rep A S) (he : S.free = []) : A.first = -1 := by have := h.chain; rw [he] at this; exact this
theorem Rep.first_some (h : Rep A S) {i : Nat} {L : List Nat} (he : S.free = i :: L) : i < 32 ∧ A.first = i ∧ ∃ n, A.next[i]? = some n ∧ Rep ((A.putFirst n).putNext i (-2)) S.take := by
  have hc := h.chain
  have hd := h.nodup
  rw [he] at hc hd
  obtain ⟨h0, h1, n, hn, h2⟩ := hc
  have hd' := List.nodup_cons.1 hd
  have hl : i < A.next.length := (List.getElem?_eq_some_iff.1 hn).1
  refine ⟨h1, h0, n, hn, h.slots, h.writes, ?_, ?_, ?_, (h.full.putFirst n).putNext i (-2)⟩
  · show Chain (A.next.set i (-2)) n S.free.tail
    rw [he]
    exact h2.set hd'.1
  · show S.free.tail.Nodup
    rw [he]; exact hd'.2
  · intro j hj hjn
    show (A.next.set i (-2))[j]? = some (-2)
    by_cases e : i = j
    · subst e; simp [hl]
    · rw [List.getElem?_set_ne e]
      refine h.taken j hj fun hm => hjn ?_
      show j ∈ S.free.tail
      rw [he] at hm ⊢
      rcases List.mem_cons.1 hm with rfl | hm
      · exact absurd rfl e
      · exact hm
theorem Rep.next_free (h : Rep A S) {i : Nat} (hi : i ∈ S.free) : ∃ n, A.next[i]? = some n ∧ n ≠ -2 := h.chain.next i hi
theorem Rep.give (h : Rep A S) {i : Nat} (hi : i < 32) (hn : i ∉ S.free) : Rep (A.freed i) (S.give i) := by
  have hl : i < A.next.length := by rw [h.full.next]; exact hi
  refine ⟨by simp [Ar.freed, Ar.putSlot, Ar.putFirst, Ar.putNext, Ar.putWrites, St.give, h.slots], by simp [Ar.freed, Ar.putWrites, St.give, h.writes], ?_, List.nodup_cons.2 ⟨hn, h.nodup⟩, ?_, (((h.full.putSlot i _).putFirst _).putNext i _).putWrites _⟩
  · show Chain (A.next.set i A.first) i (i :: S.free)
    exact ⟨rfl, hi, A.first, by simp [hl], h.chain.set hn⟩
  · intro j hj hjn
    show (A.next.set i A.first)[j]? = some (-2)
    have hji : i ≠ j := fun e => hjn (e ▸ List.mem_cons_self ..)
    rw [List.getElem?_set_ne hji]
    exact h.taken j hj fun hm => hjn (List.mem_cons_of_mem _ hm)
/-- A free one is taken out of the list: the first one. -/
theorem Rep.drop_head (h : Rep A S) {i : Nat} {L : List Nat} (he : S.free = i :: L) {n : Int} (hn : A.next[i]? = some n) : Rep ((A.putFirst n).putNext i (-2)) (S.drop i) := by
  obtain ⟨_, _, m, hm, hr⟩ := h.first_some he
  rw [hn] at hm
  obtain rfl := Option.some.inj hm
  have e : S.drop i = S.take := by simp [St.drop, St.take, he]
  rw [e]; exact hr
/-- Another one. -/
theorem Rep.drop_mid (h : Rep A S) {i j : Nat} {pre rest : List Nat} (he : S.free = pre ++ j :: i :: rest) {n : Int} (hn : A.next[i]? = some n) : Rep ((A.putNext j n).putNext i (-2)) (S.drop i) := by
  have hc := h.chain
  have hd := h.nodup
  rw [he] at hc hd
  have hl : i < A.next.length := (List.getElem?_eq_some_iff.1 hn).1
  have hmem : i ∈ S.free := by rw [he]; simp
  have hi : i < 32 := h.chain.lt i hmem
  have hin : i ∉ pre ++ j :: rest := by
    rw [List.nodup_append] at hd
    obtain ⟨_, h2, h3⟩ := hd
    simp only [List.nodup_cons, List.mem_cons, not_or] at h2
    rw [List.mem_append, List.mem_cons]
    rintro (h | h | h)
    · exact h3 i h i (by simp) rfl
    · exact h2.1.1 h.symm
    · exact h2.2.1 h
  have e2 : (S.drop i).free = pre ++ j :: rest := by
    show S.free.erase i = _
    rw [he]
    have hip : i ∉ pre := fun h => hin (List.mem_append_left _ h)
    rw [List.erase_append_right _ hip]
    have hji : j ≠ i := fun e => hin (by rw [← e]; simp)
    rw [List.erase_cons_tail (by simpa using hji), List.erase_cons_head]
  refine ⟨h.slots, h.writes, ?_, ?_, ?_, (h.full.putNext j n).putNext i (-2)⟩
  · show Chain ((A.next.set j n).set i (-2)) A.first (S.drop i).free
    rw [e2]
    exact (Chain.cut hn j hc hd).set hin
  · exact h.nodup.erase i
  · intro k hk hkn
    show ((A.next.set j n).set i (-2))[k]? = some (-2)
    by_cases e : i = k
    · subst e; simp [hl]
    · rw [List.getElem?_set_ne e]
      have hkf : k ∉ S.free := fun hm => hkn (by show k ∈ S.free.erase i; exact (List.mem_erase_of_ne (Ne.symm e)).2 hm)
      have hkj : j ≠ k := fun e' => hkf (by rw [he, ← e']; simp)
      rw [List.getElem?_set_ne hkj]
      exact h.taken k hk hkf
end
def St.new : St := ⟨List.replicate 32 SlotV.bare, List.range 32, 0⟩
theorem chain_new : ∀ k : Nat, k ≤ 32 → Chain Ar.new.next (if k = 0 then -1 else ((32 - k : Nat) : Int)) ((List.range' (32 - k) k))
  | 0, _ => rfl
  | k + 1, hk => by
    have ih := chain_new k (by omega)
    have e : List.range' (32 - (k + 1)) (k + 1) = (32 - (k + 1)) :: List.range' (32 - k) k := by
      rw [List.range'_succ, show 32 - (k + 1) + 1 = 32 - k by omega]
    rw [e]
    refine ⟨by simp, by omega, _, ?_, ih⟩
    have hnx : ∀ j : Nat, j < 32 → Ar.new.next[j]? = some (if j = 31 then -1 else (j : Int) + 1) := by decide +kernel
    rw [hnx _ (by omega)]
    by_cases h0 : k = 0
    · subst h0; rfl
    · rw [if_neg h0, if_neg (by omega)]
      congr 1
      omega
theorem rep_new : Rep Ar.new St.new := by
  refine ⟨by simp [Ar.new, Ar.putNext, Ar.made, St.new], rfl, ?_, List.nodup_range, ?_, (Ar.made_full (by omega)).putNext 31 (-1)⟩
  · have h := chain_new 32 (Nat.le_refl _)
    have e : (List.range' (32 - 32) 32) = St.new.free := by decide
    rw [e] at h
    exact h
  · intro i hi hn
    exact absurd (List.mem_range.2 hi) hn
end Go.Proofs.Ytbidgpeeogoglaa
/-
  Package arena: Place.
-/
namespace Go.Proofs.Ytbidgpeeogoglaa
set_option maxRecDepth 100000
open Go.RowKit Go.Sort

/-- Where the number behind these stands. -/
def locOf (pre : List Nat) : Nat := match pre.getLast? with
  | none => 576
  | some j => 544 + j
theorem locOf_snoc (pre : List Nat) (j : Nat) : locOf (pre ++ [j]) = 544 + j := by simp [locOf]
def offOf : Value → Nat
  | .pointer (some a) => a.off
  | _ => 0
/-- How many are left from there on. -/
def leftFrom (L : List Nat) (v : Value) : Nat := if offOf v = 576 then L.length else L.length - (L.idxOf (offOf v - 544) + 1)
theorem leftFrom_loc {pre suf : List Nat} (g : Nat) (h : (pre ++ suf).Nodup) (hl : ∀ i ∈ pre ++ suf, i < 32) : leftFrom (pre ++ suf) (.pointer (some ⟨g, locOf pre, none⟩)) = suf.length := by
  rcases List.eq_nil_or_concat pre with rfl | ⟨pre', j, rfl⟩
  · simp [leftFrom, offOf, locOf]
  · rw [List.concat_eq_append] at *
    have hj : j < 32 := hl j (by simp)
    have e1 : offOf (.pointer (some ⟨g, locOf (pre' ++ [j]), none⟩)) = 544 + j := locOf_snoc _ _
    have hn : j ∉ pre' := by
      rw [List.append_assoc, List.nodup_append] at h
      intro hm
      exact h.2.2 j hm j (by simp) rfl
    unfold leftFrom
    rw [e1, if_neg (by omega), show 544 + j - 544 = j by omega, List.append_assoc, List.idxOf_append, if_neg hn]
    simp
    omega
theorem locOf_ne {pre suf : List Nat} {s : Nat} (h : (pre ++ s :: suf).Nodup) (hs : s < 32) : locOf pre ≠ 544 + s := by
  rcases List.eq_nil_or_concat pre with rfl | ⟨pre', j, rfl⟩
  · simp [locOf]; omega
  · rw [List.concat_eq_append] at *
    rw [locOf_snoc]
    intro e
    obtain rfl : j = s := by omega
    rw [List.nodup_append] at h
    exact h.2.2 j (by simp) j (by simp) rfl
theorem chain_at {A : Ar} {w : World} {g : Nat} (hA : ArAt w g A) {s : Nat} : ∀ {pre suf : List Nat}, Chain A.next A.first (pre ++ s :: suf) → w.cell? ⟨g, locOf pre, none⟩ = some (.int .i64 s) := by
  intro pre suf h
  rcases List.eq_nil_or_concat pre with rfl | ⟨pre', j, rfl⟩
  · obtain ⟨h0, _⟩ := h
    have := (hA.blk.cell 576).trans hA.full.first_at
    rw [h0] at this
    exact this
  · rw [List.concat_eq_append] at *
    rw [List.append_assoc] at h
    obtain ⟨_, _, n, hn, h2⟩ := Chain.mid h
    have h3 : n = s := h2.1
    subst h3
    rw [locOf_snoc]
    exact (hA.blk.cell _).trans (hA.full.next_at hn)

end Go.Proofs.Ytbidgpeeogoglaa
/-
  Package arena: now, Frees: the free ones handed out.
-/
namespace Go.Proofs.Ytbidgpeeogoglaa
set_option maxRecDepth 100000
open Go.RowKit Go.Shelf
attribute [local go_sem] Oper.semAt_some

theorem YieldAt.deep {P : Program} {n m : Nat} {l : Nat} {args : Array Value} {W : World} {R : Ending → World → Prop} (h : YieldAt Fence.wide n P l args W R) : YieldAt Fence.wide m P l args W R := by
  obtain ⟨fn, tmps, assign, body, hy, h1, h2⟩ := h
  exact ⟨fn, tmps, assign, body, hy, h1, fun c cs _ => h2 c cs (room_wide _)⟩
def natV (i : Nat) : Array Value := #[Value.int .i64 i]
theorem now_any (p : Option Addr) (w : World) : Calls Try.prog 40 #[.pointer p] w fun e w' =>
    e = .returned (.func (.func 56) #[] #[.pointer (some ⟨w.heap.size, 0, none⟩)]) ∧ w' = w.alloc (.cells #[.pointer p] 24) := by
  go_enter Try.func40, Try.ntmps40
  go_wp2
  go_ret
  exact ⟨rfl, rfl⟩

theorem ArAt.block {w w' : World} {g : Nat} {A : Ar} (h : ArAt w g A) (hb : w'.heap[g]? = w.heap[g]?) : ArAt w' g A := ⟨⟨hb.trans h.blk.eq⟩, h.full⟩
/-- How many are left from a number on; -1: none. -/
def leftAt (L : List Nat) (v : Value) : Nat := match v with
  | .int _ i => if i < 0 then 0 else L.length - L.idxOf i.toNat
  | _ => 0
theorem leftAt_nil (L : List Nat) : leftAt L (.int .i64 (-1)) = 0 := rfl
theorem leftAt_cons {pre : List Nat} {s : Nat} {suf : List Nat} (h : (pre ++ s :: suf).Nodup) : leftAt (pre ++ s :: suf) (.int .i64 s) = suf.length + 1 := by
  have hn : s ∉ pre := by
    rw [List.nodup_append] at h
    intro hm
    exact h.2.2 s hm s (by simp) rfl
  unfold leftAt
  simp only [Int.toNat_natCast]
  rw [if_neg (by omega), List.idxOf_append, if_neg hn]
  simp
/-- The number at which these begin; -1: there are none. -/
def headOf : List Nat → Int
  | [] => -1
  | i :: _ => i
theorem Chain.head {nx : List Int} {f : Int} {L : List Nat} (h : Chain nx f L) : f = headOf L := by
  cases L with
  | nil => exact h
  | cons i L => exact h.1
theorem Chain.step {nx : List Int} {f : Int} {pre : List Nat} {i : Nat} {suf : List Nat} (h : Chain nx f (pre ++ i :: suf)) : nx[i]? = some (headOf suf) := by
  obtain ⟨_, _, n, hn, h2⟩ := Chain.mid h
  rw [hn, h2.head]

set_option maxHeartbeats 2000000 in
theorem now1_seqs (g : Nat) (A : Ar) (S : St) (w : World) (Bn n₀ : Nat) (z : Nat → Prop) (hz : z Bn) (hBn : Bn < w.heap.size) (hg : z g) (hgw : g < w.heap.size) (hc : w.cell? ⟨Bn, 0, none⟩ = some (.pointer (some ⟨g, 0, none⟩))) (hA : ArAt w g A) (hS : Rep A S) :
    Seqs Try.prog 56 #[.pointer (some ⟨Bn, 0, none⟩)] natV n₀ z 0 S.free w := by
  intro l J Jx W hW hJ hJx hY h0
  have hcW : W.cell? ⟨Bn, 0, none⟩ = some (.pointer (some ⟨g, 0, none⟩)) := (hW.cell (p := ⟨Bn, 0, none⟩) hBn).trans hc
  have hAW : ArAt W g A := hA.block (hW.block g hgw)
  have hBW : Bn < W.heap.size := Nat.lt_of_lt_of_le hBn hW.size
  have HS := Lib.hid hS
  have hf1 := (hAW.blk.cell 576).trans hAW.full.first_at
  rw [hS.chain.head] at hf1
  have HA := Lib.hid hAW
  clear hc hA hS hAW
  refine (callsIn_wide (n := 6)).1 ?_
  refine callsIn_of_wp Try.func56 rfl trivial ?_ rfl
  simp only [Try.ntmps56, List.size_toArray, List.length_cons, List.length_nil, Nat.reduceAdd, Nat.reduceSub, Array.replicate_succ, Array.replicate_zero, List.push_toArray, List.append_toArray, List.nil_append, List.cons_append]
  gi_wp2
  clear hf1
  gi_loopw [3] (fun p wr => ∃ pre suf : List Nat, S.free = pre ++ suf ∧ p = .int .i64 (headOf suf) ∧ J pre wr ∧ (ArAt wr g A ∧ wr.cell? ⟨Bn, 0, none⟩ = some (.pointer (some ⟨g, 0, none⟩)) ∧ W.heap.size ≤ wr.heap.size))
    (fun p _ => leftAt S.free p)
  case atStart => exact ⟨[], S.free, rfl, rfl, h0, HA.out, hcW, Nat.le_refl _⟩
  case round =>
    obtain ⟨pre, suf, hpre, rfl, hJs, hA, hcB, hsz⟩ := hrel
    have HP := Lib.hid hpre
    cases suf with
    | nil =>
      clear hpre
      have e1 : headOf [] = -1 := rfl
      gi_wp2
      go_end0
      exact ⟨⟨_, rfl⟩, .inl (by rw [HP.out, List.append_nil]; exact hJs)⟩
    | cons s suf =>
      have e1 : headOf (s :: suf) = (s : Int) := rfl
      have hs : s < 32 := HS.out.chain.lt s (by rw [hpre]; simp)
      have hs1 : (s : Int) < 32 := by omega
      have hs0 : (0 : Int) ≤ (s : Int) := by omega
      have hch := HS.out.chain
      rw [hpre] at hch
      have hst := hch.step
      have hne : ((s : Int) != -1) = true := by simp
      have HAr := Lib.hid hA
      have hA' := hA.blk.lt
      have HST := Lib.hid hst
      obtain ⟨fn, tmps, assign, body, hy, hR⟩ := hY pre s wr hJs (by simpa using hsz) (by rw [hpre]; exact ⟨suf, by simp⟩)
      simp only [natV] at hy
      clear hpre hch hA hst
      gi_wp2
      refine hR.mono ?_
      rintro e W3 (⟨rfl, hJ3, hk3⟩ | ⟨rfl, hJx3, hk3⟩)
      · have hg3 : W3.heap[g]? = wr.heap[g]? := hk3.extra g hg hA'
        have hA3 := HAr.out.block hg3
        have hB3 : W3.cell? ⟨Bn, 0, none⟩ = some (.pointer (some ⟨g, 0, none⟩)) := (World.cell?_of_block (a := ⟨Bn, 0, none⟩) (hk3.extra Bn hz (World.block_lt_of_cell? wr ⟨Bn, 0, none⟩ hcB))).trans hcB
        have hn3 := (hA3.blk.cell (544 + s)).trans (hA3.full.next_at HST.out)
        have H3 := Lib.hid hA3
        have hsz3 := hk3.below.size
        clear hA3 hg3
        gi_wp2
        go_roundw
        case rel => exact ⟨pre ++ [s], suf, by rw [HP.out]; simp, rfl, hJ3, H3.out, hB3, by omega⟩
        case measure =>
          have hd := HS.out.nodup
          rw [HP.out] at hd ⊢
          show leftAt _ _ < leftAt _ (.int .i64 (s : Int))
          rw [leftAt_cons hd]
          cases suf with
          | nil => simp [headOf, leftAt_nil]
          | cons t suf =>
            have e : pre ++ s :: t :: suf = (pre ++ [s]) ++ t :: suf := by simp
            rw [e] at hd ⊢
            show leftAt _ (.int .i64 (t : Int)) < _
            rw [leftAt_cons hd]
            simp
      · gi_wp2
        refine bodyPost_ret (results_none rfl _ _ _) rfl ?_
        exact ⟨⟨_, rfl⟩, .inr ⟨pre ++ [s], by rw [HP.out]; exact ⟨suf, by simp⟩, hJx3⟩⟩
theorem nodup_len : ∀ (n : Nat) (L : List Nat), L.Nodup → (∀ i ∈ L, i < n) → L.length ≤ n
  | 0, L, _, h => by
    cases L with
    | nil => exact Nat.le_refl _
    | cons a L => exact absurd (h a (List.mem_cons_self ..)) (by omega)
  | n + 1, L, hd, h => by
    by_cases hn : n ∈ L
    · have ih := nodup_len n (L.erase n) (hd.erase n) fun i hi => by
        have h1 := h i (List.mem_of_mem_erase hi)
        have h2 : i ≠ n := fun e => by
          subst e
          exact (hd.mem_erase_iff.1 hi).1 rfl
        omega
      rw [List.length_erase_of_mem hn] at ih
      omega
    · have ih := nodup_len n L hd fun i hi => by
        have h1 := h i hi
        have h2 : i ≠ n := fun e => hn (e ▸ hi)
        omega
      omega
theorem Rep.len {A : Ar} {S : St} (h : Rep A S) : S.free.length ≤ 32 := nodup_len 32 _ h.nodup h.chain.lt

set_option maxHeartbeats 2000000 in
theorem frees_any (g : Nat) (A : Ar) (S : St) (w : World) (hA : ArAt w g A) (hS : Rep A S) : Calls Try.prog 22 #[.pointer (some ⟨g, 0, none⟩)] w fun e w' =>
    ∃ B v, e = .returned (.func (.func 41) #[] #[.pointer (some ⟨B, 0, none⟩)]) ∧ w.heap.size ≤ B ∧ Boxed w' B 22 v ∧ w'.ownsRow w.heap.size 3 1 v S.free.length (intVs (natInts S.free)) ∧ Below w.heap.size w w' := by
  obtain ⟨ii, iz, hi, hz0, hz1, hz2, hz3⟩ := intInfo
  have hgw := hA.blk.lt
  have HA := Lib.hid hA
  have HS := Lib.hid hS
  have HL := Lib.hid hS.len
  clear hA hS
  refine calls_marks Try.func22 rfl ?_
  simp only [Try.ntmps22, List.size_toArray, List.length_cons, List.length_nil, Nat.reduceAdd, Nat.reduceSub, Array.replicate_succ, Array.replicate_zero, List.push_toArray, List.append_toArray, List.nil_append, List.cons_append]
  go_wp2_with (go_at_call 40; refine (now_any _ _).mono ?_; rintro e w' ⟨rfl, rfl⟩)
  obtain ⟨V, hV⟩ : ∃ V, (w.alloc (.cells #[.slice none 0 0] 22)).alloc (.cells #[.pointer (some ⟨g, 0, none⟩)] 24) = V := ⟨_, rfl⟩
  have hVs : V.heap.size ≤ w.heap.size + 2 ∧ w.heap.size + 2 ≤ V.heap.size := by rw [← hV]; simp
  have bL : Boxed V w.heap.size 22 (.slice none 0 0) := by rw [← hV]; exact (Boxed.new w _ _).alloc _
  have bP : Boxed V (w.heap.size + 1) 24 (.pointer (some ⟨g, 0, none⟩)) := by
    rw [← hV]
    have h := Boxed.new (w.alloc (.cells #[.slice none 0 0] 22)) 24 (.pointer (some ⟨g, 0, none⟩))
    rwa [World.size_alloc] at h
  have hbV : Below w.heap.size w V := by rw [← hV]; exact ((Below.refl _ _).alloc (Nat.le_refl _) _).alloc (by simp) _
  have hAV : ArAt V g A := HA.out.block (hbV.block g hgw)
  rw [hV]
  clear hV
  refine wp_seqs rfl (enters_of Try.func56 (by kernel_rfl) rfl) (now1_seqs g A S V (w.heap.size + 1) w.heap.size (fun k => k = w.heap.size + 1 ∨ k = g) (.inl rfl) (by omega) (.inr rfl) (by omega) bP.cell hAV HS.out) (by omega) (fun k hk => by rcases hk with rfl | rfl <;> omega) (Below.refl _ _) (fun _ => rfl)
    (fun pre W => ∃ v, Coll V w.heap.size 22 (V.heap.size + 2) 3 1 pre.length (intVs (natInts pre)) W v)
    (fun _ _ _ => False)
    (Zone.coll (by omega) (by omega) (Nat.le_refl _) (fun pre => pre.length) (fun pre => intVs (natInts pre)))
    (fun cd => Zone.none)
    ⟨_, Coll.start bL _ _ _⟩ ?round ?done ?stop
  case stop => rintro cd pre W' _ h _; exact h.elim
  case round =>
    intro l2 pre i V0 hpre
    simp only [natV]
    gi_wp2
    refine ⟨by trivial, fun V1 hsz1 ⟨v, hC⟩ => ?_⟩
    have hc1 := hC.box.cell
    have hpl := hpre.length_le
    rw [List.length_append] at hpl
    have h1 : pre.length + (0 + 1) ≤ maxLen := by unfold maxLen; have := HL.out; simp at hpl; omega
    have h2 : (pre.length + (0 + 1)) * 8 ≤ 140737488355328 := by have := HL.out; simp at hpl; omega
    have H1 := Lib.hid h1
    have H2 := Lib.hid h2
    clear h1 h2
    gi_wp2_with (gi_at_builtin; refine wpListIn_append_new (v := v) rfl _ _ 22 rfl Try.underlying22 hi hz0 hz1 hz2 hz3 (by decide) rfl hC.row 0 rfl rfl (int_one _) H1.out H2.out hsz1 ?_; intro g' cap' w1 hown1 hgr1; obtain ⟨hv1, hC2, hk2⟩ := hC.step (by omega) (by omega) hsz1 hown1 hgr1; have hc2 := hv1.cell; have hf2 := hv1.frozen)
    exact ⟨hk2 _ _ _ _ _ (by omega) (by rintro (h | h) <;> omega) (fun k hk => by rintro (h | h) <;> omega) (by omega) (by omega), ⟨_, by rw [natInts_snoc, List.length_append]; exact hC2⟩⟩
  case done =>
    rintro W ⟨v, hC⟩ hK
    go_wp2
    refine ⟨by simp, .inl ⟨_, _, rfl, run_takeDeferred hK, ?_⟩⟩
    have hs := hC.grown.size
    refine ⟨_, results_tmp rfl _ _ _, w.heap.size, v, rfl, Nat.le_refl _, ?_, ?_, ?_⟩
    · exact (World.putObj_heap_other (by omega)).trans hC.box
    · exact owns_lower (ownsRow_putObj hC.row (.deferred none) hK rfl) (by omega)
    · exact below_putObj (hbV.trans (hC.below (Nat.le_refl _) (by omega))) (by omega) _ (by omega)

set_option maxHeartbeats 2000000 in
theorem frees1_seqs (L : List Nat) (p : Option Addr) (cap : Nat) (w : World) (Bn n₀ : Nat) (z : Nat → Prop) (hz : z Bn) (hzp : ∀ a, p = some a → z a.block) (hc : Boxed w Bn 22 (.slice p L.length cap)) (hin : IntsAt w p (natInts L)) (hlen : L.length ≤ 1000000) :
    Seqs Try.prog 41 #[.pointer (some ⟨Bn, 0, none⟩)] natV n₀ z 0 L w := by
  intro l J Jx W hW hJ hJx hY h0
  have hcW : W.cell? ⟨Bn, 0, none⟩ = some (.slice p L.length cap) := (hW.cell (p := ⟨Bn, 0, none⟩) hc.lt).trans hc.cell
  have hIW := hin.below hW (Nat.le_refl _)
  have HI := Lib.hid hin
  have hsz := hW.size
  have HW := Lib.hid hIW
  have HZ := Lib.hid hzp
  clear hc hin hW hIW hzp hz
  refine (callsIn_wide (n := 6)).1 ?_
  refine callsIn_of_wp Try.func41 rfl trivial ?_ rfl
  simp only [Try.ntmps41, List.size_toArray, List.length_cons, List.length_nil, Nat.reduceAdd, Nat.reduceSub, Array.replicate_succ, Array.replicate_zero, List.push_toArray, List.append_toArray, List.nil_append, List.cons_append]
  gi_wp2
  gi_loopw [7] (fun q wr => ∃ k : Nat, k ≤ L.length ∧ q = .int .i64 k ∧ J (L.take k) wr ∧ IntsAt wr p (natInts L) ∧ W.heap.size ≤ wr.heap.size) (fun p _ => L.length - (intOf p).toNat)
  case atStart => exact ⟨0, Nat.zero_le _, rfl, h0, HW.out, Nat.le_refl _⟩
  case round =>
    obtain ⟨k, hk, rfl, hJs, hbw, hwz⟩ := hrel
    by_cases hlt : k < L.length
    · have hlt' : (k : Int) < (L.length : Int) := by omega
      obtain ⟨s, hs⟩ : ∃ s, L[k]? = some s := ⟨_, List.getElem?_eq_getElem hlt⟩
      have HB := Lib.hid hbw
      have hpos : 0 < (natInts L).length := by rw [natInts_len]; omega
      obtain ⟨b, off, rfl, hbl, hcs⟩ := hbw hpos
      clear hbl hpos
      have hcell := hcs k s (by simp [natInts, hs])
      have htk : L.take (k + 1) = L.take k ++ [s] := by rw [List.take_add_one, hs]; rfl
      obtain ⟨fn, tmps, assign, body, hy, hR⟩ := hY (L.take k) s wr hJs (by simpa using hwz) (by rw [← htk]; exact List.take_prefix _ _)
      simp only [natV] at hy
      have HT := Lib.hid htk
      clear hs hcs htk hbw
      gi_wp2
      refine hR.mono ?_
      rintro e W3 (⟨rfl, hJ3, hk3⟩ | ⟨rfl, hJx3, hk3⟩)
      · have hsz3 := hk3.below.size
        gi_wp2
        go_roundw
        case rel => exact ⟨k + 1, by omega, by go_num, by rw [HT.out]; exact hJ3, HB.out.kept hsz3 (fun a e hlt => hk3.extra _ (HZ.out a e) hlt), by omega⟩
        case measure => simp [intOf]; omega
      · gi_wp2
        refine bodyPost_ret (results_none rfl _ _ _) rfl ?_
        exact ⟨⟨_, rfl⟩, .inr ⟨L.take k ++ [s], by rw [← HT.out]; exact List.take_prefix _ _, hJx3⟩⟩
    · obtain rfl : k = L.length := by omega
      gi_wp2
      go_end0
      exact ⟨⟨_, rfl⟩, .inl (by rw [List.take_length] at hJs; exact hJs)⟩
end Go.Proofs.Ytbidgpeeogoglaa
/-
  Package arena in the words of what it is thought of; lineagelaw15.works.
-/
namespace Go.Proofs.Ytbidgpeeogoglaa
set_option maxRecDepth 100000
open Go.RowKit

/-- An arena at g that is S. -/
structure IsAr (w : World) (g : Nat) (S : St) : Prop where
  ex : ∃ A, ArAt w g A ∧ Rep A S
theorem IsAr.lt {w : World} {g : Nat} {S : St} (h : IsAr w g S) : g < w.heap.size := by obtain ⟨A, h1, _⟩ := h.ex; exact h1.blk.lt
theorem IsAr.block {w w' : World} {g : Nat} {S : St} (h : IsAr w g S) (hb : w'.heap[g]? = w.heap[g]?) : IsAr w' g S := by obtain ⟨A, h1, h2⟩ := h.ex; exact ⟨A, h1.block hb, h2⟩
theorem IsAr.below {w w' : World} {g B : Nat} {S : St} (h : IsAr w g S) (hb : Below B w w') (hg : g < B) : IsAr w' g S := h.block (hb.block g hg)
theorem IsAr.free_lt {w : World} {g : Nat} {S : St} (h : IsAr w g S) : ∀ i ∈ S.free, i < 32 := by obtain ⟨A, _, h2⟩ := h.ex; exact h2.chain.lt
theorem IsAr.nodup {w : World} {g : Nat} {S : St} (h : IsAr w g S) : S.free.Nodup := by obtain ⟨A, _, h2⟩ := h.ex; exact h2.nodup
theorem IsAr.len {w : World} {g : Nat} {S : St} (h : IsAr w g S) : S.slots.length = 32 := by obtain ⟨A, h1, h2⟩ := h.ex; rw [← h2.slots]; exact h1.full.slots
def RetSt (v : Value) (w : World) (g : Nat) (S : St) (e : Ending) (w' : World) : Prop := e = .returned v ∧ IsAr w' g S ∧ w.grownBy w' (some g)
theorem new_st (w : World) : Calls Try.prog 25 #[] w fun e w' => ∃ g, e = .returned (.pointer (some ⟨g, 0, none⟩)) ∧ w.heap.size ≤ g ∧ IsAr w' g St.new ∧ Below w.heap.size w w' :=
  (arNew_any w).mono fun e w' ⟨g, h1, h2, h3, h4⟩ => ⟨g, h1, h2, ⟨_, h3, rep_new⟩, h4⟩
theorem take_st {S : St} {i : Nat} {L : List Nat} (he : S.free = i :: L) (g : Nat) (w : World) (h : IsAr w g S) :
    Calls Try.prog 38 #[.pointer (some ⟨g, 0, none⟩)] w (RetSt (.tuple #[.int .i64 i, .nilIface]) w g S.take) := by
  obtain ⟨A, hA, hS⟩ := h.ex
  obtain ⟨h1, h2, n, hn, hr⟩ := hS.first_some he
  exact (take_some h1 g A n w hA h2 hn).mono fun e w' ⟨e1, e2, e3⟩ => ⟨e1, ⟨_, e2, hr⟩, e3⟩
theorem take_full {S : St} (he : S.free = []) (g : Nat) (w : World) (h : IsAr w g S) :
    Calls Try.prog 38 #[.pointer (some ⟨g, 0, none⟩)] w (RetSame (.tuple #[.int .i64 0, errno 19]) w) := by
  obtain ⟨A, hA, hS⟩ := h.ex
  exact take_none g A w hA (hS.first_none he)
theorem put_st {S : St} {i : Nat} (hi : i < 32) (s : SlotV) (g : Nat) (w : World) (h : IsAr w g S) (hw0 : 0 ≤ S.writes) (hw1 : S.writes < 1000000000) :
    Calls Try.prog 26 #[.pointer (some ⟨g, 0, none⟩), .int .i64 i, .agg s.cells] w (RetSt .nilIface w g (S.put i s)) := by
  obtain ⟨A, hA, hS⟩ := h.ex
  exact (put_in hi g A s w hA (by rw [hS.writes]; exact hw0) (by rw [hS.writes]; exact hw1)).mono fun e w' ⟨e1, e2, e3⟩ => ⟨e1, ⟨_, e2, hS.put i s⟩, e3⟩
theorem free_st {S : St} {i : Nat} (hi : i < 32) (hn : i ∉ S.free) (g : Nat) (w : World) (h : IsAr w g S) (hw0 : 0 ≤ S.writes) (hw1 : S.writes < 1000000000) :
    Calls Try.prog 55 #[.pointer (some ⟨g, 0, none⟩), .int .i64 i] w (RetSt .nilIface w g (S.give i)) := by
  obtain ⟨A, hA, hS⟩ := h.ex
  exact (free_in hi g A w hA (hS.taken i hi hn) (by rw [hS.writes]; exact hw0) (by rw [hS.writes]; exact hw1)).mono fun e w' ⟨e1, e2, e3⟩ => ⟨e1, ⟨_, e2, hS.give hi hn⟩, e3⟩
theorem free_no {S : St} {i : Nat} (hi : i ∈ S.free) (g : Nat) (w : World) (h : IsAr w g S) :
    Calls Try.prog 55 #[.pointer (some ⟨g, 0, none⟩), .int .i64 i] w (RetSame (errno 9) w) := by
  obtain ⟨A, hA, hS⟩ := h.ex
  obtain ⟨n, hn, hne⟩ := hS.next_free hi
  exact free_twice (hS.chain.lt i hi) g A n w hA hn hne
theorem get_st {S : St} {i : Nat} (hi : i < 32) {s : SlotV} (hs : S.slots[i]? = some s) (g : Nat) (w : World) (h : IsAr w g S) :
    Calls Try.prog 23 #[.pointer (some ⟨g, 0, none⟩), .int .i64 i] w (RetB (.tuple #[.agg s.cells, .nilIface]) w) := by
  obtain ⟨A, hA, hS⟩ := h.ex
  exact get_in hi g A (by rw [hS.slots]; exact hs) w hA
/-- What Frees hands back: an iterator over the free ones. -/
theorem frees_st {S : St} (g : Nat) (w : World) (h : IsAr w g S) : Calls Try.prog 22 #[.pointer (some ⟨g, 0, none⟩)] w fun e w' =>
    ∃ B, e = .returned (.func (.func 41) #[] #[.pointer (some ⟨B, 0, none⟩)]) ∧ (∀ n₀, Seqs Try.prog 41 #[.pointer (some ⟨B, 0, none⟩)] natV n₀ (fun k => w.heap.size ≤ k ∧ k < w'.heap.size) 0 S.free w') ∧ Below w.heap.size w w' := by
  obtain ⟨A, hA, hS⟩ := h.ex
  refine (frees_any g A S w hA hS).mono ?_
  rintro e w' ⟨B, v, h1, h2, h3, h4, h5⟩
  obtain ⟨p, cap, rfl, hi, hp⟩ := owns_intsFrom h4
  have hl := hS.len
  exact ⟨B, h1, fun n₀ => frees1_seqs S.free p cap w' B n₀ _ ⟨h2, h3.lt⟩ hp h3 hi (by omega), h5⟩

theorem frees_nil (b : Option Addr) (w : World) : (binOp .neq 50 (.func (.func 41) #[] #[.pointer b]) .nilFunc).run Try.prog w = .ok (.bool true) w := by kernel_rfl
end Go.Proofs.Ytbidgpeeogoglaa
/-
  lineagekit.Pick: a number below n out of any number.
-/
namespace Go.Proofs.Ytbidgpeeogoglaa
set_option maxRecDepth 100000
open Go.RowKit

/-- lineagekit.Pick: a number below n out of any number. -/
def pickZ (i n : Int) : Int := i % n
theorem pick_any (i : Int) (n : Nat) (h0 : 0 < n) (h1 : n ≤ 1000000000) (w : World) : Calls Try.prog 7 #[.int .i64 i, .int .i64 n] w (RetSame (.int .i64 (pickZ i n)) w) := by
  have hn1 : ¬ (n : Int) < 1 := by omega
  have hn0 : ¬ (n : Int) = 0 := by omega
  have hm1 : i % (n : Int) < n := Int.emod_lt_of_pos _ (by omega)
  have hm0 : 0 ≤ i % (n : Int) := Int.emod_nonneg _ hn0
  have ht := Int.tmod_eq_emod (a := i) (b := n)
  have hna : ((n : Int).natAbs : Int) = n := by omega
  by_cases hc : 0 ≤ i ∨ (n : Int) ∣ i
  · rw [if_pos hc] at ht
    have hneg : ¬ i % (n : Int) < 0 := by omega
    have hw : IntKind.i64.wrap (i % (n : Int)) = i % (n : Int) := IntWalk.i64_in _ (by omega)
    have ht' : i.tmod (n : Int) = i % (n : Int) := by omega
    clear ht hc
    go_enter Try.func7, Try.ntmps7
    go_wp2
    go_ret
    exact ⟨rfl, rfl⟩
  · rw [if_neg hc] at ht
    have hnd : i % (n : Int) ≠ 0 := fun h => hc (.inr (Int.dvd_of_emod_eq_zero h))
    have ht' : i.tmod (n : Int) = i % (n : Int) - n := by omega
    have hneg : i % (n : Int) - n < 0 := by omega
    have hw : IntKind.i64.wrap (i % (n : Int) - n) = i % (n : Int) - n := IntWalk.i64_in _ (by omega)
    have hw2 : i % (n : Int) - n + n = i % (n : Int) := by omega
    clear ht hc
    go_enter Try.func7, Try.ntmps7
    go_wp2
    go_ret
    exact ⟨rfl, rfl⟩
theorem pick_range (i : Int) (n : Nat) (h0 : 0 < n) : ∃ k : Nat, k < n ∧ pickZ i n = k := by
  have hm1 : i % (n : Int) < n := Int.emod_lt_of_pos _ (by omega)
  have hm0 : 0 ≤ i % (n : Int) := Int.emod_nonneg _ (by omega)
  exact ⟨(i % (n : Int)).toNat, by omega, by unfold pickZ; omega⟩
/-- The number as a plain one. -/
def pickN (i : Int) (n : Nat) : Nat := (i % (n : Int)).toNat
theorem pickN_lt (i : Int) (n : Nat) (h0 : 0 < n) : pickN i n < n := by
  have hm1 : i % (n : Int) < n := Int.emod_lt_of_pos _ (by omega)
  have hm0 : 0 ≤ i % (n : Int) := Int.emod_nonneg _ (by omega)
  unfold pickN; omega
theorem pickN_eq (i : Int) (n : Nat) (h0 : 0 < n) : pickZ i n = (pickN i n : Int) := by
  have hm0 : 0 ≤ i % (n : Int) := Int.emod_nonneg _ (by omega)
  unfold pickN pickZ; omega
end Go.Proofs.Ytbidgpeeogoglaa
