/-
  A slot of an arena: its seventeen cells.
-/
import Derived.Test.YtahcedpfnechfaaDoorProg
import Derived.Test.YtahcedpfnechfaaDoorMem
namespace Go.Proofs.YtahcedpfnechfaaDoor
set_option maxRecDepth 100000
open Go.RowKit Go.Sort

structure SlotV where
  used : Bool
  dead : Bool
  kids : Int
  prev : Int
  next : Int
  slot : Int
  birth : Int
  upSlot : Int
  upBirth : Int
  kind : Int
  user : ByteArray
  label : ByteArray
  scopes : Int
  level : Int
  born : Int
  deadline : Int
  depth : Int

def SlotV.cells (s : SlotV) : Array Value := #[.bool s.used, .bool s.dead, .int .i64 s.kids, .int .i64 s.prev, .int .i64 s.next, .int .i64 s.slot, .int .i64 s.birth, .int .i64 s.upSlot, .int .i64 s.upBirth, .int .i64 s.kind, .string s.user, .string s.label, .int .u64 s.scopes, .int .i64 s.level, .int .i64 s.born, .int .i64 s.deadline, .int .i64 s.depth]
def SlotV.zero : SlotV := ⟨false, false, 0, 0, 0, 0, 0, 0, 0, 0, ByteArray.empty, ByteArray.empty, 0, 0, 0, 0, 0⟩
def SlotV.bare : SlotV := ⟨false, false, -1, -1, -1, 0, 0, 0, 0, 0, ByteArray.empty, ByteArray.empty, 0, 0, 0, 0, 0⟩
@[go_sem] theorem SlotV.size (s : SlotV) : (SlotV.cells s).size = 17 := rfl
theorem SlotV.one (s : SlotV) : ∀ v ∈ (SlotV.cells s).toList, v.oneCell' = true := by
  intro v hv
  simp [SlotV.cells] at hv
  rcases hv with rfl | rfl | rfl | rfl | rfl | rfl | rfl | rfl | rfl | rfl | rfl | rfl | rfl | rfl | rfl | rfl | rfl <;> rfl
theorem slotInfo : (Tryd.prog.info? 49).map (·.size) = some 17 := by kernel_rfl
theorem slotU : ∃ fs, Tryd.prog.underlying 49 = some (.struct fs) := ⟨_, Tryd.underlying49⟩
theorem ite_ok_false {p : Prop} [Decidable p] (c : Bool) (w : World) : (if p then Result.ok (Value.bool c) w else Result.ok (Value.bool false) w) = Result.ok (Value.bool (decide p && c)) w := by split <;> simp_all
theorem eql_slot (s : SlotV) (w : World) : (binOp .eql 49 (.agg s.cells) (.agg s.cells)).run Tryd.prog w = .ok (.bool true) w := by
  unfold SlotV.cells
  simp [go_sem]
theorem neq_slot (s : SlotV) (w : World) : (binOp .neq 49 (.agg s.cells) (.agg s.cells)).run Tryd.prog w = .ok (.bool false) w := by
  unfold SlotV.cells
  simp [go_sem]

/-! ### the arena's block -/
/-- What an arena holds. -/
structure Ar where
  slots : List SlotV
  next : List Int
  first : Int
  writes : Int
def Ar.cells (A : Ar) : Array Value := ((A.slots.flatMap fun (s : SlotV) => (SlotV.cells s).toList) ++ (A.next.map (Value.int .i64) ++ [Value.int .i64 A.first, Value.int .i64 A.writes])).toArray
structure Ar.Full (A : Ar) : Prop where
  slots : A.slots.length = 32
  next : A.next.length = 32
theorem flat_len17 : ∀ l : List SlotV, (l.flatMap fun (s : SlotV) => (SlotV.cells s).toList).length = 17 * l.length
  | [] => rfl
  | s :: l => by
    have h := flat_len17 l
    have e : s.cells.toList.length = 17 := rfl
    simp only [List.flatMap_cons, List.length_append, List.length_cons, h, e]
    omega
theorem flat_at17 : ∀ (l : List SlotV) (i j : Nat) (s : SlotV), l[i]? = some s → j < 17 → (l.flatMap fun (s : SlotV) => (SlotV.cells s).toList)[17 * i + j]? = s.cells[j]?
  | [], i, j, s, h, _ => by simp at h
  | a :: l, 0, j, s, h, hj => by
    simp only [List.getElem?_cons_zero, Option.some.injEq] at h
    subst h
    have e : a.cells.toList.length = 17 := rfl
    rw [List.flatMap_cons, List.getElem?_append_left (by omega)]
    simp
  | a :: l, i + 1, j, s, h, hj => by
    have e : a.cells.toList.length = 17 := rfl
    rw [List.flatMap_cons, List.getElem?_append_right (by omega), e, show 17 * (i + 1) + j - 17 = 17 * i + j by omega]
    exact flat_at17 l i j s (by simpa using h) hj
theorem flat_set17 : ∀ (l : List SlotV) (i : Nat) (s : SlotV), i < l.length → (l.flatMap fun (s : SlotV) => (SlotV.cells s).toList).take (17 * i) ++ s.cells.toList ++ (l.flatMap fun (s : SlotV) => (SlotV.cells s).toList).drop (17 * i + 17) = (l.set i s).flatMap fun (s : SlotV) => (SlotV.cells s).toList
  | [], i, s, h => by simp at h
  | a :: l, 0, s, _ => by
    have e : a.cells.toList.length = 17 := rfl
    simp [e]
  | a :: l, i + 1, s, h => by
    have e : a.cells.toList.length = 17 := rfl
    have ih := flat_set17 l i s (by simpa using h)
    rw [List.flatMap_cons, List.set_cons_succ, List.flatMap_cons, ← ih, List.take_append, List.drop_append, e]
    rw [List.take_of_length_le (by omega), List.drop_eq_nil_of_le (by omega)]
    simp [show 17 * (i + 1) - 17 = 17 * i by omega, show 17 * (i + 1) + 17 - 17 = 17 * i + 17 by omega]
section
variable {A : Ar}
theorem Ar.Full.size (h : A.Full) : A.cells.size = 578 := by
  simp only [Ar.cells, List.size_toArray, List.length_append, flat_len17, h.slots, h.next, List.length_map, List.length_cons, List.length_nil]
theorem Ar.Full.slot_at (h : A.Full) {i : Nat} {s : SlotV} (hs : A.slots[i]? = some s) {j : Nat} {v : Value} (hv : s.cells[j]? = some v) : A.cells[i * 17 + j]? = some v := by
  rw [Nat.mul_comm]
  have hi := (List.getElem?_eq_some_iff.1 hs).1
  have hj : j < 17 := (Array.getElem?_eq_some_iff.1 hv).1
  have hl := flat_len17 A.slots
  rw [h.slots] at hi hl
  simp only [Ar.cells, List.getElem?_toArray]
  rw [List.getElem?_append_left (by omega), flat_at17 _ _ _ _ hs hj]
  exact hv
theorem Ar.Full.next_at (h : A.Full) {i : Nat} {n : Int} (hn : A.next[i]? = some n) : A.cells[544 + i]? = some (.int .i64 n) := by
  have hi := (List.getElem?_eq_some_iff.1 hn).1
  have hl := flat_len17 A.slots
  rw [h.slots] at hl
  simp only [Ar.cells, List.getElem?_toArray]
  rw [List.getElem?_append_right (by omega), List.getElem?_append_left (by rw [List.length_map]; omega), hl, show 544 + i - 17 * 32 = i by omega]
  simp [hn]
theorem Ar.Full.first_at (h : A.Full) : A.cells[576]? = some (.int .i64 A.first) := by
  have hl := flat_len17 A.slots
  rw [h.slots] at hl
  have hn := h.next
  simp only [Ar.cells, List.getElem?_toArray]
  rw [List.getElem?_append_right (by omega), List.getElem?_append_right (by rw [List.length_map]; omega), hl]
  simp [hn]
theorem Ar.Full.writes_at (h : A.Full) : A.cells[577]? = some (.int .i64 A.writes) := by
  have hl := flat_len17 A.slots
  rw [h.slots] at hl
  have hn := h.next
  simp only [Ar.cells, List.getElem?_toArray]
  rw [List.getElem?_append_right (by omega), List.getElem?_append_right (by rw [List.length_map]; omega), hl]
  simp [hn]
theorem Ar.Full.row (h : A.Full) {i : Nat} {s : SlotV} (hs : A.slots[i]? = some s) {w : World} {g : Nat} {t : TypeId} (hB : Blk w g t A.cells) : RowAt w g (i * 17) s.cells :=
  ⟨fun j v hv => by rw [hB.cell]; exact h.slot_at hs hv⟩
theorem Ar.Full.slot_ex (h : A.Full) {i : Nat} (hi : i < 32) : ∃ s, A.slots[i]? = some s := ⟨_, List.getElem?_eq_getElem (by rw [h.slots]; exact hi)⟩
theorem Ar.Full.next_ex (h : A.Full) {i : Nat} (hi : i < 32) : ∃ n, A.next[i]? = some n := ⟨_, List.getElem?_eq_getElem (by rw [h.next]; exact hi)⟩
/-! what a store makes of it -/
def Ar.putSlot (A : Ar) (i : Nat) (s : SlotV) : Ar := { A with slots := A.slots.set i s }
def Ar.putNext (A : Ar) (i : Nat) (n : Int) : Ar := { A with next := A.next.set i n }
def Ar.putFirst (A : Ar) (n : Int) : Ar := { A with first := n }
def Ar.putWrites (A : Ar) (n : Int) : Ar := { A with writes := n }
theorem Ar.Full.putSlot (h : A.Full) (i : Nat) (s : SlotV) : (A.putSlot i s).Full := ⟨by simp [Ar.putSlot, h.slots], h.next⟩
theorem Ar.Full.putNext (h : A.Full) (i : Nat) (n : Int) : (A.putNext i n).Full := ⟨h.slots, by simp [Ar.putNext, h.next]⟩
theorem Ar.Full.putFirst (h : A.Full) (n : Int) : (A.putFirst n).Full := ⟨h.slots, h.next⟩
theorem Ar.Full.putWrites (h : A.Full) (n : Int) : (A.putWrites n).Full := ⟨h.slots, h.next⟩
theorem Ar.Full.splice (h : A.Full) {i : Nat} (hi : i < 32) (s : SlotV) : splice A.cells (i * 17) s.cells = (A.putSlot i s).cells := by
  rw [Nat.mul_comm]
  have hl := flat_len17 A.slots
  rw [h.slots] at hl
  have e : s.cells.size = 17 := rfl
  unfold Go.Proofs.YtahcedpfnechfaaDoor.splice Ar.cells Ar.putSlot
  simp only [e]
  rw [← flat_set17 A.slots i s (by rw [h.slots]; exact hi), List.take_append_of_le_length (by omega), List.drop_append_of_le_length (by omega)]
  simp
theorem Ar.Full.setNext (h : A.Full) {i : Nat} (hi : i < 32) (n : Int) : A.cells.setIfInBounds (544 + i) (.int .i64 n) = (A.putNext i n).cells := by
  have hl := flat_len17 A.slots
  rw [h.slots] at hl
  have hn := h.next
  simp only [Ar.cells, Ar.putNext, List.setIfInBounds_toArray]
  congr 1
  rw [List.set_append_right _ _ (by omega), List.set_append_left _ _ (by rw [List.length_map]; omega), hl, show 544 + i - 17 * 32 = i by omega, List.map_set]
theorem Ar.Full.setFirst (h : A.Full) (n : Int) : A.cells.setIfInBounds 576 (.int .i64 n) = (A.putFirst n).cells := by
  have hl := flat_len17 A.slots
  rw [h.slots] at hl
  have hn := h.next
  simp only [Ar.cells, Ar.putFirst, List.setIfInBounds_toArray]
  congr 1
  rw [List.set_append_right _ _ (by omega), List.set_append_right _ _ (by rw [List.length_map]; omega), hl]
  simp [hn]
theorem Ar.Full.setWrites (h : A.Full) (n : Int) : A.cells.setIfInBounds 577 (.int .i64 n) = (A.putWrites n).cells := by
  have hl := flat_len17 A.slots
  rw [h.slots] at hl
  have hn := h.next
  simp only [Ar.cells, Ar.putWrites, List.setIfInBounds_toArray]
  congr 1
  rw [List.set_append_right _ _ (by omega), List.set_append_right _ _ (by rw [List.length_map]; omega), hl]
  simp [hn]
end
end Go.Proofs.YtahcedpfnechfaaDoor
