/-
  The audit: a forest's inside, as values; what is found (pure).
-/
import Derived.Test.YtahcedpfnechfaaDoorSlot
import Derived.Test.YtahcedpfnechfaaDoorInts
namespace Go.Proofs.YtahcedpfnechfaaDoor
set_option maxRecDepth 100000
open Go.RowKit Go.Sort

def inR (i : Int) : Bool := decide (0 ≤ i) && decide (i < 32)
theorem inR_iff {i : Int} : inR i = true ↔ 0 ≤ i ∧ i < 32 := by simp [inR]
theorem inR_nat {i : Nat} (h : i < 32) : inR (i : Int) = true := by rw [inR_iff]; omega
theorem inR_cases (i : Int) : inR i = true ∨ inR i = false := by cases inR i <;> simp
structure DumpV where
  clock : Int
  births : Int
  slots : List SlotV
  free : List Int
  garbage : Int
  roots : Int
/-- A dump's six cells. -/
def DumpV.dc (d : DumpV) (As : Option Addr) (cs : Nat) (Af : Option Addr) (cf : Nat) : List Value := [.int .i64 d.clock, .int .i64 d.births, .slice As d.slots.length cs, .slice Af d.free.length cf, .int .i64 d.garbage, .int .i64 d.roots]
/-- A look's cells: the dump, the marks, what stands behind them. -/
def lookC (dc : List Value) (M : List Int) (t : List Value) : Array Value := (dc ++ (M.map (Value.int .i64) ++ t)).toArray
section
variable {dc t : List Value} {M : List Int}
theorem lookC_d (hd : dc.length = 6) {i : Nat} (hi : i < 6) : (lookC dc M t)[i]? = dc[i]? := by
  unfold lookC
  rw [List.getElem?_toArray, List.getElem?_append_left (by omega)]
theorem lookC_m (hd : dc.length = 6) {i : Nat} {v : Int} (hi : M[i]? = some v) : (lookC dc M t)[6 + i]? = some (.int .i64 v) := by
  have hl := (List.getElem?_eq_some_iff.1 hi).1
  unfold lookC
  rw [List.getElem?_toArray, List.getElem?_append_right (by omega), hd, List.getElem?_append_left (by rw [List.length_map]; omega), show 6 + i - 6 = i by omega, List.getElem?_map, hi]
  rfl
theorem lookC_t (hd : dc.length = 6) (hM : M.length = 32) (j : Nat) : (lookC dc M t)[38 + j]? = t[j]? := by
  unfold lookC
  rw [List.getElem?_toArray, List.getElem?_append_right (by omega), hd, List.getElem?_append_right (by rw [List.length_map]; omega), List.length_map, hM, show 38 + j - 6 - 32 = j by omega]
theorem lookC_setm (hd : dc.length = 6) {i : Nat} (hi : i < M.length) (v : Int) : (lookC dc M t).setIfInBounds (6 + i) (.int .i64 v) = lookC dc (M.set i v) t := by
  unfold lookC
  rw [List.setIfInBounds_toArray, List.set_append_right _ _ (by omega), hd, show 6 + i - 6 = i by omega, List.set_append_left _ _ (by rw [List.length_map]; exact hi), List.map_set]
theorem lookC_sett (hd : dc.length = 6) (hM : M.length = 32) (j : Nat) (v : Value) : (lookC dc M t).setIfInBounds (38 + j) v = lookC dc M (t.set j v) := by
  unfold lookC
  rw [List.setIfInBounds_toArray, List.set_append_right _ _ (by omega), hd, List.set_append_right _ _ (by rw [List.length_map]; omega), List.length_map, hM, show 38 + j - 6 - 32 = j by omega]
end
theorem DumpV.dc_len (d : DumpV) (As : Option Addr) (cs : Nat) (Af : Option Addr) (cf : Nat) : (d.dc As cs Af cf).length = 6 := rfl
/-- A list of slots in memory. -/
def SlotsIn (w : World) (A : Option Addr) (l : List SlotV) : Prop := 0 < l.length → ∃ b off, A = some ⟨b, off, none⟩ ∧ b < w.heap.size ∧ ∀ k s, l[k]? = some s → RowAt w b (off + k * 17) s.cells
/-- At L a look over this dump, with these marks. -/
structure LookAt (w : World) (L : Nat) (ty : TypeId) (t : List Value) (d : DumpV) (As : Option Addr) (cs : Nat) (Af : Option Addr) (cf : Nat) (M : List Int) : Prop where
  blk : Blk w L ty (lookC (d.dc As cs Af cf) M t)
  len : M.length = 32
  slots : SlotsIn w As d.slots
  free : IntsAt w Af d.free
  ne : (∀ a, As = some a → a.block ≠ L) ∧ (∀ a, Af = some a → a.block ≠ L)
theorem SlotsIn.kept {w w' : World} {A : Option Addr} {l : List SlotV} (h : SlotsIn w A l) (hs : w.heap.size ≤ w'.heap.size) (hb : ∀ a, A = some a → a.block < w.heap.size → w'.heap[a.block]? = w.heap[a.block]?) : SlotsIn w' A l := fun hn => by
  obtain ⟨b, off, rfl, hlt, hr⟩ := h hn
  refine ⟨b, off, rfl, by omega, fun k s hk => ⟨fun j v hv => ?_⟩⟩
  exact (World.cell?_of_block (a := ⟨b, off + k * 17 + j, none⟩) (hb ⟨b, off, none⟩ rfl hlt)).trans ((hr k s hk).at_ j v hv)
def wrapI (x : Int) : Int := IntKind.i64.wrap x
end Go.Proofs.YtahcedpfnechfaaDoor
