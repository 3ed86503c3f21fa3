/-
  lineagelaw15.Act: its cells; a script that may be read.
-/
import Derived.Test.YtdgdbcapojgnlaaDoorArWorks
namespace Go.Proofs.YtdgdbcapojgnlaaDoor
set_option maxRecDepth 100000
open Go.RowKit

structure ActV where
  kind : Int
  n : Int
  s : SlotV
def ActV.cells (x : ActV) : Array Value := #[.int .i64 x.kind, .int .i64 x.n, .bool x.s.used, .bool x.s.dead, .int .i64 x.s.kids, .int .i64 x.s.prev, .int .i64 x.s.next, .int .i64 x.s.slot, .int .i64 x.s.birth, .int .i64 x.s.upSlot, .int .i64 x.s.upBirth, .int .i64 x.s.kind, .string x.s.user, .string x.s.label, .int .u64 x.s.scopes, .int .i64 x.s.level, .int .i64 x.s.born, .int .i64 x.s.deadline, .int .i64 x.s.depth]
theorem ActV.cells_eq (x : ActV) : x.cells = #[.int .i64 x.kind, .int .i64 x.n] ++ x.s.cells := by simp [ActV.cells, SlotV.cells]
def ActV.zero : ActV := ⟨0, 0, SlotV.zero⟩
@[go_sem] theorem ActV.size (x : ActV) : (ActV.cells x).size = 19 := rfl
theorem ActV.one (x : ActV) : ∀ v ∈ (ActV.cells x).toList, v.oneCell' = true := by
  intro v hv
  simp only [ActV.cells_eq, Array.toList_append, List.mem_append] at hv
  rcases hv with hv | hv
  · simp at hv; rcases hv with rfl | rfl <;> rfl
  · exact SlotV.one _ v hv
theorem ActV.at0 (x : ActV) : (ActV.cells x)[0]? = some (.int .i64 x.kind) := rfl
theorem ActV.at1 (x : ActV) : (ActV.cells x)[1]? = some (.int .i64 x.n) := rfl
theorem ActV.at2 (x : ActV) {j : Nat} {v : Value} (h : x.s.cells[j]? = some v) : (ActV.cells x)[2 + j]? = some v := by
  rw [ActV.cells_eq, Array.getElem?_append_right (by simp)]
  simpa using h
theorem actInfo : (Tryd.prog.info? 38).map (·.size) = some 19 := by kernel_rfl
theorem ActV.row {w : World} {g : Nat} {t : TypeId} (x : ActV) (h : Blk w g t x.cells) : RowAt w g 2 x.s.cells := ⟨fun j v hv => by rw [h.cell]; exact x.at2 hv⟩
/-- A script that may be read. -/
def ActsAt (w : World) (A : Option Addr) (xs : List ActV) : Prop := 0 < xs.length → ∃ b off, A = some ⟨b, off, none⟩ ∧ b < w.heap.size ∧ ∀ k y, xs[k]? = some y → RowAt w b (off + k * 19) y.cells
theorem ActsAt.below {w w' : World} {A : Option Addr} {xs : List ActV} {B : Nat} (h : ActsAt w A xs) (hb : Below B w w') (hB : w.heap.size ≤ B) : ActsAt w' A xs := fun hn => by
  obtain ⟨b, off, rfl, hlt, hc⟩ := h hn
  have hs := hb.size
  exact ⟨b, off, rfl, by omega, fun k i hk => (hc k i hk).below hb (by omega)⟩
end Go.Proofs.YtdgdbcapojgnlaaDoor
