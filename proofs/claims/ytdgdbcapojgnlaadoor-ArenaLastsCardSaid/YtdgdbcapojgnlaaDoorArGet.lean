/-
  Package arena: what Get answers at any number.
-/
import Derived.Test.YtdgdbcapojgnlaaDoorRgOps
namespace Go.Proofs.YtdgdbcapojgnlaaDoor
set_option maxRecDepth 100000
open Go.RowKit

/-- What Get answers at any number. -/
def St.slotAt (S : St) (j : Int) : SlotV := if inR j = true then (match S.slots[j.toNat]? with | some s => s | none => SlotV.zero) else SlotV.zero
def errAt (j : Int) : Value := if inR j = true then .nilIface else errno 1
theorem get_gen {S : St} (j : Int) (g : Nat) (w : World) (h : IsAr w g S) : Calls Tryd.prog 27 #[.pointer (some ⟨g, 0, none⟩), .int .i64 j] w (RetB (.tuple #[.agg (S.slotAt j).cells, errAt j]) w) := by
  rcases hj : inR j with _ | _
  · have h2 : j < 0 ∨ 32 ≤ j := by
      have : ¬ (0 ≤ j ∧ j < 32) := fun h => by rw [inR_iff.2 h] at hj; cases hj
      omega
    unfold St.slotAt errAt
    rw [hj, if_neg (by simp), if_neg (by simp)]
    exact get_out h2 _ w
  · have h2 := inR_iff.1 hj
    obtain ⟨k, rfl⟩ : ∃ k : Nat, j = (k : Int) := ⟨j.toNat, by omega⟩
    obtain ⟨s, hs⟩ := h.slot (k := k) (by omega)
    unfold St.slotAt errAt
    rw [hj, if_pos rfl, if_pos rfl, Int.toNat_natCast, hs]
    exact get_st (by omega) hs g w h
end Go.Proofs.YtdgdbcapojgnlaaDoor
