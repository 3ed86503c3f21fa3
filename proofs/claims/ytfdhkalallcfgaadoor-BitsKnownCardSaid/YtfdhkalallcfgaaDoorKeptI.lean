/-
  lineagekit: lists of ints, lent and kept. (Begun: see NOTES.md.)
-/
import Derived.Test.YtfdhkalallcfgaaDoorOf
namespace Go.Proofs.YtfdhkalallcfgaaDoor
set_option maxRecDepth 100000
open Go.RowKit

def i64v (l : List Int) : List Value := l.map fun n => Value.int .i64 n
def markI (j : Nat) : Int := -91000000 - (j : Int)
/-- Some numbers, and the sixteen marks behind them. -/
def fullI (l : List Int) : List Int := l ++ (List.range 16).map markI
theorem fullI_len (l : List Int) : (fullI l).length = l.length + 16 := by simp [fullI]
theorem fullI_take (l : List Int) : (fullI l).take l.length = l := by simp [fullI]
theorem fullI_lo {l : List Int} {k : Nat} {x : Int} (h : l[k]? = some x) : (fullI l)[k]? = some x := by
  have hk : k < l.length := (List.getElem?_eq_some_iff.1 h).1
  unfold fullI; rw [List.getElem?_append_left hk, h]
theorem fullI_hi {l : List Int} {j : Nat} (h : j < 16) : (fullI l)[l.length + j]? = some (markI j) := by
  unfold fullI
  rw [List.getElem?_append_right (by simp)]
  simp [h]
set_option maxHeartbeats 1000000 in
theorem markI_any (i : Int) (h1 : -1000000000000000000 ≤ i) (h2 : i ≤ 1000000000000000000) (w : World) : Calls Tryd.prog 39 #[.int .i64 90, .int .i64 i] w (RetSame (.int .i64 (-91000000 - i)) w) := by
  go_enter Tryd.func39, Tryd.ntmps39
  go_wp2
  go_ret
  exact ⟨rfl, rfl⟩
theorem own_ints {w : World} {base g n cap : Nat} {l : List Int} (h : w.ownsRow base 3 1 (.slice (some ⟨g, 0, none⟩) n cap) n (i64v l)) : IntsAt w (some ⟨g, 0, none⟩) l := fun _ =>
  ⟨g, 0, rfl, (h.lt g rfl).2, fun k x hk => by
    have hc := h.cells rfl k (.int .i64 x) (by unfold i64v; rw [List.getElem?_map, hk]; rfl)
    rw [Addr.add_lit] at hc
    exact hc⟩
end Go.Proofs.YtfdhkalallcfgaaDoor
