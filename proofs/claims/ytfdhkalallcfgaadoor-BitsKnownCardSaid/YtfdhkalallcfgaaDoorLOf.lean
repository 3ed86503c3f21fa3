/-
  lineagelaw02: the walk of BitsOf.
-/
import Derived.Test.YtfdhkalallcfgaaDoorKeptI2
import Derived.Test.YtfdhkalallcfgaaDoorROf
import Derived.Test.YtfdhkalallcfgaaDoorRPut
import Derived.Test.YtfdhkalallcfgaaDoorFault3
namespace Go.Proofs.YtfdhkalallcfgaaDoor
set_option maxRecDepth 100000
open Go.RowKit

theorem ofGo_err : ∀ (l : List Int) (s : BitVec 64) (n : Nat) (k : Int) (p : Nat), (ofGo s n l).2 = some (k, p) → k = 1 ∨ k = 9
  | [], s, n, k, p, h => by simp [ofGo] at h
  | i :: l, s, n, k, p, h => by
    unfold ofGo at h
    split at h
    · split at h
      · simp at h; exact .inr h.1.symm
      · exact ofGo_err l _ _ k p h
    · simp at h; exact .inl h.1.symm
def noOf : Option (Int × Nat) → Int
  | none => 0
  | some (k, _) => k
def plOf : Option (Int × Nat) → Int
  | none => 0
  | some (_, n) => (n : Int)
theorem at_of (l : List Int) (w : World) (hg : Laid w) : Calls Tryd.prog 20 #[ofErr (ofL l).2, .int .i64 (noOf (ofL l).2), .int .i64 (plOf (ofL l).2)] w (RetB (.bool true) w) := by
  cases h : (ofL l).2 with
  | none => exact at_nil 0 w
  | some q =>
    obtain ⟨k, p⟩ := q
    have hk := ofGo_err l 0 0 k p h
    exact at_fault k p (by omega) (by omega) w hg
end Go.Proofs.YtfdhkalallcfgaaDoor
