/-
  The walk of lineagelaw02.BitsTwo.
-/
import Derived.Test.YtfdhkalallcfgaaCount
namespace Go.Proofs.Ytfdhkalallcfgaa
open Go.RowKit

set_option maxHeartbeats 1000000 in
theorem bitsTwo_any (x y : BitVec 64) (w : World) : Calls Try.prog 3 #[.int .u64 (wd x), .int .u64 (wd y)] w (RetB (.bool true) w) := by
  have er : ∀ z : BitVec 64, (z == z) = true := fun z => by simp
  have hin : (x &&& ~~~y == 0#64) = inB x y := rfl
  go_enter Try.func3, Try.ntmps3
  go_wp2_with (first
    | (go_at_call 6; refine (meet_any _ _ _).mono ?_; rintro e w' ⟨rfl, rfl⟩)
    | (go_at_call 7; refine (rmeet_any _ _ _).mono ?_; rintro e w' ⟨rfl, rfl⟩)
    | (go_at_call 8; refine (join_any _ _ _).mono ?_; rintro e w' ⟨rfl, rfl⟩)
    | (go_at_call 9; refine (rjoin_any _ _ _).mono ?_; rintro e w' ⟨rfl, rfl⟩)
    | (go_at_call 10; refine (less_any _ _ _).mono ?_; rintro e w' ⟨rfl, rfl⟩)
    | (go_at_call 11; refine (rless_any _ _ _).mono ?_; rintro e w' ⟨rfl, rfl⟩)
    | (go_at_call 12; refine (within_any _ _ _).mono ?_; rintro e w' ⟨rfl, rfl⟩)
    | (go_at_call 13; refine (rwithin_any _ _ _).mono ?_; rintro e w' ⟨rfl, rfl⟩)
    | (go_at_call 14; refine (count_any _ _).mono ?_; rintro e w' ⟨rfl, rfl⟩)
    | (go_at_call 15; refine (rcount_any _ _).mono ?_; rintro e w1 ⟨rfl, hb1⟩))
  go_ret
  exact ⟨rfl, hb1⟩
end Go.Proofs.Ytfdhkalallcfgaa
