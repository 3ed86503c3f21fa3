/-
  lineagekit.Pick: a number below n out of any number.
-/
import Derived.Test.YtdgdbcapojgnlaaDoorProg
import Derived.Test.YtdgdbcapojgnlaaDoorMem
namespace Go.Proofs.YtdgdbcapojgnlaaDoor
set_option maxRecDepth 100000
open Go.RowKit

/-- lineagekit.Pick: a number below n out of any number. -/
def pickZ (i n : Int) : Int := i % n
theorem pick_any (i : Int) (n : Nat) (h0 : 0 < n) (h1 : n ≤ 1000000000) (w : World) : Calls Tryd.prog 9 #[.int .i64 i, .int .i64 n] w (RetSame (.int .i64 (pickZ i n)) w) := by
  have hn1 : ¬ (n : Int) < 1 := by omega
  have hn0 : ¬ (n : Int) = 0 := by omega
  have hm1 : i % (n : Int) < n := Int.emod_lt_of_pos _ (by omega)
  have hm0 : 0 ≤ i % (n : Int) := Int.emod_nonneg _ hn0
  have ht := Int.tmod_eq_emod (a := i) (b := n)
  have hna : ((n : Int).natAbs : Int) = n := by omega
  by_cases hc : 0 ≤ i ∨ (n : Int) ∣ i
  · rw [if_pos hc] at ht
    have hneg : ¬ i % (n : Int) < 0 := by omega
    have hw : IntKind.i64.wrap (i % (n : Int)) = i % (n : Int) := IntWalk.i64_in _ (by omega)
    have ht' : i.tmod (n : Int) = i % (n : Int) := by omega
    clear ht hc
    go_enter Tryd.func9, Tryd.ntmps9
    go_wp2
    go_ret
    exact ⟨rfl, rfl⟩
  · rw [if_neg hc] at ht
    have hnd : i % (n : Int) ≠ 0 := fun h => hc (.inr (Int.dvd_of_emod_eq_zero h))
    have ht' : i.tmod (n : Int) = i % (n : Int) - n := by omega
    have hneg : i % (n : Int) - n < 0 := by omega
    have hw : IntKind.i64.wrap (i % (n : Int) - n) = i % (n : Int) - n := IntWalk.i64_in _ (by omega)
    have hw2 : i % (n : Int) - n + n = i % (n : Int) := by omega
    clear ht hc
    go_enter Tryd.func9, Tryd.ntmps9
    go_wp2
    go_ret
    exact ⟨rfl, rfl⟩
theorem pick_range (i : Int) (n : Nat) (h0 : 0 < n) : ∃ k : Nat, k < n ∧ pickZ i n = k := by
  have hm1 : i % (n : Int) < n := Int.emod_lt_of_pos _ (by omega)
  have hm0 : 0 ≤ i % (n : Int) := Int.emod_nonneg _ (by omega)
  exact ⟨(i % (n : Int)).toNat, by omega, by unfold pickZ; omega⟩
/-- The number as a plain one. -/
def pickN (i : Int) (n : Nat) : Nat := (i % (n : Int)).toNat
theorem pickN_lt (i : Int) (n : Nat) (h0 : 0 < n) : pickN i n < n := by
  have hm1 : i % (n : Int) < n := Int.emod_lt_of_pos _ (by omega)
  have hm0 : 0 ≤ i % (n : Int) := Int.emod_nonneg _ (by omega)
  unfold pickN; omega
theorem pickN_eq (i : Int) (n : Nat) (h0 : 0 < n) : pickZ i n = (pickN i n : Int) := by
  have hm0 : 0 ≤ i % (n : Int) := Int.emod_nonneg _ (by omega)
  unfold pickN pickZ; omega
end Go.Proofs.YtdgdbcapojgnlaaDoor
