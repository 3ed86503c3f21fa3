/-
  The walk of lineagelaw02.BitsPut.
-/
import Derived.Test.YtfdhkalallcfgaaOf
namespace Go.Proofs.Ytfdhkalallcfgaa
open Go.RowKit

set_option maxHeartbeats 1000000 in
theorem bitsPut_any (x : BitVec 64) (i k : Int) (on : Bool) (w : World) : Calls Try.prog 5 #[.int .u64 (wd x), .int .i64 i, .agg #[.int .i64 k, .bool on]] w (RetB (.bool true) w) := by
  have hn := pick64_lt i
  have hm := pick64_lt k
  have hput : ∀ w, Calls Try.prog 18 #[.int .u64 (wd x), .int .i64 (pick64 i : Int), .bool on] w (RetSame (.tuple #[.int .u64 (wd (putB x (pick64 i) on)), .nilIface]) w) := fun w => by
    have h := put_any x (pick64 i) on w
    unfold putV putZ putE at h
    rw [inZ_nat hn] at h
    exact h
  have e1 : hb (putB x (pick64 i) on) (pick64 i) = on := by unfold hb; rw [putB_get x _ hn on _]; simp
  have e2 : pick64 i ≠ pick64 k → hb (putB x (pick64 i) on) (pick64 k) = hb x (pick64 k) := fun hne => by unfold hb; rw [putB_get x _ hn on _, if_neg hne]
  have hon : (on != on) = false := by simp
  have HN := Lib.hid hn
  have HM := Lib.hid hm
  clear hn hm
  go_enter Try.func5, Try.ntmps5
  go_wp2_with (first
      | (go_at_call 17; refine (pick64_any _ _).mono ?_; rintro e w' ⟨rfl, rfl⟩)
      | (go_at_call 18; refine (hput _).mono ?_; rintro e w' ⟨rfl, rfl⟩))
  have hcr := cells_regrown (w.alloc (.cells #[.int .i64 k, .bool on] 29))
  have hc1 : (w.alloc (.cells #[.int .i64 k, .bool on] 29)).cell? ⟨w.heap.size, 1, none⟩ = some (.bool on) := by rw [World.cell?_alloc_at _ _ _ _ rfl]; rfl
  have hbw : w.heap.size < (w.alloc (.cells #[.int .i64 k, .bool on] 29)).heap.size := by simp
  have hh1 : ∀ w, Calls Try.prog 19 #[.int .u64 (wd (putB x (pick64 i) on)), .int .i64 (pick64 i : Int)] w (RetB (.bool on) w) := fun w => by
    have h := has_nat (putB x (pick64 i) on) _ HN.out w
    rw [e1] at h; exact same_b h
  refine wp_region_quiet_below (by kernel_rfl) (by kernel_rfl) ?_
  repeat (first
    | go_big_quiet_skip
    | (go_big_quiet_want; go_big_quiet_op; first
      | go_big_quiet_on
      | go_big_quiet_call (exact Calls.regrown_of (works_any _))
      | go_big_quiet_call (exact Calls.regrown_of (hh1 _))))
  refine wpQuiet_nil ?_
  intro w1 hC
  have hb1 := below_class hC
  have hbel := ((Below.refl w.heap.size w).alloc (Nat.le_refl _) (.cells #[.int .i64 k, .bool on] 29)).trans (hb1.mono (Nat.le_of_lt hbw))
  clear hC hb1 hcr hc1 hbw hh1 hput
  by_cases e : pick64 k = pick64 i
  · have ec : (pick64 k : Int) = (pick64 i : Int) := by omega
    go_wp2
    go_ret
    exact ⟨rfl, hbel⟩
  · have ec : ((pick64 k : Int) == (pick64 i : Int)) = false := by rw [beq_eq_false_iff_ne]; omega
    have e3 := e2 (fun h => e h.symm)
    clear e2 e
    have hh2 : ∀ y w, Calls Try.prog 19 #[.int .u64 (wd y), .int .i64 (pick64 k : Int)] w (RetSame (.bool (hb y (pick64 k))) w) := fun y w => has_nat y _ HM.out w
    go_wp2_with (go_at_call 19; refine (hh2 _ _).mono ?_; rintro e w' ⟨rfl, rfl⟩)
    go_ret
    exact ⟨rfl, hbel⟩
end Go.Proofs.Ytfdhkalallcfgaa
