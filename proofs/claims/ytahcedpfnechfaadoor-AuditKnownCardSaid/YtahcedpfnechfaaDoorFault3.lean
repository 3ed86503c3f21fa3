/-
  lineagekit.Place, At: of none, of an error with a place.
-/
import Derived.Test.YtahcedpfnechfaaDoorFault2
namespace Go.Proofs.YtahcedpfnechfaaDoor
set_option maxRecDepth 100000
open Go.RowKit

set_option maxHeartbeats 1000000 in
theorem place_fault (k a : Int) (h1 : 1 ≤ k) (h2 : k ≤ 24) (w : World) (hg : Laid w) : Calls Tryd.prog 29 #[.iface 64 (.agg #[.int .i64 k, .int .i64 a])] w (RetB (.tuple #[.int .i64 a, .bool true]) w) := by
  have HG := Lib.hid hg
  have hlt := hg.pos
  clear hg
  have hd : (k == k) = true := by simp
  have B0 := Lib.hid (Blk.new w 64 #[.int .i64 0, .int .i64 0])
  have BEL0 := Lib.hid ((Below.refl w.heap.size w).alloc (Nat.le_refl _) (.cells #[.int .i64 0, .int .i64 0] 64))
  go_enter Tryd.func29, Tryd.ntmps29
  go_wp2_with (first | (go_at_call 28; fail))
  refine (as_hit k a w.heap.size _ _ _ (HG.out.below BEL0.out hlt) B0.out w.heap.size (Nat.le_refl _)).mono ?_
  rintro e w1 ⟨rfl, hB, hb⟩
  have c0 : w1.cell? ⟨w.heap.size, 0, none⟩ = some (.int .i64 k) := hB.cell 0
  have c1 : w1.cell? ⟨w.heap.size, 1, none⟩ = some (.int .i64 a) := hB.cell 1
  have BEL1 := Lib.hid (BEL0.out.trans hb)
  have s1 := BEL1.out.size
  clear hB hb B0 BEL0
  have HQ := Lib.hid (quiet_of (fun w => Num_fault k a h1 h2 w))
  have d0 := cell_regrown c0
  have d1 := cell_regrown c1
  go_wp2
  refine wp_region_quiet_below (by kernel_rfl) (by kernel_rfl) ?_
  repeat (first | go_big_quiet_skip | (go_big_quiet_want; go_big_quiet_op; first | go_big_quiet_on | go_big_quiet_call (with_reducible exact HQ.out _ _ _)))
  refine wpQuiet_nil ?_
  intro w2 hC
  have BEL2 := BEL1.out.trans ((below_class hC).mono s1)
  clear hC c0 c1 d0 d1
  go_wp2
  go_ret2
  exact ⟨rfl, BEL2⟩
set_option maxHeartbeats 1000000 in
theorem at_nil (p : Int) (w : World) : Calls Tryd.prog 13 #[.nilIface, .int .i64 0, .int .i64 p] w (RetB (.bool true) w) := by
  go_enter Tryd.func13, Tryd.ntmps13
  go_wp2
  go_ret
  exact ⟨rfl, Below.refl _ _⟩
set_option maxHeartbeats 1000000 in
theorem at_fault (k a : Int) (h1 : 1 ≤ k) (h2 : k ≤ 24) (w : World) (hg : Laid w) : Calls Tryd.prog 13 #[.iface 64 (.agg #[.int .i64 k, .int .i64 a]), .int .i64 k, .int .i64 a] w (RetB (.bool true) w) := by
  have HG := Lib.hid hg
  have hlt := hg.pos
  clear hg
  have hd : (k == k) = true := by simp
  have hda : (a == a) = true := by simp
  have hk0 : (k == 0) = false := by simp; omega
  go_enter Tryd.func13, Tryd.ntmps13
  go_wp2_with (first | (go_at_call 29; fail))
  refine (place_fault k a h1 h2 _ HG.out).mono ?_
  rintro e w1 ⟨rfl, hb1⟩
  have BEL1 := Lib.hid hb1
  have s1 := hb1.size
  clear hb1
  go_wp2_with (first | (go_at_call 27; fail))
  refine (Num_fault k a h1 h2 _).mono ?_
  rintro e w2 ⟨rfl, hb2⟩
  have BEL2 := BEL1.out.trans (hb2.mono s1)
  clear hb2
  go_wp2
  go_ret
  exact ⟨rfl, BEL2⟩
end Go.Proofs.YtahcedpfnechfaaDoor
