/-
  Package arena: New.
-/
import Derived.Test.YtdgdbcapojgnlaaDoorArena
namespace Go.Proofs.YtdgdbcapojgnlaaDoor
set_option maxRecDepth 100000
open Go.RowKit Go.Sort

def Ar.zero : Ar := ⟨List.replicate 32 SlotV.zero, List.replicate 32 0, 0, 0⟩
theorem Ar.zero_full : Ar.zero.Full := ⟨by simp [Ar.zero], by simp [Ar.zero]⟩
theorem zero_arena (w : World) : (zeroValue 63).run Tryd.prog w = .ok (.agg Ar.zero.cells) w := by kernel_rfl
/-- The first k slots are made. -/
def Ar.made (k : Nat) : Ar := ⟨List.replicate k SlotV.bare ++ List.replicate (32 - k) SlotV.zero, (List.range k).map (fun (i : Nat) => (i : Int) + 1) ++ List.replicate (32 - k) 0, 0, 0⟩
theorem Ar.made_full {k : Nat} (h : k ≤ 32) : (Ar.made k).Full := ⟨by simp [Ar.made]; omega, by simp [Ar.made]; omega⟩
theorem Ar.made_zero : Ar.made 0 = Ar.zero := by simp [Ar.made, Ar.zero]
theorem Ar.made_succ {k : Nat} (h : k < 32) : ((Ar.made k).putSlot k SlotV.bare).putNext k ((k : Int) + 1) = Ar.made (k + 1) := by
  have e1 : 32 - k = (32 - (k + 1)) + 1 := by omega
  unfold Ar.putSlot Ar.putNext Ar.made
  simp only [e1, List.replicate_succ, Ar.mk.injEq, and_true]
  constructor
  · rw [List.set_append_right _ _ (by simp), List.length_replicate, Nat.sub_self, List.set_cons_zero, List.append_cons, ← List.replicate_succ']
    simp [List.replicate_succ]
  · rw [List.set_append_right _ _ (by simp), List.length_map, List.length_range, Nat.sub_self, List.set_cons_zero, List.append_cons, List.range_succ, List.map_append]
    simp
def Ar.new : Ar := (Ar.made 32).putNext 31 (-1)

set_option maxHeartbeats 2000000 in
theorem arNew_any (w : World) : Calls Tryd.prog 7 #[] w fun e w' => ∃ g, e = .returned (.pointer (some ⟨g, 0, none⟩)) ∧ w.heap.size ≤ g ∧ ArAt w' g Ar.new ∧ Below w.heap.size w w' := by
  have hza := zero_arena
  go_enter Tryd.func7, Tryd.ntmps7
  go_wp2
  go_loopw [5] (fun i wr => ∃ k : Nat, k ≤ 32 ∧ i = .int .i64 k ∧ ArAt wr w.heap.size (Ar.made k) ∧ Below w.heap.size w wr) (fun i _ => 32 - (intOf i).toNat)
  case atStart => exact ⟨0, by omega, rfl, ⟨by rw [Ar.made_zero]; exact Blk.new _ _ _, Ar.made_full (by omega)⟩, (Below.refl _ _).alloc (Nat.le_refl _) _⟩
  case round =>
    obtain ⟨k, hk, rfl, hA, hbel⟩ := hrel
    have HA := Lib.hid hA
    have BEL := Lib.hid hbel
    have HQ := Lib.hid (quiet_of (fun w => bare_any w))
    clear hA hbel hza
    by_cases hlt : k < 32
    · have hki : (k : Int) < 32 := by omega
      have hk0 : (0 : Int) ≤ (k : Int) := by omega
      go_wp2
      refine wp_region_quiet_tail_below 6 (by kernel_rfl) (by kernel_rfl) ?_
      simp only [List.take_succ_cons, List.take_zero, List.drop_succ_cons, List.drop_zero]
      repeat (first | go_big_quiet_skip | (go_big_quiet_want; go_big_quiet_op; first | go_big_quiet_on | go_big_quiet_call (with_reducible exact HQ.out _ _ _)))
      refine wpQuiet_nil ?_
      intro v0 hC
      have hb := below_class hC
      have b0 := HA.out.blk.below hb HA.out.blk.lt
      have hfu := HA.out.full
      refine wpList_store_at rfl rfl rfl rfl b0 (by rw [hfu.size]; show _ + 17 ≤ 578; omega) (SlotV.one _) slotInfo ?_
      rw [hfu.splice hlt]
      have b1 := b0.setRow_same ((Ar.made k).putSlot k SlotV.bare).cells
      have hf1 := hfu.putSlot k SlotV.bare
      obtain ⟨n, hn⟩ := hf1.next_ex hlt
      have c1 := (b1.cell (544 + k)).trans (hf1.next_at hn)
      have f1 := b1.frozen (544 + k)
      have B1 : Hid (Blk ((v0.setRow w.heap.size ((Ar.made k).putSlot k SlotV.bare).cells).setCell ⟨w.heap.size, 544 + k, none⟩ (.int .i64 ((k : Int) + 1))) w.heap.size 63 (Ar.made (k + 1)).cells) := by
        have := b1.set_ (544 + k) (.int .i64 ((k : Int) + 1))
        rw [hf1.setNext hlt, Ar.made_succ hlt] at this
        exact Lib.hid this
      have BL := Lib.hid ((bel_setRow (BEL.out.trans (hb.mono BEL.out.size)) (Nat.le_refl _) ((Ar.made k).putSlot k SlotV.bare).cells).setCell (p := ⟨w.heap.size, 544 + k, none⟩) (Nat.le_refl _) (.int .i64 ((k : Int) + 1)))
      clear hb b0 hfu b1 hf1 hn hC HQ
      go_wp2
      go_roundw
      case rel => exact ⟨k + 1, by omega, by go_num, ⟨B1.out, Ar.made_full (by omega)⟩, BL.out⟩
      case measure => simp [intOf]; omega
    · obtain rfl : k = 32 := by omega
      have b0 := HA.out.blk
      have hfu := HA.out.full
      obtain ⟨n, hn⟩ := hfu.next_ex (i := 31) (by omega)
      have c1 : wr.cell? ⟨w.heap.size, 575, none⟩ = some (.int .i64 n) := (b0.cell 575).trans (hfu.next_at hn)
      have f1 := b0.frozen 575
      have B1 := Lib.hid (show Blk (wr.setCell ⟨w.heap.size, 575, none⟩ (.int .i64 (-1))) w.heap.size 63 Ar.new.cells by
        have := b0.set_ (544 + 31) (.int .i64 (-1))
        rw [hfu.setNext (by omega)] at this
        exact this)
      clear hn b0 hfu HQ hk hlt
      go_wp2
      go_ret
      exact ⟨_, rfl, Nat.le_refl _, ⟨B1.out, (Ar.made_full (by omega)).putNext 31 (-1)⟩, BEL.out.setCell (p := ⟨w.heap.size, 575, none⟩) (Nat.le_refl _) _⟩
end Go.Proofs.YtdgdbcapojgnlaaDoor
