/-
  Package arena: Free.
-/
import Derived.Test.YtdgdbcapojgnlaaDoorArOps2
namespace Go.Proofs.YtdgdbcapojgnlaaDoor
set_option maxRecDepth 100000
open Go.RowKit Go.Sort

set_option maxHeartbeats 2000000 in
theorem free_out {i : Int} (hi : i < 0 ∨ 32 ≤ i) (p : Option Addr) (w : World) :
    Calls Tryd.prog 35 #[.pointer p, .int .i64 i] w (RetSame (errno 1) w) := by
  go_enter Tryd.func35, Tryd.ntmps35
  go_wp2_with (first
    | (go_at_call 58; refine (there_out hi _).mono ?_; rintro e w' ⟨rfl, rfl⟩))
  go_ret
  exact ⟨rfl, rfl⟩
set_option maxHeartbeats 2000000 in
theorem free_twice {i : Nat} (hi : i < 32) (g : Nat) (A : Ar) (n : Int) (w : World) (hA : ArAt w g A) (hn : A.next[i]? = some n) (h : n ≠ -2) :
    Calls Tryd.prog 35 #[.pointer (some ⟨g, 0, none⟩), .int .i64 i] w (RetSame (errno 9) w) := by
  have c2 := (hA.blk.cell (544 + i)).trans (hA.full.next_at hn)
  have hi1 : (i : Int) < 32 := by omega
  have hi0 : (0 : Int) ≤ (i : Int) := by omega
  have hne : (n == -2) = false := by simp [h]
  have hne2 : (n != -2) = true := by simp [h]
  clear hA h hn
  go_enter Tryd.func35, Tryd.ntmps35
  go_wp2_with (first
    | (go_at_call 58; refine (there_in hi _).mono ?_; rintro e w' ⟨rfl, rfl⟩))
  go_ret
  exact ⟨rfl, rfl⟩
def Ar.freed (A : Ar) (i : Nat) : Ar := (((A.putSlot i SlotV.bare).putFirst i).putNext i A.first).putWrites (A.writes + 1)
set_option maxHeartbeats 4000000 in
theorem free_in {i : Nat} (hi : i < 32) (g : Nat) (A : Ar) (w : World) (hA : ArAt w g A) (hn : A.next[i]? = some (-2)) (hw0 : 0 ≤ A.writes) (hw1 : A.writes < 1000000000) :
    Calls Tryd.prog 35 #[.pointer (some ⟨g, 0, none⟩), .int .i64 i] w (RetAr .nilIface w g (A.freed i)) := by
  have c2 := (hA.blk.cell (544 + i)).trans (hA.full.next_at hn)
  have HA := Lib.hid hA
  have HN := Lib.hid hn
  have HQ := Lib.hid (quiet_of (fun w => bare_any w))
  have hi1 : (i : Int) < 32 := by omega
  have hi0 : (0 : Int) ≤ (i : Int) := by omega
  clear hA hn
  go_enter Tryd.func35, Tryd.ntmps35
  go_wp2_with (first
    | (go_at_call 58; refine (there_in hi _).mono ?_; rintro e w' ⟨rfl, rfl⟩))
  refine wp_region_quiet_tail_below 6 (by kernel_rfl) (by kernel_rfl) ?_
  simp only [List.take_succ_cons, List.take_zero, List.drop_succ_cons, List.drop_zero]
  repeat (first | go_big_quiet_skip | (go_big_quiet_want; go_big_quiet_op; first | go_big_quiet_on | go_big_quiet_call (with_reducible exact HQ.out _ _ _)))
  refine wpQuiet_nil ?_
  intro v0 hC
  have hb := below_class hC
  have b0 := HA.out.blk.below hb HA.out.blk.lt
  have hfu := HA.out.full
  refine wpList_store_at rfl rfl rfl rfl b0 (by rw [hfu.size]; show _ + 17 ≤ 578; omega) (SlotV.one _) slotInfo ?_
  rw [hfu.splice hi]
  obtain ⟨v1, hv1⟩ : ∃ v1, v0.setRow g (A.putSlot i SlotV.bare).cells = v1 := ⟨_, rfl⟩
  have b1 := b0.setRow_same (A.putSlot i SlotV.bare).cells
  rw [hv1] at b1 ⊢
  have G1 := Lib.hid (grownBy_trans (grownBy_below hb (some g)) (hv1 ▸ grownBy_setRow v0 g (A.putSlot i SlotV.bare).cells))
  have hf1 := hfu.putSlot i SlotV.bare
  have c1 : v1.cell? ⟨g, 576, none⟩ = some (.int .i64 A.first) := (b1.cell 576).trans hf1.first_at
  have c3 : v1.cell? ⟨g, 544 + i, none⟩ = some (.int .i64 (-2)) := (b1.cell (544 + i)).trans (hf1.next_at HN.out)
  have f1 := b1.frozen 576
  have f2 := b1.frozen (544 + i)
  have f3 := b1.frozen 577
  have c4 : v1.cell? ⟨g, 577, none⟩ = some (.int .i64 A.writes) := (b1.cell 577).trans hf1.writes_at
  have HB1 := Lib.hid b1
  have HF1 := Lib.hid hf1
  have hwr : IntKind.i64.wrap (A.writes + 1) = A.writes + 1 := IntWalk.i64_in _ (by omega)
  clear hb b0 hfu b1 hf1 hC HQ hv1 c2
  go_wp2
  go_region
  have b2 := HB1.out.set_ 576 (.int .i64 i)
  rw [HF1.out.setFirst] at b2
  have hf2 := HF1.out.putFirst i
  have b3 := b2.set_ (544 + i) (.int .i64 A.first)
  rw [hf2.setNext hi] at b3
  have hf3 := hf2.putNext i A.first
  obtain ⟨v2, hv2⟩ : ∃ v2, ((v1.setCell ⟨g, 576, none⟩ (.int .i64 i)).setCell ⟨g, 544 + i, none⟩ (.int .i64 A.first)).drew = v2 := ⟨_, rfl⟩
  have b4 : Blk v2 g 63 (((A.putSlot i SlotV.bare).putFirst i).putNext i A.first).cells := hv2 ▸ b3.drew
  have G2 := Lib.hid (grownBy_trans G1.out (hv2 ▸ grownBy_trans (grownBy_trans (grownBy_set v1 g 576 (.int .i64 i)) (grownBy_set _ g (544 + i) (.int .i64 A.first))) (grownBy_below (Below.refl _ _).drew (some g))))
  rw [hv2]
  have c5 : v2.cell? ⟨g, 577, none⟩ = some (.int .i64 A.writes) := (b4.cell 577).trans hf3.writes_at
  have f5 := b4.frozen 577
  have B5 := Lib.hid (show Blk (v2.setCell ⟨g, 577, none⟩ (.int .i64 (A.writes + 1))) g 63 (A.freed i).cells by
    have := b4.set_ 577 (.int .i64 (A.writes + 1))
    rwa [hf3.setWrites] at this)
  have F5 := Lib.hid (hf3.putWrites (A.writes + 1))
  have G5 := Lib.hid (grownBy_trans G2.out (grownBy_set v2 g 577 (.int .i64 (A.writes + 1))))
  clear b2 b3 b4 hf2 hf3 hv2 c1 c3 f1 f2 f3 c4 G1 G2 HB1 HF1 HN HA
  go_wp2
  go_ret
  exact ⟨rfl, ⟨B5.out, F5.out⟩, G5.out⟩
end Go.Proofs.YtdgdbcapojgnlaaDoor
