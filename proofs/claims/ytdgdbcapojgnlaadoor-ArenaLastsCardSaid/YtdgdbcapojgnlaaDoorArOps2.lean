/-
  Package arena: Put, Take.
-/
import Derived.Test.YtdgdbcapojgnlaaDoorArOps
namespace Go.Proofs.YtdgdbcapojgnlaaDoor
set_option maxRecDepth 100000
open Go.RowKit Go.Sort

/-- How an operation on the arena at g leaves it. -/
def RetAr (v : Value) (w : World) (g : Nat) (A' : Ar) (e : Ending) (w' : World) : Prop := e = .returned v ∧ ArAt w' g A' ∧ w.grownBy w' (some g)

set_option maxHeartbeats 2000000 in
theorem put_in {i : Nat} (hi : i < 32) (g : Nat) (A : Ar) (s : SlotV) (w : World) (hA : ArAt w g A) (hw0 : 0 ≤ A.writes) (hw1 : A.writes < 1000000000) :
    Calls Tryd.prog 29 #[.pointer (some ⟨g, 0, none⟩), .int .i64 i, .agg s.cells] w (RetAr .nilIface w g ((A.putSlot i s).putWrites (A.writes + 1))) := by
  have hlt := hA.blk.lt
  have hfu := hA.full
  have hB1 : Blk (w.alloc (.cells s.cells 36)) g 63 A.cells := hA.blk.alloc _
  have HB := Lib.hid hB1
  have HF := Lib.hid hfu
  have hi1 : (i : Int) < 32 := by omega
  have hi0 : (0 : Int) ≤ (i : Int) := by omega
  have HU := Lib.hid Tryd.underlying36
  have HR := Lib.hid ((Blk.new w 36 s.cells).row.class_ (by simp))
  clear hA hB1 hfu
  go_enter Tryd.func29, Tryd.ntmps29
  go_wp2_with (first
    | (go_at_call 58; refine (there_in hi _).mono ?_; rintro e w' ⟨rfl, rfl⟩))
  refine wp_region_quiet_tail_below 6 (by kernel_rfl) (by kernel_rfl) ?_
  simp only [List.take_succ_cons, List.take_zero, List.drop_succ_cons, List.drop_zero]
  repeat (first
    | go_big_quiet_skip
    | (refine wpQuiet_load_at rfl rfl rfl HR.out HU.out rfl slotInfo ?_; simp only [Act.put, List.setIfInBounds_toArray, List.set_cons_zero, List.set_cons_succ])
    | (go_big_quiet_want; go_big_quiet_op; first | go_big_quiet_on))
  refine wpQuiet_nil ?_
  intro v0 hC
  have hb := below_class hC
  have b0 := HB.out.below hb HB.out.lt
  refine wpList_store_at rfl rfl rfl rfl b0 (by rw [HF.out.size]; show _ + 17 ≤ 578; omega) (SlotV.one _) slotInfo ?_
  rw [HF.out.splice hi]
  have b1 := b0.setRow_same (A.putSlot i s).cells
  have hf1 := HF.out.putSlot i s
  have c1 := (b1.cell 577).trans hf1.writes_at
  have f1 := b1.frozen 577
  have hwr : IntKind.i64.wrap (A.writes + 1) = A.writes + 1 := IntWalk.i64_in _ (by omega)
  have hws : (A.putSlot i s).writes = A.writes := rfl
  rw [hws] at c1
  have B2 := Lib.hid (show Blk ((v0.setRow g (A.putSlot i s).cells).setCell ⟨g, 577, none⟩ (.int .i64 (A.writes + 1))) g 63 ((A.putSlot i s).putWrites (A.writes + 1)).cells by
    have := b1.set_ 577 (.int .i64 (A.writes + 1))
    rwa [hf1.setWrites] at this)
  have G2 := Lib.hid (grownBy_trans (grownBy_trans (grownBy_below (((Below.refl w.heap.size w).alloc (Nat.le_refl _) _).trans (hb.mono (by simp))) (some g)) (grownBy_setRow v0 g (A.putSlot i s).cells)) (grownBy_set _ g 577 (.int .i64 (A.writes + 1))))
  have F2 := Lib.hid (hf1.putWrites (A.writes + 1))
  clear hb b0 b1 hf1 hC HB HF HR hws
  go_wp2
  go_ret
  exact ⟨rfl, ⟨B2.out, F2.out⟩, G2.out⟩
set_option maxHeartbeats 2000000 in
theorem put_out {i : Int} (hi : i < 0 ∨ 32 ≤ i) (p : Option Addr) (s : SlotV) (w : World) :
    Calls Tryd.prog 29 #[.pointer p, .int .i64 i, .agg s.cells] w (RetB (errno 1) w) := by
  go_enter Tryd.func29, Tryd.ntmps29
  go_wp2_with (first
    | (go_at_call 58; refine (there_out hi _).mono ?_; rintro e w' ⟨rfl, rfl⟩))
  go_ret
  exact ⟨rfl, (Below.refl _ _).alloc (Nat.le_refl _) _⟩
set_option maxHeartbeats 2000000 in
theorem take_none (g : Nat) (A : Ar) (w : World) (hA : ArAt w g A) (h : A.first = -1) :
    Calls Tryd.prog 32 #[.pointer (some ⟨g, 0, none⟩)] w (RetSame (.tuple #[.int .i64 0, errno 19]) w) := by
  have c := (hA.blk.cell 576).trans hA.full.first_at
  rw [h] at c
  clear hA h
  go_enter Tryd.func32, Tryd.ntmps32
  go_wp2
  go_ret2
  exact ⟨rfl, rfl⟩
set_option maxHeartbeats 4000000 in
theorem take_some {i : Nat} (hi : i < 32) (g : Nat) (A : Ar) (n : Int) (w : World) (hA : ArAt w g A) (h : A.first = i) (hn : A.next[i]? = some n) :
    Calls Tryd.prog 32 #[.pointer (some ⟨g, 0, none⟩)] w (RetAr (.tuple #[.int .i64 i, .nilIface]) w g ((A.putFirst n).putNext i (-2))) := by
  have c := (hA.blk.cell 576).trans hA.full.first_at
  rw [h] at c
  have c2 := (hA.blk.cell (544 + i)).trans (hA.full.next_at hn)
  have f1 := hA.blk.frozen 576
  have f2 := hA.blk.frozen (544 + i)
  have HA := Lib.hid hA
  have hi1 : (i : Int) < 32 := by omega
  have hi0 : (0 : Int) ≤ (i : Int) := by omega
  have hne : ((i : Int) == -1) = false := by simp
  clear hA h hn
  go_enter Tryd.func32, Tryd.ntmps32
  go_wp2
  go_region
  have hfu := HA.out.full
  have b1 := HA.out.blk.set_ 576 (.int .i64 n)
  rw [hfu.setFirst] at b1
  have hf1 := hfu.putFirst n
  have b2 := b1.set_ (544 + i) (.int .i64 (-2))
  rw [hf1.setNext hi] at b2
  have B2 := Lib.hid b2.drew
  have F2 := Lib.hid (hf1.putNext i (-2))
  have G2 := Lib.hid (grownBy_trans (grownBy_trans (grownBy_set w g 576 (.int .i64 n)) (grownBy_set _ g (544 + i) (.int .i64 (-2)))) (grownBy_below (Below.refl _ _).drew (some g)))
  clear b1 b2 hf1 hfu HA c c2 f1 f2
  go_wp2
  go_ret2
  exact ⟨rfl, ⟨B2.out, F2.out⟩, G2.out⟩
end Go.Proofs.YtdgdbcapojgnlaaDoor
