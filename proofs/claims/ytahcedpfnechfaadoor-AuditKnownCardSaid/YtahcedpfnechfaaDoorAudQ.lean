/-
  lineagelaw29: pair.
-/
import Derived.Test.YtahcedpfnechfaaDoorAudW
namespace Go.Proofs.YtahcedpfnechfaaDoor
set_option maxRecDepth 100000
open Go.RowKit Go.Sort

def slot1 : SlotV := ⟨true, false, -1, 1, 1, 1, 2, 0, 1, 1, ByteArray.empty, ByteArray.empty, 5, 1, 0, 9, 1⟩
def pD1 : DumpV := { oneD with births := 2 }
def pD2 : DumpV := { pD1 with free := pD1.free.tail }
def pS3 : SlotV := { slot0 with kids := 1 }
def pD3 : DumpV := { pD2 with slots := pD2.slots.set 0 pS3 }
def pS4 : SlotV := { pS3 with scopes := 7 }
def pD4 : DumpV := { pD3 with slots := pD3.slots.set 0 pS4 }
def pS5 : SlotV := { pS4 with level := 1 }
def pD5 : DumpV := { pD4 with slots := pD4.slots.set 0 pS5 }
def pD6 : DumpV := { pD5 with slots := pD5.slots.set 1 slot1 }
def pairD : DumpV := pD6
set_option maxHeartbeats 8000000 in
theorem pair_any (w : World) : Calls Tryd.prog 31 #[] w (RetD pairD w) := by
  have HU := Lib.hid Tryd.underlying25
  obtain ⟨v1, hv1⟩ : ∃ v1, w.alloc (.cells #[.int .i64 0, .int .i64 0, .slice none 0 0, .slice none 0 0, .int .i64 0, .int .i64 0] 25) = v1 := ⟨_, rfl⟩
  have hs1 : v1.heap.size ≤ w.heap.size + 1 ∧ w.heap.size + 1 ≤ v1.heap.size := by rw [← hv1]; simp
  have hb1 : Below w.heap.size w v1 := by rw [← hv1]; exact (Below.refl _ _).alloc (Nat.le_refl _) _
  have HB1 := Lib.hid hb1
  have R1 := Lib.hid (show Blk v1 w.heap.size 25 _ by rw [← hv1]; exact Blk.new _ _ _)
  have HV1 := Lib.hid hv1
  clear hv1 hb1
  go_enter Tryd.func31, Tryd.ntmps31
  go_wp2_with (go_at_call 17; fail)
  rw [HV1.out]
  refine (one_any v1).mono ?_
  rintro e w1 ⟨gs, cs, Af, cf, rfl, hH, hcx, hcl, hb2⟩
  obtain ⟨b, off, rfl, _⟩ := hH.free (by decide)
  have hcl' : 31 ≤ cf := hcl
  obtain ⟨v2, hv2⟩ : ∃ x, w1.alloc (.cells (DumpV.dc oneD (some ⟨gs, 0, none⟩) cs (some ⟨b, off, none⟩) cf).toArray 25) = x := ⟨_, rfl⟩
  have Sv2 := Lib.hid (hv2 ▸ DSt.start (cf := cf) hH hb2)
  have HWv2 := Lib.hid hv2
  clear hv2
  have xp1 : v2.cell? ⟨w1.heap.size, 1, none⟩ = some (.int .i64 1) := (Sv2.out.blk.cell 1).trans rfl
  have fp1 : v2.frozen? ⟨w1.heap.size, 1, none⟩ = false := Sv2.out.blk.frozen 1
  obtain ⟨p1, hp1⟩ : ∃ x, v2.setCell ⟨w1.heap.size, 1, none⟩ (.int .i64 2) = x := ⟨_, rfl⟩
  have Sp1 := Lib.hid (show DSt v1 p1 (w1.heap.size) pD1 gs cs (some ⟨b, off, none⟩) cf from hp1 ▸ Sv2.out.births 2)
  have HWp1 := Lib.hid hp1
  clear hp1
  have xp2 : p1.cell? ⟨w1.heap.size, 3, none⟩ = some (.slice (some ⟨b, off, none⟩) 31 cf) := (Sp1.out.blk.cell 3).trans rfl
  have fp2 : p1.frozen? ⟨w1.heap.size, 3, none⟩ = false := Sp1.out.blk.frozen 3
  obtain ⟨p2, hp2⟩ : ∃ x, p1.setCell ⟨w1.heap.size, 3, none⟩ (.slice (some ⟨b, off + 1, none⟩) 30 (cf - 1)) = x := ⟨_, rfl⟩
  have Sp2 := Lib.hid (show DSt v1 p2 (w1.heap.size) pD2 gs cs (some ⟨b, off + 1, none⟩) (cf - 1) from hp2 ▸ Sp1.out.tail 30 (cf - 1) rfl)
  have HWp2 := Lib.hid hp2
  clear hp2
  have yp3 : p2.cell? ⟨w1.heap.size, 2, none⟩ = some (.slice (some ⟨gs, 0, none⟩) 32 cs) := (Sp2.out.blk.cell 2).trans rfl
  have xp3 : p2.cell? ⟨gs, 2, none⟩ = some (.int .i64 (-1)) := Sp2.out.at_ (k := 0) (s := slot0) rfl 2 2 rfl rfl
  have fp3 : p2.frozen? ⟨gs, 2, none⟩ = false := Sp2.out.ice 2
  obtain ⟨p3, hp3⟩ : ∃ x, p2.setCell ⟨gs, 2, none⟩ (.int .i64 1) = x := ⟨_, rfl⟩
  have Sp3 := Lib.hid (show DSt v1 p3 (w1.heap.size) pD3 gs cs (some ⟨b, off + 1, none⟩) (cf - 1) from hp3 ▸ Sp2.out.field (k := 0) (s := slot0) rfl 2 2 rfl (by decide) (.int .i64 1) pS3 rfl)
  have HWp3 := Lib.hid hp3
  clear hp3
  have yp4 : p3.cell? ⟨w1.heap.size, 2, none⟩ = some (.slice (some ⟨gs, 0, none⟩) 32 cs) := (Sp3.out.blk.cell 2).trans rfl
  have xp4 : p3.cell? ⟨gs, 12, none⟩ = some (.int .u64 0) := Sp3.out.at_ (k := 0) (s := pS3) rfl 12 12 rfl rfl
  have fp4 : p3.frozen? ⟨gs, 12, none⟩ = false := Sp3.out.ice 12
  obtain ⟨p4, hp4⟩ : ∃ x, p3.setCell ⟨gs, 12, none⟩ (.int .u64 7) = x := ⟨_, rfl⟩
  have Sp4 := Lib.hid (show DSt v1 p4 (w1.heap.size) pD4 gs cs (some ⟨b, off + 1, none⟩) (cf - 1) from hp4 ▸ Sp3.out.field (k := 0) (s := pS3) rfl 12 12 rfl (by decide) (.int .u64 7) pS4 rfl)
  have HWp4 := Lib.hid hp4
  clear hp4
  have yp5 : p4.cell? ⟨w1.heap.size, 2, none⟩ = some (.slice (some ⟨gs, 0, none⟩) 32 cs) := (Sp4.out.blk.cell 2).trans rfl
  have xp5 : p4.cell? ⟨gs, 13, none⟩ = some (.int .i64 0) := Sp4.out.at_ (k := 0) (s := pS4) rfl 13 13 rfl rfl
  have fp5 : p4.frozen? ⟨gs, 13, none⟩ = false := Sp4.out.ice 13
  obtain ⟨p5, hp5⟩ : ∃ x, p4.setCell ⟨gs, 13, none⟩ (.int .i64 1) = x := ⟨_, rfl⟩
  have Sp5 := Lib.hid (show DSt v1 p5 (w1.heap.size) pD5 gs cs (some ⟨b, off + 1, none⟩) (cf - 1) from hp5 ▸ Sp4.out.field (k := 0) (s := pS4) rfl 13 13 rfl (by decide) (.int .i64 1) pS5 rfl)
  have HWp5 := Lib.hid hp5
  clear hp5
  have xp6 : p5.cell? ⟨w1.heap.size, 2, none⟩ = some (.slice (some ⟨gs, 0, none⟩) 32 cs) := (Sp5.out.blk.cell 2).trans rfl
  obtain ⟨cp6, hBp6, hfitp6, hSp6⟩ := Sp5.out.slot 1 17 rfl (by decide) slot1
  have HBp6 := Lib.hid hBp6
  have HFp6 := Lib.hid hfitp6
  obtain ⟨p6, hp6⟩ : ∃ x, p5.setRow gs (splice cp6 17 (SlotV.cells slot1)) = x := ⟨_, rfl⟩
  have Sp6 := Lib.hid (show DSt v1 p6 (w1.heap.size) pD6 gs cs (some ⟨b, off + 1, none⟩) (cf - 1) from hp6 ▸ hSp6)
  have HWp6 := Lib.hid hp6
  clear hp6
  clear hBp6 hfitp6 hSp6
  have SF := Lib.hid (show DSt v1 p6 w1.heap.size pairD gs cs (some ⟨b, off + 1, none⟩) (cf - 1) from Sp6.out)
  have RF := Lib.hid (R1.out.below SF.out.bl (by omega))
  have hcap1 : (1 : Int) ≤ (cf : Int) := by omega
  have hcap2 : ¬ cf = 1 := by omega
  have hcap3 : (cf : Int) ≤ 9223372036854775807 := by omega
  have hcy := Lib.hid (show cf - 1 ≤ 9223372036854775807 ∧ 30 ≤ cf - 1 by omega)
  have hgc := (own_cap SF.out.own).1
  clear hH hcl hcl' hcx
  go_wp2_with (first
    | ((with_reducible show wpList _ _ _ (Oper.mk none _ _ _ _ _ :: _) _ (World.alloc _ _)); refine wpList_store_new (ty := 25) rfl rfl rfl rfl rfl (dc_one oneD _ _ _ _) dumpInfo ?_; rw [HWv2.out])
    | ((with_reducible show wpList _ _ _ (Oper.mk none _ _ _ _ _ :: _) _ p5); refine wpList_store_at (t := 49) (vs := SlotV.cells slot1) rfl rfl rfl rfl HBp6.out HFp6.out (SlotV.one _) slotInfo ?_)
    | ((with_reducible show wpList _ _ _ _ _ (World.setCell _ _ _)); (first | rw [HWp1.out] | rw [HWp2.out] | rw [HWp3.out] | rw [HWp4.out] | rw [HWp5.out] | rw [HWp6.out]))
    | ((with_reducible show wpList _ _ _ _ _ (World.setRow _ _ _)); (first | rw [HWp1.out] | rw [HWp2.out] | rw [HWp3.out] | rw [HWp4.out] | rw [HWp5.out] | rw [HWp6.out]))
    | ((with_reducible show wpList _ _ _ (Oper.mk (some 28) (Op.load _ _) _ _ _ _ :: _) _ p6); refine wpList_load_at (ty := 25) rfl rfl rfl SF.out.blk.row HU.out rfl dumpInfo ?_)
    | ((with_reducible show wpList _ _ _ (Oper.mk none _ _ _ _ _ :: _) _ p6); refine wpList_store_all (vs := (DumpV.dc pairD (some ⟨gs, 0, none⟩) cs (some ⟨b, off + 1, none⟩) (cf - 1)).toArray) rfl rfl rfl rfl RF.out rfl (dc_one pairD _ _ _ _) dumpInfo ?_))
  have hret := SF.out.ret (w := w) (by omega) HB1.out (DumpV.dc pairD (some ⟨gs, 0, none⟩) cs (some ⟨b, off + 1, none⟩) (cf - 1)).toArray
  refine bodyPost_ret (results_at rfl rfl (RF.out.setRow_same _).row HU.out rfl dumpInfo) rfl ⟨gs, cs, (some ⟨b, off + 1, none⟩), cf - 1, rfl, hret.1, hcy.out.1, hcy.out.2, hret.2⟩
end Go.Proofs.YtahcedpfnechfaaDoor
