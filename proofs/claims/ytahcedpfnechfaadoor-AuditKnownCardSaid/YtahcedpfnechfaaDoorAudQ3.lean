/-
  lineagelaw29: pairs.
-/
import Derived.Test.YtahcedpfnechfaaDoorAudQ2
namespace Go.Proofs.YtahcedpfnechfaaDoor
set_option maxRecDepth 100000
open Go.RowKit Go.Sort

theorem chk_pairD : checkV pairD = .nilIface := by kernel_rfl
theorem prt_pairD : partsX pairD = (2, 0, 30) := by kernel_rfl
def PRel (w : World) (i : Value) (wr : World) : Prop := ∃ k : Nat, k ≤ 15 ∧ i = .int .i64 k ∧ Below w.heap.size w wr
def c0S1 : SlotV := { slot1 with upBirth := 2 }
def c0D1 : DumpV := { pairD with slots := pairD.slots.set 1 c0S1 }
theorem chk_c0D1 : checkV c0D1 = faultV 24 1 := by kernel_rfl
def c1S1 : SlotV := { slot1 with scopes := 8 }
def c1D1 : DumpV := { pairD with slots := pairD.slots.set 1 c1S1 }
theorem chk_c1D1 : checkV c1D1 = faultV 24 1 := by kernel_rfl
def c2S1 : SlotV := { slot1 with deadline := 10 }
def c2D1 : DumpV := { pairD with slots := pairD.slots.set 1 c2S1 }
theorem chk_c2D1 : checkV c2D1 = faultV 24 1 := by kernel_rfl
def c3S1 : SlotV := { slot1 with level := 2 }
def c3D1 : DumpV := { pairD with slots := pairD.slots.set 1 c3S1 }
theorem chk_c3D1 : checkV c3D1 = faultV 24 1 := by kernel_rfl
def c4S1 : SlotV := { slot1 with kind := 2 }
def c4D1 : DumpV := { pairD with slots := pairD.slots.set 1 c4S1 }
theorem chk_c4D1 : checkV c4D1 = faultV 24 1 := by kernel_rfl
def c5S1 : SlotV := { slot1 with depth := 2 }
def c5D1 : DumpV := { pairD with slots := pairD.slots.set 1 c5S1 }
theorem chk_c5D1 : checkV c5D1 = faultV 24 1 := by kernel_rfl
def c6S1 : SlotV := { slot1 with kind := 0 }
def c6D1 : DumpV := { pairD with slots := pairD.slots.set 1 c6S1 }
theorem chk_c6D1 : checkV c6D1 = faultV 24 1 := by kernel_rfl
def c7S1 : SlotV := { slot1 with prev := 0 }
def c7D1 : DumpV := { pairD with slots := pairD.slots.set 1 c7S1 }
theorem chk_c7D1 : checkV c7D1 = faultV 24 1 := by kernel_rfl
def c8S1 : SlotV := { slot1 with next := 0 }
def c8D1 : DumpV := { pairD with slots := pairD.slots.set 1 c8S1 }
theorem chk_c8D1 : checkV c8D1 = faultV 24 0 := by kernel_rfl
def c9S1 : SlotV := { slot1 with used := false }
def c9D1 : DumpV := { pairD with slots := pairD.slots.set 1 c9S1 }
theorem chk_c9D1 : checkV c9D1 = faultV 24 1 := by kernel_rfl
def c10S1 : SlotV := { slot1 with birth := 1 }
def c10D1 : DumpV := { pairD with slots := pairD.slots.set 1 c10S1 }
theorem chk_c10D1 : checkV c10D1 = faultV 24 1 := by kernel_rfl
def c11S1 : SlotV := { slot1 with born := 4 }
def c11D1 : DumpV := { pairD with slots := pairD.slots.set 1 c11S1 }
theorem chk_c11D1 : checkV c11D1 = faultV 24 1 := by kernel_rfl
def c12S1 : SlotV := { slot1 with kids := 1 }
def c12D1 : DumpV := { pairD with slots := pairD.slots.set 1 c12S1 }
theorem chk_c12D1 : checkV c12D1 = faultV 24 1 := by kernel_rfl
def c13S1 : SlotV := { slot1 with kids := 40 }
def c13D1 : DumpV := { pairD with slots := pairD.slots.set 1 c13S1 }
theorem chk_c13D1 : checkV c13D1 = faultV 24 (-1) := by kernel_rfl
def c14S1 : SlotV := { slot1 with slot := 0 }
def c14D1 : DumpV := { pairD with slots := pairD.slots.set 1 c14S1 }
theorem chk_c14D1 : checkV c14D1 = faultV 24 1 := by kernel_rfl
def xeS1 : SlotV := { slot1 with kind := 2 }
def xeD1 : DumpV := { pairD with slots := pairD.slots.set 1 xeS1 }
def xeS2 : SlotV := { xeS1 with level := 2 }
def xeD2 : DumpV := { xeD1 with slots := xeD1.slots.set 1 xeS2 }
theorem chk_xeD2 : checkV xeD2 = .nilIface := by kernel_rfl
def xeS3 : SlotV := { pS5 with deadline := 999 }
def xeD3 : DumpV := { xeD2 with slots := xeD2.slots.set 0 xeS3 }
def xeS4 : SlotV := { xeS2 with deadline := 300 }
def xeD4 : DumpV := { xeD3 with slots := xeD3.slots.set 1 xeS4 }
theorem chk_xeD4 : checkV xeD4 = .nilIface := by kernel_rfl
def xeS5 : SlotV := { xeS4 with deadline := 301 }
def xeD5 : DumpV := { xeD4 with slots := xeD4.slots.set 1 xeS5 }
theorem chk_xeD5 : checkV xeD5 = faultV 24 1 := by kernel_rfl
set_option maxHeartbeats 32000000 in
theorem pairs_any (w : World) (hg : Laid w) : Calls Tryd.prog 18 #[] w (RetB (.bool true) w) := by
  have HU := Lib.hid Tryd.underlying25
  have hpos := hg.pos
  have HG := Lib.hid hg
  have hc01 : (1 : Int) < 32 := by decide
  have hc02 : (2 : Int) < 32 := by decide
  clear hg
  go_enter Tryd.func18, Tryd.ntmps18
  have hB0 := Below.refl w.heap.size w
  go_wp2_with (first
    | (go_at_call 31; fail))
  refine (pair_any w).mono ?_
  rintro e w1 ⟨gs1, cs1, Af1, cf1, rfl, hH1, _, _, hb1⟩
  have HK1 := Lib.hid (cCheck_any pairD (some ⟨gs1, 0, none⟩) cs1 Af1 cf1 (len_small (by decide)) (len_small (by decide)) w1 hH1.dump)
  rw [chk_pairD] at HK1
  clear hH1
  have hsw1 := hb1.size
  have Gw1 := Lib.hid (HG.out.below hb1 (by omega))
  have Bw1 := Lib.hid hb1
  clear hb1
  go_wp2_with (first
    | (go_at_call 9; fail))
  refine HK1.out.mono ?_
  rintro e w2 ⟨rfl, hb2⟩
  clear HK1
  have hsw2 := hb2.size
  have Gw2 := Lib.hid (Gw1.out.below hb2 (by omega))
  have Bw2 := Lib.hid (Bw1.out.trans (hb2.mono (by omega)))
  clear hb2
  go_wp2_with (first
    | (go_at_call 31; fail))
  refine (pair_any w2).mono ?_
  rintro e w3 ⟨gs3, cs3, Af3, cf3, rfl, hH3, _, _, hb3⟩
  have HP3 := Lib.hid (parts_any pairD (some ⟨gs3, 0, none⟩) cs3 Af3 cf3 2 0 30 prt_pairD (len_small (by decide)) (len_small (by decide)) w3 hH3.dump)
  clear hH3
  have hsw3 := hb3.size
  have Gw3 := Lib.hid (Gw2.out.below hb3 (by omega))
  have Bw3 := Lib.hid (Bw2.out.trans (hb3.mono (by omega)))
  clear hb3
  go_wp2_with (first
    | (go_at_call 16; fail))
  refine HP3.out.mono ?_
  rintro e w4 ⟨rfl, hb4⟩
  clear HP3
  have hsw4 := hb4.size
  have Gw4 := Lib.hid (Gw3.out.below hb4 (by omega))
  have Bw4 := Lib.hid (Bw3.out.trans (hb4.mono (by omega)))
  clear hb4
  go_wp2
  go_loopw [1] (PRel w) (fun i _ => 15 - (intOf i).toNat)
  case atStart => exact ⟨0, by omega, rfl, Bw4.out⟩
  case round =>
    obtain ⟨k, hk, rfl, hbel⟩ := hrel
    have hsr := hbel.size
    have BR := Lib.hid hbel
    have GR := Lib.hid (HG.out.below hbel hpos)
    clear hbel
    by_cases hlt : k < 15
    · have hki : (k : Int) < 15 := by omega
      go_wp2_with (first
        | (go_at_call 31; fail))
      refine (pair_any wr).mono ?_
      rintro e wq ⟨gsq, csq, Afq, cfq, rfl, hHq, _, _, hbq⟩
      obtain ⟨vq, hvq⟩ : ∃ x, wq.alloc (.cells (DumpV.dc pairD (some ⟨gsq, 0, none⟩) csq Afq cfq).toArray 25) = x := ⟨_, rfl⟩
      have Svq := Lib.hid (hvq ▸ DSt.start (cf := cfq) hHq hbq)
      have HWvq := Lib.hid hvq
      clear hvq
      have hTq := Svq.out.bl
      have hgcq := (own_cap Svq.out.own).1
      have hsvq := hTq.size
      have Gvq := Lib.hid (GR.out.below hTq (by omega))
      have Bvq := Lib.hid (BR.out.trans (hTq.mono (by omega)))
      clear hHq hbq hTq
      have hcs : k = 0 ∨ k = 1 ∨ k = 2 ∨ k = 3 ∨ k = 4 ∨ k = 5 ∨ k = 6 ∨ k = 7 ∨ k = 8 ∨ k = 9 ∨ k = 10 ∨ k = 11 ∨ k = 12 ∨ k = 13 ∨ k = 14 := by omega
      clear hlt hki hk
      rcases hcs with rfl | rfl | rfl | rfl | rfl | rfl | rfl | rfl | rfl | rfl | rfl | rfl | rfl | rfl | rfl
      · have yc01 : vq.cell? ⟨wq.heap.size, 2, none⟩ = some (.slice (some ⟨gsq, 0, none⟩) 32 csq) := (Svq.out.blk.cell 2).trans rfl
        have xc01 : vq.cell? ⟨gsq, 25, none⟩ = some (.int .i64 1) := Svq.out.at_ (k := 1) (s := slot1) rfl 8 25 rfl rfl
        have fc01 : vq.frozen? ⟨gsq, 25, none⟩ = false := Svq.out.ice 25
        obtain ⟨c01, hc01⟩ : ∃ x, vq.setCell ⟨gsq, 25, none⟩ (.int .i64 2) = x := ⟨_, rfl⟩
        have Sc01 := Lib.hid (show DSt wr c01 (wq.heap.size) c0D1 gsq csq Afq cfq from hc01 ▸ Svq.out.field (k := 1) (s := slot1) rfl 8 25 rfl (by decide) (.int .i64 2) c0S1 rfl)
        have HWc01 := Lib.hid hc01
        clear hc01
        have hTc := Sc01.out.bl
        have hsc01 := hTc.size
        have Gc01 := Lib.hid (GR.out.below hTc (by omega))
        have Bc01 := Lib.hid (BR.out.trans (hTc.mono (by omega)))
        clear hTc
        have HKz1 := Lib.hid (cCheck_any c0D1 (some ⟨gsq, 0, none⟩) csq Afq cfq (len_small (by decide)) (len_small (by decide)) c01 Sc01.out.dump)
        rw [chk_c0D1] at HKz1
        go_wp2_with (first
          | ((with_reducible show wpList _ _ _ (Oper.mk none _ _ _ _ _ :: _) _ (World.alloc _ _)); refine wpList_store_new (ty := 25) rfl rfl rfl rfl rfl (dc_one pairD _ _ _ _) dumpInfo ?_; rw [HWvq.out])
          | ((with_reducible show wpList _ _ _ _ _ (World.setCell _ _ _)); (first | rw [HWc01.out]))
          | ((with_reducible show wpList _ _ _ _ _ (World.setRow _ _ _)); (first | rw [HWc01.out]))
          | ((with_reducible show wpList _ _ _ (Oper.mk (some 111) (Op.load _ _) _ _ _ _ :: _) _ c01); refine wpList_load_at (ty := 25) rfl rfl rfl Sc01.out.blk.row HU.out rfl dumpInfo ?_)
          | (go_at_call 9; fail))
        refine HKz1.out.mono ?_
        rintro e z1 ⟨rfl, hbz1⟩
        clear HKz1
        have hsz1 := hbz1.size
        have Sqz1 := Lib.hid (Sc01.out.below hbz1)
        have Gz1 := Lib.hid (Gc01.out.below hbz1 (by omega))
        have Bz1 := Lib.hid (Bc01.out.trans (hbz1.mono (by omega)))
        clear hbz1
        go_wp2_with (first
          | (go_at_call 13; fail))
        refine (at_fault 24 1 (by decide) (by decide) z1 Gz1.out).mono ?_
        rintro e z2 ⟨rfl, hbz2⟩
        have hsz2 := hbz2.size
        have Sqz2 := Lib.hid (Sqz1.out.below hbz2)
        have Gz2 := Lib.hid (Gz1.out.below hbz2 (by omega))
        have Bz2 := Lib.hid (Bz1.out.trans (hbz2.mono (by omega)))
        clear hbz2
        go_wp2
        go_roundw
        case rel => exact ⟨1, by omega, by first | rfl | go_num, Bz2.out⟩
        case measure => simp [intOf]
      · have yc11 : vq.cell? ⟨wq.heap.size, 2, none⟩ = some (.slice (some ⟨gsq, 0, none⟩) 32 csq) := (Svq.out.blk.cell 2).trans rfl
        have xc11 : vq.cell? ⟨gsq, 29, none⟩ = some (.int .u64 5) := Svq.out.at_ (k := 1) (s := slot1) rfl 12 29 rfl rfl
        have fc11 : vq.frozen? ⟨gsq, 29, none⟩ = false := Svq.out.ice 29
        obtain ⟨c11, hc11⟩ : ∃ x, vq.setCell ⟨gsq, 29, none⟩ (.int .u64 8) = x := ⟨_, rfl⟩
        have Sc11 := Lib.hid (show DSt wr c11 (wq.heap.size) c1D1 gsq csq Afq cfq from hc11 ▸ Svq.out.field (k := 1) (s := slot1) rfl 12 29 rfl (by decide) (.int .u64 8) c1S1 rfl)
        have HWc11 := Lib.hid hc11
        clear hc11
        have hTc := Sc11.out.bl
        have hsc11 := hTc.size
        have Gc11 := Lib.hid (GR.out.below hTc (by omega))
        have Bc11 := Lib.hid (BR.out.trans (hTc.mono (by omega)))
        clear hTc
        have HKz1 := Lib.hid (cCheck_any c1D1 (some ⟨gsq, 0, none⟩) csq Afq cfq (len_small (by decide)) (len_small (by decide)) c11 Sc11.out.dump)
        rw [chk_c1D1] at HKz1
        go_wp2_with (first
          | ((with_reducible show wpList _ _ _ (Oper.mk none _ _ _ _ _ :: _) _ (World.alloc _ _)); refine wpList_store_new (ty := 25) rfl rfl rfl rfl rfl (dc_one pairD _ _ _ _) dumpInfo ?_; rw [HWvq.out])
          | ((with_reducible show wpList _ _ _ _ _ (World.setCell _ _ _)); (first | rw [HWc11.out]))
          | ((with_reducible show wpList _ _ _ _ _ (World.setRow _ _ _)); (first | rw [HWc11.out]))
          | ((with_reducible show wpList _ _ _ (Oper.mk (some 111) (Op.load _ _) _ _ _ _ :: _) _ c11); refine wpList_load_at (ty := 25) rfl rfl rfl Sc11.out.blk.row HU.out rfl dumpInfo ?_)
          | (go_at_call 9; fail))
        refine HKz1.out.mono ?_
        rintro e z1 ⟨rfl, hbz1⟩
        clear HKz1
        have hsz1 := hbz1.size
        have Sqz1 := Lib.hid (Sc11.out.below hbz1)
        have Gz1 := Lib.hid (Gc11.out.below hbz1 (by omega))
        have Bz1 := Lib.hid (Bc11.out.trans (hbz1.mono (by omega)))
        clear hbz1
        go_wp2_with (first
          | (go_at_call 13; fail))
        refine (at_fault 24 1 (by decide) (by decide) z1 Gz1.out).mono ?_
        rintro e z2 ⟨rfl, hbz2⟩
        have hsz2 := hbz2.size
        have Sqz2 := Lib.hid (Sqz1.out.below hbz2)
        have Gz2 := Lib.hid (Gz1.out.below hbz2 (by omega))
        have Bz2 := Lib.hid (Bz1.out.trans (hbz2.mono (by omega)))
        clear hbz2
        go_wp2
        go_roundw
        case rel => exact ⟨2, by omega, by first | rfl | go_num, Bz2.out⟩
        case measure => simp [intOf]
      · have yc21 : vq.cell? ⟨wq.heap.size, 2, none⟩ = some (.slice (some ⟨gsq, 0, none⟩) 32 csq) := (Svq.out.blk.cell 2).trans rfl
        have xc21 : vq.cell? ⟨gsq, 32, none⟩ = some (.int .i64 9) := Svq.out.at_ (k := 1) (s := slot1) rfl 15 32 rfl rfl
        have fc21 : vq.frozen? ⟨gsq, 32, none⟩ = false := Svq.out.ice 32
        obtain ⟨c21, hc21⟩ : ∃ x, vq.setCell ⟨gsq, 32, none⟩ (.int .i64 10) = x := ⟨_, rfl⟩
        have Sc21 := Lib.hid (show DSt wr c21 (wq.heap.size) c2D1 gsq csq Afq cfq from hc21 ▸ Svq.out.field (k := 1) (s := slot1) rfl 15 32 rfl (by decide) (.int .i64 10) c2S1 rfl)
        have HWc21 := Lib.hid hc21
        clear hc21
        have hTc := Sc21.out.bl
        have hsc21 := hTc.size
        have Gc21 := Lib.hid (GR.out.below hTc (by omega))
        have Bc21 := Lib.hid (BR.out.trans (hTc.mono (by omega)))
        clear hTc
        have HKz1 := Lib.hid (cCheck_any c2D1 (some ⟨gsq, 0, none⟩) csq Afq cfq (len_small (by decide)) (len_small (by decide)) c21 Sc21.out.dump)
        rw [chk_c2D1] at HKz1
        go_wp2_with (first
          | ((with_reducible show wpList _ _ _ (Oper.mk none _ _ _ _ _ :: _) _ (World.alloc _ _)); refine wpList_store_new (ty := 25) rfl rfl rfl rfl rfl (dc_one pairD _ _ _ _) dumpInfo ?_; rw [HWvq.out])
          | ((with_reducible show wpList _ _ _ _ _ (World.setCell _ _ _)); (first | rw [HWc21.out]))
          | ((with_reducible show wpList _ _ _ _ _ (World.setRow _ _ _)); (first | rw [HWc21.out]))
          | ((with_reducible show wpList _ _ _ (Oper.mk (some 111) (Op.load _ _) _ _ _ _ :: _) _ c21); refine wpList_load_at (ty := 25) rfl rfl rfl Sc21.out.blk.row HU.out rfl dumpInfo ?_)
          | (go_at_call 9; fail))
        refine HKz1.out.mono ?_
        rintro e z1 ⟨rfl, hbz1⟩
        clear HKz1
        have hsz1 := hbz1.size
        have Sqz1 := Lib.hid (Sc21.out.below hbz1)
        have Gz1 := Lib.hid (Gc21.out.below hbz1 (by omega))
        have Bz1 := Lib.hid (Bc21.out.trans (hbz1.mono (by omega)))
        clear hbz1
        go_wp2_with (first
          | (go_at_call 13; fail))
        refine (at_fault 24 1 (by decide) (by decide) z1 Gz1.out).mono ?_
        rintro e z2 ⟨rfl, hbz2⟩
        have hsz2 := hbz2.size
        have Sqz2 := Lib.hid (Sqz1.out.below hbz2)
        have Gz2 := Lib.hid (Gz1.out.below hbz2 (by omega))
        have Bz2 := Lib.hid (Bz1.out.trans (hbz2.mono (by omega)))
        clear hbz2
        go_wp2
        go_roundw
        case rel => exact ⟨3, by omega, by first | rfl | go_num, Bz2.out⟩
        case measure => simp [intOf]
      · have yc31 : vq.cell? ⟨wq.heap.size, 2, none⟩ = some (.slice (some ⟨gsq, 0, none⟩) 32 csq) := (Svq.out.blk.cell 2).trans rfl
        have xc31 : vq.cell? ⟨gsq, 30, none⟩ = some (.int .i64 1) := Svq.out.at_ (k := 1) (s := slot1) rfl 13 30 rfl rfl
        have fc31 : vq.frozen? ⟨gsq, 30, none⟩ = false := Svq.out.ice 30
        obtain ⟨c31, hc31⟩ : ∃ x, vq.setCell ⟨gsq, 30, none⟩ (.int .i64 2) = x := ⟨_, rfl⟩
        have Sc31 := Lib.hid (show DSt wr c31 (wq.heap.size) c3D1 gsq csq Afq cfq from hc31 ▸ Svq.out.field (k := 1) (s := slot1) rfl 13 30 rfl (by decide) (.int .i64 2) c3S1 rfl)
        have HWc31 := Lib.hid hc31
        clear hc31
        have hTc := Sc31.out.bl
        have hsc31 := hTc.size
        have Gc31 := Lib.hid (GR.out.below hTc (by omega))
        have Bc31 := Lib.hid (BR.out.trans (hTc.mono (by omega)))
        clear hTc
        have HKz1 := Lib.hid (cCheck_any c3D1 (some ⟨gsq, 0, none⟩) csq Afq cfq (len_small (by decide)) (len_small (by decide)) c31 Sc31.out.dump)
        rw [chk_c3D1] at HKz1
        go_wp2_with (first
          | ((with_reducible show wpList _ _ _ (Oper.mk none _ _ _ _ _ :: _) _ (World.alloc _ _)); refine wpList_store_new (ty := 25) rfl rfl rfl rfl rfl (dc_one pairD _ _ _ _) dumpInfo ?_; rw [HWvq.out])
          | ((with_reducible show wpList _ _ _ _ _ (World.setCell _ _ _)); (first | rw [HWc31.out]))
          | ((with_reducible show wpList _ _ _ _ _ (World.setRow _ _ _)); (first | rw [HWc31.out]))
          | ((with_reducible show wpList _ _ _ (Oper.mk (some 111) (Op.load _ _) _ _ _ _ :: _) _ c31); refine wpList_load_at (ty := 25) rfl rfl rfl Sc31.out.blk.row HU.out rfl dumpInfo ?_)
          | (go_at_call 9; fail))
        refine HKz1.out.mono ?_
        rintro e z1 ⟨rfl, hbz1⟩
        clear HKz1
        have hsz1 := hbz1.size
        have Sqz1 := Lib.hid (Sc31.out.below hbz1)
        have Gz1 := Lib.hid (Gc31.out.below hbz1 (by omega))
        have Bz1 := Lib.hid (Bc31.out.trans (hbz1.mono (by omega)))
        clear hbz1
        go_wp2_with (first
          | (go_at_call 13; fail))
        refine (at_fault 24 1 (by decide) (by decide) z1 Gz1.out).mono ?_
        rintro e z2 ⟨rfl, hbz2⟩
        have hsz2 := hbz2.size
        have Sqz2 := Lib.hid (Sqz1.out.below hbz2)
        have Gz2 := Lib.hid (Gz1.out.below hbz2 (by omega))
        have Bz2 := Lib.hid (Bz1.out.trans (hbz2.mono (by omega)))
        clear hbz2
        go_wp2
        go_roundw
        case rel => exact ⟨4, by omega, by first | rfl | go_num, Bz2.out⟩
        case measure => simp [intOf]
      · have yc41 : vq.cell? ⟨wq.heap.size, 2, none⟩ = some (.slice (some ⟨gsq, 0, none⟩) 32 csq) := (Svq.out.blk.cell 2).trans rfl
        have xc41 : vq.cell? ⟨gsq, 26, none⟩ = some (.int .i64 1) := Svq.out.at_ (k := 1) (s := slot1) rfl 9 26 rfl rfl
        have fc41 : vq.frozen? ⟨gsq, 26, none⟩ = false := Svq.out.ice 26
        obtain ⟨c41, hc41⟩ : ∃ x, vq.setCell ⟨gsq, 26, none⟩ (.int .i64 2) = x := ⟨_, rfl⟩
        have Sc41 := Lib.hid (show DSt wr c41 (wq.heap.size) c4D1 gsq csq Afq cfq from hc41 ▸ Svq.out.field (k := 1) (s := slot1) rfl 9 26 rfl (by decide) (.int .i64 2) c4S1 rfl)
        have HWc41 := Lib.hid hc41
        clear hc41
        have hTc := Sc41.out.bl
        have hsc41 := hTc.size
        have Gc41 := Lib.hid (GR.out.below hTc (by omega))
        have Bc41 := Lib.hid (BR.out.trans (hTc.mono (by omega)))
        clear hTc
        have HKz1 := Lib.hid (cCheck_any c4D1 (some ⟨gsq, 0, none⟩) csq Afq cfq (len_small (by decide)) (len_small (by decide)) c41 Sc41.out.dump)
        rw [chk_c4D1] at HKz1
        go_wp2_with (first
          | ((with_reducible show wpList _ _ _ (Oper.mk none _ _ _ _ _ :: _) _ (World.alloc _ _)); refine wpList_store_new (ty := 25) rfl rfl rfl rfl rfl (dc_one pairD _ _ _ _) dumpInfo ?_; rw [HWvq.out])
          | ((with_reducible show wpList _ _ _ _ _ (World.setCell _ _ _)); (first | rw [HWc41.out]))
          | ((with_reducible show wpList _ _ _ _ _ (World.setRow _ _ _)); (first | rw [HWc41.out]))
          | ((with_reducible show wpList _ _ _ (Oper.mk (some 111) (Op.load _ _) _ _ _ _ :: _) _ c41); refine wpList_load_at (ty := 25) rfl rfl rfl Sc41.out.blk.row HU.out rfl dumpInfo ?_)
          | (go_at_call 9; fail))
        refine HKz1.out.mono ?_
        rintro e z1 ⟨rfl, hbz1⟩
        clear HKz1
        have hsz1 := hbz1.size
        have Sqz1 := Lib.hid (Sc41.out.below hbz1)
        have Gz1 := Lib.hid (Gc41.out.below hbz1 (by omega))
        have Bz1 := Lib.hid (Bc41.out.trans (hbz1.mono (by omega)))
        clear hbz1
        go_wp2_with (first
          | (go_at_call 13; fail))
        refine (at_fault 24 1 (by decide) (by decide) z1 Gz1.out).mono ?_
        rintro e z2 ⟨rfl, hbz2⟩
        have hsz2 := hbz2.size
        have Sqz2 := Lib.hid (Sqz1.out.below hbz2)
        have Gz2 := Lib.hid (Gz1.out.below hbz2 (by omega))
        have Bz2 := Lib.hid (Bz1.out.trans (hbz2.mono (by omega)))
        clear hbz2
        go_wp2
        go_roundw
        case rel => exact ⟨5, by omega, by first | rfl | go_num, Bz2.out⟩
        case measure => simp [intOf]
      · have yc51 : vq.cell? ⟨wq.heap.size, 2, none⟩ = some (.slice (some ⟨gsq, 0, none⟩) 32 csq) := (Svq.out.blk.cell 2).trans rfl
        have xc51 : vq.cell? ⟨gsq, 33, none⟩ = some (.int .i64 1) := Svq.out.at_ (k := 1) (s := slot1) rfl 16 33 rfl rfl
        have fc51 : vq.frozen? ⟨gsq, 33, none⟩ = false := Svq.out.ice 33
        obtain ⟨c51, hc51⟩ : ∃ x, vq.setCell ⟨gsq, 33, none⟩ (.int .i64 2) = x := ⟨_, rfl⟩
        have Sc51 := Lib.hid (show DSt wr c51 (wq.heap.size) c5D1 gsq csq Afq cfq from hc51 ▸ Svq.out.field (k := 1) (s := slot1) rfl 16 33 rfl (by decide) (.int .i64 2) c5S1 rfl)
        have HWc51 := Lib.hid hc51
        clear hc51
        have hTc := Sc51.out.bl
        have hsc51 := hTc.size
        have Gc51 := Lib.hid (GR.out.below hTc (by omega))
        have Bc51 := Lib.hid (BR.out.trans (hTc.mono (by omega)))
        clear hTc
        have HKz1 := Lib.hid (cCheck_any c5D1 (some ⟨gsq, 0, none⟩) csq Afq cfq (len_small (by decide)) (len_small (by decide)) c51 Sc51.out.dump)
        rw [chk_c5D1] at HKz1
        go_wp2_with (first
          | ((with_reducible show wpList _ _ _ (Oper.mk none _ _ _ _ _ :: _) _ (World.alloc _ _)); refine wpList_store_new (ty := 25) rfl rfl rfl rfl rfl (dc_one pairD _ _ _ _) dumpInfo ?_; rw [HWvq.out])
          | ((with_reducible show wpList _ _ _ _ _ (World.setCell _ _ _)); (first | rw [HWc51.out]))
          | ((with_reducible show wpList _ _ _ _ _ (World.setRow _ _ _)); (first | rw [HWc51.out]))
          | ((with_reducible show wpList _ _ _ (Oper.mk (some 111) (Op.load _ _) _ _ _ _ :: _) _ c51); refine wpList_load_at (ty := 25) rfl rfl rfl Sc51.out.blk.row HU.out rfl dumpInfo ?_)
          | (go_at_call 9; fail))
        refine HKz1.out.mono ?_
        rintro e z1 ⟨rfl, hbz1⟩
        clear HKz1
        have hsz1 := hbz1.size
        have Sqz1 := Lib.hid (Sc51.out.below hbz1)
        have Gz1 := Lib.hid (Gc51.out.below hbz1 (by omega))
        have Bz1 := Lib.hid (Bc51.out.trans (hbz1.mono (by omega)))
        clear hbz1
        go_wp2_with (first
          | (go_at_call 13; fail))
        refine (at_fault 24 1 (by decide) (by decide) z1 Gz1.out).mono ?_
        rintro e z2 ⟨rfl, hbz2⟩
        have hsz2 := hbz2.size
        have Sqz2 := Lib.hid (Sqz1.out.below hbz2)
        have Gz2 := Lib.hid (Gz1.out.below hbz2 (by omega))
        have Bz2 := Lib.hid (Bz1.out.trans (hbz2.mono (by omega)))
        clear hbz2
        go_wp2
        go_roundw
        case rel => exact ⟨6, by omega, by first | rfl | go_num, Bz2.out⟩
        case measure => simp [intOf]
      · have yc61 : vq.cell? ⟨wq.heap.size, 2, none⟩ = some (.slice (some ⟨gsq, 0, none⟩) 32 csq) := (Svq.out.blk.cell 2).trans rfl
        have xc61 : vq.cell? ⟨gsq, 26, none⟩ = some (.int .i64 1) := Svq.out.at_ (k := 1) (s := slot1) rfl 9 26 rfl rfl
        have fc61 : vq.frozen? ⟨gsq, 26, none⟩ = false := Svq.out.ice 26
        obtain ⟨c61, hc61⟩ : ∃ x, vq.setCell ⟨gsq, 26, none⟩ (.int .i64 0) = x := ⟨_, rfl⟩
        have Sc61 := Lib.hid (show DSt wr c61 (wq.heap.size) c6D1 gsq csq Afq cfq from hc61 ▸ Svq.out.field (k := 1) (s := slot1) rfl 9 26 rfl (by decide) (.int .i64 0) c6S1 rfl)
        have HWc61 := Lib.hid hc61
        clear hc61
        have hTc := Sc61.out.bl
        have hsc61 := hTc.size
        have Gc61 := Lib.hid (GR.out.below hTc (by omega))
        have Bc61 := Lib.hid (BR.out.trans (hTc.mono (by omega)))
        clear hTc
        have HKz1 := Lib.hid (cCheck_any c6D1 (some ⟨gsq, 0, none⟩) csq Afq cfq (len_small (by decide)) (len_small (by decide)) c61 Sc61.out.dump)
        rw [chk_c6D1] at HKz1
        go_wp2_with (first
          | ((with_reducible show wpList _ _ _ (Oper.mk none _ _ _ _ _ :: _) _ (World.alloc _ _)); refine wpList_store_new (ty := 25) rfl rfl rfl rfl rfl (dc_one pairD _ _ _ _) dumpInfo ?_; rw [HWvq.out])
          | ((with_reducible show wpList _ _ _ _ _ (World.setCell _ _ _)); (first | rw [HWc61.out]))
          | ((with_reducible show wpList _ _ _ _ _ (World.setRow _ _ _)); (first | rw [HWc61.out]))
          | ((with_reducible show wpList _ _ _ (Oper.mk (some 111) (Op.load _ _) _ _ _ _ :: _) _ c61); refine wpList_load_at (ty := 25) rfl rfl rfl Sc61.out.blk.row HU.out rfl dumpInfo ?_)
          | (go_at_call 9; fail))
        refine HKz1.out.mono ?_
        rintro e z1 ⟨rfl, hbz1⟩
        clear HKz1
        have hsz1 := hbz1.size
        have Sqz1 := Lib.hid (Sc61.out.below hbz1)
        have Gz1 := Lib.hid (Gc61.out.below hbz1 (by omega))
        have Bz1 := Lib.hid (Bc61.out.trans (hbz1.mono (by omega)))
        clear hbz1
        go_wp2_with (first
          | (go_at_call 13; fail))
        refine (at_fault 24 1 (by decide) (by decide) z1 Gz1.out).mono ?_
        rintro e z2 ⟨rfl, hbz2⟩
        have hsz2 := hbz2.size
        have Sqz2 := Lib.hid (Sqz1.out.below hbz2)
        have Gz2 := Lib.hid (Gz1.out.below hbz2 (by omega))
        have Bz2 := Lib.hid (Bz1.out.trans (hbz2.mono (by omega)))
        clear hbz2
        go_wp2
        go_roundw
        case rel => exact ⟨7, by omega, by first | rfl | go_num, Bz2.out⟩
        case measure => simp [intOf]
      · have yc71 : vq.cell? ⟨wq.heap.size, 2, none⟩ = some (.slice (some ⟨gsq, 0, none⟩) 32 csq) := (Svq.out.blk.cell 2).trans rfl
        have xc71 : vq.cell? ⟨gsq, 20, none⟩ = some (.int .i64 1) := Svq.out.at_ (k := 1) (s := slot1) rfl 3 20 rfl rfl
        have fc71 : vq.frozen? ⟨gsq, 20, none⟩ = false := Svq.out.ice 20
        obtain ⟨c71, hc71⟩ : ∃ x, vq.setCell ⟨gsq, 20, none⟩ (.int .i64 0) = x := ⟨_, rfl⟩
        have Sc71 := Lib.hid (show DSt wr c71 (wq.heap.size) c7D1 gsq csq Afq cfq from hc71 ▸ Svq.out.field (k := 1) (s := slot1) rfl 3 20 rfl (by decide) (.int .i64 0) c7S1 rfl)
        have HWc71 := Lib.hid hc71
        clear hc71
        have hTc := Sc71.out.bl
        have hsc71 := hTc.size
        have Gc71 := Lib.hid (GR.out.below hTc (by omega))
        have Bc71 := Lib.hid (BR.out.trans (hTc.mono (by omega)))
        clear hTc
        have HKz1 := Lib.hid (cCheck_any c7D1 (some ⟨gsq, 0, none⟩) csq Afq cfq (len_small (by decide)) (len_small (by decide)) c71 Sc71.out.dump)
        rw [chk_c7D1] at HKz1
        go_wp2_with (first
          | ((with_reducible show wpList _ _ _ (Oper.mk none _ _ _ _ _ :: _) _ (World.alloc _ _)); refine wpList_store_new (ty := 25) rfl rfl rfl rfl rfl (dc_one pairD _ _ _ _) dumpInfo ?_; rw [HWvq.out])
          | ((with_reducible show wpList _ _ _ _ _ (World.setCell _ _ _)); (first | rw [HWc71.out]))
          | ((with_reducible show wpList _ _ _ _ _ (World.setRow _ _ _)); (first | rw [HWc71.out]))
          | ((with_reducible show wpList _ _ _ (Oper.mk (some 111) (Op.load _ _) _ _ _ _ :: _) _ c71); refine wpList_load_at (ty := 25) rfl rfl rfl Sc71.out.blk.row HU.out rfl dumpInfo ?_)
          | (go_at_call 9; fail))
        refine HKz1.out.mono ?_
        rintro e z1 ⟨rfl, hbz1⟩
        clear HKz1
        have hsz1 := hbz1.size
        have Sqz1 := Lib.hid (Sc71.out.below hbz1)
        have Gz1 := Lib.hid (Gc71.out.below hbz1 (by omega))
        have Bz1 := Lib.hid (Bc71.out.trans (hbz1.mono (by omega)))
        clear hbz1
        go_wp2_with (first
          | (go_at_call 13; fail))
        refine (at_fault 24 1 (by decide) (by decide) z1 Gz1.out).mono ?_
        rintro e z2 ⟨rfl, hbz2⟩
        have hsz2 := hbz2.size
        have Sqz2 := Lib.hid (Sqz1.out.below hbz2)
        have Gz2 := Lib.hid (Gz1.out.below hbz2 (by omega))
        have Bz2 := Lib.hid (Bz1.out.trans (hbz2.mono (by omega)))
        clear hbz2
        go_wp2
        go_roundw
        case rel => exact ⟨8, by omega, by first | rfl | go_num, Bz2.out⟩
        case measure => simp [intOf]
      · have yc81 : vq.cell? ⟨wq.heap.size, 2, none⟩ = some (.slice (some ⟨gsq, 0, none⟩) 32 csq) := (Svq.out.blk.cell 2).trans rfl
        have xc81 : vq.cell? ⟨gsq, 21, none⟩ = some (.int .i64 1) := Svq.out.at_ (k := 1) (s := slot1) rfl 4 21 rfl rfl
        have fc81 : vq.frozen? ⟨gsq, 21, none⟩ = false := Svq.out.ice 21
        obtain ⟨c81, hc81⟩ : ∃ x, vq.setCell ⟨gsq, 21, none⟩ (.int .i64 0) = x := ⟨_, rfl⟩
        have Sc81 := Lib.hid (show DSt wr c81 (wq.heap.size) c8D1 gsq csq Afq cfq from hc81 ▸ Svq.out.field (k := 1) (s := slot1) rfl 4 21 rfl (by decide) (.int .i64 0) c8S1 rfl)
        have HWc81 := Lib.hid hc81
        clear hc81
        have hTc := Sc81.out.bl
        have hsc81 := hTc.size
        have Gc81 := Lib.hid (GR.out.below hTc (by omega))
        have Bc81 := Lib.hid (BR.out.trans (hTc.mono (by omega)))
        clear hTc
        have HKz1 := Lib.hid (cCheck_any c8D1 (some ⟨gsq, 0, none⟩) csq Afq cfq (len_small (by decide)) (len_small (by decide)) c81 Sc81.out.dump)
        rw [chk_c8D1] at HKz1
        go_wp2_with (first
          | ((with_reducible show wpList _ _ _ (Oper.mk none _ _ _ _ _ :: _) _ (World.alloc _ _)); refine wpList_store_new (ty := 25) rfl rfl rfl rfl rfl (dc_one pairD _ _ _ _) dumpInfo ?_; rw [HWvq.out])
          | ((with_reducible show wpList _ _ _ _ _ (World.setCell _ _ _)); (first | rw [HWc81.out]))
          | ((with_reducible show wpList _ _ _ _ _ (World.setRow _ _ _)); (first | rw [HWc81.out]))
          | ((with_reducible show wpList _ _ _ (Oper.mk (some 111) (Op.load _ _) _ _ _ _ :: _) _ c81); refine wpList_load_at (ty := 25) rfl rfl rfl Sc81.out.blk.row HU.out rfl dumpInfo ?_)
          | (go_at_call 9; fail))
        refine HKz1.out.mono ?_
        rintro e z1 ⟨rfl, hbz1⟩
        clear HKz1
        have hsz1 := hbz1.size
        have Sqz1 := Lib.hid (Sc81.out.below hbz1)
        have Gz1 := Lib.hid (Gc81.out.below hbz1 (by omega))
        have Bz1 := Lib.hid (Bc81.out.trans (hbz1.mono (by omega)))
        clear hbz1
        go_wp2_with (first
          | (go_at_call 13; fail))
        refine (at_fault 24 0 (by decide) (by decide) z1 Gz1.out).mono ?_
        rintro e z2 ⟨rfl, hbz2⟩
        have hsz2 := hbz2.size
        have Sqz2 := Lib.hid (Sqz1.out.below hbz2)
        have Gz2 := Lib.hid (Gz1.out.below hbz2 (by omega))
        have Bz2 := Lib.hid (Bz1.out.trans (hbz2.mono (by omega)))
        clear hbz2
        go_wp2
        go_roundw
        case rel => exact ⟨9, by omega, by first | rfl | go_num, Bz2.out⟩
        case measure => simp [intOf]
      · have yc91 : vq.cell? ⟨wq.heap.size, 2, none⟩ = some (.slice (some ⟨gsq, 0, none⟩) 32 csq) := (Svq.out.blk.cell 2).trans rfl
        have xc91 : vq.cell? ⟨gsq, 17, none⟩ = some (.bool true) := Svq.out.at_ (k := 1) (s := slot1) rfl 0 17 rfl rfl
        have fc91 : vq.frozen? ⟨gsq, 17, none⟩ = false := Svq.out.ice 17
        obtain ⟨c91, hc91⟩ : ∃ x, vq.setCell ⟨gsq, 17, none⟩ (.bool false) = x := ⟨_, rfl⟩
        have Sc91 := Lib.hid (show DSt wr c91 (wq.heap.size) c9D1 gsq csq Afq cfq from hc91 ▸ Svq.out.field (k := 1) (s := slot1) rfl 0 17 rfl (by decide) (.bool false) c9S1 rfl)
        have HWc91 := Lib.hid hc91
        clear hc91
        have hTc := Sc91.out.bl
        have hsc91 := hTc.size
        have Gc91 := Lib.hid (GR.out.below hTc (by omega))
        have Bc91 := Lib.hid (BR.out.trans (hTc.mono (by omega)))
        clear hTc
        have HKz1 := Lib.hid (cCheck_any c9D1 (some ⟨gsq, 0, none⟩) csq Afq cfq (len_small (by decide)) (len_small (by decide)) c91 Sc91.out.dump)
        rw [chk_c9D1] at HKz1
        go_wp2_with (first
          | ((with_reducible show wpList _ _ _ (Oper.mk none _ _ _ _ _ :: _) _ (World.alloc _ _)); refine wpList_store_new (ty := 25) rfl rfl rfl rfl rfl (dc_one pairD _ _ _ _) dumpInfo ?_; rw [HWvq.out])
          | ((with_reducible show wpList _ _ _ _ _ (World.setCell _ _ _)); (first | rw [HWc91.out]))
          | ((with_reducible show wpList _ _ _ _ _ (World.setRow _ _ _)); (first | rw [HWc91.out]))
          | ((with_reducible show wpList _ _ _ (Oper.mk (some 111) (Op.load _ _) _ _ _ _ :: _) _ c91); refine wpList_load_at (ty := 25) rfl rfl rfl Sc91.out.blk.row HU.out rfl dumpInfo ?_)
          | (go_at_call 9; fail))
        refine HKz1.out.mono ?_
        rintro e z1 ⟨rfl, hbz1⟩
        clear HKz1
        have hsz1 := hbz1.size
        have Sqz1 := Lib.hid (Sc91.out.below hbz1)
        have Gz1 := Lib.hid (Gc91.out.below hbz1 (by omega))
        have Bz1 := Lib.hid (Bc91.out.trans (hbz1.mono (by omega)))
        clear hbz1
        go_wp2_with (first
          | (go_at_call 13; fail))
        refine (at_fault 24 1 (by decide) (by decide) z1 Gz1.out).mono ?_
        rintro e z2 ⟨rfl, hbz2⟩
        have hsz2 := hbz2.size
        have Sqz2 := Lib.hid (Sqz1.out.below hbz2)
        have Gz2 := Lib.hid (Gz1.out.below hbz2 (by omega))
        have Bz2 := Lib.hid (Bz1.out.trans (hbz2.mono (by omega)))
        clear hbz2
        go_wp2
        go_roundw
        case rel => exact ⟨10, by omega, by first | rfl | go_num, Bz2.out⟩
        case measure => simp [intOf]
      · have yc101 : vq.cell? ⟨wq.heap.size, 2, none⟩ = some (.slice (some ⟨gsq, 0, none⟩) 32 csq) := (Svq.out.blk.cell 2).trans rfl
        have xc101 : vq.cell? ⟨gsq, 23, none⟩ = some (.int .i64 2) := Svq.out.at_ (k := 1) (s := slot1) rfl 6 23 rfl rfl
        have fc101 : vq.frozen? ⟨gsq, 23, none⟩ = false := Svq.out.ice 23
        obtain ⟨c101, hc101⟩ : ∃ x, vq.setCell ⟨gsq, 23, none⟩ (.int .i64 1) = x := ⟨_, rfl⟩
        have Sc101 := Lib.hid (show DSt wr c101 (wq.heap.size) c10D1 gsq csq Afq cfq from hc101 ▸ Svq.out.field (k := 1) (s := slot1) rfl 6 23 rfl (by decide) (.int .i64 1) c10S1 rfl)
        have HWc101 := Lib.hid hc101
        clear hc101
        have hTc := Sc101.out.bl
        have hsc101 := hTc.size
        have Gc101 := Lib.hid (GR.out.below hTc (by omega))
        have Bc101 := Lib.hid (BR.out.trans (hTc.mono (by omega)))
        clear hTc
        have HKz1 := Lib.hid (cCheck_any c10D1 (some ⟨gsq, 0, none⟩) csq Afq cfq (len_small (by decide)) (len_small (by decide)) c101 Sc101.out.dump)
        rw [chk_c10D1] at HKz1
        go_wp2_with (first
          | ((with_reducible show wpList _ _ _ (Oper.mk none _ _ _ _ _ :: _) _ (World.alloc _ _)); refine wpList_store_new (ty := 25) rfl rfl rfl rfl rfl (dc_one pairD _ _ _ _) dumpInfo ?_; rw [HWvq.out])
          | ((with_reducible show wpList _ _ _ _ _ (World.setCell _ _ _)); (first | rw [HWc101.out]))
          | ((with_reducible show wpList _ _ _ _ _ (World.setRow _ _ _)); (first | rw [HWc101.out]))
          | ((with_reducible show wpList _ _ _ (Oper.mk (some 111) (Op.load _ _) _ _ _ _ :: _) _ c101); refine wpList_load_at (ty := 25) rfl rfl rfl Sc101.out.blk.row HU.out rfl dumpInfo ?_)
          | (go_at_call 9; fail))
        refine HKz1.out.mono ?_
        rintro e z1 ⟨rfl, hbz1⟩
        clear HKz1
        have hsz1 := hbz1.size
        have Sqz1 := Lib.hid (Sc101.out.below hbz1)
        have Gz1 := Lib.hid (Gc101.out.below hbz1 (by omega))
        have Bz1 := Lib.hid (Bc101.out.trans (hbz1.mono (by omega)))
        clear hbz1
        go_wp2_with (first
          | (go_at_call 13; fail))
        refine (at_fault 24 1 (by decide) (by decide) z1 Gz1.out).mono ?_
        rintro e z2 ⟨rfl, hbz2⟩
        have hsz2 := hbz2.size
        have Sqz2 := Lib.hid (Sqz1.out.below hbz2)
        have Gz2 := Lib.hid (Gz1.out.below hbz2 (by omega))
        have Bz2 := Lib.hid (Bz1.out.trans (hbz2.mono (by omega)))
        clear hbz2
        go_wp2
        go_roundw
        case rel => exact ⟨11, by omega, by first | rfl | go_num, Bz2.out⟩
        case measure => simp [intOf]
      · have yc111 : vq.cell? ⟨wq.heap.size, 2, none⟩ = some (.slice (some ⟨gsq, 0, none⟩) 32 csq) := (Svq.out.blk.cell 2).trans rfl
        have xc111 : vq.cell? ⟨gsq, 31, none⟩ = some (.int .i64 0) := Svq.out.at_ (k := 1) (s := slot1) rfl 14 31 rfl rfl
        have fc111 : vq.frozen? ⟨gsq, 31, none⟩ = false := Svq.out.ice 31
        obtain ⟨c111, hc111⟩ : ∃ x, vq.setCell ⟨gsq, 31, none⟩ (.int .i64 4) = x := ⟨_, rfl⟩
        have Sc111 := Lib.hid (show DSt wr c111 (wq.heap.size) c11D1 gsq csq Afq cfq from hc111 ▸ Svq.out.field (k := 1) (s := slot1) rfl 14 31 rfl (by decide) (.int .i64 4) c11S1 rfl)
        have HWc111 := Lib.hid hc111
        clear hc111
        have hTc := Sc111.out.bl
        have hsc111 := hTc.size
        have Gc111 := Lib.hid (GR.out.below hTc (by omega))
        have Bc111 := Lib.hid (BR.out.trans (hTc.mono (by omega)))
        clear hTc
        have HKz1 := Lib.hid (cCheck_any c11D1 (some ⟨gsq, 0, none⟩) csq Afq cfq (len_small (by decide)) (len_small (by decide)) c111 Sc111.out.dump)
        rw [chk_c11D1] at HKz1
        go_wp2_with (first
          | ((with_reducible show wpList _ _ _ (Oper.mk none _ _ _ _ _ :: _) _ (World.alloc _ _)); refine wpList_store_new (ty := 25) rfl rfl rfl rfl rfl (dc_one pairD _ _ _ _) dumpInfo ?_; rw [HWvq.out])
          | ((with_reducible show wpList _ _ _ _ _ (World.setCell _ _ _)); (first | rw [HWc111.out]))
          | ((with_reducible show wpList _ _ _ _ _ (World.setRow _ _ _)); (first | rw [HWc111.out]))
          | ((with_reducible show wpList _ _ _ (Oper.mk (some 111) (Op.load _ _) _ _ _ _ :: _) _ c111); refine wpList_load_at (ty := 25) rfl rfl rfl Sc111.out.blk.row HU.out rfl dumpInfo ?_)
          | (go_at_call 9; fail))
        refine HKz1.out.mono ?_
        rintro e z1 ⟨rfl, hbz1⟩
        clear HKz1
        have hsz1 := hbz1.size
        have Sqz1 := Lib.hid (Sc111.out.below hbz1)
        have Gz1 := Lib.hid (Gc111.out.below hbz1 (by omega))
        have Bz1 := Lib.hid (Bc111.out.trans (hbz1.mono (by omega)))
        clear hbz1
        go_wp2_with (first
          | (go_at_call 13; fail))
        refine (at_fault 24 1 (by decide) (by decide) z1 Gz1.out).mono ?_
        rintro e z2 ⟨rfl, hbz2⟩
        have hsz2 := hbz2.size
        have Sqz2 := Lib.hid (Sqz1.out.below hbz2)
        have Gz2 := Lib.hid (Gz1.out.below hbz2 (by omega))
        have Bz2 := Lib.hid (Bz1.out.trans (hbz2.mono (by omega)))
        clear hbz2
        go_wp2
        go_roundw
        case rel => exact ⟨12, by omega, by first | rfl | go_num, Bz2.out⟩
        case measure => simp [intOf]
      · have yc121 : vq.cell? ⟨wq.heap.size, 2, none⟩ = some (.slice (some ⟨gsq, 0, none⟩) 32 csq) := (Svq.out.blk.cell 2).trans rfl
        have xc121 : vq.cell? ⟨gsq, 19, none⟩ = some (.int .i64 (-1)) := Svq.out.at_ (k := 1) (s := slot1) rfl 2 19 rfl rfl
        have fc121 : vq.frozen? ⟨gsq, 19, none⟩ = false := Svq.out.ice 19
        obtain ⟨c121, hc121⟩ : ∃ x, vq.setCell ⟨gsq, 19, none⟩ (.int .i64 1) = x := ⟨_, rfl⟩
        have Sc121 := Lib.hid (show DSt wr c121 (wq.heap.size) c12D1 gsq csq Afq cfq from hc121 ▸ Svq.out.field (k := 1) (s := slot1) rfl 2 19 rfl (by decide) (.int .i64 1) c12S1 rfl)
        have HWc121 := Lib.hid hc121
        clear hc121
        have hTc := Sc121.out.bl
        have hsc121 := hTc.size
        have Gc121 := Lib.hid (GR.out.below hTc (by omega))
        have Bc121 := Lib.hid (BR.out.trans (hTc.mono (by omega)))
        clear hTc
        have HKz1 := Lib.hid (cCheck_any c12D1 (some ⟨gsq, 0, none⟩) csq Afq cfq (len_small (by decide)) (len_small (by decide)) c121 Sc121.out.dump)
        rw [chk_c12D1] at HKz1
        go_wp2_with (first
          | ((with_reducible show wpList _ _ _ (Oper.mk none _ _ _ _ _ :: _) _ (World.alloc _ _)); refine wpList_store_new (ty := 25) rfl rfl rfl rfl rfl (dc_one pairD _ _ _ _) dumpInfo ?_; rw [HWvq.out])
          | ((with_reducible show wpList _ _ _ _ _ (World.setCell _ _ _)); (first | rw [HWc121.out]))
          | ((with_reducible show wpList _ _ _ _ _ (World.setRow _ _ _)); (first | rw [HWc121.out]))
          | ((with_reducible show wpList _ _ _ (Oper.mk (some 111) (Op.load _ _) _ _ _ _ :: _) _ c121); refine wpList_load_at (ty := 25) rfl rfl rfl Sc121.out.blk.row HU.out rfl dumpInfo ?_)
          | (go_at_call 9; fail))
        refine HKz1.out.mono ?_
        rintro e z1 ⟨rfl, hbz1⟩
        clear HKz1
        have hsz1 := hbz1.size
        have Sqz1 := Lib.hid (Sc121.out.below hbz1)
        have Gz1 := Lib.hid (Gc121.out.below hbz1 (by omega))
        have Bz1 := Lib.hid (Bc121.out.trans (hbz1.mono (by omega)))
        clear hbz1
        go_wp2_with (first
          | (go_at_call 13; fail))
        refine (at_fault 24 1 (by decide) (by decide) z1 Gz1.out).mono ?_
        rintro e z2 ⟨rfl, hbz2⟩
        have hsz2 := hbz2.size
        have Sqz2 := Lib.hid (Sqz1.out.below hbz2)
        have Gz2 := Lib.hid (Gz1.out.below hbz2 (by omega))
        have Bz2 := Lib.hid (Bz1.out.trans (hbz2.mono (by omega)))
        clear hbz2
        go_wp2
        go_roundw
        case rel => exact ⟨13, by omega, by first | rfl | go_num, Bz2.out⟩
        case measure => simp [intOf]
      · have yc131 : vq.cell? ⟨wq.heap.size, 2, none⟩ = some (.slice (some ⟨gsq, 0, none⟩) 32 csq) := (Svq.out.blk.cell 2).trans rfl
        have xc131 : vq.cell? ⟨gsq, 19, none⟩ = some (.int .i64 (-1)) := Svq.out.at_ (k := 1) (s := slot1) rfl 2 19 rfl rfl
        have fc131 : vq.frozen? ⟨gsq, 19, none⟩ = false := Svq.out.ice 19
        obtain ⟨c131, hc131⟩ : ∃ x, vq.setCell ⟨gsq, 19, none⟩ (.int .i64 40) = x := ⟨_, rfl⟩
        have Sc131 := Lib.hid (show DSt wr c131 (wq.heap.size) c13D1 gsq csq Afq cfq from hc131 ▸ Svq.out.field (k := 1) (s := slot1) rfl 2 19 rfl (by decide) (.int .i64 40) c13S1 rfl)
        have HWc131 := Lib.hid hc131
        clear hc131
        have hTc := Sc131.out.bl
        have hsc131 := hTc.size
        have Gc131 := Lib.hid (GR.out.below hTc (by omega))
        have Bc131 := Lib.hid (BR.out.trans (hTc.mono (by omega)))
        clear hTc
        have HKz1 := Lib.hid (cCheck_any c13D1 (some ⟨gsq, 0, none⟩) csq Afq cfq (len_small (by decide)) (len_small (by decide)) c131 Sc131.out.dump)
        rw [chk_c13D1] at HKz1
        go_wp2_with (first
          | ((with_reducible show wpList _ _ _ (Oper.mk none _ _ _ _ _ :: _) _ (World.alloc _ _)); refine wpList_store_new (ty := 25) rfl rfl rfl rfl rfl (dc_one pairD _ _ _ _) dumpInfo ?_; rw [HWvq.out])
          | ((with_reducible show wpList _ _ _ _ _ (World.setCell _ _ _)); (first | rw [HWc131.out]))
          | ((with_reducible show wpList _ _ _ _ _ (World.setRow _ _ _)); (first | rw [HWc131.out]))
          | ((with_reducible show wpList _ _ _ (Oper.mk (some 111) (Op.load _ _) _ _ _ _ :: _) _ c131); refine wpList_load_at (ty := 25) rfl rfl rfl Sc131.out.blk.row HU.out rfl dumpInfo ?_)
          | (go_at_call 9; fail))
        refine HKz1.out.mono ?_
        rintro e z1 ⟨rfl, hbz1⟩
        clear HKz1
        have hsz1 := hbz1.size
        have Sqz1 := Lib.hid (Sc131.out.below hbz1)
        have Gz1 := Lib.hid (Gc131.out.below hbz1 (by omega))
        have Bz1 := Lib.hid (Bc131.out.trans (hbz1.mono (by omega)))
        clear hbz1
        go_wp2_with (first
          | (go_at_call 13; fail))
        refine (at_fault 24 (-1) (by decide) (by decide) z1 Gz1.out).mono ?_
        rintro e z2 ⟨rfl, hbz2⟩
        have hsz2 := hbz2.size
        have Sqz2 := Lib.hid (Sqz1.out.below hbz2)
        have Gz2 := Lib.hid (Gz1.out.below hbz2 (by omega))
        have Bz2 := Lib.hid (Bz1.out.trans (hbz2.mono (by omega)))
        clear hbz2
        go_wp2
        go_roundw
        case rel => exact ⟨14, by omega, by first | rfl | go_num, Bz2.out⟩
        case measure => simp [intOf]
      · have yc141 : vq.cell? ⟨wq.heap.size, 2, none⟩ = some (.slice (some ⟨gsq, 0, none⟩) 32 csq) := (Svq.out.blk.cell 2).trans rfl
        have xc141 : vq.cell? ⟨gsq, 22, none⟩ = some (.int .i64 1) := Svq.out.at_ (k := 1) (s := slot1) rfl 5 22 rfl rfl
        have fc141 : vq.frozen? ⟨gsq, 22, none⟩ = false := Svq.out.ice 22
        obtain ⟨c141, hc141⟩ : ∃ x, vq.setCell ⟨gsq, 22, none⟩ (.int .i64 0) = x := ⟨_, rfl⟩
        have Sc141 := Lib.hid (show DSt wr c141 (wq.heap.size) c14D1 gsq csq Afq cfq from hc141 ▸ Svq.out.field (k := 1) (s := slot1) rfl 5 22 rfl (by decide) (.int .i64 0) c14S1 rfl)
        have HWc141 := Lib.hid hc141
        clear hc141
        have hTc := Sc141.out.bl
        have hsc141 := hTc.size
        have Gc141 := Lib.hid (GR.out.below hTc (by omega))
        have Bc141 := Lib.hid (BR.out.trans (hTc.mono (by omega)))
        clear hTc
        have HKz1 := Lib.hid (cCheck_any c14D1 (some ⟨gsq, 0, none⟩) csq Afq cfq (len_small (by decide)) (len_small (by decide)) c141 Sc141.out.dump)
        rw [chk_c14D1] at HKz1
        go_wp2_with (first
          | ((with_reducible show wpList _ _ _ (Oper.mk none _ _ _ _ _ :: _) _ (World.alloc _ _)); refine wpList_store_new (ty := 25) rfl rfl rfl rfl rfl (dc_one pairD _ _ _ _) dumpInfo ?_; rw [HWvq.out])
          | ((with_reducible show wpList _ _ _ _ _ (World.setCell _ _ _)); (first | rw [HWc141.out]))
          | ((with_reducible show wpList _ _ _ _ _ (World.setRow _ _ _)); (first | rw [HWc141.out]))
          | ((with_reducible show wpList _ _ _ (Oper.mk (some 111) (Op.load _ _) _ _ _ _ :: _) _ c141); refine wpList_load_at (ty := 25) rfl rfl rfl Sc141.out.blk.row HU.out rfl dumpInfo ?_)
          | (go_at_call 9; fail))
        refine HKz1.out.mono ?_
        rintro e z1 ⟨rfl, hbz1⟩
        clear HKz1
        have hsz1 := hbz1.size
        have Sqz1 := Lib.hid (Sc141.out.below hbz1)
        have Gz1 := Lib.hid (Gc141.out.below hbz1 (by omega))
        have Bz1 := Lib.hid (Bc141.out.trans (hbz1.mono (by omega)))
        clear hbz1
        go_wp2_with (first
          | (go_at_call 13; fail))
        refine (at_fault 24 1 (by decide) (by decide) z1 Gz1.out).mono ?_
        rintro e z2 ⟨rfl, hbz2⟩
        have hsz2 := hbz2.size
        have Sqz2 := Lib.hid (Sqz1.out.below hbz2)
        have Gz2 := Lib.hid (Gz1.out.below hbz2 (by omega))
        have Bz2 := Lib.hid (Bz1.out.trans (hbz2.mono (by omega)))
        clear hbz2
        go_wp2
        go_roundw
        case rel => exact ⟨15, by omega, by first | rfl | go_num, Bz2.out⟩
        case measure => simp [intOf]
    · obtain rfl : k = 15 := by omega
      clear hlt hk
      go_wp2_with (first
        | (go_at_call 31; fail))
      refine (pair_any wr).mono ?_
      rintro e we ⟨gse, cse, Afe, cfe, rfl, hHe, hcxe, hcle, hbe⟩
      obtain ⟨be, offe, rfl, _⟩ := hHe.free (by decide)
      have hcle2 : 30 ≤ cfe := hcle
      obtain ⟨ve, hve⟩ : ∃ x, we.alloc (.cells (DumpV.dc pairD (some ⟨gse, 0, none⟩) cse (some ⟨be, offe, none⟩) cfe).toArray 25) = x := ⟨_, rfl⟩
      have Sve := Lib.hid (hve ▸ DSt.start (cf := cfe) hHe hbe)
      have HWve := Lib.hid hve
      clear hve
      have yxe1 : ve.cell? ⟨we.heap.size, 2, none⟩ = some (.slice (some ⟨gse, 0, none⟩) 32 cse) := (Sve.out.blk.cell 2).trans rfl
      have xxe1 : ve.cell? ⟨gse, 26, none⟩ = some (.int .i64 1) := Sve.out.at_ (k := 1) (s := slot1) rfl 9 26 rfl rfl
      have fxe1 : ve.frozen? ⟨gse, 26, none⟩ = false := Sve.out.ice 26
      obtain ⟨xe1, hxe1⟩ : ∃ x, ve.setCell ⟨gse, 26, none⟩ (.int .i64 2) = x := ⟨_, rfl⟩
      have Sxe1 := Lib.hid (show DSt wr xe1 (we.heap.size) xeD1 gse cse (some ⟨be, offe, none⟩) cfe from hxe1 ▸ Sve.out.field (k := 1) (s := slot1) rfl 9 26 rfl (by decide) (.int .i64 2) xeS1 rfl)
      have HWxe1 := Lib.hid hxe1
      clear hxe1
      have yxe2 : xe1.cell? ⟨we.heap.size, 2, none⟩ = some (.slice (some ⟨gse, 0, none⟩) 32 cse) := (Sxe1.out.blk.cell 2).trans rfl
      have xxe2 : xe1.cell? ⟨gse, 30, none⟩ = some (.int .i64 1) := Sxe1.out.at_ (k := 1) (s := xeS1) rfl 13 30 rfl rfl
      have fxe2 : xe1.frozen? ⟨gse, 30, none⟩ = false := Sxe1.out.ice 30
      obtain ⟨xe2, hxe2⟩ : ∃ x, xe1.setCell ⟨gse, 30, none⟩ (.int .i64 2) = x := ⟨_, rfl⟩
      have Sxe2 := Lib.hid (show DSt wr xe2 (we.heap.size) xeD2 gse cse (some ⟨be, offe, none⟩) cfe from hxe2 ▸ Sxe1.out.field (k := 1) (s := xeS1) rfl 13 30 rfl (by decide) (.int .i64 2) xeS2 rfl)
      have HWxe2 := Lib.hid hxe2
      clear hxe2
      have hTe := Sxe2.out.bl
      have hsxe2 := hTe.size
      have Gxe2 := Lib.hid (GR.out.below hTe (by omega))
      have Bxe2 := Lib.hid (BR.out.trans (hTe.mono (by omega)))
      have hcape1 : (1 : Int) ≤ (cfe : Int) := by omega
      have hcape2 : ¬ cfe = 1 := by omega
      have hcape3 : (cfe : Int) ≤ 9223372036854775807 := by omega
      have hgce := (own_cap Sxe2.out.own).1
      clear hHe hcle hcxe hbe hTe
      have HKy1 := Lib.hid (cCheck_any xeD2 (some ⟨gse, 0, none⟩) cse (some ⟨be, offe, none⟩) cfe (len_small (by decide)) (len_small (by decide)) xe2 Sxe2.out.dump)
      rw [chk_xeD2] at HKy1
      go_wp2_with (first
        | ((with_reducible show wpList _ _ _ (Oper.mk none _ _ _ _ _ :: _) _ (World.alloc _ _)); refine wpList_store_new (ty := 25) rfl rfl rfl rfl rfl (dc_one pairD _ _ _ _) dumpInfo ?_; rw [HWve.out])
        | ((with_reducible show wpList _ _ _ _ _ (World.setCell _ _ _)); (first | rw [HWxe1.out] | rw [HWxe2.out]))
        | ((with_reducible show wpList _ _ _ _ _ (World.setRow _ _ _)); (first | rw [HWxe1.out] | rw [HWxe2.out]))
        | ((with_reducible show wpList _ _ _ (Oper.mk (some 127) (Op.load _ _) _ _ _ _ :: _) _ xe2); refine wpList_load_at (ty := 25) rfl rfl rfl Sxe2.out.blk.row HU.out rfl dumpInfo ?_)
        | (go_at_call 9; fail))
      refine HKy1.out.mono ?_
      rintro e y1 ⟨rfl, hby1⟩
      clear HKy1
      have hsy1 := hby1.size
      have Sey1 := Lib.hid (Sxe2.out.below hby1)
      have Gy1 := Lib.hid (Gxe2.out.below hby1 (by omega))
      have By1 := Lib.hid (Bxe2.out.trans (hby1.mono (by omega)))
      clear hby1
      have yxe3 : y1.cell? ⟨we.heap.size, 2, none⟩ = some (.slice (some ⟨gse, 0, none⟩) 32 cse) := (Sey1.out.blk.cell 2).trans rfl
      have xxe3 : y1.cell? ⟨gse, 15, none⟩ = some (.int .i64 9) := Sey1.out.at_ (k := 0) (s := pS5) rfl 15 15 rfl rfl
      have fxe3 : y1.frozen? ⟨gse, 15, none⟩ = false := Sey1.out.ice 15
      obtain ⟨xe3, hxe3⟩ : ∃ x, y1.setCell ⟨gse, 15, none⟩ (.int .i64 999) = x := ⟨_, rfl⟩
      have Sxe3 := Lib.hid (show DSt wr xe3 (we.heap.size) xeD3 gse cse (some ⟨be, offe, none⟩) cfe from hxe3 ▸ Sey1.out.field (k := 0) (s := pS5) rfl 15 15 rfl (by decide) (.int .i64 999) xeS3 rfl)
      have HWxe3 := Lib.hid hxe3
      clear hxe3
      have yxe4 : xe3.cell? ⟨we.heap.size, 2, none⟩ = some (.slice (some ⟨gse, 0, none⟩) 32 cse) := (Sxe3.out.blk.cell 2).trans rfl
      have xxe4 : xe3.cell? ⟨gse, 32, none⟩ = some (.int .i64 9) := Sxe3.out.at_ (k := 1) (s := xeS2) rfl 15 32 rfl rfl
      have fxe4 : xe3.frozen? ⟨gse, 32, none⟩ = false := Sxe3.out.ice 32
      obtain ⟨xe4, hxe4⟩ : ∃ x, xe3.setCell ⟨gse, 32, none⟩ (.int .i64 300) = x := ⟨_, rfl⟩
      have Sxe4 := Lib.hid (show DSt wr xe4 (we.heap.size) xeD4 gse cse (some ⟨be, offe, none⟩) cfe from hxe4 ▸ Sxe3.out.field (k := 1) (s := xeS2) rfl 15 32 rfl (by decide) (.int .i64 300) xeS4 rfl)
      have HWxe4 := Lib.hid hxe4
      clear hxe4
      have hTe2 := Sxe4.out.bl
      have hsxe4 := hTe2.size
      have Gxe4 := Lib.hid (GR.out.below hTe2 (by omega))
      have Bxe4 := Lib.hid (BR.out.trans (hTe2.mono (by omega)))
      clear hTe2
      have HKy2 := Lib.hid (cCheck_any xeD4 (some ⟨gse, 0, none⟩) cse (some ⟨be, offe, none⟩) cfe (len_small (by decide)) (len_small (by decide)) xe4 Sxe4.out.dump)
      rw [chk_xeD4] at HKy2
      go_wp2_with (first
        | ((with_reducible show wpList _ _ _ _ _ (World.setCell _ _ _)); (first | rw [HWxe3.out] | rw [HWxe4.out]))
        | ((with_reducible show wpList _ _ _ _ _ (World.setRow _ _ _)); (first | rw [HWxe3.out] | rw [HWxe4.out]))
        | ((with_reducible show wpList _ _ _ (Oper.mk (some 140) (Op.load _ _) _ _ _ _ :: _) _ xe4); refine wpList_load_at (ty := 25) rfl rfl rfl Sxe4.out.blk.row HU.out rfl dumpInfo ?_)
        | (go_at_call 9; fail))
      refine HKy2.out.mono ?_
      rintro e y2 ⟨rfl, hby2⟩
      clear HKy2
      have hsy2 := hby2.size
      have Sey2 := Lib.hid (Sxe4.out.below hby2)
      have Gy2 := Lib.hid (Gxe4.out.below hby2 (by omega))
      have By2 := Lib.hid (Bxe4.out.trans (hby2.mono (by omega)))
      clear hby2
      have yxe5 : y2.cell? ⟨we.heap.size, 2, none⟩ = some (.slice (some ⟨gse, 0, none⟩) 32 cse) := (Sey2.out.blk.cell 2).trans rfl
      have xxe5 : y2.cell? ⟨gse, 32, none⟩ = some (.int .i64 300) := Sey2.out.at_ (k := 1) (s := xeS4) rfl 15 32 rfl rfl
      have fxe5 : y2.frozen? ⟨gse, 32, none⟩ = false := Sey2.out.ice 32
      obtain ⟨xe5, hxe5⟩ : ∃ x, y2.setCell ⟨gse, 32, none⟩ (.int .i64 301) = x := ⟨_, rfl⟩
      have Sxe5 := Lib.hid (show DSt wr xe5 (we.heap.size) xeD5 gse cse (some ⟨be, offe, none⟩) cfe from hxe5 ▸ Sey2.out.field (k := 1) (s := xeS4) rfl 15 32 rfl (by decide) (.int .i64 301) xeS5 rfl)
      have HWxe5 := Lib.hid hxe5
      clear hxe5
      have hTe3 := Sxe5.out.bl
      have hsxe5 := hTe3.size
      have Gxe5 := Lib.hid (GR.out.below hTe3 (by omega))
      have Bxe5 := Lib.hid (BR.out.trans (hTe3.mono (by omega)))
      clear hTe3
      have HKy3 := Lib.hid (cCheck_any xeD5 (some ⟨gse, 0, none⟩) cse (some ⟨be, offe, none⟩) cfe (len_small (by decide)) (len_small (by decide)) xe5 Sxe5.out.dump)
      rw [chk_xeD5] at HKy3
      go_wp2_with (first
        | ((with_reducible show wpList _ _ _ _ _ (World.setCell _ _ _)); (first | rw [HWxe5.out]))
        | ((with_reducible show wpList _ _ _ _ _ (World.setRow _ _ _)); (first | rw [HWxe5.out]))
        | ((with_reducible show wpList _ _ _ (Oper.mk (some 153) (Op.load _ _) _ _ _ _ :: _) _ xe5); refine wpList_load_at (ty := 25) rfl rfl rfl Sxe5.out.blk.row HU.out rfl dumpInfo ?_)
        | (go_at_call 9; fail))
      refine HKy3.out.mono ?_
      rintro e y3 ⟨rfl, hby3⟩
      clear HKy3
      have hsy3 := hby3.size
      have Sey3 := Lib.hid (Sxe5.out.below hby3)
      have Gy3 := Lib.hid (Gxe5.out.below hby3 (by omega))
      have By3 := Lib.hid (Bxe5.out.trans (hby3.mono (by omega)))
      clear hby3
      go_wp2_with (first
        | (go_at_call 13; fail))
      refine (at_fault 24 1 (by decide) (by decide) y3 Gy3.out).mono ?_
      rintro e y4 ⟨rfl, hby4⟩
      have hsy4 := hby4.size
      have Sey4 := Lib.hid (Sey3.out.below hby4)
      have Gy4 := Lib.hid (Gy3.out.below hby4 (by omega))
      have By4 := Lib.hid (By3.out.trans (hby4.mono (by omega)))
      clear hby4
      go_wp2_with (first
        | (go_at_call 32; fail))
      refine (more_any y4 Gy4.out).mono ?_
      rintro e y5 ⟨rfl, hby5⟩
      have hsy5 := hby5.size
      have Gy5 := Lib.hid (Gy4.out.below hby5 (by omega))
      have By5 := Lib.hid (By4.out.trans (hby5.mono (by omega)))
      clear hby5
      go_wp2
      go_ret
      exact ⟨rfl, By5.out⟩
end Go.Proofs.YtahcedpfnechfaaDoor
