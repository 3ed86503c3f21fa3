/-
  lineagelaw29: more.
-/
import Derived.Test.YtahcedpfnechfaaDoorAudQ
namespace Go.Proofs.YtahcedpfnechfaaDoor
set_option maxRecDepth 100000
open Go.RowKit Go.Sort

def slot2 : SlotV := ⟨true, true, -1, 2, 2, 2, 2, 0, 0, 0, ByteArray.empty, ByteArray.empty, 0, 0, 0, 0, 0⟩
def xaD1 : DumpV := { pairD with births := 3 }
def xaS2 : SlotV := { pS5 with birth := 3 }
def xaD2 : DumpV := { xaD1 with slots := xaD1.slots.set 0 xaS2 }
def xaS3 : SlotV := { slot1 with upBirth := 3 }
def xaD3 : DumpV := { xaD2 with slots := xaD2.slots.set 1 xaS3 }
def xbS1 : SlotV := { pS5 with scopes := 6 }
def xbD1 : DumpV := { pairD with slots := pairD.slots.set 0 xbS1 }
def xbS2 : SlotV := { slot1 with scopes := 1 }
def xbD2 : DumpV := { xbD1 with slots := xbD1.slots.set 1 xbS2 }
def xcS1 : SlotV := { pS5 with level := 0 }
def xcD1 : DumpV := { pairD with slots := pairD.slots.set 0 xcS1 }
def xcS2 : SlotV := { slot1 with level := 2 }
def xcD2 : DumpV := { xcD1 with slots := xcD1.slots.set 1 xcS2 }
def xdD1 : DumpV := { pairD with free := pairD.free.tail }
def xdD2 : DumpV := { xdD1 with slots := xdD1.slots.set 2 slot2 }
def xdD3 : DumpV := { xdD2 with garbage := 2 }
theorem chk_xdD3 : checkV xdD3 = faultV 24 2 := by kernel_rfl
def xdS4 : SlotV := { slot2 with birth := 9 }
def xdD4 : DumpV := { xdD3 with slots := xdD3.slots.set 2 xdS4 }
theorem chk_xaD3 : checkV xaD3 = faultV 24 1 := by kernel_rfl
theorem chk_xbD2 : checkV xbD2 = faultV 24 1 := by kernel_rfl
theorem chk_xcD2 : checkV xcD2 = faultV 24 1 := by kernel_rfl
theorem chk_xdD4 : checkV xdD4 = .nilIface := by kernel_rfl
theorem prt_xdD4 : partsX xdD4 = (2, 1, 29) := by kernel_rfl
set_option maxHeartbeats 16000000 in
theorem more_any (w : World) (hg : Laid w) : Calls Tryd.prog 32 #[] w (RetB (.bool true) w) := by
  have HU := Lib.hid Tryd.underlying25
  have hpos := hg.pos
  have HG := Lib.hid hg
  have hc01 : (1 : Int) < 32 := by decide
  have hc02 : (2 : Int) < 32 := by decide
  clear hg
  go_enter Tryd.func32, Tryd.ntmps32
  go_wp2_with (first
    | (go_at_call 31; fail))
  refine (pair_any w).mono ?_
  rintro e wa ⟨gsa, csa, Afa, cfa, rfl, hHa, hcxa, hcla, hba⟩
  obtain ⟨ba, offa, rfl, _⟩ := hHa.free (by decide)
  have hcla2 : 30 ≤ cfa := hcla
  obtain ⟨va, hva⟩ : ∃ x, wa.alloc (.cells (DumpV.dc pairD (some ⟨gsa, 0, none⟩) csa (some ⟨ba, offa, none⟩) cfa).toArray 25) = x := ⟨_, rfl⟩
  have Sva := Lib.hid (hva ▸ DSt.start (cf := cfa) hHa hba)
  have HWva := Lib.hid hva
  clear hva
  have xxa1 : va.cell? ⟨wa.heap.size, 1, none⟩ = some (.int .i64 2) := (Sva.out.blk.cell 1).trans rfl
  have fxa1 : va.frozen? ⟨wa.heap.size, 1, none⟩ = false := Sva.out.blk.frozen 1
  obtain ⟨xa1, hxa1⟩ : ∃ x, va.setCell ⟨wa.heap.size, 1, none⟩ (.int .i64 3) = x := ⟨_, rfl⟩
  have Sxa1 := Lib.hid (show DSt w xa1 (wa.heap.size) xaD1 gsa csa (some ⟨ba, offa, none⟩) cfa from hxa1 ▸ Sva.out.births 3)
  have HWxa1 := Lib.hid hxa1
  clear hxa1
  have yxa2 : xa1.cell? ⟨wa.heap.size, 2, none⟩ = some (.slice (some ⟨gsa, 0, none⟩) 32 csa) := (Sxa1.out.blk.cell 2).trans rfl
  have xxa2 : xa1.cell? ⟨gsa, 6, none⟩ = some (.int .i64 1) := Sxa1.out.at_ (k := 0) (s := pS5) rfl 6 6 rfl rfl
  have fxa2 : xa1.frozen? ⟨gsa, 6, none⟩ = false := Sxa1.out.ice 6
  obtain ⟨xa2, hxa2⟩ : ∃ x, xa1.setCell ⟨gsa, 6, none⟩ (.int .i64 3) = x := ⟨_, rfl⟩
  have Sxa2 := Lib.hid (show DSt w xa2 (wa.heap.size) xaD2 gsa csa (some ⟨ba, offa, none⟩) cfa from hxa2 ▸ Sxa1.out.field (k := 0) (s := pS5) rfl 6 6 rfl (by decide) (.int .i64 3) xaS2 rfl)
  have HWxa2 := Lib.hid hxa2
  clear hxa2
  have yxa3 : xa2.cell? ⟨wa.heap.size, 2, none⟩ = some (.slice (some ⟨gsa, 0, none⟩) 32 csa) := (Sxa2.out.blk.cell 2).trans rfl
  have xxa3 : xa2.cell? ⟨gsa, 25, none⟩ = some (.int .i64 1) := Sxa2.out.at_ (k := 1) (s := slot1) rfl 8 25 rfl rfl
  have fxa3 : xa2.frozen? ⟨gsa, 25, none⟩ = false := Sxa2.out.ice 25
  obtain ⟨xa3, hxa3⟩ : ∃ x, xa2.setCell ⟨gsa, 25, none⟩ (.int .i64 3) = x := ⟨_, rfl⟩
  have Sxa3 := Lib.hid (show DSt w xa3 (wa.heap.size) xaD3 gsa csa (some ⟨ba, offa, none⟩) cfa from hxa3 ▸ Sxa2.out.field (k := 1) (s := slot1) rfl 8 25 rfl (by decide) (.int .i64 3) xaS3 rfl)
  have HWxa3 := Lib.hid hxa3
  clear hxa3
  have hTa := Sxa3.out.bl
  have hsxa3 := hTa.size
  have Gxa3 := Lib.hid (HG.out.below hTa (by omega))
  have Bxa3 := Lib.hid hTa
  have hcapa1 : (1 : Int) ≤ (cfa : Int) := by omega
  have hcapa2 : ¬ cfa = 1 := by omega
  have hcapa3 : (cfa : Int) ≤ 9223372036854775807 := by omega
  have hgca := (own_cap Sxa3.out.own).1
  clear hHa hcla hcxa hba hTa
  go_wp2_with (first
    | ((with_reducible show wpList _ _ _ (Oper.mk none _ _ _ _ _ :: _) _ (World.alloc _ _)); refine wpList_store_new (ty := 25) rfl rfl rfl rfl rfl (dc_one pairD _ _ _ _) dumpInfo ?_; rw [HWva.out])
    | ((with_reducible show wpList _ _ _ _ _ (World.setCell _ _ _)); (first | rw [HWxa1.out] | rw [HWxa2.out] | rw [HWxa3.out]))
    | ((with_reducible show wpList _ _ _ _ _ (World.setRow _ _ _)); (first | rw [HWxa1.out] | rw [HWxa2.out] | rw [HWxa3.out]))
    | (go_at_call 31; fail))
  refine (pair_any xa3).mono ?_
  rintro e wb ⟨gsb, csb, Afb, cfb, rfl, hHb, hcxb, hclb, hbb⟩
  obtain ⟨bb, offb, rfl, _⟩ := hHb.free (by decide)
  have hclb2 : 30 ≤ cfb := hclb
  obtain ⟨vb, hvb⟩ : ∃ x, wb.alloc (.cells (DumpV.dc pairD (some ⟨gsb, 0, none⟩) csb (some ⟨bb, offb, none⟩) cfb).toArray 25) = x := ⟨_, rfl⟩
  have Svb := Lib.hid (hvb ▸ DSt.start (cf := cfb) hHb hbb)
  have HWvb := Lib.hid hvb
  clear hvb
  have yxb1 : vb.cell? ⟨wb.heap.size, 2, none⟩ = some (.slice (some ⟨gsb, 0, none⟩) 32 csb) := (Svb.out.blk.cell 2).trans rfl
  have xxb1 : vb.cell? ⟨gsb, 12, none⟩ = some (.int .u64 7) := Svb.out.at_ (k := 0) (s := pS5) rfl 12 12 rfl rfl
  have fxb1 : vb.frozen? ⟨gsb, 12, none⟩ = false := Svb.out.ice 12
  obtain ⟨xb1, hxb1⟩ : ∃ x, vb.setCell ⟨gsb, 12, none⟩ (.int .u64 6) = x := ⟨_, rfl⟩
  have Sxb1 := Lib.hid (show DSt xa3 xb1 (wb.heap.size) xbD1 gsb csb (some ⟨bb, offb, none⟩) cfb from hxb1 ▸ Svb.out.field (k := 0) (s := pS5) rfl 12 12 rfl (by decide) (.int .u64 6) xbS1 rfl)
  have HWxb1 := Lib.hid hxb1
  clear hxb1
  have yxb2 : xb1.cell? ⟨wb.heap.size, 2, none⟩ = some (.slice (some ⟨gsb, 0, none⟩) 32 csb) := (Sxb1.out.blk.cell 2).trans rfl
  have xxb2 : xb1.cell? ⟨gsb, 29, none⟩ = some (.int .u64 5) := Sxb1.out.at_ (k := 1) (s := slot1) rfl 12 29 rfl rfl
  have fxb2 : xb1.frozen? ⟨gsb, 29, none⟩ = false := Sxb1.out.ice 29
  obtain ⟨xb2, hxb2⟩ : ∃ x, xb1.setCell ⟨gsb, 29, none⟩ (.int .u64 1) = x := ⟨_, rfl⟩
  have Sxb2 := Lib.hid (show DSt xa3 xb2 (wb.heap.size) xbD2 gsb csb (some ⟨bb, offb, none⟩) cfb from hxb2 ▸ Sxb1.out.field (k := 1) (s := slot1) rfl 12 29 rfl (by decide) (.int .u64 1) xbS2 rfl)
  have HWxb2 := Lib.hid hxb2
  clear hxb2
  have hTb := Sxb2.out.bl
  have hsxb2 := hTb.size
  have Saxb2 := Lib.hid (Sxa3.out.below hTb)
  have Gxb2 := Lib.hid (Gxa3.out.below hTb (by omega))
  have Bxb2 := Lib.hid (Bxa3.out.trans (hTb.mono (by omega)))
  have hcapb1 : (1 : Int) ≤ (cfb : Int) := by omega
  have hcapb2 : ¬ cfb = 1 := by omega
  have hcapb3 : (cfb : Int) ≤ 9223372036854775807 := by omega
  have hgcb := (own_cap Sxb2.out.own).1
  clear hHb hclb hcxb hbb hTb
  go_wp2_with (first
    | ((with_reducible show wpList _ _ _ (Oper.mk none _ _ _ _ _ :: _) _ (World.alloc _ _)); refine wpList_store_new (ty := 25) rfl rfl rfl rfl rfl (dc_one pairD _ _ _ _) dumpInfo ?_; rw [HWvb.out])
    | ((with_reducible show wpList _ _ _ _ _ (World.setCell _ _ _)); (first | rw [HWxb1.out] | rw [HWxb2.out]))
    | ((with_reducible show wpList _ _ _ _ _ (World.setRow _ _ _)); (first | rw [HWxb1.out] | rw [HWxb2.out]))
    | (go_at_call 31; fail))
  refine (pair_any xb2).mono ?_
  rintro e wc ⟨gsc, csc, Afc, cfc, rfl, hHc, hcxc, hclc, hbc⟩
  obtain ⟨bc, offc, rfl, _⟩ := hHc.free (by decide)
  have hclc2 : 30 ≤ cfc := hclc
  obtain ⟨vc, hvc⟩ : ∃ x, wc.alloc (.cells (DumpV.dc pairD (some ⟨gsc, 0, none⟩) csc (some ⟨bc, offc, none⟩) cfc).toArray 25) = x := ⟨_, rfl⟩
  have Svc := Lib.hid (hvc ▸ DSt.start (cf := cfc) hHc hbc)
  have HWvc := Lib.hid hvc
  clear hvc
  have yxc1 : vc.cell? ⟨wc.heap.size, 2, none⟩ = some (.slice (some ⟨gsc, 0, none⟩) 32 csc) := (Svc.out.blk.cell 2).trans rfl
  have xxc1 : vc.cell? ⟨gsc, 13, none⟩ = some (.int .i64 1) := Svc.out.at_ (k := 0) (s := pS5) rfl 13 13 rfl rfl
  have fxc1 : vc.frozen? ⟨gsc, 13, none⟩ = false := Svc.out.ice 13
  obtain ⟨xc1, hxc1⟩ : ∃ x, vc.setCell ⟨gsc, 13, none⟩ (.int .i64 0) = x := ⟨_, rfl⟩
  have Sxc1 := Lib.hid (show DSt xb2 xc1 (wc.heap.size) xcD1 gsc csc (some ⟨bc, offc, none⟩) cfc from hxc1 ▸ Svc.out.field (k := 0) (s := pS5) rfl 13 13 rfl (by decide) (.int .i64 0) xcS1 rfl)
  have HWxc1 := Lib.hid hxc1
  clear hxc1
  have yxc2 : xc1.cell? ⟨wc.heap.size, 2, none⟩ = some (.slice (some ⟨gsc, 0, none⟩) 32 csc) := (Sxc1.out.blk.cell 2).trans rfl
  have xxc2 : xc1.cell? ⟨gsc, 30, none⟩ = some (.int .i64 1) := Sxc1.out.at_ (k := 1) (s := slot1) rfl 13 30 rfl rfl
  have fxc2 : xc1.frozen? ⟨gsc, 30, none⟩ = false := Sxc1.out.ice 30
  obtain ⟨xc2, hxc2⟩ : ∃ x, xc1.setCell ⟨gsc, 30, none⟩ (.int .i64 2) = x := ⟨_, rfl⟩
  have Sxc2 := Lib.hid (show DSt xb2 xc2 (wc.heap.size) xcD2 gsc csc (some ⟨bc, offc, none⟩) cfc from hxc2 ▸ Sxc1.out.field (k := 1) (s := slot1) rfl 13 30 rfl (by decide) (.int .i64 2) xcS2 rfl)
  have HWxc2 := Lib.hid hxc2
  clear hxc2
  have hTc := Sxc2.out.bl
  have hsxc2 := hTc.size
  have Saxc2 := Lib.hid (Saxb2.out.below hTc)
  have Sbxc2 := Lib.hid (Sxb2.out.below hTc)
  have Gxc2 := Lib.hid (Gxb2.out.below hTc (by omega))
  have Bxc2 := Lib.hid (Bxb2.out.trans (hTc.mono (by omega)))
  have hcapc1 : (1 : Int) ≤ (cfc : Int) := by omega
  have hcapc2 : ¬ cfc = 1 := by omega
  have hcapc3 : (cfc : Int) ≤ 9223372036854775807 := by omega
  have hgcc := (own_cap Sxc2.out.own).1
  clear hHc hclc hcxc hbc hTc
  go_wp2_with (first
    | ((with_reducible show wpList _ _ _ (Oper.mk none _ _ _ _ _ :: _) _ (World.alloc _ _)); refine wpList_store_new (ty := 25) rfl rfl rfl rfl rfl (dc_one pairD _ _ _ _) dumpInfo ?_; rw [HWvc.out])
    | ((with_reducible show wpList _ _ _ _ _ (World.setCell _ _ _)); (first | rw [HWxc1.out] | rw [HWxc2.out]))
    | ((with_reducible show wpList _ _ _ _ _ (World.setRow _ _ _)); (first | rw [HWxc1.out] | rw [HWxc2.out]))
    | (go_at_call 31; fail))
  refine (pair_any xc2).mono ?_
  rintro e wd ⟨gsd, csd, Afd, cfd, rfl, hHd, hcxd, hcld, hbd⟩
  obtain ⟨bd, offd, rfl, _⟩ := hHd.free (by decide)
  have hcld2 : 30 ≤ cfd := hcld
  obtain ⟨vd, hvd⟩ : ∃ x, wd.alloc (.cells (DumpV.dc pairD (some ⟨gsd, 0, none⟩) csd (some ⟨bd, offd, none⟩) cfd).toArray 25) = x := ⟨_, rfl⟩
  have Svd := Lib.hid (hvd ▸ DSt.start (cf := cfd) hHd hbd)
  have HWvd := Lib.hid hvd
  clear hvd
  have xxd1 : vd.cell? ⟨wd.heap.size, 3, none⟩ = some (.slice (some ⟨bd, offd, none⟩) 30 cfd) := (Svd.out.blk.cell 3).trans rfl
  have fxd1 : vd.frozen? ⟨wd.heap.size, 3, none⟩ = false := Svd.out.blk.frozen 3
  obtain ⟨xd1, hxd1⟩ : ∃ x, vd.setCell ⟨wd.heap.size, 3, none⟩ (.slice (some ⟨bd, offd + 1, none⟩) 29 (cfd - 1)) = x := ⟨_, rfl⟩
  have Sxd1 := Lib.hid (show DSt xc2 xd1 (wd.heap.size) xdD1 gsd csd (some ⟨bd, offd + 1, none⟩) (cfd - 1) from hxd1 ▸ Svd.out.tail 29 (cfd - 1) rfl)
  have HWxd1 := Lib.hid hxd1
  clear hxd1
  have xxd2 : xd1.cell? ⟨wd.heap.size, 2, none⟩ = some (.slice (some ⟨gsd, 0, none⟩) 32 csd) := (Sxd1.out.blk.cell 2).trans rfl
  obtain ⟨cxd2, hBxd2, hfitxd2, hSxd2⟩ := Sxd1.out.slot 2 34 rfl (by decide) slot2
  have HBxd2 := Lib.hid hBxd2
  have HFxd2 := Lib.hid hfitxd2
  obtain ⟨xd2, hxd2⟩ : ∃ x, xd1.setRow gsd (splice cxd2 34 (SlotV.cells slot2)) = x := ⟨_, rfl⟩
  have Sxd2 := Lib.hid (show DSt xc2 xd2 (wd.heap.size) xdD2 gsd csd (some ⟨bd, offd + 1, none⟩) (cfd - 1) from hxd2 ▸ hSxd2)
  have HWxd2 := Lib.hid hxd2
  clear hxd2
  have xxd3 : xd2.cell? ⟨wd.heap.size, 4, none⟩ = some (.int .i64 (-1)) := (Sxd2.out.blk.cell 4).trans rfl
  have fxd3 : xd2.frozen? ⟨wd.heap.size, 4, none⟩ = false := Sxd2.out.blk.frozen 4
  obtain ⟨xd3, hxd3⟩ : ∃ x, xd2.setCell ⟨wd.heap.size, 4, none⟩ (.int .i64 2) = x := ⟨_, rfl⟩
  have Sxd3 := Lib.hid (show DSt xc2 xd3 (wd.heap.size) xdD3 gsd csd (some ⟨bd, offd + 1, none⟩) (cfd - 1) from hxd3 ▸ Sxd2.out.garbage 2)
  have HWxd3 := Lib.hid hxd3
  clear hxd3
  clear hBxd2 hfitxd2 hSxd2
  have hTd := Sxd3.out.bl
  have hsxd3 := hTd.size
  have Saxd3 := Lib.hid (Saxc2.out.below hTd)
  have Sbxd3 := Lib.hid (Sbxc2.out.below hTd)
  have Scxd3 := Lib.hid (Sxc2.out.below hTd)
  have Gxd3 := Lib.hid (Gxc2.out.below hTd (by omega))
  have Bxd3 := Lib.hid (Bxc2.out.trans (hTd.mono (by omega)))
  have hcapd1 : (1 : Int) ≤ (cfd : Int) := by omega
  have hcapd2 : ¬ cfd = 1 := by omega
  have hcapd3 : (cfd : Int) ≤ 9223372036854775807 := by omega
  have hgcd := (own_cap Sxd3.out.own).1
  clear hHd hcld hcxd hbd hTd
  have HKw1 := Lib.hid (cCheck_any xdD3 (some ⟨gsd, 0, none⟩) csd (some ⟨bd, offd + 1, none⟩) (cfd - 1) (len_small (by decide)) (len_small (by decide)) xd3 Sxd3.out.dump)
  rw [chk_xdD3] at HKw1
  go_wp2_with (first
    | ((with_reducible show wpList _ _ _ (Oper.mk none _ _ _ _ _ :: _) _ (World.alloc _ _)); refine wpList_store_new (ty := 25) rfl rfl rfl rfl rfl (dc_one pairD _ _ _ _) dumpInfo ?_; rw [HWvd.out])
    | ((with_reducible show wpList _ _ _ (Oper.mk none _ _ _ _ _ :: _) _ xd1); refine wpList_store_at (t := 49) (vs := SlotV.cells slot2) rfl rfl rfl rfl HBxd2.out HFxd2.out (SlotV.one _) slotInfo ?_)
    | ((with_reducible show wpList _ _ _ _ _ (World.setCell _ _ _)); (first | rw [HWxd1.out] | rw [HWxd2.out] | rw [HWxd3.out]))
    | ((with_reducible show wpList _ _ _ _ _ (World.setRow _ _ _)); (first | rw [HWxd1.out] | rw [HWxd2.out] | rw [HWxd3.out]))
    | ((with_reducible show wpList _ _ _ (Oper.mk (some 52) (Op.load _ _) _ _ _ _ :: _) _ xd3); refine wpList_load_at (ty := 25) rfl rfl rfl Sxd3.out.blk.row HU.out rfl dumpInfo ?_)
    | (go_at_call 9; fail))
  refine HKw1.out.mono ?_
  rintro e w1 ⟨rfl, hbw1⟩
  clear HKw1
  have hsw1 := hbw1.size
  have Saw1 := Lib.hid (Saxd3.out.below hbw1)
  have Sbw1 := Lib.hid (Sbxd3.out.below hbw1)
  have Scw1 := Lib.hid (Scxd3.out.below hbw1)
  have Sdw1 := Lib.hid (Sxd3.out.below hbw1)
  have Gw1 := Lib.hid (Gxd3.out.below hbw1 (by omega))
  have Bw1 := Lib.hid (Bxd3.out.trans (hbw1.mono (by omega)))
  clear hbw1
  have yxd4 : w1.cell? ⟨wd.heap.size, 2, none⟩ = some (.slice (some ⟨gsd, 0, none⟩) 32 csd) := (Sdw1.out.blk.cell 2).trans rfl
  have xxd4 : w1.cell? ⟨gsd, 40, none⟩ = some (.int .i64 2) := Sdw1.out.at_ (k := 2) (s := slot2) rfl 6 40 rfl rfl
  have fxd4 : w1.frozen? ⟨gsd, 40, none⟩ = false := Sdw1.out.ice 40
  obtain ⟨xd4, hxd4⟩ : ∃ x, w1.setCell ⟨gsd, 40, none⟩ (.int .i64 9) = x := ⟨_, rfl⟩
  have Sxd4 := Lib.hid (show DSt xc2 xd4 (wd.heap.size) xdD4 gsd csd (some ⟨bd, offd + 1, none⟩) (cfd - 1) from hxd4 ▸ Sdw1.out.field (k := 2) (s := slot2) rfl 6 40 rfl (by decide) (.int .i64 9) xdS4 rfl)
  have HWxd4 := Lib.hid hxd4
  clear hxd4
  have hT2 := Sxd4.out.bl
  have hsxd4 := hT2.size
  have Saxd4 := Lib.hid (Saxc2.out.below hT2)
  have Sbxd4 := Lib.hid (Sbxc2.out.below hT2)
  have Scxd4 := Lib.hid (Sxc2.out.below hT2)
  have Gxd4 := Lib.hid (Gxc2.out.below hT2 (by omega))
  have Bxd4 := Lib.hid (Bxc2.out.trans (hT2.mono (by omega)))
  clear hT2
  have HKw2 := Lib.hid (cCheck_any xaD3 (some ⟨gsa, 0, none⟩) csa (some ⟨ba, offa, none⟩) cfa (len_small (by decide)) (len_small (by decide)) xd4 Saxd4.out.dump)
  rw [chk_xaD3] at HKw2
  go_wp2_with (first
    | ((with_reducible show wpList _ _ _ _ _ (World.setCell _ _ _)); (first | rw [HWxd4.out]))
    | ((with_reducible show wpList _ _ _ _ _ (World.setRow _ _ _)); (first | rw [HWxd4.out]))
    | ((with_reducible show wpList _ _ _ (Oper.mk (some 59) (Op.load _ _) _ _ _ _ :: _) _ xd4); refine wpList_load_at (ty := 25) rfl rfl rfl Saxd4.out.blk.row HU.out rfl dumpInfo ?_)
    | (go_at_call 9; fail))
  refine HKw2.out.mono ?_
  rintro e w2 ⟨rfl, hbw2⟩
  clear HKw2
  have hsw2 := hbw2.size
  have Saw2 := Lib.hid (Saxd4.out.below hbw2)
  have Sbw2 := Lib.hid (Sbxd4.out.below hbw2)
  have Scw2 := Lib.hid (Scxd4.out.below hbw2)
  have Sdw2 := Lib.hid (Sxd4.out.below hbw2)
  have Gw2 := Lib.hid (Gxd4.out.below hbw2 (by omega))
  have Bw2 := Lib.hid (Bxd4.out.trans (hbw2.mono (by omega)))
  clear hbw2
  go_wp2_with (first
    | (go_at_call 13; fail))
  refine (at_fault 24 1 (by decide) (by decide) w2 Gw2.out).mono ?_
  rintro e w3 ⟨rfl, hbw3⟩
  have hsw3 := hbw3.size
  have Saw3 := Lib.hid (Saw2.out.below hbw3)
  have Sbw3 := Lib.hid (Sbw2.out.below hbw3)
  have Scw3 := Lib.hid (Scw2.out.below hbw3)
  have Sdw3 := Lib.hid (Sdw2.out.below hbw3)
  have Gw3 := Lib.hid (Gw2.out.below hbw3 (by omega))
  have Bw3 := Lib.hid (Bw2.out.trans (hbw3.mono (by omega)))
  clear hbw3
  have HKw4 := Lib.hid (cCheck_any xbD2 (some ⟨gsb, 0, none⟩) csb (some ⟨bb, offb, none⟩) cfb (len_small (by decide)) (len_small (by decide)) w3 Sbw3.out.dump)
  rw [chk_xbD2] at HKw4
  go_wp2_with (first
    | ((with_reducible show wpList _ _ _ (Oper.mk (some 63) (Op.load _ _) _ _ _ _ :: _) _ w3); refine wpList_load_at (ty := 25) rfl rfl rfl Sbw3.out.blk.row HU.out rfl dumpInfo ?_)
    | (go_at_call 9; fail))
  refine HKw4.out.mono ?_
  rintro e w4 ⟨rfl, hbw4⟩
  clear HKw4
  have hsw4 := hbw4.size
  have Saw4 := Lib.hid (Saw3.out.below hbw4)
  have Sbw4 := Lib.hid (Sbw3.out.below hbw4)
  have Scw4 := Lib.hid (Scw3.out.below hbw4)
  have Sdw4 := Lib.hid (Sdw3.out.below hbw4)
  have Gw4 := Lib.hid (Gw3.out.below hbw4 (by omega))
  have Bw4 := Lib.hid (Bw3.out.trans (hbw4.mono (by omega)))
  clear hbw4
  go_wp2_with (first
    | (go_at_call 13; fail))
  refine (at_fault 24 1 (by decide) (by decide) w4 Gw4.out).mono ?_
  rintro e w5 ⟨rfl, hbw5⟩
  have hsw5 := hbw5.size
  have Saw5 := Lib.hid (Saw4.out.below hbw5)
  have Sbw5 := Lib.hid (Sbw4.out.below hbw5)
  have Scw5 := Lib.hid (Scw4.out.below hbw5)
  have Sdw5 := Lib.hid (Sdw4.out.below hbw5)
  have Gw5 := Lib.hid (Gw4.out.below hbw5 (by omega))
  have Bw5 := Lib.hid (Bw4.out.trans (hbw5.mono (by omega)))
  clear hbw5
  have HKw6 := Lib.hid (cCheck_any xcD2 (some ⟨gsc, 0, none⟩) csc (some ⟨bc, offc, none⟩) cfc (len_small (by decide)) (len_small (by decide)) w5 Scw5.out.dump)
  rw [chk_xcD2] at HKw6
  go_wp2_with (first
    | ((with_reducible show wpList _ _ _ (Oper.mk (some 68) (Op.load _ _) _ _ _ _ :: _) _ w5); refine wpList_load_at (ty := 25) rfl rfl rfl Scw5.out.blk.row HU.out rfl dumpInfo ?_)
    | (go_at_call 9; fail))
  refine HKw6.out.mono ?_
  rintro e w6 ⟨rfl, hbw6⟩
  clear HKw6
  have hsw6 := hbw6.size
  have Saw6 := Lib.hid (Saw5.out.below hbw6)
  have Sbw6 := Lib.hid (Sbw5.out.below hbw6)
  have Scw6 := Lib.hid (Scw5.out.below hbw6)
  have Sdw6 := Lib.hid (Sdw5.out.below hbw6)
  have Gw6 := Lib.hid (Gw5.out.below hbw6 (by omega))
  have Bw6 := Lib.hid (Bw5.out.trans (hbw6.mono (by omega)))
  clear hbw6
  go_wp2_with (first
    | (go_at_call 13; fail))
  refine (at_fault 24 1 (by decide) (by decide) w6 Gw6.out).mono ?_
  rintro e w7 ⟨rfl, hbw7⟩
  have hsw7 := hbw7.size
  have Saw7 := Lib.hid (Saw6.out.below hbw7)
  have Sbw7 := Lib.hid (Sbw6.out.below hbw7)
  have Scw7 := Lib.hid (Scw6.out.below hbw7)
  have Sdw7 := Lib.hid (Sdw6.out.below hbw7)
  have Gw7 := Lib.hid (Gw6.out.below hbw7 (by omega))
  have Bw7 := Lib.hid (Bw6.out.trans (hbw7.mono (by omega)))
  clear hbw7
  go_wp2_with (first
    | (go_at_call 13; fail))
  refine (at_fault 24 2 (by decide) (by decide) w7 Gw7.out).mono ?_
  rintro e w8 ⟨rfl, hbw8⟩
  have hsw8 := hbw8.size
  have Saw8 := Lib.hid (Saw7.out.below hbw8)
  have Sbw8 := Lib.hid (Sbw7.out.below hbw8)
  have Scw8 := Lib.hid (Scw7.out.below hbw8)
  have Sdw8 := Lib.hid (Sdw7.out.below hbw8)
  have Gw8 := Lib.hid (Gw7.out.below hbw8 (by omega))
  have Bw8 := Lib.hid (Bw7.out.trans (hbw8.mono (by omega)))
  clear hbw8
  have HKw9 := Lib.hid (cCheck_any xdD4 (some ⟨gsd, 0, none⟩) csd (some ⟨bd, offd + 1, none⟩) (cfd - 1) (len_small (by decide)) (len_small (by decide)) w8 Sdw8.out.dump)
  rw [chk_xdD4] at HKw9
  go_wp2_with (first
    | ((with_reducible show wpList _ _ _ (Oper.mk (some 77) (Op.load _ _) _ _ _ _ :: _) _ w8); refine wpList_load_at (ty := 25) rfl rfl rfl Sdw8.out.blk.row HU.out rfl dumpInfo ?_)
    | (go_at_call 9; fail))
  refine HKw9.out.mono ?_
  rintro e w9 ⟨rfl, hbw9⟩
  clear HKw9
  have hsw9 := hbw9.size
  have Saw9 := Lib.hid (Saw8.out.below hbw9)
  have Sbw9 := Lib.hid (Sbw8.out.below hbw9)
  have Scw9 := Lib.hid (Scw8.out.below hbw9)
  have Sdw9 := Lib.hid (Sdw8.out.below hbw9)
  have Gw9 := Lib.hid (Gw8.out.below hbw9 (by omega))
  have Bw9 := Lib.hid (Bw8.out.trans (hbw9.mono (by omega)))
  clear hbw9
  have HPw10 := Lib.hid (parts_any xdD4 (some ⟨gsd, 0, none⟩) csd (some ⟨bd, offd + 1, none⟩) (cfd - 1) 2 1 29 prt_xdD4 (len_small (by decide)) (len_small (by decide)) w9 Sdw9.out.dump)
  go_wp2_with (first
    | ((with_reducible show wpList _ _ _ (Oper.mk (some 82) (Op.load _ _) _ _ _ _ :: _) _ w9); refine wpList_load_at (ty := 25) rfl rfl rfl Sdw9.out.blk.row HU.out rfl dumpInfo ?_)
    | (go_at_call 16; fail))
  refine HPw10.out.mono ?_
  rintro e w10 ⟨rfl, hbw10⟩
  clear HPw10
  have hsw10 := hbw10.size
  have Saw10 := Lib.hid (Saw9.out.below hbw10)
  have Sbw10 := Lib.hid (Sbw9.out.below hbw10)
  have Scw10 := Lib.hid (Scw9.out.below hbw10)
  have Sdw10 := Lib.hid (Sdw9.out.below hbw10)
  have Gw10 := Lib.hid (Gw9.out.below hbw10 (by omega))
  have Bw10 := Lib.hid (Bw9.out.trans (hbw10.mono (by omega)))
  clear hbw10
  go_wp2
  go_ret
  exact ⟨rfl, Bw10.out⟩
end Go.Proofs.YtahcedpfnechfaaDoor
