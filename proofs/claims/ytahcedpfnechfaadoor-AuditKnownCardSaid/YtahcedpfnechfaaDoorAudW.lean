/-
  lineagelaw29: parts, works.
-/
import Derived.Test.YtahcedpfnechfaaDoorAudO2
namespace Go.Proofs.YtahcedpfnechfaaDoor
set_option maxRecDepth 100000
open Go.RowKit Go.Sort

set_option maxHeartbeats 2000000 in
theorem parts_any (d : DumpV) (As : Option Addr) (cs : Nat) (Af : Option Addr) (cf : Nat) (x y z : Int) (hp : partsX d = (x, y, z)) (hsm : d.slots.length ≤ maxLen) (hnm : d.free.length ≤ maxLen) (w : World) (h : DumpIn w d As Af) :
    Calls Tryd.prog 16 #[.agg (DumpV.dc d As cs Af cf).toArray, .int .i64 x, .int .i64 y, .int .i64 z] w (RetB (.bool true) w) := by
  have HU := Lib.hid Tryd.underlying25
  obtain ⟨DC, hDC⟩ : ∃ DC, (DumpV.dc d As cs Af cf).toArray = DC := ⟨_, rfl⟩
  have HDI := Lib.hid (show (Tryd.prog.info? 25).map (·.size) = some DC.size by rw [← hDC]; exact dumpInfo)
  have HCP := Lib.hid fun w h => cParts_any d As cs Af cf hsm hnm w h
  rw [hDC, hp] at HCP
  rw [hDC]
  obtain ⟨v1, hv1⟩ : ∃ v1, w.alloc (.cells DC 25) = v1 := ⟨_, rfl⟩
  have hb1 : Below w.heap.size w v1 := by rw [← hv1]; exact (Below.refl _ _).alloc (Nat.le_refl _) _
  have hs1 := hb1.size
  have HB1 := Lib.hid hb1
  have D1 := Lib.hid (h.below hb1)
  have R1 := Lib.hid (show Blk v1 w.heap.size 25 DC by rw [← hv1]; exact Blk.new _ _ _)
  have HV1 := Lib.hid hv1
  clear hv1 hb1 h hDC hsm hnm
  go_enter Tryd.func16, Tryd.ntmps16
  go_wp2_with (first
    | ((with_reducible show wpList _ _ _ (Oper.mk (some 13) (Op.load _ _) _ _ _ _ :: _) _ _); rw [HV1.out]; refine wpList_load_at (ty := 25) rfl rfl rfl R1.out.row HU.out rfl HDI.out ?_)
    | (go_at_call 10; fail))
  refine (HCP.out v1 D1.out).mono ?_
  rintro e w2 ⟨rfl, hb2⟩
  have HB2 := Lib.hid (HB1.out.trans (hb2.mono hs1))
  clear hb2
  go_wp2
  go_ret
  exact ⟨rfl, HB2.out⟩
def slot0d : SlotV := { slot0 with dead := true }
theorem check_empty : checkV emptyD = .nilIface := by kernel_rfl
theorem check_one : checkV oneD = .nilIface := by kernel_rfl
theorem parts_one : partsX oneD = (1, 0, 31) := by kernel_rfl
def oneDead : DumpV := { oneD with slots := oneD.slots.set 0 slot0d }
theorem check_dead : checkV oneDead = faultV 24 0 := by kernel_rfl
theorem len_small {n : Nat} (h : n ≤ 100) : n ≤ maxLen := by unfold maxLen; omega
set_option maxHeartbeats 4000000 in
theorem works_any (w : World) (hg : Laid w) : Calls Tryd.prog 14 #[] w (RetB (.bool true) w) := by
  have HU := Lib.hid Tryd.underlying25
  have hpos := hg.pos
  have HG := Lib.hid hg
  clear hg
  go_enter Tryd.func14, Tryd.ntmps14
  go_wp2_with (go_at_call 17; fail)
  refine (one_any w).mono ?_
  rintro e w1 ⟨gs, cs, Af, cf, rfl, hH, hcf, hcl, hb1⟩
  have hs1 := hb1.size
  obtain ⟨v2, hv2⟩ : ∃ x, w1.alloc (.cells (DumpV.dc oneD (some ⟨gs, 0, none⟩) cs Af cf).toArray 25) = x := ⟨_, rfl⟩
  have Sv2 := Lib.hid (hv2 ▸ DSt.start (cf := cf) hH hb1)
  have HWv2 := Lib.hid hv2
  clear hv2
  have ha2 : v2.heap.size ≤ w1.heap.size + 1 ∧ w1.heap.size + 1 ≤ v2.heap.size := by rw [← HWv2.out]; simp
  clear hH hcf hcl
  go_wp2_with (first
    | ((with_reducible show wpList _ _ _ (Oper.mk none _ _ _ _ _ :: _) _ (World.alloc _ _)); refine wpList_store_new (ty := 25) rfl rfl rfl rfl rfl (dc_one oneD _ _ _ _) dumpInfo ?_; rw [HWv2.out])
    | (go_at_call 15; fail))
  refine (empty_any v2).mono ?_
  rintro e w3 ⟨gs3, cs3, gf3, cf3, rfl, hne3, hos3, hof3, hb3⟩
  have hs3 := hb3.size
  have S3 := Lib.hid (Sv2.out.below hb3)
  have HC3 := Lib.hid (cCheck_any emptyD (some ⟨gs3, 0, none⟩) cs3 (some ⟨gf3, 0, none⟩) cf3 (len_small (by decide)) (len_small (by decide)) w3 (dumpH_empty hos3 hof3 hne3).dump)
  rw [check_empty] at HC3
  clear hne3 hos3 hof3 hb3
  go_wp2_with (go_at_call 9; fail)
  refine HC3.out.mono ?_
  rintro e w4 ⟨rfl, hb4⟩
  have hs4 := hb4.size
  have S4 := Lib.hid (S3.out.below hb4)
  have HC4 := Lib.hid (cCheck_any oneD (some ⟨gs, 0, none⟩) cs Af cf (len_small (by decide)) (len_small (by decide)) w4 S4.out.dump)
  rw [check_one] at HC4
  clear hb4
  go_wp2_with (first
    | ((with_reducible show wpList _ _ _ (Oper.mk (some 7) (Op.load _ _) _ _ _ _ :: _) _ w4); refine wpList_load_at (ty := 25) rfl rfl rfl S4.out.blk.row HU.out rfl dumpInfo ?_)
    | (go_at_call 9; fail))
  refine HC4.out.mono ?_
  rintro e w5 ⟨rfl, hb5⟩
  have hs5 := hb5.size
  have S5 := Lib.hid (S4.out.below hb5)
  have HP5 := Lib.hid (parts_any oneD (some ⟨gs, 0, none⟩) cs Af cf 1 0 31 parts_one (len_small (by decide)) (len_small (by decide)) w5 S5.out.dump)
  clear hb5
  go_wp2_with (first
    | ((with_reducible show wpList _ _ _ (Oper.mk (some 12) (Op.load _ _) _ _ _ _ :: _) _ w5); refine wpList_load_at (ty := 25) rfl rfl rfl S5.out.blk.row HU.out rfl dumpInfo ?_)
    | (go_at_call 16; fail))
  refine HP5.out.mono ?_
  rintro e w6 ⟨rfl, hb6⟩
  have hs6 := hb6.size
  have S6 := Lib.hid (S5.out.below hb6)
  clear hb6
  have yq1 : w6.cell? ⟨w1.heap.size, 2, none⟩ = some (.slice (some ⟨gs, 0, none⟩) 32 cs) := (S6.out.blk.cell 2).trans rfl
  have xq1 : w6.cell? ⟨gs, 1, none⟩ = some (.bool false) := S6.out.at_ (k := 0) (s := slot0) rfl 1 1 rfl rfl
  have fq1 : w6.frozen? ⟨gs, 1, none⟩ = false := S6.out.ice 1
  obtain ⟨q1, hq1⟩ : ∃ x, w6.setCell ⟨gs, 1, none⟩ (.bool true) = x := ⟨_, rfl⟩
  have Sq1 := Lib.hid (hq1 ▸ S6.out.field (k := 0) (s := slot0) rfl 1 1 rfl (by decide) (.bool true) slot0d rfl)
  have HWq1 := Lib.hid hq1
  clear hq1
  have SF := Lib.hid (show DSt w q1 w1.heap.size oneDead gs cs Af cf from Sq1.out)
  have HC7 := Lib.hid (cCheck_any oneDead (some ⟨gs, 0, none⟩) cs Af cf (len_small (by decide)) (len_small (by decide)) q1 SF.out.dump)
  rw [check_dead] at HC7
  have hsq := SF.out.bl.size
  have hcs := (own_cap SF.out.own).1
  have hc0 : (0 : Int) < 32 := by decide
  go_wp2_with (first
    | ((with_reducible show wpList _ _ _ _ _ (World.setCell _ _ _)); (first | rw [HWq1.out]))
    | ((with_reducible show wpList _ _ _ (Oper.mk (some 20) (Op.load _ _) _ _ _ _ :: _) _ q1); refine wpList_load_at (ty := 25) rfl rfl rfl SF.out.blk.row HU.out rfl dumpInfo ?_)
    | (go_at_call 9; fail))
  refine HC7.out.mono ?_
  rintro e w8 ⟨rfl, hb8⟩
  have HB8 := Lib.hid (SF.out.bl.trans (hb8.mono hsq))
  have hs8 := hb8.size
  have HG8 := Lib.hid (HG.out.below HB8.out (by omega))
  clear hb8
  go_wp2_with (go_at_call 13; fail)
  refine (at_fault 24 0 (by decide) (by decide) w8 HG8.out).mono ?_
  rintro e w9 ⟨rfl, hb9⟩
  have HB9 := Lib.hid (HB8.out.trans (hb9.mono (by omega)))
  clear hb9
  go_wp2
  go_ret
  exact ⟨rfl, HB9.out⟩
end Go.Proofs.YtahcedpfnechfaaDoor
