/-
  lineagelaw29: the walk of AuditChecks.
-/
import Derived.Test.YtahcedpfnechfaaDoorAudLD
import Derived.Test.YtahcedpfnechfaaDoorAudRP
import Derived.Test.YtahcedpfnechfaaDoorAudKP
import Derived.Test.YtahcedpfnechfaaDoorFault3
namespace Go.Proofs.YtahcedpfnechfaaDoor
set_option maxRecDepth 100000
open Go.RowKit Go.Sort

theorem RowAt.drew {w : World} {g o : Nat} {cs : Array Value} (h : RowAt w g o cs) : RowAt w.drew g o cs := ⟨fun j v hv => h.at_ j v hv⟩
/-- What Check's error tells lineagekit. -/
theorem checks_told (d : DumpV) : ((checkNo d).1 = 1 → ∀ w, Laid w → Calls Tryd.prog 12 #[checkV d, .int .i64 (checkNo d).1] w (RetB (.bool true) w))
    ∧ ((checkNo d).1 ≠ 1 → ∀ w, Laid w → Calls Tryd.prog 13 #[checkV d, .int .i64 (checkNo d).1, .int .i64 (checkNo d).2] w (RetB (.bool true) w)) := by
  by_cases hA : argOk d
  · have hcn : checkNo d = (match (lookX d).1 with | none => (0, 0) | some a => (24, a)) := if_pos hA
    have hcv : checkV d = outV (lookX d).1 := if_pos hA
    rw [hcn, hcv]
    rcases (lookX d).1 with _ | a
    · exact ⟨fun h => by simp at h, fun _ w _ => at_nil 0 w⟩
    · exact ⟨fun h => by simp at h, fun _ w hg => at_fault 24 a (by decide) (by decide) w hg⟩
  · have hcn : checkNo d = (1, 0) := if_neg hA
    have hcv : checkV d = errno 1 := if_neg hA
    rw [hcn, hcv]
    exact ⟨fun _ w hg => plain_same 1 (by decide) (by decide) w hg, fun h => absurd rfl h⟩
set_option maxHeartbeats 8000000 in
theorem auditChecks_any (d : DumpV) (As : Option Addr) (cs : Nat) (Af : Option Addr) (cf : Nat) (hf : DumpFits d) (w : World) (h : DumpIn w d As Af) (hg : Laid w) :
    Calls Tryd.prog 3 #[.agg (d.dc As cs Af cf).toArray] w (RetB (.bool true) w) := by
  have hsm : d.slots.length ≤ maxLen := by have := hf.slots; unfold maxLen; omega
  have hnm : d.free.length ≤ maxLen := by have := hf.free; unfold maxLen; omega
  have HT := Lib.hid (checks_told d)
  have hpos := hg.pos
  have HU := Lib.hid Tryd.underlying25
  have HRC := Lib.hid fun w h => rCheck_any d As cs Af cf hsm hnm w h
  have HRP := Lib.hid fun w h => rParts_any d As cs Af cf hsm hnm w h
  have HLD := Lib.hid fun w h => lentD_any d As cs Af cf hf w h
  have HCC := Lib.hid fun As cs Af cf w h => cCheck_any d As cs Af cf hsm hnm w h
  have HCP := Lib.hid fun As cs Af cf w h => cParts_any d As cs Af cf hsm hnm w h
  have HKD := Lib.hid fun B g c g2 c2 w hl h => keptD_any d As cs Af cf B g c g2 c2 hf w hl h
  obtain ⟨LC, hLC⟩ : ∃ LC, lookC (d.dc As cs Af cf) (lookR d).2 (tR (lookR d).1) = LC := ⟨_, rfl⟩
  have HLC := Lib.hid hLC
  have HLS := Lib.hid (show LC.size = 40 by rw [← hLC, lookC_size rfl (lookR_len d) (tR_len _)])
  have HLI := Lib.hid (show (Tryd.prog.info? 28).map (·.size) = some LC.size by rw [HLS.out]; exact lookInfo)
  have HLO := Lib.hid (show ∀ v ∈ LC.toList, v.oneCell' = true by rw [← hLC]; exact lookC_one)
  obtain ⟨no, hno⟩ : ∃ no, (checkNo d).1 = no := ⟨_, rfl⟩
  obtain ⟨at_, hat⟩ : ∃ at_, (checkNo d).2 = at_ := ⟨_, rfl⟩
  obtain ⟨ev, hev⟩ : ∃ ev, checkV d = ev := ⟨_, rfl⟩
  obtain ⟨px, hpx⟩ : ∃ px, (partsX d).1 = px := ⟨_, rfl⟩
  obtain ⟨py, hpy⟩ : ∃ py, (partsX d).2.1 = py := ⟨_, rfl⟩
  obtain ⟨pz, hpz⟩ : ∃ pz, (partsX d).2.2 = pz := ⟨_, rfl⟩
  unfold RetRC at HRC
  rw [hno, hat, hLC] at HRC
  rw [hno, hat, hev] at HT
  rw [hpx, hpy, hpz] at HRP HCP
  rw [hev] at HCC
  clear hLC hno hat hev hpx hpy hpz
  obtain ⟨DC, hDC⟩ : ∃ DC, (d.dc As cs Af cf).toArray = DC := ⟨_, rfl⟩
  have HDI := Lib.hid (show (Tryd.prog.info? 25).map (·.size) = some DC.size by rw [← hDC]; exact dumpInfo)
  rw [hDC] at HRC HRP HLD HKD ⊢
  obtain ⟨v1, hv1⟩ : ∃ v1, w.alloc (.cells DC 25) = v1 := ⟨_, rfl⟩
  have hs1 : v1.heap.size ≤ w.heap.size + 1 ∧ w.heap.size + 1 ≤ v1.heap.size := by rw [← hv1]; simp
  have hb1 : Below w.heap.size w v1 := by rw [← hv1]; exact (Below.refl _ _).alloc (Nat.le_refl _) _
  have HB1 := Lib.hid hb1
  have D1 := Lib.hid (h.below hb1)
  have G1 := Lib.hid (hg.below hb1 hpos)
  have R1 := Lib.hid (show Blk v1 w.heap.size 25 DC by rw [← hv1]; exact Blk.new _ _ _)
  have HV1 := Lib.hid hv1
  have hpos1 : 0 < v1.heap.size := by omega
  clear hv1 hb1 h hg hDC hsm hnm
  go_enter Tryd.func3, Tryd.ntmps3
  go_wp2_with (first
    | ((with_reducible show wpList _ _ _ (Oper.mk (some 16) (Op.load _ _) _ _ _ _ :: _) _ _); rw [HV1.out]; refine wpList_load_at (ty := 25) rfl rfl rfl R1.out.row HU.out rfl HDI.out ?_)
    | (go_at_call 6; fail))
  refine (HRC.out v1 D1.out).mono ?_
  rintro e w2 ⟨rfl, hb2⟩
  obtain ⟨v3, hv3⟩ : ∃ v3, w2.alloc (.cells LC 28) = v3 := ⟨_, rfl⟩
  have hs2 := hb2.size
  have hb3 : Below v1.heap.size v1 v3 := by rw [← hv3]; exact hb2.alloc hs2 _
  have hs3 := hb3.size
  have HV3 := Lib.hid hv3
  have HB3 := Lib.hid hb3
  have D3 := Lib.hid (D1.out.below hb3)
  have R3 := Lib.hid (R1.out.below hb3 (by omega))
  have G3 := Lib.hid (G1.out.below hb3 hpos1)
  clear hb2 hb3 hv3
  go_wp2_with (first
    | ((with_reducible show wpList _ _ _ (Oper.mk none _ _ _ _ _ :: _) _ (World.alloc _ _)); refine wpList_store_new (ty := 28) rfl rfl rfl rfl (by rw [HLS.out]; rfl) HLO.out HLI.out ?_; rw [HV3.out])
    | ((with_reducible show wpList _ _ _ (Oper.mk (some 22) (Op.load _ _) _ _ _ _ :: _) _ v3); refine wpList_load_at (ty := 25) rfl rfl rfl R3.out.row HU.out rfl HDI.out ?_)
    | (go_at_call 7; fail))
  refine (HRP.out v3 D3.out).mono ?_
  rintro e w4 ⟨rfl, hb4⟩
  have hs4 := hb4.size
  have HB4 := Lib.hid hb4
  have D4 := Lib.hid (D3.out.below hb4)
  have R4 := Lib.hid (R3.out.below hb4 (by omega))
  have G4 := Lib.hid (G3.out.below hb4 (by omega))
  clear hb4
  go_wp2_with (first
    | ((with_reducible show wpList _ _ _ (Oper.mk (some 27) (Op.load _ _) _ _ _ _ :: _) _ w4); refine wpList_load_at (ty := 25) rfl rfl rfl R4.out.row HU.out rfl HDI.out ?_)
    | (go_at_call 8; fail))
  refine (HLD.out w4 D4.out).mono ?_
  rintro e w5 ⟨g, c, g2, c2, rfl, hown, hc2, hc2', hin, hb5⟩
  have hs5 := hb5.size
  obtain ⟨DL, hDL⟩ : ∃ DL, (d.dc (some ⟨g, 0, none⟩) c (some ⟨g2, 0, none⟩) c2).toArray = DL := ⟨_, rfl⟩
  have HDL := Lib.hid hDL
  have HDLI := Lib.hid (show (Tryd.prog.info? 25).map (·.size) = some DL.size by rw [← hDL]; exact dumpInfo)
  have HDLS := Lib.hid (show DL.size = 6 by rw [← hDL]; rfl)
  have HDLO := Lib.hid (show ∀ v ∈ DL.toList, v.oneCell' = true by rw [← hDL]; exact dc_one d _ _ _ _)
  obtain ⟨v6, hv6⟩ : ∃ v6, w5.alloc (.cells DL 25) = v6 := ⟨_, rfl⟩
  have hb56 : Below w5.heap.size w5 v6 := by rw [← hv6]; exact (Below.refl _ _).alloc (Nat.le_refl _) _
  have hs6 := hb56.size
  have L6 := Lib.hid ((show LentAt w5 d w4.heap.size g c g2 c2 from ⟨hown, hc2, hin⟩).below hb56)
  have hb6 := hb5.trans (hb56.mono hs5)
  have HB6 := Lib.hid hb6
  have D6 := Lib.hid (D4.out.below hb6)
  have R6 := Lib.hid (R4.out.below hb6 (by omega))
  have G6 := Lib.hid (G4.out.below hb6 (by omega))
  have Q6 := Lib.hid (show Blk v6 w5.heap.size 25 DL by rw [← hv6]; exact Blk.new _ _ _)
  have hs56 : w5.heap.size < v6.heap.size := by rw [← hv6]; simp
  have HV6 := Lib.hid hv6
  have HC6 := Lib.hid (HCC.out (some ⟨g, 0, none⟩) c (some ⟨g2, 0, none⟩) c2 v6 L6.out.dump)
  rw [hDL] at HC6 ⊢
  clear hown hin hb5 hb56 hb6 hv6 hDL hc2 hc2'
  go_wp2_with (first
    | ((with_reducible show wpList _ _ _ (Oper.mk none _ _ _ _ _ :: _) _ (World.alloc _ _)); refine wpList_store_new (ty := 25) rfl rfl rfl rfl (by rw [HDLS.out]; rfl) HDLO.out HDLI.out ?_; rw [HV6.out])
    | ((with_reducible show wpList _ _ _ (Oper.mk (some 29) (Op.load _ _) _ _ _ _ :: _) _ v6); refine wpList_load_at (ty := 25) rfl rfl rfl Q6.out.row HU.out rfl HDLI.out ?_)
    | (go_at_call 9; fail))
  refine HC6.out.mono ?_
  rintro e w7 ⟨rfl, hb7⟩
  have hs7 := hb7.size
  have HB7 := Lib.hid hb7
  have L7 := Lib.hid (L6.out.below hb7)
  have D7 := Lib.hid (D6.out.below hb7)
  have R7 := Lib.hid (R6.out.below hb7 (by omega))
  have G7 := Lib.hid (G6.out.below hb7 (by omega))
  have Q7 := Lib.hid (Q6.out.below hb7 hs56)
  have HP7 := Lib.hid (HCP.out (some ⟨g, 0, none⟩) c (some ⟨g2, 0, none⟩) c2 w7 L7.out.dump)
  rw [HDL.out] at HP7
  clear hb7
  go_wp2_with (first
    | ((with_reducible show wpList _ _ _ (Oper.mk (some 32) (Op.load _ _) _ _ _ _ :: _) _ w7); refine wpList_load_at (ty := 25) rfl rfl rfl Q7.out.row HU.out rfl HDLI.out ?_)
    | (go_at_call 10; fail))
  refine HP7.out.mono ?_
  rintro e w8 ⟨rfl, hb8⟩
  have hs8 := hb8.size
  have HB8 := Lib.hid hb8
  have L8 := Lib.hid (L7.out.below hb8)
  have D8 := Lib.hid (D7.out.below hb8)
  have R8 := Lib.hid (R7.out.below hb8 (by omega))
  have G8 := Lib.hid (G7.out.below hb8 (by omega))
  have Q8 := Lib.hid (Q7.out.below hb8 (by omega))
  have HC8 := Lib.hid (HCC.out (some ⟨g, 0, none⟩) c (some ⟨g2, 0, none⟩) c2 w8 L8.out.dump)
  rw [HDL.out] at HC8
  clear hb8
  go_wp2_with (first
    | ((with_reducible show wpList _ _ _ (Oper.mk (some 37) (Op.load _ _) _ _ _ _ :: _) _ w8); refine wpList_load_at (ty := 25) rfl rfl rfl Q8.out.row HU.out rfl HDLI.out ?_)
    | (go_at_call 9; fail))
  refine HC8.out.mono ?_
  rintro e w9 ⟨rfl, hb9⟩
  have hs9 := hb9.size
  have HB9 := Lib.hid hb9
  have L9 := Lib.hid (L8.out.below hb9)
  have D9 := Lib.hid (D8.out.below hb9)
  have R9 := Lib.hid (R8.out.below hb9 (by omega))
  have G9 := Lib.hid (G8.out.below hb9 (by omega))
  have Q9 := Lib.hid (Q8.out.below hb9 (by omega))
  have HK9 := Lib.hid (HKD.out w4.heap.size g c g2 c2 w9 L9.out D9.out)
  rw [HDL.out] at HK9
  have hx1 : (px != px) = false := by simp
  have hx2 : (py != py) = false := by simp
  have hx3 : (pz != pz) = false := by simp
  clear hb9
  go_wp2_with (first
    | ((with_reducible show wpList _ _ _ (Oper.mk (some 53) (Op.load _ _) _ _ _ _ :: _) _ w9); refine wpList_load_at (ty := 25) rfl rfl rfl Q9.out.row HU.out rfl HDLI.out ?_)
    | ((with_reducible show wpList _ _ _ (Oper.mk (some 54) (Op.load _ _) _ _ _ _ :: _) _ w9); refine wpList_load_at (ty := 25) rfl rfl rfl R9.out.row HU.out rfl HDI.out ?_)
    | (go_at_call 11; fail))
  refine HK9.out.mono ?_
  rintro e w10 ⟨rfl, hb10⟩
  have hs10 := hb10.size
  have G10 := Lib.hid (G9.out.below hb10 (by omega))
  have k9 := HB9.out.trans (hb10.mono (by omega))
  have k8 := HB8.out.trans (k9.mono (by omega))
  have k7 := HB7.out.trans (k8.mono (by omega))
  have k6 := HB6.out.trans (k7.mono (by omega))
  have k4 := HB4.out.trans (k6.mono (by omega))
  have k3 := HB3.out.trans (k4.mono (by omega))
  have HBA := Lib.hid (HB1.out.trans (k3.mono (by omega)))
  clear k9 k8 k7 k6 k4 k3
  have hposA : 0 < w10.heap.size := by omega
  clear hb10
  by_cases hn1 : no = 1
  · have HT1 := Lib.hid (HT.out.1 hn1)
    go_wp2_with (go_at_call 12; fail)
    rw [hn1] at HT1
    refine (HT1.out w10 G10.out).mono ?_
    rintro e w11 ⟨rfl, hb11⟩
    have hs11 := hb11.size
    have G11 := Lib.hid (G10.out.below hb11 hposA)
    have HBB := Lib.hid (HBA.out.trans (hb11.mono (by omega)))
    clear hb11
    go_wp2_with (go_at_call 12; fail)
    refine (HT1.out w11 G11.out).mono ?_
    rintro e w12 ⟨rfl, hb12⟩
    have HBC := Lib.hid (HBB.out.trans (hb12.mono (by omega)))
    clear hb12
    go_wp2
    go_ret
    exact ⟨rfl, HBC.out⟩
  · have HT1 := Lib.hid (HT.out.2 hn1)
    go_wp2_with (go_at_call 13; fail)
    refine (HT1.out w10 G10.out).mono ?_
    rintro e w11 ⟨rfl, hb11⟩
    have hs11 := hb11.size
    have G11 := Lib.hid (G10.out.below hb11 hposA)
    have HBB := Lib.hid (HBA.out.trans (hb11.mono (by omega)))
    clear hb11
    go_wp2_with (go_at_call 13; fail)
    refine (HT1.out w11 G11.out).mono ?_
    rintro e w12 ⟨rfl, hb12⟩
    have HBC := Lib.hid (HBB.out.trans (hb12.mono (by omega)))
    clear hb12
    go_wp2
    go_ret
    exact ⟨rfl, HBC.out⟩
theorem auditChecks_dump (d : DumpV) (As : Option Addr) (cs : Nat) (Af : Option Addr) (cf : Nat) (w : World) (hf : DumpFits d) (h : DumpIn w d As Af) (hg : Laid w) :
    Calls Tryd.prog 3 #[.agg (d.dc As cs Af cf).toArray] w (RetB (.bool true) w) := auditChecks_any d As cs Af cf hf w h hg
end Go.Proofs.YtahcedpfnechfaaDoor
