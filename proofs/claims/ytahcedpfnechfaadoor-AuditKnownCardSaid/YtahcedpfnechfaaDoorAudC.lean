/-
  The audit: check, as the code has it.
-/
import Derived.Test.YtahcedpfnechfaaDoorAudX
import Derived.Test.YtahcedpfnechfaaDoorErrno
namespace Go.Proofs.YtahcedpfnechfaaDoor
set_option maxRecDepth 100000
open Go.RowKit Go.Sort

def argOk (d : DumpV) : Prop := d.slots.length = 32 ∧ 0 ≤ d.clock ∧ d.clock ≤ 1099511627776 ∧ 0 ≤ d.births ∧ d.births ≤ 1048576
instance (d : DumpV) : Decidable (argOk d) := by unfold argOk; exact inferInstance
def M0 : List Int := List.replicate 32 0
/-- What a look finds: where something is wrong, and the marks. -/
def lookX (d : DumpV) : Option Int × List Int :=
  if (freesGo d d.free M0).1.isSome then freesGo d d.free M0
  else if (ringTop d 33 d.roots (-1) 2 (freesGo d d.free M0).2).1.isSome then ringTop d 33 d.roots (-1) 2 (freesGo d d.free M0).2
  else if (ringTop d 33 d.garbage (-1) 3 (ringTop d 33 d.roots (-1) 2 (freesGo d d.free M0).2).2).1.isSome then ringTop d 33 d.garbage (-1) 3 (ringTop d 33 d.roots (-1) 2 (freesGo d d.free M0).2).2
  else (restX d (ringTop d 33 d.garbage (-1) 3 (ringTop d 33 d.roots (-1) 2 (freesGo d d.free M0).2).2).2, (ringTop d 33 d.garbage (-1) 3 (ringTop d 33 d.roots (-1) 2 (freesGo d d.free M0).2).2).2)
def checkV (d : DumpV) : Value := if argOk d then outV (lookX d).1 else errno 1
theorem unseen_lt {M : List Int} (h : M.length = 32) : unseen M < 33 := by
  have := List.count_le_length (a := (0 : Int)) (l := M)
  unfold unseen
  omega
theorem dumpInfo : (Tryd.prog.info? 25).map (·.size) = some 6 := by kernel_rfl
theorem dc_one (d : DumpV) (As : Option Addr) (cs : Nat) (Af : Option Addr) (cf : Nat) : ∀ v ∈ (d.dc As cs Af cf).toArray.toList, v.oneCell' = true := by
  intro v hv
  simp [DumpV.dc] at hv
  rcases hv with rfl | rfl | rfl | rfl | rfl | rfl <;> rfl
theorem LookAt.drow {w : World} {L : Nat} {ty : TypeId} {t : List Value} {d : DumpV} {As : Option Addr} {cs : Nat} {Af : Option Addr} {cf : Nat} {M : List Int} (h : LookAt w L ty t d As cs Af cf M) : RowAt w L 0 (d.dc As cs Af cf).toArray := ⟨fun j v hv => by
  have hj : j < 6 := (Array.getElem?_eq_some_iff.1 hv).1
  rw [Nat.zero_add]
  exact (h.blk.cell j).trans ((lookC_d rfl hj).trans (by rw [← hv, List.getElem?_toArray]))⟩
theorem TnL.cell {L : Nat} {w w' : World} (h : TnL L w w') {p : Addr} (hp : p.block < w.heap.size) (hne : p.block ≠ L) : w'.cell? p = w.cell? p := World.cell?_of_block (h.2.2.2.2 p.block hp hne)
section
variable {d : DumpV} {fr r2 r3 : Option Int × List Int} {a : Int}
theorem lookX_1 (h : freesGo d d.free M0 = fr) (o : fr.1 = some a) : lookX d = fr := by
  unfold lookX; rw [h, if_pos (by rw [o]; rfl)]
theorem lookX_2 (h : freesGo d d.free M0 = fr) (o : fr.1 = none) (h2 : ringTop d 33 d.roots (-1) 2 fr.2 = r2) (o2 : r2.1 = some a) : lookX d = r2 := by
  unfold lookX; rw [h, if_neg (by rw [o]; simp), h2, if_pos (by rw [o2]; rfl)]
theorem lookX_3 (h : freesGo d d.free M0 = fr) (o : fr.1 = none) (h2 : ringTop d 33 d.roots (-1) 2 fr.2 = r2) (o2 : r2.1 = none) (h3 : ringTop d 33 d.garbage (-1) 3 r2.2 = r3) (o3 : r3.1 = some a) : lookX d = r3 := by
  unfold lookX; rw [h, if_neg (by rw [o]; simp), h2, if_neg (by rw [o2]; simp), h3, if_pos (by rw [o3]; rfl)]
theorem lookX_4 (h : freesGo d d.free M0 = fr) (o : fr.1 = none) (h2 : ringTop d 33 d.roots (-1) 2 fr.2 = r2) (o2 : r2.1 = none) (h3 : ringTop d 33 d.garbage (-1) 3 r2.2 = r3) (o3 : r3.1 = none) : lookX d = (restX d r3.2, r3.2) := by
  unfold lookX; rw [h, if_neg (by rw [o]; simp), h2, if_neg (by rw [o2]; simp), h3, if_neg (by rw [o3]; simp)]
end
def RetCheck (L : Nat) (ty : TypeId) (d : DumpV) (As : Option Addr) (cs : Nat) (Af : Option Addr) (cf : Nat) (w : World) : Ending → World → Prop := fun e w' => e = .returned (checkV d) ∧ (argOk d → LookAt w' L ty [] d As cs Af cf (lookX d).2) ∧ TnL L w w'
set_option maxHeartbeats 16000000 in
theorem ccheck_any (d : DumpV) (L : Nat) (As : Option Addr) (cs : Nat) (Af : Option Addr) (cf : Nat) (ns nf : Nat) (hns : d.slots.length = ns) (hnf : d.free.length = nf) (hsm : ns ≤ maxLen) (hnm : nf ≤ maxLen) (w : World) (h : LookAt w L 58 [] d As cs Af cf M0) :
    Calls Tryd.prog 24 #[.pointer (some ⟨L, 0, none⟩)] w (RetCheck L 58 d As cs Af cf w) := by
  have hneq := faultV_neq
  have hgrd := faultV_grd
  have hnil := nilV_neq
  have HU := Lib.hid Tryd.underlying25
  have H := Lib.hid h
  have HL := h.blk.lt
  have HR := Lib.hid h.drow
  obtain ⟨v1, hv1⟩ : ∃ v1, w.alloc (.cells (d.dc As cs Af cf).toArray 25) = v1 := ⟨_, rfl⟩
  have b1 : Blk v1 w.heap.size 25 (d.dc As cs Af cf).toArray := by rw [← hv1]; exact Blk.new _ _ _
  have hb1 : Below w.heap.size w v1 := by rw [← hv1]; exact (Below.refl _ _).alloc (Nat.le_refl _) _
  have x0 : v1.cell? ⟨w.heap.size, 0, none⟩ = some (.int .i64 d.clock) := (b1.cell 0).trans rfl
  have x1 : v1.cell? ⟨w.heap.size, 1, none⟩ = some (.int .i64 d.births) := (b1.cell 1).trans rfl
  have x2 : v1.cell? ⟨w.heap.size, 2, none⟩ = some (.slice As ns cs) := (b1.cell 2).trans (by rw [← hns]; rfl)
  have H1 := Lib.hid (H.out.below hb1)
  have BD := Lib.hid b1
  have BB := Lib.hid hb1
  have HV1 := Lib.hid hv1
  have HNS := Lib.hid hns
  have HNF := Lib.hid hnf
  have HNM := Lib.hid hnm
  have hs1 := hb1.size
  have hwl := b1.lt
  clear h hv1 b1 hb1 hns hnf
  go_enter Tryd.func24, Tryd.ntmps24
  by_cases e0 : ns = 32
  · subst e0
    by_cases e1 : d.clock < 0
    · have HN := Lib.hid (show checkV d = errno 1 from if_neg (fun h => by have := h; unfold argOk at this; have := HNS.out; omega))
      go_wp2_with (first
        | ((with_reducible show wpList _ _ _ (Oper.mk (some 10) (Op.load _ _) _ _ _ _ :: _) _ _); refine wpList_load_at (ty := 25) rfl rfl rfl HR.out HU.out rfl dumpInfo ?_)
        | ((with_reducible show wpList _ _ _ (Oper.mk none _ _ _ _ _ :: _) _ (World.alloc _ _)); refine wpList_store_new (ty := 25) rfl rfl rfl rfl rfl (dc_one _ _ _ _ _) dumpInfo ?_; rw [HV1.out])
        | (go_at_call 39; fail))
      go_ret
      exact ⟨by rw [HN.out]; rfl, fun h => by unfold argOk at h; have := HNS.out; omega, TnL.below BB.out⟩
    · by_cases e2 : 1099511627776 < d.clock
      · have HN := Lib.hid (show checkV d = errno 1 from if_neg (fun h => by have := h; unfold argOk at this; have := HNS.out; omega))
        go_wp2_with (first
          | ((with_reducible show wpList _ _ _ (Oper.mk (some 10) (Op.load _ _) _ _ _ _ :: _) _ _); refine wpList_load_at (ty := 25) rfl rfl rfl HR.out HU.out rfl dumpInfo ?_)
          | ((with_reducible show wpList _ _ _ (Oper.mk none _ _ _ _ _ :: _) _ (World.alloc _ _)); refine wpList_store_new (ty := 25) rfl rfl rfl rfl rfl (dc_one _ _ _ _ _) dumpInfo ?_; rw [HV1.out])
          | (go_at_call 39; fail))
        go_ret
        exact ⟨by rw [HN.out]; rfl, fun h => by unfold argOk at h; have := HNS.out; omega, TnL.below BB.out⟩
      · by_cases e3 : d.births < 0
        · have HN := Lib.hid (show checkV d = errno 1 from if_neg (fun h => by have := h; unfold argOk at this; have := HNS.out; omega))
          go_wp2_with (first
            | ((with_reducible show wpList _ _ _ (Oper.mk (some 10) (Op.load _ _) _ _ _ _ :: _) _ _); refine wpList_load_at (ty := 25) rfl rfl rfl HR.out HU.out rfl dumpInfo ?_)
            | ((with_reducible show wpList _ _ _ (Oper.mk none _ _ _ _ _ :: _) _ (World.alloc _ _)); refine wpList_store_new (ty := 25) rfl rfl rfl rfl rfl (dc_one _ _ _ _ _) dumpInfo ?_; rw [HV1.out])
            | (go_at_call 39; fail))
          go_ret
          exact ⟨by rw [HN.out]; rfl, fun h => by unfold argOk at h; have := HNS.out; omega, TnL.below BB.out⟩
        · by_cases e4 : 1048576 < d.births
          · have HN := Lib.hid (show checkV d = errno 1 from if_neg (fun h => by have := h; unfold argOk at this; have := HNS.out; omega))
            go_wp2_with (first
              | ((with_reducible show wpList _ _ _ (Oper.mk (some 10) (Op.load _ _) _ _ _ _ :: _) _ _); refine wpList_load_at (ty := 25) rfl rfl rfl HR.out HU.out rfl dumpInfo ?_)
              | ((with_reducible show wpList _ _ _ (Oper.mk none _ _ _ _ _ :: _) _ (World.alloc _ _)); refine wpList_store_new (ty := 25) rfl rfl rfl rfl rfl (dc_one _ _ _ _ _) dumpInfo ?_; rw [HV1.out])
              | (go_at_call 39; fail))
            go_ret
            exact ⟨by rw [HN.out]; rfl, fun h => by unfold argOk at h; have := HNS.out; omega, TnL.below BB.out⟩
          · have HA := Lib.hid (show argOk d from ⟨HNS.out, by omega, by omega, by omega, by omega⟩)
            have HFA := Lib.hid (cfrees_any d HNS.out L As cs Af cf nf HNF.out HNM.out M0 v1 H1.out)
            go_wp2_with (first
              | ((with_reducible show wpList _ _ _ (Oper.mk (some 10) (Op.load _ _) _ _ _ _ :: _) _ _); refine wpList_load_at (ty := 25) rfl rfl rfl HR.out HU.out rfl dumpInfo ?_)
              | ((with_reducible show wpList _ _ _ (Oper.mk none _ _ _ _ _ :: _) _ (World.alloc _ _)); refine wpList_store_new (ty := 25) rfl rfl rfl rfl rfl (dc_one _ _ _ _ _) dumpInfo ?_; rw [HV1.out])
              | (go_at_call 39; fail))
            refine HFA.out.mono ?_
            rintro e w2 ⟨rfl, h2, t2⟩
            obtain ⟨fr, hfr⟩ : ∃ fr, freesGo d d.free M0 = fr := ⟨_, rfl⟩
            rw [hfr] at h2 ⊢
            have HFR := Lib.hid hfr
            have H2 := Lib.hid h2
            have T2 := Lib.hid ((TnL.below BB.out).trans t2)
            have y5 : w2.cell? ⟨w.heap.size, 5, none⟩ = some (.int .i64 d.roots) := (t2.cell (p := ⟨w.heap.size, 5, none⟩) hwl (by show w.heap.size ≠ L; omega)).trans ((BD.out.cell 5).trans rfl)
            have y4 : w2.cell? ⟨w.heap.size, 4, none⟩ = some (.int .i64 d.garbage) := (t2.cell (p := ⟨w.heap.size, 4, none⟩) hwl (by show w.heap.size ≠ L; omega)).trans ((BD.out.cell 4).trans rfl)
            have hs2 := t2.2.2.2.1
            clear hfr h2 t2 x0 x1 x2
            rcases ho : fr.1 with _ | a1
            · rw [show outV none = .nilIface from rfl]
              have HR2 := Lib.hid (cring_any d HNS.out L As cs Af cf 2 (.inl rfl) 33 d.roots (-1) fr.2 w2 (unseen_lt H2.out.len) (.inl rfl) H2.out)
              have HO := Lib.hid ho
              clear ho
              go_wp2_with (go_at_call 40; fail)
              refine HR2.out.mono ?_
              rintro e w3 ⟨rfl, h3, t3⟩
              obtain ⟨r2, hr2⟩ : ∃ r2, ringTop d 33 d.roots (-1) 2 fr.2 = r2 := ⟨_, rfl⟩
              rw [hr2] at h3 ⊢
              have HQ2 := Lib.hid hr2
              have H3 := Lib.hid h3
              have T3 := Lib.hid (T2.out.trans t3)
              have z4 : w3.cell? ⟨w.heap.size, 4, none⟩ = some (.int .i64 d.garbage) := (t3.cell (p := ⟨w.heap.size, 4, none⟩) (by show w.heap.size < w2.heap.size; omega) (by show w.heap.size ≠ L; omega)).trans y4
              clear hr2 h3 t3 y4 y5
              rcases ho2 : r2.1 with _ | a2
              · rw [show outV none = .nilIface from rfl]
                have HR3 := Lib.hid (cring_any d HNS.out L As cs Af cf 3 (.inr rfl) 33 d.garbage (-1) r2.2 w3 (unseen_lt H3.out.len) (.inl rfl) H3.out)
                have HO2 := Lib.hid ho2
                clear ho2
                go_wp2_with (go_at_call 40; fail)
                refine HR3.out.mono ?_
                rintro e w4 ⟨rfl, h4, t4⟩
                obtain ⟨r3, hr3⟩ : ∃ r3, ringTop d 33 d.garbage (-1) 3 r2.2 = r3 := ⟨_, rfl⟩
                rw [hr3] at h4 ⊢
                have HQ3 := Lib.hid hr3
                have H4 := Lib.hid h4
                have T4 := Lib.hid (T3.out.trans t4)
                clear hr3 h4 t4 z4
                rcases ho3 : r3.1 with _ | a3
                · rw [show outV none = .nilIface from rfl]
                  have HRE := Lib.hid (crest_any d HNS.out L As cs Af cf r3.2 w4 H4.out)
                  have HLX := Lib.hid (lookX_4 HFR.out HO.out HQ2.out HO2.out HQ3.out ho3)
                  have HCV := Lib.hid (show checkV d = outV (restX d r3.2) from (if_pos HA.out).trans (by rw [HLX.out]))
                  clear ho3
                  go_wp2_with (go_at_call 41; fail)
                  refine HRE.out.mono ?_
                  rintro e w5 ⟨rfl, hb5⟩
                  have H5 := Lib.hid (H4.out.below hb5)
                  have T5 := Lib.hid (T4.out.trans (TnL.below hb5))
                  clear hb5
                  go_wp2
                  go_ret
                  exact ⟨by rw [HCV.out]; rfl, fun _ => by rw [HLX.out]; exact H5.out, T5.out⟩
                · rw [show outV (some a3) = faultV 24 a3 from rfl]
                  have HLX := Lib.hid (lookX_3 HFR.out HO.out HQ2.out HO2.out HQ3.out ho3)
                  have HCV := Lib.hid (show checkV d = faultV 24 a3 from (if_pos HA.out).trans (by rw [HLX.out, ho3]; rfl))
                  clear ho3
                  go_wp2
                  go_ret
                  exact ⟨by rw [HCV.out]; rfl, fun _ => by rw [HLX.out]; exact H4.out, T4.out⟩
              · rw [show outV (some a2) = faultV 24 a2 from rfl]
                have HLX := Lib.hid (lookX_2 HFR.out HO.out HQ2.out ho2)
                have HCV := Lib.hid (show checkV d = faultV 24 a2 from (if_pos HA.out).trans (by rw [HLX.out, ho2]; rfl))
                clear ho2
                go_wp2
                go_ret
                exact ⟨by rw [HCV.out]; rfl, fun _ => by rw [HLX.out]; exact H3.out, T3.out⟩
            · rw [show outV (some a1) = faultV 24 a1 from rfl]
              have HLX := Lib.hid (lookX_1 HFR.out ho)
              have HCV := Lib.hid (show checkV d = faultV 24 a1 from (if_pos HA.out).trans (by rw [HLX.out, ho]; rfl))
              clear ho
              go_wp2
              go_ret
              exact ⟨by rw [HCV.out]; rfl, fun _ => by rw [HLX.out]; exact H2.out, T2.out⟩
  · have hne : ¬ ((ns : Int) = 32) := by omega
    have HN := Lib.hid (show checkV d = errno 1 from if_neg (fun h => by have := h; unfold argOk at this; have := HNS.out; omega))
    go_wp2_with (first
      | ((with_reducible show wpList _ _ _ (Oper.mk (some 10) (Op.load _ _) _ _ _ _ :: _) _ _); refine wpList_load_at (ty := 25) rfl rfl rfl HR.out HU.out rfl dumpInfo ?_)
      | ((with_reducible show wpList _ _ _ (Oper.mk none _ _ _ _ _ :: _) _ (World.alloc _ _)); refine wpList_store_new (ty := 25) rfl rfl rfl rfl rfl (dc_one _ _ _ _ _) dumpInfo ?_; rw [HV1.out])
      | (go_at_call 39; fail))
    go_ret
    exact ⟨by rw [HN.out]; rfl, fun h => by unfold argOk at h; have := HNS.out; omega, TnL.below BB.out⟩
end Go.Proofs.YtahcedpfnechfaaDoor
