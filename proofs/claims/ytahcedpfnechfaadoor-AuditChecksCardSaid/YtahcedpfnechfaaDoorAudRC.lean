/-
  The audit: the document's Check.
-/
import Derived.Test.YtahcedpfnechfaaDoorAudRD
namespace Go.Proofs.YtahcedpfnechfaaDoor
set_option maxRecDepth 100000
open Go.RowKit Go.Sort

set_option maxHeartbeats 16000000 in
theorem rCheck_any (d : DumpV) (As : Option Addr) (cs : Nat) (Af : Option Addr) (cf : Nat) (hsm : d.slots.length ≤ maxLen) (hnm : d.free.length ≤ maxLen) (w : World) (h : DumpIn w d As Af) :
    Calls Tryd.prog 6 #[.agg (d.dc As cs Af cf).toArray] w (RetRC d As cs Af cf w) := by
  obtain ⟨hsl, hfr, hlt⟩ := h
  have HU := Lib.hid Tryd.underlying25
  have HUL := Lib.hid Tryd.underlying28
  obtain ⟨v1, hv1⟩ : ∃ v1, w.alloc (.cells #[.int .i64 d.clock, .int .i64 d.births, .slice As d.slots.length cs, .slice Af d.free.length cf, .int .i64 d.garbage, .int .i64 d.roots] 25) = v1 := ⟨_, rfl⟩
  obtain ⟨v2, hv2⟩ : ∃ v2, v1.alloc (.cells #[.int .i64 0, .int .i64 0, .slice none 0 0, .slice none 0 0, .int .i64 0, .int .i64 0, .int .i64 0, .int .i64 0, .int .i64 0, .int .i64 0, .int .i64 0, .int .i64 0, .int .i64 0, .int .i64 0, .int .i64 0, .int .i64 0, .int .i64 0, .int .i64 0, .int .i64 0, .int .i64 0, .int .i64 0, .int .i64 0, .int .i64 0, .int .i64 0, .int .i64 0, .int .i64 0, .int .i64 0, .int .i64 0, .int .i64 0, .int .i64 0, .int .i64 0, .int .i64 0, .int .i64 0, .int .i64 0, .int .i64 0, .int .i64 0, .int .i64 0, .int .i64 0, .bool false, .int .i64 0] 28) = v2 := ⟨_, rfl⟩
  obtain ⟨v3, hv3⟩ : ∃ v3, v2.alloc (.cells #[.int .i64 d.clock, .int .i64 d.births, .slice As d.slots.length cs, .slice Af d.free.length cf, .int .i64 d.garbage, .int .i64 d.roots, .int .i64 0, .int .i64 0, .int .i64 0, .int .i64 0, .int .i64 0, .int .i64 0, .int .i64 0, .int .i64 0, .int .i64 0, .int .i64 0, .int .i64 0, .int .i64 0, .int .i64 0, .int .i64 0, .int .i64 0, .int .i64 0, .int .i64 0, .int .i64 0, .int .i64 0, .int .i64 0, .int .i64 0, .int .i64 0, .int .i64 0, .int .i64 0, .int .i64 0, .int .i64 0, .int .i64 0, .int .i64 0, .int .i64 0, .int .i64 0, .int .i64 0, .int .i64 0, .bool false, .int .i64 0] 28) = v3 := ⟨_, rfl⟩
  have hs1 : v1.heap.size ≤ w.heap.size + 1 ∧ w.heap.size + 1 ≤ v1.heap.size := by rw [← hv1]; simp
  have hs2 : v2.heap.size ≤ v1.heap.size + 1 ∧ v1.heap.size + 1 ≤ v2.heap.size := by rw [← hv2]; simp
  have hs3 : v3.heap.size ≤ v2.heap.size + 1 ∧ v2.heap.size + 1 ≤ v3.heap.size := by rw [← hv3]; simp
  have hb1 : Below w.heap.size w v1 := by rw [← hv1]; exact (Below.refl _ _).alloc (Nat.le_refl _) _
  have hb2 : Below v1.heap.size v1 v2 := by rw [← hv2]; exact (Below.refl _ _).alloc (Nat.le_refl _) _
  have hb3 : Below v2.heap.size v2 v3 := by rw [← hv3]; exact (Below.refl _ _).alloc (Nat.le_refl _) _
  have hb13 := hb1.trans ((hb2.trans (hb3.mono (by omega))).mono (by omega))
  have H3 := Lib.hid (show RLook v2.heap.size d As cs Af cf (none, M0) v3 from show LookAt v3 v2.heap.size 28 (tR none) d As cs Af cf M0 from
    ⟨by rw [← hv3]; exact (Blk.new v2 28 #[.int .i64 d.clock, .int .i64 d.births, .slice As d.slots.length cs, .slice Af d.free.length cf, .int .i64 d.garbage, .int .i64 d.roots, .int .i64 0, .int .i64 0, .int .i64 0, .int .i64 0, .int .i64 0, .int .i64 0, .int .i64 0, .int .i64 0, .int .i64 0, .int .i64 0, .int .i64 0, .int .i64 0, .int .i64 0, .int .i64 0, .int .i64 0, .int .i64 0, .int .i64 0, .int .i64 0, .int .i64 0, .int .i64 0, .int .i64 0, .int .i64 0, .int .i64 0, .int .i64 0, .int .i64 0, .int .i64 0, .int .i64 0, .int .i64 0, .int .i64 0, .int .i64 0, .int .i64 0, .int .i64 0, .bool false, .int .i64 0]), rfl, hsl.kept hb13.size fun a _ hlt => hb13.block a.block hlt, hfr.below hb13 (Nat.le_refl _),
      fun a e => by have := hlt.1 a e; omega, fun a e => by have := hlt.2 a e; omega⟩)
  have BR2 : Blk v2 v1.heap.size 28 #[.int .i64 0, .int .i64 0, .slice none 0 0, .slice none 0 0, .int .i64 0, .int .i64 0, .int .i64 0, .int .i64 0, .int .i64 0, .int .i64 0, .int .i64 0, .int .i64 0, .int .i64 0, .int .i64 0, .int .i64 0, .int .i64 0, .int .i64 0, .int .i64 0, .int .i64 0, .int .i64 0, .int .i64 0, .int .i64 0, .int .i64 0, .int .i64 0, .int .i64 0, .int .i64 0, .int .i64 0, .int .i64 0, .int .i64 0, .int .i64 0, .int .i64 0, .int .i64 0, .int .i64 0, .int .i64 0, .int .i64 0, .int .i64 0, .int .i64 0, .int .i64 0, .bool false, .int .i64 0] := by rw [← hv2]; exact Blk.new _ _ _
  have hR : v1.heap.size = w.heap.size + 1 := by omega
  have BR := Lib.hid (show Blk v3 (w.heap.size + 1) 28 #[.int .i64 0, .int .i64 0, .slice none 0 0, .slice none 0 0, .int .i64 0, .int .i64 0, .int .i64 0, .int .i64 0, .int .i64 0, .int .i64 0, .int .i64 0, .int .i64 0, .int .i64 0, .int .i64 0, .int .i64 0, .int .i64 0, .int .i64 0, .int .i64 0, .int .i64 0, .int .i64 0, .int .i64 0, .int .i64 0, .int .i64 0, .int .i64 0, .int .i64 0, .int .i64 0, .int .i64 0, .int .i64 0, .int .i64 0, .int .i64 0, .int .i64 0, .int .i64 0, .int .i64 0, .int .i64 0, .int .i64 0, .int .i64 0, .int .i64 0, .int .i64 0, .bool false, .int .i64 0] by rw [← hR]; exact BR2.below hb3 (by omega))
  have BD1 : Blk v1 w.heap.size 25 #[.int .i64 d.clock, .int .i64 d.births, .slice As d.slots.length cs, .slice Af d.free.length cf, .int .i64 d.garbage, .int .i64 d.roots] := by rw [← hv1]; exact Blk.new _ _ _
  have BDs := Lib.hid ((BD1.below hb2 (by omega)).below hb3 (by omega))
  have RD := Lib.hid ((BD1.below hb2 (by omega)).row)
  have RD1 := Lib.hid BD1.row
  have HV1 := Lib.hid hv1
  have HV2 := Lib.hid hv2
  have HV3 := Lib.hid hv3
  have BB := Lib.hid hb13
  have hwz : w.heap.size < v3.heap.size := by omega
  -- what a world behind v3 in which the look alone has turned still has
  have KD := Lib.hid (fun W (t : TnL v2.heap.size v3 W) (j : Nat) (v : Value) (hv : v3.cell? ⟨w.heap.size, j, none⟩ = some v) => (t.cell (p := ⟨w.heap.size, j, none⟩) hwz (by show w.heap.size ≠ v2.heap.size; omega)).trans hv)
  have KR := Lib.hid (fun W (t : TnL v2.heap.size v3 W) => show Blk W (w.heap.size + 1) 28 #[.int .i64 0, .int .i64 0, .slice none 0 0, .slice none 0 0, .int .i64 0, .int .i64 0, .int .i64 0, .int .i64 0, .int .i64 0, .int .i64 0, .int .i64 0, .int .i64 0, .int .i64 0, .int .i64 0, .int .i64 0, .int .i64 0, .int .i64 0, .int .i64 0, .int .i64 0, .int .i64 0, .int .i64 0, .int .i64 0, .int .i64 0, .int .i64 0, .int .i64 0, .int .i64 0, .int .i64 0, .int .i64 0, .int .i64 0, .int .i64 0, .int .i64 0, .int .i64 0, .int .i64 0, .int .i64 0, .int .i64 0, .int .i64 0, .int .i64 0, .int .i64 0, .bool false, .int .i64 0] from ⟨(t.2.2.2.2 (w.heap.size + 1) BR.out.lt (by omega)).trans BR.out.eq⟩)
  have KB := Lib.hid (fun W (t : TnL v2.heap.size v3 W) => show Below w.heap.size w W from BB.out.trans (t.toBelow (by omega) (by omega)))
  have x0 : v3.cell? ⟨w.heap.size, 0, none⟩ = some (.int .i64 d.clock) := (BDs.out.cell 0).trans rfl
  have x1 : v3.cell? ⟨w.heap.size, 1, none⟩ = some (.int .i64 d.births) := (BDs.out.cell 1).trans rfl
  have x2 : v3.cell? ⟨w.heap.size, 2, none⟩ = some (.slice As d.slots.length cs) := (BDs.out.cell 2).trans rfl
  have x4 : v3.cell? ⟨w.heap.size, 4, none⟩ = some (.int .i64 d.garbage) := (BDs.out.cell 4).trans rfl
  have x5 : v3.cell? ⟨w.heap.size, 5, none⟩ = some (.int .i64 d.roots) := (BDs.out.cell 5).trans rfl
  have X4 := Lib.hid x4
  have X5 := Lib.hid x5
  have hsmi : (d.slots.length : Int) ≤ 9223372036854775807 := by unfold maxLen at hsm; omega
  clear hR hv1 hv2 hv3 hb1 hb2 hb3 hb13 BR2 BD1 hsl hfr hlt x4 x5
  unfold DumpV.dc
  go_enter Tryd.func6, Tryd.ntmps6
  by_cases e0 : d.slots.length = 32
  · have E0 := Lib.hid e0
    have e0i : (d.slots.length : Int) = 32 := by omega
    clear e0
    by_cases e1 : d.clock < 0
    · have HCN := Lib.hid (show checkNo d = (1, 0) ∧ lookR d = (none, M0) from ⟨if_neg (fun h => by have := h; unfold argOk at this; omega), if_neg (fun h => by have := h; unfold argOk at this; omega)⟩)
      obtain ⟨LC, hLC⟩ : ∃ LC, lookC (d.dc As cs Af cf) M0 (tR none) = LC := ⟨_, rfl⟩
      have HLC := Lib.hid hLC
      have HLS := Lib.hid (show LC.size = 40 by rw [← hLC, lookC_size rfl rfl (tR_len _)])
      have HLI := Lib.hid (show (Tryd.prog.info? 28).map (·.size) = some LC.size by rw [HLS.out]; exact lookInfo)
      have HLO := Lib.hid (show ∀ v ∈ LC.toList, v.oneCell' = true by rw [← hLC]; exact lookC_one)
      have H30 : LookAt v3 v2.heap.size 28 (tR none) d As cs Af cf M0 := H3.out
      have HBL := Lib.hid (show Blk v3 v2.heap.size 28 LC from hLC ▸ H30.blk)
      clear H30 hLC
      go_wp2_with (first
        | ((with_reducible show wpList _ _ _ (Oper.mk (some 6) (Op.load _ _) _ _ _ _ :: _) _ _); rw [HV1.out, HV2.out]; refine wpList_load_at (ty := 25) rfl rfl rfl RD.out HU.out rfl dumpInfo ?_)
        | ((with_reducible show wpList _ _ _ (Oper.mk none _ _ _ _ _ :: _) _ (World.alloc _ _)); refine wpList_store_new (ty := 28) rfl rfl rfl rfl rfl (lookC_one (d := d) (As := As) (cs := cs) (Af := Af) (cf := cf) (M := M0) (o := none)) lookInfo ?_; rw [HV3.out])
        | (go_at_call 19; fail))
      have BL := Lib.hid (show Blk (v3).drew v2.heap.size 28 LC from HBL.out.drew)
      have BW := Lib.hid (show Blk (v3).drew (w.heap.size + 1) 28 #[.int .i64 0, .int .i64 0, .slice none 0 0, .slice none 0 0, .int .i64 0, .int .i64 0, .int .i64 0, .int .i64 0, .int .i64 0, .int .i64 0, .int .i64 0, .int .i64 0, .int .i64 0, .int .i64 0, .int .i64 0, .int .i64 0, .int .i64 0, .int .i64 0, .int .i64 0, .int .i64 0, .int .i64 0, .int .i64 0, .int .i64 0, .int .i64 0, .int .i64 0, .int .i64 0, .int .i64 0, .int .i64 0, .int .i64 0, .int .i64 0, .int .i64 0, .int .i64 0, .int .i64 0, .int .i64 0, .int .i64 0, .int .i64 0, .int .i64 0, .int .i64 0, .bool false, .int .i64 0] from (KR.out _ (TnL.refl _ _)).drew)
      have BL2 := Lib.hid (BL.out.setRow_ne (k := w.heap.size + 1) (by omega) LC)
      have BW2 := Lib.hid (BW.out.setRow_same LC)
      have BF := Lib.hid (show Below w.heap.size w (((v3).drew).setRow (w.heap.size + 1) LC) from (Below.drew (KB.out _ (TnL.refl _ _))).grown (grownBy_setRow _ _ _) (by have := (KB.out _ (TnL.refl _ _)).size; exact this) (fun j e => by cases e; omega))
      refine wp_region_held_drew (S := fun W' => W' = (v3).drew ∨ W' = ((v3).drew).setRow (w.heap.size + 1) LC) (by kernel_rfl) (.inl rfl) (fun hH => ?_)
      refine takeA (some 32) #[true, false, false, false] (i := 0) (v := _) rfl (by kernel_rfl) (by kernel_rfl) (by kernel_rfl) (fun _ _ _ h => h) (yieldsIf_rowA (by rfl) rfl rfl (fun w h => by rcases h with rfl | rfl; exact BL.out.row; exact BL2.out.row) HUL.out rfl HLI.out) hH rfl rfl ?_
      simp only [Act.put, List.setIfInBounds_toArray, List.set_cons_zero, List.set_cons_succ]
      refine takeA (some 2) #[true, true, false, false] (i := 1) (v := _) rfl (by kernel_rfl) (by kernel_rfl) (by kernel_rfl) (fun _ _ _ h => h) (Or.inl ⟨by rfl, by intro w hSw; go_simp; try with_reducible rfl⟩) hH rfl rfl ?_
      simp only [Act.put, List.setIfInBounds_toArray, List.set_cons_zero, List.set_cons_succ]
      refine takeA (some 3) #[true, true, true, false] (i := 2) (v := _) rfl (by kernel_rfl) (by kernel_rfl) (by kernel_rfl) (fun _ _ _ h => h) (Or.inl ⟨by rfl, by intro w hSw; go_simp; try with_reducible rfl⟩) hH rfl rfl ?_
      simp only [Act.put, List.setIfInBounds_toArray, List.set_cons_zero, List.set_cons_succ]
      refine lastStoreA (i := 3) (by kernel_rfl) rfl (by kernel_rfl) rfl (by rfl) rfl rfl rfl BW.out (by rw [HLS.out]; rfl) HLO.out HLI.out (.inr rfl) ?_
      go_wp2
      refine bodyPost_ret (results_tta rfl (by kernel_rfl) BW2.out.row HUL.out rfl HLI.out) rfl ⟨?_, BF.out⟩
      rw [HCN.out.1, HCN.out.2, HLC.out]; rfl
    · by_cases e2 : 1099511627776 < d.clock
      · have HCN := Lib.hid (show checkNo d = (1, 0) ∧ lookR d = (none, M0) from ⟨if_neg (fun h => by have := h; unfold argOk at this; omega), if_neg (fun h => by have := h; unfold argOk at this; omega)⟩)
        obtain ⟨LC, hLC⟩ : ∃ LC, lookC (d.dc As cs Af cf) M0 (tR none) = LC := ⟨_, rfl⟩
        have HLC := Lib.hid hLC
        have HLS := Lib.hid (show LC.size = 40 by rw [← hLC, lookC_size rfl rfl (tR_len _)])
        have HLI := Lib.hid (show (Tryd.prog.info? 28).map (·.size) = some LC.size by rw [HLS.out]; exact lookInfo)
        have HLO := Lib.hid (show ∀ v ∈ LC.toList, v.oneCell' = true by rw [← hLC]; exact lookC_one)
        have H30 : LookAt v3 v2.heap.size 28 (tR none) d As cs Af cf M0 := H3.out
        have HBL := Lib.hid (show Blk v3 v2.heap.size 28 LC from hLC ▸ H30.blk)
        clear H30 hLC
        go_wp2_with (first
          | ((with_reducible show wpList _ _ _ (Oper.mk (some 6) (Op.load _ _) _ _ _ _ :: _) _ _); rw [HV1.out, HV2.out]; refine wpList_load_at (ty := 25) rfl rfl rfl RD.out HU.out rfl dumpInfo ?_)
          | ((with_reducible show wpList _ _ _ (Oper.mk none _ _ _ _ _ :: _) _ (World.alloc _ _)); refine wpList_store_new (ty := 28) rfl rfl rfl rfl rfl (lookC_one (d := d) (As := As) (cs := cs) (Af := Af) (cf := cf) (M := M0) (o := none)) lookInfo ?_; rw [HV3.out])
          | (go_at_call 19; fail))
        have BL := Lib.hid (show Blk (v3).drew v2.heap.size 28 LC from HBL.out.drew)
        have BW := Lib.hid (show Blk (v3).drew (w.heap.size + 1) 28 #[.int .i64 0, .int .i64 0, .slice none 0 0, .slice none 0 0, .int .i64 0, .int .i64 0, .int .i64 0, .int .i64 0, .int .i64 0, .int .i64 0, .int .i64 0, .int .i64 0, .int .i64 0, .int .i64 0, .int .i64 0, .int .i64 0, .int .i64 0, .int .i64 0, .int .i64 0, .int .i64 0, .int .i64 0, .int .i64 0, .int .i64 0, .int .i64 0, .int .i64 0, .int .i64 0, .int .i64 0, .int .i64 0, .int .i64 0, .int .i64 0, .int .i64 0, .int .i64 0, .int .i64 0, .int .i64 0, .int .i64 0, .int .i64 0, .int .i64 0, .int .i64 0, .bool false, .int .i64 0] from (KR.out _ (TnL.refl _ _)).drew)
        have BL2 := Lib.hid (BL.out.setRow_ne (k := w.heap.size + 1) (by omega) LC)
        have BW2 := Lib.hid (BW.out.setRow_same LC)
        have BF := Lib.hid (show Below w.heap.size w (((v3).drew).setRow (w.heap.size + 1) LC) from (Below.drew (KB.out _ (TnL.refl _ _))).grown (grownBy_setRow _ _ _) (by have := (KB.out _ (TnL.refl _ _)).size; exact this) (fun j e => by cases e; omega))
        refine wp_region_held_drew (S := fun W' => W' = (v3).drew ∨ W' = ((v3).drew).setRow (w.heap.size + 1) LC) (by kernel_rfl) (.inl rfl) (fun hH => ?_)
        refine takeA (some 32) #[true, false, false, false] (i := 0) (v := _) rfl (by kernel_rfl) (by kernel_rfl) (by kernel_rfl) (fun _ _ _ h => h) (yieldsIf_rowA (by rfl) rfl rfl (fun w h => by rcases h with rfl | rfl; exact BL.out.row; exact BL2.out.row) HUL.out rfl HLI.out) hH rfl rfl ?_
        simp only [Act.put, List.setIfInBounds_toArray, List.set_cons_zero, List.set_cons_succ]
        refine takeA (some 2) #[true, true, false, false] (i := 1) (v := _) rfl (by kernel_rfl) (by kernel_rfl) (by kernel_rfl) (fun _ _ _ h => h) (Or.inl ⟨by rfl, by intro w hSw; go_simp; try with_reducible rfl⟩) hH rfl rfl ?_
        simp only [Act.put, List.setIfInBounds_toArray, List.set_cons_zero, List.set_cons_succ]
        refine takeA (some 3) #[true, true, true, false] (i := 2) (v := _) rfl (by kernel_rfl) (by kernel_rfl) (by kernel_rfl) (fun _ _ _ h => h) (Or.inl ⟨by rfl, by intro w hSw; go_simp; try with_reducible rfl⟩) hH rfl rfl ?_
        simp only [Act.put, List.setIfInBounds_toArray, List.set_cons_zero, List.set_cons_succ]
        refine lastStoreA (i := 3) (by kernel_rfl) rfl (by kernel_rfl) rfl (by rfl) rfl rfl rfl BW.out (by rw [HLS.out]; rfl) HLO.out HLI.out (.inr rfl) ?_
        go_wp2
        refine bodyPost_ret (results_tta rfl (by kernel_rfl) BW2.out.row HUL.out rfl HLI.out) rfl ⟨?_, BF.out⟩
        rw [HCN.out.1, HCN.out.2, HLC.out]; rfl
      · by_cases e3 : d.births < 0
        · have HCN := Lib.hid (show checkNo d = (1, 0) ∧ lookR d = (none, M0) from ⟨if_neg (fun h => by have := h; unfold argOk at this; omega), if_neg (fun h => by have := h; unfold argOk at this; omega)⟩)
          obtain ⟨LC, hLC⟩ : ∃ LC, lookC (d.dc As cs Af cf) M0 (tR none) = LC := ⟨_, rfl⟩
          have HLC := Lib.hid hLC
          have HLS := Lib.hid (show LC.size = 40 by rw [← hLC, lookC_size rfl rfl (tR_len _)])
          have HLI := Lib.hid (show (Tryd.prog.info? 28).map (·.size) = some LC.size by rw [HLS.out]; exact lookInfo)
          have HLO := Lib.hid (show ∀ v ∈ LC.toList, v.oneCell' = true by rw [← hLC]; exact lookC_one)
          have H30 : LookAt v3 v2.heap.size 28 (tR none) d As cs Af cf M0 := H3.out
          have HBL := Lib.hid (show Blk v3 v2.heap.size 28 LC from hLC ▸ H30.blk)
          clear H30 hLC
          go_wp2_with (first
            | ((with_reducible show wpList _ _ _ (Oper.mk (some 6) (Op.load _ _) _ _ _ _ :: _) _ _); rw [HV1.out, HV2.out]; refine wpList_load_at (ty := 25) rfl rfl rfl RD.out HU.out rfl dumpInfo ?_)
            | ((with_reducible show wpList _ _ _ (Oper.mk none _ _ _ _ _ :: _) _ (World.alloc _ _)); refine wpList_store_new (ty := 28) rfl rfl rfl rfl rfl (lookC_one (d := d) (As := As) (cs := cs) (Af := Af) (cf := cf) (M := M0) (o := none)) lookInfo ?_; rw [HV3.out])
            | (go_at_call 19; fail))
          have BL := Lib.hid (show Blk (v3).drew v2.heap.size 28 LC from HBL.out.drew)
          have BW := Lib.hid (show Blk (v3).drew (w.heap.size + 1) 28 #[.int .i64 0, .int .i64 0, .slice none 0 0, .slice none 0 0, .int .i64 0, .int .i64 0, .int .i64 0, .int .i64 0, .int .i64 0, .int .i64 0, .int .i64 0, .int .i64 0, .int .i64 0, .int .i64 0, .int .i64 0, .int .i64 0, .int .i64 0, .int .i64 0, .int .i64 0, .int .i64 0, .int .i64 0, .int .i64 0, .int .i64 0, .int .i64 0, .int .i64 0, .int .i64 0, .int .i64 0, .int .i64 0, .int .i64 0, .int .i64 0, .int .i64 0, .int .i64 0, .int .i64 0, .int .i64 0, .int .i64 0, .int .i64 0, .int .i64 0, .int .i64 0, .bool false, .int .i64 0] from (KR.out _ (TnL.refl _ _)).drew)
          have BL2 := Lib.hid (BL.out.setRow_ne (k := w.heap.size + 1) (by omega) LC)
          have BW2 := Lib.hid (BW.out.setRow_same LC)
          have BF := Lib.hid (show Below w.heap.size w (((v3).drew).setRow (w.heap.size + 1) LC) from (Below.drew (KB.out _ (TnL.refl _ _))).grown (grownBy_setRow _ _ _) (by have := (KB.out _ (TnL.refl _ _)).size; exact this) (fun j e => by cases e; omega))
          refine wp_region_held_drew (S := fun W' => W' = (v3).drew ∨ W' = ((v3).drew).setRow (w.heap.size + 1) LC) (by kernel_rfl) (.inl rfl) (fun hH => ?_)
          refine takeA (some 32) #[true, false, false, false] (i := 0) (v := _) rfl (by kernel_rfl) (by kernel_rfl) (by kernel_rfl) (fun _ _ _ h => h) (yieldsIf_rowA (by rfl) rfl rfl (fun w h => by rcases h with rfl | rfl; exact BL.out.row; exact BL2.out.row) HUL.out rfl HLI.out) hH rfl rfl ?_
          simp only [Act.put, List.setIfInBounds_toArray, List.set_cons_zero, List.set_cons_succ]
          refine takeA (some 2) #[true, true, false, false] (i := 1) (v := _) rfl (by kernel_rfl) (by kernel_rfl) (by kernel_rfl) (fun _ _ _ h => h) (Or.inl ⟨by rfl, by intro w hSw; go_simp; try with_reducible rfl⟩) hH rfl rfl ?_
          simp only [Act.put, List.setIfInBounds_toArray, List.set_cons_zero, List.set_cons_succ]
          refine takeA (some 3) #[true, true, true, false] (i := 2) (v := _) rfl (by kernel_rfl) (by kernel_rfl) (by kernel_rfl) (fun _ _ _ h => h) (Or.inl ⟨by rfl, by intro w hSw; go_simp; try with_reducible rfl⟩) hH rfl rfl ?_
          simp only [Act.put, List.setIfInBounds_toArray, List.set_cons_zero, List.set_cons_succ]
          refine lastStoreA (i := 3) (by kernel_rfl) rfl (by kernel_rfl) rfl (by rfl) rfl rfl rfl BW.out (by rw [HLS.out]; rfl) HLO.out HLI.out (.inr rfl) ?_
          go_wp2
          refine bodyPost_ret (results_tta rfl (by kernel_rfl) BW2.out.row HUL.out rfl HLI.out) rfl ⟨?_, BF.out⟩
          rw [HCN.out.1, HCN.out.2, HLC.out]; rfl
        · by_cases e4 : 1048576 < d.births
          · have HCN := Lib.hid (show checkNo d = (1, 0) ∧ lookR d = (none, M0) from ⟨if_neg (fun h => by have := h; unfold argOk at this; omega), if_neg (fun h => by have := h; unfold argOk at this; omega)⟩)
            obtain ⟨LC, hLC⟩ : ∃ LC, lookC (d.dc As cs Af cf) M0 (tR none) = LC := ⟨_, rfl⟩
            have HLC := Lib.hid hLC
            have HLS := Lib.hid (show LC.size = 40 by rw [← hLC, lookC_size rfl rfl (tR_len _)])
            have HLI := Lib.hid (show (Tryd.prog.info? 28).map (·.size) = some LC.size by rw [HLS.out]; exact lookInfo)
            have HLO := Lib.hid (show ∀ v ∈ LC.toList, v.oneCell' = true by rw [← hLC]; exact lookC_one)
            have H30 : LookAt v3 v2.heap.size 28 (tR none) d As cs Af cf M0 := H3.out
            have HBL := Lib.hid (show Blk v3 v2.heap.size 28 LC from hLC ▸ H30.blk)
            clear H30 hLC
            go_wp2_with (first
              | ((with_reducible show wpList _ _ _ (Oper.mk (some 6) (Op.load _ _) _ _ _ _ :: _) _ _); rw [HV1.out, HV2.out]; refine wpList_load_at (ty := 25) rfl rfl rfl RD.out HU.out rfl dumpInfo ?_)
              | ((with_reducible show wpList _ _ _ (Oper.mk none _ _ _ _ _ :: _) _ (World.alloc _ _)); refine wpList_store_new (ty := 28) rfl rfl rfl rfl rfl (lookC_one (d := d) (As := As) (cs := cs) (Af := Af) (cf := cf) (M := M0) (o := none)) lookInfo ?_; rw [HV3.out])
              | (go_at_call 19; fail))
            have BL := Lib.hid (show Blk (v3).drew v2.heap.size 28 LC from HBL.out.drew)
            have BW := Lib.hid (show Blk (v3).drew (w.heap.size + 1) 28 #[.int .i64 0, .int .i64 0, .slice none 0 0, .slice none 0 0, .int .i64 0, .int .i64 0, .int .i64 0, .int .i64 0, .int .i64 0, .int .i64 0, .int .i64 0, .int .i64 0, .int .i64 0, .int .i64 0, .int .i64 0, .int .i64 0, .int .i64 0, .int .i64 0, .int .i64 0, .int .i64 0, .int .i64 0, .int .i64 0, .int .i64 0, .int .i64 0, .int .i64 0, .int .i64 0, .int .i64 0, .int .i64 0, .int .i64 0, .int .i64 0, .int .i64 0, .int .i64 0, .int .i64 0, .int .i64 0, .int .i64 0, .int .i64 0, .int .i64 0, .int .i64 0, .bool false, .int .i64 0] from (KR.out _ (TnL.refl _ _)).drew)
            have BL2 := Lib.hid (BL.out.setRow_ne (k := w.heap.size + 1) (by omega) LC)
            have BW2 := Lib.hid (BW.out.setRow_same LC)
            have BF := Lib.hid (show Below w.heap.size w (((v3).drew).setRow (w.heap.size + 1) LC) from (Below.drew (KB.out _ (TnL.refl _ _))).grown (grownBy_setRow _ _ _) (by have := (KB.out _ (TnL.refl _ _)).size; exact this) (fun j e => by cases e; omega))
            refine wp_region_held_drew (S := fun W' => W' = (v3).drew ∨ W' = ((v3).drew).setRow (w.heap.size + 1) LC) (by kernel_rfl) (.inl rfl) (fun hH => ?_)
            refine takeA (some 32) #[true, false, false, false] (i := 0) (v := _) rfl (by kernel_rfl) (by kernel_rfl) (by kernel_rfl) (fun _ _ _ h => h) (yieldsIf_rowA (by rfl) rfl rfl (fun w h => by rcases h with rfl | rfl; exact BL.out.row; exact BL2.out.row) HUL.out rfl HLI.out) hH rfl rfl ?_
            simp only [Act.put, List.setIfInBounds_toArray, List.set_cons_zero, List.set_cons_succ]
            refine takeA (some 2) #[true, true, false, false] (i := 1) (v := _) rfl (by kernel_rfl) (by kernel_rfl) (by kernel_rfl) (fun _ _ _ h => h) (Or.inl ⟨by rfl, by intro w hSw; go_simp; try with_reducible rfl⟩) hH rfl rfl ?_
            simp only [Act.put, List.setIfInBounds_toArray, List.set_cons_zero, List.set_cons_succ]
            refine takeA (some 3) #[true, true, true, false] (i := 2) (v := _) rfl (by kernel_rfl) (by kernel_rfl) (by kernel_rfl) (fun _ _ _ h => h) (Or.inl ⟨by rfl, by intro w hSw; go_simp; try with_reducible rfl⟩) hH rfl rfl ?_
            simp only [Act.put, List.setIfInBounds_toArray, List.set_cons_zero, List.set_cons_succ]
            refine lastStoreA (i := 3) (by kernel_rfl) rfl (by kernel_rfl) rfl (by rfl) rfl rfl rfl BW.out (by rw [HLS.out]; rfl) HLO.out HLI.out (.inr rfl) ?_
            go_wp2
            refine bodyPost_ret (results_tta rfl (by kernel_rfl) BW2.out.row HUL.out rfl HLI.out) rfl ⟨?_, BF.out⟩
            rw [HCN.out.1, HCN.out.2, HLC.out]; rfl
          · have HA := Lib.hid (show argOk d from ⟨E0.out, by omega, by omega, by omega, by omega⟩)
            have HFA := Lib.hid (rfrees_any d E0.out v2.heap.size As cs Af cf d.free.length rfl hnm M0 v3 H3.out)
            go_wp2_with (first
              | ((with_reducible show wpList _ _ _ (Oper.mk (some 6) (Op.load _ _) _ _ _ _ :: _) _ _); rw [HV1.out, HV2.out]; refine wpList_load_at (ty := 25) rfl rfl rfl RD.out HU.out rfl dumpInfo ?_)
              | ((with_reducible show wpList _ _ _ (Oper.mk none _ _ _ _ _ :: _) _ (World.alloc _ _)); refine wpList_store_new (ty := 28) rfl rfl rfl rfl rfl (lookC_one (d := d) (As := As) (cs := cs) (Af := Af) (cf := cf) (M := M0) (o := none)) lookInfo ?_; rw [HV3.out])
              | (go_at_call 19; fail))
            refine HFA.out.mono ?_
            rintro e w2 ⟨rfl, h2, t2⟩
            obtain ⟨fr, hfr⟩ : ∃ fr, freesGo d d.free M0 = fr := ⟨_, rfl⟩
            rw [hfr] at h2
            have HFR := Lib.hid hfr
            have G2 := Lib.hid h2
            have T2 := Lib.hid t2
            have y5 := KD.out _ t2 5 _ X5.out
            clear hfr h2 t2 x0 x1 x2 HFA
            rcases ho : fr.1 with _ | a1
            · have HO1 := Lib.hid ho
              have y38 := RLook.wrong0 G2.out HO1.out
              have HR2 := Lib.hid (rring_any d E0.out v2.heap.size As cs Af cf 2 (.inl rfl) 33 d.roots (-1) fr.2 w2 (unseen_lt (LookAt.len G2.out)) (.inl rfl) (show RLook v2.heap.size d As cs Af cf (none, fr.2) w2 from G2.out.at0 HO1.out))
              clear ho
              go_wp2_with (go_at_call 20; fail)
              refine HR2.out.mono ?_
              rintro e w3 ⟨rfl, h3, t3⟩
              obtain ⟨r2, hr2⟩ : ∃ r2, ringTop d 33 d.roots (-1) 2 fr.2 = r2 := ⟨_, rfl⟩
              rw [hr2] at h3
              have HQ2 := Lib.hid hr2
              have G3 := Lib.hid h3
              have T3 := Lib.hid (T2.out.trans t3)
              have y4 := KD.out _ (T2.out.trans t3) 4 _ X4.out
              clear hr2 h3 t3 y5 y38 HR2
              rcases ho : r2.1 with _ | a2
              · have HO2 := Lib.hid ho
                have y38 := RLook.wrong0 G3.out HO2.out
                have HR3 := Lib.hid (rring_any d E0.out v2.heap.size As cs Af cf 3 (.inr rfl) 33 d.garbage (-1) r2.2 w3 (unseen_lt (LookAt.len G3.out)) (.inl rfl) (show RLook v2.heap.size d As cs Af cf (none, r2.2) w3 from G3.out.at0 HO2.out))
                clear ho
                go_wp2_with (go_at_call 20; fail)
                refine HR3.out.mono ?_
                rintro e w4 ⟨rfl, h4, t4⟩
                obtain ⟨r3, hr3⟩ : ∃ r3, ringTop d 33 d.garbage (-1) 3 r2.2 = r3 := ⟨_, rfl⟩
                rw [hr3] at h4
                have HQ3 := Lib.hid hr3
                have G4 := Lib.hid h4
                have T4 := Lib.hid (T3.out.trans t4)
                clear hr3 h4 t4 y4 y38 HR3
                rcases ho : r3.1 with _ | a3
                · have HO3 := Lib.hid ho
                  have y38 := RLook.wrong0 G4.out HO3.out
                  have HLX := Lib.hid (lookX_4 HFR.out HO1.out HQ2.out HO2.out HQ3.out HO3.out)
                  have HMK := Lib.hid (show MOk r3.2 by have := lookX_ok d; rw [HLX.out] at this; exact this)
                  have HRE := Lib.hid (rrest_any d E0.out v2.heap.size As cs Af cf r3.2 HMK.out w4 (show RLook v2.heap.size d As cs Af cf (none, r3.2) w4 from G4.out.at0 HO3.out))
                  clear ho
                  go_wp2_with (go_at_call 21; fail)
                  refine HRE.out.mono ?_
                  rintro e w5 ⟨rfl, h5, t5⟩
                  obtain ⟨r4, hr4⟩ : ∃ r4 : Option Int × List Int, (restX d r3.2, r3.2) = r4 := ⟨_, rfl⟩
                  rw [hr4] at h5
                  have HLY := Lib.hid (HLX.out.trans hr4)
                  have G5 := Lib.hid h5
                  have T5 := Lib.hid (T4.out.trans t5)
                  clear hr4 h5 t5 y38 HRE
                  rcases ho : r4.1 with _ | a4
                  · have HO := Lib.hid ho
                    clear ho
                    have HCN := Lib.hid (show checkNo d = (0, 0) ∧ lookR d = r4 from ⟨by unfold checkNo; rw [if_pos HA.out, HLY.out, HO.out], by unfold lookR; rw [if_pos HA.out, HLY.out]⟩)
                    obtain ⟨LC, hLC⟩ : ∃ LC, lookC (d.dc As cs Af cf) r4.2 (tR r4.1) = LC := ⟨_, rfl⟩
                    have HLC := Lib.hid hLC
                    have HLS := Lib.hid (show LC.size = 40 by rw [← hLC, lookC_size rfl (show r4.2.length = 32 from LookAt.len G5.out) (tR_len _)])
                    have HLI := Lib.hid (show (Tryd.prog.info? 28).map (·.size) = some LC.size by rw [HLS.out]; exact lookInfo)
                    have HLO := Lib.hid (show ∀ v ∈ LC.toList, v.oneCell' = true by rw [← hLC]; exact lookC_one)
                    have HBL := Lib.hid (show Blk w5 v2.heap.size 28 LC from hLC ▸ LookAt.blk G5.out)
                    have y38 := RLook.wrong0 G5.out HO.out
                    clear hLC
                    go_wp2
                    have BL := Lib.hid (show Blk (w5).drew v2.heap.size 28 LC from HBL.out.drew)
                    have BW := Lib.hid (show Blk (w5).drew (w.heap.size + 1) 28 #[.int .i64 0, .int .i64 0, .slice none 0 0, .slice none 0 0, .int .i64 0, .int .i64 0, .int .i64 0, .int .i64 0, .int .i64 0, .int .i64 0, .int .i64 0, .int .i64 0, .int .i64 0, .int .i64 0, .int .i64 0, .int .i64 0, .int .i64 0, .int .i64 0, .int .i64 0, .int .i64 0, .int .i64 0, .int .i64 0, .int .i64 0, .int .i64 0, .int .i64 0, .int .i64 0, .int .i64 0, .int .i64 0, .int .i64 0, .int .i64 0, .int .i64 0, .int .i64 0, .int .i64 0, .int .i64 0, .int .i64 0, .int .i64 0, .int .i64 0, .int .i64 0, .bool false, .int .i64 0] from (KR.out _ T5.out).drew)
                    have BL2 := Lib.hid (BL.out.setRow_ne (k := w.heap.size + 1) (by omega) LC)
                    have BW2 := Lib.hid (BW.out.setRow_same LC)
                    have BF := Lib.hid (show Below w.heap.size w (((w5).drew).setRow (w.heap.size + 1) LC) from (Below.drew (KB.out _ T5.out)).grown (grownBy_setRow _ _ _) (by have := (KB.out _ T5.out).size; exact this) (fun j e => by cases e; omega))
                    refine wp_region_held_drew (S := fun W' => W' = (w5).drew ∨ W' = ((w5).drew).setRow (w.heap.size + 1) LC) (by kernel_rfl) (.inl rfl) (fun hH => ?_)
                    refine takeA (some 55) #[true, false, false, false] (i := 0) (v := _) rfl (by kernel_rfl) (by kernel_rfl) (by kernel_rfl) (fun _ _ _ h => h) (yieldsIf_rowA (by rfl) rfl rfl (fun w h => by rcases h with rfl | rfl; exact BL.out.row; exact BL2.out.row) HUL.out rfl HLI.out) hH rfl rfl ?_
                    simp only [Act.put, List.setIfInBounds_toArray, List.set_cons_zero, List.set_cons_succ]
                    refine takeA (some 2) #[true, true, false, false] (i := 1) (v := _) rfl (by kernel_rfl) (by kernel_rfl) (by kernel_rfl) (fun _ _ _ h => h) (Or.inl ⟨by rfl, by intro w hSw; go_simp; try with_reducible rfl⟩) hH rfl rfl ?_
                    simp only [Act.put, List.setIfInBounds_toArray, List.set_cons_zero, List.set_cons_succ]
                    refine takeA (some 3) #[true, true, true, false] (i := 2) (v := _) rfl (by kernel_rfl) (by kernel_rfl) (by kernel_rfl) (fun _ _ _ h => h) (Or.inl ⟨by rfl, by intro w hSw; go_simp; try with_reducible rfl⟩) hH rfl rfl ?_
                    simp only [Act.put, List.setIfInBounds_toArray, List.set_cons_zero, List.set_cons_succ]
                    refine lastStoreA (i := 3) (by kernel_rfl) rfl (by kernel_rfl) rfl (by rfl) rfl rfl rfl BW.out (by rw [HLS.out]; rfl) HLO.out HLI.out (.inr rfl) ?_
                    go_wp2
                    refine bodyPost_ret (results_tta rfl (by kernel_rfl) BW2.out.row HUL.out rfl HLI.out) rfl ⟨?_, BF.out⟩
                    rw [HCN.out.1, HCN.out.2, HLC.out]; rfl
                  · have HO := Lib.hid ho
                    clear ho
                    have HCN := Lib.hid (show checkNo d = (24, a4) ∧ lookR d = r4 from ⟨by unfold checkNo; rw [if_pos HA.out, HLY.out, HO.out], by unfold lookR; rw [if_pos HA.out, HLY.out]⟩)
                    obtain ⟨LC, hLC⟩ : ∃ LC, lookC (d.dc As cs Af cf) r4.2 (tR r4.1) = LC := ⟨_, rfl⟩
                    have HLC := Lib.hid hLC
                    have HLS := Lib.hid (show LC.size = 40 by rw [← hLC, lookC_size rfl (show r4.2.length = 32 from LookAt.len G5.out) (tR_len _)])
                    have HLI := Lib.hid (show (Tryd.prog.info? 28).map (·.size) = some LC.size by rw [HLS.out]; exact lookInfo)
                    have HLO := Lib.hid (show ∀ v ∈ LC.toList, v.oneCell' = true by rw [← hLC]; exact lookC_one)
                    have HBL := Lib.hid (show Blk w5 v2.heap.size 28 LC from hLC ▸ LookAt.blk G5.out)
                    have HL39 := Lib.hid (show LC[39]? = some (.int .i64 a4) by rw [← (HBL.out.cell 39)]; exact (RLook.wrong1 G5.out HO.out).2)
                    have y38 := (RLook.wrong1 G5.out HO.out).1
                    have z1 : (w5).drew.cell? ⟨v2.heap.size, 39, none⟩ = some (.int .i64 a4) := (HBL.out.drew.cell 39).trans HL39.out
                    have z2 : ((w5).drew.setRow (w.heap.size + 1) LC).cell? ⟨v2.heap.size, 39, none⟩ = some (.int .i64 a4) := ((HBL.out.drew.setRow_ne (k := w.heap.size + 1) (by omega) LC).cell 39).trans HL39.out
                    have Z1 := Lib.hid z1
                    have Z2 := Lib.hid z2
                    clear z1 z2
                    clear hLC
                    go_wp2
                    have BL := Lib.hid (show Blk (w5).drew v2.heap.size 28 LC from HBL.out.drew)
                    have BW := Lib.hid (show Blk (w5).drew (w.heap.size + 1) 28 #[.int .i64 0, .int .i64 0, .slice none 0 0, .slice none 0 0, .int .i64 0, .int .i64 0, .int .i64 0, .int .i64 0, .int .i64 0, .int .i64 0, .int .i64 0, .int .i64 0, .int .i64 0, .int .i64 0, .int .i64 0, .int .i64 0, .int .i64 0, .int .i64 0, .int .i64 0, .int .i64 0, .int .i64 0, .int .i64 0, .int .i64 0, .int .i64 0, .int .i64 0, .int .i64 0, .int .i64 0, .int .i64 0, .int .i64 0, .int .i64 0, .int .i64 0, .int .i64 0, .int .i64 0, .int .i64 0, .int .i64 0, .int .i64 0, .int .i64 0, .int .i64 0, .bool false, .int .i64 0] from (KR.out _ T5.out).drew)
                    have BL2 := Lib.hid (BL.out.setRow_ne (k := w.heap.size + 1) (by omega) LC)
                    have BW2 := Lib.hid (BW.out.setRow_same LC)
                    have BF := Lib.hid (show Below w.heap.size w (((w5).drew).setRow (w.heap.size + 1) LC) from (Below.drew (KB.out _ T5.out)).grown (grownBy_setRow _ _ _) (by have := (KB.out _ T5.out).size; exact this) (fun j e => by cases e; omega))
                    refine wp_region_held_drew (S := fun W' => W' = (w5).drew ∨ W' = ((w5).drew).setRow (w.heap.size + 1) LC) (by kernel_rfl) (.inl rfl) (fun hH => ?_)
                    refine takeA (some 52) #[true, false, false, false, false, false] (i := 0) (v := _) rfl (by kernel_rfl) (by kernel_rfl) (by kernel_rfl) (fun _ _ _ h => h) (Or.inl ⟨by rfl, by intro w hSw; go_simp; try with_reducible rfl⟩) hH rfl rfl ?_
                    simp only [Act.put, List.setIfInBounds_toArray, List.set_cons_zero, List.set_cons_succ]
                    refine takeA (some 53) #[true, true, false, false, false, false] (i := 1) (v := _) rfl (by kernel_rfl) (by kernel_rfl) (by kernel_rfl) (fun _ _ _ h => h) (yieldsIf_intA (by rfl) rfl rfl (fun w h => by rcases h with rfl | rfl; exact Z1.out; exact Z2.out)) hH rfl rfl ?_
                    simp only [Act.put, List.setIfInBounds_toArray, List.set_cons_zero, List.set_cons_succ]
                    refine takeA (some 54) #[true, true, true, false, false, false] (i := 2) (v := _) rfl (by kernel_rfl) (by kernel_rfl) (by kernel_rfl) (fun _ _ _ h => h) (yieldsIf_rowA (by rfl) rfl rfl (fun w h => by rcases h with rfl | rfl; exact BL.out.row; exact BL2.out.row) HUL.out rfl HLI.out) hH rfl rfl ?_
                    simp only [Act.put, List.setIfInBounds_toArray, List.set_cons_zero, List.set_cons_succ]
                    refine takeA (some 2) #[true, true, true, true, false, false] (i := 3) (v := _) rfl (by kernel_rfl) (by kernel_rfl) (by kernel_rfl) (fun _ _ _ h => h) (Or.inl ⟨by rfl, by intro w hSw; go_simp; try with_reducible rfl⟩) hH rfl rfl ?_
                    simp only [Act.put, List.setIfInBounds_toArray, List.set_cons_zero, List.set_cons_succ]
                    refine takeA (some 3) #[true, true, true, true, true, false] (i := 4) (v := _) rfl (by kernel_rfl) (by kernel_rfl) (by kernel_rfl) (fun _ _ _ h => h) (Or.inl ⟨by rfl, by intro w hSw; go_simp; try with_reducible rfl⟩) hH rfl rfl ?_
                    simp only [Act.put, List.setIfInBounds_toArray, List.set_cons_zero, List.set_cons_succ]
                    refine lastStoreA (i := 5) (by kernel_rfl) rfl (by kernel_rfl) rfl (by rfl) rfl rfl rfl BW.out (by rw [HLS.out]; rfl) HLO.out HLI.out (.inr rfl) ?_
                    go_wp2
                    refine bodyPost_ret (results_tta rfl (by kernel_rfl) BW2.out.row HUL.out rfl HLI.out) rfl ⟨?_, BF.out⟩
                    rw [HCN.out.1, HCN.out.2, HLC.out]; rfl
                · have HO := Lib.hid ho
                  have HLX := Lib.hid (lookX_3 HFR.out HO1.out HQ2.out HO2.out HQ3.out ho)
                  clear ho
                  have HCN := Lib.hid (show checkNo d = (24, a3) ∧ lookR d = r3 from ⟨by unfold checkNo; rw [if_pos HA.out, HLX.out, HO.out], by unfold lookR; rw [if_pos HA.out, HLX.out]⟩)
                  obtain ⟨LC, hLC⟩ : ∃ LC, lookC (d.dc As cs Af cf) r3.2 (tR r3.1) = LC := ⟨_, rfl⟩
                  have HLC := Lib.hid hLC
                  have HLS := Lib.hid (show LC.size = 40 by rw [← hLC, lookC_size rfl (show r3.2.length = 32 from LookAt.len G4.out) (tR_len _)])
                  have HLI := Lib.hid (show (Tryd.prog.info? 28).map (·.size) = some LC.size by rw [HLS.out]; exact lookInfo)
                  have HLO := Lib.hid (show ∀ v ∈ LC.toList, v.oneCell' = true by rw [← hLC]; exact lookC_one)
                  have HBL := Lib.hid (show Blk w4 v2.heap.size 28 LC from hLC ▸ LookAt.blk G4.out)
                  have HL39 := Lib.hid (show LC[39]? = some (.int .i64 a3) by rw [← (HBL.out.cell 39)]; exact (RLook.wrong1 G4.out HO.out).2)
                  have y38 := (RLook.wrong1 G4.out HO.out).1
                  have z1 : (w4).drew.cell? ⟨v2.heap.size, 39, none⟩ = some (.int .i64 a3) := (HBL.out.drew.cell 39).trans HL39.out
                  have z2 : ((w4).drew.setRow (w.heap.size + 1) LC).cell? ⟨v2.heap.size, 39, none⟩ = some (.int .i64 a3) := ((HBL.out.drew.setRow_ne (k := w.heap.size + 1) (by omega) LC).cell 39).trans HL39.out
                  have Z1 := Lib.hid z1
                  have Z2 := Lib.hid z2
                  clear z1 z2
                  clear hLC
                  go_wp2
                  have BL := Lib.hid (show Blk (w4).drew v2.heap.size 28 LC from HBL.out.drew)
                  have BW := Lib.hid (show Blk (w4).drew (w.heap.size + 1) 28 #[.int .i64 0, .int .i64 0, .slice none 0 0, .slice none 0 0, .int .i64 0, .int .i64 0, .int .i64 0, .int .i64 0, .int .i64 0, .int .i64 0, .int .i64 0, .int .i64 0, .int .i64 0, .int .i64 0, .int .i64 0, .int .i64 0, .int .i64 0, .int .i64 0, .int .i64 0, .int .i64 0, .int .i64 0, .int .i64 0, .int .i64 0, .int .i64 0, .int .i64 0, .int .i64 0, .int .i64 0, .int .i64 0, .int .i64 0, .int .i64 0, .int .i64 0, .int .i64 0, .int .i64 0, .int .i64 0, .int .i64 0, .int .i64 0, .int .i64 0, .int .i64 0, .bool false, .int .i64 0] from (KR.out _ T4.out).drew)
                  have BL2 := Lib.hid (BL.out.setRow_ne (k := w.heap.size + 1) (by omega) LC)
                  have BW2 := Lib.hid (BW.out.setRow_same LC)
                  have BF := Lib.hid (show Below w.heap.size w (((w4).drew).setRow (w.heap.size + 1) LC) from (Below.drew (KB.out _ T4.out)).grown (grownBy_setRow _ _ _) (by have := (KB.out _ T4.out).size; exact this) (fun j e => by cases e; omega))
                  refine wp_region_held_drew (S := fun W' => W' = (w4).drew ∨ W' = ((w4).drew).setRow (w.heap.size + 1) LC) (by kernel_rfl) (.inl rfl) (fun hH => ?_)
                  refine takeA (some 52) #[true, false, false, false, false, false] (i := 0) (v := _) rfl (by kernel_rfl) (by kernel_rfl) (by kernel_rfl) (fun _ _ _ h => h) (Or.inl ⟨by rfl, by intro w hSw; go_simp; try with_reducible rfl⟩) hH rfl rfl ?_
                  simp only [Act.put, List.setIfInBounds_toArray, List.set_cons_zero, List.set_cons_succ]
                  refine takeA (some 53) #[true, true, false, false, false, false] (i := 1) (v := _) rfl (by kernel_rfl) (by kernel_rfl) (by kernel_rfl) (fun _ _ _ h => h) (yieldsIf_intA (by rfl) rfl rfl (fun w h => by rcases h with rfl | rfl; exact Z1.out; exact Z2.out)) hH rfl rfl ?_
                  simp only [Act.put, List.setIfInBounds_toArray, List.set_cons_zero, List.set_cons_succ]
                  refine takeA (some 54) #[true, true, true, false, false, false] (i := 2) (v := _) rfl (by kernel_rfl) (by kernel_rfl) (by kernel_rfl) (fun _ _ _ h => h) (yieldsIf_rowA (by rfl) rfl rfl (fun w h => by rcases h with rfl | rfl; exact BL.out.row; exact BL2.out.row) HUL.out rfl HLI.out) hH rfl rfl ?_
                  simp only [Act.put, List.setIfInBounds_toArray, List.set_cons_zero, List.set_cons_succ]
                  refine takeA (some 2) #[true, true, true, true, false, false] (i := 3) (v := _) rfl (by kernel_rfl) (by kernel_rfl) (by kernel_rfl) (fun _ _ _ h => h) (Or.inl ⟨by rfl, by intro w hSw; go_simp; try with_reducible rfl⟩) hH rfl rfl ?_
                  simp only [Act.put, List.setIfInBounds_toArray, List.set_cons_zero, List.set_cons_succ]
                  refine takeA (some 3) #[true, true, true, true, true, false] (i := 4) (v := _) rfl (by kernel_rfl) (by kernel_rfl) (by kernel_rfl) (fun _ _ _ h => h) (Or.inl ⟨by rfl, by intro w hSw; go_simp; try with_reducible rfl⟩) hH rfl rfl ?_
                  simp only [Act.put, List.setIfInBounds_toArray, List.set_cons_zero, List.set_cons_succ]
                  refine lastStoreA (i := 5) (by kernel_rfl) rfl (by kernel_rfl) rfl (by rfl) rfl rfl rfl BW.out (by rw [HLS.out]; rfl) HLO.out HLI.out (.inr rfl) ?_
                  go_wp2
                  refine bodyPost_ret (results_tta rfl (by kernel_rfl) BW2.out.row HUL.out rfl HLI.out) rfl ⟨?_, BF.out⟩
                  rw [HCN.out.1, HCN.out.2, HLC.out]; rfl
              · have HO := Lib.hid ho
                have HLX := Lib.hid (lookX_2 HFR.out HO1.out HQ2.out ho)
                clear ho
                have HCN := Lib.hid (show checkNo d = (24, a2) ∧ lookR d = r2 from ⟨by unfold checkNo; rw [if_pos HA.out, HLX.out, HO.out], by unfold lookR; rw [if_pos HA.out, HLX.out]⟩)
                obtain ⟨LC, hLC⟩ : ∃ LC, lookC (d.dc As cs Af cf) r2.2 (tR r2.1) = LC := ⟨_, rfl⟩
                have HLC := Lib.hid hLC
                have HLS := Lib.hid (show LC.size = 40 by rw [← hLC, lookC_size rfl (show r2.2.length = 32 from LookAt.len G3.out) (tR_len _)])
                have HLI := Lib.hid (show (Tryd.prog.info? 28).map (·.size) = some LC.size by rw [HLS.out]; exact lookInfo)
                have HLO := Lib.hid (show ∀ v ∈ LC.toList, v.oneCell' = true by rw [← hLC]; exact lookC_one)
                have HBL := Lib.hid (show Blk w3 v2.heap.size 28 LC from hLC ▸ LookAt.blk G3.out)
                have HL39 := Lib.hid (show LC[39]? = some (.int .i64 a2) by rw [← (HBL.out.cell 39)]; exact (RLook.wrong1 G3.out HO.out).2)
                have y38 := (RLook.wrong1 G3.out HO.out).1
                have z1 : (w3).drew.cell? ⟨v2.heap.size, 39, none⟩ = some (.int .i64 a2) := (HBL.out.drew.cell 39).trans HL39.out
                have z2 : ((w3).drew.setRow (w.heap.size + 1) LC).cell? ⟨v2.heap.size, 39, none⟩ = some (.int .i64 a2) := ((HBL.out.drew.setRow_ne (k := w.heap.size + 1) (by omega) LC).cell 39).trans HL39.out
                have Z1 := Lib.hid z1
                have Z2 := Lib.hid z2
                clear z1 z2
                clear hLC
                go_wp2
                have BL := Lib.hid (show Blk (w3).drew v2.heap.size 28 LC from HBL.out.drew)
                have BW := Lib.hid (show Blk (w3).drew (w.heap.size + 1) 28 #[.int .i64 0, .int .i64 0, .slice none 0 0, .slice none 0 0, .int .i64 0, .int .i64 0, .int .i64 0, .int .i64 0, .int .i64 0, .int .i64 0, .int .i64 0, .int .i64 0, .int .i64 0, .int .i64 0, .int .i64 0, .int .i64 0, .int .i64 0, .int .i64 0, .int .i64 0, .int .i64 0, .int .i64 0, .int .i64 0, .int .i64 0, .int .i64 0, .int .i64 0, .int .i64 0, .int .i64 0, .int .i64 0, .int .i64 0, .int .i64 0, .int .i64 0, .int .i64 0, .int .i64 0, .int .i64 0, .int .i64 0, .int .i64 0, .int .i64 0, .int .i64 0, .bool false, .int .i64 0] from (KR.out _ T3.out).drew)
                have BL2 := Lib.hid (BL.out.setRow_ne (k := w.heap.size + 1) (by omega) LC)
                have BW2 := Lib.hid (BW.out.setRow_same LC)
                have BF := Lib.hid (show Below w.heap.size w (((w3).drew).setRow (w.heap.size + 1) LC) from (Below.drew (KB.out _ T3.out)).grown (grownBy_setRow _ _ _) (by have := (KB.out _ T3.out).size; exact this) (fun j e => by cases e; omega))
                refine wp_region_held_drew (S := fun W' => W' = (w3).drew ∨ W' = ((w3).drew).setRow (w.heap.size + 1) LC) (by kernel_rfl) (.inl rfl) (fun hH => ?_)
                refine takeA (some 52) #[true, false, false, false, false, false] (i := 0) (v := _) rfl (by kernel_rfl) (by kernel_rfl) (by kernel_rfl) (fun _ _ _ h => h) (Or.inl ⟨by rfl, by intro w hSw; go_simp; try with_reducible rfl⟩) hH rfl rfl ?_
                simp only [Act.put, List.setIfInBounds_toArray, List.set_cons_zero, List.set_cons_succ]
                refine takeA (some 53) #[true, true, false, false, false, false] (i := 1) (v := _) rfl (by kernel_rfl) (by kernel_rfl) (by kernel_rfl) (fun _ _ _ h => h) (yieldsIf_intA (by rfl) rfl rfl (fun w h => by rcases h with rfl | rfl; exact Z1.out; exact Z2.out)) hH rfl rfl ?_
                simp only [Act.put, List.setIfInBounds_toArray, List.set_cons_zero, List.set_cons_succ]
                refine takeA (some 54) #[true, true, true, false, false, false] (i := 2) (v := _) rfl (by kernel_rfl) (by kernel_rfl) (by kernel_rfl) (fun _ _ _ h => h) (yieldsIf_rowA (by rfl) rfl rfl (fun w h => by rcases h with rfl | rfl; exact BL.out.row; exact BL2.out.row) HUL.out rfl HLI.out) hH rfl rfl ?_
                simp only [Act.put, List.setIfInBounds_toArray, List.set_cons_zero, List.set_cons_succ]
                refine takeA (some 2) #[true, true, true, true, false, false] (i := 3) (v := _) rfl (by kernel_rfl) (by kernel_rfl) (by kernel_rfl) (fun _ _ _ h => h) (Or.inl ⟨by rfl, by intro w hSw; go_simp; try with_reducible rfl⟩) hH rfl rfl ?_
                simp only [Act.put, List.setIfInBounds_toArray, List.set_cons_zero, List.set_cons_succ]
                refine takeA (some 3) #[true, true, true, true, true, false] (i := 4) (v := _) rfl (by kernel_rfl) (by kernel_rfl) (by kernel_rfl) (fun _ _ _ h => h) (Or.inl ⟨by rfl, by intro w hSw; go_simp; try with_reducible rfl⟩) hH rfl rfl ?_
                simp only [Act.put, List.setIfInBounds_toArray, List.set_cons_zero, List.set_cons_succ]
                refine lastStoreA (i := 5) (by kernel_rfl) rfl (by kernel_rfl) rfl (by rfl) rfl rfl rfl BW.out (by rw [HLS.out]; rfl) HLO.out HLI.out (.inr rfl) ?_
                go_wp2
                refine bodyPost_ret (results_tta rfl (by kernel_rfl) BW2.out.row HUL.out rfl HLI.out) rfl ⟨?_, BF.out⟩
                rw [HCN.out.1, HCN.out.2, HLC.out]; rfl
            · have HO := Lib.hid ho
              have HLX := Lib.hid (lookX_1 HFR.out ho)
              clear ho
              have HCN := Lib.hid (show checkNo d = (24, a1) ∧ lookR d = fr from ⟨by unfold checkNo; rw [if_pos HA.out, HLX.out, HO.out], by unfold lookR; rw [if_pos HA.out, HLX.out]⟩)
              obtain ⟨LC, hLC⟩ : ∃ LC, lookC (d.dc As cs Af cf) fr.2 (tR fr.1) = LC := ⟨_, rfl⟩
              have HLC := Lib.hid hLC
              have HLS := Lib.hid (show LC.size = 40 by rw [← hLC, lookC_size rfl (show fr.2.length = 32 from LookAt.len G2.out) (tR_len _)])
              have HLI := Lib.hid (show (Tryd.prog.info? 28).map (·.size) = some LC.size by rw [HLS.out]; exact lookInfo)
              have HLO := Lib.hid (show ∀ v ∈ LC.toList, v.oneCell' = true by rw [← hLC]; exact lookC_one)
              have HBL := Lib.hid (show Blk w2 v2.heap.size 28 LC from hLC ▸ LookAt.blk G2.out)
              have HL39 := Lib.hid (show LC[39]? = some (.int .i64 a1) by rw [← (HBL.out.cell 39)]; exact (RLook.wrong1 G2.out HO.out).2)
              have y38 := (RLook.wrong1 G2.out HO.out).1
              have z1 : (w2).drew.cell? ⟨v2.heap.size, 39, none⟩ = some (.int .i64 a1) := (HBL.out.drew.cell 39).trans HL39.out
              have z2 : ((w2).drew.setRow (w.heap.size + 1) LC).cell? ⟨v2.heap.size, 39, none⟩ = some (.int .i64 a1) := ((HBL.out.drew.setRow_ne (k := w.heap.size + 1) (by omega) LC).cell 39).trans HL39.out
              have Z1 := Lib.hid z1
              have Z2 := Lib.hid z2
              clear z1 z2
              clear hLC
              go_wp2
              have BL := Lib.hid (show Blk (w2).drew v2.heap.size 28 LC from HBL.out.drew)
              have BW := Lib.hid (show Blk (w2).drew (w.heap.size + 1) 28 #[.int .i64 0, .int .i64 0, .slice none 0 0, .slice none 0 0, .int .i64 0, .int .i64 0, .int .i64 0, .int .i64 0, .int .i64 0, .int .i64 0, .int .i64 0, .int .i64 0, .int .i64 0, .int .i64 0, .int .i64 0, .int .i64 0, .int .i64 0, .int .i64 0, .int .i64 0, .int .i64 0, .int .i64 0, .int .i64 0, .int .i64 0, .int .i64 0, .int .i64 0, .int .i64 0, .int .i64 0, .int .i64 0, .int .i64 0, .int .i64 0, .int .i64 0, .int .i64 0, .int .i64 0, .int .i64 0, .int .i64 0, .int .i64 0, .int .i64 0, .int .i64 0, .bool false, .int .i64 0] from (KR.out _ T2.out).drew)
              have BL2 := Lib.hid (BL.out.setRow_ne (k := w.heap.size + 1) (by omega) LC)
              have BW2 := Lib.hid (BW.out.setRow_same LC)
              have BF := Lib.hid (show Below w.heap.size w (((w2).drew).setRow (w.heap.size + 1) LC) from (Below.drew (KB.out _ T2.out)).grown (grownBy_setRow _ _ _) (by have := (KB.out _ T2.out).size; exact this) (fun j e => by cases e; omega))
              refine wp_region_held_drew (S := fun W' => W' = (w2).drew ∨ W' = ((w2).drew).setRow (w.heap.size + 1) LC) (by kernel_rfl) (.inl rfl) (fun hH => ?_)
              refine takeA (some 52) #[true, false, false, false, false, false] (i := 0) (v := _) rfl (by kernel_rfl) (by kernel_rfl) (by kernel_rfl) (fun _ _ _ h => h) (Or.inl ⟨by rfl, by intro w hSw; go_simp; try with_reducible rfl⟩) hH rfl rfl ?_
              simp only [Act.put, List.setIfInBounds_toArray, List.set_cons_zero, List.set_cons_succ]
              refine takeA (some 53) #[true, true, false, false, false, false] (i := 1) (v := _) rfl (by kernel_rfl) (by kernel_rfl) (by kernel_rfl) (fun _ _ _ h => h) (yieldsIf_intA (by rfl) rfl rfl (fun w h => by rcases h with rfl | rfl; exact Z1.out; exact Z2.out)) hH rfl rfl ?_
              simp only [Act.put, List.setIfInBounds_toArray, List.set_cons_zero, List.set_cons_succ]
              refine takeA (some 54) #[true, true, true, false, false, false] (i := 2) (v := _) rfl (by kernel_rfl) (by kernel_rfl) (by kernel_rfl) (fun _ _ _ h => h) (yieldsIf_rowA (by rfl) rfl rfl (fun w h => by rcases h with rfl | rfl; exact BL.out.row; exact BL2.out.row) HUL.out rfl HLI.out) hH rfl rfl ?_
              simp only [Act.put, List.setIfInBounds_toArray, List.set_cons_zero, List.set_cons_succ]
              refine takeA (some 2) #[true, true, true, true, false, false] (i := 3) (v := _) rfl (by kernel_rfl) (by kernel_rfl) (by kernel_rfl) (fun _ _ _ h => h) (Or.inl ⟨by rfl, by intro w hSw; go_simp; try with_reducible rfl⟩) hH rfl rfl ?_
              simp only [Act.put, List.setIfInBounds_toArray, List.set_cons_zero, List.set_cons_succ]
              refine takeA (some 3) #[true, true, true, true, true, false] (i := 4) (v := _) rfl (by kernel_rfl) (by kernel_rfl) (by kernel_rfl) (fun _ _ _ h => h) (Or.inl ⟨by rfl, by intro w hSw; go_simp; try with_reducible rfl⟩) hH rfl rfl ?_
              simp only [Act.put, List.setIfInBounds_toArray, List.set_cons_zero, List.set_cons_succ]
              refine lastStoreA (i := 5) (by kernel_rfl) rfl (by kernel_rfl) rfl (by rfl) rfl rfl rfl BW.out (by rw [HLS.out]; rfl) HLO.out HLI.out (.inr rfl) ?_
              go_wp2
              refine bodyPost_ret (results_tta rfl (by kernel_rfl) BW2.out.row HUL.out rfl HLI.out) rfl ⟨?_, BF.out⟩
              rw [HCN.out.1, HCN.out.2, HLC.out]; rfl
  · have hne : ¬ ((d.slots.length : Int) = 32) := by omega
    have HCN := Lib.hid (show checkNo d = (1, 0) ∧ lookR d = (none, M0) from ⟨if_neg (fun h => by have := h; unfold argOk at this; omega), if_neg (fun h => by have := h; unfold argOk at this; omega)⟩)
    obtain ⟨LC, hLC⟩ : ∃ LC, lookC (d.dc As cs Af cf) M0 (tR none) = LC := ⟨_, rfl⟩
    have HLC := Lib.hid hLC
    have HLS := Lib.hid (show LC.size = 40 by rw [← hLC, lookC_size rfl rfl (tR_len _)])
    have HLI := Lib.hid (show (Tryd.prog.info? 28).map (·.size) = some LC.size by rw [HLS.out]; exact lookInfo)
    have HLO := Lib.hid (show ∀ v ∈ LC.toList, v.oneCell' = true by rw [← hLC]; exact lookC_one)
    have H30 : LookAt v3 v2.heap.size 28 (tR none) d As cs Af cf M0 := H3.out
    have HBL := Lib.hid (show Blk v3 v2.heap.size 28 LC from hLC ▸ H30.blk)
    clear H30 hLC
    go_wp2_with (first
      | ((with_reducible show wpList _ _ _ (Oper.mk (some 6) (Op.load _ _) _ _ _ _ :: _) _ _); rw [HV1.out, HV2.out]; refine wpList_load_at (ty := 25) rfl rfl rfl RD.out HU.out rfl dumpInfo ?_)
      | ((with_reducible show wpList _ _ _ (Oper.mk none _ _ _ _ _ :: _) _ (World.alloc _ _)); refine wpList_store_new (ty := 28) rfl rfl rfl rfl rfl (lookC_one (d := d) (As := As) (cs := cs) (Af := Af) (cf := cf) (M := M0) (o := none)) lookInfo ?_; rw [HV3.out])
      | (go_at_call 19; fail))
    have BL := Lib.hid (show Blk (v3).drew v2.heap.size 28 LC from HBL.out.drew)
    have BW := Lib.hid (show Blk (v3).drew (w.heap.size + 1) 28 #[.int .i64 0, .int .i64 0, .slice none 0 0, .slice none 0 0, .int .i64 0, .int .i64 0, .int .i64 0, .int .i64 0, .int .i64 0, .int .i64 0, .int .i64 0, .int .i64 0, .int .i64 0, .int .i64 0, .int .i64 0, .int .i64 0, .int .i64 0, .int .i64 0, .int .i64 0, .int .i64 0, .int .i64 0, .int .i64 0, .int .i64 0, .int .i64 0, .int .i64 0, .int .i64 0, .int .i64 0, .int .i64 0, .int .i64 0, .int .i64 0, .int .i64 0, .int .i64 0, .int .i64 0, .int .i64 0, .int .i64 0, .int .i64 0, .int .i64 0, .int .i64 0, .bool false, .int .i64 0] from (KR.out _ (TnL.refl _ _)).drew)
    have BL2 := Lib.hid (BL.out.setRow_ne (k := w.heap.size + 1) (by omega) LC)
    have BW2 := Lib.hid (BW.out.setRow_same LC)
    have BF := Lib.hid (show Below w.heap.size w (((v3).drew).setRow (w.heap.size + 1) LC) from (Below.drew (KB.out _ (TnL.refl _ _))).grown (grownBy_setRow _ _ _) (by have := (KB.out _ (TnL.refl _ _)).size; exact this) (fun j e => by cases e; omega))
    refine wp_region_held_drew (S := fun W' => W' = (v3).drew ∨ W' = ((v3).drew).setRow (w.heap.size + 1) LC) (by kernel_rfl) (.inl rfl) (fun hH => ?_)
    refine takeA (some 32) #[true, false, false, false] (i := 0) (v := _) rfl (by kernel_rfl) (by kernel_rfl) (by kernel_rfl) (fun _ _ _ h => h) (yieldsIf_rowA (by rfl) rfl rfl (fun w h => by rcases h with rfl | rfl; exact BL.out.row; exact BL2.out.row) HUL.out rfl HLI.out) hH rfl rfl ?_
    simp only [Act.put, List.setIfInBounds_toArray, List.set_cons_zero, List.set_cons_succ]
    refine takeA (some 2) #[true, true, false, false] (i := 1) (v := _) rfl (by kernel_rfl) (by kernel_rfl) (by kernel_rfl) (fun _ _ _ h => h) (Or.inl ⟨by rfl, by intro w hSw; go_simp; try with_reducible rfl⟩) hH rfl rfl ?_
    simp only [Act.put, List.setIfInBounds_toArray, List.set_cons_zero, List.set_cons_succ]
    refine takeA (some 3) #[true, true, true, false] (i := 2) (v := _) rfl (by kernel_rfl) (by kernel_rfl) (by kernel_rfl) (fun _ _ _ h => h) (Or.inl ⟨by rfl, by intro w hSw; go_simp; try with_reducible rfl⟩) hH rfl rfl ?_
    simp only [Act.put, List.setIfInBounds_toArray, List.set_cons_zero, List.set_cons_succ]
    refine lastStoreA (i := 3) (by kernel_rfl) rfl (by kernel_rfl) rfl (by rfl) rfl rfl rfl BW.out (by rw [HLS.out]; rfl) HLO.out HLI.out (.inr rfl) ?_
    go_wp2
    refine bodyPost_ret (results_tta rfl (by kernel_rfl) BW2.out.row HUL.out rfl HLI.out) rfl ⟨?_, BF.out⟩
    rw [HCN.out.1, HCN.out.2, HLC.out]; rfl
end Go.Proofs.YtahcedpfnechfaaDoor
