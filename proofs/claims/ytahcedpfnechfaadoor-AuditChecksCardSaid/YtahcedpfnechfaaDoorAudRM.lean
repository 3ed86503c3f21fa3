/-
  The audit: the document's member.
-/
import Derived.Test.YtahcedpfnechfaaDoorAudRF
import Derived.Deep.CutRange
import Derived.BigQuiet
namespace Go.Proofs.YtahcedpfnechfaaDoor
set_option maxRecDepth 100000
open Go.RowKit Go.Sort

def memR (d : DumpV) (M : List Int) (i ahead up mark : Int) : Option Int × List Int := if memberX d M i ahead up mark = true then (none, M.set i.toNat mark) else (some (placeI i), M)
set_option maxHeartbeats 32000000 in
theorem rmember_any (d : DumpV) (i ahead up mark : Int) (hup : up = -1 ∨ ∃ u : Nat, up = u ∧ u < 32) (hd : d.slots.length = 32) (L : Nat) (As : Option Addr) (cs : Nat) (Af : Option Addr) (cf : Nat) (M : List Int) (w : World) (h : RLook L d As cs Af cf (none, M) w) :
    Calls Tryd.prog 36 #[.pointer (some ⟨L, 0, none⟩), .int .i64 i, .int .i64 ahead, .int .i64 up, .int .i64 mark] w (fun e w' => e = .returned (.bool (memberX d M i ahead up mark)) ∧ RLook L d As cs Af cf (memR d M i ahead up mark) w' ∧ TnL L w w') := by
  have HU := Lib.hid Tryd.underlying49
  have hh : LookAt w L 28 (tR none) d As cs Af cf M := h
  have HL := hh.blk.lt
  have HT := Lib.hid (rthere_any i w)
  have H := Lib.hid hh
  have HRF := Lib.hid (fun w2 (h2 : LookAt w2 L 28 (tR none) d As cs Af cf M) => rfault_any d L As cs Af cf M i w2 h2)
  go_enter Tryd.func36, Tryd.ntmps36
  rcases inR_cases i with hi | hi
  · obtain ⟨k, rfl⟩ : ∃ k : Nat, i = (k : Int) := ⟨i.toNat, by have := inR_iff.1 hi; omega⟩
    have hk := inR_iff.1 hi
    have hk0 := hk.1
    have hk32 := hk.2
    have hkn : k < 32 := by omega
    obtain ⟨v, hv⟩ : ∃ v, M[k]? = some v := ⟨_, List.getElem?_eq_getElem (by rw [H.out.len]; exact hkn)⟩
    have cm := hh.mark hv
    have HV := Lib.hid hv
    rw [hi] at HT
    clear h hh hi hk hv
    go_wp2_with (go_at_call 33; fail)
    refine HT.out.mono ?_
    rintro e w' ⟨rfl, rfl⟩
    by_cases hv0 : v = 0
    · subst hv0
      obtain ⟨s, hs⟩ : ∃ s, d.slots[k]? = some s := ⟨_, List.getElem?_eq_getElem (by omega)⟩
      obtain ⟨sb, so, rfl, hsb, hsr⟩ := H.out.slots (by omega)
      have HR := Lib.hid (hsr k s hs)
      have l2 : w.cell? ⟨L, 2, none⟩ = some (.slice (some ⟨sb, so, none⟩) 32 cs) := by
        have h9 := (H.out.blk.cell 2).trans (show _ = some (.slice (some ⟨sb, so, none⟩) d.slots.length cs) from rfl)
        rwa [hd] at h9
      have HX := Lib.hid (memberX_at (ahead := ahead) (up := up) (mark := mark) hkn HV.out hs)
      obtain ⟨v1, hv1⟩ : ∃ v1, w.alloc (.cells s.cells 49) = v1 := ⟨_, rfl⟩
      have b1 : Blk v1 w.heap.size 49 s.cells := by rw [← hv1]; exact Blk.new _ _ _
      have hb1 : Below w.heap.size w v1 := by rw [← hv1]; exact (Below.refl _ _).alloc (Nat.le_refl _) _
      have hs1 : v1.heap.size ≤ w.heap.size + 1 ∧ w.heap.size + 1 ≤ v1.heap.size := by rw [← hv1]; simp
      have x0 := cell_regrown (show v1.cell? ⟨w.heap.size, 0, none⟩ = some (.bool s.used) from (b1.cell 0).trans rfl)
      have x3 := cell_regrown (show v1.cell? ⟨w.heap.size, 3, none⟩ = some (.int .i64 s.prev) from (b1.cell 3).trans rfl)
      have x5 := cell_regrown (show v1.cell? ⟨w.heap.size, 5, none⟩ = some (.int .i64 s.slot) from (b1.cell 5).trans rfl)
      have x7 := cell_regrown (show v1.cell? ⟨w.heap.size, 7, none⟩ = some (.int .i64 s.upSlot) from (b1.cell 7).trans rfl)
      have x8 := cell_regrown (show v1.cell? ⟨w.heap.size, 8, none⟩ = some (.int .i64 s.upBirth) from (b1.cell 8).trans rfl)
      have z2 := cell_regrown (show v1.cell? ⟨L, 2, none⟩ = some (.slice (some ⟨sb, so, none⟩) 32 cs) from (hb1.cell (p := ⟨L, 2, none⟩) HL).trans l2)
      have H1 := Lib.hid (H.out.below hb1)
      have RS := Lib.hid (b1.row.class_ b1.lt)
      have HQ := Lib.hid (fun (D : Nat) (os : Array Obj) => Calls.regrown_of (rlives_any d s up hup hd L (some ⟨sb, so, none⟩) cs Af cf M (grow (redrawn v1 D) os) (tR none) (H1.out.below (below_regrown v1 D os))))
      have HV1 := Lib.hid hv1
      have BB := Lib.hid hb1
      have HUP := Lib.hid hup
      clear hv1 b1 hb1 hsr hs
      by_cases e0 : s.used = true
      · rw [e0] at x0
        by_cases e1 : s.prev = ahead
        · have e1b : (s.prev != ahead) = false := by simp [e1]
          by_cases e2 : s.slot = (k : Int)
          · have e2b : (s.slot != (k : Int)) = false := by simp [e2]
            rcases hup with rfl | ⟨u, rfl, hu⟩
            · by_cases em : mark = 2
              · subst em
                rcases hlv : livesX d s (-1) with _ | _
                · rw [hlv] at HQ
                  go_upto_region 5 with (first
                    | ((with_reducible show wpList _ _ _ (Oper.mk (some 34) (Op.load _ _) _ _ _ _ :: _) _ _); refine wpList_load_at (ty := 49) rfl rfl rfl HR.out HU.out rfl slotInfo ?_)
                    | ((with_reducible show wpList _ _ _ (Oper.mk none _ _ _ _ _ :: _) _ (World.alloc _ _)); refine wpList_store_new (ty := 49) rfl rfl rfl rfl rfl (SlotV.one _) slotInfo ?_; rw [HV1.out]))
                  simp only [Act.put]
                  refine wp_region_quiet_below (by kernel_rfl) (by kernel_rfl) ?_
                  repeat (first
                    | go_big_quiet_skip
                    | (refine wpQuiet_load_at rfl rfl rfl RS.out HU.out rfl slotInfo ?_; simp only [Act.put, List.setIfInBounds_toArray, List.set_cons_zero, List.set_cons_succ])
                    | (go_big_quiet_want; go_big_quiet_op; first | go_big_quiet_on | go_big_quiet_call (with_reducible exact HQ.out _ _)))
                  refine wpQuiet_nil ?_
                  intro w5 hC5
                  have hb5 := below_class hC5
                  have H5 := Lib.hid (H1.out.below hb5)
                  have T5 := Lib.hid (show TnL L w w5 from (TnL.below BB.out).trans (TnL.below hb5))
                  clear hC5 hb5
                  have HMF := Lib.hid (show memberX d M k ahead (-1) 2 = false by rw [HX.out]; simp [e0, e1, e2, hlv])
                  have HMR := Lib.hid (show memR d M k ahead (-1) 2 = (some (placeI k), M) from if_neg (by rw [HMF.out]; simp))
                  go_wp2_with (go_at_call 35; fail)
                  refine (HRF.out w5 H5.out).mono ?_
                  rintro e w6 ⟨rfl, h6, t6⟩
                  have H6 := Lib.hid h6
                  have T6 := Lib.hid (T5.out.trans t6)
                  clear h6 t6
                  go_wp2
                  go_ret
                  exact ⟨by rw [HMF.out] <;> rfl, by rw [HMR.out]; exact H6.out, T6.out⟩
                · rw [hlv] at HQ
                  go_upto_region 5 with (first
                    | ((with_reducible show wpList _ _ _ (Oper.mk (some 34) (Op.load _ _) _ _ _ _ :: _) _ _); refine wpList_load_at (ty := 49) rfl rfl rfl HR.out HU.out rfl slotInfo ?_)
                    | ((with_reducible show wpList _ _ _ (Oper.mk none _ _ _ _ _ :: _) _ (World.alloc _ _)); refine wpList_store_new (ty := 49) rfl rfl rfl rfl rfl (SlotV.one _) slotInfo ?_; rw [HV1.out]))
                  simp only [Act.put]
                  refine wp_region_quiet_below (by kernel_rfl) (by kernel_rfl) ?_
                  repeat (first
                    | go_big_quiet_skip
                    | (refine wpQuiet_load_at rfl rfl rfl RS.out HU.out rfl slotInfo ?_; simp only [Act.put, List.setIfInBounds_toArray, List.set_cons_zero, List.set_cons_succ])
                    | (go_big_quiet_want; go_big_quiet_op; first | go_big_quiet_on | go_big_quiet_call (with_reducible exact HQ.out _ _)))
                  refine wpQuiet_nil ?_
                  intro w5 hC5
                  have hb5 := below_class hC5
                  have H5 := Lib.hid (H1.out.below hb5)
                  have T5 := Lib.hid (show TnL L w w5 from (TnL.below BB.out).trans (TnL.below hb5))
                  clear hC5 hb5
                  have HMF := Lib.hid (show memberX d M k ahead (-1) 2 = true by rw [HX.out]; simp [e0, e1, e2, hlv])
                  have HMR := Lib.hid (show memR d M k ahead (-1) 2 = (none, M.set k 2) from if_pos HMF.out)
                  have c6 := H5.out.mark HV.out
                  have f6 := H5.out.blk.frozen (6 + k)
                  have H6 := Lib.hid (H5.out.set hkn 2)
                  have T6 := Lib.hid (T5.out.trans (TnL.set L (6 + k) w5 (.int .i64 2)))
                  go_wp2
                  go_ret
                  exact ⟨by rw [HMF.out] <;> rfl, by rw [HMR.out]; exact H6.out, T6.out⟩
              · have emb : (mark == 2) = false := by simp [em]
                go_upto_region 5 with (first
                  | ((with_reducible show wpList _ _ _ (Oper.mk (some 34) (Op.load _ _) _ _ _ _ :: _) _ _); refine wpList_load_at (ty := 49) rfl rfl rfl HR.out HU.out rfl slotInfo ?_)
                  | ((with_reducible show wpList _ _ _ (Oper.mk none _ _ _ _ _ :: _) _ (World.alloc _ _)); refine wpList_store_new (ty := 49) rfl rfl rfl rfl rfl (SlotV.one _) slotInfo ?_; rw [HV1.out]))
                simp only [Act.put]
                refine wp_region_quiet_below (by kernel_rfl) (by kernel_rfl) ?_
                repeat (first
                  | go_big_quiet_skip
                  | (refine wpQuiet_load_at rfl rfl rfl RS.out HU.out rfl slotInfo ?_; simp only [Act.put, List.setIfInBounds_toArray, List.set_cons_zero, List.set_cons_succ])
                  | (go_big_quiet_want; go_big_quiet_op; first | go_big_quiet_on | go_big_quiet_call (with_reducible exact HQ.out _ _)))
                refine wpQuiet_nil ?_
                intro w5 hC5
                have hb5 := below_class hC5
                have H5 := Lib.hid (H1.out.below hb5)
                have T5 := Lib.hid (show TnL L w w5 from (TnL.below BB.out).trans (TnL.below hb5))
                clear hC5 hb5
                have HMF := Lib.hid (show memberX d M k ahead (-1) mark = true by rw [HX.out]; simp [e0, e1, e2, em])
                have HMR := Lib.hid (show memR d M k ahead (-1) mark = (none, M.set k mark) from if_pos HMF.out)
                have c6 := H5.out.mark HV.out
                have f6 := H5.out.blk.frozen (6 + k)
                have H6 := Lib.hid (H5.out.set hkn mark)
                have T6 := Lib.hid (T5.out.trans (TnL.set L (6 + k) w5 (.int .i64 mark)))
                go_wp2
                go_ret
                exact ⟨by rw [HMF.out] <;> rfl, by rw [HMR.out]; exact H6.out, T6.out⟩
            · have hu0 : ¬ ((u : Int) = -1) := by omega
              have hu32 : (u : Int) < 32 := by omega
              have hun : (0 : Int) ≤ (u : Int) := by omega
              obtain ⟨su, hsu⟩ : ∃ su, d.slots[u]? = some su := ⟨_, List.getElem?_eq_getElem (by omega)⟩
              have HSU := Lib.hid (show d.slots.getD (u : Int).toNat SlotV.zero = su by rw [Int.toNat_natCast, List.getD_eq_getElem?_getD, hsu]; rfl)
              have w6 := cell_regrown (show v1.cell? ⟨sb, so + u * 17 + 6, none⟩ = some (.int .i64 su.birth) by
                obtain ⟨b9, o9, e9, h9, r9⟩ := H1.out.slots (by omega)
                cases e9
                exact ((r9 u su hsu).at_ 6 _ rfl))
              rw [HSU.out] at HX
              clear hsu
              by_cases e3 : s.upSlot = (u : Int)
              · by_cases e4 : s.upBirth = su.birth
                · by_cases em : mark = 2
                  · subst em
                    rcases hlv : livesX d s u with _ | _
                    · rw [hlv] at HQ
                      go_upto_region 5 with (first
                        | ((with_reducible show wpList _ _ _ (Oper.mk (some 34) (Op.load _ _) _ _ _ _ :: _) _ _); refine wpList_load_at (ty := 49) rfl rfl rfl HR.out HU.out rfl slotInfo ?_)
                        | ((with_reducible show wpList _ _ _ (Oper.mk none _ _ _ _ _ :: _) _ (World.alloc _ _)); refine wpList_store_new (ty := 49) rfl rfl rfl rfl rfl (SlotV.one _) slotInfo ?_; rw [HV1.out]))
                      simp only [Act.put]
                      refine wp_region_quiet_below (by kernel_rfl) (by kernel_rfl) ?_
                      repeat (first
                        | go_big_quiet_skip
                        | (refine wpQuiet_load_at rfl rfl rfl RS.out HU.out rfl slotInfo ?_; simp only [Act.put, List.setIfInBounds_toArray, List.set_cons_zero, List.set_cons_succ])
                        | (go_big_quiet_want; go_big_quiet_op; first | go_big_quiet_on | go_big_quiet_call (with_reducible exact HQ.out _ _)))
                      refine wpQuiet_nil ?_
                      intro w5 hC5
                      have hb5 := below_class hC5
                      have H5 := Lib.hid (H1.out.below hb5)
                      have T5 := Lib.hid (show TnL L w w5 from (TnL.below BB.out).trans (TnL.below hb5))
                      clear hC5 hb5
                      have HMF := Lib.hid (show memberX d M k ahead u 2 = false by rw [HX.out]; simp [e0, e1, e2, e3, e4, hlv])
                      have HMR := Lib.hid (show memR d M k ahead u 2 = (some (placeI k), M) from if_neg (by rw [HMF.out]; simp))
                      go_wp2_with (go_at_call 35; fail)
                      refine (HRF.out w5 H5.out).mono ?_
                      rintro e w6 ⟨rfl, h6, t6⟩
                      have H6 := Lib.hid h6
                      have T6 := Lib.hid (T5.out.trans t6)
                      clear h6 t6
                      go_wp2
                      go_ret
                      exact ⟨by rw [HMF.out] <;> rfl, by rw [HMR.out]; exact H6.out, T6.out⟩
                    · rw [hlv] at HQ
                      go_upto_region 5 with (first
                        | ((with_reducible show wpList _ _ _ (Oper.mk (some 34) (Op.load _ _) _ _ _ _ :: _) _ _); refine wpList_load_at (ty := 49) rfl rfl rfl HR.out HU.out rfl slotInfo ?_)
                        | ((with_reducible show wpList _ _ _ (Oper.mk none _ _ _ _ _ :: _) _ (World.alloc _ _)); refine wpList_store_new (ty := 49) rfl rfl rfl rfl rfl (SlotV.one _) slotInfo ?_; rw [HV1.out]))
                      simp only [Act.put]
                      refine wp_region_quiet_below (by kernel_rfl) (by kernel_rfl) ?_
                      repeat (first
                        | go_big_quiet_skip
                        | (refine wpQuiet_load_at rfl rfl rfl RS.out HU.out rfl slotInfo ?_; simp only [Act.put, List.setIfInBounds_toArray, List.set_cons_zero, List.set_cons_succ])
                        | (go_big_quiet_want; go_big_quiet_op; first | go_big_quiet_on | go_big_quiet_call (with_reducible exact HQ.out _ _)))
                      refine wpQuiet_nil ?_
                      intro w5 hC5
                      have hb5 := below_class hC5
                      have H5 := Lib.hid (H1.out.below hb5)
                      have T5 := Lib.hid (show TnL L w w5 from (TnL.below BB.out).trans (TnL.below hb5))
                      clear hC5 hb5
                      have HMF := Lib.hid (show memberX d M k ahead u 2 = true by rw [HX.out]; simp [e0, e1, e2, e3, e4, hlv])
                      have HMR := Lib.hid (show memR d M k ahead u 2 = (none, M.set k 2) from if_pos HMF.out)
                      have c6 := H5.out.mark HV.out
                      have f6 := H5.out.blk.frozen (6 + k)
                      have H6 := Lib.hid (H5.out.set hkn 2)
                      have T6 := Lib.hid (T5.out.trans (TnL.set L (6 + k) w5 (.int .i64 2)))
                      go_wp2
                      go_ret
                      exact ⟨by rw [HMF.out] <;> rfl, by rw [HMR.out]; exact H6.out, T6.out⟩
                  · have emb : (mark == 2) = false := by simp [em]
                    go_upto_region 5 with (first
                      | ((with_reducible show wpList _ _ _ (Oper.mk (some 34) (Op.load _ _) _ _ _ _ :: _) _ _); refine wpList_load_at (ty := 49) rfl rfl rfl HR.out HU.out rfl slotInfo ?_)
                      | ((with_reducible show wpList _ _ _ (Oper.mk none _ _ _ _ _ :: _) _ (World.alloc _ _)); refine wpList_store_new (ty := 49) rfl rfl rfl rfl rfl (SlotV.one _) slotInfo ?_; rw [HV1.out]))
                    simp only [Act.put]
                    refine wp_region_quiet_below (by kernel_rfl) (by kernel_rfl) ?_
                    repeat (first
                      | go_big_quiet_skip
                      | (refine wpQuiet_load_at rfl rfl rfl RS.out HU.out rfl slotInfo ?_; simp only [Act.put, List.setIfInBounds_toArray, List.set_cons_zero, List.set_cons_succ])
                      | (go_big_quiet_want; go_big_quiet_op; first | go_big_quiet_on | go_big_quiet_call (with_reducible exact HQ.out _ _)))
                    refine wpQuiet_nil ?_
                    intro w5 hC5
                    have hb5 := below_class hC5
                    have H5 := Lib.hid (H1.out.below hb5)
                    have T5 := Lib.hid (show TnL L w w5 from (TnL.below BB.out).trans (TnL.below hb5))
                    clear hC5 hb5
                    have HMF := Lib.hid (show memberX d M k ahead u mark = true by rw [HX.out]; simp [e0, e1, e2, e3, e4, em])
                    have HMR := Lib.hid (show memR d M k ahead u mark = (none, M.set k mark) from if_pos HMF.out)
                    have c6 := H5.out.mark HV.out
                    have f6 := H5.out.blk.frozen (6 + k)
                    have H6 := Lib.hid (H5.out.set hkn mark)
                    have T6 := Lib.hid (T5.out.trans (TnL.set L (6 + k) w5 (.int .i64 mark)))
                    go_wp2
                    go_ret
                    exact ⟨by rw [HMF.out] <;> rfl, by rw [HMR.out]; exact H6.out, T6.out⟩
                · go_upto_region 5 with (first
                    | ((with_reducible show wpList _ _ _ (Oper.mk (some 34) (Op.load _ _) _ _ _ _ :: _) _ _); refine wpList_load_at (ty := 49) rfl rfl rfl HR.out HU.out rfl slotInfo ?_)
                    | ((with_reducible show wpList _ _ _ (Oper.mk none _ _ _ _ _ :: _) _ (World.alloc _ _)); refine wpList_store_new (ty := 49) rfl rfl rfl rfl rfl (SlotV.one _) slotInfo ?_; rw [HV1.out]))
                  simp only [Act.put]
                  refine wp_region_quiet_below (by kernel_rfl) (by kernel_rfl) ?_
                  repeat (first
                    | go_big_quiet_skip
                    | (refine wpQuiet_load_at rfl rfl rfl RS.out HU.out rfl slotInfo ?_; simp only [Act.put, List.setIfInBounds_toArray, List.set_cons_zero, List.set_cons_succ])
                    | (go_big_quiet_want; go_big_quiet_op; first | go_big_quiet_on | go_big_quiet_call (with_reducible exact HQ.out _ _)))
                  refine wpQuiet_nil ?_
                  intro w5 hC5
                  have hb5 := below_class hC5
                  have H5 := Lib.hid (H1.out.below hb5)
                  have T5 := Lib.hid (show TnL L w w5 from (TnL.below BB.out).trans (TnL.below hb5))
                  clear hC5 hb5
                  have HMF := Lib.hid (show memberX d M k ahead u mark = false by rw [HX.out]; simp [e0, e1, e2, e3, e4, hu0])
                  have HMR := Lib.hid (show memR d M k ahead u mark = (some (placeI k), M) from if_neg (by rw [HMF.out]; simp))
                  go_wp2_with (go_at_call 35; fail)
                  refine (HRF.out w5 H5.out).mono ?_
                  rintro e w6 ⟨rfl, h6, t6⟩
                  have H6 := Lib.hid h6
                  have T6 := Lib.hid (T5.out.trans t6)
                  clear h6 t6
                  go_wp2
                  go_ret
                  exact ⟨by rw [HMF.out] <;> rfl, by rw [HMR.out]; exact H6.out, T6.out⟩
              · go_upto_region 5 with (first
                  | ((with_reducible show wpList _ _ _ (Oper.mk (some 34) (Op.load _ _) _ _ _ _ :: _) _ _); refine wpList_load_at (ty := 49) rfl rfl rfl HR.out HU.out rfl slotInfo ?_)
                  | ((with_reducible show wpList _ _ _ (Oper.mk none _ _ _ _ _ :: _) _ (World.alloc _ _)); refine wpList_store_new (ty := 49) rfl rfl rfl rfl rfl (SlotV.one _) slotInfo ?_; rw [HV1.out]))
                simp only [Act.put]
                refine wp_region_quiet_below (by kernel_rfl) (by kernel_rfl) ?_
                repeat (first
                  | go_big_quiet_skip
                  | (refine wpQuiet_load_at rfl rfl rfl RS.out HU.out rfl slotInfo ?_; simp only [Act.put, List.setIfInBounds_toArray, List.set_cons_zero, List.set_cons_succ])
                  | (go_big_quiet_want; go_big_quiet_op; first | go_big_quiet_on | go_big_quiet_call (with_reducible exact HQ.out _ _)))
                refine wpQuiet_nil ?_
                intro w5 hC5
                have hb5 := below_class hC5
                have H5 := Lib.hid (H1.out.below hb5)
                have T5 := Lib.hid (show TnL L w w5 from (TnL.below BB.out).trans (TnL.below hb5))
                clear hC5 hb5
                have HMF := Lib.hid (show memberX d M k ahead u mark = false by rw [HX.out]; simp [e0, e1, e2, e3, hu0])
                have HMR := Lib.hid (show memR d M k ahead u mark = (some (placeI k), M) from if_neg (by rw [HMF.out]; simp))
                go_wp2_with (go_at_call 35; fail)
                refine (HRF.out w5 H5.out).mono ?_
                rintro e w6 ⟨rfl, h6, t6⟩
                have H6 := Lib.hid h6
                have T6 := Lib.hid (T5.out.trans t6)
                clear h6 t6
                go_wp2
                go_ret
                exact ⟨by rw [HMF.out] <;> rfl, by rw [HMR.out]; exact H6.out, T6.out⟩
          · have e2b : (s.slot != (k : Int)) = true := by simp [e2]
            go_upto_region 5 with (first
              | ((with_reducible show wpList _ _ _ (Oper.mk (some 34) (Op.load _ _) _ _ _ _ :: _) _ _); refine wpList_load_at (ty := 49) rfl rfl rfl HR.out HU.out rfl slotInfo ?_)
              | ((with_reducible show wpList _ _ _ (Oper.mk none _ _ _ _ _ :: _) _ (World.alloc _ _)); refine wpList_store_new (ty := 49) rfl rfl rfl rfl rfl (SlotV.one _) slotInfo ?_; rw [HV1.out]))
            simp only [Act.put]
            refine wp_region_quiet_below (by kernel_rfl) (by kernel_rfl) ?_
            repeat (first
              | go_big_quiet_skip
              | (refine wpQuiet_load_at rfl rfl rfl RS.out HU.out rfl slotInfo ?_; simp only [Act.put, List.setIfInBounds_toArray, List.set_cons_zero, List.set_cons_succ])
              | (go_big_quiet_want; go_big_quiet_op; first | go_big_quiet_on | go_big_quiet_call (with_reducible exact HQ.out _ _)))
            refine wpQuiet_nil ?_
            intro w5 hC5
            have hb5 := below_class hC5
            have H5 := Lib.hid (H1.out.below hb5)
            have T5 := Lib.hid (show TnL L w w5 from (TnL.below BB.out).trans (TnL.below hb5))
            clear hC5 hb5
            have HMF := Lib.hid (show memberX d M k ahead up mark = false by rw [HX.out]; simp [e0, e1, e2])
            have HMR := Lib.hid (show memR d M k ahead up mark = (some (placeI k), M) from if_neg (by rw [HMF.out]; simp))
            go_wp2_with (go_at_call 35; fail)
            refine (HRF.out w5 H5.out).mono ?_
            rintro e w6 ⟨rfl, h6, t6⟩
            have H6 := Lib.hid h6
            have T6 := Lib.hid (T5.out.trans t6)
            clear h6 t6
            go_wp2
            go_ret
            exact ⟨by rw [HMF.out] <;> rfl, by rw [HMR.out]; exact H6.out, T6.out⟩
        · have e1b : (s.prev != ahead) = true := by simp [e1]
          go_upto_region 5 with (first
            | ((with_reducible show wpList _ _ _ (Oper.mk (some 34) (Op.load _ _) _ _ _ _ :: _) _ _); refine wpList_load_at (ty := 49) rfl rfl rfl HR.out HU.out rfl slotInfo ?_)
            | ((with_reducible show wpList _ _ _ (Oper.mk none _ _ _ _ _ :: _) _ (World.alloc _ _)); refine wpList_store_new (ty := 49) rfl rfl rfl rfl rfl (SlotV.one _) slotInfo ?_; rw [HV1.out]))
          simp only [Act.put]
          refine wp_region_quiet_below (by kernel_rfl) (by kernel_rfl) ?_
          repeat (first
            | go_big_quiet_skip
            | (refine wpQuiet_load_at rfl rfl rfl RS.out HU.out rfl slotInfo ?_; simp only [Act.put, List.setIfInBounds_toArray, List.set_cons_zero, List.set_cons_succ])
            | (go_big_quiet_want; go_big_quiet_op; first | go_big_quiet_on | go_big_quiet_call (with_reducible exact HQ.out _ _)))
          refine wpQuiet_nil ?_
          intro w5 hC5
          have hb5 := below_class hC5
          have H5 := Lib.hid (H1.out.below hb5)
          have T5 := Lib.hid (show TnL L w w5 from (TnL.below BB.out).trans (TnL.below hb5))
          clear hC5 hb5
          have HMF := Lib.hid (show memberX d M k ahead up mark = false by rw [HX.out]; simp [e0, e1])
          have HMR := Lib.hid (show memR d M k ahead up mark = (some (placeI k), M) from if_neg (by rw [HMF.out]; simp))
          go_wp2_with (go_at_call 35; fail)
          refine (HRF.out w5 H5.out).mono ?_
          rintro e w6 ⟨rfl, h6, t6⟩
          have H6 := Lib.hid h6
          have T6 := Lib.hid (T5.out.trans t6)
          clear h6 t6
          go_wp2
          go_ret
          exact ⟨by rw [HMF.out] <;> rfl, by rw [HMR.out]; exact H6.out, T6.out⟩
      · have e0' : s.used = false := by simpa using e0
        rw [e0'] at x0
        go_upto_region 5 with (first
          | ((with_reducible show wpList _ _ _ (Oper.mk (some 34) (Op.load _ _) _ _ _ _ :: _) _ _); refine wpList_load_at (ty := 49) rfl rfl rfl HR.out HU.out rfl slotInfo ?_)
          | ((with_reducible show wpList _ _ _ (Oper.mk none _ _ _ _ _ :: _) _ (World.alloc _ _)); refine wpList_store_new (ty := 49) rfl rfl rfl rfl rfl (SlotV.one _) slotInfo ?_; rw [HV1.out]))
        simp only [Act.put]
        refine wp_region_quiet_below (by kernel_rfl) (by kernel_rfl) ?_
        repeat (first
          | go_big_quiet_skip
          | (refine wpQuiet_load_at rfl rfl rfl RS.out HU.out rfl slotInfo ?_; simp only [Act.put, List.setIfInBounds_toArray, List.set_cons_zero, List.set_cons_succ])
          | (go_big_quiet_want; go_big_quiet_op; first | go_big_quiet_on | go_big_quiet_call (with_reducible exact HQ.out _ _)))
        refine wpQuiet_nil ?_
        intro w5 hC5
        have hb5 := below_class hC5
        have H5 := Lib.hid (H1.out.below hb5)
        have T5 := Lib.hid (show TnL L w w5 from (TnL.below BB.out).trans (TnL.below hb5))
        clear hC5 hb5
        have HMF := Lib.hid (show memberX d M k ahead up mark = false by rw [HX.out]; simp [e0'])
        have HMR := Lib.hid (show memR d M k ahead up mark = (some (placeI k), M) from if_neg (by rw [HMF.out]; simp))
        go_wp2_with (go_at_call 35; fail)
        refine (HRF.out w5 H5.out).mono ?_
        rintro e w6 ⟨rfl, h6, t6⟩
        have H6 := Lib.hid h6
        have T6 := Lib.hid (T5.out.trans t6)
        clear h6 t6
        go_wp2
        go_ret
        exact ⟨by rw [HMF.out] <;> rfl, by rw [HMR.out]; exact H6.out, T6.out⟩
    · have HX := Lib.hid (memberX_seen (d := d) (ahead := ahead) (up := up) (mark := mark) HV.out hv0)
      have HMR := Lib.hid (show memR d M k ahead up mark = (some (placeI k), M) from if_neg (by rw [HX.out]; simp))
      have hvb : (v != 0) = true := by simp [hv0]
      go_wp2_with (go_at_call 35; fail)
      refine (HRF.out w H.out).mono ?_
      rintro e w6 ⟨rfl, h6, t6⟩
      have H6 := Lib.hid h6
      have T6 := Lib.hid t6
      clear h6 t6
      go_wp2
      go_ret
      exact ⟨by rw [HX.out] <;> rfl, by rw [HMR.out]; exact H6.out, T6.out⟩
  · rw [hi] at HT
    have HX := Lib.hid (memberX_out (d := d) (M := M) (ahead := ahead) (up := up) (mark := mark) hi)
    have HMR := Lib.hid (show memR d M i ahead up mark = (some (placeI i), M) from if_neg (by rw [HX.out]; simp))
    clear h hh hi
    go_wp2_with (go_at_call 33; fail)
    refine HT.out.mono ?_
    rintro e w' ⟨rfl, rfl⟩
    go_wp2_with (go_at_call 35; fail)
    refine (HRF.out w H.out).mono ?_
    rintro e w6 ⟨rfl, h6, t6⟩
    have H6 := Lib.hid h6
    have T6 := Lib.hid t6
    clear h6 t6
    go_wp2
    go_ret
    exact ⟨by rw [HX.out] <;> rfl, by rw [HMR.out]; exact H6.out, T6.out⟩
end Go.Proofs.YtahcedpfnechfaaDoor
