/-
  The audit: the document's lives.
-/
import Derived.Test.YtahcedpfnechfaaDoorAudL
import Derived.Deep.CutRange
import Derived.BigQuiet
namespace Go.Proofs.YtahcedpfnechfaaDoor
set_option maxRecDepth 100000
open Go.RowKit Go.Sort

set_option maxHeartbeats 16000000 in
theorem rlives_any (d : DumpV) (s : SlotV) (up : Int) (hup : up = -1 ∨ ∃ u : Nat, up = u ∧ u < 32) (hd : d.slots.length = 32) (L : Nat) (As : Option Addr) (cs : Nat) (Af : Option Addr) (cf : Nat) (M : List Int) (w : World) (t : List Value) (h : LookAt w L 28 t d As cs Af cf M) :
    Calls Tryd.prog 49 #[.pointer (some ⟨L, 0, none⟩), .agg s.cells, .int .i64 up] w (RetB (.bool (livesX d s up)) w) := by
  have HU := Lib.hid Tryd.underlying47
  have HL := h.blk.lt
  obtain ⟨v1, hv1⟩ : ∃ v1, w.alloc (.cells s.cells 49) = v1 := ⟨_, rfl⟩
  obtain ⟨v2, hv2⟩ : ∃ v2, v1.alloc (.cells s.sess 47) = v2 := ⟨_, rfl⟩
  have b1 : Blk v1 w.heap.size 49 s.cells := by rw [← hv1]; exact Blk.new _ _ _
  have hs1 : v1.heap.size ≤ w.heap.size + 1 ∧ w.heap.size + 1 ≤ v1.heap.size := by rw [← hv1]; simp
  have hb1 : Below w.heap.size w v1 := by rw [← hv1]; exact (Below.refl _ _).alloc (Nat.le_refl _) _
  have hb2 : Below v1.heap.size v1 v2 := by rw [← hv2]; exact (Below.refl _ _).alloc (Nat.le_refl _) _
  have hs2 : v2.heap.size ≤ v1.heap.size + 1 ∧ v1.heap.size + 1 ≤ v2.heap.size := by rw [← hv2]; simp
  have hb12 := hb1.trans (hb2.mono hb1.size)
  have B2 : Blk v2 v1.heap.size 47 s.sess := by rw [← hv2]; exact Blk.new _ _ _
  have RS := Lib.hid (show RowAt v1 w.heap.size 5 s.sess by have := row_sess b1.row; rwa [Nat.zero_add] at this)
  have c1 : v2.cell? ⟨w.heap.size, 1, none⟩ = some (.bool s.dead) := (hb2.cell (p := ⟨w.heap.size, 1, none⟩) (by show w.heap.size < v1.heap.size; omega)).trans ((b1.cell 1).trans rfl)
  have d1 : v2.cell? ⟨v1.heap.size, 1, none⟩ = some (.int .i64 s.birth) := (B2.cell 1).trans rfl
  have d2 : v2.cell? ⟨v1.heap.size, 2, none⟩ = some (.int .i64 s.upSlot) := (B2.cell 2).trans rfl
  have d3 : v2.cell? ⟨v1.heap.size, 3, none⟩ = some (.int .i64 s.upBirth) := (B2.cell 3).trans rfl
  have d4 : v2.cell? ⟨v1.heap.size, 4, none⟩ = some (.int .i64 s.kind) := (B2.cell 4).trans rfl
  have d9 : v2.cell? ⟨v1.heap.size, 9, none⟩ = some (.int .i64 s.born) := (B2.cell 9).trans rfl
  have d10 : v2.cell? ⟨v1.heap.size, 10, none⟩ = some (.int .i64 s.deadline) := (B2.cell 10).trans rfl
  have d11 : v2.cell? ⟨v1.heap.size, 11, none⟩ = some (.int .i64 s.depth) := (B2.cell 11).trans rfl
  have l0 : v2.cell? ⟨L, 0, none⟩ = some (.int .i64 d.clock) := (hb12.cell (p := ⟨L, 0, none⟩) HL).trans ((h.blk.cell 0).trans rfl)
  have l1 : v2.cell? ⟨L, 1, none⟩ = some (.int .i64 d.births) := (hb12.cell (p := ⟨L, 1, none⟩) HL).trans ((h.blk.cell 1).trans rfl)
  have l2 : v2.cell? ⟨L, 2, none⟩ = some (.slice As d.slots.length cs) := (hb12.cell (p := ⟨L, 2, none⟩) HL).trans ((h.blk.cell 2).trans rfl)
  rw [hd] at l2
  have HV1 := Lib.hid hv1
  have HV2 := Lib.hid hv2
  have BB := Lib.hid hb12
  have BS2 := Lib.hid B2.row
  have H := Lib.hid h
  clear hv1 hv2 hb1 hb2 hb12 B2 b1 h
  go_enter Tryd.func49, Tryd.ntmps49
  by_cases e0 : s.dead = true
  · rw [e0] at c1
    go_upto_region 2 with (first
      | ((with_reducible show wpList _ _ _ (Oper.mk (some 10) (Op.load _ _) _ _ _ _ :: _) _ _); rw [HV1.out]; refine wpList_load_at (ty := 47) rfl rfl rfl RS.out HU.out rfl sessInfo ?_)
      | ((with_reducible show wpList _ _ _ (Oper.mk none _ _ _ _ _ :: _) _ (World.alloc _ _)); refine wpList_store_new (ty := 47) rfl rfl rfl rfl rfl (SlotV.sess_one _) sessInfo ?_; rw [HV2.out]))
    simp only [Act.put]
    go_big_quiet (fail)
    go_wp2
    go_ret
    exact ⟨by unfold livesX; simp [e0], (by repeat (first | exact BB.out | refine Go.below_drewN ?_ _))⟩
  · have e0' : s.dead = false := by simpa using e0
    rw [e0'] at c1
    clear e0
    by_cases e1 : s.birth < 1
    · go_upto_region 2 with (first
        | ((with_reducible show wpList _ _ _ (Oper.mk (some 10) (Op.load _ _) _ _ _ _ :: _) _ _); rw [HV1.out]; refine wpList_load_at (ty := 47) rfl rfl rfl RS.out HU.out rfl sessInfo ?_)
        | ((with_reducible show wpList _ _ _ (Oper.mk none _ _ _ _ _ :: _) _ (World.alloc _ _)); refine wpList_store_new (ty := 47) rfl rfl rfl rfl rfl (SlotV.sess_one _) sessInfo ?_; rw [HV2.out]))
      simp only [Act.put]
      go_big_quiet (fail)
      go_wp2
      go_ret
      exact ⟨by unfold livesX; simp [e1], (by repeat (first | exact BB.out | refine Go.below_drewN ?_ _))⟩
    · by_cases e2 : d.births < s.birth
      · go_upto_region 2 with (first
          | ((with_reducible show wpList _ _ _ (Oper.mk (some 10) (Op.load _ _) _ _ _ _ :: _) _ _); rw [HV1.out]; refine wpList_load_at (ty := 47) rfl rfl rfl RS.out HU.out rfl sessInfo ?_)
          | ((with_reducible show wpList _ _ _ (Oper.mk none _ _ _ _ _ :: _) _ (World.alloc _ _)); refine wpList_store_new (ty := 47) rfl rfl rfl rfl rfl (SlotV.sess_one _) sessInfo ?_; rw [HV2.out]))
        simp only [Act.put]
        go_big_quiet (fail)
        go_wp2
        go_ret
        exact ⟨by unfold livesX; simp [e2], (by repeat (first | exact BB.out | refine Go.below_drewN ?_ _))⟩
      · by_cases e3 : d.clock < s.born
        · go_upto_region 2 with (first
            | ((with_reducible show wpList _ _ _ (Oper.mk (some 10) (Op.load _ _) _ _ _ _ :: _) _ _); rw [HV1.out]; refine wpList_load_at (ty := 47) rfl rfl rfl RS.out HU.out rfl sessInfo ?_)
            | ((with_reducible show wpList _ _ _ (Oper.mk none _ _ _ _ _ :: _) _ (World.alloc _ _)); refine wpList_store_new (ty := 47) rfl rfl rfl rfl rfl (SlotV.sess_one _) sessInfo ?_; rw [HV2.out]))
          simp only [Act.put]
          go_big_quiet (fail)
          go_wp2
          go_ret
          exact ⟨by unfold livesX; simp [e3], (by repeat (first | exact BB.out | refine Go.below_drewN ?_ _))⟩
        · by_cases e4 : s.deadline ≤ d.clock
          · go_upto_region 2 with (first
              | ((with_reducible show wpList _ _ _ (Oper.mk (some 10) (Op.load _ _) _ _ _ _ :: _) _ _); rw [HV1.out]; refine wpList_load_at (ty := 47) rfl rfl rfl RS.out HU.out rfl sessInfo ?_)
              | ((with_reducible show wpList _ _ _ (Oper.mk none _ _ _ _ _ :: _) _ (World.alloc _ _)); refine wpList_store_new (ty := 47) rfl rfl rfl rfl rfl (SlotV.sess_one _) sessInfo ?_; rw [HV2.out]))
            simp only [Act.put]
            go_big_quiet (fail)
            go_wp2
            go_ret
            exact ⟨by unfold livesX; simp [e4], (by repeat (first | exact BB.out | refine Go.below_drewN ?_ _))⟩
          · rcases hup with rfl | ⟨u, rfl, hu⟩
            · go_upto_region 2 with (first
                | ((with_reducible show wpList _ _ _ (Oper.mk (some 10) (Op.load _ _) _ _ _ _ :: _) _ _); rw [HV1.out]; refine wpList_load_at (ty := 47) rfl rfl rfl RS.out HU.out rfl sessInfo ?_)
                | ((with_reducible show wpList _ _ _ (Oper.mk none _ _ _ _ _ :: _) _ (World.alloc _ _)); refine wpList_store_new (ty := 47) rfl rfl rfl rfl rfl (SlotV.sess_one _) sessInfo ?_; rw [HV2.out]))
              simp only [Act.put]
              go_big_quiet (fail)
              go_wp2
              all_goals
                go_ret
                exact ⟨by unfold livesX; simp_all, (by repeat (first | exact BB.out | refine Go.below_drewN ?_ _))⟩
            · have hu0 : ¬ ((u : Int) = -1) := by omega
              obtain ⟨su, hsu⟩ : ∃ su, d.slots[u]? = some su := ⟨_, List.getElem?_eq_getElem (by omega)⟩
              have HSU := Lib.hid (show d.slots.getD u SlotV.zero = su by rw [List.getD_eq_getElem?_getD, hsu]; rfl)
              obtain ⟨sb, so, rfl, hsb, hsr⟩ := H.out.slots (by omega)
              have HR2 := Lib.hid (fun n => show RowAt (v2.drewN n) sb (so + u * 17 + 5) su.sess from (row_sess (hsr u su hsu)).below (Go.below_drewN BB.out n) hsb)
              have hu32 : (u : Int) < 32 := by omega
              have hun : (0 : Int) ≤ (u : Int) := by omega
              have hun' : ¬ ((u : Int) < 0) := by omega
              clear hsr hsu

              go_upto_region 2 with (first
                | ((with_reducible show wpList _ _ _ (Oper.mk (some 10) (Op.load _ _) _ _ _ _ :: _) _ _); rw [HV1.out]; refine wpList_load_at (ty := 47) rfl rfl rfl RS.out HU.out rfl sessInfo ?_)
                | ((with_reducible show wpList _ _ _ (Oper.mk none _ _ _ _ _ :: _) _ (World.alloc _ _)); refine wpList_store_new (ty := 47) rfl rfl rfl rfl rfl (SlotV.sess_one _) sessInfo ?_; rw [HV2.out]))
              simp only [Act.put]
              go_big_quiet (fail)
              rename_i _ _ _ _
              obtain ⟨v3, hv3⟩ : ∃ v3, (v2.drewN nq).alloc (.cells su.sess 47) = v3 := ⟨_, rfl⟩
              have b3 : Below v2.heap.size v2 v3 := by rw [← hv3]; exact (Go.below_drewN (Below.refl _ _) _).alloc (Nat.le_refl _) _
              have B3 : Blk v3 v2.heap.size 47 su.sess := by rw [← hv3]; exact Blk.new (v2.drewN nq) _ _
              have BB3 := Lib.hid (BB.out.trans (b3.mono BB.out.size))
              have x1 : v3.cell? ⟨v2.heap.size, 1, none⟩ = some (.int .i64 su.birth) := (B3.cell 1).trans rfl
              have x7 : v3.cell? ⟨v2.heap.size, 7, none⟩ = some (.int .u64 su.scopes) := (B3.cell 7).trans rfl
              have x8 : v3.cell? ⟨v2.heap.size, 8, none⟩ = some (.int .i64 su.level) := (B3.cell 8).trans rfl
              have x10 : v3.cell? ⟨v2.heap.size, 10, none⟩ = some (.int .i64 su.deadline) := (B3.cell 10).trans rfl
              have x11 : v3.cell? ⟨v2.heap.size, 11, none⟩ = some (.int .i64 su.depth) := (B3.cell 11).trans rfl
              have hB := BS2.out
              have y (j : Nat) {v : Value} (hj : s.sess[j]? = some v) : v3.cell? ⟨v1.heap.size, j, none⟩ = some v := by
                have h9 := hB.at_ j v hj
                rw [Nat.zero_add] at h9
                exact (b3.cell (p := ⟨v1.heap.size, j, none⟩) (by show v1.heap.size < v2.heap.size; omega)).trans h9
              have y1 : v3.cell? ⟨v1.heap.size, 1, none⟩ = some (.int .i64 s.birth) := y 1 rfl
              have y4 : v3.cell? ⟨v1.heap.size, 4, none⟩ = some (.int .i64 s.kind) := y 4 rfl
              have y7 : v3.cell? ⟨v1.heap.size, 7, none⟩ = some (.int .u64 s.scopes) := y 7 rfl
              have y8 : v3.cell? ⟨v1.heap.size, 8, none⟩ = some (.int .i64 s.level) := y 8 rfl
              have y9 : v3.cell? ⟨v1.heap.size, 9, none⟩ = some (.int .i64 s.born) := y 9 rfl
              have y10 : v3.cell? ⟨v1.heap.size, 10, none⟩ = some (.int .i64 s.deadline) := y 10 rfl
              have y11 : v3.cell? ⟨v1.heap.size, 11, none⟩ = some (.int .i64 s.depth) := y 11 rfl
              have HV3 := Lib.hid hv3
              have hlx : livesX d s u = belowX s su := by
                unfold livesX
                rw [e0', decide_eq_false (show ¬ s.birth < 1 by omega), decide_eq_false (show ¬ d.births < s.birth by omega), decide_eq_false (show ¬ d.clock < s.born by omega), decide_eq_false (show ¬ s.deadline ≤ d.clock by omega), if_neg hu0, Int.toNat_natCast, HSU.out]
                simp
              have HLX := Lib.hid hlx
              clear hv3 b3 B3 hB y hlx
              go_wp2_with (first
                | ((with_reducible show wpList _ _ _ (Oper.mk (some 72) (Op.load _ _) _ _ _ _ :: _) _ _); refine wpList_load_at (ty := 47) rfl rfl rfl (HR2.out _) HU.out rfl sessInfo ?_)
                | ((with_reducible show wpList _ _ _ (Oper.mk none _ _ _ _ _ :: _) _ (World.alloc _ _)); refine wpList_store_new (ty := 47) rfl rfl rfl rfl rfl (SlotV.sess_one _) sessInfo ?_; rw [HV3.out]))
              all_goals
                go_ret
                refine ⟨?_, BB3.out⟩
                rw [HLX.out]
                unfold belowX
                first
                  | (simp_all; done)
                  | (simp_all <;> omega)
end Go.Proofs.YtahcedpfnechfaaDoor
