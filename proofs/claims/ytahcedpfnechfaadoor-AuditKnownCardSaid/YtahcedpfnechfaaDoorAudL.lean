/-
  The audit: lives.
-/
import Derived.Test.YtahcedpfnechfaaDoorAudB
namespace Go.Proofs.YtahcedpfnechfaaDoor
set_option maxRecDepth 100000
open Go.RowKit Go.Sort

theorem sessInfo : (Tryd.prog.info? 47).map (·.size) = some 12 := by kernel_rfl
theorem SlotV.sess_one (s : SlotV) : ∀ v ∈ s.sess.toList, v.oneCell' = true := by
  intro v hv
  simp [SlotV.sess] at hv
  rcases hv with rfl | rfl | rfl | rfl | rfl | rfl | rfl | rfl | rfl | rfl | rfl | rfl <;> rfl
theorem row_sess {w : World} {b o : Nat} {s : SlotV} (h : RowAt w b o s.cells) : RowAt w b (o + 5) s.sess := ⟨fun j v hv => by
  have hj : j < 12 := (Array.getElem?_eq_some_iff.1 hv).1
  have h2 : s.cells[5 + j]? = some v := by
    rw [← hv]
    unfold SlotV.cells SlotV.sess
    match j, hj with
    | 0, _ => rfl | 1, _ => rfl | 2, _ => rfl | 3, _ => rfl | 4, _ => rfl | 5, _ => rfl | 6, _ => rfl | 7, _ => rfl | 8, _ => rfl | 9, _ => rfl | 10, _ => rfl | 11, _ => rfl
  rw [Nat.add_assoc]
  exact h.at_ (5 + j) v h2⟩
/-- May s live, below up? -/
def livesX (d : DumpV) (s : SlotV) (up : Int) : Bool := !(s.dead || decide (s.birth < 1) || decide (d.births < s.birth) || decide (d.clock < s.born) || decide (s.deadline ≤ d.clock)) &&
  (if up = -1 then s.upSlot == 0 && s.upBirth == 0 && s.kind == 0 && s.depth == 0 else belowX s (d.slots.getD up.toNat SlotV.zero))
set_option maxHeartbeats 8000000 in
theorem clives_any (d : DumpV) (s : SlotV) (up : Int) (hup : up = -1 ∨ ∃ u : Nat, up = u ∧ u < 32) (hd : d.slots.length = 32) (L : Nat) (As : Option Addr) (cs : Nat) (Af : Option Addr) (cf : Nat) (M : List Int) (w : World) (h : LookAt w L 58 [] d As cs Af cf M) :
    Calls Tryd.prog 61 #[.pointer (some ⟨L, 0, none⟩), .agg s.cells, .int .i64 up] w (RetB (.bool (livesX d s up)) w) := by
  have HU := Lib.hid Tryd.underlying47
  have HL := h.blk.lt
  obtain ⟨v1, hv1⟩ : ∃ v1, w.alloc (.cells s.cells 49) = v1 := ⟨_, rfl⟩
  obtain ⟨v2, hv2⟩ : ∃ v2, v1.alloc (.cells s.sess 47) = v2 := ⟨_, rfl⟩
  have b1 : Blk v1 w.heap.size 49 s.cells := by rw [← hv1]; exact Blk.new _ _ _
  have hs1 : v1.heap.size ≤ w.heap.size + 1 ∧ w.heap.size + 1 ≤ v1.heap.size := by rw [← hv1]; simp
  have hb1 : Below w.heap.size w v1 := by rw [← hv1]; exact (Below.refl _ _).alloc (Nat.le_refl _) _
  have hb2 : Below v1.heap.size v1 v2 := by rw [← hv2]; exact (Below.refl _ _).alloc (Nat.le_refl _) _
  have hs2 : v2.heap.size ≤ v1.heap.size + 1 ∧ v1.heap.size + 1 ≤ v2.heap.size := by rw [← hv2]; simp
  have hb12 := hb1.trans (hb2.mono hb1.size)
  have B2 : Blk v2 v1.heap.size 47 s.sess := by rw [← hv2]; exact Blk.new _ _ _
  have RS := Lib.hid (show RowAt v1 w.heap.size 5 s.sess by have := row_sess b1.row; rwa [Nat.zero_add] at this)
  have c1 : v2.cell? ⟨w.heap.size, 1, none⟩ = some (.bool s.dead) := (hb2.cell (p := ⟨w.heap.size, 1, none⟩) (by show w.heap.size < v1.heap.size; omega)).trans ((b1.cell 1).trans rfl)
  have d1 : v2.cell? ⟨v1.heap.size, 1, none⟩ = some (.int .i64 s.birth) := (B2.cell 1).trans rfl
  have d2 : v2.cell? ⟨v1.heap.size, 2, none⟩ = some (.int .i64 s.upSlot) := (B2.cell 2).trans rfl
  have d3 : v2.cell? ⟨v1.heap.size, 3, none⟩ = some (.int .i64 s.upBirth) := (B2.cell 3).trans rfl
  have d4 : v2.cell? ⟨v1.heap.size, 4, none⟩ = some (.int .i64 s.kind) := (B2.cell 4).trans rfl
  have d9 : v2.cell? ⟨v1.heap.size, 9, none⟩ = some (.int .i64 s.born) := (B2.cell 9).trans rfl
  have d10 : v2.cell? ⟨v1.heap.size, 10, none⟩ = some (.int .i64 s.deadline) := (B2.cell 10).trans rfl
  have d11 : v2.cell? ⟨v1.heap.size, 11, none⟩ = some (.int .i64 s.depth) := (B2.cell 11).trans rfl
  have l0 : v2.cell? ⟨L, 0, none⟩ = some (.int .i64 d.clock) := (hb12.cell (p := ⟨L, 0, none⟩) HL).trans ((h.blk.cell 0).trans rfl)
  have l1 : v2.cell? ⟨L, 1, none⟩ = some (.int .i64 d.births) := (hb12.cell (p := ⟨L, 1, none⟩) HL).trans ((h.blk.cell 1).trans rfl)
  have l2 : v2.cell? ⟨L, 2, none⟩ = some (.slice As d.slots.length cs) := (hb12.cell (p := ⟨L, 2, none⟩) HL).trans ((h.blk.cell 2).trans rfl)
  rw [hd] at l2
  have HV1 := Lib.hid hv1
  have HV2 := Lib.hid hv2
  have BB := Lib.hid hb12
  have BS2 := Lib.hid B2.row
  have H := Lib.hid h
  clear hv1 hv2 hb1 hb2 hb12 B2 b1 h
  go_enter Tryd.func61, Tryd.ntmps61
  by_cases e0 : s.dead = true
  · rw [e0] at c1
    go_wp2_with (first
      | ((with_reducible show wpList _ _ _ (Oper.mk (some 9) (Op.load _ _) _ _ _ _ :: _) _ _); rw [HV1.out]; refine wpList_load_at (ty := 47) rfl rfl rfl RS.out HU.out rfl sessInfo ?_)
      | ((with_reducible show wpList _ _ _ (Oper.mk none _ _ _ _ _ :: _) _ (World.alloc _ _)); refine wpList_store_new (ty := 47) rfl rfl rfl rfl rfl (SlotV.sess_one _) sessInfo ?_; rw [HV2.out]))
    go_ret
    exact ⟨by unfold livesX; simp [e0], (by repeat (first | exact BB.out | refine Go.below_drewN ?_ _))⟩
  · have e0' : s.dead = false := by simpa using e0
    rw [e0'] at c1
    clear e0
    by_cases e1 : s.birth < 1
    · go_wp2_with (first
        | ((with_reducible show wpList _ _ _ (Oper.mk (some 9) (Op.load _ _) _ _ _ _ :: _) _ _); rw [HV1.out]; refine wpList_load_at (ty := 47) rfl rfl rfl RS.out HU.out rfl sessInfo ?_)
        | ((with_reducible show wpList _ _ _ (Oper.mk none _ _ _ _ _ :: _) _ (World.alloc _ _)); refine wpList_store_new (ty := 47) rfl rfl rfl rfl rfl (SlotV.sess_one _) sessInfo ?_; rw [HV2.out]))
      go_ret
      exact ⟨by unfold livesX; simp [e1], (by repeat (first | exact BB.out | refine Go.below_drewN ?_ _))⟩
    · by_cases e2 : d.births < s.birth
      · go_wp2_with (first
          | ((with_reducible show wpList _ _ _ (Oper.mk (some 9) (Op.load _ _) _ _ _ _ :: _) _ _); rw [HV1.out]; refine wpList_load_at (ty := 47) rfl rfl rfl RS.out HU.out rfl sessInfo ?_)
          | ((with_reducible show wpList _ _ _ (Oper.mk none _ _ _ _ _ :: _) _ (World.alloc _ _)); refine wpList_store_new (ty := 47) rfl rfl rfl rfl rfl (SlotV.sess_one _) sessInfo ?_; rw [HV2.out]))
        go_quiet (fail)
        go_wp2
        go_ret
        exact ⟨by unfold livesX; simp [e2], (by repeat (first | exact BB.out | refine Go.below_drewN ?_ _))⟩
      · by_cases e3 : d.clock < s.born
        · go_wp2_with (first
            | ((with_reducible show wpList _ _ _ (Oper.mk (some 9) (Op.load _ _) _ _ _ _ :: _) _ _); rw [HV1.out]; refine wpList_load_at (ty := 47) rfl rfl rfl RS.out HU.out rfl sessInfo ?_)
            | ((with_reducible show wpList _ _ _ (Oper.mk none _ _ _ _ _ :: _) _ (World.alloc _ _)); refine wpList_store_new (ty := 47) rfl rfl rfl rfl rfl (SlotV.sess_one _) sessInfo ?_; rw [HV2.out]))
          go_quiet (fail)
          go_wp2
          go_quiet (fail)
          go_wp2
          go_ret
          exact ⟨by unfold livesX; simp [e3], (by repeat (first | exact BB.out | refine Go.below_drewN ?_ _))⟩
        · by_cases e4 : s.deadline ≤ d.clock
          · go_wp2_with (first
              | ((with_reducible show wpList _ _ _ (Oper.mk (some 9) (Op.load _ _) _ _ _ _ :: _) _ _); rw [HV1.out]; refine wpList_load_at (ty := 47) rfl rfl rfl RS.out HU.out rfl sessInfo ?_)
              | ((with_reducible show wpList _ _ _ (Oper.mk none _ _ _ _ _ :: _) _ (World.alloc _ _)); refine wpList_store_new (ty := 47) rfl rfl rfl rfl rfl (SlotV.sess_one _) sessInfo ?_; rw [HV2.out]))
            go_quiet (fail)
            go_wp2
            go_quiet (fail)
            go_wp2
            go_quiet (fail)
            go_wp2
            go_ret
            exact ⟨by unfold livesX; simp [e4], (by repeat (first | exact BB.out | refine Go.below_drewN ?_ _))⟩
          · rcases hup with rfl | ⟨u, rfl, hu⟩
            · go_wp2_with (first
                | ((with_reducible show wpList _ _ _ (Oper.mk (some 9) (Op.load _ _) _ _ _ _ :: _) _ _); rw [HV1.out]; refine wpList_load_at (ty := 47) rfl rfl rfl RS.out HU.out rfl sessInfo ?_)
                | ((with_reducible show wpList _ _ _ (Oper.mk none _ _ _ _ _ :: _) _ (World.alloc _ _)); refine wpList_store_new (ty := 47) rfl rfl rfl rfl rfl (SlotV.sess_one _) sessInfo ?_; rw [HV2.out]))
              go_quiet (fail)
              go_wp2
              go_quiet (fail)
              go_wp2
              go_quiet (fail)
              go_wp2
              all_goals
                go_ret
                exact ⟨by unfold livesX; simp_all, (by repeat (first | exact BB.out | refine Go.below_drewN ?_ _))⟩
            · have hu0 : ¬ ((u : Int) = -1) := by omega
              obtain ⟨su, hsu⟩ : ∃ su, d.slots[u]? = some su := ⟨_, List.getElem?_eq_getElem (by omega)⟩
              have HSU := Lib.hid (show d.slots.getD u SlotV.zero = su by rw [List.getD_eq_getElem?_getD, hsu]; rfl)
              obtain ⟨sb, so, rfl, hsb, hsr⟩ := H.out.slots (by omega)
              have HR1 := Lib.hid (fun W (hW : Below v2.heap.size v2 W) => RowAt.class_ (W := W) (g := v1.heap.size) (BS2.out.below hW (by omega)) (by have := hW.size; omega))
              have HR2 := Lib.hid (fun W (hW : Below v2.heap.size v2 W) => RowAt.class_ (W := W) (g := sb) ((row_sess (hsr u su hsu)).below (BB.out.trans (hW.mono BB.out.size)) hsb) (by have := BB.out.size; have := hW.size; omega))
              have HQ := Lib.hid (fun (W : World) (d : Nat) (os : Array Obj) => Calls.regrown_of (cbelow_any s su (grow (redrawn W d) os)))
              have hu32 : (u : Int) < 32 := by omega
              have hun : (0 : Int) ≤ (u : Int) := by omega
              clear hsr hsu
              go_wp2_with (first
                | ((with_reducible show wpList _ _ _ (Oper.mk (some 9) (Op.load _ _) _ _ _ _ :: _) _ _); rw [HV1.out]; refine wpList_load_at (ty := 47) rfl rfl rfl RS.out HU.out rfl sessInfo ?_)
                | ((with_reducible show wpList _ _ _ (Oper.mk none _ _ _ _ _ :: _) _ (World.alloc _ _)); refine wpList_store_new (ty := 47) rfl rfl rfl rfl rfl (SlotV.sess_one _) sessInfo ?_; rw [HV2.out]))
              go_quiet (fail)
              go_wp2
              go_quiet (fail)
              go_wp2
              go_quiet (fail)
              go_wp2
              rename_i na _ nb _ _ _ _ _
              have BN := Lib.hid (show Below v2.heap.size v2 (v2.drewN (na + nb + nq)) from Go.below_drewN (Below.refl _ _) _)
              have cl2 := cell_regrown (show (v2.drewN (na + nb + nq)).cell? ⟨L, 2, none⟩ = some (.slice (some ⟨sb, so, none⟩) 32 cs) from l2)
              have HR1 := Lib.hid (HR1.out _ BN.out)
              have HR2 := Lib.hid (HR2.out _ BN.out)
              refine wp_region_quiet_below (by kernel_rfl) (by kernel_rfl) ?_
              repeat (first
                | go_big_quiet_skip
                | (refine wpQuiet_load_at rfl rfl rfl HR1.out HU.out rfl sessInfo ?_; simp only [Act.put, List.setIfInBounds_toArray, List.set_cons_zero, List.set_cons_succ])
                | (refine wpQuiet_load_at rfl rfl rfl HR2.out HU.out rfl sessInfo ?_; simp only [Act.put, List.setIfInBounds_toArray, List.set_cons_zero, List.set_cons_succ])
                | (go_big_quiet_want; go_big_quiet_op; first | go_big_quiet_on | go_big_quiet_call (with_reducible exact HQ.out _ _ _)))
              refine wpQuiet_nil ?_
              intro w5 hC5
              have hb5 := below_class hC5
              have HB5 := Lib.hid ((BB.out.trans (BN.out.mono BB.out.size)).trans (hb5.mono (by have := BB.out.size; have := BN.out.size; omega)))
              clear hC5 hb5
              go_wp2
              go_ret
              have hlx : livesX d s u = belowX s su := by
                unfold livesX
                rw [e0', decide_eq_false (show ¬ s.birth < 1 by omega), decide_eq_false (show ¬ d.births < s.birth by omega), decide_eq_false (show ¬ d.clock < s.born by omega), decide_eq_false (show ¬ s.deadline ≤ d.clock by omega), if_neg hu0, Int.toNat_natCast, HSU.out]
                simp
              exact ⟨by rw [hlx]; rfl, HB5.out⟩
end Go.Proofs.YtahcedpfnechfaaDoor
