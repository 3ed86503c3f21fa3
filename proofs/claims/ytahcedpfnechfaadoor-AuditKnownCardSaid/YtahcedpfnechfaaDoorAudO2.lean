/-
  lineagelaw29: one.
-/
import Derived.Test.YtahcedpfnechfaaDoorAudO
namespace Go.Proofs.YtahcedpfnechfaaDoor
set_option maxRecDepth 100000
open Go.RowKit Go.Sort

/-- The variable is handed back: what it holds is laid in the result's block. -/
theorem DSt.ret {w v1 wk : World} {D : Nat} {d : DumpV} {gs cs : Nat} {Af : Option Addr} {cf : Nat} (h : DSt v1 wk D d gs cs Af cf) (hv : w.heap.size < v1.heap.size) (hb : Below w.heap.size w v1) (rs : Array Value) :
    DumpH (wk.setRow w.heap.size rs) w.heap.size d gs cs Af ∧ Below w.heap.size w (wk.setRow w.heap.size rs) := by
  have hg := (own_cap h.own).2.2
  have hgb : wk.grownBy (wk.setRow w.heap.size rs) (some w.heap.size) := ⟨rfl, rfl, rfl, by simp [World.setRow], fun k _ hk => setRow_other _ _ k _ (fun e => hk (by rw [e]))⟩
  refine ⟨⟨owns_lower (h.own.kept hgb (.inr ?_)) (by omega), h.free.kept hgb.size fun a e _ => setRow_other _ _ _ _ ?_, fun a e => ?_⟩, bel_setRow (hb.trans (h.bl.mono (by omega))) (Nat.le_refl _) _⟩
  · intro e; injection e with e; have e' : gs = w.heap.size := e; omega
  · have := (h.lt a e).1; omega
  · have := h.lt a e
    have hs := hgb.size
    exact ⟨by omega, by omega, this.2.2.1⟩
theorem dumpH_empty {w : World} {B gs cs gf cf : Nat} (hos : w.ownsRow B 49 17 (.slice (some ⟨gs, 0, none⟩) 32 cs) 32 (flat SlotV.cells emptyD.slots)) (hof : w.ownsRow B 3 1 (.slice (some ⟨gf, 0, none⟩) 32 cf) 32 (intVs emptyD.free)) (hne : gs ≠ gf) : DumpH w B emptyD gs cs (some ⟨gf, 0, none⟩) :=
  ⟨hos, own_ints hof, fun a e => by cases e; have := own_cap hof; exact ⟨this.2.2.1, this.2.2.2, Ne.symm hne⟩⟩
set_option maxHeartbeats 4000000 in
theorem one_any (w : World) : Calls Tryd.prog 17 #[] w (RetD oneD w) := by
  have HU := Lib.hid Tryd.underlying25
  obtain ⟨v1, hv1⟩ : ∃ v1, w.alloc (.cells #[.int .i64 0, .int .i64 0, .slice none 0 0, .slice none 0 0, .int .i64 0, .int .i64 0] 25) = v1 := ⟨_, rfl⟩
  have hs1 : v1.heap.size ≤ w.heap.size + 1 ∧ w.heap.size + 1 ≤ v1.heap.size := by rw [← hv1]; simp
  have hb1 : Below w.heap.size w v1 := by rw [← hv1]; exact (Below.refl _ _).alloc (Nat.le_refl _) _
  have HB1 := Lib.hid hb1
  have R1 := Lib.hid (show Blk v1 w.heap.size 25 _ by rw [← hv1]; exact Blk.new _ _ _)
  have HV1 := Lib.hid hv1
  clear hv1 hb1
  go_enter Tryd.func17, Tryd.ntmps17
  go_wp2_with (go_at_call 15; fail)
  rw [HV1.out]
  refine (empty_any v1).mono ?_
  rintro e w1 ⟨gs, cs, gf, cf, rfl, hne, hos, hof, hb2⟩
  have hcs := own_cap hos
  have hcf := own_cap hof
  obtain ⟨v2, hv2⟩ : ∃ x, w1.alloc (.cells (DumpV.dc emptyD (some ⟨gs, 0, none⟩) cs (some ⟨gf, 0, none⟩) cf).toArray 25) = x := ⟨_, rfl⟩
  have Sv2 := Lib.hid (hv2 ▸ DSt.start (cf := cf) (dumpH_empty hos hof hne) hb2)
  have HWv2 := Lib.hid hv2
  clear hv2
  have xo1 : v2.cell? ⟨w1.heap.size, 0, none⟩ = some (.int .i64 0) := (Sv2.out.blk.cell 0).trans rfl
  have fo1 : v2.frozen? ⟨w1.heap.size, 0, none⟩ = false := Sv2.out.blk.frozen 0
  obtain ⟨o1, ho1⟩ : ∃ x, v2.setCell ⟨w1.heap.size, 0, none⟩ (.int .i64 3) = x := ⟨_, rfl⟩
  have So1 := Lib.hid (ho1 ▸ Sv2.out.clock 3)
  have HWo1 := Lib.hid ho1
  clear ho1
  have xo2 : o1.cell? ⟨w1.heap.size, 1, none⟩ = some (.int .i64 0) := (So1.out.blk.cell 1).trans rfl
  have fo2 : o1.frozen? ⟨w1.heap.size, 1, none⟩ = false := So1.out.blk.frozen 1
  obtain ⟨o2, ho2⟩ : ∃ x, o1.setCell ⟨w1.heap.size, 1, none⟩ (.int .i64 1) = x := ⟨_, rfl⟩
  have So2 := Lib.hid (ho2 ▸ So1.out.births 1)
  have HWo2 := Lib.hid ho2
  clear ho2
  have xo3 : o2.cell? ⟨w1.heap.size, 3, none⟩ = some (.slice (some ⟨gf, 0, none⟩) 32 cf) := (So2.out.blk.cell 3).trans rfl
  have fo3 : o2.frozen? ⟨w1.heap.size, 3, none⟩ = false := So2.out.blk.frozen 3
  obtain ⟨o3, ho3⟩ : ∃ x, o2.setCell ⟨w1.heap.size, 3, none⟩ (.slice (some ⟨gf, 1, none⟩) 31 (cf - 1)) = x := ⟨_, rfl⟩
  have So3 := Lib.hid (ho3 ▸ So2.out.tail 31 (cf - 1) rfl)
  have HWo3 := Lib.hid ho3
  clear ho3
  have xo4 : o3.cell? ⟨w1.heap.size, 5, none⟩ = some (.int .i64 (-1)) := (So3.out.blk.cell 5).trans rfl
  have fo4 : o3.frozen? ⟨w1.heap.size, 5, none⟩ = false := So3.out.blk.frozen 5
  obtain ⟨o4, ho4⟩ : ∃ x, o3.setCell ⟨w1.heap.size, 5, none⟩ (.int .i64 0) = x := ⟨_, rfl⟩
  have So4 := Lib.hid (ho4 ▸ So3.out.roots 0)
  have HWo4 := Lib.hid ho4
  clear ho4
  have xo5 : o4.cell? ⟨w1.heap.size, 2, none⟩ = some (.slice (some ⟨gs, 0, none⟩) 32 cs) := (So4.out.blk.cell 2).trans rfl
  obtain ⟨co5, hBo5, hfito5, hSo5⟩ := So4.out.slot 0 0 rfl (by decide) slot0
  have HBo5 := Lib.hid hBo5
  have HFo5 := Lib.hid hfito5
  obtain ⟨o5, ho5⟩ : ∃ x, o4.setRow gs (splice co5 0 (SlotV.cells slot0)) = x := ⟨_, rfl⟩
  have So5 := Lib.hid (ho5 ▸ hSo5)
  have HWo5 := Lib.hid ho5
  clear ho5
  clear hBo5 hfito5 hSo5
  have SF := Lib.hid (show DSt v1 o5 w1.heap.size oneD gs cs (some ⟨gf, 1, none⟩) (cf - 1) from So5.out)
  have RF := Lib.hid (R1.out.below SF.out.bl (by omega))
  have hc1 : (1 : Int) ≤ (cf : Int) := by omega
  have hc2 : ¬ cf = 1 := by omega
  have hc3 : (cf : Int) ≤ 9223372036854775807 := by have := hcf.2.1; unfold maxLen at this; omega
  have hcx := Lib.hid (show cf - 1 ≤ 9223372036854775807 ∧ 31 ≤ cf - 1 by have := hcf.2.1; unfold maxLen at this; omega)
  clear hos hof hcs hcf
  go_wp2_with (first
    | ((with_reducible show wpList _ _ _ (Oper.mk none _ _ _ _ _ :: _) _ (World.alloc _ _)); refine wpList_store_new (ty := 25) rfl rfl rfl rfl rfl (dc_one emptyD _ _ _ _) dumpInfo ?_; rw [HWv2.out])
    | ((with_reducible show wpList _ _ _ (Oper.mk none _ _ _ _ _ :: _) _ o4); refine wpList_store_at (t := 49) (vs := SlotV.cells slot0) rfl rfl rfl rfl HBo5.out HFo5.out (SlotV.one _) slotInfo ?_)
    | ((with_reducible show wpList _ _ _ _ _ (World.setCell _ _ _)); (first | rw [HWo1.out] | rw [HWo2.out] | rw [HWo3.out] | rw [HWo4.out] | rw [HWo5.out]))
    | ((with_reducible show wpList _ _ _ _ _ (World.setRow _ _ _)); (first | rw [HWo1.out] | rw [HWo2.out] | rw [HWo3.out] | rw [HWo4.out] | rw [HWo5.out]))
    | ((with_reducible show wpList _ _ _ (Oper.mk (some 15) (Op.load _ _) _ _ _ _ :: _) _ o5); refine wpList_load_at (ty := 25) rfl rfl rfl SF.out.blk.row HU.out rfl dumpInfo ?_)
    | ((with_reducible show wpList _ _ _ (Oper.mk none _ _ _ _ _ :: _) _ o5); refine wpList_store_all (vs := (DumpV.dc oneD (some ⟨gs, 0, none⟩) cs (some ⟨gf, 1, none⟩) (cf - 1)).toArray) rfl rfl rfl rfl RF.out rfl (dc_one oneD _ _ _ _) dumpInfo ?_))
  have hret := SF.out.ret (w := w) (by omega) HB1.out (DumpV.dc oneD (some ⟨gs, 0, none⟩) cs (some ⟨gf, 1, none⟩) (cf - 1)).toArray
  refine bodyPost_ret (results_at rfl rfl (RF.out.setRow_same _).row HU.out rfl dumpInfo) rfl ⟨gs, cs, (some ⟨gf, 1, none⟩), cf - 1, rfl, hret.1, hcx.out.1, hcx.out.2, hret.2⟩
end Go.Proofs.YtahcedpfnechfaaDoor
