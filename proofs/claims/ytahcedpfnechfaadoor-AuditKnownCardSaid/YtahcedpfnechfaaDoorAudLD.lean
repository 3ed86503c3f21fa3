/-
  lineagekit: a dump, lent and kept.
-/
import Derived.Test.YtahcedpfnechfaaDoorKeptS
import Derived.Test.YtahcedpfnechfaaDoorKeptIA
import Derived.Test.YtahcedpfnechfaaDoorAudK
namespace Go.Proofs.YtahcedpfnechfaaDoor
set_option maxRecDepth 100000
open Go.RowKit Go.Sort

/-- What LentDump hands back: the dump over lists of its own, with marks in their spare room. -/
def LentD (d : DumpV) (B : Nat) (w : World) (e : Ending) (w' : World) : Prop :=
  ∃ g c g2 c2, e = .returned (.agg (d.dc (some ⟨g, 0, none⟩) c (some ⟨g2, 0, none⟩) c2).toArray) ∧ w'.ownsRow B 49 17 (.slice (some ⟨g, 0, none⟩) (fullSlots d.slots).length c) (fullSlots d.slots).length (flat SlotV.cells (fullSlots d.slots))
    ∧ d.free.length + 16 ≤ c2 ∧ c2 ≤ 9223372036854775807 ∧ IntsAt w' (some ⟨g2, 0, none⟩) (fullI d.free) ∧ Below B w w'
/-- The bounds of a dump's lists. -/
structure DumpFits (d : DumpV) : Prop where
  slots : d.slots.length * 144 ≤ 140737488351232
  free : d.free.length * 8 ≤ 140737488351232
set_option maxHeartbeats 4000000 in
theorem lentD_any (d : DumpV) (As : Option Addr) (cs : Nat) (Af : Option Addr) (cf : Nat) (hf : DumpFits d) (w : World) (h : DumpIn w d As Af) :
    Calls Tryd.prog 8 #[.agg (d.dc As cs Af cf).toArray] w (LentD d w.heap.size w) := by
  obtain ⟨hsl, hfr, hlt⟩ := h
  have HU := Lib.hid Tryd.underlying25
  obtain ⟨v1, hv1⟩ : ∃ v1, w.alloc (.cells #[.int .i64 d.clock, .int .i64 d.births, .slice As d.slots.length cs, .slice Af d.free.length cf, .int .i64 d.garbage, .int .i64 d.roots] 25) = v1 := ⟨_, rfl⟩
  obtain ⟨v2, hv2⟩ : ∃ v2, v1.alloc (.cells #[.int .i64 0, .int .i64 0, .slice none 0 0, .slice none 0 0, .int .i64 0, .int .i64 0] 25) = v2 := ⟨_, rfl⟩
  obtain ⟨v3, hv3⟩ : ∃ v3, v2.alloc (.cells #[.int .i64 d.clock, .int .i64 d.births, .slice As d.slots.length cs, .slice Af d.free.length cf, .int .i64 d.garbage, .int .i64 d.roots] 25) = v3 := ⟨_, rfl⟩
  have hs1 : v1.heap.size ≤ w.heap.size + 1 ∧ w.heap.size + 1 ≤ v1.heap.size := by rw [← hv1]; simp
  have hs2 : v2.heap.size ≤ v1.heap.size + 1 ∧ v1.heap.size + 1 ≤ v2.heap.size := by rw [← hv2]; simp
  have hs3 : v3.heap.size ≤ v2.heap.size + 1 ∧ v2.heap.size + 1 ≤ v3.heap.size := by rw [← hv3]; simp
  have hb1 : Below w.heap.size w v1 := by rw [← hv1]; exact (Below.refl _ _).alloc (Nat.le_refl _) _
  have hb2 : Below v1.heap.size v1 v2 := by rw [← hv2]; exact (Below.refl _ _).alloc (Nat.le_refl _) _
  have hb3 : Below v2.heap.size v2 v3 := by rw [← hv3]; exact (Below.refl _ _).alloc (Nat.le_refl _) _
  have hb13 := hb1.trans ((hb2.trans (hb3.mono (by omega))).mono (by omega))
  have HS3 := Lib.hid (hsl.kept hb13.size fun a _ hlt => hb13.block a.block hlt)
  have HF3 := Lib.hid (hfr.below hb13 (Nat.le_refl _))
  have HLF := Lib.hid hlt.2
  have BD1 : Blk v1 w.heap.size 25 #[.int .i64 d.clock, .int .i64 d.births, .slice As d.slots.length cs, .slice Af d.free.length cf, .int .i64 d.garbage, .int .i64 d.roots] := by rw [← hv1]; exact Blk.new _ _ _
  have BZ2 : Blk v2 v1.heap.size 25 #[.int .i64 0, .int .i64 0, .slice none 0 0, .slice none 0 0, .int .i64 0, .int .i64 0] := by rw [← hv2]; exact Blk.new _ _ _
  have BX3 : Blk v3 v2.heap.size 25 #[.int .i64 d.clock, .int .i64 d.births, .slice As d.slots.length cs, .slice Af d.free.length cf, .int .i64 d.garbage, .int .i64 d.roots] := by rw [← hv3]; exact Blk.new _ _ _
  have BD3 := Lib.hid ((BD1.below hb2 (by omega)).below hb3 (by omega))
  have RD2 := Lib.hid (BD1.below hb2 (by omega)).row
  have BZ3 := Lib.hid (BZ2.below hb3 (by omega))
  have BX := Lib.hid BX3
  have HV1 := Lib.hid hv1
  have HV2 := Lib.hid hv2
  have HV3 := Lib.hid hv3
  have BB := Lib.hid hb13
  have HFT := Lib.hid hf
  have x2 : v3.cell? ⟨w.heap.size, 2, none⟩ = some (.slice As d.slots.length cs) := (BD3.out.cell 2).trans rfl
  clear hv1 hv2 hv3 hb1 hb2 hb3 hb13 BD1 BZ2 BX3 hsl hfr hlt hf
  unfold DumpV.dc
  go_enter Tryd.func8, Tryd.ntmps8
  go_wp2_with (first
    | ((with_reducible show wpList _ _ _ (Oper.mk (some 4) (Op.load _ _) _ _ _ _ :: _) _ _); rw [HV1.out, HV2.out]; refine wpList_load_at (ty := 25) rfl rfl rfl RD2.out HU.out rfl dumpInfo ?_)
    | ((with_reducible show wpList _ _ _ (Oper.mk none _ _ _ _ _ :: _) _ (World.alloc _ _)); refine wpList_store_new (ty := 25) rfl rfl rfl rfl rfl (dc_one d As cs Af cf) dumpInfo ?_; rw [HV3.out])
    | (go_at_call 22; fail))
  refine (lentS_any As cs d.slots v3 HS3.out HFT.out.slots).mono ?_
  rintro e w4 ⟨g, c, rfl, hown, hb4⟩
  have hc4 := own_cap hown
  have HO4 := Lib.hid hown
  have HB4 := Lib.hid hb4
  have hs4 := hb4.size
  have BX4 := Lib.hid (BX.out.below hb4 (by omega))
  have BD4 := Lib.hid (BD3.out.below hb4 (by omega))
  have BZ4 := Lib.hid (BZ3.out.below hb4 (by omega))
  have HF4 := Lib.hid (HF3.out.below hb4 (Nat.le_refl _))
  have c2 : w4.cell? ⟨v2.heap.size, 2, none⟩ = some (.slice As d.slots.length cs) := (BX4.out.cell 2).trans rfl
  have f2 : w4.frozen? ⟨v2.heap.size, 2, none⟩ = false := BX4.out.frozen 2
  obtain ⟨w5, hw5⟩ : ∃ w5, w4.setCell ⟨v2.heap.size, 2, none⟩ (.slice (some ⟨g, 0, none⟩) d.slots.length c) = w5 := ⟨_, rfl⟩
  have HW5 := Lib.hid hw5
  have BX5 := Lib.hid (show Blk w5 v2.heap.size 25 #[.int .i64 d.clock, .int .i64 d.births, .slice (some ⟨g, 0, none⟩) d.slots.length c, .slice Af d.free.length cf, .int .i64 d.garbage, .int .i64 d.roots] by rw [← hw5]; exact BX4.out.set_ 2 _)
  have BD5 := Lib.hid (show Blk w5 w.heap.size 25 _ by rw [← hw5]; exact BD4.out.far (by show w.heap.size ≠ v2.heap.size; omega) _)
  have BZ5 := Lib.hid (show Blk w5 v1.heap.size 25 _ by rw [← hw5]; exact BZ4.out.far (by show v1.heap.size ≠ v2.heap.size; omega) _)
  have hs5 : w5.heap.size = w4.heap.size := by rw [← hw5]; simp
  have HF5 := Lib.hid (show IntsAt w5 Af d.free from HF4.out.kept (by omega) fun a e _ => by rw [← hw5]; exact Below.heap_setCell _ _ _ _ (by have := HLF.out a e; show a.block ≠ v2.heap.size; omega))
  have HO5 := Lib.hid (show w5.ownsRow v3.heap.size 49 17 _ _ _ from hw5 ▸ ownsRow_setCell_below HO4.out (by show v2.heap.size < v3.heap.size; omega) _)
  have hb5 : Below w.heap.size w w5 := by rw [← hw5]; exact (BB.out.trans (HB4.out.mono (by omega))).setCell (by show w.heap.size ≤ v2.heap.size; omega) _
  have HB5 := Lib.hid hb5
  have y3 : w5.cell? ⟨w.heap.size, 3, none⟩ = some (.slice Af d.free.length cf) := (BD5.out.cell 3).trans rfl
  clear hown hb4 hw5 hb5 HO4 HF4 BX4 BD4 BZ4
  go_wp2_with (first
    | ((with_reducible show wpList _ _ _ (Oper.mk (some 9) _ _ _ _ _ :: _) _ (World.setCell _ _ _)); rw [HW5.out])
    | (go_at_call 23; fail))
  refine (lentI_any Af d.free.length cf d.free rfl HFT.out.free w5 HF5.out).mono ?_
  rintro e w6 ⟨g2, c6, rfl, hc6, hc6', hin6, hb6, hg6⟩
  have HG2 := Lib.hid (show g2 ≠ v2.heap.size by omega)
  have HG3 := Lib.hid (show g2 ≠ w.heap.size + 1 by omega)
  have HB6 := Lib.hid hb6
  have HI6 := Lib.hid hin6
  have hs6 := hb6.size
  have BX6 := Lib.hid (BX5.out.below hb6 (by omega))
  have BZ6 := Lib.hid (BZ5.out.below hb6 (by omega))
  have HO6 := Lib.hid (own_below HO5.out hb6)
  have c3 : w6.cell? ⟨v2.heap.size, 3, none⟩ = some (.slice Af d.free.length cf) := (BX6.out.cell 3).trans rfl
  have f3 : w6.frozen? ⟨v2.heap.size, 3, none⟩ = false := BX6.out.frozen 3
  obtain ⟨w7, hw7⟩ : ∃ w7, w6.setCell ⟨v2.heap.size, 3, none⟩ (.slice (some ⟨g2, 0, none⟩) d.free.length c6) = w7 := ⟨_, rfl⟩
  have HW7 := Lib.hid hw7
  have BX7 := Lib.hid (show Blk w7 v2.heap.size 25 (d.dc (some ⟨g, 0, none⟩) c (some ⟨g2, 0, none⟩) c6).toArray by rw [← hw7]; exact BX6.out.set_ 3 _)
  have BZ7 := Lib.hid (show Blk w7 v1.heap.size 25 _ by rw [← hw7]; exact BZ6.out.far (by show v1.heap.size ≠ v2.heap.size; omega) _)
  have HO7 := Lib.hid (show w7.ownsRow v3.heap.size 49 17 _ _ _ from hw7 ▸ ownsRow_setCell_below HO6.out (by show v2.heap.size < v3.heap.size; omega) _)
  have HB7 := Lib.hid (show Below w.heap.size w w7 by rw [← hw7]; exact (HB5.out.trans (HB6.out.mono (by omega))).setCell (by show w.heap.size ≤ v2.heap.size; omega) _)
  have HI7 := Lib.hid (show IntsAt w7 (some ⟨g2, 0, none⟩) (fullI d.free) from HI6.out.kept (by rw [← hw7]; simp) fun a e hl => by rw [← hw7]; exact Below.heap_setCell _ _ _ _ (by cases e; exact HG2.out))
  have hR : v1.heap.size = w.heap.size + 1 := by omega
  have BY7 := Lib.hid (show Blk w7 (w.heap.size + 1) 25 _ from hR ▸ BZ7.out)
  clear hin6 hb6 hw7 BX6 BZ6 HI6 HO6 BZ7 hR
  go_wp2_with (first
    | ((with_reducible show wpList _ _ _ (Oper.mk (some 13) _ _ _ _ _ :: _) _ (World.setCell _ _ _)); rw [HW7.out])
    | ((with_reducible show wpList _ _ _ (Oper.mk (some 13) (Op.load _ _) _ _ _ _ :: _) _ w7); refine wpList_load_at (ty := 25) rfl rfl rfl BX7.out.row HU.out rfl dumpInfo ?_)
    | ((with_reducible show wpList _ _ _ (Oper.mk none _ _ _ _ _ :: _) _ w7); refine wpList_store_all (vs := (d.dc (some ⟨g, 0, none⟩) c (some ⟨g2, 0, none⟩) c6).toArray) rfl rfl rfl rfl BY7.out rfl (dc_one d _ _ _ _) dumpInfo ?_))
  have BR := BY7.out.setRow_same (d.dc (some ⟨g, 0, none⟩) c (some ⟨g2, 0, none⟩) c6).toArray
  refine bodyPost_ret (results_at rfl rfl BR.row HU.out rfl dumpInfo) rfl ?_
  have hgb : w7.grownBy (w7.setRow (w.heap.size + 1) (d.dc (some ⟨g, 0, none⟩) c (some ⟨g2, 0, none⟩) c6).toArray) (some (w.heap.size + 1)) := ⟨rfl, rfl, rfl, by simp [World.setRow], fun k _ hk => setRow_other _ _ k _ (fun e => hk (by rw [e]))⟩
  refine ⟨g, c, g2, c6, rfl, owns_lower (HO7.out.kept hgb ?_) (by omega), hc6, hc6', HI7.out.kept hgb.size ?_, bel_setRow HB7.out (by omega) _⟩
  · right
    show some g ≠ some (w.heap.size + 1)
    intro e; injection e with e
    have := hc4.2.2.1; omega
  · intro a e _
    cases e
    exact setRow_other _ _ _ _ HG3.out
/-- A dump as LentDump answered it, in any world. -/
structure LentAt (w : World) (d : DumpV) (B g c g2 c2 : Nat) : Prop where
  own : w.ownsRow B 49 17 (.slice (some ⟨g, 0, none⟩) (fullSlots d.slots).length c) (fullSlots d.slots).length (flat SlotV.cells (fullSlots d.slots))
  cap : d.free.length + 16 ≤ c2
  ints : IntsAt w (some ⟨g2, 0, none⟩) (fullI d.free)
theorem LentAt.below {w w' : World} {d : DumpV} {B g c g2 c2 : Nat} (h : LentAt w d B g c g2 c2) (hb : Below w.heap.size w w') : LentAt w' d B g c g2 c2 := ⟨own_below h.own hb, h.cap, h.ints.below hb (Nat.le_refl _)⟩
theorem fullSlots_take (xs : List SlotV) : (fullSlots xs).take xs.length = xs := by simp [fullSlots]
/-- It may be read as a dump. -/
theorem LentAt.dump {w : World} {d : DumpV} {B g c g2 c2 : Nat} (h : LentAt w d B g c g2 c2) : DumpIn w d (some ⟨g, 0, none⟩) (some ⟨g2, 0, none⟩) := by
  have hg := (own_cap h.own).2.2.2
  have hn : 0 < (fullI d.free).length := by rw [fullI_len]; omega
  obtain ⟨b, off, e, hl, hc⟩ := h.ints hn
  injection e with e
  injection e with e1 e2
  subst e1 e2
  refine ⟨fun _ => ⟨g, 0, rfl, hg, fun k s hk => ?_⟩, fun _ => ⟨g2, 0, rfl, hl, fun k i hk => hc k i (fullI_lo hk)⟩, fun a e => by cases e; exact hg, fun a e => by cases e; exact hl⟩
  rw [Nat.zero_add]
  exact own_row SlotV.size h.own (fullSlots_lo hk)
theorem DumpIn.below {w w' : World} {d : DumpV} {As Af : Option Addr} (h : DumpIn w d As Af) (hb : Below w.heap.size w w') : DumpIn w' d As Af := by
  have hs := hb.size
  exact ⟨h.slots.kept hs fun a _ hlt => hb.block a.block hlt, h.free.below hb (Nat.le_refl _), fun a e => by have := h.lt.1 a e; omega, fun a e => by have := h.lt.2 a e; omega⟩
set_option maxHeartbeats 4000000 in
theorem keptD_any (d : DumpV) (As : Option Addr) (cs : Nat) (Af : Option Addr) (cf B g c g2 c2 : Nat) (hf : DumpFits d) (w : World) (hl : LentAt w d B g c g2 c2) (h : DumpIn w d As Af) :
    Calls Tryd.prog 11 #[.agg (d.dc (some ⟨g, 0, none⟩) c (some ⟨g2, 0, none⟩) c2).toArray, .agg (d.dc As cs Af cf).toArray] w (RetB (.bool true) w) := by
  obtain ⟨v1, hv1⟩ : ∃ v1, w.alloc (.cells (d.dc (some ⟨g, 0, none⟩) c (some ⟨g2, 0, none⟩) c2).toArray 25) = v1 := ⟨_, rfl⟩
  obtain ⟨v2, hv2⟩ : ∃ v2, v1.alloc (.cells (d.dc As cs Af cf).toArray 25) = v2 := ⟨_, rfl⟩
  have hs1 : v1.heap.size ≤ w.heap.size + 1 ∧ w.heap.size + 1 ≤ v1.heap.size := by rw [← hv1]; simp
  have hs2 : v2.heap.size ≤ v1.heap.size + 1 ∧ v1.heap.size + 1 ≤ v2.heap.size := by rw [← hv2]; simp
  have hb1 : Below w.heap.size w v1 := by rw [← hv1]; exact (Below.refl _ _).alloc (Nat.le_refl _) _
  have hb2 : Below v1.heap.size v1 v2 := by rw [← hv2]; exact (Below.refl _ _).alloc (Nat.le_refl _) _
  have hb12 := hb1.trans (hb2.mono hb1.size)
  have HL := Lib.hid (hl.below hb12)
  have HD := Lib.hid (h.below hb12)
  have B1 : Blk v1 w.heap.size 25 (d.dc (some ⟨g, 0, none⟩) c (some ⟨g2, 0, none⟩) c2).toArray := by rw [← hv1]; exact Blk.new _ _ _
  have B2 := B1.below hb2 (by omega)
  have C2 : Blk v2 v1.heap.size 25 (d.dc As cs Af cf).toArray := by rw [← hv2]; exact Blk.new _ _ _
  have hR : v1.heap.size = w.heap.size + 1 := by omega
  rw [hR] at C2
  have HB2 := Lib.hid B2
  have HC2 := Lib.hid C2
  have BB := Lib.hid hb12
  have HF := Lib.hid hf
  have HV1 := Lib.hid hv1
  have HV2 := Lib.hid hv2
  have x0 : v2.cell? ⟨w.heap.size, 0, none⟩ = some (.int .i64 d.clock) := (B2.cell 0).trans rfl
  have x1 : v2.cell? ⟨w.heap.size, 1, none⟩ = some (.int .i64 d.births) := (B2.cell 1).trans rfl
  have x2 : v2.cell? ⟨w.heap.size, 2, none⟩ = some (.slice (some ⟨g, 0, none⟩) d.slots.length c) := (B2.cell 2).trans rfl
  have x4 : v2.cell? ⟨w.heap.size, 4, none⟩ = some (.int .i64 d.garbage) := (B2.cell 4).trans rfl
  have x5 : v2.cell? ⟨w.heap.size, 5, none⟩ = some (.int .i64 d.roots) := (B2.cell 5).trans rfl
  have y0 : v2.cell? ⟨w.heap.size + 1, 0, none⟩ = some (.int .i64 d.clock) := (C2.cell 0).trans rfl
  have y1 : v2.cell? ⟨w.heap.size + 1, 1, none⟩ = some (.int .i64 d.births) := (C2.cell 1).trans rfl
  have y2 : v2.cell? ⟨w.heap.size + 1, 2, none⟩ = some (.slice As d.slots.length cs) := (C2.cell 2).trans rfl
  have y4 : v2.cell? ⟨w.heap.size + 1, 4, none⟩ = some (.int .i64 d.garbage) := (C2.cell 4).trans rfl
  have y5 : v2.cell? ⟨w.heap.size + 1, 5, none⟩ = some (.int .i64 d.roots) := (C2.cell 5).trans rfl
  clear hv1 hv2 hb1 hb2 hb12 hl h B1 B2 C2 hf
  unfold DumpV.dc at *
  go_enter Tryd.func11, Tryd.ntmps11
  go_wp2_with (first
    | ((with_reducible show wpList _ _ _ (Oper.mk (some 5) _ _ _ _ _ :: _) _ (World.alloc _ _)); rw [HV1.out, HV2.out])
    | (go_at_call 25; fail))
  refine (keptS_any g c B cs As d.slots v2 HL.out.own HD.out.slots HF.out.slots).mono ?_
  rintro e w3 ⟨rfl, hb3⟩
  have z3 : w3.cell? ⟨w.heap.size, 3, none⟩ = some (.slice (some ⟨g2, 0, none⟩) d.free.length c2) := ((HB2.out.below hb3 (by omega)).cell 3).trans rfl
  have t3 : w3.cell? ⟨w.heap.size + 1, 3, none⟩ = some (.slice Af d.free.length cf) := ((HC2.out.below hb3 (by omega)).cell 3).trans rfl
  have HB3 := Lib.hid hb3
  clear hb3
  go_wp2_with (go_at_call 26; fail)
  refine (keptI_any g2 c2 Af d.free.length cf d.free rfl HF.out.free HL.out.cap w3 (HL.out.below HB3.out).ints (HD.out.below HB3.out).free).mono ?_
  rintro e w4 ⟨rfl, rfl⟩
  go_wp2
  go_ret
  exact ⟨rfl, BB.out.trans (HB3.out.mono (by omega))⟩
end Go.Proofs.YtahcedpfnechfaaDoor
