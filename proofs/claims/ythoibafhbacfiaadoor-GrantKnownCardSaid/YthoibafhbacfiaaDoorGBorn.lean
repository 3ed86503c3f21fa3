/-
  Package grant: the session that is born.
-/
import Derived.Test.YthoibafhbacfiaaDoorGFirst
namespace Go.Proofs.YthoibafhbacfiaaDoor
set_option maxRecDepth 100000
open Go.RowKit

def bornS (B : Bir) (kind : Int) : Sess := ⟨0, B.births + 1, 0, 0, kind, ⟨#[]⟩, ⟨#[]⟩, 0#64, 0, B.now, B.till, 0⟩
def zeroC : Array Value := #[.int .i64 0, .int .i64 0, .int .i64 0, .int .i64 0, .int .i64 0, .string ⟨#[]⟩, .string ⟨#[]⟩, .int .u64 0, .int .i64 0, .int .i64 0, .int .i64 0, .int .i64 0]
theorem bel_set {w0 w : World} (h : Below w0.heap.size w0 w) {p : Addr} (hp : w0.heap.size ≤ p.block) (v : Value) : Below w0.heap.size w0 (w.setCell p v) := ⟨h.os, h.tape, h.output, by simpa [World.setCell] using h.size, fun k hk => (Below.heap_setCell w p v k (by omega)).trans (h.block k hk)⟩
/-- The session below another one, as far as all such are alike. -/
def belowB (B : Bir) (kind : Int) : Sess := ⟨0, B.births + 1, B.p.slot, B.p.birth, kind, B.p.user, B.r.label, 0#64, 0, B.now, B.till, B.p.depth + 1⟩
set_option maxHeartbeats 2000000 in
theorem born_login {b : Nat} {B : Bir} {w : World} (h : Blk w b 70 B.cells) (h0 : 0 ≤ B.births) (h1 : B.births < 1048576) :
    Calls Tryd.prog 24 #[.pointer (some ⟨b, 0, none⟩), .int .i64 0] w (RetB (.agg ({ bornS B 0 with user := B.r.user } : Sess).cells) w) := by
  have HUP := Lib.hid Tryd.underlying31
  obtain ⟨W, hW⟩ : ∃ W, w.alloc (.cells zeroC 31) = W := ⟨_, rfl⟩
  have hb : Blk W b 70 B.cells := hW ▸ h.alloc _
  have HZ := Lib.hid (show Blk W w.heap.size 31 zeroC from hW ▸ Blk.new w _ _)
  have HB := Lib.hid (show Below w.heap.size w W from hW ▸ bel_alloc (Below.refl _ _) _)
  have c18 := (hb.cell 18).trans B.c18
  have c17 := (hb.cell 17).trans B.c17
  have c20 := (hb.cell 20).trans B.c20
  have d18 : ∀ o : Obj, (W.alloc o).cell? ⟨b, 18, none⟩ = some (.int .i64 B.births) := fun o => ((hb.alloc o).cell 18).trans B.c18
  have d17 : ∀ o : Obj, (W.alloc o).cell? ⟨b, 17, none⟩ = some (.int .i64 B.now) := fun o => ((hb.alloc o).cell 17).trans B.c17
  have d20 : ∀ o : Obj, (W.alloc o).cell? ⟨b, 20, none⟩ = some (.int .i64 B.till) := fun o => ((hb.alloc o).cell 20).trans B.c20
  have HB0 := Lib.hid hb
  have hw := IntWalk.i64_in (B.births + 1) (by omega)
  clear h hb h0 h1
  unfold zeroC at hW
  go_enter Tryd.func24, Tryd.ntmps24
  go_wp2
  go_region
  obtain ⟨V, hV⟩ : ∃ V, (W.alloc (.cells (bornS B 0).cells 31)).drew = V := ⟨_, rfl⟩
  show Exit.then _ _ _ _ ((W.alloc (.cells (bornS B 0).cells 31)).drew)
  rw [hV]
  have bN : Blk V W.heap.size 31 (bornS B 0).cells := hV ▸ (Blk.new W _ _).drew
  have hN := Lib.hid bN
  have hZ2 := Lib.hid (show Blk V w.heap.size 31 zeroC from hV ▸ (HZ.out.alloc _).drew)
  have hb2 : Blk V b 70 B.cells := hV ▸ (HB0.out.alloc _).drew
  have HB2 := Lib.hid (show Below w.heap.size w V from hV ▸ (bel_alloc HB.out _).drew)
  have HNE := Lib.hid (show w.heap.size ≠ W.heap.size from Nat.ne_of_lt HZ.out.lt)
  have HNB := Lib.hid (show b ≠ W.heap.size from Nat.ne_of_lt HB0.out.lt)
  have c12 := (hb2.cell 12).trans B.c12
  have k5 := (bN.cell 5).trans (bornS B 0).c5
  have f5 := bN.frozen 5
  have hS := Lib.hid (show Blk (V.setCell ⟨W.heap.size, 5, none⟩ (.string B.r.user)) W.heap.size 31 ({ bornS B 0 with user := B.r.user } : Sess).cells from bN.set_ 5 (.string B.r.user))
  have hR := Lib.hid hS.out.row
  have hZ3 := Lib.hid (hZ2.out.far (p := ⟨W.heap.size, 5, none⟩) HNE.out (.string B.r.user))
  have HB3 := Lib.hid (bel_set HB2.out (p := ⟨W.heap.size, 5, none⟩) HB.out.size (.string B.r.user))
  clear hW c18 c17 c20 d18 d17 d20 hw bN hb2 hV
  go_wp2_with (first
    | (refine wpList_load_at (ty := 31) rfl rfl rfl hR.out HUP.out rfl sessInfo ?_)
    | (refine wpList_store_all (ty := 31) rfl rfl rfl rfl hZ3.out rfl (Sess.one _) sessInfo ?_))
  exact bodyPost_ret (results_at rfl rfl (Blk.setRow_same hZ3.out _).row HUP.out rfl sessInfo) rfl ⟨rfl, bel_setRow HB3.out (Nat.le_refl _) _⟩
set_option maxHeartbeats 2000000 in
theorem born_below {b : Nat} {B : Bir} {w : World} (h : Blk w b 70 B.cells) (h0 : 0 ≤ B.births) (h1 : B.births < 1048576) (h2 : 0 ≤ B.p.depth) (h3 : B.p.depth < 6) (kind : Int) (hk : (kind == 0) = false) :
    Calls Tryd.prog 24 #[.pointer (some ⟨b, 0, none⟩), .int .i64 kind] w (RetB (.agg (belowB B kind).cells) w) := by
  have HUP := Lib.hid Tryd.underlying31
  obtain ⟨W, hW⟩ : ∃ W, w.alloc (.cells zeroC 31) = W := ⟨_, rfl⟩
  have hb : Blk W b 70 B.cells := hW ▸ h.alloc _
  have HZ := Lib.hid (show Blk W w.heap.size 31 zeroC from hW ▸ Blk.new w _ _)
  have HB := Lib.hid (show Below w.heap.size w W from hW ▸ bel_alloc (Below.refl _ _) _)
  have c18 := (hb.cell 18).trans B.c18
  have c17 := (hb.cell 17).trans B.c17
  have c20 := (hb.cell 20).trans B.c20
  have d18 : ∀ o : Obj, (W.alloc o).cell? ⟨b, 18, none⟩ = some (.int .i64 B.births) := fun o => ((hb.alloc o).cell 18).trans B.c18
  have d17 : ∀ o : Obj, (W.alloc o).cell? ⟨b, 17, none⟩ = some (.int .i64 B.now) := fun o => ((hb.alloc o).cell 17).trans B.c17
  have d20 : ∀ o : Obj, (W.alloc o).cell? ⟨b, 20, none⟩ = some (.int .i64 B.till) := fun o => ((hb.alloc o).cell 20).trans B.c20
  have HB0 := Lib.hid hb
  have hw2 := IntWalk.i64_in (B.p.depth + 1) (by omega)
  have hw := IntWalk.i64_in (B.births + 1) (by omega)
  clear h hb h0 h1 h2 h3
  unfold zeroC at hW
  go_enter Tryd.func24, Tryd.ntmps24
  go_wp2
  go_region
  obtain ⟨V, hV⟩ : ∃ V, (W.alloc (.cells (bornS B kind).cells 31)).drew = V := ⟨_, rfl⟩
  show Exit.then _ _ _ _ ((W.alloc (.cells (bornS B kind).cells 31)).drew)
  rw [hV]
  have bN : Blk V W.heap.size 31 (bornS B kind).cells := hV ▸ (Blk.new W _ _).drew
  have hN := Lib.hid bN
  have hZ2 := Lib.hid (show Blk V w.heap.size 31 zeroC from hV ▸ (HZ.out.alloc _).drew)
  have hb2 : Blk V b 70 B.cells := hV ▸ (HB0.out.alloc _).drew
  have HB2 := Lib.hid (show Below w.heap.size w V from hV ▸ (bel_alloc HB.out _).drew)
  have HNE := Lib.hid (show w.heap.size ≠ W.heap.size from Nat.ne_of_lt HZ.out.lt)
  have HNB := Lib.hid (show b ≠ W.heap.size from Nat.ne_of_lt HB0.out.lt)
  have HB02 := Lib.hid hb2
  have c0 := (hb2.cell 0).trans B.c0
  have c1 := (hb2.cell 1).trans B.c1
  have c11 := (hb2.cell 11).trans B.c11
  have k2 := (bN.cell 2).trans (bornS B kind).c2
  have k3 := (bN.cell 3).trans (bornS B kind).c3
  have k11 := (bN.cell 11).trans (bornS B kind).c11
  have f2 := bN.frozen 2
  have f3 := bN.frozen 3
  have f11 := bN.frozen 11
  clear hW c18 c17 c20 d18 d17 d20 hw bN hb2 hV
  go_wp2
  go_region
  obtain ⟨V2, hV2⟩ : ∃ V2, (((V.setCell ⟨W.heap.size, 2, none⟩ (.int .i64 B.p.slot)).setCell ⟨W.heap.size, 3, none⟩ (.int .i64 B.p.birth)).setCell ⟨W.heap.size, 11, none⟩ (.int .i64 (B.p.depth + 1))).drew = V2 := ⟨_, rfl⟩
  rw [hV2]
  have bN2 : Blk V2 W.heap.size 31 ({ belowB B kind with user := ⟨#[]⟩, label := ⟨#[]⟩ } : Sess).cells := hV2 ▸ (((hN.out.set_ 2 (.int .i64 B.p.slot)).set_ 3 (.int .i64 B.p.birth)).set_ 11 (.int .i64 (B.p.depth + 1))).drew
  have hZ3 := Lib.hid (show Blk V2 w.heap.size 31 zeroC from hV2 ▸ (((hZ2.out.far (p := ⟨W.heap.size, 2, none⟩) HNE.out _).far (p := ⟨W.heap.size, 3, none⟩) HNE.out _).far (p := ⟨W.heap.size, 11, none⟩) HNE.out _).drew)
  have hb3 : Blk V2 b 70 B.cells := hV2 ▸ (((HB02.out.far (p := ⟨W.heap.size, 2, none⟩) HNB.out _).far (p := ⟨W.heap.size, 3, none⟩) HNB.out _).far (p := ⟨W.heap.size, 11, none⟩) HNB.out _).drew
  have HB3 := Lib.hid (show Below w.heap.size w V2 from hV2 ▸ (bel_set (bel_set (bel_set HB2.out (p := ⟨W.heap.size, 2, none⟩) HB.out.size _) (p := ⟨W.heap.size, 3, none⟩) HB.out.size _) (p := ⟨W.heap.size, 11, none⟩) HB.out.size _).drew)
  have c5 := (hb3.cell 5).trans B.c5
  have c13 := (hb3.cell 13).trans B.c13
  have k5 := (bN2.cell 5).trans (Sess.c5 _)
  have k6 := (bN2.cell 6).trans (Sess.c6 _)
  have f5 := bN2.frozen 5
  have f6 := bN2.frozen 6
  have hN2 := Lib.hid bN2
  clear hV2 bN2 hb3 hw2 hk c0 c1 c11 k2 k3 k11 f2 f3 f11 hN hZ2 HB2 HB02 HB0
  go_wp2
  go_region
  obtain ⟨V3, hV3⟩ : ∃ V3, ((V2.setCell ⟨W.heap.size, 5, none⟩ (.string B.p.user)).setCell ⟨W.heap.size, 6, none⟩ (.string B.r.label)).drew = V3 := ⟨_, rfl⟩
  rw [hV3]
  have hS := Lib.hid (show Blk V3 W.heap.size 31 (belowB B kind).cells from hV3 ▸ ((hN2.out.set_ 5 (.string B.p.user)).set_ 6 (.string B.r.label)).drew)
  have hR := Lib.hid hS.out.row
  have hZ4 := Lib.hid (show Blk V3 w.heap.size 31 zeroC from hV3 ▸ ((hZ3.out.far (p := ⟨W.heap.size, 5, none⟩) HNE.out _).far (p := ⟨W.heap.size, 6, none⟩) HNE.out _).drew)
  have HB4 := Lib.hid (show Below w.heap.size w V3 from hV3 ▸ (bel_set (bel_set HB3.out (p := ⟨W.heap.size, 5, none⟩) HB.out.size _) (p := ⟨W.heap.size, 6, none⟩) HB.out.size _).drew)
  clear hV3 c5 c13 k5 k6 f5 f6 hN2 hZ3 HB3
  go_wp2_with (first
    | (refine wpList_load_at (ty := 31) rfl rfl rfl hR.out HUP.out rfl sessInfo ?_)
    | (refine wpList_store_all (ty := 31) rfl rfl rfl rfl hZ4.out rfl (Sess.one _) sessInfo ?_))
  exact bodyPost_ret (results_at rfl rfl (Blk.setRow_same hZ4.out _).row HUP.out rfl sessInfo) rfl ⟨rfl, bel_setRow HB4.out (Nat.le_refl _) _⟩
end Go.Proofs.YthoibafhbacfiaaDoor
