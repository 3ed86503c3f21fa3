/-
  The document's Raised, first ways.
-/
import Derived.Test.YthoibafhbacfiaaDoorGRef3
namespace Go.Proofs.YthoibafhbacfiaaDoor
set_option maxRecDepth 100000
open Go.RowKit

set_option maxHeartbeats 2000000 in
theorem rraised_c5 (p : Sess) (r : Req) (now births : Int) (full : Bool) (w : World) (b m : Int) (hb : belowNo p r now = b) (hm : roomNo births full = m) (hno : raisedNo p r now births full = 8) (hb8 : b = 8) : Calls Tryd.prog 13 #[.agg p.cells, .agg r.cells, .int .i64 now, .int .i64 births, .bool full] w (RetB (.tuple #[.agg (raisedR p r now births full).cells, .int .i64 (raisedNo p r now births full)]) w) := by
  have HUS := Lib.hid Tryd.underlying31
  have HUR := Lib.hid Tryd.underlying25
  have HRm := Lib.hid (fun w => rroom_any births full w)
  rw [hm] at HRm
  have HBN := Lib.hid hb
  rw [(show raisedR p r now births full = Sess.zero from if_neg (by rw [hno]; decide)), hno]
  obtain ⟨W, hW⟩ : ∃ W, ((w.alloc (.cells p.cells 31)).alloc (.cells r.cells 25)).alloc (.cells zeroC 31) = W := ⟨_, rfl⟩
  have bP : Blk W w.heap.size 31 p.cells := hW ▸ ((Blk.new w _ _).alloc _).alloc _
  have bR : Blk W (w.heap.size + 1) 25 r.cells := hW ▸ (Blk.new_at (by simp)).alloc _
  have bZ : Blk W (w.heap.size + 1 + 1) 31 zeroC := hW ▸ Blk.new_at (by simp)
  have hB : Below w.heap.size w W := hW ▸ bel_alloc (bel_alloc (bel_alloc (Below.refl _ _) _) _) _
  have HP := Lib.hid bP.row
  have HR := Lib.hid bR.row
  have HBP := Lib.hid bP
  have HBR := Lib.hid bR
  have HBZ := Lib.hid bZ
  have HB := Lib.hid hB
  have HBel := Lib.hid (rbelow_any p r now births W)
  rw [HBN.out] at HBel
  obtain ⟨Q, hQ⟩ : ∃ Q, belowQ p r now births = Q := ⟨_, rfl⟩
  rw [hQ] at HBel
  subst hb8
  clear hb hm
  clear hno
  clear bR bP bZ hB hQ
  unfold zeroC at hW
  go_enter Tryd.func13, Tryd.ntmps13
  go_wp2_with (first
    | (refine wpList_load_at (ty := 25) rfl rfl rfl HR.out HUR.out rfl reqInfo ?_)
    | (refine wpList_load_at (ty := 31) rfl rfl rfl HP.out HUS.out rfl sessInfo ?_)
    | (go_at_call 34; fail))
  refine HBel.out.mono ?_
  rintro e W1 ⟨rfl, h1⟩
  have HB1 := Lib.hid (HB.out.trans (h1.mono HB.out.size))
  obtain ⟨V, hV⟩ : ∃ V, W1.alloc (.cells Q.cells 31) = V := ⟨_, rfl⟩
  have bN : Blk V W1.heap.size 31 Q.cells := hV ▸ Blk.new W1 _ _
  have bR : Blk V (w.heap.size + 1) 25 r.cells := hV ▸ (HBR.out.below h1 HBR.out.lt).alloc _
  have bP : Blk V w.heap.size 31 p.cells := hV ▸ (HBP.out.below h1 HBP.out.lt).alloc _
  have bZ : Blk V (w.heap.size + 1 + 1) 31 zeroC := hV ▸ (HBZ.out.below h1 HBZ.out.lt).alloc _
  have HB2 := Lib.hid (show Below w.heap.size w V from hV ▸ bel_alloc HB1.out _)
  have HNE := Lib.hid (show w.heap.size + 1 + 1 < W1.heap.size from (HBZ.out.below h1 HBZ.out.lt).lt)
  have e4 := (bR.cell 4).trans r.c4
  have e3 := (bR.cell 3).trans r.c3
  have g8 := (bP.cell 8).trans p.c8
  have HZ := Lib.hid bZ
  clear HBel h1 bN bR bP bZ HB HBP HBR HBZ HP HR hW HBN
  go_wp2_with (first
    | (go_at_call 27; refine (risL_any _ _).mono ?_; rintro e w' ⟨rfl, rfl⟩)
    | (go_at_call 28; refine (HRm.out _).mono ?_; rintro e w' ⟨rfl, rfl⟩)
    | (refine wpList_store_all (ty := 31) (vs := Sess.zero.cells) rfl rfl rfl rfl HZ.out rfl (Sess.one _) sessInfo ?_)
    | (refine wpList_store_new (ty := 31) rfl rfl rfl rfl rfl (Sess.one _) sessInfo ?_))
  exact bodyPost_ret (results_at_tmp rfl rfl (Blk.setRow_same HZ.out _).row HUS.out rfl sessInfo) rfl ⟨rfl, bel_setRow HB2.out (by omega) _⟩
set_option maxHeartbeats 2000000 in
theorem rraised_c6 (p : Sess) (r : Req) (now births : Int) (full : Bool) (w : World) (b m : Int) (hb : belowNo p r now = b) (hm : roomNo births full = m) (hno : raisedNo p r now births full = 12) (hb8 : ¬ b = 8) (hl1 : r.life < 1) : Calls Tryd.prog 13 #[.agg p.cells, .agg r.cells, .int .i64 now, .int .i64 births, .bool full] w (RetB (.tuple #[.agg (raisedR p r now births full).cells, .int .i64 (raisedNo p r now births full)]) w) := by
  have HUS := Lib.hid Tryd.underlying31
  have HUR := Lib.hid Tryd.underlying25
  have HRm := Lib.hid (fun w => rroom_any births full w)
  rw [hm] at HRm
  have HBN := Lib.hid hb
  rw [(show raisedR p r now births full = Sess.zero from if_neg (by rw [hno]; decide)), hno]
  obtain ⟨W, hW⟩ : ∃ W, ((w.alloc (.cells p.cells 31)).alloc (.cells r.cells 25)).alloc (.cells zeroC 31) = W := ⟨_, rfl⟩
  have bP : Blk W w.heap.size 31 p.cells := hW ▸ ((Blk.new w _ _).alloc _).alloc _
  have bR : Blk W (w.heap.size + 1) 25 r.cells := hW ▸ (Blk.new_at (by simp)).alloc _
  have bZ : Blk W (w.heap.size + 1 + 1) 31 zeroC := hW ▸ Blk.new_at (by simp)
  have hB : Below w.heap.size w W := hW ▸ bel_alloc (bel_alloc (bel_alloc (Below.refl _ _) _) _) _
  have HP := Lib.hid bP.row
  have HR := Lib.hid bR.row
  have HBP := Lib.hid bP
  have HBR := Lib.hid bR
  have HBZ := Lib.hid bZ
  have HB := Lib.hid hB
  have HBel := Lib.hid (rbelow_any p r now births W)
  rw [HBN.out] at HBel
  obtain ⟨Q, hQ⟩ : ∃ Q, belowQ p r now births = Q := ⟨_, rfl⟩
  rw [hQ] at HBel
  have h8 : (b == 8) = false := by simp [hb8]
  clear hb hm hb8
  clear hno
  clear bR bP bZ hB hQ
  unfold zeroC at hW
  go_enter Tryd.func13, Tryd.ntmps13
  go_wp2_with (first
    | (refine wpList_load_at (ty := 25) rfl rfl rfl HR.out HUR.out rfl reqInfo ?_)
    | (refine wpList_load_at (ty := 31) rfl rfl rfl HP.out HUS.out rfl sessInfo ?_)
    | (go_at_call 34; fail))
  refine HBel.out.mono ?_
  rintro e W1 ⟨rfl, h1⟩
  have HB1 := Lib.hid (HB.out.trans (h1.mono HB.out.size))
  obtain ⟨V, hV⟩ : ∃ V, W1.alloc (.cells Q.cells 31) = V := ⟨_, rfl⟩
  have bN : Blk V W1.heap.size 31 Q.cells := hV ▸ Blk.new W1 _ _
  have bR : Blk V (w.heap.size + 1) 25 r.cells := hV ▸ (HBR.out.below h1 HBR.out.lt).alloc _
  have bP : Blk V w.heap.size 31 p.cells := hV ▸ (HBP.out.below h1 HBP.out.lt).alloc _
  have bZ : Blk V (w.heap.size + 1 + 1) 31 zeroC := hV ▸ (HBZ.out.below h1 HBZ.out.lt).alloc _
  have HB2 := Lib.hid (show Below w.heap.size w V from hV ▸ bel_alloc HB1.out _)
  have HNE := Lib.hid (show w.heap.size + 1 + 1 < W1.heap.size from (HBZ.out.below h1 HBZ.out.lt).lt)
  have e4 := (bR.cell 4).trans r.c4
  have e3 := (bR.cell 3).trans r.c3
  have g8 := (bP.cell 8).trans p.c8
  have HZ := Lib.hid bZ
  clear HBel h1 bN bR bP bZ HB HBP HBR HBZ HP HR hW HBN
  go_wp2_with (first
    | (go_at_call 27; refine (risL_any _ _).mono ?_; rintro e w' ⟨rfl, rfl⟩)
    | (go_at_call 28; refine (HRm.out _).mono ?_; rintro e w' ⟨rfl, rfl⟩)
    | (refine wpList_store_all (ty := 31) (vs := Sess.zero.cells) rfl rfl rfl rfl HZ.out rfl (Sess.one _) sessInfo ?_)
    | (refine wpList_store_new (ty := 31) rfl rfl rfl rfl rfl (Sess.one _) sessInfo ?_))
  exact bodyPost_ret (results_at_tmp rfl rfl (Blk.setRow_same HZ.out _).row HUS.out rfl sessInfo) rfl ⟨rfl, bel_setRow HB2.out (by omega) _⟩
set_option maxHeartbeats 2000000 in
theorem rraised_c7 (p : Sess) (r : Req) (now births : Int) (full : Bool) (w : World) (b m : Int) (hb : belowNo p r now = b) (hm : roomNo births full = m) (hno : raisedNo p r now births full = 12) (hb8 : ¬ b = 8) (hl1 : ¬ r.life < 1) (hl3 : 300 < r.life) : Calls Tryd.prog 13 #[.agg p.cells, .agg r.cells, .int .i64 now, .int .i64 births, .bool full] w (RetB (.tuple #[.agg (raisedR p r now births full).cells, .int .i64 (raisedNo p r now births full)]) w) := by
  have HUS := Lib.hid Tryd.underlying31
  have HUR := Lib.hid Tryd.underlying25
  have HRm := Lib.hid (fun w => rroom_any births full w)
  rw [hm] at HRm
  have HBN := Lib.hid hb
  rw [(show raisedR p r now births full = Sess.zero from if_neg (by rw [hno]; decide)), hno]
  obtain ⟨W, hW⟩ : ∃ W, ((w.alloc (.cells p.cells 31)).alloc (.cells r.cells 25)).alloc (.cells zeroC 31) = W := ⟨_, rfl⟩
  have bP : Blk W w.heap.size 31 p.cells := hW ▸ ((Blk.new w _ _).alloc _).alloc _
  have bR : Blk W (w.heap.size + 1) 25 r.cells := hW ▸ (Blk.new_at (by simp)).alloc _
  have bZ : Blk W (w.heap.size + 1 + 1) 31 zeroC := hW ▸ Blk.new_at (by simp)
  have hB : Below w.heap.size w W := hW ▸ bel_alloc (bel_alloc (bel_alloc (Below.refl _ _) _) _) _
  have HP := Lib.hid bP.row
  have HR := Lib.hid bR.row
  have HBP := Lib.hid bP
  have HBR := Lib.hid bR
  have HBZ := Lib.hid bZ
  have HB := Lib.hid hB
  have HBel := Lib.hid (rbelow_any p r now births W)
  rw [HBN.out] at HBel
  obtain ⟨Q, hQ⟩ : ∃ Q, belowQ p r now births = Q := ⟨_, rfl⟩
  rw [hQ] at HBel
  have h8 : (b == 8) = false := by simp [hb8]
  clear hb hm hb8
  clear hno
  clear bR bP bZ hB hQ
  unfold zeroC at hW
  go_enter Tryd.func13, Tryd.ntmps13
  go_wp2_with (first
    | (refine wpList_load_at (ty := 25) rfl rfl rfl HR.out HUR.out rfl reqInfo ?_)
    | (refine wpList_load_at (ty := 31) rfl rfl rfl HP.out HUS.out rfl sessInfo ?_)
    | (go_at_call 34; fail))
  refine HBel.out.mono ?_
  rintro e W1 ⟨rfl, h1⟩
  have HB1 := Lib.hid (HB.out.trans (h1.mono HB.out.size))
  obtain ⟨V, hV⟩ : ∃ V, W1.alloc (.cells Q.cells 31) = V := ⟨_, rfl⟩
  have bN : Blk V W1.heap.size 31 Q.cells := hV ▸ Blk.new W1 _ _
  have bR : Blk V (w.heap.size + 1) 25 r.cells := hV ▸ (HBR.out.below h1 HBR.out.lt).alloc _
  have bP : Blk V w.heap.size 31 p.cells := hV ▸ (HBP.out.below h1 HBP.out.lt).alloc _
  have bZ : Blk V (w.heap.size + 1 + 1) 31 zeroC := hV ▸ (HBZ.out.below h1 HBZ.out.lt).alloc _
  have HB2 := Lib.hid (show Below w.heap.size w V from hV ▸ bel_alloc HB1.out _)
  have HNE := Lib.hid (show w.heap.size + 1 + 1 < W1.heap.size from (HBZ.out.below h1 HBZ.out.lt).lt)
  have e4 := (bR.cell 4).trans r.c4
  have e3 := (bR.cell 3).trans r.c3
  have g8 := (bP.cell 8).trans p.c8
  have HZ := Lib.hid bZ
  clear HBel h1 bN bR bP bZ HB HBP HBR HBZ HP HR hW HBN
  go_wp2_with (first
    | (go_at_call 27; refine (risL_any _ _).mono ?_; rintro e w' ⟨rfl, rfl⟩)
    | (go_at_call 28; refine (HRm.out _).mono ?_; rintro e w' ⟨rfl, rfl⟩)
    | (refine wpList_store_all (ty := 31) (vs := Sess.zero.cells) rfl rfl rfl rfl HZ.out rfl (Sess.one _) sessInfo ?_)
    | (refine wpList_store_new (ty := 31) rfl rfl rfl rfl rfl (Sess.one _) sessInfo ?_))
  exact bodyPost_ret (results_at_tmp rfl rfl (Blk.setRow_same HZ.out _).row HUS.out rfl sessInfo) rfl ⟨rfl, bel_setRow HB2.out (by omega) _⟩
set_option maxHeartbeats 2000000 in
theorem rraised_c8 (p : Sess) (r : Req) (now births : Int) (full : Bool) (w : World) (b m : Int) (hb : belowNo p r now = b) (hm : roomNo births full = m) (hno : raisedNo p r now births full = 13) (hl1 : ¬ r.life < 1) (hl3 : ¬ 300 < r.life) (hbz : b = 0) (hp : isLev p.level = true) (hr : isLev r.level = true) (hlt : r.level ≤ p.level) : Calls Tryd.prog 13 #[.agg p.cells, .agg r.cells, .int .i64 now, .int .i64 births, .bool full] w (RetB (.tuple #[.agg (raisedR p r now births full).cells, .int .i64 (raisedNo p r now births full)]) w) := by
  have HUS := Lib.hid Tryd.underlying31
  have HUR := Lib.hid Tryd.underlying25
  have HRm := Lib.hid (fun w => rroom_any births full w)
  rw [hm] at HRm
  have HBN := Lib.hid hb
  rw [(show raisedR p r now births full = Sess.zero from if_neg (by rw [hno]; decide)), hno]
  obtain ⟨W, hW⟩ : ∃ W, ((w.alloc (.cells p.cells 31)).alloc (.cells r.cells 25)).alloc (.cells zeroC 31) = W := ⟨_, rfl⟩
  have bP : Blk W w.heap.size 31 p.cells := hW ▸ ((Blk.new w _ _).alloc _).alloc _
  have bR : Blk W (w.heap.size + 1) 25 r.cells := hW ▸ (Blk.new_at (by simp)).alloc _
  have bZ : Blk W (w.heap.size + 1 + 1) 31 zeroC := hW ▸ Blk.new_at (by simp)
  have hB : Below w.heap.size w W := hW ▸ bel_alloc (bel_alloc (bel_alloc (Below.refl _ _) _) _) _
  have HP := Lib.hid bP.row
  have HR := Lib.hid bR.row
  have HBP := Lib.hid bP
  have HBR := Lib.hid bR
  have HBZ := Lib.hid bZ
  have HB := Lib.hid hB
  have HBel := Lib.hid (rbelow_any p r now births W)
  rw [HBN.out] at HBel
  obtain ⟨Q, hQ⟩ : ∃ Q, belowQ p r now births = Q := ⟨_, rfl⟩
  rw [hQ] at HBel
  subst hbz
  clear hb hm
  clear hno
  clear bR bP bZ hB hQ
  unfold zeroC at hW
  go_enter Tryd.func13, Tryd.ntmps13
  go_wp2_with (first
    | (refine wpList_load_at (ty := 25) rfl rfl rfl HR.out HUR.out rfl reqInfo ?_)
    | (refine wpList_load_at (ty := 31) rfl rfl rfl HP.out HUS.out rfl sessInfo ?_)
    | (go_at_call 34; fail))
  refine HBel.out.mono ?_
  rintro e W1 ⟨rfl, h1⟩
  have HB1 := Lib.hid (HB.out.trans (h1.mono HB.out.size))
  obtain ⟨V, hV⟩ : ∃ V, W1.alloc (.cells Q.cells 31) = V := ⟨_, rfl⟩
  have bN : Blk V W1.heap.size 31 Q.cells := hV ▸ Blk.new W1 _ _
  have bR : Blk V (w.heap.size + 1) 25 r.cells := hV ▸ (HBR.out.below h1 HBR.out.lt).alloc _
  have bP : Blk V w.heap.size 31 p.cells := hV ▸ (HBP.out.below h1 HBP.out.lt).alloc _
  have bZ : Blk V (w.heap.size + 1 + 1) 31 zeroC := hV ▸ (HBZ.out.below h1 HBZ.out.lt).alloc _
  have HB2 := Lib.hid (show Below w.heap.size w V from hV ▸ bel_alloc HB1.out _)
  have HNE := Lib.hid (show w.heap.size + 1 + 1 < W1.heap.size from (HBZ.out.below h1 HBZ.out.lt).lt)
  have e4 := (bR.cell 4).trans r.c4
  have e3 := (bR.cell 3).trans r.c3
  have g8 := (bP.cell 8).trans p.c8
  have HZ := Lib.hid bZ
  clear HBel h1 bN bR bP bZ HB HBP HBR HBZ HP HR hW HBN
  go_wp2_with (first
    | (go_at_call 27; fail)
    | (refine wpList_store_new (ty := 31) rfl rfl rfl rfl rfl (Sess.one _) sessInfo ?_))
  go_wp2_with (first
    | (go_at_call 27; refine (risL_any _ _).mono ?_; rintro e w' ⟨rfl, rfl⟩)
    | (go_at_call 28; refine (HRm.out _).mono ?_; rintro e w' ⟨rfl, rfl⟩)
    | (refine wpList_store_all (ty := 31) (vs := Sess.zero.cells) rfl rfl rfl rfl HZ.out rfl (Sess.one _) sessInfo ?_))
  exact bodyPost_ret (results_at_tmp rfl rfl (Blk.setRow_same HZ.out _).row HUS.out rfl sessInfo) rfl ⟨rfl, bel_setRow HB2.out (by omega) _⟩
set_option maxHeartbeats 2000000 in
theorem rraised_c9 (p : Sess) (r : Req) (now births : Int) (full : Bool) (w : World) (b m : Int) (hb : belowNo p r now = b) (hm : roomNo births full = m) (hno : raisedNo p r now births full = 0) (hl1 : ¬ r.life < 1) (hl3 : ¬ 300 < r.life) (hbz : b = 0) (hp : isLev p.level = true) (hr : isLev r.level = true) (hlt : ¬ r.level ≤ p.level) (hmz : m = 0) : Calls Tryd.prog 13 #[.agg p.cells, .agg r.cells, .int .i64 now, .int .i64 births, .bool full] w (RetB (.tuple #[.agg (raisedR p r now births full).cells, .int .i64 (raisedNo p r now births full)]) w) := by
  have HUS := Lib.hid Tryd.underlying31
  have HUR := Lib.hid Tryd.underlying25
  have HRm := Lib.hid (fun w => rroom_any births full w)
  rw [hm] at HRm
  have HBN := Lib.hid hb
  rw [(show raisedR p r now births full = (belowS p r now births 2 p.scopes r.level) from if_pos hno), hno]
  obtain ⟨W, hW⟩ : ∃ W, ((w.alloc (.cells p.cells 31)).alloc (.cells r.cells 25)).alloc (.cells zeroC 31) = W := ⟨_, rfl⟩
  have bP : Blk W w.heap.size 31 p.cells := hW ▸ ((Blk.new w _ _).alloc _).alloc _
  have bR : Blk W (w.heap.size + 1) 25 r.cells := hW ▸ (Blk.new_at (by simp)).alloc _
  have bZ : Blk W (w.heap.size + 1 + 1) 31 zeroC := hW ▸ Blk.new_at (by simp)
  have hB : Below w.heap.size w W := hW ▸ bel_alloc (bel_alloc (bel_alloc (Below.refl _ _) _) _) _
  have HP := Lib.hid bP.row
  have HR := Lib.hid bR.row
  have HBP := Lib.hid bP
  have HBR := Lib.hid bR
  have HBZ := Lib.hid bZ
  have HB := Lib.hid hB
  have HBel := Lib.hid (rbelow_any p r now births W)
  rw [HBN.out] at HBel
  obtain ⟨Q, hQ⟩ : ∃ Q, belowQ p r now births = Q := ⟨_, rfl⟩
  rw [hQ] at HBel
  subst hbz
  have HB0 := Lib.hid hb
  have HM0 := Lib.hid (hm.trans hmz)
  rw [hmz] at HRm
  clear hb hm hmz
  clear hno
  have hQ2 : Q = belowS p r now births 0 0#64 0 := hQ.symm.trans (belowQ_ok HB0.out (roomNo_ok HM0.out))
  have HFIN := Lib.hid (show ({ Q with kind := 2, scopes := p.scopes, level := r.level } : Sess) = (belowS p r now births 2 p.scopes r.level) from by rw [hQ2]; rfl)
  clear hQ2
  clear bR bP bZ hB hQ
  unfold zeroC at hW
  go_enter Tryd.func13, Tryd.ntmps13
  go_wp2_with (first
    | (refine wpList_load_at (ty := 25) rfl rfl rfl HR.out HUR.out rfl reqInfo ?_)
    | (refine wpList_load_at (ty := 31) rfl rfl rfl HP.out HUS.out rfl sessInfo ?_)
    | (go_at_call 34; fail))
  refine HBel.out.mono ?_
  rintro e W1 ⟨rfl, h1⟩
  have HB1 := Lib.hid (HB.out.trans (h1.mono HB.out.size))
  obtain ⟨V, hV⟩ : ∃ V, W1.alloc (.cells Q.cells 31) = V := ⟨_, rfl⟩
  have bN : Blk V W1.heap.size 31 Q.cells := hV ▸ Blk.new W1 _ _
  have bR : Blk V (w.heap.size + 1) 25 r.cells := hV ▸ (HBR.out.below h1 HBR.out.lt).alloc _
  have bP : Blk V w.heap.size 31 p.cells := hV ▸ (HBP.out.below h1 HBP.out.lt).alloc _
  have bZ : Blk V (w.heap.size + 1 + 1) 31 zeroC := hV ▸ (HBZ.out.below h1 HBZ.out.lt).alloc _
  have HB2 := Lib.hid (show Below w.heap.size w V from hV ▸ bel_alloc HB1.out _)
  have HNE := Lib.hid (show w.heap.size + 1 + 1 < W1.heap.size from (HBZ.out.below h1 HBZ.out.lt).lt)
  have nZ : w.heap.size + 1 + 1 ≠ W1.heap.size := Nat.ne_of_lt HNE.out
  have nR : w.heap.size + 1 ≠ W1.heap.size := by have := HNE.out; omega
  have nP : w.heap.size ≠ W1.heap.size := by have := HNE.out; omega
  have hle : w.heap.size ≤ W1.heap.size := by have := HNE.out; omega
  have e4 := (bR.cell 4).trans r.c4
  have e3 := (bR.cell 3).trans r.c3
  have g8 := (bP.cell 8).trans p.c8
  have HZ := Lib.hid bZ
  have HN1 := Lib.hid HNE.out
  obtain ⟨V1, hV1⟩ : ∃ V1, V.setCell ⟨W1.heap.size, 4, none⟩ (.int .i64 2) = V1 := ⟨_, rfl⟩
  obtain ⟨V2, hV2⟩ : ∃ V2, V1.setCell ⟨W1.heap.size, 7, none⟩ (.int .u64 (wd p.scopes)) = V2 := ⟨_, rfl⟩
  obtain ⟨V3, hV3⟩ : ∃ V3, V2.setCell ⟨W1.heap.size, 8, none⟩ (.int .i64 r.level) = V3 := ⟨_, rfl⟩
  have bN1 : Blk V1 W1.heap.size 31 { Q with kind := 2 }.cells := hV1 ▸ bN.set_ 4 (.int .i64 2)
  have bN2 : Blk V2 W1.heap.size 31 { Q with kind := 2, scopes := p.scopes }.cells := hV2 ▸ bN1.set_ 7 (.int .u64 (wd p.scopes))
  have bN3 : Blk V3 W1.heap.size 31 { Q with kind := 2, scopes := p.scopes, level := r.level }.cells := hV3 ▸ bN2.set_ 8 (.int .i64 r.level)
  have bR1 : Blk V1 (w.heap.size + 1) 25 r.cells := hV1 ▸ bR.far (p := ⟨W1.heap.size, 4, none⟩) nR _
  have bR2 : Blk V2 (w.heap.size + 1) 25 r.cells := hV2 ▸ bR1.far (p := ⟨W1.heap.size, 7, none⟩) nR _
  have bR3 : Blk V3 (w.heap.size + 1) 25 r.cells := hV3 ▸ bR2.far (p := ⟨W1.heap.size, 8, none⟩) nR _
  have bP1 : Blk V1 (w.heap.size) 31 p.cells := hV1 ▸ bP.far (p := ⟨W1.heap.size, 4, none⟩) nP _
  have bP2 : Blk V2 (w.heap.size) 31 p.cells := hV2 ▸ bP1.far (p := ⟨W1.heap.size, 7, none⟩) nP _
  have bP3 : Blk V3 (w.heap.size) 31 p.cells := hV3 ▸ bP2.far (p := ⟨W1.heap.size, 8, none⟩) nP _
  have bZ1 : Blk V1 (w.heap.size + 1 + 1) 31 zeroC := hV1 ▸ bZ.far (p := ⟨W1.heap.size, 4, none⟩) nZ _
  have bZ2 : Blk V2 (w.heap.size + 1 + 1) 31 zeroC := hV2 ▸ bZ1.far (p := ⟨W1.heap.size, 7, none⟩) nZ _
  have bZ3 : Blk V3 (w.heap.size + 1 + 1) 31 zeroC := hV3 ▸ bZ2.far (p := ⟨W1.heap.size, 8, none⟩) nZ _
  have k4 := (bN.cell 4).trans Q.c4
  have f4 := bN.frozen 4
  have k7 := (bN1.cell 7).trans (Sess.c7 _)
  have f7 := bN1.frozen 7
  have k8 := (bN2.cell 8).trans (Sess.c8 _)
  have f8 := bN2.frozen 8
  have x1 := (bP1.cell 7).trans p.c7
  have x2 := (bR2.cell 3).trans r.c3
  have HR3 := Lib.hid bN3.row
  have HZ3 := Lib.hid bZ3
  have HB3 := Lib.hid (show Below w.heap.size w V3 from hV3 ▸ hV2 ▸ hV1 ▸ bel_set (bel_set (bel_set HB2.out (p := ⟨W1.heap.size, 4, none⟩) hle _) (p := ⟨W1.heap.size, 7, none⟩) hle _) (p := ⟨W1.heap.size, 8, none⟩) hle _)
  rw [HFIN.out] at HR3
  clear nZ nR nP hle HBel h1 bN bR bP bZ bN1 bN2 bN3 bR1 bR2 bR3 bP1 bP2 bP3 bZ1 bZ2 bZ3 HB HBP HBR HBZ HP HR hW HBN HZ
  go_wp2_with (first
    | (go_at_call 27; fail)
    | (refine wpList_store_new (ty := 31) rfl rfl rfl rfl rfl (Sess.one _) sessInfo ?_))
  go_wp2_with (first
    | (go_at_call 27; refine (risL_any _ _).mono ?_; rintro e w' ⟨rfl, rfl⟩)
    | (go_at_call 28; refine (HRm.out _).mono ?_; rintro e w' ⟨rfl, rfl⟩)
    | (refine wpList_load_at (ty := 31) rfl rfl rfl HR3.out HUS.out rfl sessInfo ?_)
    | (refine wpList_store_all (ty := 31) rfl rfl rfl rfl HZ3.out rfl (Sess.one _) sessInfo ?_))
  exact bodyPost_ret (results_at_tmp rfl rfl (Blk.setRow_same HZ3.out _).row HUS.out rfl sessInfo) rfl ⟨rfl, bel_setRow HB3.out (by omega) _⟩
end Go.Proofs.YthoibafhbacfiaaDoor
