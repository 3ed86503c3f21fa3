/-
  The document's Raised.
-/
import Derived.Test.YthoibafhbacfiaaDoorGRef4
namespace Go.Proofs.YthoibafhbacfiaaDoor
set_option maxRecDepth 100000
open Go.RowKit

set_option maxHeartbeats 2000000 in
theorem rraised_c10 (p : Sess) (r : Req) (now births : Int) (full : Bool) (w : World) (b m : Int) (hb : belowNo p r now = b) (hm : roomNo births full = m) (hno : raisedNo p r now births full = m) (hl1 : ¬ r.life < 1) (hl3 : ¬ 300 < r.life) (hbz : b = 0) (hp : isLev p.level = true) (hr : isLev r.level = true) (hlt : ¬ r.level ≤ p.level) (hmz : ¬ m = 0) : Calls Tryd.prog 13 #[.agg p.cells, .agg r.cells, .int .i64 now, .int .i64 births, .bool full] w (RetB (.tuple #[.agg (raisedR p r now births full).cells, .int .i64 (raisedNo p r now births full)]) w) := by
  have HUS := Lib.hid Tryd.underlying31
  have HUR := Lib.hid Tryd.underlying25
  have HRm := Lib.hid (fun w => rroom_any births full w)
  rw [hm] at HRm
  have HBN := Lib.hid hb
  rw [(show raisedR p r now births full = Sess.zero from if_neg (by rw [hno]; exact hmz)), hno]
  obtain ⟨W, hW⟩ : ∃ W, ((w.alloc (.cells p.cells 31)).alloc (.cells r.cells 25)).alloc (.cells zeroC 31) = W := ⟨_, rfl⟩
  have bP : Blk W w.heap.size 31 p.cells := hW ▸ ((Blk.new w _ _).alloc _).alloc _
  have bR : Blk W (w.heap.size + 1) 25 r.cells := hW ▸ (Blk.new_at (by simp)).alloc _
  have bZ : Blk W (w.heap.size + 1 + 1) 31 zeroC := hW ▸ Blk.new_at (by simp)
  have hB : Below w.heap.size w W := hW ▸ bel_alloc (bel_alloc (bel_alloc (Below.refl _ _) _) _) _
  have HP := Lib.hid bP.row
  have HR := Lib.hid bR.row
  have HBP := Lib.hid bP
  have HBR := Lib.hid bR
  have HBZ := Lib.hid bZ
  have HB := Lib.hid hB
  have HBel := Lib.hid (rbelow_any p r now births W)
  rw [HBN.out] at HBel
  obtain ⟨Q, hQ⟩ : ∃ Q, belowQ p r now births = Q := ⟨_, rfl⟩
  rw [hQ] at HBel
  subst hbz
  have hm0 : (m != 0) = true := by simp [hmz]
  clear hb hm hmz
  clear hno
  clear bR bP bZ hB hQ
  unfold zeroC at hW
  go_enter Tryd.func13, Tryd.ntmps13
  go_wp2_with (first
    | (refine wpList_load_at (ty := 25) rfl rfl rfl HR.out HUR.out rfl reqInfo ?_)
    | (refine wpList_load_at (ty := 31) rfl rfl rfl HP.out HUS.out rfl sessInfo ?_)
    | (go_at_call 34; fail))
  refine HBel.out.mono ?_
  rintro e W1 ⟨rfl, h1⟩
  have HB1 := Lib.hid (HB.out.trans (h1.mono HB.out.size))
  obtain ⟨V, hV⟩ : ∃ V, W1.alloc (.cells Q.cells 31) = V := ⟨_, rfl⟩
  have bN : Blk V W1.heap.size 31 Q.cells := hV ▸ Blk.new W1 _ _
  have bR : Blk V (w.heap.size + 1) 25 r.cells := hV ▸ (HBR.out.below h1 HBR.out.lt).alloc _
  have bP : Blk V w.heap.size 31 p.cells := hV ▸ (HBP.out.below h1 HBP.out.lt).alloc _
  have bZ : Blk V (w.heap.size + 1 + 1) 31 zeroC := hV ▸ (HBZ.out.below h1 HBZ.out.lt).alloc _
  have HB2 := Lib.hid (show Below w.heap.size w V from hV ▸ bel_alloc HB1.out _)
  have HNE := Lib.hid (show w.heap.size + 1 + 1 < W1.heap.size from (HBZ.out.below h1 HBZ.out.lt).lt)
  have e4 := (bR.cell 4).trans r.c4
  have e3 := (bR.cell 3).trans r.c3
  have g8 := (bP.cell 8).trans p.c8
  have HZ := Lib.hid bZ
  clear HBel h1 bN bR bP bZ HB HBP HBR HBZ HP HR hW HBN
  go_wp2_with (first
    | (go_at_call 27; fail)
    | (refine wpList_store_new (ty := 31) rfl rfl rfl rfl rfl (Sess.one _) sessInfo ?_))
  go_wp2_with (first
    | (go_at_call 27; refine (risL_any _ _).mono ?_; rintro e w' ⟨rfl, rfl⟩)
    | (go_at_call 28; refine (HRm.out _).mono ?_; rintro e w' ⟨rfl, rfl⟩)
    | (refine wpList_store_all (ty := 31) (vs := Sess.zero.cells) rfl rfl rfl rfl HZ.out rfl (Sess.one _) sessInfo ?_))
  exact bodyPost_ret (results_at_tmp rfl rfl (Blk.setRow_same HZ.out _).row HUS.out rfl sessInfo) rfl ⟨rfl, bel_setRow HB2.out (by omega) _⟩
set_option maxHeartbeats 2000000 in
theorem rraised_c11 (p : Sess) (r : Req) (now births : Int) (full : Bool) (w : World) (b m : Int) (hb : belowNo p r now = b) (hm : roomNo births full = m) (hno : raisedNo p r now births full = 13) (hl1 : ¬ r.life < 1) (hl3 : ¬ 300 < r.life) (hbz : b = 0) (hp : isLev p.level = true) (hr : isLev r.level = false) : Calls Tryd.prog 13 #[.agg p.cells, .agg r.cells, .int .i64 now, .int .i64 births, .bool full] w (RetB (.tuple #[.agg (raisedR p r now births full).cells, .int .i64 (raisedNo p r now births full)]) w) := by
  have HUS := Lib.hid Tryd.underlying31
  have HUR := Lib.hid Tryd.underlying25
  have HRm := Lib.hid (fun w => rroom_any births full w)
  rw [hm] at HRm
  have HBN := Lib.hid hb
  rw [(show raisedR p r now births full = Sess.zero from if_neg (by rw [hno]; decide)), hno]
  obtain ⟨W, hW⟩ : ∃ W, ((w.alloc (.cells p.cells 31)).alloc (.cells r.cells 25)).alloc (.cells zeroC 31) = W := ⟨_, rfl⟩
  have bP : Blk W w.heap.size 31 p.cells := hW ▸ ((Blk.new w _ _).alloc _).alloc _
  have bR : Blk W (w.heap.size + 1) 25 r.cells := hW ▸ (Blk.new_at (by simp)).alloc _
  have bZ : Blk W (w.heap.size + 1 + 1) 31 zeroC := hW ▸ Blk.new_at (by simp)
  have hB : Below w.heap.size w W := hW ▸ bel_alloc (bel_alloc (bel_alloc (Below.refl _ _) _) _) _
  have HP := Lib.hid bP.row
  have HR := Lib.hid bR.row
  have HBP := Lib.hid bP
  have HBR := Lib.hid bR
  have HBZ := Lib.hid bZ
  have HB := Lib.hid hB
  have HBel := Lib.hid (rbelow_any p r now births W)
  rw [HBN.out] at HBel
  obtain ⟨Q, hQ⟩ : ∃ Q, belowQ p r now births = Q := ⟨_, rfl⟩
  rw [hQ] at HBel
  subst hbz
  clear hb hm
  clear hno
  clear bR bP bZ hB hQ
  unfold zeroC at hW
  go_enter Tryd.func13, Tryd.ntmps13
  go_wp2_with (first
    | (refine wpList_load_at (ty := 25) rfl rfl rfl HR.out HUR.out rfl reqInfo ?_)
    | (refine wpList_load_at (ty := 31) rfl rfl rfl HP.out HUS.out rfl sessInfo ?_)
    | (go_at_call 34; fail))
  refine HBel.out.mono ?_
  rintro e W1 ⟨rfl, h1⟩
  have HB1 := Lib.hid (HB.out.trans (h1.mono HB.out.size))
  obtain ⟨V, hV⟩ : ∃ V, W1.alloc (.cells Q.cells 31) = V := ⟨_, rfl⟩
  have bN : Blk V W1.heap.size 31 Q.cells := hV ▸ Blk.new W1 _ _
  have bR : Blk V (w.heap.size + 1) 25 r.cells := hV ▸ (HBR.out.below h1 HBR.out.lt).alloc _
  have bP : Blk V w.heap.size 31 p.cells := hV ▸ (HBP.out.below h1 HBP.out.lt).alloc _
  have bZ : Blk V (w.heap.size + 1 + 1) 31 zeroC := hV ▸ (HBZ.out.below h1 HBZ.out.lt).alloc _
  have HB2 := Lib.hid (show Below w.heap.size w V from hV ▸ bel_alloc HB1.out _)
  have HNE := Lib.hid (show w.heap.size + 1 + 1 < W1.heap.size from (HBZ.out.below h1 HBZ.out.lt).lt)
  have e4 := (bR.cell 4).trans r.c4
  have e3 := (bR.cell 3).trans r.c3
  have g8 := (bP.cell 8).trans p.c8
  have HZ := Lib.hid bZ
  clear HBel h1 bN bR bP bZ HB HBP HBR HBZ HP HR hW HBN
  go_wp2_with (first
    | (go_at_call 27; fail)
    | (refine wpList_store_new (ty := 31) rfl rfl rfl rfl rfl (Sess.one _) sessInfo ?_))
  go_wp2_with (first
    | (go_at_call 27; refine (risL_any _ _).mono ?_; rintro e w' ⟨rfl, rfl⟩)
    | (go_at_call 28; refine (HRm.out _).mono ?_; rintro e w' ⟨rfl, rfl⟩)
    | (refine wpList_store_all (ty := 31) (vs := Sess.zero.cells) rfl rfl rfl rfl HZ.out rfl (Sess.one _) sessInfo ?_))
  exact bodyPost_ret (results_at_tmp rfl rfl (Blk.setRow_same HZ.out _).row HUS.out rfl sessInfo) rfl ⟨rfl, bel_setRow HB2.out (by omega) _⟩
set_option maxHeartbeats 2000000 in
theorem rraised_c12 (p : Sess) (r : Req) (now births : Int) (full : Bool) (w : World) (b m : Int) (hb : belowNo p r now = b) (hm : roomNo births full = m) (hno : raisedNo p r now births full = 13) (hl1 : ¬ r.life < 1) (hl3 : ¬ 300 < r.life) (hbz : b = 0) (hp : isLev p.level = false) : Calls Tryd.prog 13 #[.agg p.cells, .agg r.cells, .int .i64 now, .int .i64 births, .bool full] w (RetB (.tuple #[.agg (raisedR p r now births full).cells, .int .i64 (raisedNo p r now births full)]) w) := by
  have HUS := Lib.hid Tryd.underlying31
  have HUR := Lib.hid Tryd.underlying25
  have HRm := Lib.hid (fun w => rroom_any births full w)
  rw [hm] at HRm
  have HBN := Lib.hid hb
  rw [(show raisedR p r now births full = Sess.zero from if_neg (by rw [hno]; decide)), hno]
  obtain ⟨W, hW⟩ : ∃ W, ((w.alloc (.cells p.cells 31)).alloc (.cells r.cells 25)).alloc (.cells zeroC 31) = W := ⟨_, rfl⟩
  have bP : Blk W w.heap.size 31 p.cells := hW ▸ ((Blk.new w _ _).alloc _).alloc _
  have bR : Blk W (w.heap.size + 1) 25 r.cells := hW ▸ (Blk.new_at (by simp)).alloc _
  have bZ : Blk W (w.heap.size + 1 + 1) 31 zeroC := hW ▸ Blk.new_at (by simp)
  have hB : Below w.heap.size w W := hW ▸ bel_alloc (bel_alloc (bel_alloc (Below.refl _ _) _) _) _
  have HP := Lib.hid bP.row
  have HR := Lib.hid bR.row
  have HBP := Lib.hid bP
  have HBR := Lib.hid bR
  have HBZ := Lib.hid bZ
  have HB := Lib.hid hB
  have HBel := Lib.hid (rbelow_any p r now births W)
  rw [HBN.out] at HBel
  obtain ⟨Q, hQ⟩ : ∃ Q, belowQ p r now births = Q := ⟨_, rfl⟩
  rw [hQ] at HBel
  subst hbz
  clear hb hm
  clear hno
  clear bR bP bZ hB hQ
  unfold zeroC at hW
  go_enter Tryd.func13, Tryd.ntmps13
  go_wp2_with (first
    | (refine wpList_load_at (ty := 25) rfl rfl rfl HR.out HUR.out rfl reqInfo ?_)
    | (refine wpList_load_at (ty := 31) rfl rfl rfl HP.out HUS.out rfl sessInfo ?_)
    | (go_at_call 34; fail))
  refine HBel.out.mono ?_
  rintro e W1 ⟨rfl, h1⟩
  have HB1 := Lib.hid (HB.out.trans (h1.mono HB.out.size))
  obtain ⟨V, hV⟩ : ∃ V, W1.alloc (.cells Q.cells 31) = V := ⟨_, rfl⟩
  have bN : Blk V W1.heap.size 31 Q.cells := hV ▸ Blk.new W1 _ _
  have bR : Blk V (w.heap.size + 1) 25 r.cells := hV ▸ (HBR.out.below h1 HBR.out.lt).alloc _
  have bP : Blk V w.heap.size 31 p.cells := hV ▸ (HBP.out.below h1 HBP.out.lt).alloc _
  have bZ : Blk V (w.heap.size + 1 + 1) 31 zeroC := hV ▸ (HBZ.out.below h1 HBZ.out.lt).alloc _
  have HB2 := Lib.hid (show Below w.heap.size w V from hV ▸ bel_alloc HB1.out _)
  have HNE := Lib.hid (show w.heap.size + 1 + 1 < W1.heap.size from (HBZ.out.below h1 HBZ.out.lt).lt)
  have e4 := (bR.cell 4).trans r.c4
  have e3 := (bR.cell 3).trans r.c3
  have g8 := (bP.cell 8).trans p.c8
  have HZ := Lib.hid bZ
  clear HBel h1 bN bR bP bZ HB HBP HBR HBZ HP HR hW HBN
  go_wp2_with (first
    | (go_at_call 27; fail)
    | (refine wpList_store_new (ty := 31) rfl rfl rfl rfl rfl (Sess.one _) sessInfo ?_))
  go_wp2_with (first
    | (go_at_call 27; refine (risL_any _ _).mono ?_; rintro e w' ⟨rfl, rfl⟩)
    | (go_at_call 28; refine (HRm.out _).mono ?_; rintro e w' ⟨rfl, rfl⟩)
    | (refine wpList_store_all (ty := 31) (vs := Sess.zero.cells) rfl rfl rfl rfl HZ.out rfl (Sess.one _) sessInfo ?_))
  exact bodyPost_ret (results_at_tmp rfl rfl (Blk.setRow_same HZ.out _).row HUS.out rfl sessInfo) rfl ⟨rfl, bel_setRow HB2.out (by omega) _⟩
set_option maxHeartbeats 2000000 in
theorem rraised_c13 (p : Sess) (r : Req) (now births : Int) (full : Bool) (w : World) (b m : Int) (hb : belowNo p r now = b) (hm : roomNo births full = m) (hno : raisedNo p r now births full = b) (hb8 : ¬ b = 8) (hl1 : ¬ r.life < 1) (hl3 : ¬ 300 < r.life) (hbz : ¬ b = 0) : Calls Tryd.prog 13 #[.agg p.cells, .agg r.cells, .int .i64 now, .int .i64 births, .bool full] w (RetB (.tuple #[.agg (raisedR p r now births full).cells, .int .i64 (raisedNo p r now births full)]) w) := by
  have HUS := Lib.hid Tryd.underlying31
  have HUR := Lib.hid Tryd.underlying25
  have HRm := Lib.hid (fun w => rroom_any births full w)
  rw [hm] at HRm
  have HBN := Lib.hid hb
  rw [(show raisedR p r now births full = Sess.zero from if_neg (by rw [hno]; exact hbz)), hno]
  obtain ⟨W, hW⟩ : ∃ W, ((w.alloc (.cells p.cells 31)).alloc (.cells r.cells 25)).alloc (.cells zeroC 31) = W := ⟨_, rfl⟩
  have bP : Blk W w.heap.size 31 p.cells := hW ▸ ((Blk.new w _ _).alloc _).alloc _
  have bR : Blk W (w.heap.size + 1) 25 r.cells := hW ▸ (Blk.new_at (by simp)).alloc _
  have bZ : Blk W (w.heap.size + 1 + 1) 31 zeroC := hW ▸ Blk.new_at (by simp)
  have hB : Below w.heap.size w W := hW ▸ bel_alloc (bel_alloc (bel_alloc (Below.refl _ _) _) _) _
  have HP := Lib.hid bP.row
  have HR := Lib.hid bR.row
  have HBP := Lib.hid bP
  have HBR := Lib.hid bR
  have HBZ := Lib.hid bZ
  have HB := Lib.hid hB
  have HBel := Lib.hid (rbelow_any p r now births W)
  rw [HBN.out] at HBel
  obtain ⟨Q, hQ⟩ : ∃ Q, belowQ p r now births = Q := ⟨_, rfl⟩
  rw [hQ] at HBel
  have h8 : (b == 8) = false := by simp [hb8]
  have hb0 : (b != 0) = true := by simp [hbz]
  clear hb hm hbz hb8
  clear hno
  clear bR bP bZ hB hQ
  unfold zeroC at hW
  go_enter Tryd.func13, Tryd.ntmps13
  go_wp2_with (first
    | (refine wpList_load_at (ty := 25) rfl rfl rfl HR.out HUR.out rfl reqInfo ?_)
    | (refine wpList_load_at (ty := 31) rfl rfl rfl HP.out HUS.out rfl sessInfo ?_)
    | (go_at_call 34; fail))
  refine HBel.out.mono ?_
  rintro e W1 ⟨rfl, h1⟩
  have HB1 := Lib.hid (HB.out.trans (h1.mono HB.out.size))
  obtain ⟨V, hV⟩ : ∃ V, W1.alloc (.cells Q.cells 31) = V := ⟨_, rfl⟩
  have bN : Blk V W1.heap.size 31 Q.cells := hV ▸ Blk.new W1 _ _
  have bR : Blk V (w.heap.size + 1) 25 r.cells := hV ▸ (HBR.out.below h1 HBR.out.lt).alloc _
  have bP : Blk V w.heap.size 31 p.cells := hV ▸ (HBP.out.below h1 HBP.out.lt).alloc _
  have bZ : Blk V (w.heap.size + 1 + 1) 31 zeroC := hV ▸ (HBZ.out.below h1 HBZ.out.lt).alloc _
  have HB2 := Lib.hid (show Below w.heap.size w V from hV ▸ bel_alloc HB1.out _)
  have HNE := Lib.hid (show w.heap.size + 1 + 1 < W1.heap.size from (HBZ.out.below h1 HBZ.out.lt).lt)
  have e4 := (bR.cell 4).trans r.c4
  have e3 := (bR.cell 3).trans r.c3
  have g8 := (bP.cell 8).trans p.c8
  have HZ := Lib.hid bZ
  clear HBel h1 bN bR bP bZ HB HBP HBR HBZ HP HR hW HBN
  go_wp2_with (first
    | (go_at_call 27; refine (risL_any _ _).mono ?_; rintro e w' ⟨rfl, rfl⟩)
    | (go_at_call 28; refine (HRm.out _).mono ?_; rintro e w' ⟨rfl, rfl⟩)
    | (refine wpList_store_all (ty := 31) (vs := Sess.zero.cells) rfl rfl rfl rfl HZ.out rfl (Sess.one _) sessInfo ?_)
    | (refine wpList_store_new (ty := 31) rfl rfl rfl rfl rfl (Sess.one _) sessInfo ?_))
  exact bodyPost_ret (results_at_tmp rfl rfl (Blk.setRow_same HZ.out _).row HUS.out rfl sessInfo) rfl ⟨rfl, bel_setRow HB2.out (by omega) _⟩
theorem rraised_any (p : Sess) (r : Req) (now births : Int) (full : Bool) (w : World) : Calls Tryd.prog 13 #[.agg p.cells, .agg r.cells, .int .i64 now, .int .i64 births, .bool full] w (RetB (.tuple #[.agg (raisedR p r now births full).cells, .int .i64 (raisedNo p r now births full)]) w) := by
  obtain ⟨b, hb⟩ : ∃ b, belowNo p r now = b := ⟨_, rfl⟩
  obtain ⟨m, hm⟩ : ∃ m, roomNo births full = m := ⟨_, rfl⟩
  by_cases hb8 : b = 8
  · have hno : raisedNo p r now births full = 8 := by rw [raised_below]; rw [if_pos (hb.trans hb8)]
    exact rraised_c5 p r now births full w b m hb hm hno hb8
  by_cases hl1 : r.life < 1
  · have hno : raisedNo p r now births full = 12 := by rw [raised_below]; rw [hb, if_neg hb8, if_pos (.inl hl1)]
    exact rraised_c6 p r now births full w b m hb hm hno hb8 hl1
  by_cases hl3 : 300 < r.life
  · have hno : raisedNo p r now births full = 12 := by rw [raised_below]; rw [hb, if_neg hb8, if_pos (.inr hl3)]
    exact rraised_c7 p r now births full w b m hb hm hno hb8 hl1 hl3
  by_cases hbz : b = 0
  · by_cases hp : isLev p.level = true
    · by_cases hr : isLev r.level = true
      · by_cases hlt : r.level ≤ p.level
        · have hno : raisedNo p r now births full = 13 := by rw [raised_below]; rw [hb, if_neg hb8, if_neg (by omega), if_neg (by simp [hbz]), if_pos (by simp [stepB, hp, hr]; omega)]
          exact rraised_c8 p r now births full w b m hb hm hno hl1 hl3 hbz hp hr hlt
        · by_cases hmz : m = 0
          · have hno : raisedNo p r now births full = 0 := by rw [raised_below]; rw [hb, if_neg hb8, if_neg (by omega), if_neg (by simp [hbz]), if_neg (by simp [stepB, hp, hr]; omega), hm, hmz]
            exact rraised_c9 p r now births full w b m hb hm hno hl1 hl3 hbz hp hr hlt hmz
          · have hno : raisedNo p r now births full = m := by rw [raised_below]; rw [hb, if_neg hb8, if_neg (by omega), if_neg (by simp [hbz]), if_neg (by simp [stepB, hp, hr]; omega), hm]
            exact rraised_c10 p r now births full w b m hb hm hno hl1 hl3 hbz hp hr hlt hmz
      · rw [Bool.not_eq_true] at hr
        have hno : raisedNo p r now births full = 13 := by rw [raised_below]; rw [hb, if_neg hb8, if_neg (by omega), if_neg (by simp [hbz]), if_pos (by simp [stepB, hr])]
        exact rraised_c11 p r now births full w b m hb hm hno hl1 hl3 hbz hp hr
    · rw [Bool.not_eq_true] at hp
      have hno : raisedNo p r now births full = 13 := by rw [raised_below]; rw [hb, if_neg hb8, if_neg (by omega), if_neg (by simp [hbz]), if_pos (by simp [stepB, hp])]
      exact rraised_c12 p r now births full w b m hb hm hno hl1 hl3 hbz hp
  · have hno : raisedNo p r now births full = b := by rw [raised_below]; rw [hb, if_neg hb8, if_neg (by omega), if_pos hbz]
    exact rraised_c13 p r now births full w b m hb hm hno hb8 hl1 hl3 hbz
end Go.Proofs.YthoibafhbacfiaaDoor
