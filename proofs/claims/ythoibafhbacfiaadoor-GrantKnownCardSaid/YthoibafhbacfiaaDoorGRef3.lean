/-
  The document's Child and Raised.
-/
import Derived.Test.YthoibafhbacfiaaDoorGRef2
import Derived.Test.YthoibafhbacfiaaDoorGRaised
namespace Go.Proofs.YthoibafhbacfiaaDoor
set_option maxRecDepth 100000
open Go.RowKit

theorem till_life {now life most : Int} (h : life < 1) : tillZ now life most = 0 := if_neg (by omega)
theorem child_below (p : Sess) (r : Req) (now b : Int) (f : Bool) : childNo p r now b f = if belowNo p r now ≠ 0 then belowNo p r now else if inB r.scopes p.scopes = false then 11 else roomNo b f := by
  unfold childNo belowNo
  by_cases hn : nameB r.label = false
  · simp [hn]
  · by_cases ht : tillZ now r.life p.deadline = 0
    · simp [hn, ht]
    · by_cases hd : p.depth < 0 ∨ 6 ≤ p.depth <;> simp [hn, ht, hd]
theorem raised_below (p : Sess) (r : Req) (now b : Int) (f : Bool) : raisedNo p r now b f = if belowNo p r now = 8 then 8 else if r.life < 1 ∨ 300 < r.life then 12 else if belowNo p r now ≠ 0 then belowNo p r now else if stepB p.level r.level = false then 13 else roomNo b f := by
  unfold raisedNo belowNo
  by_cases hn : nameB r.label = false
  · simp [hn]
  · by_cases h1 : r.life < 1
    · simp [hn, till_life h1, h1]
    · by_cases ht : tillZ now r.life p.deadline = 0
      · simp [hn, ht]
      · by_cases h3 : 300 < r.life
        · by_cases hd : p.depth < 0 ∨ 6 ≤ p.depth <;> simp [hn, ht, hd, h3]
        · by_cases hd : p.depth < 0 ∨ 6 ≤ p.depth <;> simp [hn, ht, hd, h3, h1]
theorem wrap64_in (x : Int) (h : -9223372036854775808 ≤ x ∧ x < 9223372036854775808) : wrap64 x = x := by
  exact IntWalk.wrap64_in x (by omega)
theorem belowQ_ok {p : Sess} {r : Req} {now b : Int} (h : belowNo p r now = 0) (hb : 0 ≤ b ∧ b < 1048576) : belowQ p r now b = belowS p r now b 0 0#64 0 := by
  unfold belowQ belowS
  rw [if_pos h, wrap64_in (b + 1) (by omega)]
set_option maxHeartbeats 2000000 in
theorem rchild_c1 (p : Sess) (r : Req) (now births : Int) (full : Bool) (w : World) (b m : Int) (hb : belowNo p r now = b) (hm : roomNo births full = m) (hno : childNo p r now births full = 0) (hbz : b = 0) (hi : inB r.scopes p.scopes = true) (hmz : m = 0) : Calls Tryd.prog 11 #[.agg p.cells, .agg r.cells, .int .i64 now, .int .i64 births, .bool full] w (RetB (.tuple #[.agg (childR p r now births full).cells, .int .i64 (childNo p r now births full)]) w) := by
  have HUS := Lib.hid Tryd.underlying31
  have HUR := Lib.hid Tryd.underlying25
  have HRm := Lib.hid (fun w => rroom_any births full w)
  rw [hm] at HRm
  have HBN := Lib.hid hb
  have HWi := Lib.hid (fun w => rwithin_any r.scopes p.scopes w)
  rw [(show childR p r now births full = (belowS p r now births 1 r.scopes p.level) from if_pos hno), hno]
  obtain ⟨W, hW⟩ : ∃ W, ((w.alloc (.cells p.cells 31)).alloc (.cells r.cells 25)).alloc (.cells zeroC 31) = W := ⟨_, rfl⟩
  have bP : Blk W w.heap.size 31 p.cells := hW ▸ ((Blk.new w _ _).alloc _).alloc _
  have bR : Blk W (w.heap.size + 1) 25 r.cells := hW ▸ (Blk.new_at (by simp)).alloc _
  have bZ : Blk W (w.heap.size + 1 + 1) 31 zeroC := hW ▸ Blk.new_at (by simp)
  have hB : Below w.heap.size w W := hW ▸ bel_alloc (bel_alloc (bel_alloc (Below.refl _ _) _) _) _
  have HP := Lib.hid bP.row
  have HR := Lib.hid bR.row
  have HBP := Lib.hid bP
  have HBR := Lib.hid bR
  have HBZ := Lib.hid bZ
  have HB := Lib.hid hB
  have HBel := Lib.hid (rbelow_any p r now births W)
  rw [HBN.out] at HBel
  obtain ⟨Q, hQ⟩ : ∃ Q, belowQ p r now births = Q := ⟨_, rfl⟩
  rw [hQ] at HBel
  subst hbz
  rw [hi] at HWi
  have HB0 := Lib.hid hb
  have HM0 := Lib.hid (hm.trans hmz)
  rw [hmz] at HRm
  clear hb hm hi hmz
  clear hno
  have hQ2 : Q = belowS p r now births 0 0#64 0 := hQ.symm.trans (belowQ_ok HB0.out (roomNo_ok HM0.out))
  have HFIN := Lib.hid (show ({ Q with kind := 1, scopes := r.scopes, level := p.level } : Sess) = (belowS p r now births 1 r.scopes p.level) from by rw [hQ2]; rfl)
  clear hQ2
  clear bR bP bZ hB hQ
  unfold zeroC at hW
  go_enter Tryd.func11, Tryd.ntmps11
  go_wp2_with (first
    | (refine wpList_load_at (ty := 25) rfl rfl rfl HR.out HUR.out rfl reqInfo ?_)
    | (refine wpList_load_at (ty := 31) rfl rfl rfl HP.out HUS.out rfl sessInfo ?_)
    | (go_at_call 34; fail))
  refine HBel.out.mono ?_
  rintro e W1 ⟨rfl, h1⟩
  have HB1 := Lib.hid (HB.out.trans (h1.mono HB.out.size))
  obtain ⟨V, hV⟩ : ∃ V, W1.alloc (.cells Q.cells 31) = V := ⟨_, rfl⟩
  have bN : Blk V W1.heap.size 31 Q.cells := hV ▸ Blk.new W1 _ _
  have bR : Blk V (w.heap.size + 1) 25 r.cells := hV ▸ (HBR.out.below h1 HBR.out.lt).alloc _
  have bP : Blk V w.heap.size 31 p.cells := hV ▸ (HBP.out.below h1 HBP.out.lt).alloc _
  have bZ : Blk V (w.heap.size + 1 + 1) 31 zeroC := hV ▸ (HBZ.out.below h1 HBZ.out.lt).alloc _
  have HB2 := Lib.hid (show Below w.heap.size w V from hV ▸ bel_alloc HB1.out _)
  have HNE := Lib.hid (show w.heap.size + 1 + 1 < W1.heap.size from (HBZ.out.below h1 HBZ.out.lt).lt)
  have nZ : w.heap.size + 1 + 1 ≠ W1.heap.size := Nat.ne_of_lt HNE.out
  have nR : w.heap.size + 1 ≠ W1.heap.size := by have := HNE.out; omega
  have nP : w.heap.size ≠ W1.heap.size := by have := HNE.out; omega
  have hle : w.heap.size ≤ W1.heap.size := by have := HNE.out; omega
  have e2 := (bR.cell 2).trans r.c2
  have g7 := (bP.cell 7).trans p.c7
  have HZ := Lib.hid bZ
  have HN1 := Lib.hid HNE.out
  obtain ⟨V1, hV1⟩ : ∃ V1, V.setCell ⟨W1.heap.size, 4, none⟩ (.int .i64 1) = V1 := ⟨_, rfl⟩
  obtain ⟨V2, hV2⟩ : ∃ V2, V1.setCell ⟨W1.heap.size, 7, none⟩ (.int .u64 (wd r.scopes)) = V2 := ⟨_, rfl⟩
  obtain ⟨V3, hV3⟩ : ∃ V3, V2.setCell ⟨W1.heap.size, 8, none⟩ (.int .i64 p.level) = V3 := ⟨_, rfl⟩
  have bN1 : Blk V1 W1.heap.size 31 { Q with kind := 1 }.cells := hV1 ▸ bN.set_ 4 (.int .i64 1)
  have bN2 : Blk V2 W1.heap.size 31 { Q with kind := 1, scopes := r.scopes }.cells := hV2 ▸ bN1.set_ 7 (.int .u64 (wd r.scopes))
  have bN3 : Blk V3 W1.heap.size 31 { Q with kind := 1, scopes := r.scopes, level := p.level }.cells := hV3 ▸ bN2.set_ 8 (.int .i64 p.level)
  have bR1 : Blk V1 (w.heap.size + 1) 25 r.cells := hV1 ▸ bR.far (p := ⟨W1.heap.size, 4, none⟩) nR _
  have bR2 : Blk V2 (w.heap.size + 1) 25 r.cells := hV2 ▸ bR1.far (p := ⟨W1.heap.size, 7, none⟩) nR _
  have bR3 : Blk V3 (w.heap.size + 1) 25 r.cells := hV3 ▸ bR2.far (p := ⟨W1.heap.size, 8, none⟩) nR _
  have bP1 : Blk V1 (w.heap.size) 31 p.cells := hV1 ▸ bP.far (p := ⟨W1.heap.size, 4, none⟩) nP _
  have bP2 : Blk V2 (w.heap.size) 31 p.cells := hV2 ▸ bP1.far (p := ⟨W1.heap.size, 7, none⟩) nP _
  have bP3 : Blk V3 (w.heap.size) 31 p.cells := hV3 ▸ bP2.far (p := ⟨W1.heap.size, 8, none⟩) nP _
  have bZ1 : Blk V1 (w.heap.size + 1 + 1) 31 zeroC := hV1 ▸ bZ.far (p := ⟨W1.heap.size, 4, none⟩) nZ _
  have bZ2 : Blk V2 (w.heap.size + 1 + 1) 31 zeroC := hV2 ▸ bZ1.far (p := ⟨W1.heap.size, 7, none⟩) nZ _
  have bZ3 : Blk V3 (w.heap.size + 1 + 1) 31 zeroC := hV3 ▸ bZ2.far (p := ⟨W1.heap.size, 8, none⟩) nZ _
  have k4 := (bN.cell 4).trans Q.c4
  have f4 := bN.frozen 4
  have k7 := (bN1.cell 7).trans (Sess.c7 _)
  have f7 := bN1.frozen 7
  have k8 := (bN2.cell 8).trans (Sess.c8 _)
  have f8 := bN2.frozen 8
  have x1 := (bR1.cell 2).trans r.c2
  have x2 := (bP2.cell 8).trans p.c8
  have HR3 := Lib.hid bN3.row
  have HZ3 := Lib.hid bZ3
  have HB3 := Lib.hid (show Below w.heap.size w V3 from hV3 ▸ hV2 ▸ hV1 ▸ bel_set (bel_set (bel_set HB2.out (p := ⟨W1.heap.size, 4, none⟩) hle _) (p := ⟨W1.heap.size, 7, none⟩) hle _) (p := ⟨W1.heap.size, 8, none⟩) hle _)
  rw [HFIN.out] at HR3
  clear nZ nR nP hle HBel h1 bN bR bP bZ bN1 bN2 bN3 bR1 bR2 bR3 bP1 bP2 bP3 bZ1 bZ2 bZ3 HB HBP HBR HBZ HP HR hW HBN HZ
  go_wp2_with (first
    | (go_at_call 35; fail)
    | (refine wpList_store_new (ty := 31) rfl rfl rfl rfl rfl (Sess.one _) sessInfo ?_))
  go_wp2_with (first
    | (go_at_call 35; refine (HWi.out _).mono ?_; rintro e w' ⟨rfl, rfl⟩)
    | (go_at_call 28; refine (HRm.out _).mono ?_; rintro e w' ⟨rfl, rfl⟩)
    | (refine wpList_load_at (ty := 31) rfl rfl rfl HR3.out HUS.out rfl sessInfo ?_)
    | (refine wpList_store_all (ty := 31) rfl rfl rfl rfl HZ3.out rfl (Sess.one _) sessInfo ?_))
  exact bodyPost_ret (results_at_tmp rfl rfl (Blk.setRow_same HZ3.out _).row HUS.out rfl sessInfo) rfl ⟨rfl, bel_setRow HB3.out (by omega) _⟩
set_option maxHeartbeats 2000000 in
theorem rchild_c2 (p : Sess) (r : Req) (now births : Int) (full : Bool) (w : World) (b m : Int) (hb : belowNo p r now = b) (hm : roomNo births full = m) (hno : childNo p r now births full = m) (hbz : b = 0) (hi : inB r.scopes p.scopes = true) (hmz : ¬ m = 0) : Calls Tryd.prog 11 #[.agg p.cells, .agg r.cells, .int .i64 now, .int .i64 births, .bool full] w (RetB (.tuple #[.agg (childR p r now births full).cells, .int .i64 (childNo p r now births full)]) w) := by
  have HUS := Lib.hid Tryd.underlying31
  have HUR := Lib.hid Tryd.underlying25
  have HRm := Lib.hid (fun w => rroom_any births full w)
  rw [hm] at HRm
  have HBN := Lib.hid hb
  have HWi := Lib.hid (fun w => rwithin_any r.scopes p.scopes w)
  rw [(show childR p r now births full = Sess.zero from if_neg (by rw [hno]; exact hmz)), hno]
  obtain ⟨W, hW⟩ : ∃ W, ((w.alloc (.cells p.cells 31)).alloc (.cells r.cells 25)).alloc (.cells zeroC 31) = W := ⟨_, rfl⟩
  have bP : Blk W w.heap.size 31 p.cells := hW ▸ ((Blk.new w _ _).alloc _).alloc _
  have bR : Blk W (w.heap.size + 1) 25 r.cells := hW ▸ (Blk.new_at (by simp)).alloc _
  have bZ : Blk W (w.heap.size + 1 + 1) 31 zeroC := hW ▸ Blk.new_at (by simp)
  have hB : Below w.heap.size w W := hW ▸ bel_alloc (bel_alloc (bel_alloc (Below.refl _ _) _) _) _
  have HP := Lib.hid bP.row
  have HR := Lib.hid bR.row
  have HBP := Lib.hid bP
  have HBR := Lib.hid bR
  have HBZ := Lib.hid bZ
  have HB := Lib.hid hB
  have HBel := Lib.hid (rbelow_any p r now births W)
  rw [HBN.out] at HBel
  obtain ⟨Q, hQ⟩ : ∃ Q, belowQ p r now births = Q := ⟨_, rfl⟩
  rw [hQ] at HBel
  subst hbz
  rw [hi] at HWi
  have hm0 : (m != 0) = true := by simp [hmz]
  clear hb hm hi hmz
  clear hno
  clear bR bP bZ hB hQ
  unfold zeroC at hW
  go_enter Tryd.func11, Tryd.ntmps11
  go_wp2_with (first
    | (refine wpList_load_at (ty := 25) rfl rfl rfl HR.out HUR.out rfl reqInfo ?_)
    | (refine wpList_load_at (ty := 31) rfl rfl rfl HP.out HUS.out rfl sessInfo ?_)
    | (go_at_call 34; fail))
  refine HBel.out.mono ?_
  rintro e W1 ⟨rfl, h1⟩
  have HB1 := Lib.hid (HB.out.trans (h1.mono HB.out.size))
  obtain ⟨V, hV⟩ : ∃ V, W1.alloc (.cells Q.cells 31) = V := ⟨_, rfl⟩
  have bN : Blk V W1.heap.size 31 Q.cells := hV ▸ Blk.new W1 _ _
  have bR : Blk V (w.heap.size + 1) 25 r.cells := hV ▸ (HBR.out.below h1 HBR.out.lt).alloc _
  have bP : Blk V w.heap.size 31 p.cells := hV ▸ (HBP.out.below h1 HBP.out.lt).alloc _
  have bZ : Blk V (w.heap.size + 1 + 1) 31 zeroC := hV ▸ (HBZ.out.below h1 HBZ.out.lt).alloc _
  have HB2 := Lib.hid (show Below w.heap.size w V from hV ▸ bel_alloc HB1.out _)
  have HNE := Lib.hid (show w.heap.size + 1 + 1 < W1.heap.size from (HBZ.out.below h1 HBZ.out.lt).lt)
  have e2 := (bR.cell 2).trans r.c2
  have g7 := (bP.cell 7).trans p.c7
  have HZ := Lib.hid bZ
  clear HBel h1 bN bR bP bZ HB HBP HBR HBZ HP HR hW HBN
  go_wp2_with (first
    | (go_at_call 35; fail)
    | (refine wpList_store_new (ty := 31) rfl rfl rfl rfl rfl (Sess.one _) sessInfo ?_))
  go_wp2_with (first
    | (go_at_call 35; refine (HWi.out _).mono ?_; rintro e w' ⟨rfl, rfl⟩)
    | (go_at_call 28; refine (HRm.out _).mono ?_; rintro e w' ⟨rfl, rfl⟩)
    | (refine wpList_store_all (ty := 31) (vs := Sess.zero.cells) rfl rfl rfl rfl HZ.out rfl (Sess.one _) sessInfo ?_))
  exact bodyPost_ret (results_at_tmp rfl rfl (Blk.setRow_same HZ.out _).row HUS.out rfl sessInfo) rfl ⟨rfl, bel_setRow HB2.out (by omega) _⟩
set_option maxHeartbeats 2000000 in
theorem rchild_c3 (p : Sess) (r : Req) (now births : Int) (full : Bool) (w : World) (b m : Int) (hb : belowNo p r now = b) (hm : roomNo births full = m) (hno : childNo p r now births full = 11) (hbz : b = 0) (hi : inB r.scopes p.scopes = false) : Calls Tryd.prog 11 #[.agg p.cells, .agg r.cells, .int .i64 now, .int .i64 births, .bool full] w (RetB (.tuple #[.agg (childR p r now births full).cells, .int .i64 (childNo p r now births full)]) w) := by
  have HUS := Lib.hid Tryd.underlying31
  have HUR := Lib.hid Tryd.underlying25
  have HRm := Lib.hid (fun w => rroom_any births full w)
  rw [hm] at HRm
  have HBN := Lib.hid hb
  have HWi := Lib.hid (fun w => rwithin_any r.scopes p.scopes w)
  rw [(show childR p r now births full = Sess.zero from if_neg (by rw [hno]; decide)), hno]
  obtain ⟨W, hW⟩ : ∃ W, ((w.alloc (.cells p.cells 31)).alloc (.cells r.cells 25)).alloc (.cells zeroC 31) = W := ⟨_, rfl⟩
  have bP : Blk W w.heap.size 31 p.cells := hW ▸ ((Blk.new w _ _).alloc _).alloc _
  have bR : Blk W (w.heap.size + 1) 25 r.cells := hW ▸ (Blk.new_at (by simp)).alloc _
  have bZ : Blk W (w.heap.size + 1 + 1) 31 zeroC := hW ▸ Blk.new_at (by simp)
  have hB : Below w.heap.size w W := hW ▸ bel_alloc (bel_alloc (bel_alloc (Below.refl _ _) _) _) _
  have HP := Lib.hid bP.row
  have HR := Lib.hid bR.row
  have HBP := Lib.hid bP
  have HBR := Lib.hid bR
  have HBZ := Lib.hid bZ
  have HB := Lib.hid hB
  have HBel := Lib.hid (rbelow_any p r now births W)
  rw [HBN.out] at HBel
  obtain ⟨Q, hQ⟩ : ∃ Q, belowQ p r now births = Q := ⟨_, rfl⟩
  rw [hQ] at HBel
  subst hbz
  rw [hi] at HWi
  clear hb hm hi
  clear hno
  clear bR bP bZ hB hQ
  unfold zeroC at hW
  go_enter Tryd.func11, Tryd.ntmps11
  go_wp2_with (first
    | (refine wpList_load_at (ty := 25) rfl rfl rfl HR.out HUR.out rfl reqInfo ?_)
    | (refine wpList_load_at (ty := 31) rfl rfl rfl HP.out HUS.out rfl sessInfo ?_)
    | (go_at_call 34; fail))
  refine HBel.out.mono ?_
  rintro e W1 ⟨rfl, h1⟩
  have HB1 := Lib.hid (HB.out.trans (h1.mono HB.out.size))
  obtain ⟨V, hV⟩ : ∃ V, W1.alloc (.cells Q.cells 31) = V := ⟨_, rfl⟩
  have bN : Blk V W1.heap.size 31 Q.cells := hV ▸ Blk.new W1 _ _
  have bR : Blk V (w.heap.size + 1) 25 r.cells := hV ▸ (HBR.out.below h1 HBR.out.lt).alloc _
  have bP : Blk V w.heap.size 31 p.cells := hV ▸ (HBP.out.below h1 HBP.out.lt).alloc _
  have bZ : Blk V (w.heap.size + 1 + 1) 31 zeroC := hV ▸ (HBZ.out.below h1 HBZ.out.lt).alloc _
  have HB2 := Lib.hid (show Below w.heap.size w V from hV ▸ bel_alloc HB1.out _)
  have HNE := Lib.hid (show w.heap.size + 1 + 1 < W1.heap.size from (HBZ.out.below h1 HBZ.out.lt).lt)
  have e2 := (bR.cell 2).trans r.c2
  have g7 := (bP.cell 7).trans p.c7
  have HZ := Lib.hid bZ
  clear HBel h1 bN bR bP bZ HB HBP HBR HBZ HP HR hW HBN
  go_wp2_with (first
    | (go_at_call 35; fail)
    | (refine wpList_store_new (ty := 31) rfl rfl rfl rfl rfl (Sess.one _) sessInfo ?_))
  go_wp2_with (first
    | (go_at_call 35; refine (HWi.out _).mono ?_; rintro e w' ⟨rfl, rfl⟩)
    | (go_at_call 28; refine (HRm.out _).mono ?_; rintro e w' ⟨rfl, rfl⟩)
    | (refine wpList_store_all (ty := 31) (vs := Sess.zero.cells) rfl rfl rfl rfl HZ.out rfl (Sess.one _) sessInfo ?_))
  exact bodyPost_ret (results_at_tmp rfl rfl (Blk.setRow_same HZ.out _).row HUS.out rfl sessInfo) rfl ⟨rfl, bel_setRow HB2.out (by omega) _⟩
set_option maxHeartbeats 2000000 in
theorem rchild_c4 (p : Sess) (r : Req) (now births : Int) (full : Bool) (w : World) (b m : Int) (hb : belowNo p r now = b) (hm : roomNo births full = m) (hno : childNo p r now births full = b) (hbz : ¬ b = 0) : Calls Tryd.prog 11 #[.agg p.cells, .agg r.cells, .int .i64 now, .int .i64 births, .bool full] w (RetB (.tuple #[.agg (childR p r now births full).cells, .int .i64 (childNo p r now births full)]) w) := by
  have HUS := Lib.hid Tryd.underlying31
  have HUR := Lib.hid Tryd.underlying25
  have HRm := Lib.hid (fun w => rroom_any births full w)
  rw [hm] at HRm
  have HBN := Lib.hid hb
  have HWi := Lib.hid (fun w => rwithin_any r.scopes p.scopes w)
  rw [(show childR p r now births full = Sess.zero from if_neg (by rw [hno]; exact hbz)), hno]
  obtain ⟨W, hW⟩ : ∃ W, ((w.alloc (.cells p.cells 31)).alloc (.cells r.cells 25)).alloc (.cells zeroC 31) = W := ⟨_, rfl⟩
  have bP : Blk W w.heap.size 31 p.cells := hW ▸ ((Blk.new w _ _).alloc _).alloc _
  have bR : Blk W (w.heap.size + 1) 25 r.cells := hW ▸ (Blk.new_at (by simp)).alloc _
  have bZ : Blk W (w.heap.size + 1 + 1) 31 zeroC := hW ▸ Blk.new_at (by simp)
  have hB : Below w.heap.size w W := hW ▸ bel_alloc (bel_alloc (bel_alloc (Below.refl _ _) _) _) _
  have HP := Lib.hid bP.row
  have HR := Lib.hid bR.row
  have HBP := Lib.hid bP
  have HBR := Lib.hid bR
  have HBZ := Lib.hid bZ
  have HB := Lib.hid hB
  have HBel := Lib.hid (rbelow_any p r now births W)
  rw [HBN.out] at HBel
  obtain ⟨Q, hQ⟩ : ∃ Q, belowQ p r now births = Q := ⟨_, rfl⟩
  rw [hQ] at HBel
  have hb0 : (b != 0) = true := by simp [hbz]
  clear hb hm hbz
  clear hno
  clear bR bP bZ hB hQ
  unfold zeroC at hW
  go_enter Tryd.func11, Tryd.ntmps11
  go_wp2_with (first
    | (refine wpList_load_at (ty := 25) rfl rfl rfl HR.out HUR.out rfl reqInfo ?_)
    | (refine wpList_load_at (ty := 31) rfl rfl rfl HP.out HUS.out rfl sessInfo ?_)
    | (go_at_call 34; fail))
  refine HBel.out.mono ?_
  rintro e W1 ⟨rfl, h1⟩
  have HB1 := Lib.hid (HB.out.trans (h1.mono HB.out.size))
  obtain ⟨V, hV⟩ : ∃ V, W1.alloc (.cells Q.cells 31) = V := ⟨_, rfl⟩
  have bN : Blk V W1.heap.size 31 Q.cells := hV ▸ Blk.new W1 _ _
  have bR : Blk V (w.heap.size + 1) 25 r.cells := hV ▸ (HBR.out.below h1 HBR.out.lt).alloc _
  have bP : Blk V w.heap.size 31 p.cells := hV ▸ (HBP.out.below h1 HBP.out.lt).alloc _
  have bZ : Blk V (w.heap.size + 1 + 1) 31 zeroC := hV ▸ (HBZ.out.below h1 HBZ.out.lt).alloc _
  have HB2 := Lib.hid (show Below w.heap.size w V from hV ▸ bel_alloc HB1.out _)
  have HNE := Lib.hid (show w.heap.size + 1 + 1 < W1.heap.size from (HBZ.out.below h1 HBZ.out.lt).lt)
  have e2 := (bR.cell 2).trans r.c2
  have g7 := (bP.cell 7).trans p.c7
  have HZ := Lib.hid bZ
  clear HBel h1 bN bR bP bZ HB HBP HBR HBZ HP HR hW HBN
  go_wp2_with (first
    | (go_at_call 35; refine (HWi.out _).mono ?_; rintro e w' ⟨rfl, rfl⟩)
    | (go_at_call 28; refine (HRm.out _).mono ?_; rintro e w' ⟨rfl, rfl⟩)
    | (refine wpList_store_all (ty := 31) (vs := Sess.zero.cells) rfl rfl rfl rfl HZ.out rfl (Sess.one _) sessInfo ?_)
    | (refine wpList_store_new (ty := 31) rfl rfl rfl rfl rfl (Sess.one _) sessInfo ?_))
  exact bodyPost_ret (results_at_tmp rfl rfl (Blk.setRow_same HZ.out _).row HUS.out rfl sessInfo) rfl ⟨rfl, bel_setRow HB2.out (by omega) _⟩
theorem rchild_any (p : Sess) (r : Req) (now births : Int) (full : Bool) (w : World) : Calls Tryd.prog 11 #[.agg p.cells, .agg r.cells, .int .i64 now, .int .i64 births, .bool full] w (RetB (.tuple #[.agg (childR p r now births full).cells, .int .i64 (childNo p r now births full)]) w) := by
  obtain ⟨b, hb⟩ : ∃ b, belowNo p r now = b := ⟨_, rfl⟩
  obtain ⟨m, hm⟩ : ∃ m, roomNo births full = m := ⟨_, rfl⟩
  by_cases hbz : b = 0
  · by_cases hi : inB r.scopes p.scopes = true
    · by_cases hmz : m = 0
      · have hno : childNo p r now births full = 0 := by rw [child_below]; rw [if_neg (by simp [hb, hbz]), if_neg (by simp [hi]), hm, hmz]
        exact rchild_c1 p r now births full w b m hb hm hno hbz hi hmz
      · have hno : childNo p r now births full = m := by rw [child_below]; rw [if_neg (by simp [hb, hbz]), if_neg (by simp [hi]), hm]
        exact rchild_c2 p r now births full w b m hb hm hno hbz hi hmz
    · rw [Bool.not_eq_true] at hi
      have hno : childNo p r now births full = 11 := by rw [child_below]; rw [if_neg (by simp [hb, hbz]), if_pos hi]
      exact rchild_c3 p r now births full w b m hb hm hno hbz hi
  · have hno : childNo p r now births full = b := by rw [child_below]; rw [hb, if_pos hbz]
    exact rchild_c4 p r now births full w b m hb hm hno hbz
end Go.Proofs.YthoibafhbacfiaaDoor
