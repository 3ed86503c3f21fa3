/-
  lineagelaw22: GrantLogins, GrantChildren, GrantRaises hold.
-/
import Derived.Test.YthoibafhbacfiaaDoorGRef5
import Derived.Test.YthoibafhbacfiaaDoorPlain
namespace Go.Proofs.YthoibafhbacfiaaDoor
set_option maxRecDepth 100000
open Go.RowKit

def thereC (now births : Int) (full : Bool) : Array Value := #[.int .i64 now, .int .i64 births, .bool full]
theorem plain_k (k : Int) (h : 0 ≤ k ∧ k ≤ 24) (w : World) (hg : Laid w) : Calls Tryd.prog 9 #[errK k, .int .i64 k] w (RetB (.bool true) w) := plain_same k h.1 h.2 w hg
set_option maxHeartbeats 2000000 in
theorem grantLogins_any (r : Req) (now births : Int) (full : Bool) (w : World) (hg : Laid w) : Calls Tryd.prog 3 #[.agg r.cells, .agg (thereC now births full)] w (RetB (.bool true) w) := by
  have HUS := Lib.hid Tryd.underlying31
  have HUR := Lib.hid Tryd.underlying25
  obtain ⟨S, hS⟩ : ∃ S : Sess, loginR r now births full = S := ⟨_, rfl⟩
  obtain ⟨k, hk⟩ : ∃ k, loginNo r now births full = k := ⟨_, rfl⟩
  have HK := Lib.hid (show 0 ≤ k ∧ k ≤ 24 from hk ▸ loginNo_le r now births full)
  have HA : Hid (∀ w, Calls Tryd.prog 7 #[.agg r.cells, .int .i64 now, .int .i64 births, .bool full] w (RetB (.tuple #[.agg S.cells, errK k]) w)) := Lib.hid (fun w => hS ▸ hk ▸ login_any r now births full w)
  have HB : Hid (∀ w, Calls Tryd.prog 8 #[.agg r.cells, .int .i64 now, .int .i64 births, .bool full] w (RetB (.tuple #[.agg S.cells, .int .i64 k]) w)) := Lib.hid (fun w => hS ▸ hk ▸ rlogin_any r now births full w)
  clear hS hk
  obtain ⟨W, hW⟩ : ∃ W, (w.alloc (.cells r.cells 25)).alloc (.cells (thereC now births full) 27) = W := ⟨_, rfl⟩
  have bR : Blk W w.heap.size 25 r.cells := hW ▸ (Blk.new w _ _).alloc _
  have bX : Blk W (w.heap.size + 1) 27 (thereC now births full) := hW ▸ Blk.new_at (by simp)
  have hB : Below w.heap.size w W := hW ▸ bel_alloc (bel_alloc (Below.refl _ _) _) _
  have c0 := (bX.cell 0)
  have c1 := (bX.cell 1)
  have c2 := (bX.cell 2)
  simp only [thereC, List.getElem?_toArray, List.getElem?_cons_zero, List.getElem?_cons_succ] at c0 c1 c2
  have HR := Lib.hid bR.row
  have HBR := Lib.hid bR
  have HBX := Lib.hid bX
  have HBe := Lib.hid hB
  have HG := Lib.hid hg
  clear bR bX hB hg
  unfold thereC at hW ⊢
  go_enter Tryd.func3, Tryd.ntmps3
  go_wp2_with (first
    | (refine wpList_load_at (ty := 25) rfl rfl rfl HR.out HUR.out rfl reqInfo ?_)
    | (go_at_call 7; fail))
  refine (HA.out _).mono ?_
  rintro e W1 ⟨rfl, h1⟩
  obtain ⟨V, hV⟩ : ∃ V, W1.alloc (.cells S.cells 31) = V := ⟨_, rfl⟩
  have hBV : Below W.heap.size W V := hV ▸ bel_alloc h1 _
  have bX : Blk V (w.heap.size + 1) 27 (thereC now births full) := HBX.out.below hBV HBX.out.lt
  have d0 := (bX.cell 0)
  have d1 := (bX.cell 1)
  have d2 := (bX.cell 2)
  simp only [thereC, List.getElem?_toArray, List.getElem?_cons_zero, List.getElem?_cons_succ] at d0 d1 d2
  have HR1 := Lib.hid (HBR.out.below hBV HBR.out.lt).row
  have HS1 := Lib.hid (show Blk V W1.heap.size 31 S.cells from hV ▸ Blk.new W1 _ _)
  have HBe1 := Lib.hid (HBe.out.trans (hBV.mono HBe.out.size))
  clear h1 hBV bX c0 c1 c2 hW HR
  go_wp2_with (first
    | (refine wpList_store_new (ty := 31) rfl rfl rfl rfl rfl (Sess.one _) sessInfo ?_)
    | (refine wpList_load_at (ty := 25) rfl rfl rfl HR1.out HUR.out rfl reqInfo ?_)
    | (go_at_call 8; fail))
  refine (HB.out _).mono ?_
  rintro e W2 ⟨rfl, h2⟩
  obtain ⟨U, hU⟩ : ∃ U, W2.alloc (.cells S.cells 31) = U := ⟨_, rfl⟩
  have hBU : Below V.heap.size V U := hU ▸ bel_alloc h2 _
  have HS2 := Lib.hid (HS1.out.below hBU HS1.out.lt).row
  have HS3 := Lib.hid (show RowAt U W2.heap.size 0 S.cells from hU ▸ (Blk.new W2 _ _).row)
  have HBe2 := Lib.hid (HBe1.out.trans (hBU.mono HBe1.out.size))
  have HPl := Lib.hid (plain_k k HK.out U (HG.out.below HBe2.out HG.out.pos))
  have heq : ∀ w, (binOp .eql 31 (.agg S.cells) (.agg S.cells)).run Tryd.prog w = .ok (.bool true) w := fun w => by rw [eql_sess, Sess.same_refl]
  clear hBU h2 d0 d1 d2 hV HR1 HS1
  go_wp2_with (first
    | (refine wpList_store_new (ty := 31) rfl rfl rfl rfl rfl (Sess.one _) sessInfo ?_)
    | (refine wpList_load_at (ty := 31) rfl rfl rfl HS2.out HUS.out rfl sessInfo ?_)
    | (refine wpList_load_at (ty := 31) rfl rfl rfl HS3.out HUS.out rfl sessInfo ?_)
    | (go_at_call 9; fail))
  refine HPl.out.mono ?_
  rintro e W3 ⟨rfl, h3⟩
  have HBe3 := Lib.hid (HBe2.out.trans (h3.mono HBe2.out.size))
  clear h3 hU
  go_wp2
  go_ret
  exact ⟨rfl, HBe3.out⟩
set_option maxHeartbeats 2000000 in
theorem grantChildren_any (p : Sess) (r : Req) (now births : Int) (full : Bool) (w : World) (hg : Laid w) : Calls Tryd.prog 4 #[.agg p.cells, .agg r.cells, .agg (thereC now births full)] w (RetB (.bool true) w) := by
  have HUS := Lib.hid Tryd.underlying31
  have HUR := Lib.hid Tryd.underlying25
  obtain ⟨S, hS⟩ : ∃ S : Sess, childR p r now births full = S := ⟨_, rfl⟩
  obtain ⟨k, hk⟩ : ∃ k, childNo p r now births full = k := ⟨_, rfl⟩
  have HK := Lib.hid (show 0 ≤ k ∧ k ≤ 24 from hk ▸ childNo_le p r now births full)
  have HA : Hid (∀ w, Calls Tryd.prog 10 #[.agg p.cells, .agg r.cells, .int .i64 now, .int .i64 births, .bool full] w (RetB (.tuple #[.agg S.cells, errK k]) w)) := Lib.hid (fun w => hS ▸ hk ▸ child_any p r now births full w)
  have HB : Hid (∀ w, Calls Tryd.prog 11 #[.agg p.cells, .agg r.cells, .int .i64 now, .int .i64 births, .bool full] w (RetB (.tuple #[.agg S.cells, .int .i64 k]) w)) := Lib.hid (fun w => hS ▸ hk ▸ rchild_any p r now births full w)
  clear hS hk
  obtain ⟨W, hW⟩ : ∃ W, ((w.alloc (.cells p.cells 31)).alloc (.cells r.cells 25)).alloc (.cells (thereC now births full) 27) = W := ⟨_, rfl⟩
  have bP : Blk W w.heap.size 31 p.cells := hW ▸ ((Blk.new w _ _).alloc _).alloc _
  have bR : Blk W (w.heap.size + 1) 25 r.cells := hW ▸ (Blk.new_at (by simp)).alloc _
  have bX : Blk W (w.heap.size + 1 + 1) 27 (thereC now births full) := hW ▸ Blk.new_at (by simp)
  have hB : Below w.heap.size w W := hW ▸ bel_alloc (bel_alloc (bel_alloc (Below.refl _ _) _) _) _
  have c0 := (bX.cell 0)
  have c1 := (bX.cell 1)
  have c2 := (bX.cell 2)
  simp only [thereC, List.getElem?_toArray, List.getElem?_cons_zero, List.getElem?_cons_succ] at c0 c1 c2
  have HR := Lib.hid bR.row
  have HBR := Lib.hid bR
  have HBX := Lib.hid bX
  have HBe := Lib.hid hB
  have HP := Lib.hid bP.row
  have HBP := Lib.hid bP
  have HG := Lib.hid hg
  clear bR bX hB hg bP
  unfold thereC at hW ⊢
  go_enter Tryd.func4, Tryd.ntmps4
  go_wp2_with (first
    | (refine wpList_load_at (ty := 25) rfl rfl rfl HR.out HUR.out rfl reqInfo ?_)
    | (refine wpList_load_at (ty := 31) rfl rfl rfl HP.out HUS.out rfl sessInfo ?_)
    | (go_at_call 10; fail))
  refine (HA.out _).mono ?_
  rintro e W1 ⟨rfl, h1⟩
  obtain ⟨V, hV⟩ : ∃ V, W1.alloc (.cells S.cells 31) = V := ⟨_, rfl⟩
  have hBV : Below W.heap.size W V := hV ▸ bel_alloc h1 _
  have bX : Blk V (w.heap.size + 1 + 1) 27 (thereC now births full) := HBX.out.below hBV HBX.out.lt
  have d0 := (bX.cell 0)
  have d1 := (bX.cell 1)
  have d2 := (bX.cell 2)
  simp only [thereC, List.getElem?_toArray, List.getElem?_cons_zero, List.getElem?_cons_succ] at d0 d1 d2
  have HR1 := Lib.hid (HBR.out.below hBV HBR.out.lt).row
  have HP1 := Lib.hid (HBP.out.below hBV HBP.out.lt).row
  have HS1 := Lib.hid (show Blk V W1.heap.size 31 S.cells from hV ▸ Blk.new W1 _ _)
  have HBe1 := Lib.hid (HBe.out.trans (hBV.mono HBe.out.size))
  clear h1 hBV bX c0 c1 c2 hW HR HP
  go_wp2_with (first
    | (refine wpList_store_new (ty := 31) rfl rfl rfl rfl rfl (Sess.one _) sessInfo ?_)
    | (refine wpList_load_at (ty := 25) rfl rfl rfl HR1.out HUR.out rfl reqInfo ?_)
    | (refine wpList_load_at (ty := 31) rfl rfl rfl HP1.out HUS.out rfl sessInfo ?_)
    | (go_at_call 11; fail))
  refine (HB.out _).mono ?_
  rintro e W2 ⟨rfl, h2⟩
  obtain ⟨U, hU⟩ : ∃ U, W2.alloc (.cells S.cells 31) = U := ⟨_, rfl⟩
  have hBU : Below V.heap.size V U := hU ▸ bel_alloc h2 _
  have HS2 := Lib.hid (HS1.out.below hBU HS1.out.lt).row
  have HS3 := Lib.hid (show RowAt U W2.heap.size 0 S.cells from hU ▸ (Blk.new W2 _ _).row)
  have HBe2 := Lib.hid (HBe1.out.trans (hBU.mono HBe1.out.size))
  have HPl := Lib.hid (plain_k k HK.out U (HG.out.below HBe2.out HG.out.pos))
  have heq : ∀ w, (binOp .eql 31 (.agg S.cells) (.agg S.cells)).run Tryd.prog w = .ok (.bool true) w := fun w => by rw [eql_sess, Sess.same_refl]
  clear hBU h2 d0 d1 d2 hV HR1 HS1 HP1
  go_wp2_with (first
    | (refine wpList_store_new (ty := 31) rfl rfl rfl rfl rfl (Sess.one _) sessInfo ?_)
    | (refine wpList_load_at (ty := 31) rfl rfl rfl HS2.out HUS.out rfl sessInfo ?_)
    | (refine wpList_load_at (ty := 31) rfl rfl rfl HS3.out HUS.out rfl sessInfo ?_)
    | (go_at_call 9; fail))
  refine HPl.out.mono ?_
  rintro e W3 ⟨rfl, h3⟩
  have HBe3 := Lib.hid (HBe2.out.trans (h3.mono HBe2.out.size))
  clear h3 hU
  go_wp2
  go_ret
  exact ⟨rfl, HBe3.out⟩
set_option maxHeartbeats 2000000 in
theorem grantRaises_any (p : Sess) (r : Req) (now births : Int) (full : Bool) (w : World) (hg : Laid w) : Calls Tryd.prog 5 #[.agg p.cells, .agg r.cells, .agg (thereC now births full)] w (RetB (.bool true) w) := by
  have HUS := Lib.hid Tryd.underlying31
  have HUR := Lib.hid Tryd.underlying25
  obtain ⟨S, hS⟩ : ∃ S : Sess, raisedR p r now births full = S := ⟨_, rfl⟩
  obtain ⟨k, hk⟩ : ∃ k, raisedNo p r now births full = k := ⟨_, rfl⟩
  have HK := Lib.hid (show 0 ≤ k ∧ k ≤ 24 from hk ▸ raisedNo_le p r now births full)
  have HA : Hid (∀ w, Calls Tryd.prog 12 #[.agg p.cells, .agg r.cells, .int .i64 now, .int .i64 births, .bool full] w (RetB (.tuple #[.agg S.cells, errK k]) w)) := Lib.hid (fun w => hS ▸ hk ▸ raised_any p r now births full w)
  have HB : Hid (∀ w, Calls Tryd.prog 13 #[.agg p.cells, .agg r.cells, .int .i64 now, .int .i64 births, .bool full] w (RetB (.tuple #[.agg S.cells, .int .i64 k]) w)) := Lib.hid (fun w => hS ▸ hk ▸ rraised_any p r now births full w)
  clear hS hk
  obtain ⟨W, hW⟩ : ∃ W, ((w.alloc (.cells p.cells 31)).alloc (.cells r.cells 25)).alloc (.cells (thereC now births full) 27) = W := ⟨_, rfl⟩
  have bP : Blk W w.heap.size 31 p.cells := hW ▸ ((Blk.new w _ _).alloc _).alloc _
  have bR : Blk W (w.heap.size + 1) 25 r.cells := hW ▸ (Blk.new_at (by simp)).alloc _
  have bX : Blk W (w.heap.size + 1 + 1) 27 (thereC now births full) := hW ▸ Blk.new_at (by simp)
  have hB : Below w.heap.size w W := hW ▸ bel_alloc (bel_alloc (bel_alloc (Below.refl _ _) _) _) _
  have c0 := (bX.cell 0)
  have c1 := (bX.cell 1)
  have c2 := (bX.cell 2)
  simp only [thereC, List.getElem?_toArray, List.getElem?_cons_zero, List.getElem?_cons_succ] at c0 c1 c2
  have HR := Lib.hid bR.row
  have HBR := Lib.hid bR
  have HBX := Lib.hid bX
  have HBe := Lib.hid hB
  have HP := Lib.hid bP.row
  have HBP := Lib.hid bP
  have HG := Lib.hid hg
  clear bR bX hB hg bP
  unfold thereC at hW ⊢
  go_enter Tryd.func5, Tryd.ntmps5
  go_wp2_with (first
    | (refine wpList_load_at (ty := 25) rfl rfl rfl HR.out HUR.out rfl reqInfo ?_)
    | (refine wpList_load_at (ty := 31) rfl rfl rfl HP.out HUS.out rfl sessInfo ?_)
    | (go_at_call 12; fail))
  refine (HA.out _).mono ?_
  rintro e W1 ⟨rfl, h1⟩
  obtain ⟨V, hV⟩ : ∃ V, W1.alloc (.cells S.cells 31) = V := ⟨_, rfl⟩
  have hBV : Below W.heap.size W V := hV ▸ bel_alloc h1 _
  have bX : Blk V (w.heap.size + 1 + 1) 27 (thereC now births full) := HBX.out.below hBV HBX.out.lt
  have d0 := (bX.cell 0)
  have d1 := (bX.cell 1)
  have d2 := (bX.cell 2)
  simp only [thereC, List.getElem?_toArray, List.getElem?_cons_zero, List.getElem?_cons_succ] at d0 d1 d2
  have HR1 := Lib.hid (HBR.out.below hBV HBR.out.lt).row
  have HP1 := Lib.hid (HBP.out.below hBV HBP.out.lt).row
  have HS1 := Lib.hid (show Blk V W1.heap.size 31 S.cells from hV ▸ Blk.new W1 _ _)
  have HBe1 := Lib.hid (HBe.out.trans (hBV.mono HBe.out.size))
  clear h1 hBV bX c0 c1 c2 hW HR HP
  go_wp2_with (first
    | (refine wpList_store_new (ty := 31) rfl rfl rfl rfl rfl (Sess.one _) sessInfo ?_)
    | (refine wpList_load_at (ty := 25) rfl rfl rfl HR1.out HUR.out rfl reqInfo ?_)
    | (refine wpList_load_at (ty := 31) rfl rfl rfl HP1.out HUS.out rfl sessInfo ?_)
    | (go_at_call 13; fail))
  refine (HB.out _).mono ?_
  rintro e W2 ⟨rfl, h2⟩
  obtain ⟨U, hU⟩ : ∃ U, W2.alloc (.cells S.cells 31) = U := ⟨_, rfl⟩
  have hBU : Below V.heap.size V U := hU ▸ bel_alloc h2 _
  have HS2 := Lib.hid (HS1.out.below hBU HS1.out.lt).row
  have HS3 := Lib.hid (show RowAt U W2.heap.size 0 S.cells from hU ▸ (Blk.new W2 _ _).row)
  have HBe2 := Lib.hid (HBe1.out.trans (hBU.mono HBe1.out.size))
  have HPl := Lib.hid (plain_k k HK.out U (HG.out.below HBe2.out HG.out.pos))
  have heq : ∀ w, (binOp .eql 31 (.agg S.cells) (.agg S.cells)).run Tryd.prog w = .ok (.bool true) w := fun w => by rw [eql_sess, Sess.same_refl]
  clear hBU h2 d0 d1 d2 hV HR1 HS1 HP1
  go_wp2_with (first
    | (refine wpList_store_new (ty := 31) rfl rfl rfl rfl rfl (Sess.one _) sessInfo ?_)
    | (refine wpList_load_at (ty := 31) rfl rfl rfl HS2.out HUS.out rfl sessInfo ?_)
    | (refine wpList_load_at (ty := 31) rfl rfl rfl HS3.out HUS.out rfl sessInfo ?_)
    | (go_at_call 9; fail))
  refine HPl.out.mono ?_
  rintro e W3 ⟨rfl, h3⟩
  have HBe3 := Lib.hid (HBe2.out.trans (h3.mono HBe2.out.size))
  clear h3 hU
  go_wp2
  go_ret
  exact ⟨rfl, HBe3.out⟩
end Go.Proofs.YthoibafhbacfiaaDoor
