/-
  lineagelaw22: child, raised, knownSaid.
-/
import Derived.Test.YthoibafhbacfiaaDoorGOrderD
namespace Go.Proofs.YthoibafhbacfiaaDoor
set_option maxRecDepth 100000
open Go.RowKit

theorem name_ann : nameB ⟨#[97, 110, 110]⟩ = true := by
  have h : (⟨#[97, 110, 110]⟩ : ByteArray).size = 3 := rfl
  unfold nameB
  rw [h]
  rw [okFrom_at (by rw [h]; decide), okFrom_at (by rw [h]; decide), okFrom_at (by rw [h]; decide), okFrom_end (by rw [h]; decide)]
  rfl
theorem name_pay : nameB ⟨#[112, 97, 121]⟩ = true := by
  have h : (⟨#[112, 97, 121]⟩ : ByteArray).size = 3 := rfl
  unfold nameB
  rw [h]
  rw [okFrom_at (by rw [h]; decide), okFrom_at (by rw [h]; decide), okFrom_at (by rw [h]; decide), okFrom_end (by rw [h]; decide)]
  rfl
theorem name_none : nameB ⟨#[]⟩ = false := by
  have h : (⟨#[]⟩ : ByteArray).size = 0 := rfl
  unfold nameB
  rw [h]
  rfl
set_option maxHeartbeats 1000000 in
theorem kchild_any (p : Sess) (l : ByteArray) (x : BitVec 64) (life : Int) (w : World) : Calls Tryd.prog 41 #[.agg p.cells, .string l, .int .u64 (wd x), .int .i64 life] w (RetB (.int .i64 (childNo p ⟨⟨#[]⟩, l, x, 0, life⟩ 40 9 false)) w) := by
  have HUS := Lib.hid Tryd.underlying31
  have HLE := Lib.hid (childNo_le p ⟨⟨#[]⟩, l, x, 0, life⟩ 40 9 false)
  have HA : Hid (∀ w, Calls Tryd.prog 10 #[.agg p.cells, .agg #[.string ⟨#[]⟩, .string l, .int .u64 (wd x), .int .i64 0, .int .i64 life], .int .i64 40, .int .i64 9, .bool false] w _) := Lib.hid (fun w => child_any p ⟨⟨#[]⟩, l, x, 0, life⟩ 40 9 false w)
  generalize childR p ⟨⟨#[]⟩, l, x, 0, life⟩ 40 9 false = SS at HA
  generalize childNo p ⟨⟨#[]⟩, l, x, 0, life⟩ 40 9 false = k at HA HLE ⊢
  have HN := Lib.hid (fun w => num_k k HLE.out.1 HLE.out.2 w)
  generalize errK k = E at HA HN
  obtain ⟨W, hW⟩ : ∃ W, w.alloc (.cells p.cells 31) = W := ⟨_, rfl⟩
  have HP := Lib.hid (show Blk W w.heap.size 31 p.cells from hW ▸ Blk.new w _ _)
  have HB := Lib.hid (show Below w.heap.size w W from hW ▸ bel_alloc (Below.refl _ _) _)
  go_enter Tryd.func41, Tryd.ntmps41
  go_wp2_with (first
    | (go_at_call 10; fail)
    | ((with_reducible show wpList _ _ _ (Oper.mk _ (Op.load 31 (Operand.tmp 4)) _ _ _ _ :: _) _ W); refine wpList_load_at (ty := 31) rfl rfl rfl HP.out.row HUS.out rfl sessInfo ?_))
  clear hW
  refine (HA.out _).mono ?_
  rintro e W1 ⟨rfl, h1⟩
  have HB1 := Lib.hid (HB.out.trans (h1.mono HB.out.size))
  clear h1
  go_wp2_with (first
    | (go_at_call 29; fail)
    | ((with_reducible show wpList _ _ _ (Oper.mk _ (Op.store 31 _ _) _ _ _ _ :: _) _ (World.alloc _ _)); refine wpList_store_new (ty := 31) rfl rfl rfl rfl rfl (Sess.one _) sessInfo ?_))
  refine (HN.out _).mono ?_
  rintro e W2 ⟨rfl, h2⟩
  have HB2 := Lib.hid ((bel_alloc HB1.out (.cells SS.cells 31)).trans (h2.mono (by have := HB1.out.size; simp; omega)))
  clear h2
  go_wp2
  go_ret
  exact ⟨rfl, HB2.out⟩
set_option maxHeartbeats 1000000 in
theorem kraised_any (l life : Int) (k z : Int) (hk : raisedNo parentS ⟨⟨#[]⟩, ⟨#[112, 97, 121]⟩, 0#64, l, life⟩ 40 9 false = k) (hz : (raisedR parentS ⟨⟨#[]⟩, ⟨#[112, 97, 121]⟩, 0#64, l, life⟩ 40 9 false).deadline = z) (w : World) : Calls Tryd.prog 39 #[.int .i64 l, .int .i64 life] w (RetB (.tuple #[.int .i64 k, .int .i64 z]) w) := by
  have HLE := Lib.hid (raisedNo_le parentS ⟨⟨#[]⟩, ⟨#[112, 97, 121]⟩, 0#64, l, life⟩ 40 9 false)
  have HA : Hid (∀ w, Calls Tryd.prog 12 #[.agg parentS.cells, .agg #[.string ⟨#[]⟩, .string ⟨#[112, 97, 121]⟩, .int .u64 0, .int .i64 l, .int .i64 life], .int .i64 40, .int .i64 9, .bool false] w _) := Lib.hid (fun w => raised_any parentS ⟨⟨#[]⟩, ⟨#[112, 97, 121]⟩, 0#64, l, life⟩ 40 9 false w)
  rw [hk] at HA HLE
  generalize raisedR parentS ⟨⟨#[]⟩, ⟨#[112, 97, 121]⟩, 0#64, l, life⟩ 40 9 false = SS at HA hz
  have HN := Lib.hid (fun w => num_k k HLE.out.1 HLE.out.2 w)
  generalize errK k = E at HA HN
  clear hk
  go_enter Tryd.func39, Tryd.ntmps39
  go_wp2_with (go_at_call 38; fail)
  refine (parent_any _).mono ?_
  rintro e W0 ⟨rfl, h0⟩
  have HB0 := Lib.hid h0
  clear h0
  go_wp2_with (go_at_call 12; fail)
  refine (HA.out _).mono ?_
  rintro e W1 ⟨rfl, h1⟩
  obtain ⟨V, hV⟩ : ∃ V, W1.alloc (.cells SS.cells 31) = V := ⟨_, rfl⟩
  have HB1 := Lib.hid (show Below w.heap.size w V from hV ▸ bel_alloc (HB0.out.trans (h1.mono HB0.out.size)) _)
  have hB : Blk V W1.heap.size 31 SS.cells := hV ▸ Blk.new W1 _ _
  have c0 := ((hB.cell 10).trans SS.c10)
  rw [hz] at c0
  have c1 := cell_regrown c0
  have HQ := Lib.hid (fun d os => Calls.regrown_of (HN.out (Go.Sort.grow (redrawn V d) os)))
  clear h1 hz hB
  go_wp2_with (first
    | ((with_reducible show wpList _ _ _ (Oper.mk _ (Op.store 31 _ _) _ _ _ _ :: _) _ (World.alloc _ _)); refine wpList_store_new (ty := 31) rfl rfl rfl rfl rfl (Sess.one _) sessInfo ?_))
  refine wp_region_quiet_below (by kernel_rfl) (by kernel_rfl) ?_
  repeat (first
    | go_big_quiet_skip
    | (go_big_quiet_want; go_big_quiet_op; first
      | go_big_quiet_on
      | go_big_quiet_call (with_reducible exact HQ.out _ _)))
  refine wpQuiet_nil ?_
  intro w2 hC2
  have HB2 := Lib.hid (HB1.out.trans ((below_class hC2).mono HB1.out.size))
  clear hC2 c0 c1
  go_wp2
  go_ret2
  exact ⟨rfl, HB2.out⟩
theorem kn_login : loginNo ⟨⟨#[97, 110, 110]⟩, ⟨#[]⟩, 5#64, 2, 1000⟩ 40 9 false = 0 := by
  unfold loginNo
  rw [show nameB (Req.user ⟨⟨#[97, 110, 110]⟩, ⟨#[]⟩, 5#64, 2, 1000⟩) = true from name_ann]
  decide
theorem kn_raised : raisedNo parentS ⟨⟨#[]⟩, ⟨#[112, 97, 121]⟩, 0#64, 2, 20⟩ 40 9 false = 0 := by
  unfold raisedNo
  rw [show nameB (Req.label ⟨⟨#[]⟩, ⟨#[112, 97, 121]⟩, 0#64, 2, 20⟩) = true from name_pay]
  decide
def deepS : Sess := { parentS with depth := 6 }
def overS : Sess := { parentS with deadline := 40 }
theorem kn_r1 : raisedNo parentS ⟨⟨#[]⟩, ⟨#[112, 97, 121]⟩, 0#64, 1, 20⟩ 40 9 false = 13 := by
  unfold raisedNo
  rw [show nameB (Req.label ⟨⟨#[]⟩, ⟨#[112, 97, 121]⟩, 0#64, 1, 20⟩) = true from name_pay]
  decide
theorem kn_r2 : raisedNo parentS ⟨⟨#[]⟩, ⟨#[112, 97, 121]⟩, 0#64, 2, 301⟩ 40 9 false = 12 := by
  unfold raisedNo
  rw [show nameB (Req.label ⟨⟨#[]⟩, ⟨#[112, 97, 121]⟩, 0#64, 2, 301⟩) = true from name_pay]
  decide
theorem kn_r3 : raisedNo parentS ⟨⟨#[]⟩, ⟨#[112, 97, 121]⟩, 0#64, 2, 300⟩ 40 9 false = 0 := by
  unfold raisedNo
  rw [show nameB (Req.label ⟨⟨#[]⟩, ⟨#[112, 97, 121]⟩, 0#64, 2, 300⟩) = true from name_pay]
  decide
theorem kn_c1 : childNo parentS ⟨⟨#[]⟩, ⟨#[116, 97, 98, 108, 101, 116]⟩, 8#64, 0, 9⟩ 40 9 false = 11 := by
  unfold childNo
  rw [show nameB (Req.label ⟨⟨#[]⟩, ⟨#[116, 97, 98, 108, 101, 116]⟩, 8#64, 0, 9⟩) = true from name_tablet]
  decide
theorem kn_c2 : childNo parentS ⟨⟨#[]⟩, ⟨#[116, 97, 98, 108, 101, 116]⟩, 5#64, 0, 0⟩ 40 9 false = 12 := by
  unfold childNo
  rw [show nameB (Req.label ⟨⟨#[]⟩, ⟨#[116, 97, 98, 108, 101, 116]⟩, 5#64, 0, 0⟩) = true from name_tablet]
  decide
theorem kn_c3 : childNo parentS ⟨⟨#[]⟩, ⟨#[]⟩, 5#64, 0, 9⟩ 40 9 false = 8 := by
  unfold childNo
  rw [show nameB (Req.label ⟨⟨#[]⟩, ⟨#[]⟩, 5#64, 0, 9⟩) = false from name_none]
  decide
theorem kn_c4 : childNo deepS ⟨⟨#[]⟩, ⟨#[116, 97, 98, 108, 101, 116]⟩, 5#64, 0, 9⟩ 40 9 false = 17 := by
  unfold childNo
  rw [show nameB (Req.label ⟨⟨#[]⟩, ⟨#[116, 97, 98, 108, 101, 116]⟩, 5#64, 0, 9⟩) = true from name_tablet]
  decide
theorem kn_c5 : childNo overS ⟨⟨#[]⟩, ⟨#[116, 97, 98, 108, 101, 116]⟩, 5#64, 0, 9⟩ 40 9 false = 12 := by
  unfold childNo
  rw [show nameB (Req.label ⟨⟨#[]⟩, ⟨#[116, 97, 98, 108, 101, 116]⟩, 5#64, 0, 9⟩) = true from name_tablet]
  decide
def logC : Array Value := #[.int .i64 0, .int .i64 10, .int .i64 0, .int .i64 0, .int .i64 0, .string ⟨#[97, 110, 110]⟩, .string ⟨#[]⟩, .int .u64 5, .int .i64 2, .int .i64 40, .int .i64 1040, .int .i64 0]
def raiC : Array Value := #[.int .i64 0, .int .i64 10, .int .i64 1, .int .i64 3, .int .i64 2, .string ⟨#[97, 110, 110]⟩, .string ⟨#[112, 97, 121]⟩, .int .u64 7, .int .i64 2, .int .i64 40, .int .i64 60, .int .i64 1]
theorem ksaid_login (w : World) : Calls Tryd.prog 7 #[.agg #[.string ⟨#[97, 110, 110]⟩, .string ⟨#[]⟩, .int .u64 5, .int .i64 2, .int .i64 1000], .int .i64 40, .int .i64 9, .bool false] w (RetB (.tuple #[.agg logC, .nilIface]) w) := by
  have h := login_any ⟨⟨#[97, 110, 110]⟩, ⟨#[]⟩, 5#64, 2, 1000⟩ 40 9 false w
  have e : loginR ⟨⟨#[97, 110, 110]⟩, ⟨#[]⟩, 5#64, 2, 1000⟩ 40 9 false = loginS ⟨⟨#[97, 110, 110]⟩, ⟨#[]⟩, 5#64, 2, 1000⟩ 40 9 := if_pos kn_login
  rw [kn_login, e, errK_zero] at h
  exact h
theorem ksaid_raised (w : World) : Calls Tryd.prog 12 #[.agg parentS.cells, .agg #[.string ⟨#[]⟩, .string ⟨#[112, 97, 121]⟩, .int .u64 0, .int .i64 2, .int .i64 20], .int .i64 40, .int .i64 9, .bool false] w (RetB (.tuple #[.agg raiC, .nilIface]) w) := by
  have h := raised_any parentS ⟨⟨#[]⟩, ⟨#[112, 97, 121]⟩, 0#64, 2, 20⟩ 40 9 false w
  have e : raisedR parentS ⟨⟨#[]⟩, ⟨#[112, 97, 121]⟩, 0#64, 2, 20⟩ 40 9 false = belowS parentS ⟨⟨#[]⟩, ⟨#[112, 97, 121]⟩, 0#64, 2, 20⟩ 40 9 2 7#64 2 := if_pos kn_raised
  rw [kn_raised, e, errK_zero] at h
  exact h
theorem kc1 (w : World) : Calls Tryd.prog 41 #[.agg parentS.cells, .string ⟨#[116, 97, 98, 108, 101, 116]⟩, .int .u64 8, .int .i64 9] w (RetB (.int .i64 11) w) := by
  have h := kchild_any parentS ⟨#[116, 97, 98, 108, 101, 116]⟩ 8#64 9 w
  rw [kn_c1] at h
  exact h
theorem kc2 (w : World) : Calls Tryd.prog 41 #[.agg parentS.cells, .string ⟨#[116, 97, 98, 108, 101, 116]⟩, .int .u64 5, .int .i64 0] w (RetB (.int .i64 12) w) := by
  have h := kchild_any parentS ⟨#[116, 97, 98, 108, 101, 116]⟩ 5#64 0 w
  rw [kn_c2] at h
  exact h
theorem kc3 (w : World) : Calls Tryd.prog 41 #[.agg parentS.cells, .string ⟨#[]⟩, .int .u64 5, .int .i64 9] w (RetB (.int .i64 8) w) := by
  have h := kchild_any parentS ⟨#[]⟩ 5#64 9 w
  rw [kn_c3] at h
  exact h
theorem kc4 (w : World) : Calls Tryd.prog 41 #[.agg deepS.cells, .string ⟨#[116, 97, 98, 108, 101, 116]⟩, .int .u64 5, .int .i64 9] w (RetB (.int .i64 17) w) := by
  have h := kchild_any deepS ⟨#[116, 97, 98, 108, 101, 116]⟩ 5#64 9 w
  rw [kn_c4] at h
  exact h
theorem kc5 (w : World) : Calls Tryd.prog 41 #[.agg overS.cells, .string ⟨#[116, 97, 98, 108, 101, 116]⟩, .int .u64 5, .int .i64 9] w (RetB (.int .i64 12) w) := by
  have h := kchild_any overS ⟨#[116, 97, 98, 108, 101, 116]⟩ 5#64 9 w
  rw [kn_c5] at h
  exact h
theorem kr1 (w : World) : Calls Tryd.prog 39 #[.int .i64 1, .int .i64 20] w (RetB (.tuple #[.int .i64 13, .int .i64 0]) w) := kraised_any 1 20 13 0 kn_r1 (by unfold raisedR; rw [if_neg (by rw [kn_r1]; decide)]; rfl) w
theorem kr2 (w : World) : Calls Tryd.prog 39 #[.int .i64 2, .int .i64 301] w (RetB (.tuple #[.int .i64 12, .int .i64 0]) w) := kraised_any 2 301 12 0 kn_r2 (by unfold raisedR; rw [if_neg (by rw [kn_r2]; decide)]; rfl) w
theorem kr3 (w : World) : Calls Tryd.prog 39 #[.int .i64 2, .int .i64 300] w (RetB (.tuple #[.int .i64 0, .int .i64 100]) w) := kraised_any 2 300 0 100 kn_r3 (by unfold raisedR; rw [if_pos kn_r3]; decide) w
theorem logC_one : ∀ u ∈ logC.toList, u.oneCell' = true := by intro u hu; simp [logC] at hu; rcases hu with rfl | rfl | rfl | rfl | rfl | rfl | rfl | rfl | rfl | rfl | rfl | rfl <;> rfl
theorem raiC_one : ∀ u ∈ raiC.toList, u.oneCell' = true := by intro u hu; simp [raiC] at hu; rcases hu with rfl | rfl | rfl | rfl | rfl | rfl | rfl | rfl | rfl | rfl | rfl | rfl <;> rfl
set_option maxHeartbeats 4000000 in
theorem knownSaid_any (w : World) : Calls Tryd.prog 14 #[] w (RetB (.bool true) w) := by
  have HUS := Lib.hid Tryd.underlying31
  go_enter Tryd.func14, Tryd.ntmps14
  go_wp2_with (first
    | (go_at_call 7; fail))
  refine (ksaid_login _).mono ?_
  rintro e w1 ⟨rfl, h1⟩
  have B1 := Lib.hid h1
  clear h1
  go_wp2_with (first
    | (go_at_call 38; fail)
    | ((with_reducible show wpList _ _ _ (Oper.mk _ (Op.store 31 _ _) _ _ _ _ :: _) _ (World.alloc _ _)); refine wpList_store_new (ty := 31) rfl rfl rfl rfl rfl (logC_one) sessInfo ?_))
  refine (parent_any _).mono ?_
  rintro e w2 ⟨rfl, h2⟩
  have B2 := Lib.hid ((bel_alloc B1.out (.cells logC 31)).trans (h2.mono (by have := B1.out.size; simp; omega)))
  have L2 := Lib.hid ((Blk.new w1 31 logC).below h2 (by simp))
  clear h2 B1
  go_wp2_with (first
    | (go_at_call 12; fail))
  refine (ksaid_raised _).mono ?_
  rintro e w3 ⟨rfl, h3⟩
  have B3 := Lib.hid (bel_alloc (B2.out.trans (h3.mono B2.out.size)) (.cells raiC 31))
  have L3 := Lib.hid ((L2.out.below h3 L2.out.lt).alloc (.cells raiC 31))
  have R3 := Lib.hid (Blk.new w3 31 raiC)
  clear h3 B2 L2
  obtain ⟨V3, hV3⟩ : ∃ V, w3.alloc (.cells raiC 31) = V := ⟨_, rfl⟩
  rw [hV3] at B3 L3 R3
  have heq1 : ∀ w, (binOp .neq 31 (.agg logC) (.agg #[.int .i64 0, .int .i64 10, .int .i64 0, .int .i64 0, .int .i64 0, .string ⟨#[97, 110, 110]⟩, .string ⟨#[]⟩, .int .u64 5, .int .i64 2, .int .i64 40, .int .i64 1040, .int .i64 0])).run Tryd.prog w = .ok (.bool false) w := fun w => (neq_sess ⟨0, 10, 0, 0, 0, ⟨#[97, 110, 110]⟩, ⟨#[]⟩, 5#64, 2, 40, 1040, 0⟩ ⟨0, 10, 0, 0, 0, ⟨#[97, 110, 110]⟩, ⟨#[]⟩, 5#64, 2, 40, 1040, 0⟩ w).trans (by rw [Sess.same_refl]; rfl)
  have heq2 : ∀ w, (binOp .neq 31 (.agg raiC) (.agg #[.int .i64 0, .int .i64 10, .int .i64 1, .int .i64 3, .int .i64 2, .string ⟨#[97, 110, 110]⟩, .string ⟨#[112, 97, 121]⟩, .int .u64 7, .int .i64 2, .int .i64 40, .int .i64 60, .int .i64 1])).run Tryd.prog w = .ok (.bool false) w := fun w => (neq_sess ⟨0, 10, 1, 3, 2, ⟨#[97, 110, 110]⟩, ⟨#[112, 97, 121]⟩, 7#64, 2, 40, 60, 1⟩ ⟨0, 10, 1, 3, 2, ⟨#[97, 110, 110]⟩, ⟨#[112, 97, 121]⟩, 7#64, 2, 40, 60, 1⟩ w).trans (by rw [Sess.same_refl]; rfl)
  go_wp2_with (first
    | (go_at_call 38; fail)
    | ((with_reducible show wpList _ _ _ (Oper.mk _ (Op.store 31 _ _) _ _ _ _ :: _) _ (World.alloc _ _)); refine wpList_store_new (ty := 31) rfl rfl rfl rfl rfl (raiC_one) sessInfo ?_)
    | ((with_reducible show wpList _ _ _ (Oper.mk _ (Op.load 31 (Operand.tmp 1)) _ _ _ _ :: _) _ V3); refine wpList_load_at (ty := 31) rfl rfl rfl L3.out.row HUS.out rfl sessInfo ?_)
    | ((with_reducible show wpList _ _ _ (Oper.mk _ (Op.load 31 (Operand.tmp 3)) _ _ _ _ :: _) _ V3); refine wpList_load_at (ty := 31) rfl rfl rfl R3.out.row HUS.out rfl sessInfo ?_))
  clear heq1 heq2 hV3 L3 R3
  refine (parent_any _).mono ?_
  rintro e w4 ⟨rfl, h4⟩
  obtain ⟨D4, hD4⟩ : ∃ V, w4.alloc (.cells (parentS.cells.setIfInBounds 11 (.int .i64 6)) 31) = V := ⟨_, rfl⟩
  have B4 := Lib.hid (show Below w.heap.size w D4 from hD4 ▸ bel_alloc (B3.out.trans (h4.mono B3.out.size)) _)
  have P4 := Lib.hid (show Blk D4 w4.heap.size 31 deepS.cells from hD4 ▸ Blk.new w4 _ _)
  clear h4 B3
  go_wp2_with (first
    | (go_at_call 38; fail)
    | ((with_reducible show wpList _ _ _ (Oper.mk _ (Op.store 31 _ _) _ _ _ _ :: _) _ (World.alloc _ _)); refine wpList_store_new (ty := 31) rfl rfl rfl rfl rfl (Sess.one parentS) sessInfo ?_))
  clear hD4
  refine (parent_any _).mono ?_
  rintro e w5 ⟨rfl, h5⟩
  obtain ⟨D5, hD5⟩ : ∃ V, w5.alloc (.cells (parentS.cells.setIfInBounds 10 (.int .i64 40)) 31) = V := ⟨_, rfl⟩
  have B5 := Lib.hid (show Below w.heap.size w D5 from hD5 ▸ bel_alloc (B4.out.trans (h5.mono B4.out.size)) _)
  have P5 := Lib.hid (show Blk D5 w4.heap.size 31 deepS.cells from hD5 ▸ (P4.out.below h5 P4.out.lt).alloc _)
  have Q5 := Lib.hid (show Blk D5 w5.heap.size 31 overS.cells from hD5 ▸ Blk.new w5 _ _)
  clear h5 B4 P4
  go_wp2_with (first
    | (go_at_call 39; fail)
    | ((with_reducible show wpList _ _ _ (Oper.mk _ (Op.store 31 _ _) _ _ _ _ :: _) _ (World.alloc _ _)); refine wpList_store_new (ty := 31) rfl rfl rfl rfl rfl (Sess.one parentS) sessInfo ?_))
  clear hD5
  refine (kr1 _).mono ?_
  rintro e w6 ⟨rfl, h⟩
  have B6 := Lib.hid (B5.out.trans (h.mono B5.out.size))
  have P6 := Lib.hid (P5.out.below h P5.out.lt)
  have Q6 := Lib.hid (Q5.out.below h Q5.out.lt)
  clear h B5 P5 Q5
  go_wp2_with (first
    | (go_at_call 39; fail))
  refine (kr2 _).mono ?_
  rintro e w7 ⟨rfl, h⟩
  have B7 := Lib.hid (B6.out.trans (h.mono B6.out.size))
  have P7 := Lib.hid (P6.out.below h P6.out.lt)
  have Q7 := Lib.hid (Q6.out.below h Q6.out.lt)
  clear h B6 P6 Q6
  go_wp2_with (first
    | (go_at_call 39; fail))
  refine (kr3 _).mono ?_
  rintro e w8 ⟨rfl, h⟩
  have B8 := Lib.hid (B7.out.trans (h.mono B7.out.size))
  have P8 := Lib.hid (P7.out.below h P7.out.lt)
  have Q8 := Lib.hid (Q7.out.below h Q7.out.lt)
  clear h B7 P7 Q7
  go_wp2_with (first
    | (go_at_call 40; fail))
  refine (works_any _).mono ?_
  rintro e w9 ⟨rfl, h⟩
  have B9 := Lib.hid (B8.out.trans (h.mono B8.out.size))
  have P9 := Lib.hid (P8.out.below h P8.out.lt)
  have Q9 := Lib.hid (Q8.out.below h Q8.out.lt)
  clear h B8 P8 Q8
  go_wp2_with (first
    | (go_at_call 38; fail))
  refine (parent_any _).mono ?_
  rintro e w10 ⟨rfl, h⟩
  have B10 := Lib.hid (B9.out.trans (h.mono B9.out.size))
  have P10 := Lib.hid (P9.out.below h P9.out.lt)
  have Q10 := Lib.hid (Q9.out.below h Q9.out.lt)
  clear h B9 P9 Q9
  go_wp2_with (first
    | (go_at_call 41; fail))
  refine (kc1 _).mono ?_
  rintro e w11 ⟨rfl, h⟩
  have B11 := Lib.hid (B10.out.trans (h.mono B10.out.size))
  have P11 := Lib.hid (P10.out.below h P10.out.lt)
  have Q11 := Lib.hid (Q10.out.below h Q10.out.lt)
  clear h B10 P10 Q10
  go_wp2_with (first
    | (go_at_call 38; fail))
  refine (parent_any _).mono ?_
  rintro e w12 ⟨rfl, h⟩
  have B12 := Lib.hid (B11.out.trans (h.mono B11.out.size))
  have P12 := Lib.hid (P11.out.below h P11.out.lt)
  have Q12 := Lib.hid (Q11.out.below h Q11.out.lt)
  clear h B11 P11 Q11
  go_wp2_with (first
    | (go_at_call 41; fail))
  refine (kc2 _).mono ?_
  rintro e w13 ⟨rfl, h⟩
  have B13 := Lib.hid (B12.out.trans (h.mono B12.out.size))
  have P13 := Lib.hid (P12.out.below h P12.out.lt)
  have Q13 := Lib.hid (Q12.out.below h Q12.out.lt)
  clear h B12 P12 Q12
  go_wp2_with (first
    | (go_at_call 38; fail))
  refine (parent_any _).mono ?_
  rintro e w14 ⟨rfl, h⟩
  have B14 := Lib.hid (B13.out.trans (h.mono B13.out.size))
  have P14 := Lib.hid (P13.out.below h P13.out.lt)
  have Q14 := Lib.hid (Q13.out.below h Q13.out.lt)
  clear h B13 P13 Q13
  go_wp2_with (first
    | (go_at_call 41; fail))
  refine (kc3 _).mono ?_
  rintro e w15 ⟨rfl, h⟩
  have B15 := Lib.hid (B14.out.trans (h.mono B14.out.size))
  have P15 := Lib.hid (P14.out.below h P14.out.lt)
  have Q15 := Lib.hid (Q14.out.below h Q14.out.lt)
  clear h B14 P14 Q14
  go_wp2_with (first
    | (go_at_call 41; fail)
    | ((with_reducible show wpList _ _ _ (Oper.mk _ (Op.load 31 (Operand.tmp 5)) _ _ _ _ :: _) _ w15); refine wpList_load_at (ty := 31) rfl rfl rfl P15.out.row HUS.out rfl sessInfo ?_))
  refine (kc4 _).mono ?_
  rintro e w16 ⟨rfl, h⟩
  have B16 := Lib.hid (B15.out.trans (h.mono B15.out.size))
  have P16 := Lib.hid (P15.out.below h P15.out.lt)
  have Q16 := Lib.hid (Q15.out.below h Q15.out.lt)
  clear h B15 P15 Q15
  go_wp2_with (first
    | (go_at_call 41; fail)
    | ((with_reducible show wpList _ _ _ (Oper.mk _ (Op.load 31 (Operand.tmp 6)) _ _ _ _ :: _) _ w16); refine wpList_load_at (ty := 31) rfl rfl rfl Q16.out.row HUS.out rfl sessInfo ?_))
  refine (kc5 _).mono ?_
  rintro e w17 ⟨rfl, h⟩
  have B17 := Lib.hid (B16.out.trans (h.mono B16.out.size))
  have P17 := Lib.hid (P16.out.below h P16.out.lt)
  have Q17 := Lib.hid (Q16.out.below h Q16.out.lt)
  clear h B16 P16 Q16
  go_wp2
  go_ret
  exact ⟨rfl, B17.out⟩
end Go.Proofs.YthoibafhbacfiaaDoor
