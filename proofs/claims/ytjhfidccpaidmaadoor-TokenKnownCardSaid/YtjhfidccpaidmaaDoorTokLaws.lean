/-
  lineagelaw08: works, right; the walks of TokenThere, TokenBack.
-/
import Derived.Test.YtjhfidccpaidmaaDoorParse
import Derived.Test.YtjhfidccpaidmaaDoorPick
import Derived.Test.YtjhfidccpaidmaaDoorQuietTail
namespace Go.Proofs.YtjhfidccpaidmaaDoor
set_option maxRecDepth 100000
open Go.RowKit

theorem text_first : (⟨(textL (tokT 0 1 0)).toArray⟩ : ByteArray) = ⟨#[116, 97, 97, 97, 97, 97, 97, 105, 97, 97, 97, 97, 97, 97, 97, 97, 97, 97, 97, 97, 97]⟩ := by decide +kernel
set_option maxHeartbeats 1000000 in
theorem works_any (w : World) : Calls Tryd.prog 25 #[] w (RetB (.bool true) w) := by
  have hp : ∀ w, Calls Tryd.prog 6 #[.agg #[.int .i64 0, .int .i64 1, .int .u64 0]] w (RetB (.tuple #[.string ⟨#[116, 97, 97, 97, 97, 97, 97, 105, 97, 97, 97, 97, 97, 97, 97, 97, 97, 97, 97, 97, 97]⟩, .nilIface]) w) := fun w => by
    have h := print_right 0 1 0#64 (by decide) (by decide) (by decide) w
    rw [show (0#64).toNat = 0 from rfl, text_first] at h
    exact h
  have HP := Lib.hid hp
  clear hp
  go_enter Tryd.func25, Tryd.ntmps25
  go_wp2_with (go_at_call 6; fail)
  refine (HP.out _).mono ?_
  rintro e w1 ⟨rfl, hb⟩
  go_wp2
  go_ret
  exact ⟨rfl, hb⟩
def rightT (t : Tok) : Tok := ⟨(pickN t.slot 32 : Nat), 1 + (pickN t.birth 1048576 : Nat), t.tag⟩
set_option maxHeartbeats 1000000 in
theorem right_any (t : Tok) (w : World) : Calls Tryd.prog 34 #[.agg t.cells] w (RetB (.agg (rightT t).cells) w) := by
  have p1 : ∀ w, Calls Tryd.prog 40 #[.int .i64 t.slot, .int .i64 32] w (RetSame (.int .i64 (pickN t.slot 32 : Nat)) w) := fun w => by
    have h := pick_any t.slot 32 (by decide) (by decide) w
    rw [pickN_eq t.slot 32 (by decide)] at h
    exact h
  have p2 : ∀ w, Calls Tryd.prog 40 #[.int .i64 t.birth, .int .i64 1048576] w (RetSame (.int .i64 (pickN t.birth 1048576 : Nat)) w) := fun w => by
    have h := pick_any t.birth 1048576 (by decide) (by decide) w
    rw [pickN_eq t.birth 1048576 (by decide)] at h
    exact h
  have HP1 := Lib.hid (quiet_same p1)
  have HP2 := Lib.hid (quiet_same p2)
  have l1 := pickN_lt t.slot 32 (by decide)
  have l2 := pickN_lt t.birth 1048576 (by decide)
  clear p1 p2
  go_enter Tryd.func34, Tryd.ntmps34
  go_wp2
  have HZ := Lib.hid ((Blk.new (w.alloc (.cells t.cells 24)) 24 #[.int .i64 0, .int .i64 0, .int .u64 0]))
  have hb0 := Lib.hid ((((Below.refl w.heap.size w).alloc (Nat.le_refl _) (.cells t.cells 24))).alloc (by simp) (.cells #[.int .i64 0, .int .i64 0, .int .u64 0] 24))
  have HT := Lib.hid ((Blk.new w 24 t.cells).alloc (.cells #[.int .i64 0, .int .i64 0, .int .u64 0] 24))
  have hs0 : ((w.alloc (.cells t.cells 24)).alloc (.cells #[.int .i64 0, .int .i64 0, .int .u64 0] 24)).heap.size = w.heap.size + 2 := by simp
  generalize ((w.alloc (.cells t.cells 24)).alloc (.cells #[.int .i64 0, .int .i64 0, .int .u64 0] 24)) = W at *
  rw [World.size_alloc] at HZ
  have c0 := cell_regrown ((HT.out.cell 0).trans t.cell0)
  have c1 := cell_regrown ((HT.out.cell 1).trans t.cell1)
  have c2 := cell_regrown ((HT.out.cell 2).trans t.cell2)
  refine wp_region_quiet_tail_below 10 (by kernel_rfl) (by kernel_rfl) ?_
  simp only [List.take_succ_cons, List.take_zero, List.drop_succ_cons, List.drop_zero]
  repeat (first
    | go_big_quiet_skip
    | (go_big_quiet_want; go_big_quiet_op; first
      | go_big_quiet_on
      | go_big_quiet_call (with_reducible exact HP1.out _ _ _)
      | go_big_quiet_call (with_reducible exact HP2.out _ _ _)))
  refine wpQuiet_nil ?_
  intro w2 hC2
  have hb2 := below_class hC2
  clear hC2 c0 c1 c2
  have HZ2 := Lib.hid (HZ.out.below hb2 (by omega))
  have hbel := hb0.out.trans (hb2.mono (by omega))
  clear hb2 HT HZ
  go_wp2_with (first
    | (refine wpList_store_all rfl rfl rfl rfl HZ2.out rfl (Tok.one (rightT t)) tokInfo ?_))
  refine bodyPost_ret (results_at rfl rfl (HZ2.out.setRow_same _).row rfl rfl tokInfo) rfl ⟨rfl, bel_setRow hbel (by omega) _⟩

/-! ### the statements -/
def textR (t : Tok) : ByteArray := ⟨(textL (tokT (pickN t.slot 32) (1 + pickN t.birth 1048576) t.tag.toNat)).toArray⟩
theorem textR_size (t : Tok) : (textR t).size = 21 := by simp [textR, ByteArray.size, textL_length]
theorem rightT_eq (t : Tok) : rightT t = ⟨((pickN t.slot 32 : Nat) : Int), ((1 + pickN t.birth 1048576 : Nat) : Int), t.tag⟩ := by simp [rightT]
theorem rightT_ok (t : Tok) : pickN t.slot 32 < 32 ∧ 1 ≤ 1 + pickN t.birth 1048576 ∧ 1 + pickN t.birth 1048576 ≤ 1048576 ∧ t.tag.toNat < 2 ^ 64 := by
  have l1 := pickN_lt t.slot 32 (by decide)
  have l2 := pickN_lt t.birth 1048576 (by decide)
  exact ⟨l1, by omega, by omega, t.tag.isLt⟩
theorem printR (t : Tok) (w : World) : Calls Tryd.prog 6 #[.agg (rightT t).cells] w (RetB (.tuple #[.string (textR t), .nilIface]) w) := by
  obtain ⟨h1, h2, h3, _⟩ := rightT_ok t
  rw [rightT_eq]
  exact print_right _ _ _ h1 h2 h3 w
theorem parseR (t : Tok) (w : World) : Calls Tryd.prog 9 #[.string (textR t)] w (RetB (.tuple #[.agg (rightT t).cells, .nilIface]) w) := by
  obtain ⟨h1, h2, h3, h4⟩ := rightT_ok t
  have h := parse_any (textR t) w
  have e : (textR t).data.toList = textL (tokT (pickN t.slot 32) (1 + pickN t.birth 1048576) t.tag.toNat) := by simp [textR]
  rw [e, parse_text h1 h2 h3 h4] at h
  rw [rightT_eq]
  simpa [parseV] using h
theorem beq_text (x y : ByteArray) : (x.toList == y.toList) = decide (x = y) := by
  rw [Bool.eq_iff_iff, beq_iff_eq, decide_eq_true_eq, ByteArray.toList_eq, ByteArray.toList_eq]
  constructor
  · intro h
    obtain ⟨⟨x⟩⟩ := x
    obtain ⟨⟨y⟩⟩ := y
    simpa using h
  · intro h; rw [h]
def Tok.same (s t : Tok) : Bool := s.slot == t.slot && (s.birth == t.birth && s.tag == t.tag)
theorem ite_ok_false {p : Prop} [Decidable p] (c : Bool) (w : World) : (if p then Result.ok (Value.bool c) w else Result.ok (Value.bool false) w) = Result.ok (Value.bool (decide p && c)) w := by split <;> simp_all
theorem eql_tok (s t : Tok) (w : World) : (binOp .eql 24 (.agg s.cells) (.agg t.cells)).run Tryd.prog w = .ok (.bool (s.same t)) w := by
  have e : (wd s.tag = wd t.tag) = (s.tag = t.tag) := propext ⟨wd_inj, fun h => by rw [h]⟩
  unfold Tok.cells
  simp [go_sem, ite_ok_false, Tok.same, Bool.beq_eq_decide_eq, e]
theorem Tok.same_iff (s t : Tok) : s.same t = true ↔ s = t := by
  obtain ⟨a, b, c⟩ := s
  obtain ⟨d, e, f⟩ := t
  simp [Tok.same]
theorem textR_inj (a b : Tok) : textR a = textR b ↔ rightT a = rightT b := by
  constructor
  · intro h
    obtain ⟨h1, h2, h3, h4⟩ := rightT_ok a
    obtain ⟨g1, g2, g3, g4⟩ := rightT_ok b
    have e : textL (tokT (pickN a.slot 32) (1 + pickN a.birth 1048576) a.tag.toNat) = textL (tokT (pickN b.slot 32) (1 + pickN b.birth 1048576) b.tag.toNat) := by
      have := congrArg (fun x : ByteArray => x.data.toList) h
      simpa [textR] using this
    obtain ⟨e1, e2, e3⟩ := text_inj h1 h2 h3 h4 g1 g2 g3 g4 e
    rw [rightT_eq, rightT_eq, e1, e2, BitVec.eq_of_toNat_eq e3]
  · intro h
    rw [rightT_eq, rightT_eq] at h
    simp only [Tok.mk.injEq, Int.natCast_inj] at h
    unfold textR
    rw [h.1, h.2.1, h.2.2]

set_option maxHeartbeats 1000000 in
theorem tokenThere_any (t : Tok) (w : World) : Calls Tryd.prog 26 #[.agg t.cells] w (RetB (.bool true) w) := by
  go_enter Tryd.func26, Tryd.ntmps26
  go_wp2_with (first
    | (refine wpList_load_at rfl rfl rfl (Blk.new w 24 t.cells).row rfl rfl tokInfo ?_)
    | (go_at_call 34; fail))
  refine (right_any t _).mono ?_
  rintro e w1 ⟨rfl, h1⟩
  have hs1 := h1.size
  rw [World.size_alloc] at hs1
  have hbel1 := ((Below.refl w.heap.size w).alloc (Nat.le_refl _) (.cells t.cells 24)).trans (h1.mono (by rw [World.size_alloc]; omega))
  have hb1 := Lib.hid (hbel1.alloc (by omega) (.cells (rightT t).cells 24))
  have HX1 := Lib.hid (Blk.new w1 24 (rightT t).cells)
  clear h1 hbel1
  go_wp2_with (first
    | (refine wpList_store_new rfl rfl rfl rfl rfl (Tok.one _) tokInfo ?_)
    | (refine wpList_load_at rfl rfl rfl HX1.out.row rfl rfl tokInfo ?_)
    | (go_at_call 6; fail))
  refine (printR t _).mono ?_
  rintro e w2 ⟨rfl, h2⟩
  have hs2 := h2.size
  rw [World.size_alloc] at hs2
  have hb2 := Lib.hid (hb1.out.trans (h2.mono (by rw [World.size_alloc]; omega)))
  have HX2 := Lib.hid (HX1.out.below h2 (by rw [World.size_alloc]; omega))
  clear h2 hb1 HX1
  go_wp2_with (first
    | (go_at_call 9; fail))
  refine (parseR t _).mono ?_
  rintro e w3 ⟨rfl, h3⟩
  have hs3 := h3.size
  have hb3 := Lib.hid ((hb2.out.trans (h3.mono (by omega))).alloc (by omega) (.cells (rightT t).cells 24))
  have HX3 := Lib.hid ((HX2.out.below h3 (by omega)).alloc (.cells (rightT t).cells 24))
  have HY3 := Lib.hid (Blk.new w3 24 (rightT t).cells)
  clear h3 hb2 HX2
  go_wp2_with (first
    | (refine wpList_store_new rfl rfl rfl rfl rfl (Tok.one _) tokInfo ?_)
    | (go_at_call 25; fail))
  refine (works_any _).mono ?_
  rintro e w4 ⟨rfl, h4⟩
  have hb4 := hb3.out.trans (h4.mono (by rw [World.size_alloc]; omega))
  have HX4 := Lib.hid (HX3.out.below h4 (by rw [World.size_alloc]; omega))
  have HY4 := Lib.hid (HY3.out.below h4 (by rw [World.size_alloc]; omega))
  have heq := fun a b w => eql_tok a b w
  have hsm : (rightT t).same (rightT t) = true := by rw [Tok.same_iff]
  have hsz := textR_size t
  clear h4 hb3 HX3 HY3 hs1 hs2 hs3
  go_wp2_with (first
    | (refine wpList_load_at rfl rfl rfl HX4.out.row rfl rfl tokInfo ?_)
    | (refine wpList_load_at rfl rfl rfl HY4.out.row rfl rfl tokInfo ?_))
  go_ret
  exact ⟨rfl, hb4⟩
set_option maxHeartbeats 1000000 in
theorem tokenBack_any (s : ByteArray) (w : World) : Calls Tryd.prog 27 #[.string s] w (RetB (.bool true) w) := by
  cases hp : parseL s.data.toList with
  | error k =>
    have hpa : ∀ w, Calls Tryd.prog 9 #[.string s] w (RetB (.tuple #[.agg Tok.zero.cells, .iface 39 (.int .i64 k)]) w) := fun w => by
      have h := parse_any s w
      rw [hp] at h
      exact h
    have HPA := Lib.hid hpa
    clear hp hpa
    go_enter Tryd.func27, Tryd.ntmps27
    go_wp2_with (first
      | (go_at_call 9; fail))
    refine (HPA.out _).mono ?_
    rintro e w1 ⟨rfl, h1⟩
    have hs1 := h1.size
    have hb1 := Lib.hid (h1.alloc (by omega) (.cells Tok.zero.cells 24))
    have HX1 := Lib.hid (Blk.new w1 24 Tok.zero.cells)
    clear h1
    go_wp2_with (first
      | (refine wpList_store_new rfl rfl rfl rfl rfl (Tok.one _) tokInfo ?_)
      | (go_at_call 25; fail))
    refine (works_any _).mono ?_
    rintro e w2 ⟨rfl, h2⟩
    have hb2 := hb1.out.trans (h2.mono (by rw [World.size_alloc]; omega))
    have HX2 := Lib.hid (HX1.out.below h2 (by rw [World.size_alloc]; omega))
    have heq := eql_tok Tok.zero Tok.zero
    have hsm : Tok.zero.same Tok.zero = true := by rw [Tok.same_iff]
    clear h2 hb1 HX1
    go_wp2_with (first
      | (refine wpList_load_at rfl rfl rfl HX2.out.row rfl rfl tokInfo ?_))
    go_ret
    exact ⟨rfl, hb2⟩
  | ok r =>
    obtain ⟨u, b, x⟩ := r
    obtain ⟨ht, h1, h2, h3, h4⟩ := text_parse hp
    have hpa : ∀ w, Calls Tryd.prog 9 #[.string s] w (RetB (.tuple #[.agg (Tok.mk u b (BitVec.ofNat 64 x)).cells, .nilIface]) w) := fun w => by
      have h := parse_any s w
      rw [hp] at h
      exact h
    have hpr : ∀ w, Calls Tryd.prog 6 #[.agg (Tok.mk u b (BitVec.ofNat 64 x)).cells] w (RetB (.tuple #[.string s, .nilIface]) w) := fun w => by
      have h := print_right u b (BitVec.ofNat 64 x) h1 h2 h3 w
      rw [BitVec.toNat_ofNat, Nat.mod_eq_of_lt h4, ht] at h
      exact h
    have HPA := Lib.hid hpa
    have HPR := Lib.hid hpr
    clear hp hpa hpr ht h1 h2 h3 h4
    go_enter Tryd.func27, Tryd.ntmps27
    go_wp2_with (first
      | (go_at_call 9; fail))
    refine (HPA.out _).mono ?_
    rintro e w1 ⟨rfl, h1⟩
    have hs1 := h1.size
    have hb1 := Lib.hid (h1.alloc (by omega) (.cells (Tok.mk u b (BitVec.ofNat 64 x)).cells 24))
    have HX1 := Lib.hid (Blk.new w1 24 (Tok.mk u b (BitVec.ofNat 64 x)).cells)
    clear h1
    go_wp2_with (first
      | (refine wpList_store_new rfl rfl rfl rfl rfl (Tok.one _) tokInfo ?_)
      | (refine wpList_load_at rfl rfl rfl HX1.out.row rfl rfl tokInfo ?_)
      | (go_at_call 6; fail))
    refine (HPR.out _).mono ?_
    rintro e w2 ⟨rfl, h2⟩
    have hs2 := h2.size
    rw [World.size_alloc] at hs2
    have hb2 := Lib.hid (hb1.out.trans (h2.mono (by rw [World.size_alloc]; omega)))
    clear h2 hb1 HX1
    go_wp2_with (first
      | (go_at_call 25; fail))
    refine (works_any _).mono ?_
    rintro e w3 ⟨rfl, h3⟩
    have hb3 := hb2.out.trans (h3.mono (by omega))
    clear h3 hb2
    go_wp2
    go_ret
    exact ⟨rfl, hb3⟩
end Go.Proofs.YtjhfidccpaidmaaDoor
