/-
  lineagelaw19.does: one act, on the garbage and as the document has it: both answer alike, and are alike behind it.
-/
import Derived.Test.YtbidgpeeogoglaaDoorGl
import Derived.Test.YtbidgpeeogoglaaDoorGm
import Derived.Test.YtbidgpeeogoglaaDoorGc
import Derived.Deep.RegionHeld3
namespace Go.Proofs.YtbidgpeeogoglaaDoor
set_option maxRecDepth 100000
open Go.RowKit Go.Sort

theorem errP_eql {no at_ : Int} (h : no ≠ 0) (w : World) : (binOp .eql 55 (errP no at_) .nilIface).run Tryd.prog w = .ok (.bool false) w := by
  unfold errP
  rw [if_neg h]
  split
  · unfold errno; kernel_rfl
  · unfold faultV; kernel_rfl
theorem errP_egrd {no at_ : Int} (h : no ≠ 0) (x y : Operand) (w : World) : (eqGuard .eql 55 x y (errP no at_) .nilIface).run Tryd.prog w = .ok () w := by
  unfold errP
  rw [if_neg h]
  split
  · unfold errno; kernel_rfl
  · unfold faultV; kernel_rfl
theorem gadd_no {S R : St} (hag : Agree S R) (l i : Int) : ((R.gadd l i).1.2 = -1 ∧ 0 ≤ (R.gadd l i).1.1 ∧ (R.gadd l i).1.1 ≤ 24) ∨ ((R.gadd l i).1.1 = 24 ∧ 0 ≤ (R.gadd l i).1.2 ∧ (R.gadd l i).1.2 < 32) := by
  have hp := (push_same hag l i).no
  unfold St.gadd
  split
  · exact .inl ⟨rfl, by dsimp only; omega, by dsimp only; omega⟩
  · split
    · exact .inl ⟨rfl, by dsimp only; omega, by dsimp only; omega⟩
    · split
      · exact .inl ⟨rfl, by dsimp only; omega, by dsimp only; omega⟩
      · exact hp
theorem pick_at (k : Int) (n c : Nat) (h0 : 0 < n) (h1 : n ≤ 1000000000) (h : pickZ k n = (c : Int)) (w : World) : Calls Tryd.prog 32 #[.int .i64 k, .int .i64 n] w (RetSame (.int .i64 (c : Int)) w) := by
  have h2 := pick_any k n h0 h1 w
  rwa [h] at h2
@[reducible] def actAt (B : Nat) (x : ActV) (W : World) : Prop := W.cell? ⟨B, 1, none⟩ = some (.int .i64 x.n) ∧ W.cell? ⟨B, 2, none⟩ = some (.bool x.s.used) ∧ W.cell? ⟨B, 3, none⟩ = some (.bool x.s.dead) ∧ W.cell? ⟨B, 4, none⟩ = some (.int .i64 x.s.kids) ∧ W.cell? ⟨B, 5, none⟩ = some (.int .i64 x.s.prev) ∧ W.cell? ⟨B, 6, none⟩ = some (.int .i64 x.s.next) ∧ W.cell? ⟨B, 7, none⟩ = some (.int .i64 x.s.slot) ∧ W.cell? ⟨B, 8, none⟩ = some (.int .i64 x.s.birth) ∧ W.cell? ⟨B, 9, none⟩ = some (.int .i64 x.s.upSlot) ∧ W.cell? ⟨B, 10, none⟩ = some (.int .i64 x.s.upBirth) ∧ W.cell? ⟨B, 11, none⟩ = some (.int .i64 x.s.kind) ∧ W.cell? ⟨B, 12, none⟩ = some (.string x.s.user) ∧ W.cell? ⟨B, 13, none⟩ = some (.string x.s.label) ∧ W.cell? ⟨B, 14, none⟩ = some (.int .u64 x.s.scopes) ∧ W.cell? ⟨B, 15, none⟩ = some (.int .i64 x.s.level) ∧ W.cell? ⟨B, 16, none⟩ = some (.int .i64 x.s.born) ∧ W.cell? ⟨B, 17, none⟩ = some (.int .i64 x.s.deadline) ∧ W.cell? ⟨B, 18, none⟩ = some (.int .i64 x.s.depth)
theorem actAt_row {B : Nat} {x : ActV} {W : World} (h : W.cell? ⟨B, 1, none⟩ = some (.int .i64 x.n)) (r : RowAt W B 2 x.s.cells) : actAt B x W :=
  ⟨h, r.at_ 0 _ rfl, r.at_ 1 _ rfl, r.at_ 2 _ rfl, r.at_ 3 _ rfl, r.at_ 4 _ rfl, r.at_ 5 _ rfl, r.at_ 6 _ rfl, r.at_ 7 _ rfl, r.at_ 8 _ rfl, r.at_ 9 _ rfl, r.at_ 10 _ rfl, r.at_ 11 _ rfl, r.at_ 12 _ rfl, r.at_ 13 _ rfl, r.at_ 14 _ rfl, r.at_ 15 _ rfl, r.at_ 16 _ rfl⟩
/-- What an act gives. -/
def Does19 (q g q2 lo h b : Nat) (S R : St) (l kind n : Int) (s : SlotV) (w : World) (e : Ending) (w' : World) : Prop :=
  e = .returned (.bool true) ∧ ∃ S', Gar w q g q2 lo h b S' (R.act19 l kind n s).1 (R.act19 l kind n s).2 (R.act19 l kind n s).2 w' ∧ Agree S' (R.act19 l kind n s).1 ∧ S.writes ≤ S'.writes ∧ S'.writes ≤ S.writes + 8
section
variable {S R : St} {q g q2 lo h b : Nat} {l : Int}
theorem all_congr {S T : St} (h : S.slots = T.slots) (x : Int) : S.all x = T.all x := by
  have hr : ∀ (n : Nat) (i : Int), S.run n i = T.run n i := by
    intro n
    induction n with
    | zero => intro i; rfl
    | succ n ih => intro i; unfold St.run; rw [lk_congr h, ih]
  unfold St.all
  rw [lk_congr h, hr]
theorem swIt_congr {S T : St} (h : S.slots = T.slots) (x : Int) : ∀ k, S.swIt x k = T.swIt x k
  | 0 => by unfold St.swIt; rw [all_congr h]
  | k + 1 => by
    unfold St.swIt St.swStep
    rw [swIt_congr h x k]
    split
    · rw [slotAt_congr h, all_congr h]
    · rfl
theorem swAll_congr {S T : St} (h : S.slots = T.slots) (x : Int) : S.swAll x = T.swAll x := swIt_congr h x 32
set_option maxHeartbeats 8000000 in
theorem does19_0 (x : ActV) (w : World) (t : Gar w q g q2 lo h b S R l l w) (hag : Agree S R) (hl : lastOk l) (hL : Laid w) (hge : 0 < g ∧ 0 < lo ∧ 0 < q ∧ 0 < q2) (hw0 : 0 ≤ S.writes) (hw1 : S.writes < 600000) (hr0 : 0 ≤ R.writes) (hr1 : R.writes < 600000) (hcK : pickZ x.kind 6 = ((0 : Nat) : Int)) :
    Calls Tryd.prog 36 #[.pointer (some ⟨g, 0, none⟩), .pointer (some ⟨q, 0, none⟩), .pointer (some ⟨q2, 0, none⟩), .agg x.cells] w (Does19 q g q2 lo h b S R l (pickZ x.kind 6) x.n x.s w) := by
  have hlt := t.lts
  have hlo := t.rf.los
  have HC := Lib.hid (fun w => pick_at x.kind 6 0 (by decide) (by decide) hcK w)
  rw [hcK]
  unfold Does19
  obtain ⟨w1, hw⟩ : ∃ w1, w.alloc (.cells x.cells 80) = w1 := ⟨_, rfl⟩
  have BX : Blk w1 w.heap.size 80 x.cells := by rw [← hw]; exact Blk.new _ _ _
  have hb1 : Below w.heap.size w w1 := by rw [← hw]; exact (Below.refl _ _).alloc (Nat.le_refl _) _
  have hs1 : w1.heap.size ≤ w.heap.size + 1 ∧ w.heap.size + 1 ≤ w1.heap.size := by rw [← hw]; simp
  have cx0 : w1.cell? ⟨w.heap.size, 0, none⟩ = some (.int .i64 x.kind) := (BX.cell 0).trans x.at0
  have cx1 : w1.cell? ⟨w.heap.size, 1, none⟩ = some (.int .i64 x.n) := (BX.cell 1).trans x.at1
  have cy0 : (w.alloc (.cells x.cells 80)).cell? ⟨w.heap.size, 0, none⟩ = some (.int .i64 x.kind) := ((Blk.new _ _ _).cell 0).trans x.at0
  have cy1 : (w.alloc (.cells x.cells 80)).cell? ⟨w.heap.size, 1, none⟩ = some (.int .i64 x.n) := ((Blk.new _ _ _).cell 1).trans x.at1
  have T1 := Lib.hid (show Gar w1 q g q2 lo h b S R l l w1 from (t.call hb1).here)
  have L1 := Lib.hid (hL.below hb1 hL.pos)
  have HB1 := Lib.hid hb1
  have HW := Lib.hid hw
  have hnew : w.heap.size ≠ q ∧ w.heap.size ≠ g ∧ w.heap.size ≠ q2 ∧ w.heap.size ≠ h ∧ w.heap.size ≠ b := by omega
  have hgne : 0 ≠ q ∧ 0 ≠ g ∧ 0 ≠ q2 ∧ 0 ≠ h ∧ 0 ≠ b := by omega
  have HNW := Lib.hid hnew
  have HGN := Lib.hid hgne
  have HCX1 := Lib.hid cx1
  have WR := Lib.hid (writes_st g w1 T1.out.ar)
  have hno := gadd_no hag l x.n
  have hact : R.act19 l ((0 : Nat) : Int) x.n x.s = (R.gadd l x.n).2 := by unfold St.act19; simp
  rw [hact]
  have RA := Lib.hid (rgadd_any (i := x.n) w1 w1 T1.out.rga)
  have GA := Lib.hid (fun W (a : Ga W q g S l W) => gAdd_any (i := x.n) hag W W a hw0 (by omega))
  generalize hR2 : R.gadd l x.n = r2 at *
  obtain ⟨⟨no, at_⟩, R2, l2⟩ := r2
  dsimp only at *
  clear hR2 hact t hag hw hb1 BX hL hcK hr0 hr1
  have HL := Lib.hid hl
  clear hl
  go_enter Tryd.func36, Tryd.ntmps36
  go_wp2_with (go_at_call 28; fail)
  rw [HW.out]
  refine WR.out.mono ?_
  rintro e w' ⟨rfl, rfl⟩
  go_wp2_with (go_at_call 32; fail)
  refine (HC.out _).mono ?_
  rintro e w' ⟨rfl, rfl⟩
  by_cases hz : no = 0
  · subst hz
    rw [if_pos rfl] at GA
    go_wp2_with (go_at_call 70; fail)
    refine RA.out.mono ?_
    rintro e w2 ⟨rfl, a2⟩
    have T2 := Lib.hid (T1.out.docs a2)
    have cx2 := T2.out.cell (by omega) HNW.out HCX1.out
    clear a2 RA cx0 cx1 cy0 cy1
    go_wp2_with (go_at_call 44; fail)
    refine (GA.out w2 T2.out.ga).mono ?_
    rintro e w3 ⟨rfl, S', a3, ag3, h30, h31⟩
    have T3 := Lib.hid (T2.out.codes a3)
    have WR3 := Lib.hid (writes_st g w3 T3.out.ar)
    have HT := Lib.hid (told19_any _ at_ hno w3 (T3.out.laid L1.out HGN.out))
    have AG3 := Lib.hid ag3
    have hwr : IntKind.i64.wrap (S'.writes - S.writes) = S'.writes - S.writes := IntWalk.i64_in _ (by omega)
    have h38 : S'.writes ≤ S.writes + 8 := by omega
    have HWW := Lib.hid (And.intro h30 h38)
    have FT := Lib.hid (fun W' (hb : Below w3.heap.size w3 W') => (T3.out.call hb).from HB1.out)
    have hle : S'.writes - S.writes ≤ 3 := by omega
    have hee : errP 0 at_ = .nilIface := rfl
    rw [hee]
    clear hee h30 h31
    clear a3 ag3 T2 GA cx2 hno h38
    go_wp2_with (go_at_call 28; fail)
    refine WR3.out.mono ?_
    rintro e w' ⟨rfl, rfl⟩
    go_wp2_with (go_at_call 45; fail)
    refine HT.out.mono ?_
    rintro e w4 ⟨rfl, hb4⟩
    have HB4 := Lib.hid hb4
    clear hb4
    go_wp2
    go_ret
    exact ⟨rfl, S', FT.out _ HB4.out, AG3.out, HWW.out⟩
  · have hq1 := fun w => errP_eql (at_ := at_) hz w
    have hq2 := fun x y w => errP_egrd (at_ := at_) hz x y w
    rw [if_neg hz] at GA
    go_wp2_with (go_at_call 70; fail)
    refine RA.out.mono ?_
    rintro e w2 ⟨rfl, a2⟩
    have T2 := Lib.hid (T1.out.docs a2)
    have cx2 := T2.out.cell (by omega) HNW.out HCX1.out
    clear a2 RA cx0 cx1 cy0 cy1
    go_wp2_with (go_at_call 44; fail)
    refine (GA.out w2 T2.out.ga).mono ?_
    rintro e w3 ⟨rfl, S', a3, ag3, h30, h31⟩
    have T3 := Lib.hid (T2.out.codes a3)
    have WR3 := Lib.hid (writes_st g w3 T3.out.ar)
    have HT := Lib.hid (told19_any _ at_ hno w3 (T3.out.laid L1.out HGN.out))
    have AG3 := Lib.hid ag3
    have hwr : IntKind.i64.wrap (S'.writes - S.writes) = S'.writes - S.writes := IntWalk.i64_in _ (by omega)
    have h38 : S'.writes ≤ S.writes + 8 := by omega
    have HWW := Lib.hid (And.intro h30 h38)
    have FT := Lib.hid (fun W' (hb : Below w3.heap.size w3 W') => (T3.out.call hb).from HB1.out)
    have hle : S'.writes - S.writes ≤ 3 := by omega
    have hle0 : S'.writes - S.writes = 0 := by omega
    generalize errP no at_ = ev at *
    clear h30 h31
    clear a3 ag3 T2 GA cx2 hno h38
    go_wp2_with (go_at_call 28; fail)
    refine WR3.out.mono ?_
    rintro e w' ⟨rfl, rfl⟩
    go_wp2_with (go_at_call 45; fail)
    refine HT.out.mono ?_
    rintro e w4 ⟨rfl, hb4⟩
    have HB4 := Lib.hid hb4
    clear hb4
    go_wp2
    go_ret
    exact ⟨rfl, S', FT.out _ HB4.out, AG3.out, HWW.out⟩
set_option maxHeartbeats 8000000 in
theorem does19_1 (x : ActV) (w : World) (t : Gar w q g q2 lo h b S R l l w) (hag : Agree S R) (hl : lastOk l) (hL : Laid w) (hge : 0 < g ∧ 0 < lo ∧ 0 < q ∧ 0 < q2) (hw0 : 0 ≤ S.writes) (hw1 : S.writes < 600000) (hr0 : 0 ≤ R.writes) (hr1 : R.writes < 600000) (hcK : pickZ x.kind 6 = ((1 : Nat) : Int)) :
    Calls Tryd.prog 36 #[.pointer (some ⟨g, 0, none⟩), .pointer (some ⟨q, 0, none⟩), .pointer (some ⟨q2, 0, none⟩), .agg x.cells] w (Does19 q g q2 lo h b S R l (pickZ x.kind 6) x.n x.s w) := by
  have hlt := t.lts
  have hlo := t.rf.los
  have HC := Lib.hid (fun w => pick_at x.kind 6 1 (by decide) (by decide) hcK w)
  rw [hcK]
  unfold Does19
  obtain ⟨w1, hw⟩ : ∃ w1, w.alloc (.cells x.cells 80) = w1 := ⟨_, rfl⟩
  have BX : Blk w1 w.heap.size 80 x.cells := by rw [← hw]; exact Blk.new _ _ _
  have hb1 : Below w.heap.size w w1 := by rw [← hw]; exact (Below.refl _ _).alloc (Nat.le_refl _) _
  have hs1 : w1.heap.size ≤ w.heap.size + 1 ∧ w.heap.size + 1 ≤ w1.heap.size := by rw [← hw]; simp
  have cx0 : w1.cell? ⟨w.heap.size, 0, none⟩ = some (.int .i64 x.kind) := (BX.cell 0).trans x.at0
  have cx1 : w1.cell? ⟨w.heap.size, 1, none⟩ = some (.int .i64 x.n) := (BX.cell 1).trans x.at1
  have cy0 : (w.alloc (.cells x.cells 80)).cell? ⟨w.heap.size, 0, none⟩ = some (.int .i64 x.kind) := ((Blk.new _ _ _).cell 0).trans x.at0
  have cy1 : (w.alloc (.cells x.cells 80)).cell? ⟨w.heap.size, 1, none⟩ = some (.int .i64 x.n) := ((Blk.new _ _ _).cell 1).trans x.at1
  have T1 := Lib.hid (show Gar w1 q g q2 lo h b S R l l w1 from (t.call hb1).here)
  have L1 := Lib.hid (hL.below hb1 hL.pos)
  have HB1 := Lib.hid hb1
  have HW := Lib.hid hw
  have hnew : w.heap.size ≠ q ∧ w.heap.size ≠ g ∧ w.heap.size ≠ q2 ∧ w.heap.size ≠ h ∧ w.heap.size ≠ b := by omega
  have hgne : 0 ≠ q ∧ 0 ≠ g ∧ 0 ≠ q2 ∧ 0 ≠ h ∧ 0 ≠ b := by omega
  have HNW := Lib.hid hnew
  have HGN := Lib.hid hgne
  have HCX1 := Lib.hid cx1
  have WR := Lib.hid (writes_st g w1 T1.out.ar)
  have hno := gadd_no hag l x.n
  have hact : R.act19 l ((1 : Nat) : Int) x.n x.s = (R.gadd l x.n).2 := by unfold St.act19; simp
  rw [hact]
  have RA := Lib.hid (rgadd_any (i := x.n) w1 w1 T1.out.rga)
  have GA := Lib.hid (fun W (a : Ga W q g S l W) => gAdd_any (i := x.n) hag W W a hw0 (by omega))
  generalize hR2 : R.gadd l x.n = r2 at *
  obtain ⟨⟨no, at_⟩, R2, l2⟩ := r2
  dsimp only at *
  clear hR2 hact t hag hw hb1 BX hL hcK hr0 hr1
  have HL := Lib.hid hl
  clear hl
  go_enter Tryd.func36, Tryd.ntmps36
  go_wp2_with (go_at_call 28; fail)
  rw [HW.out]
  refine WR.out.mono ?_
  rintro e w' ⟨rfl, rfl⟩
  go_wp2_with (go_at_call 32; fail)
  refine (HC.out _).mono ?_
  rintro e w' ⟨rfl, rfl⟩
  by_cases hz : no = 0
  · subst hz
    rw [if_pos rfl] at GA
    go_wp2_with (go_at_call 70; fail)
    refine RA.out.mono ?_
    rintro e w2 ⟨rfl, a2⟩
    have T2 := Lib.hid (T1.out.docs a2)
    have cx2 := T2.out.cell (by omega) HNW.out HCX1.out
    clear a2 RA cx0 cx1 cy0 cy1
    go_wp2_with (go_at_call 44; fail)
    refine (GA.out w2 T2.out.ga).mono ?_
    rintro e w3 ⟨rfl, S', a3, ag3, h30, h31⟩
    have T3 := Lib.hid (T2.out.codes a3)
    have WR3 := Lib.hid (writes_st g w3 T3.out.ar)
    have HT := Lib.hid (told19_any _ at_ hno w3 (T3.out.laid L1.out HGN.out))
    have AG3 := Lib.hid ag3
    have hwr : IntKind.i64.wrap (S'.writes - S.writes) = S'.writes - S.writes := IntWalk.i64_in _ (by omega)
    have h38 : S'.writes ≤ S.writes + 8 := by omega
    have HWW := Lib.hid (And.intro h30 h38)
    have FT := Lib.hid (fun W' (hb : Below w3.heap.size w3 W') => (T3.out.call hb).from HB1.out)
    have hle : S'.writes - S.writes ≤ 3 := by omega
    have hee : errP 0 at_ = .nilIface := rfl
    rw [hee]
    clear hee h30 h31
    clear a3 ag3 T2 GA cx2 hno h38
    go_wp2_with (go_at_call 28; fail)
    refine WR3.out.mono ?_
    rintro e w' ⟨rfl, rfl⟩
    go_wp2_with (go_at_call 45; fail)
    refine HT.out.mono ?_
    rintro e w4 ⟨rfl, hb4⟩
    have HB4 := Lib.hid hb4
    clear hb4
    go_wp2
    go_ret
    exact ⟨rfl, S', FT.out _ HB4.out, AG3.out, HWW.out⟩
  · have hq1 := fun w => errP_eql (at_ := at_) hz w
    have hq2 := fun x y w => errP_egrd (at_ := at_) hz x y w
    rw [if_neg hz] at GA
    go_wp2_with (go_at_call 70; fail)
    refine RA.out.mono ?_
    rintro e w2 ⟨rfl, a2⟩
    have T2 := Lib.hid (T1.out.docs a2)
    have cx2 := T2.out.cell (by omega) HNW.out HCX1.out
    clear a2 RA cx0 cx1 cy0 cy1
    go_wp2_with (go_at_call 44; fail)
    refine (GA.out w2 T2.out.ga).mono ?_
    rintro e w3 ⟨rfl, S', a3, ag3, h30, h31⟩
    have T3 := Lib.hid (T2.out.codes a3)
    have WR3 := Lib.hid (writes_st g w3 T3.out.ar)
    have HT := Lib.hid (told19_any _ at_ hno w3 (T3.out.laid L1.out HGN.out))
    have AG3 := Lib.hid ag3
    have hwr : IntKind.i64.wrap (S'.writes - S.writes) = S'.writes - S.writes := IntWalk.i64_in _ (by omega)
    have h38 : S'.writes ≤ S.writes + 8 := by omega
    have HWW := Lib.hid (And.intro h30 h38)
    have FT := Lib.hid (fun W' (hb : Below w3.heap.size w3 W') => (T3.out.call hb).from HB1.out)
    have hle : S'.writes - S.writes ≤ 3 := by omega
    have hle0 : S'.writes - S.writes = 0 := by omega
    generalize errP no at_ = ev at *
    clear h30 h31
    clear a3 ag3 T2 GA cx2 hno h38
    go_wp2_with (go_at_call 28; fail)
    refine WR3.out.mono ?_
    rintro e w' ⟨rfl, rfl⟩
    go_wp2_with (go_at_call 45; fail)
    refine HT.out.mono ?_
    rintro e w4 ⟨rfl, hb4⟩
    have HB4 := Lib.hid hb4
    clear hb4
    go_wp2
    go_ret
    exact ⟨rfl, S', FT.out _ HB4.out, AG3.out, HWW.out⟩
set_option maxHeartbeats 8000000 in
theorem does19_2 (x : ActV) (w : World) (t : Gar w q g q2 lo h b S R l l w) (hag : Agree S R) (hl : lastOk l) (hL : Laid w) (hge : 0 < g ∧ 0 < lo ∧ 0 < q ∧ 0 < q2) (hw0 : 0 ≤ S.writes) (hw1 : S.writes < 600000) (hr0 : 0 ≤ R.writes) (hr1 : R.writes < 600000) (hcK : pickZ x.kind 6 = ((2 : Nat) : Int)) :
    Calls Tryd.prog 36 #[.pointer (some ⟨g, 0, none⟩), .pointer (some ⟨q, 0, none⟩), .pointer (some ⟨q2, 0, none⟩), .agg x.cells] w (Does19 q g q2 lo h b S R l (pickZ x.kind 6) x.n x.s w) := by
  have hlt := t.lts
  have hlo := t.rf.los
  have HC := Lib.hid (fun w => pick_at x.kind 6 2 (by decide) (by decide) hcK w)
  rw [hcK]
  unfold Does19
  obtain ⟨w1, hw⟩ : ∃ w1, w.alloc (.cells x.cells 80) = w1 := ⟨_, rfl⟩
  have BX : Blk w1 w.heap.size 80 x.cells := by rw [← hw]; exact Blk.new _ _ _
  have hb1 : Below w.heap.size w w1 := by rw [← hw]; exact (Below.refl _ _).alloc (Nat.le_refl _) _
  have hs1 : w1.heap.size ≤ w.heap.size + 1 ∧ w.heap.size + 1 ≤ w1.heap.size := by rw [← hw]; simp
  have cx0 : w1.cell? ⟨w.heap.size, 0, none⟩ = some (.int .i64 x.kind) := (BX.cell 0).trans x.at0
  have cx1 : w1.cell? ⟨w.heap.size, 1, none⟩ = some (.int .i64 x.n) := (BX.cell 1).trans x.at1
  have cy0 : (w.alloc (.cells x.cells 80)).cell? ⟨w.heap.size, 0, none⟩ = some (.int .i64 x.kind) := ((Blk.new _ _ _).cell 0).trans x.at0
  have cy1 : (w.alloc (.cells x.cells 80)).cell? ⟨w.heap.size, 1, none⟩ = some (.int .i64 x.n) := ((Blk.new _ _ _).cell 1).trans x.at1
  have T1 := Lib.hid (show Gar w1 q g q2 lo h b S R l l w1 from (t.call hb1).here)
  have L1 := Lib.hid (hL.below hb1 hL.pos)
  have HB1 := Lib.hid hb1
  have HW := Lib.hid hw
  have hnew : w.heap.size ≠ q ∧ w.heap.size ≠ g ∧ w.heap.size ≠ q2 ∧ w.heap.size ≠ h ∧ w.heap.size ≠ b := by omega
  have hgne : 0 ≠ q ∧ 0 ≠ g ∧ 0 ≠ q2 ∧ 0 ≠ h ∧ 0 ≠ b := by omega
  have HNW := Lib.hid hnew
  have HGN := Lib.hid hgne
  have HCX1 := Lib.hid cx1
  have WR := Lib.hid (writes_st g w1 T1.out.ar)
  have hact : R.act19 l ((2 : Nat) : Int) x.n x.s = (R.gunit l).2 := by unfold St.act19; simp
  rw [hact]
  have RA := Lib.hid (rgunit_any w1 w1 T1.out.rga hl (T1.out.free_len hag) T1.out.lo_le hr0 (by omega))
  have GA := Lib.hid (fun W (a : Ga W q g S l W) => gUnit_any hag W W a hw0 (by omega))
  generalize hR2 : R.gunit l = r2 at *
  obtain ⟨⟨no, ok⟩, R2, l2⟩ := r2
  dsimp only at *
  clear hR2 hact t hag hw hb1 BX hL hcK hr0 hr1 hl
  go_enter Tryd.func36, Tryd.ntmps36
  go_wp2_with (go_at_call 28; fail)
  rw [HW.out]
  refine WR.out.mono ?_
  rintro e w' ⟨rfl, rfl⟩
  go_wp2_with (go_at_call 32; fail)
  refine (HC.out _).mono ?_
  rintro e w' ⟨rfl, rfl⟩
  go_wp2_with (go_at_call 71; fail)
  refine RA.out.mono ?_
  rintro e w2 ⟨rfl, a2⟩
  have T2 := Lib.hid (T1.out.docs a2)
  clear a2 RA cx0 cx1 cy0 cy1
  go_wp2_with (go_at_call 43; fail)
  refine (GA.out w2 T2.out.ga).mono ?_
  rintro e w3 ⟨rfl, S', a3, ag3, h30, h38⟩
  have T3 := Lib.hid (T2.out.codes a3)
  have WR3 := Lib.hid (writes_st g w3 T3.out.ar)
  have AG3 := Lib.hid ag3
  have hwr : IntKind.i64.wrap (S'.writes - S.writes) = S'.writes - S.writes := IntWalk.i64_in _ (by omega)
  have HWW := Lib.hid (And.intro h30 h38)
  have FT := Lib.hid (fun W' (hb : Below w3.heap.size w3 W') => (T3.out.call hb).from HB1.out)
  have hle : S'.writes - S.writes ≤ 8 := by omega
  have hbb : (ok == ok) = true := by simp
  clear a3 ag3 T2 GA h30 h38
  go_wp2_with (go_at_call 28; fail)
  refine WR3.out.mono ?_
  rintro e w' ⟨rfl, rfl⟩
  go_wp2
  go_ret
  exact ⟨rfl, S', FT.out _ (Below.refl _ _), AG3.out, HWW.out⟩
set_option maxHeartbeats 8000000 in
theorem does19_3 (x : ActV) (w : World) (t : Gar w q g q2 lo h b S R l l w) (hag : Agree S R) (hl : lastOk l) (hL : Laid w) (hge : 0 < g ∧ 0 < lo ∧ 0 < q ∧ 0 < q2) (hw0 : 0 ≤ S.writes) (hw1 : S.writes < 600000) (hr0 : 0 ≤ R.writes) (hr1 : R.writes < 600000) (hcK : pickZ x.kind 6 = ((3 : Nat) : Int)) :
    Calls Tryd.prog 36 #[.pointer (some ⟨g, 0, none⟩), .pointer (some ⟨q, 0, none⟩), .pointer (some ⟨q2, 0, none⟩), .agg x.cells] w (Does19 q g q2 lo h b S R l (pickZ x.kind 6) x.n x.s w) := by
  have hlt := t.lts
  have hlo := t.rf.los
  have HC := Lib.hid (fun w => pick_at x.kind 6 3 (by decide) (by decide) hcK w)
  rw [hcK]
  unfold Does19
  obtain ⟨w1, hw⟩ : ∃ w1, w.alloc (.cells x.cells 80) = w1 := ⟨_, rfl⟩
  have BX : Blk w1 w.heap.size 80 x.cells := by rw [← hw]; exact Blk.new _ _ _
  have hb1 : Below w.heap.size w w1 := by rw [← hw]; exact (Below.refl _ _).alloc (Nat.le_refl _) _
  have hs1 : w1.heap.size ≤ w.heap.size + 1 ∧ w.heap.size + 1 ≤ w1.heap.size := by rw [← hw]; simp
  have cx0 : w1.cell? ⟨w.heap.size, 0, none⟩ = some (.int .i64 x.kind) := (BX.cell 0).trans x.at0
  have cx1 : w1.cell? ⟨w.heap.size, 1, none⟩ = some (.int .i64 x.n) := (BX.cell 1).trans x.at1
  have cy0 : (w.alloc (.cells x.cells 80)).cell? ⟨w.heap.size, 0, none⟩ = some (.int .i64 x.kind) := ((Blk.new _ _ _).cell 0).trans x.at0
  have cy1 : (w.alloc (.cells x.cells 80)).cell? ⟨w.heap.size, 1, none⟩ = some (.int .i64 x.n) := ((Blk.new _ _ _).cell 1).trans x.at1
  have T1 := Lib.hid (show Gar w1 q g q2 lo h b S R l l w1 from (t.call hb1).here)
  have L1 := Lib.hid (hL.below hb1 hL.pos)
  have HB1 := Lib.hid hb1
  have HW := Lib.hid hw
  have hnew : w.heap.size ≠ q ∧ w.heap.size ≠ g ∧ w.heap.size ≠ q2 ∧ w.heap.size ≠ h ∧ w.heap.size ≠ b := by omega
  have hgne : 0 ≠ q ∧ 0 ≠ g ∧ 0 ≠ q2 ∧ 0 ≠ h ∧ 0 ≠ b := by omega
  have HNW := Lib.hid hnew
  have HGN := Lib.hid hgne
  have HCX1 := Lib.hid cx1
  have WR := Lib.hid (writes_st g w1 T1.out.ar)
  have hact : R.act19 l ((3 : Nat) : Int) x.n x.s = (R.gunit l).2 := by unfold St.act19; simp
  rw [hact]
  have RA := Lib.hid (rgunit_any w1 w1 T1.out.rga hl (T1.out.free_len hag) T1.out.lo_le hr0 (by omega))
  have GA := Lib.hid (fun W (a : Ga W q g S l W) => gUnit_any hag W W a hw0 (by omega))
  generalize hR2 : R.gunit l = r2 at *
  obtain ⟨⟨no, ok⟩, R2, l2⟩ := r2
  dsimp only at *
  clear hR2 hact t hag hw hb1 BX hL hcK hr0 hr1 hl
  go_enter Tryd.func36, Tryd.ntmps36
  go_wp2_with (go_at_call 28; fail)
  rw [HW.out]
  refine WR.out.mono ?_
  rintro e w' ⟨rfl, rfl⟩
  go_wp2_with (go_at_call 32; fail)
  refine (HC.out _).mono ?_
  rintro e w' ⟨rfl, rfl⟩
  go_wp2_with (go_at_call 71; fail)
  refine RA.out.mono ?_
  rintro e w2 ⟨rfl, a2⟩
  have T2 := Lib.hid (T1.out.docs a2)
  clear a2 RA cx0 cx1 cy0 cy1
  go_wp2_with (go_at_call 43; fail)
  refine (GA.out w2 T2.out.ga).mono ?_
  rintro e w3 ⟨rfl, S', a3, ag3, h30, h38⟩
  have T3 := Lib.hid (T2.out.codes a3)
  have WR3 := Lib.hid (writes_st g w3 T3.out.ar)
  have AG3 := Lib.hid ag3
  have hwr : IntKind.i64.wrap (S'.writes - S.writes) = S'.writes - S.writes := IntWalk.i64_in _ (by omega)
  have HWW := Lib.hid (And.intro h30 h38)
  have FT := Lib.hid (fun W' (hb : Below w3.heap.size w3 W') => (T3.out.call hb).from HB1.out)
  have hle : S'.writes - S.writes ≤ 8 := by omega
  have hbb : (ok == ok) = true := by simp
  clear a3 ag3 T2 GA h30 h38
  go_wp2_with (go_at_call 28; fail)
  refine WR3.out.mono ?_
  rintro e w' ⟨rfl, rfl⟩
  go_wp2
  go_ret
  exact ⟨rfl, S', FT.out _ (Below.refl _ _), AG3.out, HWW.out⟩
set_option maxHeartbeats 8000000 in
theorem does19_4 (x : ActV) (w : World) (t : Gar w q g q2 lo h b S R l l w) (hag : Agree S R) (hl : lastOk l) (hL : Laid w) (hge : 0 < g ∧ 0 < lo ∧ 0 < q ∧ 0 < q2) (hw0 : 0 ≤ S.writes) (hw1 : S.writes < 600000) (hr0 : 0 ≤ R.writes) (hr1 : R.writes < 600000) (hcK : pickZ x.kind 6 = ((4 : Nat) : Int)) :
    Calls Tryd.prog 36 #[.pointer (some ⟨g, 0, none⟩), .pointer (some ⟨q, 0, none⟩), .pointer (some ⟨q2, 0, none⟩), .agg x.cells] w (Does19 q g q2 lo h b S R l (pickZ x.kind 6) x.n x.s w) := by
  have hlt := t.lts
  have hlo := t.rf.los
  have HC := Lib.hid (fun w => pick_at x.kind 6 4 (by decide) (by decide) hcK w)
  rw [hcK]
  unfold Does19
  obtain ⟨w1, hw⟩ : ∃ w1, w.alloc (.cells x.cells 80) = w1 := ⟨_, rfl⟩
  have BX : Blk w1 w.heap.size 80 x.cells := by rw [← hw]; exact Blk.new _ _ _
  have hb1 : Below w.heap.size w w1 := by rw [← hw]; exact (Below.refl _ _).alloc (Nat.le_refl _) _
  have hs1 : w1.heap.size ≤ w.heap.size + 1 ∧ w.heap.size + 1 ≤ w1.heap.size := by rw [← hw]; simp
  have cx0 : w1.cell? ⟨w.heap.size, 0, none⟩ = some (.int .i64 x.kind) := (BX.cell 0).trans x.at0
  have cx1 : w1.cell? ⟨w.heap.size, 1, none⟩ = some (.int .i64 x.n) := (BX.cell 1).trans x.at1
  have cy0 : (w.alloc (.cells x.cells 80)).cell? ⟨w.heap.size, 0, none⟩ = some (.int .i64 x.kind) := ((Blk.new _ _ _).cell 0).trans x.at0
  have cy1 : (w.alloc (.cells x.cells 80)).cell? ⟨w.heap.size, 1, none⟩ = some (.int .i64 x.n) := ((Blk.new _ _ _).cell 1).trans x.at1
  have T1 := Lib.hid (show Gar w1 q g q2 lo h b S R l l w1 from (t.call hb1).here)
  have L1 := Lib.hid (hL.below hb1 hL.pos)
  have HB1 := Lib.hid hb1
  have HW := Lib.hid hw
  have hnew : w.heap.size ≠ q ∧ w.heap.size ≠ g ∧ w.heap.size ≠ q2 ∧ w.heap.size ≠ h ∧ w.heap.size ≠ b := by omega
  have hgne : 0 ≠ q ∧ 0 ≠ g ∧ 0 ≠ q2 ∧ 0 ≠ h ∧ 0 ≠ b := by omega
  have HNW := Lib.hid hnew
  have HGN := Lib.hid hgne
  have HCX1 := Lib.hid cx1
  have WR := Lib.hid (writes_st g w1 T1.out.ar)
  have hact : R.act19 l ((4 : Nat) : Int) x.n x.s = (R.putZ x.n x.s, l) := by unfold St.act19; simp
  rw [hact]
  have hpw := putZ_writes S x.n x.s
  have PA := Lib.hid (fun (R' : St) W (t : Gar w1 q g q2 lo h b S R' l l W) => (putA x.n x.s W t.ar hw0 (by omega)).mono fun e W' ⟨h1, h2, h3⟩ => show e = Ending.returned (errOf (putNo x.n)) ∧ Gar w1 q g q2 lo h b (S.putZ x.n x.s) R' l l W' from ⟨h1, Both.code t (by decide) (Tn.ofGrown h3 (.inr rfl)) (t.cb.grown h3 (fun e => by have := t.ap.qs.1; cases e; omega)) h2⟩)
  have PR := Lib.hid (fun (S' : St) W (t : Gar w1 q g q2 lo h b S' R l l W) => (putR x.n x.s W t.rf hr0 (by omega)).mono fun e W' ⟨h1, h2, h3⟩ => show e = Ending.returned (.int .i64 (putNo x.n)) ∧ Gar w1 q g q2 lo h b S' (R.putZ x.n x.s) l l W' from ⟨h1, Both.doc t (h3.mono fun k hk => .inr hk) ⟨(h3.block q2 t.rb.lt (by have := t.ap.q2s; omega)).trans t.rb.eq⟩ h2⟩)
  have HRX := Lib.hid (x.row BX)
  have KS := Lib.hid (fun (S' R' : St) W (t : Gar w1 q g q2 lo h b S' R' l l W) => show actAt w.heap.size x W from actAt_row (t.cell (by omega) HNW.out HCX1.out) (t.row (by omega) HNW.out HRX.out))
  have hnn := (no_ok S x.n).1
  have PP := Lib.hid (fun (S' R' : St) W (t : Gar w1 q g q2 lo h b S' R' l l W) => (plain_same (putNo x.n) hnn.1 hnn.2 W (t.laid L1.out HGN.out)).mono fun e W' ⟨h1, h2⟩ => show e = Ending.returned (.bool true) ∧ Gar w1 q g q2 lo h b S' R' l l W' from ⟨h1, t.call h2⟩)
  have FIN := Lib.hid (fun W (t : Gar w1 q g q2 lo h b (S.putZ x.n x.s) (R.putZ x.n x.s) l l W) => show Gar w q g q2 lo h b (S.putZ x.n x.s) (R.putZ x.n x.s) l l W from t.from HB1.out)
  have AG3 := Lib.hid (hag.putZ x.n x.s)
  have HWW := Lib.hid (show S.writes ≤ (S.putZ x.n x.s).writes ∧ (S.putZ x.n x.s).writes ≤ S.writes + 8 from ⟨hpw.1, by omega⟩)
  have TD := Lib.hid (show Gar w1 q g q2 lo h b S R l l w1.drew from T1.out.call (Below.refl _ _).drew)
  have HRC := Lib.hid (fun (S' R' : St) W (t : Gar w1 q g q2 lo h b S' R' l l W) => show W.cell? ⟨q2, 0, none⟩ = some (.pointer (some ⟨h, 0, none⟩)) from (t.rb.cell 0).trans rfl)
  obtain ⟨ek, hek⟩ : ∃ ek, errOf (putNo x.n) = ek := ⟨_, rfl⟩
  rw [hek] at PA PP
  clear hek hact t hag hw hb1 BX hL hcK hr0 hr1 hl hpw hnn
  go_enter Tryd.func36, Tryd.ntmps36
  go_wp2_with (go_at_call 28; fail)
  rw [HW.out]
  refine WR.out.mono ?_
  rintro e w' ⟨rfl, rfl⟩
  go_wp2_with (go_at_call 32; fail)
  refine (HC.out _).mono ?_
  rintro e w' ⟨rfl, rfl⟩
  clear cx0 cx1 cy0 cy1
  go_upto_region 15 with fail
  refine wp_region_noPanic ?_
  have td := TD.out
  have kd := KS.out _ _ _ td
  have rd := HRC.out _ _ _ td
  go_region_held3 (fun W' => W'.cell? ⟨q2, 0, none⟩ = some (.pointer (some ⟨h, 0, none⟩)) ∧ W'.cell? ⟨w.heap.size, 1, none⟩ = some (.int .i64 x.n) ∧ W'.cell? ⟨w.heap.size, 2, none⟩ = some (.bool x.s.used) ∧ W'.cell? ⟨w.heap.size, 3, none⟩ = some (.bool x.s.dead) ∧ W'.cell? ⟨w.heap.size, 4, none⟩ = some (.int .i64 x.s.kids) ∧ W'.cell? ⟨w.heap.size, 5, none⟩ = some (.int .i64 x.s.prev) ∧ W'.cell? ⟨w.heap.size, 6, none⟩ = some (.int .i64 x.s.next) ∧ W'.cell? ⟨w.heap.size, 7, none⟩ = some (.int .i64 x.s.slot) ∧ W'.cell? ⟨w.heap.size, 8, none⟩ = some (.int .i64 x.s.birth) ∧ W'.cell? ⟨w.heap.size, 9, none⟩ = some (.int .i64 x.s.upSlot) ∧ W'.cell? ⟨w.heap.size, 10, none⟩ = some (.int .i64 x.s.upBirth) ∧ W'.cell? ⟨w.heap.size, 11, none⟩ = some (.int .i64 x.s.kind) ∧ W'.cell? ⟨w.heap.size, 12, none⟩ = some (.string x.s.user) ∧ W'.cell? ⟨w.heap.size, 13, none⟩ = some (.string x.s.label) ∧ W'.cell? ⟨w.heap.size, 14, none⟩ = some (.int .u64 x.s.scopes) ∧ W'.cell? ⟨w.heap.size, 15, none⟩ = some (.int .i64 x.s.level) ∧ W'.cell? ⟨w.heap.size, 16, none⟩ = some (.int .i64 x.s.born) ∧ W'.cell? ⟨w.heap.size, 17, none⟩ = some (.int .i64 x.s.deadline) ∧ W'.cell? ⟨w.heap.size, 18, none⟩ = some (.int .i64 x.s.depth))
    (first | exact And.intro rd kd | exact And.intro (HRC.out _ _ _ hA) (KS.out _ _ _ hA) | exact And.intro (HRC.out _ _ _ hB) (KS.out _ _ _ hB) | exact And.intro (HRC.out _ _ _ hC) (KS.out _ _ _ hC))
    (first
      | (go_at_call 51; refine (PA.out _ _ (by assumption)).mono ?_; rintro e wA ⟨rfl, hA⟩)
      | (go_at_call 52; refine (PR.out _ _ (by assumption)).mono ?_; rintro e wB ⟨rfl, hB⟩)
      | (go_at_call 35; refine (PP.out _ _ _ (by assumption)).mono ?_; rintro e wC ⟨rfl, hC⟩))
  all_goals refine NoPanic.normal ?_
  all_goals go_wp2
  all_goals go_ret
  all_goals exact ⟨rfl, _, FIN.out _ hC, AG3.out, HWW.out⟩
set_option maxHeartbeats 8000000 in
theorem does19_5 (x : ActV) (w : World) (t : Gar w q g q2 lo h b S R l l w) (hag : Agree S R) (hl : lastOk l) (hL : Laid w) (hge : 0 < g ∧ 0 < lo ∧ 0 < q ∧ 0 < q2) (hw0 : 0 ≤ S.writes) (hw1 : S.writes < 600000) (hr0 : 0 ≤ R.writes) (hr1 : R.writes < 600000) (hcK : pickZ x.kind 6 = ((5 : Nat) : Int)) :
    Calls Tryd.prog 36 #[.pointer (some ⟨g, 0, none⟩), .pointer (some ⟨q, 0, none⟩), .pointer (some ⟨q2, 0, none⟩), .agg x.cells] w (Does19 q g q2 lo h b S R l (pickZ x.kind 6) x.n x.s w) := by
  have hlt := t.lts
  have hlo := t.rf.los
  have HC := Lib.hid (fun w => pick_at x.kind 6 5 (by decide) (by decide) hcK w)
  rw [hcK]
  unfold Does19
  obtain ⟨w1, hw⟩ : ∃ w1, w.alloc (.cells x.cells 80) = w1 := ⟨_, rfl⟩
  have BX : Blk w1 w.heap.size 80 x.cells := by rw [← hw]; exact Blk.new _ _ _
  have hb1 : Below w.heap.size w w1 := by rw [← hw]; exact (Below.refl _ _).alloc (Nat.le_refl _) _
  have hs1 : w1.heap.size ≤ w.heap.size + 1 ∧ w.heap.size + 1 ≤ w1.heap.size := by rw [← hw]; simp
  have cx0 : w1.cell? ⟨w.heap.size, 0, none⟩ = some (.int .i64 x.kind) := (BX.cell 0).trans x.at0
  have cx1 : w1.cell? ⟨w.heap.size, 1, none⟩ = some (.int .i64 x.n) := (BX.cell 1).trans x.at1
  have cy0 : (w.alloc (.cells x.cells 80)).cell? ⟨w.heap.size, 0, none⟩ = some (.int .i64 x.kind) := ((Blk.new _ _ _).cell 0).trans x.at0
  have cy1 : (w.alloc (.cells x.cells 80)).cell? ⟨w.heap.size, 1, none⟩ = some (.int .i64 x.n) := ((Blk.new _ _ _).cell 1).trans x.at1
  have T1 := Lib.hid (show Gar w1 q g q2 lo h b S R l l w1 from (t.call hb1).here)
  have L1 := Lib.hid (hL.below hb1 hL.pos)
  have HB1 := Lib.hid hb1
  have HW := Lib.hid hw
  have hnew : w.heap.size ≠ q ∧ w.heap.size ≠ g ∧ w.heap.size ≠ q2 ∧ w.heap.size ≠ h ∧ w.heap.size ≠ b := by omega
  have hgne : 0 ≠ q ∧ 0 ≠ g ∧ 0 ≠ q2 ∧ 0 ≠ h ∧ 0 ≠ b := by omega
  have HNW := Lib.hid hnew
  have HGN := Lib.hid hgne
  have HCX1 := Lib.hid cx1
  have WR := Lib.hid (writes_st g w1 T1.out.ar)
  have hact : R.act19 l ((5 : Nat) : Int) x.n x.s = (R, l) := by unfold St.act19; simp
  rw [hact]
  have hsw : S.swAll l = R.swAll l := swAll_congr hag.slots l
  have SA := Lib.hid (fun W (a : Ga W q g S l W) => sall_any W a)
  rw [hsw] at SA
  have RA := Lib.hid (fun W (a : RGa W q2 lo h b R l W) => rswAll_any W W a)
  have HLN := Lib.hid (show (R.swAll l).length ≤ 32 from swIt_len R l 32)
  have AG3 := Lib.hid hag
  have FT := Lib.hid (fun W' (t : Gar w1 q g q2 lo h b S R l l W') => t.from HB1.out)
  generalize R.swAll l = xs at *
  clear hsw hact t hag hw hb1 BX hL hcK hr0 hr1 hl
  go_enter Tryd.func36, Tryd.ntmps36
  go_wp2_with (go_at_call 28; fail)
  rw [HW.out]
  refine WR.out.mono ?_
  rintro e w' ⟨rfl, rfl⟩
  go_wp2_with (go_at_call 32; fail)
  refine (HC.out _).mono ?_
  rintro e w' ⟨rfl, rfl⟩
  go_wp2_with (go_at_call 39; fail)
  refine (SA.out w1 T1.out.ga).mono ?_
  rintro e w2 ⟨v2, rfl, ho2, hb2⟩
  rw [natInts_len] at ho2
  obtain ⟨A2, k2, rfl, hi2⟩ := owns_intsAt ho2
  have T2 := Lib.hid (T1.out.call hb2)
  have HI2 := Lib.hid hi2
  clear ho2 hb2 hi2 cx0 cx1 cy0 cy1
  go_wp2_with (go_at_call 40; fail)
  refine (RA.out w2 T2.out.rga).mono ?_
  rintro e w3 ⟨v3, rfl, ho3, hb3⟩
  rw [natInts_len] at ho3
  obtain ⟨A3, k3, rfl, hi3⟩ := owns_intsAt ho3
  have T3 := Lib.hid (T2.out.call hb3)
  have HQ3 := Lib.hid (sameI_eq A2 A3 k2 k3 xs.length (natInts xs) (natInts_len _) (by have := HLN.out; omega) w3 (HI2.out.below hb3 (Nat.le_refl _)) hi3)
  clear ho3 hb3 hi3 HI2
  go_wp2_with (go_at_call 24; fail)
  refine HQ3.out.mono ?_
  rintro e w4 ⟨rfl, hbq⟩
  have T4 := Lib.hid (T3.out.call hbq)
  clear hbq HQ3 T2 T3
  go_wp2_with (go_at_call 39; fail)
  refine (SA.out w4 T4.out.ga).mono ?_
  rintro e w5 ⟨v5, rfl, ho5, hb5⟩
  rw [natInts_len] at ho5
  obtain ⟨A5, k5, rfl, hi5⟩ := owns_intsAt ho5
  have T5 := Lib.hid (T4.out.call hb5)
  have HI5 := Lib.hid hi5
  clear ho5 hb5 hi5 
  go_wp2_with (go_at_call 40; fail)
  refine (RA.out w5 T5.out.rga).mono ?_
  rintro e w6 ⟨v6, rfl, ho6, hb6⟩
  rw [natInts_len] at ho6
  obtain ⟨A6, k6, rfl, hi6⟩ := owns_intsAt ho6
  have T6 := Lib.hid (T5.out.call hb6)
  have HQ6 := Lib.hid (sameI_eq A5 A6 k5 k6 xs.length (natInts xs) (natInts_len _) (by have := HLN.out; omega) w6 (HI5.out.below hb6 (Nat.le_refl _)) hi6)
  clear ho6 hb6 hi6 HI5
  go_wp2_with (go_at_call 24; fail)
  refine HQ6.out.mono ?_
  rintro e w7 ⟨rfl, hbq⟩
  have T7 := Lib.hid (T6.out.call hbq)
  clear hbq HQ6 T5 T6
  have WR3 := Lib.hid (writes_st g w7 T7.out.ar)
  go_wp2_with (go_at_call 28; fail)
  refine WR3.out.mono ?_
  rintro e w' ⟨rfl, rfl⟩
  go_wp2
  go_ret
  exact ⟨rfl, S, FT.out _ T7.out, AG3.out, Int.le_refl _, by omega⟩
theorem does19_any (x : ActV) (w : World) (t : Gar w q g q2 lo h b S R l l w) (hag : Agree S R) (hl : lastOk l) (hL : Laid w) (hge : 0 < g ∧ 0 < lo ∧ 0 < q ∧ 0 < q2) (hw0 : 0 ≤ S.writes) (hw1 : S.writes < 600000) (hr0 : 0 ≤ R.writes) (hr1 : R.writes < 600000) :
    Calls Tryd.prog 36 #[.pointer (some ⟨g, 0, none⟩), .pointer (some ⟨q, 0, none⟩), .pointer (some ⟨q2, 0, none⟩), .agg x.cells] w (Does19 q g q2 lo h b S R l (pickZ x.kind 6) x.n x.s w) := by
  obtain ⟨c, hc6, hc⟩ := pick_range x.kind 6 (by decide)
  rcases (show c = 0 ∨ c = 1 ∨ c = 2 ∨ c = 3 ∨ c = 4 ∨ c = 5 by omega) with rfl | rfl | rfl | rfl | rfl | rfl
  · exact does19_0 x w t hag hl hL hge hw0 hw1 hr0 hr1 hc
  · exact does19_1 x w t hag hl hL hge hw0 hw1 hr0 hr1 hc
  · exact does19_2 x w t hag hl hL hge hw0 hw1 hr0 hr1 hc
  · exact does19_3 x w t hag hl hL hge hw0 hw1 hr0 hr1 hc
  · exact does19_4 x w t hag hl hL hge hw0 hw1 hr0 hr1 hc
  · exact does19_5 x w t hag hl hL hge hw0 hw1 hr0 hr1 hc
end
end Go.Proofs.YtbidgpeeogoglaaDoor
