/-
  lineagelaw17.does: one act, on the tree and as the document has it: both answer alike, and are alike behind it.
-/
import Derived.Test.YtbidgpeeogoglaaDoorHl
import Derived.Test.YtbidgpeeogoglaaDoorHn
import Derived.Test.YtbidgpeeogoglaaDoorHm
import Derived.Test.YtbidgpeeogoglaaDoorHo
import Derived.Test.YtbidgpeeogoglaaDoorGc
import Derived.Test.YtbidgpeeogoglaaDoorGb
import Derived.Deep.RegionHeld3
namespace Go.Proofs.YtbidgpeeogoglaaDoor
set_option maxRecDepth 100000
open Go.RowKit Go.Sort

theorem errP_eqlT {no at_ : Int} (h : no ≠ 0) (w : World) : (binOp .eql 55 (errP no at_) .nilIface).run Tryd.prog w = .ok (.bool false) w := by
  unfold errP
  rw [if_neg h]
  split
  · unfold errno; kernel_rfl
  · unfold faultV; kernel_rfl
theorem errP_egrdT {no at_ : Int} (h : no ≠ 0) (x y : Operand) (w : World) : (eqGuard .eql 55 x y (errP no at_) .nilIface).run Tryd.prog w = .ok () w := by
  unfold errP
  rw [if_neg h]
  split
  · unfold errno; kernel_rfl
  · unfold faultV; kernel_rfl
theorem pick_atT (k : Int) (n c : Nat) (h0 : 0 < n) (h1 : n ≤ 1000000000) (h : pickZ k n = (c : Int)) (w : World) : Calls Tryd.prog 32 #[.int .i64 k, .int .i64 n] w (RetSame (.int .i64 (c : Int)) w) := by
  have h2 := pick_any k n h0 h1 w
  rwa [h] at h2
@[reducible] def actTAt (B : Nat) (x : ActT) (W : World) : Prop := W.cell? ⟨B, 1, none⟩ = some (.int .i64 x.n) ∧ W.cell? ⟨B, 4, none⟩ = some (.bool x.s.used) ∧ W.cell? ⟨B, 5, none⟩ = some (.bool x.s.dead) ∧ W.cell? ⟨B, 6, none⟩ = some (.int .i64 x.s.kids) ∧ W.cell? ⟨B, 7, none⟩ = some (.int .i64 x.s.prev) ∧ W.cell? ⟨B, 8, none⟩ = some (.int .i64 x.s.next) ∧ W.cell? ⟨B, 9, none⟩ = some (.int .i64 x.s.slot) ∧ W.cell? ⟨B, 10, none⟩ = some (.int .i64 x.s.birth) ∧ W.cell? ⟨B, 11, none⟩ = some (.int .i64 x.s.upSlot) ∧ W.cell? ⟨B, 12, none⟩ = some (.int .i64 x.s.upBirth) ∧ W.cell? ⟨B, 13, none⟩ = some (.int .i64 x.s.kind) ∧ W.cell? ⟨B, 14, none⟩ = some (.string x.s.user) ∧ W.cell? ⟨B, 15, none⟩ = some (.string x.s.label) ∧ W.cell? ⟨B, 16, none⟩ = some (.int .u64 x.s.scopes) ∧ W.cell? ⟨B, 17, none⟩ = some (.int .i64 x.s.level) ∧ W.cell? ⟨B, 18, none⟩ = some (.int .i64 x.s.born) ∧ W.cell? ⟨B, 19, none⟩ = some (.int .i64 x.s.deadline) ∧ W.cell? ⟨B, 20, none⟩ = some (.int .i64 x.s.depth)
theorem actTAt_row {B : Nat} {x : ActT} {W : World} (h : W.cell? ⟨B, 1, none⟩ = some (.int .i64 x.n)) (r : RowAt W B 4 x.s.cells) : actTAt B x W :=
  ⟨h, r.at_ 0 _ rfl, r.at_ 1 _ rfl, r.at_ 2 _ rfl, r.at_ 3 _ rfl, r.at_ 4 _ rfl, r.at_ 5 _ rfl, r.at_ 6 _ rfl, r.at_ 7 _ rfl, r.at_ 8 _ rfl, r.at_ 9 _ rfl, r.at_ 10 _ rfl, r.at_ 11 _ rfl, r.at_ 12 _ rfl, r.at_ 13 _ rfl, r.at_ 14 _ rfl, r.at_ 15 _ rfl, r.at_ 16 _ rfl⟩
@[reducible] def slotCs (B : Nat) (s : SlotV) (W : World) : Prop := W.cell? ⟨B, 0, none⟩ = some (.bool s.used) ∧ W.cell? ⟨B, 1, none⟩ = some (.bool s.dead) ∧ W.cell? ⟨B, 2, none⟩ = some (.int .i64 s.kids) ∧ W.cell? ⟨B, 3, none⟩ = some (.int .i64 s.prev) ∧ W.cell? ⟨B, 4, none⟩ = some (.int .i64 s.next) ∧ W.cell? ⟨B, 5, none⟩ = some (.int .i64 s.slot) ∧ W.cell? ⟨B, 6, none⟩ = some (.int .i64 s.birth) ∧ W.cell? ⟨B, 7, none⟩ = some (.int .i64 s.upSlot) ∧ W.cell? ⟨B, 8, none⟩ = some (.int .i64 s.upBirth) ∧ W.cell? ⟨B, 9, none⟩ = some (.int .i64 s.kind) ∧ W.cell? ⟨B, 10, none⟩ = some (.string s.user) ∧ W.cell? ⟨B, 11, none⟩ = some (.string s.label) ∧ W.cell? ⟨B, 12, none⟩ = some (.int .u64 s.scopes) ∧ W.cell? ⟨B, 13, none⟩ = some (.int .i64 s.level) ∧ W.cell? ⟨B, 14, none⟩ = some (.int .i64 s.born) ∧ W.cell? ⟨B, 15, none⟩ = some (.int .i64 s.deadline) ∧ W.cell? ⟨B, 16, none⟩ = some (.int .i64 s.depth)
theorem slotCs_blk {B : Nat} {s : SlotV} {W : World} {t : TypeId} (h : Blk W B t s.cells) : slotCs B s W :=
  ⟨(h.cell 0).trans rfl, (h.cell 1).trans rfl, (h.cell 2).trans rfl, (h.cell 3).trans rfl, (h.cell 4).trans rfl, (h.cell 5).trans rfl, (h.cell 6).trans rfl, (h.cell 7).trans rfl, (h.cell 8).trans rfl, (h.cell 9).trans rfl, (h.cell 10).trans rfl, (h.cell 11).trans rfl, (h.cell 12).trans rfl, (h.cell 13).trans rfl, (h.cell 14).trans rfl, (h.cell 15).trans rfl, (h.cell 16).trans rfl⟩
abbrev Trr := Both 93 63
section
variable {w W W' : World} {q g q2 lo h b : Nat} {S R S' R' : St} {l l2 l' : Int}
theorem Trr.call (t : Trr w q g q2 lo h b S R l l2 W) (hb : Below W.heap.size W W') : Trr w q g q2 lo h b S R l l2 W' := Both.call t hb
theorem Trr.from {w0 : World} (t : Trr w q g q2 lo h b S R l l2 W) (hb : Below w0.heap.size w0 w) : Trr w0 q g q2 lo h b S R l l2 W := Both.from t hb
theorem Trr.ta (t : Trr w q g q2 lo h b S R l l2 W) : Ta W q g S l W := Ta.start t.cb t.ar t.ap.qs.1
theorem Trr.rta (t : Trr w q g q2 lo h b S R l l2 W) : RTa W q2 lo h b R l2 W := ⟨t.rb, t.rf, t.ap.q2s.2, Tn.refl _ _⟩
theorem Trr.codes (t : Trr w q g q2 lo h b S R l l2 W) (a : Ta W q g S' l' W') : Trr w q g q2 lo h b S' R l' l2 W' := Both.code t (by decide) a.tn a.blk a.ar
theorem Trr.docs (t : Trr w q g q2 lo h b S R l l2 W) (a : RTa W q2 lo h b R' l' W') : Trr w q g q2 lo h b S R' l l' W' := Both.doc t a.tn a.blk a.rf
end
section
variable {tq tr : TypeId} {w W : World} {q g q2 lo h b : Nat} {S R : St} {l l2 : Int}
/-- Another block is written. -/
theorem Both.far (t : Both tq tr w q g q2 lo h b S R l l2 W) {B : Nat} {t' : TypeId} {cs : Array Value} (hB : Blk W B t' cs) (ht : t' ≠ 3) (hn : q ≠ B ∧ g ≠ B ∧ q2 ≠ B ∧ h ≠ B ∧ b ≠ B ∧ w.heap.size ≤ B) (o : Nat) (v : Value) : Both tq tr w q g q2 lo h b S R l l2 (W.setCell ⟨B, o, none⟩ v) := by
  obtain ⟨n1, n2, n3, n4, n5, n6⟩ := hn
  have hT : Tn (fun k => k = B) W (W.setCell ⟨B, o, none⟩ v) := Tn.ofGrown (grownBy_set W B o v) rfl
  exact ⟨⟨(hT.block q t.cb.lt n1).trans t.cb.eq⟩, t.ar.block (hT.block g t.ar.lt n2), ⟨(hT.block q2 t.rb.lt n3).trans t.rb.eq⟩, t.rf.tnq hT n4 n5 (fun k hk _ => by subst hk; exact ⟨_, _, hB, ht⟩), t.ap,
    ⟨hT.os.trans t.tn.os, hT.tape.trans t.tn.tape, hT.output.trans t.tn.output, Nat.le_trans t.tn.size hT.size, fun k hk hx => (hT.block k (Nat.lt_of_lt_of_le hk t.tn.size) (by omega)).trans (t.tn.block k hk hx)⟩⟩
end
def SlotV.born0 (ub : Int) : SlotV := { SlotV.bare with used := true, birth := ub }
/-- The document's tree and its arena behind an act. -/
def St.act17 (R : St) (l : Int) (x : ActT) : St × Int :=
  if pickZ x.kind 6 = 0 ∨ pickZ x.kind 6 = 1 then (R.tadd l x.n x.us x.ub).2
  else if pickZ x.kind 6 = 2 then (R.tcut l x.n).2
  else if pickZ x.kind 6 = 3 then (R.putZ x.n x.s, l)
  else if pickZ x.kind 6 = 4 then (R, l)
  else (R.putZ (pickZ x.n 32) (SlotV.born0 x.ub), l)
theorem act17_writes (R : St) (l : Int) (x : ActT) : R.writes ≤ (R.act17 l x).1.writes ∧ (R.act17 l x).1.writes ≤ R.writes + 1 := by
  unfold St.act17
  split
  · have := tadd_writes R l x.n x.us x.ub
    omega
  · split
    · have := tcut_writes R l x.n
      omega
    · split
      · exact putZ_writes R _ _
      · split
        · exact ⟨Int.le_refl _, by dsimp only; omega⟩
        · exact putZ_writes R _ _
/-- What an act gives. -/
def Does17 (q g q2 lo h b : Nat) (S : St) (r : St × Int) (w : World) (e : Ending) (w' : World) : Prop :=
  e = .returned (.bool true) ∧ ∃ S', Trr w q g q2 lo h b S' r.1 r.2 r.2 w' ∧ Agree S' r.1 ∧ S.writes ≤ S'.writes ∧ S'.writes ≤ S.writes + 8
theorem all1_eql (b : Option Addr) (w : World) : (binOp .eql 43 (.func (.func 87) #[] #[.pointer b]) .nilFunc).run Tryd.prog w = .ok (.bool false) w := by kernel_rfl
theorem under1_eql (b : Option Addr) (w : World) : (binOp .eql 43 (.func (.func 56) #[] #[.pointer b]) .nilFunc).run Tryd.prog w = .ok (.bool false) w := by kernel_rfl
/-- gone, of an iterator and a row. -/
theorem gone_it {f : FuncId} (eg : ∀ args w, (callFunc f args).run Tryd.prog w = .ok (.enter f args) w) (heql : ∀ b w, (binOp .eql 43 (.func (.func f) #[] #[.pointer b]) .nilFunc).run Tryd.prog w = .ok (.bool false) w)
    {L : List Nat} {B : Nat} {A : Option Addr} {c : Nat} {n m : Nat} (w : World) (hq : ∀ n₀, Go.Proofs.YtbidgpeeogoglaaDoor.Seqs Tryd.prog f #[.pointer (some ⟨B, 0, none⟩)] natV n₀ (fun k => n ≤ k ∧ k < m) 0 L w) (hm : m ≤ w.heap.size) (hin : IntsAt w A (natInts L)) (hlen : L.length ≤ 32) :
    Calls Tryd.prog 19 #[.func (.func f) #[] #[.pointer (some ⟨B, 0, none⟩)], .slice A L.length c] w (RetB (.bool true) w) :=
  gone_any eg w hq (fun k hk => Nat.lt_of_lt_of_le hk.2 hm) hin hlen (heql _)
section
variable {S R : St} {q g q2 lo h b : Nat} {l : Int}
set_option maxHeartbeats 8000000 in
theorem does17_0 (x : ActT) (w : World) (t : Trr w q g q2 lo h b S R l l w) (hag : Agree S R) (hL : Laid w) (hge : 0 < g ∧ 0 < lo ∧ 0 < q ∧ 0 < q2) (hw0 : 0 ≤ S.writes) (hw1 : S.writes < 600000) (hr0 : 0 ≤ R.writes) (hr1 : R.writes < 600000) (hcK : pickZ x.kind 6 = ((0 : Nat) : Int)) :
    Calls Tryd.prog 12 #[.pointer (some ⟨g, 0, none⟩), .pointer (some ⟨q, 0, none⟩), .pointer (some ⟨q2, 0, none⟩), .agg x.cells] w (Does17 q g q2 lo h b S (R.act17 l x) w) := by
  have hlt := t.lts
  have hlo := t.rf.los
  have HC := Lib.hid (fun w => pick_atT x.kind 6 0 (by decide) (by decide) hcK w)
  have hact : R.act17 l x = (R.tadd l x.n x.us x.ub).2 := by unfold St.act17; rw [hcK]; simp
  rw [hact]
  unfold Does17
  obtain ⟨w1, hw⟩ : ∃ w1, w.alloc (.cells x.cells 41) = w1 := ⟨_, rfl⟩
  have BX : Blk w1 w.heap.size 41 x.cells := by rw [← hw]; exact Blk.new _ _ _
  have hb1 : Below w.heap.size w w1 := by rw [← hw]; exact (Below.refl _ _).alloc (Nat.le_refl _) _
  have hs1 : w1.heap.size ≤ w.heap.size + 1 ∧ w.heap.size + 1 ≤ w1.heap.size := by rw [← hw]; simp
  have cx1 : w1.cell? ⟨w.heap.size, 1, none⟩ = some (.int .i64 x.n) := (BX.cell 1).trans x.at1
  have cx2 : w1.cell? ⟨w.heap.size, 2, none⟩ = some (.int .i64 x.us) := (BX.cell 2).trans x.at2
  have cx3 : w1.cell? ⟨w.heap.size, 3, none⟩ = some (.int .i64 x.ub) := (BX.cell 3).trans x.at3
  have cy0 : (w.alloc (.cells x.cells 41)).cell? ⟨w.heap.size, 0, none⟩ = some (.int .i64 x.kind) := ((Blk.new _ _ _).cell 0).trans x.at0
  have cz0 : w1.cell? ⟨w.heap.size, 0, none⟩ = some (.int .i64 x.kind) := (BX.cell 0).trans x.at0
  have T1 := Lib.hid (show Trr w1 q g q2 lo h b S R l l w1 from (t.call hb1).here)
  have L1 := Lib.hid (hL.below hb1 hL.pos)
  have HB1 := Lib.hid hb1
  have HW := Lib.hid hw
  have hnew : w.heap.size ≠ q ∧ w.heap.size ≠ g ∧ w.heap.size ≠ q2 ∧ w.heap.size ≠ h ∧ w.heap.size ≠ b := by omega
  have hgne : 0 ≠ q ∧ 0 ≠ g ∧ 0 ≠ q2 ∧ 0 ≠ h ∧ 0 ≠ b := by omega
  have HNW := Lib.hid hnew
  have HGN := Lib.hid hgne
  have HCX := Lib.hid (And.intro cx1 (And.intro cx2 cx3))
  have WR := Lib.hid (writes_st g w1 T1.out.ar)
  have hno := tadd_no (l := l) hag x.n x.us x.ub
  have RA := Lib.hid (rtAdd_any x.n x.us x.ub w1 w1 T1.out.rta)
  have GA := Lib.hid (fun W (a : Ta W q g S l W) => tAdd_any hag x.n x.us x.ub W W a hw0 (by omega))
  unfold DidT at GA
  unfold RetTD at RA
  generalize hR2 : (R.tadd l x.n x.us x.ub) = r2 at *
  obtain ⟨⟨no, at_⟩, R2, l2⟩ := r2
  dsimp only at *
  clear hR2 hact t hag hw hb1 BX hL hcK hr0 hr1
  go_enter Tryd.func12, Tryd.ntmps12
  go_wp2_with (go_at_call 28; fail)
  rw [HW.out]
  refine WR.out.mono ?_
  rintro e w' ⟨rfl, rfl⟩
  go_wp2_with (go_at_call 32; fail)
  refine (HC.out _).mono ?_
  rintro e w' ⟨rfl, rfl⟩
  by_cases hz : no = 0
  · subst hz
    rw [if_pos rfl] at GA
    go_wp2_with (go_at_call 49; fail)
    refine RA.out.mono ?_
    rintro e w2 ⟨rfl, a2⟩
    have T2 := Lib.hid (T1.out.docs a2)
    have cw1 := T2.out.cell (by omega) HNW.out HCX.out.1
    have cw2 := T2.out.cell (by omega) HNW.out HCX.out.2.1
    have cw3 := T2.out.cell (by omega) HNW.out HCX.out.2.2
    clear a2 RA cx1 cx2 cx3 cy0 cz0
    go_wp2_with (go_at_call 22; fail)
    refine (GA.out w2 T2.out.ta).mono ?_
    rintro e w3 ⟨rfl, S', a3, ag3, h30, h31⟩
    have T3 := Lib.hid (T2.out.codes a3)
    have WR3 := Lib.hid (writes_st g w3 T3.out.ar)
    have HT := Lib.hid (told17_any _ at_ hno w3 (T3.out.laid L1.out HGN.out))
    have AG3 := Lib.hid ag3
    have hwr : IntKind.i64.wrap (S'.writes - S.writes) = S'.writes - S.writes := IntWalk.i64_in _ (by omega)
    have h38 : S'.writes ≤ S.writes + 8 := by omega
    have HWW := Lib.hid (And.intro h30 h38)
    have FT := Lib.hid (fun W' (hb : Below w3.heap.size w3 W') => (T3.out.call hb).from HB1.out)
    have hle : S'.writes - S.writes ≤ 8 := by omega
    have hee : errP 0 at_ = .nilIface := rfl
    rw [hee]
    clear hee h30 h31
    clear a3 ag3 T2 GA cw1 cw2 cw3 hno h38
    go_wp2_with (go_at_call 28; fail)
    refine WR3.out.mono ?_
    rintro e w' ⟨rfl, rfl⟩
    go_wp2_with (go_at_call 27; fail)
    refine HT.out.mono ?_
    rintro e w4 ⟨rfl, hb4⟩
    have HB4 := Lib.hid hb4
    clear hb4
    go_wp2
    go_ret
    exact ⟨rfl, S', FT.out _ HB4.out, AG3.out, HWW.out⟩
  · have hq1 := fun w => errP_eqlT (at_ := at_) hz w
    have hq2 := fun x y w => errP_egrdT (at_ := at_) hz x y w
    rw [if_neg hz] at GA
    go_wp2_with (go_at_call 49; fail)
    refine RA.out.mono ?_
    rintro e w2 ⟨rfl, a2⟩
    have T2 := Lib.hid (T1.out.docs a2)
    have cw1 := T2.out.cell (by omega) HNW.out HCX.out.1
    have cw2 := T2.out.cell (by omega) HNW.out HCX.out.2.1
    have cw3 := T2.out.cell (by omega) HNW.out HCX.out.2.2
    clear a2 RA cx1 cx2 cx3 cy0 cz0
    go_wp2_with (go_at_call 22; fail)
    refine (GA.out w2 T2.out.ta).mono ?_
    rintro e w3 ⟨rfl, S', a3, ag3, h30, h31⟩
    have T3 := Lib.hid (T2.out.codes a3)
    have WR3 := Lib.hid (writes_st g w3 T3.out.ar)
    have HT := Lib.hid (told17_any _ at_ hno w3 (T3.out.laid L1.out HGN.out))
    have AG3 := Lib.hid ag3
    have hwr : IntKind.i64.wrap (S'.writes - S.writes) = S'.writes - S.writes := IntWalk.i64_in _ (by omega)
    have h38 : S'.writes ≤ S.writes + 8 := by omega
    have HWW := Lib.hid (And.intro h30 h38)
    have FT := Lib.hid (fun W' (hb : Below w3.heap.size w3 W') => (T3.out.call hb).from HB1.out)
    have hle : S'.writes - S.writes ≤ 8 := by omega
    have hle0 : S'.writes - S.writes = 0 := by omega
    generalize errP no at_ = ev at *
    clear h30 h31
    clear a3 ag3 T2 GA cw1 cw2 cw3 hno h38
    go_wp2_with (go_at_call 28; fail)
    refine WR3.out.mono ?_
    rintro e w' ⟨rfl, rfl⟩
    go_wp2_with (go_at_call 27; fail)
    refine HT.out.mono ?_
    rintro e w4 ⟨rfl, hb4⟩
    have HB4 := Lib.hid hb4
    clear hb4
    go_wp2
    go_ret
    exact ⟨rfl, S', FT.out _ HB4.out, AG3.out, HWW.out⟩
set_option maxHeartbeats 8000000 in
theorem does17_1 (x : ActT) (w : World) (t : Trr w q g q2 lo h b S R l l w) (hag : Agree S R) (hL : Laid w) (hge : 0 < g ∧ 0 < lo ∧ 0 < q ∧ 0 < q2) (hw0 : 0 ≤ S.writes) (hw1 : S.writes < 600000) (hr0 : 0 ≤ R.writes) (hr1 : R.writes < 600000) (hcK : pickZ x.kind 6 = ((1 : Nat) : Int)) :
    Calls Tryd.prog 12 #[.pointer (some ⟨g, 0, none⟩), .pointer (some ⟨q, 0, none⟩), .pointer (some ⟨q2, 0, none⟩), .agg x.cells] w (Does17 q g q2 lo h b S (R.act17 l x) w) := by
  have hlt := t.lts
  have hlo := t.rf.los
  have HC := Lib.hid (fun w => pick_atT x.kind 6 1 (by decide) (by decide) hcK w)
  have hact : R.act17 l x = (R.tadd l x.n x.us x.ub).2 := by unfold St.act17; rw [hcK]; simp
  rw [hact]
  unfold Does17
  obtain ⟨w1, hw⟩ : ∃ w1, w.alloc (.cells x.cells 41) = w1 := ⟨_, rfl⟩
  have BX : Blk w1 w.heap.size 41 x.cells := by rw [← hw]; exact Blk.new _ _ _
  have hb1 : Below w.heap.size w w1 := by rw [← hw]; exact (Below.refl _ _).alloc (Nat.le_refl _) _
  have hs1 : w1.heap.size ≤ w.heap.size + 1 ∧ w.heap.size + 1 ≤ w1.heap.size := by rw [← hw]; simp
  have cx1 : w1.cell? ⟨w.heap.size, 1, none⟩ = some (.int .i64 x.n) := (BX.cell 1).trans x.at1
  have cx2 : w1.cell? ⟨w.heap.size, 2, none⟩ = some (.int .i64 x.us) := (BX.cell 2).trans x.at2
  have cx3 : w1.cell? ⟨w.heap.size, 3, none⟩ = some (.int .i64 x.ub) := (BX.cell 3).trans x.at3
  have cy0 : (w.alloc (.cells x.cells 41)).cell? ⟨w.heap.size, 0, none⟩ = some (.int .i64 x.kind) := ((Blk.new _ _ _).cell 0).trans x.at0
  have cz0 : w1.cell? ⟨w.heap.size, 0, none⟩ = some (.int .i64 x.kind) := (BX.cell 0).trans x.at0
  have T1 := Lib.hid (show Trr w1 q g q2 lo h b S R l l w1 from (t.call hb1).here)
  have L1 := Lib.hid (hL.below hb1 hL.pos)
  have HB1 := Lib.hid hb1
  have HW := Lib.hid hw
  have hnew : w.heap.size ≠ q ∧ w.heap.size ≠ g ∧ w.heap.size ≠ q2 ∧ w.heap.size ≠ h ∧ w.heap.size ≠ b := by omega
  have hgne : 0 ≠ q ∧ 0 ≠ g ∧ 0 ≠ q2 ∧ 0 ≠ h ∧ 0 ≠ b := by omega
  have HNW := Lib.hid hnew
  have HGN := Lib.hid hgne
  have HCX := Lib.hid (And.intro cx1 (And.intro cx2 cx3))
  have WR := Lib.hid (writes_st g w1 T1.out.ar)
  have hno := tadd_no (l := l) hag x.n x.us x.ub
  have RA := Lib.hid (rtAdd_any x.n x.us x.ub w1 w1 T1.out.rta)
  have GA := Lib.hid (fun W (a : Ta W q g S l W) => tAdd_any hag x.n x.us x.ub W W a hw0 (by omega))
  unfold DidT at GA
  unfold RetTD at RA
  generalize hR2 : (R.tadd l x.n x.us x.ub) = r2 at *
  obtain ⟨⟨no, at_⟩, R2, l2⟩ := r2
  dsimp only at *
  clear hR2 hact t hag hw hb1 BX hL hcK hr0 hr1
  go_enter Tryd.func12, Tryd.ntmps12
  go_wp2_with (go_at_call 28; fail)
  rw [HW.out]
  refine WR.out.mono ?_
  rintro e w' ⟨rfl, rfl⟩
  go_wp2_with (go_at_call 32; fail)
  refine (HC.out _).mono ?_
  rintro e w' ⟨rfl, rfl⟩
  by_cases hz : no = 0
  · subst hz
    rw [if_pos rfl] at GA
    go_wp2_with (go_at_call 49; fail)
    refine RA.out.mono ?_
    rintro e w2 ⟨rfl, a2⟩
    have T2 := Lib.hid (T1.out.docs a2)
    have cw1 := T2.out.cell (by omega) HNW.out HCX.out.1
    have cw2 := T2.out.cell (by omega) HNW.out HCX.out.2.1
    have cw3 := T2.out.cell (by omega) HNW.out HCX.out.2.2
    clear a2 RA cx1 cx2 cx3 cy0 cz0
    go_wp2_with (go_at_call 22; fail)
    refine (GA.out w2 T2.out.ta).mono ?_
    rintro e w3 ⟨rfl, S', a3, ag3, h30, h31⟩
    have T3 := Lib.hid (T2.out.codes a3)
    have WR3 := Lib.hid (writes_st g w3 T3.out.ar)
    have HT := Lib.hid (told17_any _ at_ hno w3 (T3.out.laid L1.out HGN.out))
    have AG3 := Lib.hid ag3
    have hwr : IntKind.i64.wrap (S'.writes - S.writes) = S'.writes - S.writes := IntWalk.i64_in _ (by omega)
    have h38 : S'.writes ≤ S.writes + 8 := by omega
    have HWW := Lib.hid (And.intro h30 h38)
    have FT := Lib.hid (fun W' (hb : Below w3.heap.size w3 W') => (T3.out.call hb).from HB1.out)
    have hle : S'.writes - S.writes ≤ 8 := by omega
    have hee : errP 0 at_ = .nilIface := rfl
    rw [hee]
    clear hee h30 h31
    clear a3 ag3 T2 GA cw1 cw2 cw3 hno h38
    go_wp2_with (go_at_call 28; fail)
    refine WR3.out.mono ?_
    rintro e w' ⟨rfl, rfl⟩
    go_wp2_with (go_at_call 27; fail)
    refine HT.out.mono ?_
    rintro e w4 ⟨rfl, hb4⟩
    have HB4 := Lib.hid hb4
    clear hb4
    go_wp2
    go_ret
    exact ⟨rfl, S', FT.out _ HB4.out, AG3.out, HWW.out⟩
  · have hq1 := fun w => errP_eqlT (at_ := at_) hz w
    have hq2 := fun x y w => errP_egrdT (at_ := at_) hz x y w
    rw [if_neg hz] at GA
    go_wp2_with (go_at_call 49; fail)
    refine RA.out.mono ?_
    rintro e w2 ⟨rfl, a2⟩
    have T2 := Lib.hid (T1.out.docs a2)
    have cw1 := T2.out.cell (by omega) HNW.out HCX.out.1
    have cw2 := T2.out.cell (by omega) HNW.out HCX.out.2.1
    have cw3 := T2.out.cell (by omega) HNW.out HCX.out.2.2
    clear a2 RA cx1 cx2 cx3 cy0 cz0
    go_wp2_with (go_at_call 22; fail)
    refine (GA.out w2 T2.out.ta).mono ?_
    rintro e w3 ⟨rfl, S', a3, ag3, h30, h31⟩
    have T3 := Lib.hid (T2.out.codes a3)
    have WR3 := Lib.hid (writes_st g w3 T3.out.ar)
    have HT := Lib.hid (told17_any _ at_ hno w3 (T3.out.laid L1.out HGN.out))
    have AG3 := Lib.hid ag3
    have hwr : IntKind.i64.wrap (S'.writes - S.writes) = S'.writes - S.writes := IntWalk.i64_in _ (by omega)
    have h38 : S'.writes ≤ S.writes + 8 := by omega
    have HWW := Lib.hid (And.intro h30 h38)
    have FT := Lib.hid (fun W' (hb : Below w3.heap.size w3 W') => (T3.out.call hb).from HB1.out)
    have hle : S'.writes - S.writes ≤ 8 := by omega
    have hle0 : S'.writes - S.writes = 0 := by omega
    generalize errP no at_ = ev at *
    clear h30 h31
    clear a3 ag3 T2 GA cw1 cw2 cw3 hno h38
    go_wp2_with (go_at_call 28; fail)
    refine WR3.out.mono ?_
    rintro e w' ⟨rfl, rfl⟩
    go_wp2_with (go_at_call 27; fail)
    refine HT.out.mono ?_
    rintro e w4 ⟨rfl, hb4⟩
    have HB4 := Lib.hid hb4
    clear hb4
    go_wp2
    go_ret
    exact ⟨rfl, S', FT.out _ HB4.out, AG3.out, HWW.out⟩
set_option maxHeartbeats 8000000 in
theorem does17_2 (x : ActT) (w : World) (t : Trr w q g q2 lo h b S R l l w) (hag : Agree S R) (hL : Laid w) (hge : 0 < g ∧ 0 < lo ∧ 0 < q ∧ 0 < q2) (hw0 : 0 ≤ S.writes) (hw1 : S.writes < 600000) (hr0 : 0 ≤ R.writes) (hr1 : R.writes < 600000) (hcK : pickZ x.kind 6 = ((2 : Nat) : Int)) :
    Calls Tryd.prog 12 #[.pointer (some ⟨g, 0, none⟩), .pointer (some ⟨q, 0, none⟩), .pointer (some ⟨q2, 0, none⟩), .agg x.cells] w (Does17 q g q2 lo h b S (R.act17 l x) w) := by
  have hlt := t.lts
  have hlo := t.rf.los
  have HC := Lib.hid (fun w => pick_atT x.kind 6 2 (by decide) (by decide) hcK w)
  have hact : R.act17 l x = (R.tcut l x.n).2 := by unfold St.act17; rw [hcK]; simp
  rw [hact]
  unfold Does17
  obtain ⟨w1, hw⟩ : ∃ w1, w.alloc (.cells x.cells 41) = w1 := ⟨_, rfl⟩
  have BX : Blk w1 w.heap.size 41 x.cells := by rw [← hw]; exact Blk.new _ _ _
  have hb1 : Below w.heap.size w w1 := by rw [← hw]; exact (Below.refl _ _).alloc (Nat.le_refl _) _
  have hs1 : w1.heap.size ≤ w.heap.size + 1 ∧ w.heap.size + 1 ≤ w1.heap.size := by rw [← hw]; simp
  have cx1 : w1.cell? ⟨w.heap.size, 1, none⟩ = some (.int .i64 x.n) := (BX.cell 1).trans x.at1
  have cx2 : w1.cell? ⟨w.heap.size, 2, none⟩ = some (.int .i64 x.us) := (BX.cell 2).trans x.at2
  have cx3 : w1.cell? ⟨w.heap.size, 3, none⟩ = some (.int .i64 x.ub) := (BX.cell 3).trans x.at3
  have cy0 : (w.alloc (.cells x.cells 41)).cell? ⟨w.heap.size, 0, none⟩ = some (.int .i64 x.kind) := ((Blk.new _ _ _).cell 0).trans x.at0
  have cz0 : w1.cell? ⟨w.heap.size, 0, none⟩ = some (.int .i64 x.kind) := (BX.cell 0).trans x.at0
  have T1 := Lib.hid (show Trr w1 q g q2 lo h b S R l l w1 from (t.call hb1).here)
  have L1 := Lib.hid (hL.below hb1 hL.pos)
  have HB1 := Lib.hid hb1
  have HW := Lib.hid hw
  have hnew : w.heap.size ≠ q ∧ w.heap.size ≠ g ∧ w.heap.size ≠ q2 ∧ w.heap.size ≠ h ∧ w.heap.size ≠ b := by omega
  have hgne : 0 ≠ q ∧ 0 ≠ g ∧ 0 ≠ q2 ∧ 0 ≠ h ∧ 0 ≠ b := by omega
  have HNW := Lib.hid hnew
  have HGN := Lib.hid hgne
  have HCX := Lib.hid (And.intro cx1 (And.intro cx2 cx3))
  have WR := Lib.hid (writes_st g w1 T1.out.ar)
  have hno := tcut_no (l := l) hag x.n
  have RA := Lib.hid (rtCut_any x.n w1 w1 T1.out.rta)
  have GA := Lib.hid (fun W (a : Ta W q g S l W) => tCut_any hag x.n W W a hw0 (by omega))
  unfold DidT at GA
  unfold RetTD at RA
  generalize hR2 : (R.tcut l x.n) = r2 at *
  obtain ⟨⟨no, at_⟩, R2, l2⟩ := r2
  dsimp only at *
  clear hR2 hact t hag hw hb1 BX hL hcK hr0 hr1
  go_enter Tryd.func12, Tryd.ntmps12
  go_wp2_with (go_at_call 28; fail)
  rw [HW.out]
  refine WR.out.mono ?_
  rintro e w' ⟨rfl, rfl⟩
  go_wp2_with (go_at_call 32; fail)
  refine (HC.out _).mono ?_
  rintro e w' ⟨rfl, rfl⟩
  by_cases hz : no = 0
  · subst hz
    rw [if_pos rfl] at GA
    go_wp2_with (go_at_call 50; fail)
    refine RA.out.mono ?_
    rintro e w2 ⟨rfl, a2⟩
    have T2 := Lib.hid (T1.out.docs a2)
    have cw1 := T2.out.cell (by omega) HNW.out HCX.out.1
    have cw2 := T2.out.cell (by omega) HNW.out HCX.out.2.1
    have cw3 := T2.out.cell (by omega) HNW.out HCX.out.2.2
    clear a2 RA cx1 cx2 cx3 cy0 cz0
    go_wp2_with (go_at_call 26; fail)
    refine (GA.out w2 T2.out.ta).mono ?_
    rintro e w3 ⟨rfl, S', a3, ag3, h30, h31⟩
    have T3 := Lib.hid (T2.out.codes a3)
    have WR3 := Lib.hid (writes_st g w3 T3.out.ar)
    have HT := Lib.hid (told17_any _ at_ hno w3 (T3.out.laid L1.out HGN.out))
    have AG3 := Lib.hid ag3
    have hwr : IntKind.i64.wrap (S'.writes - S.writes) = S'.writes - S.writes := IntWalk.i64_in _ (by omega)
    have h38 : S'.writes ≤ S.writes + 8 := by omega
    have HWW := Lib.hid (And.intro h30 h38)
    have FT := Lib.hid (fun W' (hb : Below w3.heap.size w3 W') => (T3.out.call hb).from HB1.out)
    have hle : S'.writes - S.writes ≤ 8 := by omega
    have hee : errP 0 at_ = .nilIface := rfl
    rw [hee]
    clear hee h30 h31
    clear a3 ag3 T2 GA cw1 cw2 cw3 hno h38
    go_wp2_with (go_at_call 28; fail)
    refine WR3.out.mono ?_
    rintro e w' ⟨rfl, rfl⟩
    go_wp2_with (go_at_call 27; fail)
    refine HT.out.mono ?_
    rintro e w4 ⟨rfl, hb4⟩
    have HB4 := Lib.hid hb4
    clear hb4
    go_wp2
    go_ret
    exact ⟨rfl, S', FT.out _ HB4.out, AG3.out, HWW.out⟩
  · have hq1 := fun w => errP_eqlT (at_ := at_) hz w
    have hq2 := fun x y w => errP_egrdT (at_ := at_) hz x y w
    rw [if_neg hz] at GA
    go_wp2_with (go_at_call 50; fail)
    refine RA.out.mono ?_
    rintro e w2 ⟨rfl, a2⟩
    have T2 := Lib.hid (T1.out.docs a2)
    have cw1 := T2.out.cell (by omega) HNW.out HCX.out.1
    have cw2 := T2.out.cell (by omega) HNW.out HCX.out.2.1
    have cw3 := T2.out.cell (by omega) HNW.out HCX.out.2.2
    clear a2 RA cx1 cx2 cx3 cy0 cz0
    go_wp2_with (go_at_call 26; fail)
    refine (GA.out w2 T2.out.ta).mono ?_
    rintro e w3 ⟨rfl, S', a3, ag3, h30, h31⟩
    have T3 := Lib.hid (T2.out.codes a3)
    have WR3 := Lib.hid (writes_st g w3 T3.out.ar)
    have HT := Lib.hid (told17_any _ at_ hno w3 (T3.out.laid L1.out HGN.out))
    have AG3 := Lib.hid ag3
    have hwr : IntKind.i64.wrap (S'.writes - S.writes) = S'.writes - S.writes := IntWalk.i64_in _ (by omega)
    have h38 : S'.writes ≤ S.writes + 8 := by omega
    have HWW := Lib.hid (And.intro h30 h38)
    have FT := Lib.hid (fun W' (hb : Below w3.heap.size w3 W') => (T3.out.call hb).from HB1.out)
    have hle : S'.writes - S.writes ≤ 8 := by omega
    have hle0 : S'.writes - S.writes = 0 := by omega
    generalize errP no at_ = ev at *
    clear h30 h31
    clear a3 ag3 T2 GA cw1 cw2 cw3 hno h38
    go_wp2_with (go_at_call 28; fail)
    refine WR3.out.mono ?_
    rintro e w' ⟨rfl, rfl⟩
    go_wp2_with (go_at_call 27; fail)
    refine HT.out.mono ?_
    rintro e w4 ⟨rfl, hb4⟩
    have HB4 := Lib.hid hb4
    clear hb4
    go_wp2
    go_ret
    exact ⟨rfl, S', FT.out _ HB4.out, AG3.out, HWW.out⟩
set_option maxHeartbeats 8000000 in
theorem does17_4 (x : ActT) (w : World) (t : Trr w q g q2 lo h b S R l l w) (hag : Agree S R) (hL : Laid w) (hge : 0 < g ∧ 0 < lo ∧ 0 < q ∧ 0 < q2) (hw0 : 0 ≤ S.writes) (hw1 : S.writes < 600000) (hr0 : 0 ≤ R.writes) (hr1 : R.writes < 600000) (hcK : pickZ x.kind 6 = ((4 : Nat) : Int)) :
    Calls Tryd.prog 12 #[.pointer (some ⟨g, 0, none⟩), .pointer (some ⟨q, 0, none⟩), .pointer (some ⟨q2, 0, none⟩), .agg x.cells] w (Does17 q g q2 lo h b S (R.act17 l x) w) := by
  have hlt := t.lts
  have hlo := t.rf.los
  have HC := Lib.hid (fun w => pick_atT x.kind 6 4 (by decide) (by decide) hcK w)
  have hact : R.act17 l x = (R, l) := by unfold St.act17; rw [hcK]; simp
  rw [hact]
  unfold Does17
  obtain ⟨w1, hw⟩ : ∃ w1, w.alloc (.cells x.cells 41) = w1 := ⟨_, rfl⟩
  have BX : Blk w1 w.heap.size 41 x.cells := by rw [← hw]; exact Blk.new _ _ _
  have hb1 : Below w.heap.size w w1 := by rw [← hw]; exact (Below.refl _ _).alloc (Nat.le_refl _) _
  have hs1 : w1.heap.size ≤ w.heap.size + 1 ∧ w.heap.size + 1 ≤ w1.heap.size := by rw [← hw]; simp
  have cx1 : w1.cell? ⟨w.heap.size, 1, none⟩ = some (.int .i64 x.n) := (BX.cell 1).trans x.at1
  have cx2 : w1.cell? ⟨w.heap.size, 2, none⟩ = some (.int .i64 x.us) := (BX.cell 2).trans x.at2
  have cx3 : w1.cell? ⟨w.heap.size, 3, none⟩ = some (.int .i64 x.ub) := (BX.cell 3).trans x.at3
  have cy0 : (w.alloc (.cells x.cells 41)).cell? ⟨w.heap.size, 0, none⟩ = some (.int .i64 x.kind) := ((Blk.new _ _ _).cell 0).trans x.at0
  have cz0 : w1.cell? ⟨w.heap.size, 0, none⟩ = some (.int .i64 x.kind) := (BX.cell 0).trans x.at0
  have T1 := Lib.hid (show Trr w1 q g q2 lo h b S R l l w1 from (t.call hb1).here)
  have L1 := Lib.hid (hL.below hb1 hL.pos)
  have HB1 := Lib.hid hb1
  have HW := Lib.hid hw
  have hnew : w.heap.size ≠ q ∧ w.heap.size ≠ g ∧ w.heap.size ≠ q2 ∧ w.heap.size ≠ h ∧ w.heap.size ≠ b := by omega
  have hgne : 0 ≠ q ∧ 0 ≠ g ∧ 0 ≠ q2 ∧ 0 ≠ h ∧ 0 ≠ b := by omega
  have HNW := Lib.hid hnew
  have HGN := Lib.hid hgne
  have HCX := Lib.hid (And.intro cx1 (And.intro cx2 cx3))
  have WR := Lib.hid (writes_st g w1 T1.out.ar)
  have hsl := hag.slots
  have AG3 := Lib.hid hag
  have FT := Lib.hid (fun W' (t : Trr w1 q g q2 lo h b S R l l W') => t.from HB1.out)
  obtain ⟨X1, hX1⟩ : ∃ X1, R.all l = X1 := ⟨_, rfl⟩
  obtain ⟨X2, hX2⟩ : ∃ X2, R.kidsOf x.n = X2 := ⟨_, rfl⟩
  obtain ⟨X3, hX3⟩ : ∃ X3, R.underOf x.n = X3 := ⟨_, rfl⟩
  have e1 : S.all l = X1 := (all_congr' hsl l).trans hX1
  have e2 : S.kidsOf x.n = X2 := (kidsOf_congr hsl x.n).trans hX2
  have e3 : S.underOf x.n = X3 := (underOf_congr hsl x.n).trans hX3
  have N1 : X1.length ≤ 32 := hX1 ▸ all_len R l
  have N2 : X2.length ≤ 32 := hX2 ▸ kidsOf_len R x.n
  have N3 : X3.length ≤ 32 := hX3 ▸ underOf_len R x.n
  have A1 := Lib.hid (fun W (t : Trr w1 q g q2 lo h b S R l l W) => (e1 ▸ troots_any W W t.ta).mono fun e W' ⟨B, h1, h2, h3⟩ => show ∃ B, e = Ending.returned (.func (.func 87) #[] #[.pointer (some ⟨B, 0, none⟩)]) ∧ (∀ n₀, Go.Proofs.YtbidgpeeogoglaaDoor.Seqs Tryd.prog 87 #[.pointer (some ⟨B, 0, none⟩)] natV n₀ (fun k => W.heap.size ≤ k ∧ k < W'.heap.size) 0 X1 W') ∧ Trr w1 q g q2 lo h b S R l l W' from ⟨B, h1, h2, t.call h3⟩)
  have A2 := Lib.hid (fun W (t : Trr w1 q g q2 lo h b S R l l W) => (e2 ▸ tkids_any x.n W W t.ta).mono fun e W' ⟨B, h1, h2, h3⟩ => show ∃ B, e = Ending.returned (.func (.func 87) #[] #[.pointer (some ⟨B, 0, none⟩)]) ∧ (∀ n₀, Go.Proofs.YtbidgpeeogoglaaDoor.Seqs Tryd.prog 87 #[.pointer (some ⟨B, 0, none⟩)] natV n₀ (fun k => W.heap.size ≤ k ∧ k < W'.heap.size) 0 X2 W') ∧ Trr w1 q g q2 lo h b S R l l W' from ⟨B, h1, h2, t.call h3⟩)
  have A3 := Lib.hid (fun W (t : Trr w1 q g q2 lo h b S R l l W) => (e3 ▸ tunder_any x.n W W t.ta).mono fun e W' ⟨B, h1, h2, h3⟩ => show ∃ B, e = Ending.returned (.func (.func 56) #[] #[.pointer (some ⟨B, 0, none⟩)]) ∧ (∀ n₀, Go.Proofs.YtbidgpeeogoglaaDoor.Seqs Tryd.prog 56 #[.pointer (some ⟨B, 0, none⟩)] natV n₀ (fun k => W.heap.size ≤ k ∧ k < W'.heap.size) 0 X3 W') ∧ Trr w1 q g q2 lo h b S R l l W' from ⟨B, h1, h2, t.call h3⟩)
  have B1 := Lib.hid (fun W (t : Trr w1 q g q2 lo h b S R l l W) => (hX1 ▸ rroots_any W W t.rta).mono fun e W' ⟨A, c, h1, h2, _, h3⟩ => show ∃ A c, e = Ending.returned (.slice A X1.length c) ∧ IntsAt W' A (natInts X1) ∧ Below W.heap.size W W' ∧ Trr w1 q g q2 lo h b S R l l W' from ⟨A, c, h1, h2, h3, t.call h3⟩)
  have B2 := Lib.hid (fun W (t : Trr w1 q g q2 lo h b S R l l W) => (hX2 ▸ rkids_any x.n W W t.rta).mono fun e W' ⟨A, c, h1, h2, _, h3⟩ => show ∃ A c, e = Ending.returned (.slice A X2.length c) ∧ IntsAt W' A (natInts X2) ∧ Below W.heap.size W W' ∧ Trr w1 q g q2 lo h b S R l l W' from ⟨A, c, h1, h2, h3, t.call h3⟩)
  have B3 := Lib.hid (fun W (t : Trr w1 q g q2 lo h b S R l l W) => (hX3 ▸ runderOf_any x.n W t.rta).mono fun e W' ⟨A, c, h1, h2, _, h3⟩ => show ∃ A c, e = Ending.returned (.slice A X3.length c) ∧ IntsAt W' A (natInts X3) ∧ Below W.heap.size W W' ∧ Trr w1 q g q2 lo h b S R l l W' from ⟨A, c, h1, h2, h3, t.call h3⟩)
  have G1 := Lib.hid (fun (n : Nat) (w2 w3 : World) (B : Nat) (A : Option Addr) (c : Nat) (hq : ∀ n₀, Go.Proofs.YtbidgpeeogoglaaDoor.Seqs Tryd.prog 87 #[.pointer (some ⟨B, 0, none⟩)] natV n₀ (fun k => n ≤ k ∧ k < w2.heap.size) 0 X1 w2) (hb : Below w2.heap.size w2 w3) (hi : IntsAt w3 A (natInts X1)) (t : Trr w1 q g q2 lo h b S R l l w3) => (gone_it (c := c) (enters_of Tryd.func87 (by kernel_rfl) rfl) all1_eql w3 (fun n₀ => (hq n₀).later hb) hb.size hi N1).mono fun e W' ⟨h1, h2⟩ => show e = Ending.returned (.bool true) ∧ Trr w1 q g q2 lo h b S R l l W' from ⟨h1, t.call h2⟩)
  have G2 := Lib.hid (fun (n : Nat) (w2 w3 : World) (B : Nat) (A : Option Addr) (c : Nat) (hq : ∀ n₀, Go.Proofs.YtbidgpeeogoglaaDoor.Seqs Tryd.prog 87 #[.pointer (some ⟨B, 0, none⟩)] natV n₀ (fun k => n ≤ k ∧ k < w2.heap.size) 0 X2 w2) (hb : Below w2.heap.size w2 w3) (hi : IntsAt w3 A (natInts X2)) (t : Trr w1 q g q2 lo h b S R l l w3) => (gone_it (c := c) (enters_of Tryd.func87 (by kernel_rfl) rfl) all1_eql w3 (fun n₀ => (hq n₀).later hb) hb.size hi N2).mono fun e W' ⟨h1, h2⟩ => show e = Ending.returned (.bool true) ∧ Trr w1 q g q2 lo h b S R l l W' from ⟨h1, t.call h2⟩)
  have G3 := Lib.hid (fun (n : Nat) (w2 w3 : World) (B : Nat) (A : Option Addr) (c : Nat) (hq : ∀ n₀, Go.Proofs.YtbidgpeeogoglaaDoor.Seqs Tryd.prog 56 #[.pointer (some ⟨B, 0, none⟩)] natV n₀ (fun k => n ≤ k ∧ k < w2.heap.size) 0 X3 w2) (hb : Below w2.heap.size w2 w3) (hi : IntsAt w3 A (natInts X3)) (t : Trr w1 q g q2 lo h b S R l l w3) => (gone_it (c := c) (enters_of Tryd.func56 (by kernel_rfl) rfl) under1_eql w3 (fun n₀ => (hq n₀).later hb) hb.size hi N3).mono fun e W' ⟨h1, h2⟩ => show e = Ending.returned (.bool true) ∧ Trr w1 q g q2 lo h b S R l l W' from ⟨h1, t.call h2⟩)
  have WRS := Lib.hid (fun W (t : Trr w1 q g q2 lo h b S R l l W) => (writes_st g W t.ar).mono fun e W' ⟨h1, h2⟩ => show e = Ending.returned (.int .i64 S.writes) ∧ Trr w1 q g q2 lo h b S R l l W' from ⟨h1, h2 ▸ t⟩)
  have CX := Lib.hid (fun W (t : Trr w1 q g q2 lo h b S R l l W) => show W.cell? ⟨w.heap.size, 1, none⟩ = some (.int .i64 x.n) from t.cell (by omega) HNW.out HCX.out.1)
  have TD := Lib.hid (show Trr w1 q g q2 lo h b S R l l w1.drew from T1.out.call (Below.refl _ _).drew)
  clear hact t hag hw hb1 BX hL hcK hr0 hr1 hsl e1 e2 e3 hX1 hX2 hX3 N1 N2 N3
  go_enter Tryd.func12, Tryd.ntmps12
  go_wp2_with (go_at_call 28; fail)
  rw [HW.out]
  refine WR.out.mono ?_
  rintro e w' ⟨rfl, rfl⟩
  go_wp2_with (go_at_call 32; fail)
  refine (HC.out _).mono ?_
  rintro e w' ⟨rfl, rfl⟩
  clear cx1 cx2 cx3 cy0 cz0
  go_upto_region 17 with fail
  refine wp_region_noPanic ?_
  have td := TD.out
  have kd := CX.out _ td
  go_region_held3 (fun W' => W'.cell? ⟨w.heap.size, 1, none⟩ = some (.int .i64 x.n))
    (first | exact CX.out _ (by assumption))
    (first
      | (go_at_call 15; refine (A3.out _ (by assumption)).mono ?_; rintro e w8 ⟨Bi3, rfl, hq8, t8⟩)
      | (go_at_call 18; refine (B3.out _ (by assumption)).mono ?_; rintro e w9 ⟨Ai3, ci3, rfl, hi9, hb9, t9⟩)
      | (go_at_call 19; refine (G3.out _ w8 w9 Bi3 Ai3 ci3 hq8 hb9 hi9 t9).mono ?_; rintro e w10 ⟨rfl, t10⟩)
      | (go_at_call 14; refine (A2.out _ (by assumption)).mono ?_; rintro e w5 ⟨Bi2, rfl, hq5, t5⟩)
      | (go_at_call 17; refine (B2.out _ (by assumption)).mono ?_; rintro e w6 ⟨Ai2, ci2, rfl, hi6, hb6, t6⟩)
      | (go_at_call 19; refine (G2.out _ w5 w6 Bi2 Ai2 ci2 hq5 hb6 hi6 t6).mono ?_; rintro e w7 ⟨rfl, t7⟩)
      | (go_at_call 13; refine (A1.out _ (by assumption)).mono ?_; rintro e w2 ⟨Bi1, rfl, hq2, t2⟩)
      | (go_at_call 16; refine (B1.out _ (by assumption)).mono ?_; rintro e w3 ⟨Ai1, ci1, rfl, hi3, hb3, t3⟩)
      | (go_at_call 19; refine (G1.out _ w2 w3 Bi1 Ai1 ci1 hq2 hb3 hi3 t3).mono ?_; rintro e w4 ⟨rfl, t4⟩)
      | (go_at_call 28; refine (WRS.out _ (by assumption)).mono ?_; rintro e wZ ⟨rfl, tZ⟩))
  refine NoPanic.normal ?_
  go_wp2
  go_ret
  exact ⟨rfl, S, FT.out _ tZ, AG3.out, Int.le_refl _, by omega⟩
end
end Go.Proofs.YtbidgpeeogoglaaDoor
