/-
  lineagelaw17.does: an act that puts.
-/
import Derived.Test.YtbidgpeeogoglaaDoorDoes17
namespace Go.Proofs.YtbidgpeeogoglaaDoor
set_option maxRecDepth 100000
open Go.RowKit Go.Sort

section
variable {S R : St} {q g q2 lo h b : Nat} {l : Int}
set_option maxHeartbeats 8000000 in
theorem does17_3 (x : ActT) (w : World) (t : Trr w q g q2 lo h b S R l l w) (hag : Agree S R) (hL : Laid w) (hge : 0 < g ∧ 0 < lo ∧ 0 < q ∧ 0 < q2) (hw0 : 0 ≤ S.writes) (hw1 : S.writes < 600000) (hr0 : 0 ≤ R.writes) (hr1 : R.writes < 600000) (hcK : pickZ x.kind 6 = ((3 : Nat) : Int)) :
    Calls Tryd.prog 12 #[.pointer (some ⟨g, 0, none⟩), .pointer (some ⟨q, 0, none⟩), .pointer (some ⟨q2, 0, none⟩), .agg x.cells] w (Does17 q g q2 lo h b S (R.act17 l x) w) := by
  have hlt := t.lts
  have hlo := t.rf.los
  have HC := Lib.hid (fun w => pick_atT x.kind 6 3 (by decide) (by decide) hcK w)
  have hact : R.act17 l x = (R.putZ x.n x.s, l) := by unfold St.act17; rw [hcK]; simp
  rw [hact]
  unfold Does17
  obtain ⟨w1, hw⟩ : ∃ w1, w.alloc (.cells x.cells 41) = w1 := ⟨_, rfl⟩
  have BX : Blk w1 w.heap.size 41 x.cells := by rw [← hw]; exact Blk.new _ _ _
  have hb1 : Below w.heap.size w w1 := by rw [← hw]; exact (Below.refl _ _).alloc (Nat.le_refl _) _
  have hs1 : w1.heap.size ≤ w.heap.size + 1 ∧ w.heap.size + 1 ≤ w1.heap.size := by rw [← hw]; simp
  have cx1 : w1.cell? ⟨w.heap.size, 1, none⟩ = some (.int .i64 x.n) := (BX.cell 1).trans x.at1
  have cx2 : w1.cell? ⟨w.heap.size, 2, none⟩ = some (.int .i64 x.us) := (BX.cell 2).trans x.at2
  have cx3 : w1.cell? ⟨w.heap.size, 3, none⟩ = some (.int .i64 x.ub) := (BX.cell 3).trans x.at3
  have cy0 : (w.alloc (.cells x.cells 41)).cell? ⟨w.heap.size, 0, none⟩ = some (.int .i64 x.kind) := ((Blk.new _ _ _).cell 0).trans x.at0
  have cz0 : w1.cell? ⟨w.heap.size, 0, none⟩ = some (.int .i64 x.kind) := (BX.cell 0).trans x.at0
  have T1 := Lib.hid (show Trr w1 q g q2 lo h b S R l l w1 from (t.call hb1).here)
  have L1 := Lib.hid (hL.below hb1 hL.pos)
  have HB1 := Lib.hid hb1
  have HW := Lib.hid hw
  have hnew : w.heap.size ≠ q ∧ w.heap.size ≠ g ∧ w.heap.size ≠ q2 ∧ w.heap.size ≠ h ∧ w.heap.size ≠ b := by omega
  have hgne : 0 ≠ q ∧ 0 ≠ g ∧ 0 ≠ q2 ∧ 0 ≠ h ∧ 0 ≠ b := by omega
  have HNW := Lib.hid hnew
  have HGN := Lib.hid hgne
  have HCX := Lib.hid (And.intro cx1 (And.intro cx2 cx3))
  have WR := Lib.hid (writes_st g w1 T1.out.ar)
  have hpw := putZ_writes S x.n x.s
  have PA := Lib.hid (fun (R' : St) W (t : Trr w1 q g q2 lo h b S R' l l W) => (putA x.n x.s W t.ar hw0 (by omega)).mono fun e W' ⟨h1, h2, h3⟩ => show e = Ending.returned (errOf (putNo x.n)) ∧ Trr w1 q g q2 lo h b (S.putZ x.n x.s) R' l l W' ∧ W.grownBy W' (some g) from ⟨h1, Both.code t (by decide) (Tn.ofGrown h3 (.inr rfl)) (t.cb.grown h3 (fun e => by have := t.ap.qs.1; cases e; omega)) h2, h3⟩)
  have PR := Lib.hid (fun (S' : St) W (t : Trr w1 q g q2 lo h b S' R l l W) => (putR x.n x.s W t.rf hr0 (by omega)).mono fun e W' ⟨h1, h2, h3⟩ => show e = Ending.returned (.int .i64 (putNo x.n)) ∧ Trr w1 q g q2 lo h b S' (R.putZ x.n x.s) l l W' ∧ Tn (fun k => k = h ∨ k = b) W W' from ⟨h1, Both.doc t (h3.mono fun k hk => .inr hk) ⟨(h3.block q2 t.rb.lt (by have := t.ap.q2s; omega)).trans t.rb.eq⟩ h2, h3⟩)
  have hnn := (no_ok S x.n).1
  have PP := Lib.hid (fun (S' R' : St) W (t : Trr w1 q g q2 lo h b S' R' l l W) => (plain_same (putNo x.n) hnn.1 hnn.2 W (t.laid L1.out HGN.out)).mono fun e W' ⟨h1, h2⟩ => show e = Ending.returned (.bool true) ∧ Trr w1 q g q2 lo h b S' R' l l W' ∧ Below W.heap.size W W' from ⟨h1, t.call h2, h2⟩)
  have FIN := Lib.hid (fun W (t : Trr w1 q g q2 lo h b (S.putZ x.n x.s) (R.putZ x.n x.s) l l W) => show Trr w q g q2 lo h b (S.putZ x.n x.s) (R.putZ x.n x.s) l l W from t.from HB1.out)
  have AG3 := Lib.hid (hag.putZ x.n x.s)
  have HWW := Lib.hid (show S.writes ≤ (S.putZ x.n x.s).writes ∧ (S.putZ x.n x.s).writes ≤ S.writes + 8 from ⟨hpw.1, by omega⟩)
  have HRC := Lib.hid (fun (S' R' : St) W (t : Trr w1 q g q2 lo h b S' R' l l W) => show W.cell? ⟨q2, 0, none⟩ = some (.pointer (some ⟨h, 0, none⟩)) from (t.rb.cell 0).trans rfl)
  have HRX := Lib.hid (x.row BX)
  have KS := Lib.hid (fun (S' R' : St) W (t : Trr w1 q g q2 lo h b S' R' l l W) => show actTAt w.heap.size x W from actTAt_row (t.cell (by omega) HNW.out HCX.out.1) (t.row (by omega) HNW.out HRX.out))
  have TD := Lib.hid (show Trr w1 q g q2 lo h b S R l l w1.drew from T1.out.call (Below.refl _ _).drew)
  obtain ⟨ek, hek⟩ : ∃ ek, errOf (putNo x.n) = ek := ⟨_, rfl⟩
  rw [hek] at PA PP
  clear hek hact t hag hw hb1 BX hL hcK hr0 hr1 hpw hnn
  go_enter Tryd.func12, Tryd.ntmps12
  go_wp2_with (go_at_call 28; fail)
  rw [HW.out]
  refine WR.out.mono ?_
  rintro e w' ⟨rfl, rfl⟩
  go_wp2_with (go_at_call 32; fail)
  refine (HC.out _).mono ?_
  rintro e w' ⟨rfl, rfl⟩
  clear cx1 cx2 cx3 cy0 cz0
  go_upto_region 15 with fail
  refine wp_region_noPanic ?_
  have td := TD.out
  have kd := KS.out _ _ _ td
  have rd := HRC.out _ _ _ td
  go_region_held3 (fun W' => W'.cell? ⟨q2, 0, none⟩ = some (.pointer (some ⟨h, 0, none⟩)) ∧ W'.cell? ⟨w.heap.size, 1, none⟩ = some (.int .i64 x.n) ∧ W'.cell? ⟨w.heap.size, 4, none⟩ = some (.bool x.s.used) ∧ W'.cell? ⟨w.heap.size, 5, none⟩ = some (.bool x.s.dead) ∧ W'.cell? ⟨w.heap.size, 6, none⟩ = some (.int .i64 x.s.kids) ∧ W'.cell? ⟨w.heap.size, 7, none⟩ = some (.int .i64 x.s.prev) ∧ W'.cell? ⟨w.heap.size, 8, none⟩ = some (.int .i64 x.s.next) ∧ W'.cell? ⟨w.heap.size, 9, none⟩ = some (.int .i64 x.s.slot) ∧ W'.cell? ⟨w.heap.size, 10, none⟩ = some (.int .i64 x.s.birth) ∧ W'.cell? ⟨w.heap.size, 11, none⟩ = some (.int .i64 x.s.upSlot) ∧ W'.cell? ⟨w.heap.size, 12, none⟩ = some (.int .i64 x.s.upBirth) ∧ W'.cell? ⟨w.heap.size, 13, none⟩ = some (.int .i64 x.s.kind) ∧ W'.cell? ⟨w.heap.size, 14, none⟩ = some (.string x.s.user) ∧ W'.cell? ⟨w.heap.size, 15, none⟩ = some (.string x.s.label) ∧ W'.cell? ⟨w.heap.size, 16, none⟩ = some (.int .u64 x.s.scopes) ∧ W'.cell? ⟨w.heap.size, 17, none⟩ = some (.int .i64 x.s.level) ∧ W'.cell? ⟨w.heap.size, 18, none⟩ = some (.int .i64 x.s.born) ∧ W'.cell? ⟨w.heap.size, 19, none⟩ = some (.int .i64 x.s.deadline) ∧ W'.cell? ⟨w.heap.size, 20, none⟩ = some (.int .i64 x.s.depth))
    (first | exact And.intro rd kd | exact And.intro (HRC.out _ _ _ hA) (KS.out _ _ _ hA) | exact And.intro (HRC.out _ _ _ hB) (KS.out _ _ _ hB) | exact And.intro (HRC.out _ _ _ hC) (KS.out _ _ _ hC))
    (first
      | (go_at_call 51; refine (PA.out _ _ (by assumption)).mono ?_; rintro e wA ⟨rfl, hA, _⟩)
      | (go_at_call 52; refine (PR.out _ _ (by assumption)).mono ?_; rintro e wB ⟨rfl, hB, _⟩)
      | (go_at_call 35; refine (PP.out _ _ _ (by assumption)).mono ?_; rintro e wC ⟨rfl, hC, _⟩))
  all_goals refine NoPanic.normal ?_
  all_goals go_wp2
  all_goals go_ret
  all_goals exact ⟨rfl, _, FIN.out _ hC, AG3.out, HWW.out⟩
end
end Go.Proofs.YtbidgpeeogoglaaDoor
