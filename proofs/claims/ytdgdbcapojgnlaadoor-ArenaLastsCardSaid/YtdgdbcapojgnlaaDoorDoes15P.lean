/-
  lineagelaw15.does, an act that puts.
-/
import Derived.Test.YtdgdbcapojgnlaaDoorDoes15D
namespace Go.Proofs.YtdgdbcapojgnlaaDoor
set_option maxRecDepth 100000
open Go.RowKit Go.Shelf Go.Sort
attribute [local go_sem] Oper.semAt_some

set_option maxHeartbeats 8000000 in
theorem does1 {S : St} {g lo h b : Nat} (x : ActV) (w : World) (hA : IsAr w g S) (hR : IsRB lo h b S w) (hg : g < lo) (hlo : lo ≤ w.heap.size) (hL : Laid w) (hge : 0 < g) (hw0 : 0 ≤ S.writes) (hw1 : S.writes < 1000000) (hcK : pickZ x.kind 7 = (1 : Nat)) :
    Calls Tryd.prog 10 #[.pointer (some ⟨g, 0, none⟩), .pointer (some ⟨h, 0, none⟩), .agg x.cells] w (fun e w' => e = .returned (.bool true) ∧ Two w g lo h b (S.act x) (S.act x) w') := by
  have hfl : S.free.length ≤ 32 := nodup_len 32 _ hA.nodup hA.free_lt
  have hls := hR.los
  have hgl := hA.lt
  have hact : S.act x = S.actC 1 x := by unfold St.act; rw [hcK]; rfl
  rw [hact]
  clear hact
  have HC := Lib.hid (fun w => show Calls Tryd.prog 9 #[.int .i64 x.kind, .int .i64 7] w (RetSame (.int .i64 ((1 : Nat) : Int)) w) from by
    have h := pick_any x.kind 7 (by decide) (by decide) w
    rwa [show pickZ x.kind ((7 : Nat) : Int) = ((1 : Nat) : Int) from hcK] at h)
  obtain ⟨w1, hw⟩ : ∃ w1, w.alloc (.cells x.cells 38) = w1 := ⟨_, rfl⟩
  have BX : Blk w1 w.heap.size 38 x.cells := by rw [← hw]; exact Blk.new _ _ _
  have hb1 : Below w.heap.size w w1 := by rw [← hw]; exact (Below.refl _ _).alloc (Nat.le_refl _) _
  have hs1 : w1.heap.size ≤ w.heap.size + 1 ∧ w.heap.size + 1 ≤ w1.heap.size := by rw [← hw]; simp
  have cx0 : (w.alloc (.cells x.cells 38)).cell? ⟨w.heap.size, 0, none⟩ = some (.int .i64 x.kind) := ((Blk.new _ _ _).cell 0).trans x.at0
  have cx1 : w1.cell? ⟨w.heap.size, 1, none⟩ = some (.int .i64 x.n) := (BX.cell 1).trans x.at1
  have T1 := Lib.hid (Two.start (hA.below hb1 hgl) (hR.call hb1))
  have L1 := Lib.hid (hL.below hb1 hL.pos)
  have HRX := Lib.hid (x.row BX)
  have HB1 := Lib.hid hb1
  have HW := Lib.hid hw
  have HU := Lib.hid Tryd.underlying36
  have HPL := Lib.hid (fun (k : Int) h1 h2 W hg => plain_same k h1 h2 W hg)
  have HNO := Lib.hid (fun n => no_ok S n)
  have hnew : w.heap.size ≠ g ∧ w.heap.size ≠ h ∧ w.heap.size ≠ b := by omega
  have hgne : 0 ≠ g ∧ 0 ≠ h ∧ 0 ≠ b := by omega
  have HGN := Lib.hid hgne
  -- behind a region that ends in Plain
  have fin : ∀ (S' : St) (W W' : World), Two w1 g lo h b S' S' W → Below W.heap.size W W' → Two w g lo h b S' S' W' := fun S' W W' t hb =>
    have t' := t.call hb
    ⟨t'.ar, t'.rf, (Tn.ofBelow _ HB1.out).trans t'.tn⟩
  have FIN := Lib.hid fin
  clear hw BX hb1 hA hR hL hcK hgne fin
  have PA := Lib.hid (fun (SR : St) W (t : Two w1 g lo h b S SR W) => (putA x.n x.s W t.ar hw0 (by omega)).mono fun e W' ⟨h1, h2, h3⟩ => show e = Ending.returned (errOf (putNo x.n)) ∧ Two w1 g lo h b (S.putZ x.n x.s) SR W' from ⟨h1, t.turnA hg h2 h3⟩)
  have PR := Lib.hid (fun (SA : St) W (t : Two w1 g lo h b SA S W) => (putR x.n x.s W t.rf hw0 (by omega)).mono fun e W' ⟨h1, h2, h3⟩ => show e = Ending.returned (.int .i64 (putNo x.n)) ∧ Two w1 g lo h b SA (S.putZ x.n x.s) W' from ⟨h1, t.turnR hg h2 h3⟩)
  have KS := Lib.hid (fun (SA SR : St) W (t : Two w1 g lo h b SA SR W) => show actAt w.heap.size x W from actAt_row (t.cell (by omega) hnew cx1) (t.row (by omega) hnew HRX.out))
  have PP := Lib.hid (fun (S' : St) W (t : Two w1 g lo h b S' S' W) => (HPL.out (putNo x.n) (HNO.out x.n).1.1 (HNO.out x.n).1.2 W (t.laid L1.out HGN.out)).mono fun e W' ⟨h1, h2⟩ => show e = Ending.returned (.bool true) ∧ Two w1 g lo h b S' S' W' from ⟨h1, t.call h2⟩)
  have TD := Lib.hid (T1.out.call (Below.refl _ _).drew)
  obtain ⟨ek, hek⟩ : ∃ ek, errOf (putNo x.n) = ek := ⟨_, rfl⟩
  rw [hek] at PA PP
  clear hek HNO HPL
  go_enter Tryd.func10, Tryd.ntmps10
  go_wp2_with (go_at_call 9; fail)
  refine (HC.out _).mono ?_
  rintro e w' ⟨rfl, rfl⟩
  rw [HW.out]
  go_wp2
  refine wp_region_noPanic ?_
  have td := TD.out
  have kd := KS.out _ _ _ td
  go_region_held3 (fun W' => W'.cell? ⟨w.heap.size, 1, none⟩ = some (.int .i64 x.n) ∧ W'.cell? ⟨w.heap.size, 2, none⟩ = some (.bool x.s.used) ∧ W'.cell? ⟨w.heap.size, 3, none⟩ = some (.bool x.s.dead) ∧ W'.cell? ⟨w.heap.size, 4, none⟩ = some (.int .i64 x.s.kids) ∧ W'.cell? ⟨w.heap.size, 5, none⟩ = some (.int .i64 x.s.prev) ∧ W'.cell? ⟨w.heap.size, 6, none⟩ = some (.int .i64 x.s.next) ∧ W'.cell? ⟨w.heap.size, 7, none⟩ = some (.int .i64 x.s.slot) ∧ W'.cell? ⟨w.heap.size, 8, none⟩ = some (.int .i64 x.s.birth) ∧ W'.cell? ⟨w.heap.size, 9, none⟩ = some (.int .i64 x.s.upSlot) ∧ W'.cell? ⟨w.heap.size, 10, none⟩ = some (.int .i64 x.s.upBirth) ∧ W'.cell? ⟨w.heap.size, 11, none⟩ = some (.int .i64 x.s.kind) ∧ W'.cell? ⟨w.heap.size, 12, none⟩ = some (.string x.s.user) ∧ W'.cell? ⟨w.heap.size, 13, none⟩ = some (.string x.s.label) ∧ W'.cell? ⟨w.heap.size, 14, none⟩ = some (.int .u64 x.s.scopes) ∧ W'.cell? ⟨w.heap.size, 15, none⟩ = some (.int .i64 x.s.level) ∧ W'.cell? ⟨w.heap.size, 16, none⟩ = some (.int .i64 x.s.born) ∧ W'.cell? ⟨w.heap.size, 17, none⟩ = some (.int .i64 x.s.deadline) ∧ W'.cell? ⟨w.heap.size, 18, none⟩ = some (.int .i64 x.s.depth))
    (first | assumption | exact KS.out _ _ _ (by assumption))
    (first
      | (go_at_call 29; refine (PA.out _ _ (by assumption)).mono ?_; rintro e wA ⟨rfl, hA⟩)
      | (go_at_call 30; refine (PR.out _ _ (by assumption)).mono ?_; rintro e wB ⟨rfl, hB⟩)
      | (go_at_call 28; refine (PP.out _ _ (by assumption)).mono ?_; rintro e wC ⟨rfl, hC⟩))
  all_goals refine NoPanic.normal ?_
  all_goals go_wp2
  all_goals go_ret
  all_goals exact ⟨rfl, FIN.out _ _ _ hC (Below.refl _ _)⟩
end Go.Proofs.YtdgdbcapojgnlaaDoor
