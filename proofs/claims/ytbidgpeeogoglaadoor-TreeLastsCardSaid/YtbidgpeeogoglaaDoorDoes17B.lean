/-
  lineagelaw17.does: a slot becomes Used.
-/
import Derived.Test.YtbidgpeeogoglaaDoorDoes17
namespace Go.Proofs.YtbidgpeeogoglaaDoor
set_option maxRecDepth 100000
open Go.RowKit Go.Sort

section
variable {S R : St} {q g q2 lo h b : Nat} {l : Int}
set_option maxHeartbeats 8000000 in
theorem does17_5 (x : ActT) (w : World) (t : Trr w q g q2 lo h b S R l l w) (hag : Agree S R) (hL : Laid w) (hge : 0 < g ∧ 0 < lo ∧ 0 < q ∧ 0 < q2) (hw0 : 0 ≤ S.writes) (hw1 : S.writes < 600000) (hr0 : 0 ≤ R.writes) (hr1 : R.writes < 600000) (hcK : pickZ x.kind 6 = ((5 : Nat) : Int)) :
    Calls Tryd.prog 12 #[.pointer (some ⟨g, 0, none⟩), .pointer (some ⟨q, 0, none⟩), .pointer (some ⟨q2, 0, none⟩), .agg x.cells] w (Does17 q g q2 lo h b S (R.act17 l x) w) := by
  have hlt := t.lts
  have hlo := t.rf.los
  have HC := Lib.hid (fun w => pick_atT x.kind 6 5 (by decide) (by decide) hcK w)
  have hact : R.act17 l x = (R.putZ (pickZ x.n 32) (SlotV.born0 x.ub), l) := by unfold St.act17; rw [hcK]; simp
  rw [hact]
  unfold Does17
  obtain ⟨w1, hw⟩ : ∃ w1, w.alloc (.cells x.cells 41) = w1 := ⟨_, rfl⟩
  have BX : Blk w1 w.heap.size 41 x.cells := by rw [← hw]; exact Blk.new _ _ _
  have hb1 : Below w.heap.size w w1 := by rw [← hw]; exact (Below.refl _ _).alloc (Nat.le_refl _) _
  have hs1 : w1.heap.size ≤ w.heap.size + 1 ∧ w.heap.size + 1 ≤ w1.heap.size := by rw [← hw]; simp
  have cx1 : w1.cell? ⟨w.heap.size, 1, none⟩ = some (.int .i64 x.n) := (BX.cell 1).trans x.at1
  have cx2 : w1.cell? ⟨w.heap.size, 2, none⟩ = some (.int .i64 x.us) := (BX.cell 2).trans x.at2
  have cx3 : w1.cell? ⟨w.heap.size, 3, none⟩ = some (.int .i64 x.ub) := (BX.cell 3).trans x.at3
  have cy0 : (w.alloc (.cells x.cells 41)).cell? ⟨w.heap.size, 0, none⟩ = some (.int .i64 x.kind) := ((Blk.new _ _ _).cell 0).trans x.at0
  have cz0 : w1.cell? ⟨w.heap.size, 0, none⟩ = some (.int .i64 x.kind) := (BX.cell 0).trans x.at0
  have T1 := Lib.hid (show Trr w1 q g q2 lo h b S R l l w1 from (t.call hb1).here)
  have L1 := Lib.hid (hL.below hb1 hL.pos)
  have HB1 := Lib.hid hb1
  have HW := Lib.hid hw
  have hnew : w.heap.size ≠ q ∧ w.heap.size ≠ g ∧ w.heap.size ≠ q2 ∧ w.heap.size ≠ h ∧ w.heap.size ≠ b := by omega
  have hgne : 0 ≠ q ∧ 0 ≠ g ∧ 0 ≠ q2 ∧ 0 ≠ h ∧ 0 ≠ b := by omega
  have HNW := Lib.hid hnew
  have HGN := Lib.hid hgne
  have HCX := Lib.hid (And.intro cx1 (And.intro cx2 cx3))
  have WR := Lib.hid (writes_st g w1 T1.out.ar)
  have hpw := putZ_writes S (pickZ x.n 32) (SlotV.born0 x.ub)
  have PA := Lib.hid (fun (R' : St) W (t : Trr w1 q g q2 lo h b S R' l l W) => (putA (pickZ x.n 32) (SlotV.born0 x.ub) W t.ar hw0 (by omega)).mono fun e W' ⟨h1, h2, h3⟩ => show e = Ending.returned (errOf (putNo (pickZ x.n 32))) ∧ Trr w1 q g q2 lo h b (S.putZ (pickZ x.n 32) (SlotV.born0 x.ub)) R' l l W' ∧ W.grownBy W' (some g) from ⟨h1, Both.code t (by decide) (Tn.ofGrown h3 (.inr rfl)) (t.cb.grown h3 (fun e => by have := t.ap.qs.1; cases e; omega)) h2, h3⟩)
  have PR := Lib.hid (fun (S' : St) W (t : Trr w1 q g q2 lo h b S' R l l W) => (putR (pickZ x.n 32) (SlotV.born0 x.ub) W t.rf hr0 (by omega)).mono fun e W' ⟨h1, h2, h3⟩ => show e = Ending.returned (.int .i64 (putNo (pickZ x.n 32))) ∧ Trr w1 q g q2 lo h b S' (R.putZ (pickZ x.n 32) (SlotV.born0 x.ub)) l l W' ∧ Tn (fun k => k = h ∨ k = b) W W' from ⟨h1, Both.doc t (h3.mono fun k hk => .inr hk) ⟨(h3.block q2 t.rb.lt (by have := t.ap.q2s; omega)).trans t.rb.eq⟩ h2, h3⟩)
  have hnn := (no_ok S (pickZ x.n 32)).1
  have PP := Lib.hid (fun (S' R' : St) W (t : Trr w1 q g q2 lo h b S' R' l l W) => (plain_same (putNo (pickZ x.n 32)) hnn.1 hnn.2 W (t.laid L1.out HGN.out)).mono fun e W' ⟨h1, h2⟩ => show e = Ending.returned (.bool true) ∧ Trr w1 q g q2 lo h b S' R' l l W' ∧ Below W.heap.size W W' from ⟨h1, t.call h2, h2⟩)
  have FIN := Lib.hid (fun W (t : Trr w1 q g q2 lo h b (S.putZ (pickZ x.n 32) (SlotV.born0 x.ub)) (R.putZ (pickZ x.n 32) (SlotV.born0 x.ub)) l l W) => show Trr w q g q2 lo h b (S.putZ (pickZ x.n 32) (SlotV.born0 x.ub)) (R.putZ (pickZ x.n 32) (SlotV.born0 x.ub)) l l W from t.from HB1.out)
  have AG3 := Lib.hid (hag.putZ (pickZ x.n 32) (SlotV.born0 x.ub))
  have HWW := Lib.hid (show S.writes ≤ (S.putZ (pickZ x.n 32) (SlotV.born0 x.ub)).writes ∧ (S.putZ (pickZ x.n 32) (SlotV.born0 x.ub)).writes ≤ S.writes + 8 from ⟨hpw.1, by omega⟩)
  have HRC := Lib.hid (fun (S' R' : St) W (t : Trr w1 q g q2 lo h b S' R' l l W) => show W.cell? ⟨q2, 0, none⟩ = some (.pointer (some ⟨h, 0, none⟩)) from (t.rb.cell 0).trans rfl)
  have HPK := Lib.hid (fun w => show Calls Tryd.prog 32 #[.int .i64 x.n, .int .i64 32] w (RetSame (.int .i64 (pickZ x.n 32)) w) from pick_any x.n 32 (by decide) (by decide) w)
  have HBA := Lib.hid (fun w => rbare_any w)
  have hsv : ({ SlotV.bare with used := true, birth := x.ub } : SlotV) = SlotV.born0 x.ub := rfl
  have hb6 : SlotV.bare.birth = 0 := rfl
  obtain ⟨ek, hek⟩ : ∃ ek, errOf (putNo (pickZ x.n 32)) = ek := ⟨_, rfl⟩
  rw [hek] at PA PP
  generalize putNo (pickZ x.n 32) = nk at *
  have HCELLS := Lib.hid (fun W' B (h : Blk W' B 39 SlotV.bare.cells) => show Blk ((W'.setCell ⟨B, 0, none⟩ (.bool true)).setCell ⟨B, 6, none⟩ (.int .i64 x.ub)) B 39 (SlotV.born0 x.ub).cells from by have := (h.set_ 0 (.bool true)).set_ 6 (.int .i64 x.ub); simpa [SlotV.cells, SlotV.born0] using this)
  generalize SlotV.born0 x.ub = s5 at *
  generalize pickZ x.n 32 = pn at *
  clear hek hact t hag hw hb1 BX hL hcK hr0 hr1 hpw hnn hsv hb6
  go_enter Tryd.func12, Tryd.ntmps12
  go_wp2_with (go_at_call 28; fail)
  rw [HW.out]
  refine WR.out.mono ?_
  rintro e w' ⟨rfl, rfl⟩
  go_wp2_with (go_at_call 32; fail)
  refine (HC.out _).mono ?_
  rintro e w' ⟨rfl, rfl⟩
  go_wp2_with (go_at_call 32; fail)
  refine (HPK.out _).mono ?_
  rintro e w' ⟨rfl, rfl⟩
  go_wp2_with (go_at_call 48; fail)
  refine (HBA.out _).mono ?_
  rintro e w2 ⟨rfl, hb2⟩
  obtain ⟨B, hB⟩ : ∃ B, w2.heap.size = B := ⟨_, rfl⟩
  have hs2 := hb2.size
  obtain ⟨V2, hV2⟩ : ∃ V2, w2.alloc (.cells SlotV.bare.cells 39) = V2 := ⟨_, rfl⟩
  have hb3 : Below w1.heap.size w1 V2 := by rw [← hV2]; exact hb2.alloc hb2.size _
  have K2 := Lib.hid (show Blk V2 B 39 SlotV.bare.cells by rw [← hV2, ← hB]; exact Blk.new _ _ _)
  have T2 := Lib.hid (T1.out.call hb3)
  have cw3 : V2.cell? ⟨w.heap.size, 3, none⟩ = some (.int .i64 x.ub) := (hb3.cell (p := ⟨w.heap.size, 3, none⟩) (by show w.heap.size < w1.heap.size; omega)).trans HCX.out.2.2
  have d0 : V2.cell? ⟨B, 0, none⟩ = some (.bool false) := (K2.out.cell 0).trans rfl
  have d6 : V2.cell? ⟨B, 6, none⟩ = some (.int .i64 0) := (K2.out.cell 6).trans rfl
  have f0 := K2.out.frozen 0
  have f6 := K2.out.frozen 6
  have hls := T1.out.lts
  have hnb : q ≠ B ∧ g ≠ B ∧ q2 ≠ B ∧ h ≠ B ∧ b ≠ B ∧ w1.heap.size ≤ B := by omega
  have HV2 := Lib.hid hV2
  have HBB := Lib.hid hB
  clear hV2 hb2 hb3 hB hls
  go_upto_region 22 with (first
    | ((with_reducible show wpList _ _ _ _ _ (World.alloc _ _)); refine wpList_store_new (ty := 39) rfl rfl rfl rfl rfl (SlotV.one _) slotInfo ?_; rw [HV2.out, HBB.out]))
  have K3 := Lib.hid (HCELLS.out V2 B K2.out)
  have T3 := Lib.hid (show Trr w1 q g q2 lo h b S R l l ((V2.setCell ⟨B, 0, none⟩ (.bool true)).setCell ⟨B, 6, none⟩ (.int .i64 x.ub)) from (Both.far T2.out K2.out (by decide) hnb 0 (.bool true)).far (K2.out.set_ 0 (.bool true)) (by decide) hnb 6 (.int .i64 x.ub))
  generalize (V2.setCell ⟨B, 0, none⟩ (.bool true)).setCell ⟨B, 6, none⟩ (.int .i64 x.ub) = V3 at *
  have HNB := Lib.hid hnb
  clear cx1 cx2 cx3 cy0 cz0 cw3 d0 d6 f0 f6 T2 K2 hnb
  refine wp_region_noPanic ?_
  have td : Trr w1 q g q2 lo h b S R l l V3.drew := T3.out.call (Below.refl _ _).drew
  have kb : Blk V3.drew B 39 s5.cells := K3.out.below (Below.refl V3.heap.size V3).drew K3.out.lt
  have kd := slotCs_blk kb
  have rd := HRC.out _ _ _ td
  go_region_held3 (fun W' => W'.cell? ⟨q2, 0, none⟩ = some (.pointer (some ⟨h, 0, none⟩)) ∧ W'.cell? ⟨B, 0, none⟩ = some (.bool s5.used) ∧ W'.cell? ⟨B, 1, none⟩ = some (.bool s5.dead) ∧ W'.cell? ⟨B, 2, none⟩ = some (.int .i64 s5.kids) ∧ W'.cell? ⟨B, 3, none⟩ = some (.int .i64 s5.prev) ∧ W'.cell? ⟨B, 4, none⟩ = some (.int .i64 s5.next) ∧ W'.cell? ⟨B, 5, none⟩ = some (.int .i64 s5.slot) ∧ W'.cell? ⟨B, 6, none⟩ = some (.int .i64 s5.birth) ∧ W'.cell? ⟨B, 7, none⟩ = some (.int .i64 s5.upSlot) ∧ W'.cell? ⟨B, 8, none⟩ = some (.int .i64 s5.upBirth) ∧ W'.cell? ⟨B, 9, none⟩ = some (.int .i64 s5.kind) ∧ W'.cell? ⟨B, 10, none⟩ = some (.string s5.user) ∧ W'.cell? ⟨B, 11, none⟩ = some (.string s5.label) ∧ W'.cell? ⟨B, 12, none⟩ = some (.int .u64 s5.scopes) ∧ W'.cell? ⟨B, 13, none⟩ = some (.int .i64 s5.level) ∧ W'.cell? ⟨B, 14, none⟩ = some (.int .i64 s5.born) ∧ W'.cell? ⟨B, 15, none⟩ = some (.int .i64 s5.deadline) ∧ W'.cell? ⟨B, 16, none⟩ = some (.int .i64 s5.depth))
    (first | exact And.intro rd kd | exact And.intro (HRC.out _ _ _ hA) (slotCs_blk kA) | exact And.intro (HRC.out _ _ _ hB) (slotCs_blk kB) | exact And.intro (HRC.out _ _ _ hC) (slotCs_blk kC))
    (first
      | (go_at_call 51; refine (PA.out _ _ td).mono ?_; rintro e wA ⟨rfl, hA, gA⟩; have kA : Blk wA B 39 s5.cells := kb.grown gA (fun e => by cases e; exact HNB.out.2.1 rfl))
      | (go_at_call 52; refine (PR.out _ _ hA).mono ?_; rintro e wB ⟨rfl, hB, gB⟩; have kB : Blk wB B 39 s5.cells := ⟨(gB.block B kA.lt (by have := HNB.out; omega)).trans kA.eq⟩)
      | (go_at_call 52; refine (PR.out _ _ td).mono ?_; rintro e wB ⟨rfl, hB, gB⟩; have kB : Blk wB B 39 s5.cells := ⟨(gB.block B kb.lt (by have := HNB.out; omega)).trans kb.eq⟩)
      | (go_at_call 51; refine (PA.out _ _ hB).mono ?_; rintro e wA ⟨rfl, hA, gA⟩; have kA : Blk wA B 39 s5.cells := kB.grown gA (fun e => by cases e; exact HNB.out.2.1 rfl))
      | (go_at_call 35; refine (PP.out _ _ _ (by assumption)).mono ?_; rintro e wC ⟨rfl, hC, gC⟩; have kC : Blk wC B 39 s5.cells := by first | exact kB.below gC kB.lt | exact kA.below gC kA.lt))
  all_goals refine NoPanic.normal ?_
  all_goals go_wp2
  all_goals go_ret
  all_goals exact ⟨rfl, _, FIN.out _ hC, AG3.out, HWW.out⟩
end
end Go.Proofs.YtbidgpeeogoglaaDoor
