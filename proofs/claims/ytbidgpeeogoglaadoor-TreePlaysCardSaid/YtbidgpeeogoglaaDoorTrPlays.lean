/-
  lineagelaw17.TreePlays: the whole walk.
-/
import Derived.Test.YtbidgpeeogoglaaDoorTrInv
namespace Go.Proofs.YtbidgpeeogoglaaDoor
set_option maxRecDepth 100000
open Go.RowKit Go.Sort

set_option maxHeartbeats 16000000 in
theorem tplays_any (P0 : Option Addr) (cap : Nat) (xs : List ActT) (w : World) (hin : ActTsAt w P0 xs) (_ : xs.length * 176 ≤ 140737488351232) (hL : Laid w) :
    Calls Tryd.prog 5 #[.slice P0 xs.length cap] w (RetB (.bool true) w) := by
  have HI := Lib.hid hin
  have hge := hL.pos
  have HL := Lib.hid hL
  clear hin hL
  by_cases hbig : 1000 < xs.length
  · have hbig' : (1000 : Int) < (xs.length : Int) := by omega
    go_enter Tryd.func5, Tryd.ntmps5
    go_wp2
    go_ret
    exact ⟨rfl, Below.refl _ _⟩
  have hbig' : ¬ (1000 : Int) < (xs.length : Int) := by omega
  go_enter Tryd.func5, Tryd.ntmps5
  go_wp2_with (go_at_call 8; fail)
  refine (new_st w).mono ?_
  rintro e w1 ⟨g, rfl, hg, hS1, hb1⟩
  have hgl := hS1.lt
  have hs1 := hb1.size
  have K1 := Lib.hid hS1
  have B1 := Lib.hid hb1
  clear hS1 hb1
  go_wp2_with (go_at_call 9; fail)
  refine (trNew_any g w1).mono ?_
  rintro e w1' ⟨rfl, hB1, hb1'⟩
  have hs1' := hb1'.size
  have hlt1 := hB1.lt
  have K1' := Lib.hid (K1.out.below hb1' (by omega))
  have Q1 := Lib.hid hB1
  have B1' := Lib.hid (B1.out.trans (hb1'.mono hs1))
  have WR := Lib.hid (show Calls Tryd.prog 28 #[.pointer (some ⟨g, 0, none⟩)] w1' (RetSame (.int .i64 0) w1') from writes_st g w1' K1'.out)
  clear hB1 hb1' K1 B1
  go_wp2_with (go_at_call 28; fail)
  refine WR.out.mono ?_
  rintro e w' ⟨rfl, rfl⟩
  go_wp2_with (go_at_call 11; fail)
  refine (rnew_any w1').mono ?_
  rintro e w2 ⟨h, b, rfl, hh, hb, hR, hb2⟩
  have hs2 := hb2.size
  have hhb := hR.los
  have K2 := Lib.hid (K1'.out.below hb2 (by omega))
  have Q2 := Lib.hid (Q1.out.below hb2 hlt1)
  have R2 := Lib.hid hR
  have B2 := Lib.hid (B1'.out.trans (hb2.mono (by omega)))
  clear hR hb2 K1' B1' Q1 WR
  go_wp2_with (go_at_call 10; fail)
  refine (rtrNew_any h w2).mono ?_
  rintro e w3 ⟨rfl, hB3, hb3⟩
  have hs3 := hb3.size
  have hlt3 := hB3.lt
  obtain ⟨q, hq⟩ : ∃ q, w1.heap.size = q := ⟨_, rfl⟩
  obtain ⟨q2, hq2⟩ : ∃ q2, w2.heap.size = q2 := ⟨_, rfl⟩
  obtain ⟨lo, hlo⟩ : ∃ lo, w1'.heap.size = lo := ⟨_, rfl⟩
  have I3 := Lib.hid (show InvT w3 q g q2 lo h b 0 St.new St.new (-1) w3 from by
    subst hq2 hq hlo
    exact ⟨⟨Q2.out.below hb3 (by omega), K2.out.below hb3 (by omega), hB3, R2.out.call hb3, ⟨by omega, ⟨by omega, by omega⟩, ⟨by omega, by omega, by omega, by omega⟩, ⟨by omega, by omega, by omega⟩⟩, Tn.refl _ _⟩, ⟨rfl, rfl, by decide⟩, ⟨by decide, by decide⟩, ⟨by decide, by decide⟩⟩)
  have B4 := Lib.hid (B2.out.trans (hb3.mono (by omega)))
  have L4 := Lib.hid (HL.out.below B4.out hge)
  have hgeq : 0 < g ∧ 0 < lo ∧ 0 < q ∧ 0 < q2 := by omega
  have hwg : w.heap.size ≤ g ∧ w.heap.size ≤ q ∧ w.heap.size ≤ q2 ∧ w.heap.size ≤ lo ∧ w.heap.size ≤ w3.heap.size := by omega
  have HGQ := Lib.hid hgeq
  have HWG := Lib.hid hwg
  rw [hq2, hq]
  clear hgeq hwg hB3 hb3 K2 Q2 R2 B2 hh hb hhb hlo hlt1 hlt3 hs1 hs1' hs2 hs3 hg hgl hq2 hq
  go_wp2
  go_loopw [6] (fun i wr' => ∃ (m : Nat) (S R : St) (l : Int), m ≤ xs.length ∧ i = .int .i64 m ∧ InvT w3 q g q2 lo h b m S R l wr') (fun i _ => xs.length - (intOf i).toNat)
  case atStart => exact ⟨0, _, _, _, Nat.zero_le _, rfl, I3.out⟩
  case round =>
    obtain ⟨m, S2, R2, l2, hm, rfl, hInv⟩ := hrel
    have HV2 := Lib.hid hInv
    clear hInv I3
    by_cases hlt2 : m < xs.length
    · have hmi : (m : Int) < (xs.length : Int) := by omega
      obtain ⟨x, hx⟩ : ∃ x, xs[m]? = some x := ⟨_, List.getElem?_eq_getElem hlt2⟩
      have BW := Lib.hid (B4.out.trans (HV2.out.below HWG.out))
      obtain ⟨bb, off, rfl, hbl, hrow0⟩ := (HI.out.below BW.out (Nat.le_refl _)) (by omega)
      have HRW := Lib.hid (hrow0 m x hx)
      have HU := Lib.hid Tryd.underlying41
      have DO := Lib.hid (fun W (i : InvT w3 q g q2 lo h b m S2 R2 l2 W) => i.does x (by omega) L4.out HGQ.out)
      clear hrow0 hx hbl
      go_upto_region 11 with fail
      refine wp_region_phase (S := fun W' => RowAt W' bb (off + m * 21) x.cells) 7 19 #[true, true, true, true, true, true, true, true, false, false, false, false, false, false, false, false, false, false, false, false, false, false, false, false, false, false, false] (by kernel_rfl) (by kernel_rfl) rfl (by kernel_rfl) rfl ⟨fun j v hj => HRW.out.at_ j v hj⟩ ?_
      simp only [List.take_succ_cons, List.take_zero]
      iterate 6 (refine wpHeld_cons (fun _ _ _ h => h) (Or.inl ⟨by rfl, by intro w hSw; (try dsimp only at hSw); go_simp; try with_reducible rfl⟩) ?_; try simp only [put_laws])
      refine wpHeld_cons (fun _ _ _ h => h) (yieldsIf_row (by rfl) rfl rfl (fun w h => h) HU.out rfl actTInfo) ?_
      try simp only [put_laws]
      intro K' hK
      go_simp
      go_at_call 12
      refine (DO.out _ (HV2.out.read (Below.refl _ _).drew)).mono ?_
      rintro e w5 ⟨rfl, S3, R3, l3, hI3⟩
      have HI3 := Lib.hid hI3
      clear hI3 DO
      have GL := Lib.hid (trLast_any w5 w5 HI3.out.gar.ta)
      have SM := Lib.hid (same17_any w5 HI3.out.gar.ar HI3.out.gar.rf HI3.out.ag)
      refine hK.out _ _ (fun W' => W'.cell? ⟨q2, 0, none⟩ = some (.pointer (some ⟨h, 0, none⟩)) ∧ W'.cell? ⟨q2, 1, none⟩ = some (.int .i64 l3)) ⟨(HI3.out.gar.rb.cell 0).trans rfl, (HI3.out.gar.rb.cell 1).trans rfl⟩ (fun hH => ?_)
      clear hK K'
      try simp only [put_laws]
      refine wpAnyH_take (i := 8) (v := _) rfl (by kernel_rfl) (by kernel_rfl) (by kernel_rfl) (fun _ _ _ h => h) (Or.inl ⟨by rfl, by intro w hSw; (try dsimp only at hSw); go_simp; try with_reducible rfl⟩) (by assumption) ?_
      try simp only [put_laws]
      refine wpAnyH_take (i := 9) (v := _) rfl (by kernel_rfl) (by kernel_rfl) (by kernel_rfl) (fun _ _ _ h => h) (Or.inl ⟨by rfl, by intro w hSw; (try dsimp only at hSw); go_simp; try with_reducible rfl⟩) (by assumption) ?_
      try simp only [put_laws]
      refine wpAnyH_take (i := 10) (v := _) rfl (by kernel_rfl) (by kernel_rfl) (by kernel_rfl) (fun _ _ _ h => h) (Or.inl ⟨by rfl, by intro w hSw; (try dsimp only at hSw); go_simp; try with_reducible rfl⟩) (by assumption) ?_
      try simp only [put_laws]
      refine wpAnyH_take (i := 12) (v := _) rfl (by kernel_rfl) (by kernel_rfl) (by kernel_rfl) (fun _ _ _ h => h) (Or.inl ⟨by rfl, by intro w hSw; (try dsimp only at hSw); go_simp; try with_reducible rfl⟩) (by assumption) ?_
      try simp only [put_laws]
      refine wpAnyH_take (i := 13) (v := _) rfl (by kernel_rfl) (by kernel_rfl) (by kernel_rfl) (fun _ _ _ h => h) (Or.inl ⟨by rfl, by intro w hSw; (try dsimp only at hSw); go_simp; try with_reducible rfl⟩) (by assumption) ?_
      try simp only [put_laws]
      refine wpAnyH_take (i := 14) (v := _) rfl (by kernel_rfl) (by kernel_rfl) (by kernel_rfl) (fun _ _ _ h => h) (Or.inl ⟨by rfl, by intro w hSw; (try dsimp only at hSw); go_simp; try with_reducible rfl⟩) (by assumption) ?_
      try simp only [put_laws]
      refine wpAnyH_take (i := 15) (v := _) rfl (by kernel_rfl) (by kernel_rfl) (by kernel_rfl) (fun _ _ _ h => h) (Or.inl ⟨by rfl, by intro w hSw; (try dsimp only at hSw); go_simp; try with_reducible rfl⟩) (by assumption) ?_
      try simp only [put_laws]
      refine wpAnyH_ready (rs := [11]) (by kernel_rfl) (by simp) ?_
      refine AllReadyH.cons rfl (fun K hK => ?_) AllReadyH.nil
      go_simp
      go_at_call 23
      refine GL.out.mono ?_
      rintro e w' ⟨rfl, rfl⟩
      refine hK.out _ _ hH (fun hH => ?_)
      clear hK K
      try simp only [put_laws]
      refine wpAnyH_take (i := 16) (v := _) rfl (by kernel_rfl) (by kernel_rfl) (by kernel_rfl) (fun _ _ _ h => h) (Or.inl ⟨by rfl, by intro w hSw; (try dsimp only at hSw); go_simp; try with_reducible rfl⟩) (by assumption) ?_
      try simp only [put_laws]
      refine wpAnyH_take (i := 17) (v := _) rfl (by kernel_rfl) (by kernel_rfl) (by kernel_rfl) (fun _ _ _ h => h) (Or.inl ⟨by rfl, by intro w hSw; (try dsimp only at hSw); go_simp; try with_reducible rfl⟩) (by assumption) ?_
      try simp only [put_laws]
      refine wpAnyH_take (i := 18) (v := _) rfl (by kernel_rfl) (by kernel_rfl) (by kernel_rfl) (fun _ _ _ h => h) (Or.inl ⟨by rfl, by intro w hSw; (try dsimp only at hSw); go_simp; try with_reducible rfl⟩) (by assumption) ?_
      try simp only [put_laws]
      refine wpAnyH_take (i := 19) (v := _) rfl (by kernel_rfl) (by kernel_rfl) (by kernel_rfl) (fun _ _ _ h => h) (Or.inl ⟨by rfl, by intro w hSw; (try dsimp only at hSw); go_simp; try with_reducible rfl⟩) (by assumption) ?_
      try simp only [put_laws]
      refine wpAnyH_take (i := 20) (v := _) rfl (by kernel_rfl) (by kernel_rfl) (by kernel_rfl) (fun _ _ _ h => h) (Or.inl ⟨by rfl, by intro w hSw; (try dsimp only at hSw); go_simp; try with_reducible rfl⟩) (by assumption) ?_
      try simp only [put_laws]
      refine wpAnyH_take (i := 21) (v := _) rfl (by kernel_rfl) (by kernel_rfl) (by kernel_rfl) (fun _ _ _ h => h) (Or.inl ⟨by rfl, by intro w hSw; (try dsimp only at hSw); go_simp; try with_reducible rfl⟩) (by assumption) ?_
      try simp only [put_laws]
      refine wpAnyH_take (i := 22) (v := _) rfl (by kernel_rfl) (by kernel_rfl) (by kernel_rfl) (fun _ _ _ h => h) (Or.inl ⟨by rfl, by intro w hSw; (try dsimp only at hSw); go_simp; try with_reducible rfl⟩) (by assumption) ?_
      try simp only [put_laws]
      refine wpAnyH_take (i := 23) (v := _) rfl (by kernel_rfl) (by kernel_rfl) (by kernel_rfl) (fun _ _ _ h => h) (Or.inl ⟨by rfl, by intro w hSw; (try dsimp only at hSw); go_simp; try with_reducible rfl⟩) (by assumption) ?_
      try simp only [put_laws]
      refine wpAnyH_ready (rs := [24]) (by kernel_rfl) (by simp) ?_
      refine AllReadyH.cons rfl (fun K hK => ?_) AllReadyH.nil
      go_simp
      go_at_call 29
      refine SM.out.mono ?_
      rintro e w6 ⟨rfl, hb6⟩
      have HI6 := Lib.hid (HI3.out.read hb6)
      refine hK.out _ _ ⟨(HI6.out.gar.rb.cell 0).trans rfl, (HI6.out.gar.rb.cell 1).trans rfl⟩ (fun hH => ?_)
      clear hK K hb6 SM GL
      try simp only [put_laws]
      refine wpAnyH_take (i := 25) (v := _) rfl (by kernel_rfl) (by kernel_rfl) (by kernel_rfl) (fun _ _ _ h => h) (Or.inl ⟨by rfl, by intro w hSw; (try dsimp only at hSw); go_simp; try with_reducible rfl⟩) (by assumption) ?_
      try simp only [put_laws]
      refine wpAnyH_take (i := 26) (v := _) rfl (by kernel_rfl) (by kernel_rfl) (by kernel_rfl) (fun _ _ _ h => h) (Or.inl ⟨by rfl, by intro w hSw; (try dsimp only at hSw); go_simp; try with_reducible rfl⟩) (by assumption) ?_
      try simp only [put_laws]
      refine wpAnyH_done (by kernel_rfl) ?_ _
      clear hH
      go_wp2
      go_roundw
      case rel => exact ⟨m + 1, S3, R3, l3, by omega, by go_num, HI6.out⟩
      case measure => simp [intOf]; omega
    · obtain rfl : m = xs.length := by omega
      have Y1 := Lib.hid (B4.out.trans (HV2.out.below HWG.out))
      have T1 := Lib.hid HV2.out.gar
      have hsl := HV2.out.ag.slots
      have A1 := Lib.hid (fun W (a : Ta W q g S2 l2 W) => troots_any W W a)
      have A2 := Lib.hid (fun W (a : Ta W q g S2 l2 W) => tunder_any 0 W W a)
      rw [all_congr' hsl] at A1
      rw [underOf_congr hsl] at A2
      have B1 := Lib.hid (fun W (a : RTa W q2 lo h b R2 l2 W) => rroots_any W W a)
      have B2 := Lib.hid (fun W (a : RTa W q2 lo h b R2 l2 W) => runderOf_any 0 W a)
      have N1 := Lib.hid (all_len R2 l2)
      have N2 := Lib.hid (underOf_len R2 0)
      generalize R2.all l2 = X1 at *
      generalize R2.underOf 0 = X2 at *
      clear HV2 hsl
      go_wp2_with (go_at_call 13; fail)
      refine (A1.out _ T1.out.ta).mono ?_
      rintro e w2 ⟨Bi1, rfl, hq2, hb2⟩
      have T2 := Lib.hid (T1.out.call hb2)
      have HQ1 := Lib.hid hq2
      have Y2 := Lib.hid (Y1.out.trans (hb2.mono Y1.out.size))
      clear hq2 hb2
      go_wp2_with (go_at_call 16; fail)
      refine (B1.out _ T2.out.rta).mono ?_
      rintro e w3 ⟨Ai1, ci1, rfl, hi3, _, hb3⟩
      have T3 := Lib.hid (T2.out.call hb3)
      have Y3 := Lib.hid (Y2.out.trans (hb3.mono Y2.out.size))
      have GO1 := Lib.hid (gone_it (c := ci1) (enters_of Tryd.func87 (by kernel_rfl) rfl) all1_eql w3 (fun n₀ => (HQ1.out n₀).later hb3) hb3.size hi3 N1.out)
      clear hb3 hi3 HQ1
      go_wp2_with (go_at_call 19; fail)
      refine GO1.out.mono ?_
      rintro e w4 ⟨rfl, hb4⟩
      have T4 := Lib.hid (T3.out.call hb4)
      have Y4 := Lib.hid (Y3.out.trans (hb4.mono Y3.out.size))
      clear hb4 GO1
      go_wp2_with (go_at_call 15; fail)
      refine (A2.out _ T4.out.ta).mono ?_
      rintro e w5 ⟨Bi2, rfl, hq5, hb5⟩
      have T5 := Lib.hid (T4.out.call hb5)
      have HQ2 := Lib.hid hq5
      have Y5 := Lib.hid (Y4.out.trans (hb5.mono Y4.out.size))
      clear hq5 hb5
      go_wp2_with (go_at_call 18; fail)
      refine (B2.out _ T5.out.rta).mono ?_
      rintro e w6 ⟨Ai2, ci2, rfl, hi6, _, hb6⟩
      have T6 := Lib.hid (T5.out.call hb6)
      have Y6 := Lib.hid (Y5.out.trans (hb6.mono Y5.out.size))
      have GO2 := Lib.hid (gone_it (c := ci2) (enters_of Tryd.func56 (by kernel_rfl) rfl) under1_eql w6 (fun n₀ => (HQ2.out n₀).later hb6) hb6.size hi6 N2.out)
      clear hb6 hi6 HQ2
      go_wp2_with (go_at_call 19; fail)
      refine GO2.out.mono ?_
      rintro e w7 ⟨rfl, hb7⟩
      have T7 := Lib.hid (T6.out.call hb7)
      have Y7 := Lib.hid (Y6.out.trans (hb7.mono Y6.out.size))
      clear hb7 GO2
      go_wp2
      go_ret
      exact ⟨rfl, Y7.out⟩
end Go.Proofs.YtbidgpeeogoglaaDoor
