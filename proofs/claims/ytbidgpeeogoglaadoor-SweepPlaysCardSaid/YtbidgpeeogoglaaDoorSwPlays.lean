/-
  lineagelaw19.SweepPlays: the whole walk.
-/
import Derived.Test.YtbidgpeeogoglaaDoorDoes19
import Derived.Test.YtbidgpeeogoglaaDoorGk
namespace Go.Proofs.YtbidgpeeogoglaaDoor
set_option maxRecDepth 100000
open Go.RowKit Go.Sort

/-- A struct's load, as a read of a class of worlds. -/
theorem yieldsIf_load_at {P : Program} {ops : Array Oper} {S : World → Prop} {o' : Oper} {a : Act} {ty : TypeId} {x : Operand} (hw : Region.wanted o' (yielded ops a.tmps) = true) (ho : o'.op = .load ty x)
    {g o : Nat} {cs : Array Value} {d : TypeDesc} (hx : a.eval x = .pointer (some ⟨g, o, none⟩)) (h : ∀ w, S w → RowAt w g o cs) (hu : P.underlying ty = some d) (hd : isAggD d = true) (hi : (P.info? ty).map (·.size) = some cs.size) : YieldsIf P ops S o' (.agg cs) a := by
  refine .inl ⟨hw, fun w hS => ?_⟩
  unfold execOp
  simp only [ho, hx, Sem.run_bind, run_loadAt_at w hu hd hi (h w hS), Result.andThen_ok, Sem.run_pure]
theorem glast_any {S : St} {q g : Nat} {l : Int} (w W : World) (a : Ga w q g S l W) : Calls Tryd.prog 37 #[.pointer (some ⟨q, 0, none⟩)] W (RetSame (.int .i64 l) W) := by
  obtain ⟨c0, c1, _⟩ := a.cells
  clear a
  go_enter Tryd.func37, Tryd.ntmps37
  go_wp2
  go_ret
  exact ⟨rfl, rfl⟩
/-- Between two acts. -/
structure InvS (w3 : World) (q g q2 lo h b : Nat) (k : Nat) (S R : St) (l : Int) (W : World) : Prop where
  gar : Gar w3 q g q2 lo h b S R l l W
  ag : Agree S R
  lk : lastOk l
  w0 : 0 ≤ S.writes ∧ 0 ≤ R.writes
  w1 : S.writes ≤ 8 * k ∧ R.writes ≤ 8 * k
section
variable {w3 W W' : World} {q g q2 lo h b k : Nat} {S R : St} {l : Int}
theorem InvS.read (i : InvS w3 q g q2 lo h b k S R l W) (hb : Below W.heap.size W W') : InvS w3 q g q2 lo h b k S R l W' := ⟨i.gar.call hb, i.ag, i.lk, i.w0, i.w1⟩
theorem InvS.does (i : InvS w3 q g q2 lo h b k S R l W) (x : ActV) (hk : k < 10000) (hL : Laid w3) (hge : 0 < g ∧ 0 < lo ∧ 0 < q ∧ 0 < q2) :
    Calls Tryd.prog 36 #[.pointer (some ⟨g, 0, none⟩), .pointer (some ⟨q, 0, none⟩), .pointer (some ⟨q2, 0, none⟩), .agg x.cells] W (fun e w' => e = .returned (.bool true) ∧ ∃ S' R' l', InvS w3 q g q2 lo h b (k + 1) S' R' l' w') := by
  have h0 := i.w0
  have h1 := i.w1
  have ap := i.gar.ap.loh
  have h2 := act19_writes R l (pickZ x.kind 6) x.n x.s
  exact (does19_any x W i.gar.here i.ag i.lk (i.gar.laid hL (by omega)) hge h0.1 (by omega) h0.2 (by omega)).mono fun e w' ⟨h3, S', t, ag, h4, h5⟩ =>
    ⟨h3, S', _, _, ⟨i.gar.trans t, ag, act19_last i.lk, ⟨by omega, by omega⟩, ⟨by omega, by omega⟩⟩⟩
end
theorem Agree.takeZ {S R : St} (h : Agree S R) : Agree S.takeZ R.takeZ := by
  unfold St.takeZ
  rw [h.free]
  split
  · exact h
  · exact ⟨h.slots, by show S.free.tail = R.free.tail; rw [h.free], h.len⟩
theorem takeZ_writes (S : St) : S.takeZ.writes = S.writes := by
  unfold St.takeZ
  split <;> rfl
theorem takeNo_congr {S R : St} (h : Agree S R) : takeNo S = takeNo R := by unfold takeNo; rw [h.free]
set_option maxHeartbeats 16000000 in
theorem splays_any (tk : Int) (P0 : Option Addr) (cap : Nat) (xs : List ActV) (w : World) (hin : ActsAt w P0 xs) (_ : xs.length * 160 ≤ 140737488351232) (hL : Laid w) :
    Calls Tryd.prog 6 #[.int .i64 tk, .slice P0 xs.length cap] w (RetB (.bool true) w) := by
  have HI := Lib.hid hin
  have hge := hL.pos
  have HL := Lib.hid hL
  obtain ⟨N, hN33, hN⟩ := pick_range tk 33 (by decide)
  have HP := Lib.hid (fun w => pick_at tk 33 N (by decide) (by decide) hN w)
  clear hin hN hL
  by_cases hbig : 1000 < xs.length
  · have hbig' : (1000 : Int) < (xs.length : Int) := by omega
    go_enter Tryd.func6, Tryd.ntmps6
    go_wp2
    go_ret
    exact ⟨rfl, Below.refl _ _⟩
  have hbig' : ¬ (1000 : Int) < (xs.length : Int) := by omega
  go_enter Tryd.func6, Tryd.ntmps6
  go_wp2_with (go_at_call 8; fail)
  refine (new_st w).mono ?_
  rintro e w1 ⟨g, rfl, hg, hS1, hb1⟩
  have hgl := hS1.lt
  have hs1 := hb1.size
  have K1 := Lib.hid hS1
  have B1 := Lib.hid hb1
  clear hS1 hb1
  go_wp2_with (go_at_call 11; fail)
  refine (rnew_any w1).mono ?_
  rintro e w2 ⟨h, b, rfl, hh, hb, hR, hb2⟩
  have hs2 := hb2.size
  have hhb := hR.los
  have K2 := Lib.hid (K1.out.below hb2 hgl)
  have R2 := Lib.hid hR
  have B2 := Lib.hid (B1.out.trans (hb2.mono hs1))
  clear hR hb2 K1 B1
  go_wp2_with (go_at_call 30; fail)
  refine (rswNew_any h w2).mono ?_
  rintro e w2' ⟨rfl, hB2, hb3⟩
  have hs3 := hb3.size
  have hlt3 := hB2.lt
  have K3 := Lib.hid (K2.out.below hb3 (by omega))
  have R3 := Lib.hid (R2.out.call hb3)
  have B3 := Lib.hid (B2.out.trans (hb3.mono (by omega)))
  have Q3 := Lib.hid hB2
  clear hB2 hb3 K2 R2 B2
  go_wp2_with (go_at_call 31; fail)
  refine (swNew_any g w2').mono ?_
  rintro e w3 ⟨rfl, hB4, hb4⟩
  have hs4 := hb4.size
  have hlt4 := hB4.lt
  obtain ⟨q2, hq2⟩ : ∃ q2, w2.heap.size = q2 := ⟨_, rfl⟩
  obtain ⟨q, hq⟩ : ∃ q, w2'.heap.size = q := ⟨_, rfl⟩
  obtain ⟨lo, hlo⟩ : ∃ lo, w1.heap.size = lo := ⟨_, rfl⟩
  have I3 := Lib.hid (show InvS w3 q g q2 lo h b 0 St.new St.new (-1) w3 from by
    subst hq2 hq hlo
    exact ⟨⟨hB4, K3.out.below hb4 (by omega), Q3.out.below hb4 (by omega), R3.out.call hb4, ⟨by omega, ⟨by omega, by omega⟩, ⟨by omega, by omega, by omega, by omega⟩, ⟨by omega, by omega, by omega⟩⟩, Tn.refl _ _⟩, ⟨rfl, rfl, by decide⟩, .inl rfl, ⟨by decide, by decide⟩, ⟨by decide, by decide⟩⟩)
  have B4 := Lib.hid (B3.out.trans (hb4.mono (by omega)))
  have L4 := Lib.hid (HL.out.below B4.out hge)
  have WR := Lib.hid (show Calls Tryd.prog 28 #[.pointer (some ⟨g, 0, none⟩)] w3 (RetSame (.int .i64 0) w3) from writes_st g w3 I3.out.gar.ar)
  have hgeq : 0 < g ∧ 0 < lo ∧ 0 < q ∧ 0 < q2 := by omega
  have hwg : w.heap.size ≤ g ∧ w.heap.size ≤ q ∧ w.heap.size ≤ q2 ∧ w.heap.size ≤ lo ∧ w.heap.size ≤ w3.heap.size := by omega
  have HGQ := Lib.hid hgeq
  have HWG := Lib.hid hwg
  rw [hq2, hq]
  clear hgeq hwg hB4 hb4 K3 Q3 R3 B3 hh hb hhb hlo hlt3 hlt4 hs1 hs2 hs3 hs4 hg hgl hq2 hq
  go_wp2_with (go_at_call 28; fail)
  refine WR.out.mono ?_
  rintro e w' ⟨rfl, rfl⟩
  go_wp2
  go_loopw [8] (fun i wr => ∃ (k : Nat) (S R : St), k ≤ N ∧ i = .int .i64 k ∧ InvS w3 q g q2 lo h b k S R (-1) wr) (fun i _ => N - (intOf i).toNat)
  case atStart => exact ⟨0, _, _, Nat.zero_le _, rfl, I3.out⟩
  case round =>
    obtain ⟨k, S, R, hk, rfl, hInv⟩ := hrel
    have HV := Lib.hid hInv
    clear hInv I3
    by_cases hlt : k < N
    · have hki : (k : Int) < (N : Int) := by omega
      have TA := Lib.hid (takeA wr HV.out.gar.ar)
      have hno : 0 ≤ takeNo R ∧ takeNo R ≤ 24 := by unfold takeNo; split <;> omega
      go_wp2_with (first
        | (go_at_call 32; refine (HP.out _).mono ?_; rintro e w' ⟨rfl, rfl⟩)
        | (go_at_call 33; fail))
      refine TA.out.mono ?_
      rintro e w5 ⟨rfl, hA5, hG5⟩
      have T5 := Lib.hid (show Gar w3 q g q2 lo h b S.takeZ R (-1) (-1) w5 from Both.code HV.out.gar (by decide) (Tn.ofGrown hG5 (.inr rfl)) (HV.out.gar.cb.grown hG5 (fun e => by have := HV.out.gar.ap.qs.1; cases e; omega)) hA5)
      have TR := Lib.hid (takeR w5 T5.out.rf (HV.out.gar.free_len HV.out.ag) (Both.lo_le T5.out))
      have c0 : w5.cell? ⟨q2, 0, none⟩ = some (.pointer (some ⟨h, 0, none⟩)) := (T5.out.rb.cell 0).trans rfl
      have hnn := takeNo_congr HV.out.ag
      rw [hnn]
      clear hA5 hG5 TA hnn
      go_wp2_with (go_at_call 34; fail)
      refine TR.out.mono ?_
      rintro e w6 ⟨rfl, hR6, hT6⟩
      have T6 := Lib.hid (show Gar w3 q g q2 lo h b S.takeZ R.takeZ (-1) (-1) w6 from Both.doc T5.out (hT6.mono fun k hk => .inr hk) ⟨(hT6.block q2 T5.out.rb.lt (by have := T5.out.ap.q2s; omega)).trans T5.out.rb.eq⟩ hR6)
      have PL := Lib.hid (plain_same (takeNo R) hno.1 hno.2 w6 (T6.out.laid L4.out (by have := T6.out.ap.loh; have := HGQ.out; omega)))
      clear hR6 hT6 TR c0 T5 hno
      go_wp2_with (go_at_call 35; fail)
      refine PL.out.mono ?_
      rintro e w7 ⟨rfl, hb7⟩
      have I7 := Lib.hid (show InvS w3 q g q2 lo h b (k + 1) S.takeZ R.takeZ (-1) w7 from ⟨T6.out.call hb7, HV.out.ag.takeZ, HV.out.lk, by rw [takeZ_writes, takeZ_writes]; exact HV.out.w0, by rw [takeZ_writes, takeZ_writes]; have := HV.out.w1; omega⟩)
      clear hb7 HV PL T6
      go_wp2
      go_roundw
      case rel => exact ⟨k + 1, _, _, by omega, by go_num, I7.out⟩
      case measure => simp [intOf]; omega
    · obtain rfl : k = N := by omega
      go_wp2_with (first
        | (go_at_call 32; refine (HP.out _).mono ?_; rintro e w' ⟨rfl, rfl⟩))
      go_loopw [13] (fun i wr' => ∃ (m : Nat) (S R : St) (l : Int), m ≤ xs.length ∧ i = .int .i64 m ∧ InvS w3 q g q2 lo h b (33 + m) S R l wr') (fun i _ => xs.length - (intOf i).toNat)
      case atStart => exact ⟨0, S, R, -1, Nat.zero_le _, rfl, HV.out.gar, HV.out.ag, HV.out.lk, HV.out.w0, by have := HV.out.w1; omega⟩
      case round =>
        obtain ⟨m, S2, R2, l2, hm, rfl, hInv⟩ := hrel
        have HV2 := Lib.hid hInv
        clear hInv HV
        by_cases hlt2 : m < xs.length
        · have hmi : (m : Int) < (xs.length : Int) := by omega
          obtain ⟨x, hx⟩ : ∃ x, xs[m]? = some x := ⟨_, List.getElem?_eq_getElem hlt2⟩
          have BW := Lib.hid (B4.out.trans (Both.below HV2.out.gar HWG.out.1 HWG.out.2.1 HWG.out.2.2.1 HWG.out.2.2.2.1 HWG.out.2.2.2.2))
          obtain ⟨bb, off, rfl, hbl, hrow0⟩ := (HI.out.below BW.out (Nat.le_refl _)) (by omega)
          have HRW := Lib.hid (hrow0 m x hx)
          have HU := Lib.hid Tryd.underlying80
          have DO := Lib.hid (fun W (i : InvS w3 q g q2 lo h b (33 + m) S2 R2 l2 W) => i.does x (by omega) L4.out HGQ.out)
          clear hrow0 hx hbl
          --R20
          go_upto_region 20 with fail
          refine wp_region_phase (S := fun W' => RowAt W' bb (off + m * 19) x.cells) 7 19 #[true, true, true, true, true, true, true, true, false, false, false, false, false, false, false, false, false, false, false, false, false, false, false, false, false, false, false] (by kernel_rfl) (by kernel_rfl) rfl (by kernel_rfl) rfl ⟨fun j v hj => HRW.out.at_ j v hj⟩ ?_
          simp only [List.take_succ_cons, List.take_zero]
          iterate 6 (refine wpHeld_cons (fun _ _ _ h => h) (Or.inl ⟨by rfl, by intro w hSw; (try dsimp only at hSw); go_simp; try with_reducible rfl⟩) ?_; try simp only [put_laws])
          refine wpHeld_cons (fun _ _ _ h => h) (yieldsIf_load_at (by rfl) rfl rfl (fun w h => h) HU.out rfl actInfo) ?_
          try simp only [put_laws]
          intro K' hK
          go_simp
          go_at_call 36
          refine (DO.out _ (HV2.out.read (Below.refl _ _).drew)).mono ?_
          rintro e w5 ⟨rfl, S3, R3, l3, hI3⟩
          have HI3 := Lib.hid hI3
          clear hI3 DO
          have GL := Lib.hid (glast_any w5 w5 HI3.out.gar.ga)
          have SM := Lib.hid (same19_any w5 HI3.out.gar.ar HI3.out.gar.rf HI3.out.ag)
          refine hK.out _ _ (fun W' => W'.cell? ⟨q2, 0, none⟩ = some (.pointer (some ⟨h, 0, none⟩)) ∧ W'.cell? ⟨q2, 1, none⟩ = some (.int .i64 l3)) ⟨(HI3.out.gar.rb.cell 0).trans rfl, (HI3.out.gar.rb.cell 1).trans rfl⟩ (fun hH => ?_)
          clear hK K'
          try simp only [put_laws]
          refine wpAnyH_take (i := 8) (v := _) rfl (by kernel_rfl) (by kernel_rfl) (by kernel_rfl) (fun _ _ _ h => h) (Or.inl ⟨by rfl, by intro w hSw; (try dsimp only at hSw); go_simp; try with_reducible rfl⟩) (by assumption) ?_
          try simp only [put_laws]
          refine wpAnyH_take (i := 9) (v := _) rfl (by kernel_rfl) (by kernel_rfl) (by kernel_rfl) (fun _ _ _ h => h) (Or.inl ⟨by rfl, by intro w hSw; (try dsimp only at hSw); go_simp; try with_reducible rfl⟩) (by assumption) ?_
          try simp only [put_laws]
          refine wpAnyH_take (i := 10) (v := _) rfl (by kernel_rfl) (by kernel_rfl) (by kernel_rfl) (fun _ _ _ h => h) (Or.inl ⟨by rfl, by intro w hSw; (try dsimp only at hSw); go_simp; try with_reducible rfl⟩) (by assumption) ?_
          try simp only [put_laws]
          refine wpAnyH_take (i := 12) (v := _) rfl (by kernel_rfl) (by kernel_rfl) (by kernel_rfl) (fun _ _ _ h => h) (Or.inl ⟨by rfl, by intro w hSw; (try dsimp only at hSw); go_simp; try with_reducible rfl⟩) (by assumption) ?_
          try simp only [put_laws]
          refine wpAnyH_take (i := 13) (v := _) rfl (by kernel_rfl) (by kernel_rfl) (by kernel_rfl) (fun _ _ _ h => h) (Or.inl ⟨by rfl, by intro w hSw; (try dsimp only at hSw); go_simp; try with_reducible rfl⟩) (by assumption) ?_
          try simp only [put_laws]
          refine wpAnyH_take (i := 14) (v := _) rfl (by kernel_rfl) (by kernel_rfl) (by kernel_rfl) (fun _ _ _ h => h) (Or.inl ⟨by rfl, by intro w hSw; (try dsimp only at hSw); go_simp; try with_reducible rfl⟩) (by assumption) ?_
          try simp only [put_laws]
          refine wpAnyH_take (i := 15) (v := _) rfl (by kernel_rfl) (by kernel_rfl) (by kernel_rfl) (fun _ _ _ h => h) (Or.inl ⟨by rfl, by intro w hSw; (try dsimp only at hSw); go_simp; try with_reducible rfl⟩) (by assumption) ?_
          try simp only [put_laws]
          refine wpAnyH_ready (rs := [11]) (by kernel_rfl) (by simp) ?_
          refine AllReadyH.cons rfl (fun K hK => ?_) AllReadyH.nil
          go_simp
          go_at_call 37
          refine GL.out.mono ?_
          rintro e w' ⟨rfl, rfl⟩
          refine hK.out _ _ hH (fun hH => ?_)
          clear hK K
          try simp only [put_laws]
          refine wpAnyH_take (i := 16) (v := _) rfl (by kernel_rfl) (by kernel_rfl) (by kernel_rfl) (fun _ _ _ h => h) (Or.inl ⟨by rfl, by intro w hSw; (try dsimp only at hSw); go_simp; try with_reducible rfl⟩) (by assumption) ?_
          try simp only [put_laws]
          refine wpAnyH_take (i := 17) (v := _) rfl (by kernel_rfl) (by kernel_rfl) (by kernel_rfl) (fun _ _ _ h => h) (Or.inl ⟨by rfl, by intro w hSw; (try dsimp only at hSw); go_simp; try with_reducible rfl⟩) (by assumption) ?_
          try simp only [put_laws]
          refine wpAnyH_take (i := 18) (v := _) rfl (by kernel_rfl) (by kernel_rfl) (by kernel_rfl) (fun _ _ _ h => h) (Or.inl ⟨by rfl, by intro w hSw; (try dsimp only at hSw); go_simp; try with_reducible rfl⟩) (by assumption) ?_
          try simp only [put_laws]
          refine wpAnyH_take (i := 19) (v := _) rfl (by kernel_rfl) (by kernel_rfl) (by kernel_rfl) (fun _ _ _ h => h) (Or.inl ⟨by rfl, by intro w hSw; (try dsimp only at hSw); go_simp; try with_reducible rfl⟩) (by assumption) ?_
          try simp only [put_laws]
          refine wpAnyH_take (i := 20) (v := _) rfl (by kernel_rfl) (by kernel_rfl) (by kernel_rfl) (fun _ _ _ h => h) (Or.inl ⟨by rfl, by intro w hSw; (try dsimp only at hSw); go_simp; try with_reducible rfl⟩) (by assumption) ?_
          try simp only [put_laws]
          refine wpAnyH_take (i := 21) (v := _) rfl (by kernel_rfl) (by kernel_rfl) (by kernel_rfl) (fun _ _ _ h => h) (Or.inl ⟨by rfl, by intro w hSw; (try dsimp only at hSw); go_simp; try with_reducible rfl⟩) (by assumption) ?_
          try simp only [put_laws]
          refine wpAnyH_take (i := 22) (v := _) rfl (by kernel_rfl) (by kernel_rfl) (by kernel_rfl) (fun _ _ _ h => h) (Or.inl ⟨by rfl, by intro w hSw; (try dsimp only at hSw); go_simp; try with_reducible rfl⟩) (by assumption) ?_
          try simp only [put_laws]
          refine wpAnyH_take (i := 23) (v := _) rfl (by kernel_rfl) (by kernel_rfl) (by kernel_rfl) (fun _ _ _ h => h) (Or.inl ⟨by rfl, by intro w hSw; (try dsimp only at hSw); go_simp; try with_reducible rfl⟩) (by assumption) ?_
          try simp only [put_laws]
          refine wpAnyH_ready (rs := [24]) (by kernel_rfl) (by simp) ?_
          refine AllReadyH.cons rfl (fun K hK => ?_) AllReadyH.nil
          go_simp
          go_at_call 38
          refine SM.out.mono ?_
          rintro e w6 ⟨rfl, hb6⟩
          have HI6 := Lib.hid (HI3.out.read hb6)
          refine hK.out _ _ ⟨(HI6.out.gar.rb.cell 0).trans rfl, (HI6.out.gar.rb.cell 1).trans rfl⟩ (fun hH => ?_)
          clear hK K hb6 SM GL
          try simp only [put_laws]
          refine wpAnyH_take (i := 25) (v := _) rfl (by kernel_rfl) (by kernel_rfl) (by kernel_rfl) (fun _ _ _ h => h) (Or.inl ⟨by rfl, by intro w hSw; (try dsimp only at hSw); go_simp; try with_reducible rfl⟩) (by assumption) ?_
          try simp only [put_laws]
          refine wpAnyH_take (i := 26) (v := _) rfl (by kernel_rfl) (by kernel_rfl) (by kernel_rfl) (fun _ _ _ h => h) (Or.inl ⟨by rfl, by intro w hSw; (try dsimp only at hSw); go_simp; try with_reducible rfl⟩) (by assumption) ?_
          try simp only [put_laws]
          refine wpAnyH_done (by kernel_rfl) ?_ _
          clear hH
          go_wp2
          go_roundw
          case rel => exact ⟨m + 1, S3, R3, l3, by omega, by go_num, HI6.out⟩
          case measure => simp [intOf]; omega
        · obtain rfl : m = xs.length := by omega
          have BW := Lib.hid (B4.out.trans (Both.below HV2.out.gar HWG.out.1 HWG.out.2.1 HWG.out.2.2.1 HWG.out.2.2.2.1 HWG.out.2.2.2.2))
          have hsw : S2.swAll l2 = R2.swAll l2 := swAll_congr HV2.out.ag.slots l2
          have SA := Lib.hid (sall_any _ HV2.out.gar.ga)
          rw [hsw] at SA
          have RA := Lib.hid (fun W (a : RGa W q2 lo h b R2 l2 W) => rswAll_any W W a)
          have HLN := Lib.hid (show (R2.swAll l2).length ≤ 32 from swIt_len R2 l2 32)
          have T1 := Lib.hid HV2.out.gar
          generalize R2.swAll l2 = ys at *
          clear HV2 hsw
          go_wp2_with (go_at_call 39; fail)
          refine SA.out.mono ?_
          rintro e w5 ⟨v5, rfl, ho5, hb5⟩
          rw [natInts_len] at ho5
          obtain ⟨A5, k5, rfl, hi5⟩ := owns_intsAt ho5
          have T5 := Lib.hid (T1.out.call hb5)
          have HI5 := Lib.hid hi5
          have B5 := Lib.hid (BW.out.trans (hb5.mono BW.out.size))
          clear ho5 hb5 hi5 SA BW
          go_wp2_with (go_at_call 40; fail)
          refine (RA.out w5 T5.out.rga).mono ?_
          rintro e w6 ⟨v6, rfl, ho6, hb6⟩
          rw [natInts_len] at ho6
          obtain ⟨A6, k6, rfl, hi6⟩ := owns_intsAt ho6
          have HQ := Lib.hid (sameI_eq A5 A6 k5 k6 ys.length (natInts ys) (natInts_len _) (by have := HLN.out; omega) w6 (HI5.out.below hb6 (Nat.le_refl _)) hi6)
          have B6 := Lib.hid (B5.out.trans (hb6.mono B5.out.size))
          clear ho6 hb6 hi6 HI5 B5
          go_wp2_with (go_at_call 24; fail)
          refine HQ.out.mono ?_
          rintro e w7 ⟨rfl, hb7⟩
          have B7 := Lib.hid (B6.out.trans (hb7.mono B6.out.size))
          clear hb7 HQ B6
          go_wp2
          go_ret
          exact ⟨rfl, B7.out⟩
end Go.Proofs.YtbidgpeeogoglaaDoor
