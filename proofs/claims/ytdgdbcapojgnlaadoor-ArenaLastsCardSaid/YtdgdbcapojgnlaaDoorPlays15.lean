/-
  lineagelaw15.ArenaPlays: the whole walk.
-/
import Derived.Test.YtdgdbcapojgnlaaDoorDoes15
namespace Go.Proofs.YtdgdbcapojgnlaaDoor
set_option maxRecDepth 100000
open Go.RowKit Go.Shelf Go.Sort
attribute [local go_sem] Oper.semAt_some

theorem Two.trans {w W W' : World} {g lo h b : Nat} {SA SR S1 S2 : St} (t : Two w g lo h b SA SR W) (u : Two W g lo h b S1 S2 W') : Two w g lo h b S1 S2 W' := ⟨u.ar, u.rf, t.tn.trans u.tn⟩
theorem Two.below {w W : World} {g lo h b n : Nat} {SA SR : St} (t : Two w g lo h b SA SR W) (hg : n ≤ g) (hlo : n ≤ lo) (hn : n ≤ w.heap.size) : Below n w W :=
  t.tn.below (fun k hk => by have := t.rf.los; omega) hn
/-- Between two acts: both are S. -/
structure InvP (w : World) (g lo h b : Nat) (k : Nat) (S : St) (wr : World) : Prop where
  two : Two w g lo h b S S wr
  w0 : 0 ≤ S.writes
  w1 : S.writes ≤ k
theorem InvP.act {w wr w' : World} {g lo h b k : Nat} {S : St} (i : InvP w g lo h b k S wr) (x : ActV) (t : Two wr g lo h b (S.act x) (S.act x) w') : InvP w g lo h b (k + 1) (S.act x) w' :=
  ⟨i.two.trans t, by have := act_writes S x; have := i.w0; omega, by have := act_writes S x; have := i.w1; omega⟩
theorem InvP.does {w wr : World} {g lo h b k : Nat} {S : St} (i : InvP w g lo h b k S wr) (x : ActV) (hk : k < 900000) (hg : g < lo) (hlo : lo ≤ w.heap.size) (hL : Laid w) (hge : 0 < g) :
    Calls Tryd.prog 10 #[.pointer (some ⟨g, 0, none⟩), .pointer (some ⟨h, 0, none⟩), .agg x.cells] wr (fun e w' => e = .returned (.bool true) ∧ ∃ S', InvP w g lo h b (k + 1) S' w') := by
  have hl := i.two.rf.los
  exact (does_any x wr i.two.ar i.two.rf hg (Nat.le_trans hlo i.two.tn.size) (i.two.laid hL (by omega)) hge i.w0 (by have := i.w1; omega)).mono fun e w' ⟨h1, h2⟩ => ⟨h1, _, i.act x h2⟩
def ActV.two : ActV := ⟨2, 0, SlotV.zero⟩
theorem built_two : Tryd.prog.built 38 (#[(0, Value.int .i64 2)] : Array (Nat × Value)).toList = some ActV.two.cells := by kernel_rfl

set_option maxHeartbeats 8000000 in
theorem plays_any (tk : Int) (P0 : Option Addr) (cap : Nat) (xs : List ActV) (w : World) (hin : ActsAt w P0 xs) (_ : xs.length * 160 ≤ 140737488351232) (hL : Laid w) :
    Calls Tryd.prog 3 #[.int .i64 tk, .slice P0 xs.length cap] w (RetB (.bool true) w) := by
  have HI := Lib.hid hin
  have hge := hL.pos
  have HL := Lib.hid hL
  have HL0 := Lib.hid hL
  obtain ⟨N, hN, hN33⟩ : ∃ N : Nat, pickZ tk 33 = (N : Int) ∧ N < 33 := ⟨(pickZ tk 33).toNat, by unfold pickZ; omega, by unfold pickZ; omega⟩
  have HP := Lib.hid (fun w => show Calls Tryd.prog 9 #[.int .i64 tk, .int .i64 33] w (RetSame (.int .i64 (N : Int)) w) from by
    have h := pick_any tk 33 (by decide) (by decide) w
    rwa [show pickZ tk ((33 : Nat) : Int) = (N : Int) from hN] at h)
  clear hin hN hL
  by_cases hbig : 4000 < xs.length
  · have hbig' : (4000 : Int) < (xs.length : Int) := by omega
    go_enter Tryd.func3, Tryd.ntmps3
    go_wp2
    go_ret
    exact ⟨rfl, Below.refl _ _⟩
  · have hbig' : ¬ (4000 : Int) < (xs.length : Int) := by omega
    go_enter Tryd.func3, Tryd.ntmps3
    go_wp2_with (go_at_call 7; fail)
    refine (new_st w).mono ?_
    rintro e w1 ⟨g, rfl, hg, hS1, hb1⟩
    have hgl := hS1.lt
    have K1 := Lib.hid hS1
    have B1 := Lib.hid hb1
    clear hS1 hb1
    go_wp2_with (go_at_call 7; fail)
    refine (new_st w1).mono ?_
    rintro e w2 ⟨g2, rfl, hg2, hS2, hb2⟩
    have hgl2 := hS2.lt
    have K1' := Lib.hid (K1.out.below hb2 hgl)
    have K2 := Lib.hid hS2
    have hs1 := B1.out.size
    have hs2 := hb2.size
    have B2 := Lib.hid (B1.out.trans (hb2.mono hs1))
    clear hS2 hb2 B1 K1
    go_wp2_with (go_at_call 8; fail)
    refine (rnew_any w2).mono ?_
    rintro e w3 ⟨h, b, rfl, hh, hb, hR, hb3⟩
    have hs3 := hb3.size
    have I3 := Lib.hid (show InvP w3 g w2.heap.size h b 0 St.new w3 from ⟨Two.start (K1'.out.below hb3 (by omega)) hR, by decide, by decide⟩)
    have K3 := Lib.hid (K2.out.below hb3 hgl2)
    have B3 := Lib.hid (B2.out.trans (hb3.mono (by omega)))
    have L3 := Lib.hid (HL.out.below B3.out hge)
    have hgg : g ≠ g2 := by omega
    have hhb := hR.los
    clear hR hb3 K1' K2 B2 HL
    go_wp2
    go_loopw [8] (fun i wr => ∃ (k : Nat) (S : St), k ≤ N ∧ i = .int .i64 k ∧ InvP w3 g w2.heap.size h b k S wr) (fun i _ => N - (intOf i).toNat)
    case atStart => exact ⟨0, _, Nat.zero_le _, rfl, I3.out⟩
    case round =>
      obtain ⟨k, S, hk, rfl, hInv⟩ := hrel
      have HV := Lib.hid hInv
      clear hInv I3
      by_cases hlt : k < N
      · have hki : (k : Int) < (N : Int) := by omega
        have DO := Lib.hid (HV.out.does ActV.two (by omega) (by omega) (by omega) L3.out (by omega))
        go_wp2_with (first
          | (go_at_call 9; refine (HP.out _).mono ?_; rintro e w' ⟨rfl, rfl⟩)
          | (refine wpList_build_as rfl rfl rfl built_two ?_)
          | (go_at_call 10; fail))
        refine DO.out.mono ?_
        rintro e w5 ⟨rfl, S', hI⟩
        have HV' := Lib.hid hI
        clear hI HV DO
        go_wp2
        go_roundw
        case rel => exact ⟨k + 1, S', by omega, by go_num, HV'.out⟩
        case measure => simp [intOf]; omega
      · obtain rfl : k = N := by omega
        go_wp2_with (first
          | (go_at_call 9; refine (HP.out _).mono ?_; rintro e w' ⟨rfl, rfl⟩))
        go_loopw [9] (fun i wr' => ∃ (m : Nat) (S : St), m ≤ xs.length ∧ i = .int .i64 m ∧ InvP w3 g w2.heap.size h b (33 + m) S wr') (fun i _ => xs.length - (intOf i).toNat)
        case atStart => exact ⟨0, S, Nat.zero_le _, rfl, HV.out.two, HV.out.w0, by have := HV.out.w1; omega⟩
        case round =>
          obtain ⟨m, S2, hm, rfl, hInv⟩ := hrel
          have HV2 := Lib.hid hInv
          clear hInv HV
          by_cases hlt2 : m < xs.length
          · have hmi : (m : Int) < (xs.length : Int) := by omega
            obtain ⟨x, hx⟩ : ∃ x, xs[m]? = some x := ⟨_, List.getElem?_eq_getElem hlt2⟩
            obtain ⟨bb, off, rfl, hbl, hrow0⟩ := (HI.out.below (B3.out.trans (HV2.out.two.below (n := w.heap.size) (by omega) (by omega) (by omega))) (Nat.le_refl _)) (by omega)
            have HRW := Lib.hid (hrow0 m x hx)
            have HU := Lib.hid Tryd.underlying38
            have DO := Lib.hid (HV2.out.does x (by omega) (by omega) (by omega) L3.out (by omega))
            clear hrow0 hx hbl
            go_wp2_with (first
              | (refine wpList_load_at (ty := 38) rfl rfl rfl HRW.out HU.out rfl actInfo ?_)
              | (go_at_call 10; fail))
            refine DO.out.mono ?_
            rintro e w5 ⟨rfl, S', hI⟩
            have HV' := Lib.hid hI
            clear hI HV2 DO HRW HU
            go_wp2
            go_roundw
            case rel => exact ⟨m + 1, S', by omega, by go_num, HV'.out⟩
            case measure => simp [intOf]; omega
          · obtain rfl : m = xs.length := by omega
            have hsW := HV2.out.two.tn.size
            have BW := Lib.hid (B3.out.trans (HV2.out.two.below (n := w.heap.size) (by omega) (by omega) (by omega)))
            have LW := Lib.hid (HL0.out.below BW.out hge)
            have AK := Lib.hid (asked_any wr HV2.out.two.ar HV2.out.two.rf LW.out)
            have K4 := Lib.hid (K3.out.block (HV2.out.two.tn.block g2 K3.out.lt (by omega)))
            clear HV2
            go_wp2_with (go_at_call 11; fail)
            refine AK.out.mono ?_
            rintro e w5 ⟨rfl, hb5⟩
            have hs5 := hb5.size
            have K5 := Lib.hid (K4.out.below hb5 K4.out.lt)
            have B5 := Lib.hid (BW.out.trans (hb5.mono BW.out.size))
            clear hb5 AK K4 BW LW
            go_wp2_with (go_at_call 8; fail)
            refine (rnew_any w5).mono ?_
            rintro e w6 ⟨h2, b2, rfl, hh2, hb2, hR2, hb6⟩
            have hs6 := hb6.size
            have K6 := Lib.hid (K5.out.below hb6 K5.out.lt)
            have B6 := Lib.hid (B5.out.trans (hb6.mono B5.out.size))
            have L6 := Lib.hid (HL0.out.below B6.out hge)
            have AK := Lib.hid (asked_any w6 K6.out hR2 L6.out)
            clear hb6 K5 B5 hR2 K6 L6
            go_wp2_with (go_at_call 11; fail)
            refine AK.out.mono ?_
            rintro e w7 ⟨rfl, hb7⟩
            have B7 := Lib.hid (B6.out.trans (hb7.mono B6.out.size))
            clear hb7 AK B6
            go_wp2
            go_ret
            exact ⟨rfl, B7.out⟩
end Go.Proofs.YtdgdbcapojgnlaaDoor
