/-
  lineagelaw17.TreeLasts: the whole walk.
-/
import Derived.Test.YtbidgpeeogoglaaDoorTrInv
import Derived.Test.YtbidgpeeogoglaaDoorTrBox
namespace Go.Proofs.YtbidgpeeogoglaaDoor
set_option maxRecDepth 100000
open Go.RowKit Go.Sort

/-- A row from n on. -/
def Row9 (n : Nat) (W : World) (p : Option Addr) (L : List Nat) : Prop := IntsAt W p (natInts L) ∧ ∀ a, p = some a → n ≤ a.block ∧ a.block < W.heap.size
/-- An iterator's box and row, from n on. -/
def Box9 (n : Nat) (W : World) (B : Nat) (p : Option Addr) (cap : Nat) (L : List Nat) : Prop := Boxed W B 46 (.slice p L.length cap) ∧ n ≤ B ∧ Row9 n W p L
section
variable {tq tr : TypeId} {w W W' : World} {n q g q2 lo h b B cap : Nat} {p : Option Addr} {L : List Nat} {S R : St} {l l2 : Int}
theorem Row9.read (r : Row9 n W p L) (hb : Below W.heap.size W W') : Row9 n W' p L := ⟨r.1.below hb (Nat.le_refl _), fun a e => ⟨(r.2 a e).1, Nat.lt_of_lt_of_le (r.2 a e).2 hb.size⟩⟩
theorem Box9.read (r : Box9 n W B p cap L) (hb : Below W.heap.size W W') : Box9 n W' B p cap L := ⟨(hb.block B r.1.lt).trans r.1, r.2.1, r.2.2.read hb⟩
theorem Row9.turn (r : Row9 n w p L) (t : Both tq tr w q g q2 lo h b S R l l2 W) (hn : q < n ∧ g < n ∧ q2 < n ∧ h < n ∧ b < n) : Row9 n W p L :=
  ⟨fun hp => by
    obtain ⟨b1, off, rfl, hlt, hc⟩ := r.1 hp
    have h2 := (r.2 _ rfl).1
    dsimp only at h2
    exact ⟨b1, off, rfl, Nat.lt_of_lt_of_le hlt t.tn.size, fun k i hk => t.cell hlt (by omega) (hc k i hk)⟩, fun a e => ⟨(r.2 a e).1, Nat.lt_of_lt_of_le (r.2 a e).2 t.tn.size⟩⟩
theorem Box9.turn (r : Box9 n w B p cap L) (t : Both tq tr w q g q2 lo h b S R l l2 W) (hn : q < n ∧ g < n ∧ q2 < n ∧ h < n ∧ b < n) : Box9 n W B p cap L :=
  ⟨(t.tn.block B r.1.lt (by have := r.2.1; omega)).trans r.1, r.2.1, r.2.2.turn t hn⟩
theorem InvT.here {w3 : World} {k : Nat} (i : InvT w3 q g q2 lo h b k S R l W) : InvT W q g q2 lo h b k S R l W := ⟨Both.here i.gar, i.ag, i.w0, i.w1⟩
theorem gone_bx {f : FuncId} (eg : ∀ args w, (callFunc f args).run Tryd.prog w = .ok (.enter f args) w) (heql : ∀ b w, (binOp .eql 43 (.func (.func f) #[] #[.pointer b]) .nilFunc).run Tryd.prog w = .ok (.bool false) w)
    (hseq : ∀ (L : List Nat) (p : Option Addr) (cap : Nat) (w : World) (Bn n₀ : Nat) (z : Nat → Prop), z Bn → (∀ a, p = some a → z a.block) → Boxed w Bn 46 (.slice p L.length cap) → IntsAt w p (natInts L) → L.length ≤ 1000000 → Go.Proofs.YtbidgpeeogoglaaDoor.Seqs Tryd.prog f #[.pointer (some ⟨Bn, 0, none⟩)] natV n₀ z 0 L w)
    {A : Option Addr} {c : Nat} (w : World) (hB : Box9 n w B p cap L) (hr : Row9 n w A L) (hlen : L.length ≤ 32) :
    Calls Tryd.prog 19 #[.func (.func f) #[] #[.pointer (some ⟨B, 0, none⟩)], .slice A L.length c] w (RetB (.bool true) w) :=
  gone_any (z := fun k => k < w.heap.size) eg w (fun n₀ => hseq L p cap w B n₀ _ hB.1.lt (fun a e => (hB.2.2.2 a e).2) hB.1 hB.2.2.1 (by omega)) (fun k hk => hk) hr.1 hlen (heql _)
end
set_option maxHeartbeats 16000000 in
theorem tlasts_any (P0 : Option Addr) (cap : Nat) (xs : List ActT) (P1 : Option Addr) (cap1 : Nat) (ys : List ActT) (i : Int) (w : World) (hin : ActTsAt w P0 xs) (_ : xs.length * 176 ≤ 140737488351232) (hin1 : ActTsAt w P1 ys) (_ : ys.length * 176 ≤ 140737488351232) (hL : Laid w) :
    Calls Tryd.prog 3 #[.slice P0 xs.length cap, .slice P1 ys.length cap1, .int .i64 i] w (RetB (.bool true) w) := by
  have HI := Lib.hid hin
  have HJ := Lib.hid hin1
  have hge := hL.pos
  have HL := Lib.hid hL
  clear hin hin1 hL
  by_cases hbig : 300 < xs.length
  · have hbig' : (300 : Int) < (xs.length : Int) := by omega
    go_enter Tryd.func3, Tryd.ntmps3
    go_wp2
    go_ret
    exact ⟨rfl, Below.refl _ _⟩
  have hbig' : ¬ (300 : Int) < (xs.length : Int) := by omega
  by_cases hbig2 : 300 < ys.length
  · have hbig3 : (300 : Int) < (ys.length : Int) := by omega
    go_enter Tryd.func3, Tryd.ntmps3
    go_wp2
    go_ret
    exact ⟨rfl, Below.refl _ _⟩
  have hbig3 : ¬ (300 : Int) < (ys.length : Int) := by omega
  go_enter Tryd.func3, Tryd.ntmps3
  go_wp2_with (go_at_call 8; fail)
  refine (new_st w).mono ?_
  rintro e w1 ⟨g, rfl, hg, hS1, hb1⟩
  have hgl := hS1.lt
  have hs1 := hb1.size
  have K1 := Lib.hid hS1
  have B1 := Lib.hid hb1
  clear hS1 hb1
  go_wp2_with (go_at_call 9; fail)
  refine (trNew_any g w1).mono ?_
  rintro e w1' ⟨rfl, hB1, hb1'⟩
  have hs1' := hb1'.size
  have hlt1 := hB1.lt
  have K1' := Lib.hid (K1.out.below hb1' (by omega))
  have Q1 := Lib.hid hB1
  have B1' := Lib.hid (B1.out.trans (hb1'.mono hs1))
  clear hB1 hb1' K1 B1
  go_wp2_with (go_at_call 11; fail)
  refine (rnew_any w1').mono ?_
  rintro e w2 ⟨h, b, rfl, hh, hb, hR, hb2⟩
  have hs2 := hb2.size
  have hhb := hR.los
  have K2 := Lib.hid (K1'.out.below hb2 (by omega))
  have Q2 := Lib.hid (Q1.out.below hb2 hlt1)
  have R2 := Lib.hid hR
  have B2 := Lib.hid (B1'.out.trans (hb2.mono (by omega)))
  clear hR hb2 K1' B1' Q1
  go_wp2_with (go_at_call 10; fail)
  refine (rtrNew_any h w2).mono ?_
  rintro e w3 ⟨rfl, hB3, hb3⟩
  have hs3 := hb3.size
  have hlt3 := hB3.lt
  obtain ⟨q, hq⟩ : ∃ q, w1.heap.size = q := ⟨_, rfl⟩
  obtain ⟨q2, hq2⟩ : ∃ q2, w2.heap.size = q2 := ⟨_, rfl⟩
  obtain ⟨lo, hlo⟩ : ∃ lo, w1'.heap.size = lo := ⟨_, rfl⟩
  have I3 := Lib.hid (show InvT w3 q g q2 lo h b 0 St.new St.new (-1) w3 from by
    subst hq2 hq hlo
    exact ⟨⟨Q2.out.below hb3 (by omega), K2.out.below hb3 (by omega), hB3, R2.out.call hb3, ⟨by omega, ⟨by omega, by omega⟩, ⟨by omega, by omega, by omega, by omega⟩, ⟨by omega, by omega, by omega⟩⟩, Tn.refl _ _⟩, ⟨rfl, rfl, by decide⟩, ⟨by decide, by decide⟩, ⟨by decide, by decide⟩⟩)
  have B4 := Lib.hid (B2.out.trans (hb3.mono (by omega)))
  have L4 := Lib.hid (HL.out.below B4.out hge)
  have hgeq : 0 < g ∧ 0 < lo ∧ 0 < q ∧ 0 < q2 := by omega
  have hwg : w.heap.size ≤ g ∧ w.heap.size ≤ q ∧ w.heap.size ≤ q2 ∧ w.heap.size ≤ lo ∧ w.heap.size ≤ w3.heap.size := by omega
  have HGQ := Lib.hid hgeq
  have HWG := Lib.hid hwg
  rw [hq2, hq]
  clear hgeq hwg hB3 hb3 K2 Q2 R2 B2 hh hb hhb hlo hlt1 hlt3 hs1 hs1' hs2 hs3 hg hgl hq2 hq
  go_wp2
  go_loopw [10] (fun j wr' => ∃ (m : Nat) (S R : St) (l : Int), m ≤ xs.length ∧ j = .int .i64 m ∧ InvT w3 q g q2 lo h b m S R l wr') (fun j _ => xs.length - (intOf j).toNat)
  case atStart => exact ⟨0, _, _, _, Nat.zero_le _, rfl, I3.out⟩
  case round =>
    obtain ⟨m, S2, R2, l2, hm, rfl, hInv⟩ := hrel
    have HV2 := Lib.hid hInv
    clear hInv I3
    by_cases hlt2 : m < xs.length
    · have hmi : (m : Int) < (xs.length : Int) := by omega
      obtain ⟨x, hx⟩ : ∃ x, xs[m]? = some x := ⟨_, List.getElem?_eq_getElem hlt2⟩
      have BW := Lib.hid (B4.out.trans (HV2.out.below HWG.out))
      obtain ⟨bb, off, rfl, hbl, hrow0⟩ := (HI.out.below BW.out (Nat.le_refl _)) (by omega)
      have HRW := Lib.hid (hrow0 m x hx)
      have HU := Lib.hid Tryd.underlying41
      have DO := Lib.hid (HV2.out.does x (by omega) L4.out HGQ.out)
      clear hrow0 hx hbl
      go_wp2_with (first
        | (refine wpList_load_at (ty := 41) rfl rfl rfl HRW.out HU.out rfl actTInfo ?_)
        | (go_at_call 12; fail))
      refine DO.out.mono ?_
      rintro e w5 ⟨rfl, S3, R3, l3, hI3⟩
      have HI3 := Lib.hid hI3
      clear hI3 DO HRW HU
      go_wp2
      go_roundw
      case rel => exact ⟨m + 1, S3, R3, l3, by omega, by go_num, HI3.out⟩
      case measure => simp [intOf]; omega
    · obtain rfl : m = xs.length := by omega
      have Y0 := Lib.hid (B4.out.trans (HV2.out.below HWG.out))
      have T0 := Lib.hid HV2.out
      obtain ⟨n, hn⟩ : ∃ n, wr.heap.size = n := ⟨_, rfl⟩
      have hlts := HV2.out.gar.lts
      have HLT := Lib.hid (show q < n ∧ g < n ∧ q2 < n ∧ h < n ∧ b < n by omega)
      have hsl := HV2.out.ag.slots
      have A1 := Lib.hid (fun W (a : Ta W q g S2 l2 W) => trootsB_any W W a)
      have A2 := Lib.hid (fun W (a : Ta W q g S2 l2 W) => tkidsB_any i W W a)
      have A3 := Lib.hid (fun W (a : Ta W q g S2 l2 W) => tunderB_any i W W a)
      rw [all_congr' hsl] at A1
      rw [kidsOf_congr hsl] at A2
      rw [underOf_congr hsl] at A3
      have B1 := Lib.hid (fun W (a : RTa W q2 lo h b R2 l2 W) => rroots_any W W a)
      have B2 := Lib.hid (fun W (a : RTa W q2 lo h b R2 l2 W) => rkids_any i W W a)
      have B3 := Lib.hid (fun W (a : RTa W q2 lo h b R2 l2 W) => runderOf_any i W a)
      have N1 := Lib.hid (all_len R2 l2)
      have N2 := Lib.hid (kidsOf_len R2 i)
      have N3 := Lib.hid (underOf_len R2 i)
      have HN := Lib.hid (Nat.le_of_eq hn.symm)
      generalize R2.all l2 = X1 at *
      generalize R2.kidsOf i = X2 at *
      generalize R2.underOf i = X3 at *
      clear HV2 hsl hlts hn
      go_wp2_with (go_at_call 13; fail)
      refine (A1.out _ T0.out.gar.ta).mono ?_
      rintro e v1 ⟨Bi1, pi1, ck1, rfl, hx1, hx2, hx3, hx4, hx5, hb1⟩
      have T1 := Lib.hid (T0.out.read hb1)
      have HN1 := Lib.hid (Nat.le_trans HN.out hb1.size)
      have X91 := Lib.hid (show Box9 n v1 Bi1 pi1 ck1 X1 from ⟨hx1, Nat.le_trans HN.out hx3, hx2, fun a e => ⟨Nat.le_trans HN.out (hx5 a e).1, (hx5 a e).2⟩⟩)
      have Y1 := Lib.hid (Y0.out.trans (hb1.mono Y0.out.size))
      clear hx1 hx2 hx3 hx4 hx5 hb1
      go_wp2_with (go_at_call 14; fail)
      refine (A2.out _ T1.out.gar.ta).mono ?_
      rintro e v2 ⟨Bi2, pi2, ck2, rfl, hx1, hx2, hx3, hx4, hx5, hb2⟩
      have T2 := Lib.hid (T1.out.read hb2)
      have HN2 := Lib.hid (Nat.le_trans HN1.out hb2.size)
      have X92 := Lib.hid (show Box9 n v2 Bi2 pi2 ck2 X2 from ⟨hx1, Nat.le_trans HN1.out hx3, hx2, fun a e => ⟨Nat.le_trans HN1.out (hx5 a e).1, (hx5 a e).2⟩⟩)
      have Y2 := Lib.hid (Y1.out.trans (hb2.mono Y1.out.size))
      replace X91 := Lib.hid (X91.out.read hb2)
      clear hx1 hx2 hx3 hx4 hx5 hb2
      go_wp2_with (go_at_call 15; fail)
      refine (A3.out _ T2.out.gar.ta).mono ?_
      rintro e v3 ⟨Bi3, pi3, ck3, rfl, hx1, hx2, hx3, hx4, hx5, hb3⟩
      have T3 := Lib.hid (T2.out.read hb3)
      have HN3 := Lib.hid (Nat.le_trans HN2.out hb3.size)
      have X93 := Lib.hid (show Box9 n v3 Bi3 pi3 ck3 X3 from ⟨hx1, Nat.le_trans HN2.out hx3, hx2, fun a e => ⟨Nat.le_trans HN2.out (hx5 a e).1, (hx5 a e).2⟩⟩)
      have Y3 := Lib.hid (Y2.out.trans (hb3.mono Y2.out.size))
      replace X91 := Lib.hid (X91.out.read hb3)
      replace X92 := Lib.hid (X92.out.read hb3)
      clear hx1 hx2 hx3 hx4 hx5 hb3
      go_wp2_with (go_at_call 16; fail)
      refine (B1.out _ T3.out.gar.rta).mono ?_
      rintro e v4 ⟨Ai1, ci1, rfl, hx1, hx2, hb4⟩
      have T4 := Lib.hid (T3.out.read hb4)
      have HN4 := Lib.hid (Nat.le_trans HN3.out hb4.size)
      have R91 := Lib.hid (show Row9 n v4 Ai1 X1 from ⟨hx1, fun a e => ⟨Nat.le_trans HN3.out (hx2 a e).1, (hx2 a e).2⟩⟩)
      have Y4 := Lib.hid (Y3.out.trans (hb4.mono Y3.out.size))
      replace X91 := Lib.hid (X91.out.read hb4)
      replace X92 := Lib.hid (X92.out.read hb4)
      replace X93 := Lib.hid (X93.out.read hb4)
      clear hx1 hx2 hb4
      go_wp2_with (go_at_call 17; fail)
      refine (B2.out _ T4.out.gar.rta).mono ?_
      rintro e v5 ⟨Ai2, ci2, rfl, hx1, hx2, hb5⟩
      have T5 := Lib.hid (T4.out.read hb5)
      have HN5 := Lib.hid (Nat.le_trans HN4.out hb5.size)
      have R92 := Lib.hid (show Row9 n v5 Ai2 X2 from ⟨hx1, fun a e => ⟨Nat.le_trans HN4.out (hx2 a e).1, (hx2 a e).2⟩⟩)
      have Y5 := Lib.hid (Y4.out.trans (hb5.mono Y4.out.size))
      replace X91 := Lib.hid (X91.out.read hb5)
      replace X92 := Lib.hid (X92.out.read hb5)
      replace X93 := Lib.hid (X93.out.read hb5)
      replace R91 := Lib.hid (R91.out.read hb5)
      clear hx1 hx2 hb5
      go_wp2_with (go_at_call 18; fail)
      refine (B3.out _ T5.out.gar.rta).mono ?_
      rintro e v6 ⟨Ai3, ci3, rfl, hx1, hx2, hb6⟩
      have T6 := Lib.hid (T5.out.read hb6)
      have HN6 := Lib.hid (Nat.le_trans HN5.out hb6.size)
      have R93 := Lib.hid (show Row9 n v6 Ai3 X3 from ⟨hx1, fun a e => ⟨Nat.le_trans HN5.out (hx2 a e).1, (hx2 a e).2⟩⟩)
      have Y6 := Lib.hid (Y5.out.trans (hb6.mono Y5.out.size))
      replace X91 := Lib.hid (X91.out.read hb6)
      replace X92 := Lib.hid (X92.out.read hb6)
      replace X93 := Lib.hid (X93.out.read hb6)
      replace R91 := Lib.hid (R91.out.read hb6)
      replace R92 := Lib.hid (R92.out.read hb6)
      clear hx1 hx2 hb6
      have I6 := Lib.hid T6.out.here
      have L6 := Lib.hid (HL.out.below Y6.out hge)
      have HW6 := Lib.hid (show w.heap.size ≤ g ∧ w.heap.size ≤ q ∧ w.heap.size ≤ q2 ∧ w.heap.size ≤ lo ∧ w.heap.size ≤ v6.heap.size from ⟨HWG.out.1, HWG.out.2.1, HWG.out.2.2.1, HWG.out.2.2.2.1, Y6.out.size⟩)
      clear A1 A2 A3 B1 B2 B3 T0 T1 T2 T3 T4 T5 T6 Y0 Y1 Y2 Y3 Y4 Y5 HN HN1 HN2 HN3 HN4 HN5 HN6
      go_wp2
      go_loopw [17] (fun j wr' => ∃ (m : Nat) (S R : St) (l : Int), m ≤ ys.length ∧ j = .int .i64 m ∧ InvT v6 q g q2 lo h b (xs.length + m) S R l wr') (fun j _ => ys.length - (intOf j).toNat)
      case atStart => exact ⟨0, _, _, _, Nat.zero_le _, rfl, I6.out⟩
      case round =>
        obtain ⟨m, S4, R4, l4, hm4, rfl, hInv⟩ := hrel
        have HV4 := Lib.hid hInv
        clear hInv I6
        by_cases hlt4 : m < ys.length
        · have hmi : (m : Int) < (ys.length : Int) := by omega
          obtain ⟨x, hx⟩ : ∃ x, ys[m]? = some x := ⟨_, List.getElem?_eq_getElem hlt4⟩
          have BW := Lib.hid (Y6.out.trans (HV4.out.below HW6.out))
          obtain ⟨bb, off, rfl, hbl, hrow0⟩ := (HJ.out.below BW.out (Nat.le_refl _)) (by omega)
          have HRW := Lib.hid (hrow0 m x hx)
          have HU := Lib.hid Tryd.underlying41
          have DO := Lib.hid (HV4.out.does x (by omega) L6.out HGQ.out)
          clear hrow0 hx hbl
          go_wp2_with (first
            | (refine wpList_load_at (ty := 41) rfl rfl rfl HRW.out HU.out rfl actTInfo ?_)
            | (go_at_call 12; fail))
          refine DO.out.mono ?_
          rintro e w5 ⟨rfl, S3, R3, l3, hI3⟩
          have HI3 := Lib.hid hI3
          clear hI3 DO HRW HU
          go_wp2
          go_roundw
          case rel => exact ⟨m + 1, S3, R3, l3, by omega, by go_num, HI3.out⟩
          case measure => simp [intOf]; omega
        · obtain rfl : m = ys.length := by omega
          have BW := Lib.hid (Y6.out.trans (HV4.out.below HW6.out))
          have GD1 := Lib.hid (X91.out.turn HV4.out.gar HLT.out)
          have GD2 := Lib.hid (X92.out.turn HV4.out.gar HLT.out)
          have GD3 := Lib.hid (X93.out.turn HV4.out.gar HLT.out)
          have GR1 := Lib.hid (R91.out.turn HV4.out.gar HLT.out)
          have GR2 := Lib.hid (R92.out.turn HV4.out.gar HLT.out)
          have GR3 := Lib.hid (R93.out.turn HV4.out.gar HLT.out)
          clear HV4 X91 X92 X93 R91 R92 R93
          have GO1 := Lib.hid (gone_bx (c := ci1) (enters_of Tryd.func87 (by kernel_rfl) rfl) all1_eql all1_seqs _ GD1.out GR1.out N1.out)
          go_wp2_with (go_at_call 19; fail)
          refine GO1.out.mono ?_
          rintro e u1 ⟨rfl, hb1⟩
          replace BW := Lib.hid (BW.out.trans (hb1.mono BW.out.size))
          replace GD2 := Lib.hid (GD2.out.read hb1)
          replace GR2 := Lib.hid (GR2.out.read hb1)
          replace GD3 := Lib.hid (GD3.out.read hb1)
          replace GR3 := Lib.hid (GR3.out.read hb1)
          clear hb1 GO1
          have GO2 := Lib.hid (gone_bx (c := ci2) (enters_of Tryd.func87 (by kernel_rfl) rfl) all1_eql all1_seqs _ GD2.out GR2.out N2.out)
          go_wp2_with (go_at_call 19; fail)
          refine GO2.out.mono ?_
          rintro e u2 ⟨rfl, hb2⟩
          replace BW := Lib.hid (BW.out.trans (hb2.mono BW.out.size))
          replace GD3 := Lib.hid (GD3.out.read hb2)
          replace GR3 := Lib.hid (GR3.out.read hb2)
          clear hb2 GO2
          have GO3 := Lib.hid (gone_bx (c := ci3) (enters_of Tryd.func56 (by kernel_rfl) rfl) under1_eql under1_seqs _ GD3.out GR3.out N3.out)
          go_wp2_with (go_at_call 19; fail)
          refine GO3.out.mono ?_
          rintro e u3 ⟨rfl, hb3⟩
          replace BW := Lib.hid (BW.out.trans (hb3.mono BW.out.size))
          clear hb3 GO3
          go_wp2
          go_ret
          exact ⟨rfl, BW.out⟩
end Go.Proofs.YtbidgpeeogoglaaDoor
