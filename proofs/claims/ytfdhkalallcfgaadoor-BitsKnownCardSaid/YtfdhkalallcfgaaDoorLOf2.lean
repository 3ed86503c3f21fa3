/-
  lineagelaw02: the walk of BitsOf, joined.
-/
import Derived.Test.YtfdhkalallcfgaaDoorLOf
namespace Go.Proofs.YtfdhkalallcfgaaDoor
set_option maxRecDepth 100000
open Go.RowKit

theorem plain_put (i : Int) (w : World) (hg : Laid w) : Calls Tryd.prog 23 #[putE i, rputE i] w (RetB (.bool true) w) := by
  unfold putE rputE bErr
  cases inZ i
  · exact plain_same 1 (by decide) (by decide) w hg
  · exact plain_same 0 (by decide) (by decide) w hg
set_option maxHeartbeats 4000000 in
theorem bitsOf_any (A : Option Addr) (cap : Nat) (l : List Int) (i : Int) (on : Bool) (w : World) (hA : IntsAt w A l) (hl : l.length * 8 ≤ 140737488351232) (hg : Laid w) :
    Calls Tryd.prog 5 #[.slice A l.length cap, .int .i64 i, .bool on] w (RetB (.bool true) w) := by
  have HG := Lib.hid hg
  have hpos := hg.pos
  have HA := Lib.hid hA
  obtain ⟨s, hs⟩ : ∃ s, (ofL l).1 = s := ⟨_, rfl⟩
  obtain ⟨er, her⟩ : ∃ er, ofErr (ofL l).2 = er := ⟨_, rfl⟩
  obtain ⟨no, hno⟩ : ∃ no, noOf (ofL l).2 = no := ⟨_, rfl⟩
  obtain ⟨pl, hpl⟩ : ∃ pl, plOf (ofL l).2 = pl := ⟨_, rfl⟩
  have HLE := Lib.hid fun w h => lentI_any A l.length cap l rfl hl w h
  have HOF : Hid (∀ w g c, IntsAt w (some ⟨g, 0, none⟩) (fullI l) → Calls Tryd.prog 15 #[.slice (some ⟨g, 0, none⟩) l.length c] w (RetSame (.tuple #[.int .u64 (wd s), er]) w)) := Lib.hid fun w g c h => by
    rw [← hs, ← her]
    refine of_list _ c l w (fun h0 => ?_) hl
    obtain ⟨b, off, e, h1, h2⟩ := h (by rw [fullI_len]; omega)
    exact ⟨b, off, e, h1, fun k x hk => h2 k x (fullI_lo hk)⟩
  have HRO : Hid (∀ w, IntsAt w A l → Calls Tryd.prog 18 #[.slice A l.length cap] w (RetSame (.tuple #[.int .u64 (wd s), .int .i64 no, .int .i64 pl]) w)) := Lib.hid fun w h => by
    rw [← hs, ← hno, ← hpl]; exact rof_list A cap l w h hl
  have HAT : Hid (∀ w, Laid w → Calls Tryd.prog 20 #[er, .int .i64 no, .int .i64 pl] w (RetB (.bool true) w)) := Lib.hid fun w h => by
    rw [← her, ← hno, ← hpl]; exact at_of l w h
  have HKE := Lib.hid fun g c hc w h1 h2 => keptI_any g c A l.length cap l rfl hl hc w h1 h2
  have hss : (s == s) = true := by simp
  have hpp : (putZ s i on == putZ s i on) = true := by simp
  have hhh : (hasZ s i == hasZ s i) = true := by simp
  clear hg hA hs her hno hpl
  go_enter Tryd.func5, Tryd.ntmps5
  go_wp2_with (first | (go_at_call 17; fail))
  refine (HLE.out w HA.out).mono ?_
  rintro e w1 ⟨g, c, rfl, hc1, hc2, hx, hb1⟩
  have HX := Lib.hid hx
  have HB1 := Lib.hid hb1
  have s1 := hb1.size
  have HC := Lib.hid hc1
  clear hx hb1 hc1 hc2
  go_wp2_with (first
    | (go_at_call 15; refine (HOF.out _ g c HX.out).mono ?_; rintro e w' ⟨rfl, rfl⟩)
    | (go_at_call 18; refine (HRO.out _ (HA.out.below HB1.out (Nat.le_refl _))).mono ?_; rintro e w' ⟨rfl, rfl⟩)
    | (go_at_call 19; refine (HKE.out g c HC.out _ HX.out (HA.out.below HB1.out (Nat.le_refl _))).mono ?_; rintro e w' ⟨rfl, rfl⟩)
    | (go_at_call 20; fail))
  refine (HAT.out _ (HG.out.below HB1.out hpos)).mono ?_
  rintro e w2 ⟨rfl, hb2⟩
  have HB2 := Lib.hid (HB1.out.trans (hb2.mono s1))
  have s2 := HB2.out.size
  clear hb2 HB1 s1 HX
  go_wp2_with (first
    | (go_at_call 21; refine (put_any s i on _).mono ?_; rintro e w' ⟨rfl, rfl⟩; unfold putV)
    | (go_at_call 22; refine (rput2_any s i on _).mono ?_; rintro e w' ⟨rfl, rfl⟩; unfold rputV)
    | (go_at_call 23; fail))
  refine (plain_put i _ (HG.out.below HB2.out hpos)).mono ?_
  rintro e w3 ⟨rfl, hb3⟩
  have HB3 := Lib.hid (HB2.out.trans (hb3.mono s2))
  clear hb3 HB2 s2
  go_wp2_with (first
    | (go_at_call 24; refine (has_any s i _).mono ?_; rintro e w' ⟨rfl, rfl⟩)
    | (go_at_call 25; refine (rhas_any s i _).mono ?_; rintro e w' ⟨rfl, rfl⟩))
  go_ret
  exact ⟨rfl, HB3.out⟩
end Go.Proofs.YtfdhkalallcfgaaDoor
