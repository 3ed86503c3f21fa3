/-
  lineagelaw10: knownSaid; lineagekit.Head.
-/
import Derived.Test.YtpdpdojaaaipcaaDoorPut
import Derived.Test.YtpdpdojaaaipcaaDoorPkX2
import Derived.Test.YtpdpdojaaaipcaaDoorPlain
namespace Go.Proofs.YtpdpdojaaaipcaaDoor
set_option maxRecDepth 100000
open Go.RowKit
theorem open_lit (w : World) (l : List UInt8) (hl : l.length ≤ 100) :
    Calls Tryd.prog 6 #[.slice (some ⟨w.heap.size, 0, none⟩) l.length l.length] (w.alloc (.cells (byv l).toArray 5)) fun e w' => ∃ g v, e = .returned (.pointer (some ⟨g, 0, none⟩)) ∧ w.heap.size ≤ g ∧ IsR w' g v l 0 ∧ Below w.heap.size w w' := by
  refine (open_r (some ⟨w.heap.size, 0, none⟩) l.length l (by omega) (fun e => by cases e) _ (fun _ => ⟨w.heap.size, 0, rfl, by simp, fun k x hk => ?_⟩)).mono fun e w' ⟨g, v, h1, h2, h3, h4⟩ => ⟨g, v, h1, by simp at h2; omega, h3, ((Below.refl w.heap.size w).alloc (Nat.le_refl _) _).trans (h4.mono (by simp))⟩
  rw [(Blk.new w _ _).cell, Nat.zero_add]
  simp only [List.getElem?_toArray, byv, u8v, List.getElem?_map, hk]
  rfl
theorem rd0 : readN 0 0 (([] : List UInt8).drop 0) = .error 2 := rfl
theorem rd1 : readN 0 0 (([128, 0] : List UInt8).drop 0) = .error 4 := rfl
theorem rd2 : readT (([2, 97, 98] : List UInt8).drop 0) 1 = .error 3 := rfl
theorem rd3 : readT (([3, 97, 98] : List UInt8).drop 0) 5 = .error 2 := rfl
set_option maxHeartbeats 4000000 in
theorem knownSaid_any (w : World) (hg : Laid w) : Calls Tryd.prog 18 #[] w (RetB (.bool true) w) := by
  have HG := Lib.hid hg
  clear hg
  go_enter Tryd.func18, Tryd.ntmps18
  go_wp2_with (go_at_call 6; fail)
  refine (open_r none 0 [] (by decide) (fun _ => ⟨rfl, rfl⟩) w (BytesAt.nil _ _)).mono ?_
  rintro e w1 ⟨g1, v1, rfl, hg1, hr1, hb1⟩
  have HB1 := Lib.hid hb1
  have HR1 := Lib.hid hr1
  have HG1 := Lib.hid hg1
  clear hb1 hr1 hg1
  go_wp2_with (go_at_call 14; fail)
  refine (number_err g1 v1 [] 0 2 (by decide) w1 HR1.out rd0).mono ?_
  rintro e w2 ⟨he, h3, h4⟩
  unfold errno at he
  subst he
  have HB2 := Lib.hid (HB1.out.grown h4 HB1.out.size (fun j e => by cases e; exact HG1.out))
  clear h3 h4
  go_wp2_with (go_at_call 6; fail)
  refine (open_lit w2 [128, 0] (by decide)).mono ?_
  rintro e w3 ⟨g2, v2, rfl, hg2, hr2, hb2⟩
  have HB3 := Lib.hid (HB2.out.trans (hb2.mono HB2.out.size))
  have HR2 := Lib.hid hr2
  have HG2 := Lib.hid hg2
  clear hb2 hr2 hg2
  go_wp2_with (go_at_call 14; fail)
  refine (number_err g2 v2 [128, 0] 0 4 (by decide) w3 HR2.out rd1).mono ?_
  rintro e w4 ⟨he, h3, h4⟩
  unfold errno at he
  subst he
  have HB4 := Lib.hid (HB3.out.grown h4 HB3.out.size (fun j e => by cases e; exact Nat.le_trans HB2.out.size HG2.out))
  clear h3 h4
  go_wp2_with (go_at_call 6; fail)
  refine (open_lit w4 [2, 97, 98] (by decide)).mono ?_
  rintro e w5 ⟨g3, v3, rfl, hg3, hr3, hb3⟩
  have HB5 := Lib.hid (HB4.out.trans (hb3.mono HB4.out.size))
  have HR3 := Lib.hid hr3
  have HG3 := Lib.hid hg3
  clear hb3 hr3 hg3
  go_wp2_with (go_at_call 12; fail)
  refine (text_err g3 v3 [2, 97, 98] 0 3 1 (by decide) (by decide) w5 HR3.out rd2).mono ?_
  rintro e w6 ⟨he, h3, h4⟩
  unfold errno at he
  subst he
  have HB6 := Lib.hid (HB5.out.grown h4 HB5.out.size (fun j e => by cases e; exact Nat.le_trans HB4.out.size HG3.out))
  clear h3 h4
  go_wp2_with (go_at_call 6; fail)
  refine (open_lit w6 [3, 97, 98] (by decide)).mono ?_
  rintro e w7 ⟨g4, v4, rfl, hg4, hr4, hb4⟩
  have HB7 := Lib.hid (HB6.out.trans (hb4.mono HB6.out.size))
  have HR4 := Lib.hid hr4
  have HG4 := Lib.hid hg4
  clear hb4 hr4 hg4
  go_wp2_with (go_at_call 12; fail)
  refine (text_err g4 v4 [3, 97, 98] 0 2 5 (by decide) (by decide) w7 HR4.out rd3).mono ?_
  rintro e w8 ⟨he, h3, h4⟩
  unfold errno at he
  subst he
  have HB8 := Lib.hid (HB7.out.grown h4 HB7.out.size (fun j e => by cases e; exact Nat.le_trans HB6.out.size HG4.out))
  clear h3 h4
  go_wp2_with (go_at_call 32; fail)
  refine (works_w w8).mono ?_
  rintro e w9 ⟨rfl, h5⟩
  have HB9 := Lib.hid (HB8.out.trans (h5.mono HB8.out.size))
  clear h5
  go_wp2_with (go_at_call 10; fail)
  refine (plain_errno 2 2 (by decide) (by decide) w9 (HG.out.below HB9.out HG.out.pos)).mono ?_
  rintro e w10 ⟨rfl, h5⟩
  have HB10 := Lib.hid (HB9.out.trans (h5.mono HB9.out.size))
  clear h5
  go_wp2_with (go_at_call 10; fail)
  refine (plain_errno 4 4 (by decide) (by decide) w10 (HG.out.below HB10.out HG.out.pos)).mono ?_
  rintro e w11 ⟨rfl, h5⟩
  have HB11 := Lib.hid (HB10.out.trans (h5.mono HB10.out.size))
  clear h5
  go_wp2_with (go_at_call 10; fail)
  refine (plain_errno 3 3 (by decide) (by decide) w11 (HG.out.below HB11.out HG.out.pos)).mono ?_
  rintro e w12 ⟨rfl, h5⟩
  have HB12 := Lib.hid (HB11.out.trans (h5.mono HB11.out.size))
  clear h5
  go_wp2_with (go_at_call 10; fail)
  refine (plain_errno 2 2 (by decide) (by decide) w12 (HG.out.below HB12.out HG.out.pos)).mono ?_
  rintro e w13 ⟨rfl, h5⟩
  have HB13 := Lib.hid (HB12.out.trans (h5.mono HB12.out.size))
  clear h5
  go_wp2
  go_ret
  exact ⟨rfl, HB13.out⟩
theorem head_any (i : Nat) (w : World) : Calls Tryd.prog 28 #[.string ⟨#[48, 49, 50, 51, 52, 53, 54, 55, 56, 57, 97, 98, 99, 100, 101, 102]⟩, .int .i64 (i : Int)] w fun e w' => ∃ s : ByteArray, e = .returned (.string s) ∧ s.size ≤ 16 ∧ w = w' := by
  by_cases h0 : i = 0
  · subst h0
    go_enter Tryd.func28, Tryd.ntmps28
    go_wp2
    go_ret
    exact ⟨_, rfl, by decide, rfl⟩
  · have h1 : ¬ (i : Int) < 1 := by omega
    by_cases h2 : 16 ≤ i
    · have h2' : (16 : Int) ≤ (i : Int) := by omega
      go_enter Tryd.func28, Tryd.ntmps28
      go_wp2
      go_ret
      exact ⟨_, rfl, by decide, rfl⟩
    · have h2' : ¬ (16 : Int) ≤ (i : Int) := by omega
      have h3 : (i : Int) ≤ 16 := by omega
      go_enter Tryd.func28, Tryd.ntmps28
      go_wp2
      go_ret
      refine ⟨_, rfl, ?_, rfl⟩
      rw [ByteArray.size_extract]
      show min i 16 - 0 ≤ 16
      omega
end Go.Proofs.YtpdpdojaaaipcaaDoor
