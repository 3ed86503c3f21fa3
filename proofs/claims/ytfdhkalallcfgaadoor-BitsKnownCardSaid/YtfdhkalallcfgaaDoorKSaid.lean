/-
  lineagelaw02.knownSaid: the chapter's examples.
-/
import Derived.Test.YtfdhkalallcfgaaDoorLOf2
namespace Go.Proofs.YtfdhkalallcfgaaDoor
set_option maxRecDepth 100000
open Go.RowKit

theorem intsNew (w : World) (l : List Int) (cs : Array Value) (h : cs = (l.map (Value.int .i64)).toArray) : IntsAt (w.alloc (.cells cs 3)) (some ⟨w.heap.size, 0, none⟩) l := fun _ => ⟨_, 0, rfl, by simp, fun k i hk => by
  rw [World.cell?_alloc_at _ _ _ _ rfl, h]
  simp [hk]⟩
theorem said1 : ofL [0, 63, 5] = (9223372036854775841#64, none) := by decide +kernel
theorem said2 : ofL [64] = (0#64, some (1, 0)) := by decide +kernel
theorem said3 : ofL [1, 2, 1] = (0#64, some (9, 2)) := by decide +kernel
theorem said4 : ofL [-1, -1] = (0#64, some (1, 0)) := by decide +kernel
theorem said5 : putV 5#64 2 false = .tuple #[.int .u64 (wd 1#64), .nilIface] := by kernel_rfl
theorem said6 : putV 5#64 64 true = .tuple #[.int .u64 (wd 0#64), bErr 1] := by kernel_rfl

set_option maxHeartbeats 4000000 in
theorem knownSaid_any (w : World) (hg : Laid w) : Calls Tryd.prog 26 #[] w (RetB (.bool true) w) := by
  have HG := Lib.hid hg
  have hpos := hg.pos
  clear hg
  go_enter Tryd.func26, Tryd.ntmps26
  go_wp2_with (go_at_call 15; fail)
  refine (of_list (some ⟨w.heap.size, 0, none⟩) 3 [0, 63, 5] _ (intsNew _ _ _ rfl) (by decide)).mono ?_
  rintro e w1 ⟨rfl, h1⟩
  rw [said1]
  simp only [ofV, ofErr, fault]
  have B1 := Lib.hid (show Below w.heap.size w w1 from h1 ▸ (Below.refl _ _).alloc (Nat.le_refl _) _)
  clear h1
  go_wp2_with (go_at_call 15; fail)
  refine (of_list (some ⟨w1.heap.size, 0, none⟩) 1 [64] _ (intsNew _ _ _ rfl) (by decide)).mono ?_
  rintro e w2 ⟨rfl, h1⟩
  rw [said2]
  simp only [ofV, ofErr, fault]
  have B2 := Lib.hid (show Below w.heap.size w w2 from h1 ▸ B1.out.alloc B1.out.size _)
  clear h1
  go_wp2_with (go_at_call 15; fail)
  refine (of_list (some ⟨w2.heap.size, 0, none⟩) 3 [1, 2, 1] _ (intsNew _ _ _ rfl) (by decide)).mono ?_
  rintro e w3 ⟨rfl, h1⟩
  rw [said3]
  simp only [ofV, ofErr, fault]
  have B3 := Lib.hid (show Below w.heap.size w w3 from h1 ▸ B2.out.alloc B2.out.size _)
  clear h1
  go_wp2_with (go_at_call 15; fail)
  refine (of_list (some ⟨w3.heap.size, 0, none⟩) 2 [-1, -1] _ (intsNew _ _ _ rfl) (by decide)).mono ?_
  rintro e w4 ⟨rfl, h1⟩
  rw [said4]
  simp only [ofV, ofErr, fault]
  have B4 := Lib.hid (show Below w.heap.size w w4 from h1 ▸ B3.out.alloc B3.out.size _)
  clear h1
  go_wp2_with (go_at_call 21; fail)
  refine (put_any 5#64 2 false _).mono ?_
  rintro e w' ⟨rfl, h1⟩
  subst h1
  rw [said5]
  go_wp2_with (go_at_call 21; fail)
  refine (put_any 5#64 64 true _).mono ?_
  rintro e w' ⟨rfl, h1⟩
  subst h1
  rw [said6]
  simp only [bErr]
  have e1 : wd 9223372036854775841#64 = 9223372036854775841 := rfl
  have e2 : wd 1#64 = 1 := rfl
  have e3 : wd 0#64 = 0 := rfl
  clear B1 B2 B3
  go_wp2_with (go_at_call 14; fail)
  refine (works_any _).mono ?_
  rintro e w5 ⟨rfl, h1⟩
  have B5 := Lib.hid (B4.out.trans (h1.mono B4.out.size))
  clear h1 B4
  go_wp2_with (go_at_call 20; fail)
  refine (at_fault 1 0 (by decide) (by decide) _ (HG.out.below B5.out hpos)).mono ?_
  rintro e w6 ⟨rfl, h1⟩
  have B6 := Lib.hid (B5.out.trans (h1.mono B5.out.size))
  clear h1 B5
  go_wp2_with (go_at_call 20; fail)
  refine (at_fault 9 2 (by decide) (by decide) _ (HG.out.below B6.out hpos)).mono ?_
  rintro e w7 ⟨rfl, h1⟩
  have B7 := Lib.hid (B6.out.trans (h1.mono B6.out.size))
  clear h1 B6
  go_wp2_with (go_at_call 20; fail)
  refine (at_fault 1 0 (by decide) (by decide) _ (HG.out.below B7.out hpos)).mono ?_
  rintro e w8 ⟨rfl, h1⟩
  have B8 := Lib.hid (B7.out.trans (h1.mono B7.out.size))
  clear h1 B7
  go_wp2_with (go_at_call 23; fail)
  refine (plain_same 1 (by decide) (by decide) _ (HG.out.below B8.out hpos)).mono ?_
  rintro e w9 ⟨rfl, h1⟩
  have B9 := Lib.hid (B8.out.trans (h1.mono B8.out.size))
  clear h1 B8
  go_wp2
  go_ret
  exact ⟨rfl, B9.out⟩
end Go.Proofs.YtfdhkalallcfgaaDoor
