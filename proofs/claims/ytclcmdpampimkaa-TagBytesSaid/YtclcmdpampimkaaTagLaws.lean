/-
  lineagelaw07: first, works.
-/
import Derived.Test.YtclcmdpampimkaaTag3
import Derived.Test.YtclcmdpampimkaaU8
namespace Go.Proofs.Ytclcmdpampimkaa
set_option maxRecDepth 100000
open Go.RowKit

structure FirstRel (w : World) (n : Nat) (l i : Value) (wr : World) : Prop where
  ex : ∃ k : Nat, k ≤ n ∧ i = .int .i64 k ∧ wr.ownsRow w.heap.size 5 1 l k (u8v (List.range k)) ∧ Below w.heap.size w wr
set_option maxHeartbeats 1000000 in
theorem first_any (n : Nat) (hn0 : 0 < n) (hn : n ≤ 200) (w : World) : Calls Try.prog 9 #[.int .i64 (n : Int)] w (fun e w' => ∃ g cap, e = .returned (.slice (some ⟨g, 0, none⟩) n cap) ∧ n ≤ cap ∧ cap ≤ 9223372036854775807 ∧ w'.ownsRow w.heap.size 5 1 (.slice (some ⟨g, 0, none⟩) n cap) n (u8v (List.range n)) ∧ Below w.heap.size w w') := by
  obtain ⟨ii, iz, hi0, hz0, hz1, hz2, hz3⟩ := u8Info
  have hn' : (n : Int) ≤ 200 := by omega
  go_enter Try.func9, Try.ntmps9
  go_wp2
  go_loopw [3, 4] (FirstRel w n) (fun _ i _ => n - (intOf i).toNat)
  case atStart => exact ⟨⟨0, Nat.zero_le _, rfl, ⟨rfl, .inl ⟨rfl, rfl⟩⟩, Below.refl _ _⟩⟩
  case round =>
    obtain ⟨⟨k, hk, rfl, hown, hbel⟩⟩ := hrel
    have hsz := hbel.size
    have BEL := Lib.hid hbel
    clear hbel
    by_cases hlt : k < n
    · have hk' : (k : Int) < n := by omega
      have HX1 := Lib.hid (show k + 1 ≤ maxLen by unfold maxLen; omega)
      have HX2 := Lib.hid (show (k + 1) * 1 ≤ 140737488355328 by omega)
      have hw : IntKind.u8.wrap (k : Int) = (k : Int) := by rw [IntKind.wrap_u8]; omega
      go_wp2_with (first
        | (at_builtin; refine wpList_append_grows (v := u3) rfl _ _ _ rfl Try.underlying28 hi0 hz0 hz1 hz2 hz3 (by decide) rfl hown rfl rfl (byte_one _) HX1.out HX2.out hsz ?_; intro g' cap' w1 hown1 hgr1))
      go_roundw
      case rel => exact ⟨⟨k + 1, by omega, by go_num, by rw [List.range_succ]; simpa [u8v] using hown1, bel_grows BEL.out hgr1 hown (Nat.le_refl _) hsz⟩⟩
      case measure => simp [intOf]; omega
    · obtain rfl : k = n := by omega
      obtain ⟨g, cap, rfl⟩ := own_form hown hn0
      have hc := own_cap hown
      have HO := Lib.hid hown
      have HC := Lib.hid hc
      clear hown hc hk hlt
      go_wp2
      go_ret
      exact ⟨g, cap, rfl, HC.out.1, by have := HC.out.2.1; unfold maxLen at this; omega, HO.out, BEL.out⟩
def K16 : List UInt8 := (List.range 16).map UInt8.ofNat
def M15 : List UInt8 := (List.range 15).map UInt8.ofNat
theorem sum_known : sipSum (keySt K16) M15 = 11613035633349379557#64 := by decide +kernel
set_option maxHeartbeats 2000000 in
theorem works_any (w : World) : Calls Try.prog 4 #[] w (RetB (.bool true) w) := by
  go_enter Try.func4, Try.ntmps4
  go_wp2_with (first | (go_at_call 9; fail))
  refine (first_any 16 (by decide) (by decide) w).mono ?_
  rintro e w1 ⟨g, cap, rfl, hc1, hc2, hown, hb1⟩
  have hs := str_own w1 w.heap.size g 16 cap _ hown
  rw [show ((List.range 16).map UInt8.ofNat) = K16 from rfl] at hs
  have HB1 := Lib.hid hb1
  have s1 := hb1.size
  clear hown hb1 hc1 hc2
  go_wp2_with (first | (go_at_call 5; fail))
  refine (new_right ⟨K16.toArray⟩ rfl w1).mono ?_
  rintro e w2 ⟨gk, rfl, hK, hgk, hb2⟩
  have HK2 := Lib.hid hK
  have HB2 := Lib.hid (HB1.out.trans (hb2.mono s1))
  have s2 := HB2.out.size
  unfold newV
  clear hK hb2 HB1 s1 hs
  go_wp2_with (first | (go_at_call 9; fail))
  refine (first_any 15 (by decide) (by decide) w2).mono ?_
  rintro e w3 ⟨g3, cap3, rfl, hc1, hc2, hown, hb3⟩
  have HK3 := Lib.hid (HK2.out.below hb3 HK2.out.lt)
  have HBA := Lib.hid (own_bytes hown (fun x hx => by have := List.mem_range.1 hx; omega))
  have HB3 := Lib.hid (HB2.out.trans (hb3.mono s2))
  have s3 := HB3.out.size
  clear hown hb3 HB2 s2 HK2
  go_wp2_with (first | (go_at_call 8; fail))
  refine (sum_any gk 15 cap3 (keySt K16) _ M15 rfl hc1 hc2 w3 HK3.out.row HK3.out.lt HBA.out).mono ?_
  rintro e w4 ⟨rfl, h4⟩
  rw [sum_known]
  have HB4 := HB3.out.trans (h4.mono s3)
  have hd : wd 11613035633349379557#64 = 11613035633349379557 := rfl
  clear h4 HB3
  go_wp2
  go_ret
  exact ⟨rfl, HB4⟩
end Go.Proofs.Ytclcmdpampimkaa
