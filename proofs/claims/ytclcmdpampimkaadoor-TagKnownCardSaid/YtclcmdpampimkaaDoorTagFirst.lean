/-
  lineagelaw07: first.
-/
import Derived.Test.YtclcmdpampimkaaDoorTag3
import Derived.Test.YtclcmdpampimkaaDoorU8
namespace Go.Proofs.YtclcmdpampimkaaDoor
set_option maxRecDepth 100000
open Go.RowKit

structure FirstRel (w : World) (n : Nat) (l i : Value) (wr : World) : Prop where
  ex : ∃ k : Nat, k ≤ n ∧ i = .int .i64 k ∧ wr.ownsRow w.heap.size 5 1 l k (u8v (List.range k)) ∧ Below w.heap.size w wr
set_option maxHeartbeats 1000000 in
theorem first_any (n : Nat) (hn0 : 0 < n) (hn : n ≤ 200) (w : World) : Calls Tryd.prog 12 #[.int .i64 (n : Int)] w (fun e w' => ∃ g cap, e = .returned (.slice (some ⟨g, 0, none⟩) n cap) ∧ n ≤ cap ∧ cap ≤ 9223372036854775807 ∧ w'.ownsRow w.heap.size 5 1 (.slice (some ⟨g, 0, none⟩) n cap) n (u8v (List.range n)) ∧ Below w.heap.size w w') := by
  obtain ⟨ii, iz, hi0, hz0, hz1, hz2, hz3⟩ := u8Info
  have hn' : (n : Int) ≤ 200 := by omega
  go_enter Tryd.func12, Tryd.ntmps12
  go_wp2
  go_loopw [3, 4] (FirstRel w n) (fun _ i _ => n - (intOf i).toNat)
  case atStart => exact ⟨⟨0, Nat.zero_le _, rfl, ⟨rfl, .inl ⟨rfl, rfl⟩⟩, Below.refl _ _⟩⟩
  case round =>
    obtain ⟨⟨k, hk, rfl, hown, hbel⟩⟩ := hrel
    have hsz := hbel.size
    have BEL := Lib.hid hbel
    clear hbel
    by_cases hlt : k < n
    · have hk' : (k : Int) < n := by omega
      have HX1 := Lib.hid (show k + 1 ≤ maxLen by unfold maxLen; omega)
      have HX2 := Lib.hid (show (k + 1) * 1 ≤ 140737488355328 by omega)
      have hw : IntKind.u8.wrap (k : Int) = (k : Int) := by rw [IntKind.wrap_u8]; omega
      go_wp2_with (first
        | (at_builtin; refine wpList_append_grows (v := u3) rfl _ _ _ rfl Tryd.underlying22 hi0 hz0 hz1 hz2 hz3 (by decide) rfl hown rfl rfl (byte_one _) HX1.out HX2.out hsz ?_; intro g' cap' w1 hown1 hgr1))
      go_roundw
      case rel => exact ⟨⟨k + 1, by omega, by go_num, by rw [List.range_succ]; simpa [u8v] using hown1, bel_grows BEL.out hgr1 hown (Nat.le_refl _) hsz⟩⟩
      case measure => simp [intOf]; omega
    · obtain rfl : k = n := by omega
      obtain ⟨g, cap, rfl⟩ := own_form hown hn0
      have hc := own_cap hown
      have HO := Lib.hid hown
      have HC := Lib.hid hc
      clear hown hc hk hlt
      go_wp2
      go_ret
      exact ⟨g, cap, rfl, HC.out.1, by have := HC.out.2.1; unfold maxLen at this; omega, HO.out, BEL.out⟩
def K16 : List UInt8 := (List.range 16).map UInt8.ofNat
def M15 : List UInt8 := (List.range 15).map UInt8.ofNat
theorem sum_known : sipSum (keySt K16) M15 = 11613035633349379557#64 := by decide +kernel
end Go.Proofs.YtclcmdpampimkaaDoor
