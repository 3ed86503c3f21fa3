/-
  lineageref0.CopyInts.
-/
import Derived.Test.YtdgdbcapojgnlaaDoorInts
import Derived.Test.YtdgdbcapojgnlaaDoorMem
namespace Go.Proofs.YtdgdbcapojgnlaaDoor
set_option maxRecDepth 100000
open Go.RowKit

set_option maxHeartbeats 2000000 in
theorem copyI_any (A : Option Addr) (c n : Nat) (L : List Int) (hn : L.length = n) (hl : n ≤ 1000000) (w : World) (hin : IntsAt w A L) : Calls Tryd.prog 13 #[.slice A n c] w (fun e w' => ∃ A' c', e = .returned (.slice A' n c') ∧ IntsAt w' A' L ∧ (∀ a, A' = some a → w.heap.size ≤ a.block) ∧ Below w.heap.size w w') := by
  obtain ⟨ii, iz, hi0, hz0, hz1, hz2, hz3⟩ := intInfo
  have HN := Lib.hid hn
  have HI := Lib.hid hin
  clear hin hn
  go_enter Tryd.func13, Tryd.ntmps13
  go_wp2
  go_loopw [3, 4] (fun v j wr => ∃ k : Nat, k ≤ n ∧ j = .int .i64 k ∧ wr.ownsRow w.heap.size 3 1 v k (intVs (L.take k)) ∧ Below w.heap.size w wr) (fun _ j _ => n - (intOf j).toNat)
  case atStart => exact ⟨0, Nat.zero_le _, rfl, World.ownsRow_nil _ _ _ _, Below.refl _ _⟩
  case round =>
    obtain ⟨k, hk, rfl, hown, hbel⟩ := hrel
    have HB := Lib.hid hbel
    have hs := hbel.size
    by_cases hlt : k < n
    · have hki : (k : Int) < (n : Int) := by omega
      obtain ⟨x, hx⟩ : ∃ x, L[k]? = some x := ⟨_, List.getElem?_eq_getElem (by rw [HN.out]; exact hlt)⟩
      obtain ⟨b1, o1, rfl, g1, r1⟩ := (HI.out.below hbel (Nat.le_refl _)) (by rw [HN.out]; omega)
      have d1 := r1 k x hx
      have htk : L.take (k + 1) = L.take k ++ [x] := by rw [List.take_add_one, hx]; rfl
      have HT := Lib.hid htk
      obtain ⟨Ar, cp, rfl⟩ := owns_slice hown
      have HO := Lib.hid hown
      have h1 : k + 1 ≤ maxLen := by unfold maxLen; omega
      have h2 : (k + 1) * 8 ≤ 140737488355328 := by omega
      have H1 := Lib.hid h1
      have H2 := Lib.hid h2
      clear h1 h2 r1 hx htk hown hbel
      go_wp2_with (at_builtin; refine wpList_append_one (v := .slice Ar k cp) rfl _ _ 44 rfl Tryd.underlying44 hi0 hz0 hz1 hz2 hz3 (by decide) rfl HO.out rfl rfl (int_one _) H1.out H2.out hs ?_; intro g' cap' w11 hown1 hgr1)
      have hbk := bel_grown HB.out hgr1 HO.out (Nat.le_refl _) hs
      have HB2 := Lib.hid hbk
      have HO2 := Lib.hid hown1
      clear hgr1 hbk hown1
      go_roundw
      case rel => exact ⟨k + 1, by omega, by go_num, by rw [HT.out, intVs_app]; exact HO2.out, HB2.out⟩
      case measure => simp [intOf]; omega
    · obtain rfl : k = n := by omega
      have htk : L.take k = L := List.take_of_length_le (by rw [HN.out]; exact Nat.le_refl _)
      rw [htk] at hown
      obtain ⟨A', c', rfl, hi, hp⟩ := owns_intsFrom (l := L) hown
      clear htk hown hbel
      have HI2 := Lib.hid hi
      have HP := Lib.hid hp
      clear hi hp
      go_wp2
      go_ret
      exact ⟨A', c', rfl, HI2.out, fun a ha => (HP.out a ha).1, HB.out⟩
end Go.Proofs.YtdgdbcapojgnlaaDoor
