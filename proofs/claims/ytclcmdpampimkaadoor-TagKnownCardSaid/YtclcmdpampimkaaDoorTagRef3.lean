/-
  Package lineageref07: Bytes, Of; tag.Same.
-/
import Derived.Test.YtclcmdpampimkaaDoorTagRef2
namespace Go.Proofs.YtclcmdpampimkaaDoor
set_option maxRecDepth 100000
open Go.RowKit

theorem rF_slot (slot : Int) (B k : Nat) (hk : k < 4) : low64 slot / 2 ^ (8 * k) % 256 = ofF (low32 slot) B k := by
  have h : k = 0 ∨ k = 1 ∨ k = 2 ∨ k = 3 := by omega
  unfold ofF low32 low64
  rcases h with rfl | rfl | rfl | rfl <;> simp <;> omega
theorem rF_birth (B S k : Nat) : B / 2 ^ (8 * k) % 256 = ofF S B (4 + k) := by
  unfold ofF
  rw [if_neg (by omega), Nat.add_sub_cancel_left]
structure BRel (w : World) (base off n : Nat) (F : Nat → Nat) (l i : Value) (wr : World) : Prop where
  ex : ∃ k m, k ≤ n ∧ m = off + k ∧ i = .int .i64 (k : Nat) ∧ wr.ownsRow base 5 1 l m (u8v ((List.range m).map F)) ∧ Below w.heap.size w wr ∧ base ≤ wr.heap.size
set_option maxHeartbeats 4000000 in
theorem rbytes_any (slot birth : Int) (w : World) : Calls Tryd.prog 25 #[.int .i64 slot, .int .i64 birth] w (fun e w' => ∃ g cap, e = .returned (.slice (some ⟨g, 0, none⟩) 12 cap) ∧ 12 ≤ cap ∧ cap ≤ 9223372036854775807 ∧ BytesAt w' (some ⟨g, 0, none⟩) (ofL (low32 slot) (low64 birth)) ∧ Below w.heap.size w w') := by
  obtain ⟨ii, iz, hi0, hz0, hz1, hz2, hz3⟩ := u8Info
  have e1 : IntKind.u64.wrap slot = ((low64 slot : Nat) : Int) := by unfold low64; rw [IntKind.wrap_u64]; omega
  have e2 : IntKind.u64.wrap birth = ((low64 birth : Nat) : Int) := by unfold low64; rw [IntKind.wrap_u64]; omega
  obtain ⟨F, hF⟩ : ∃ F, ofF (low32 slot) (low64 birth) = F := ⟨_, rfl⟩
  have HS : Hid (∀ k, k < 4 → low64 slot / 2 ^ (8 * k) % 256 = F k) := Lib.hid (by rw [← hF]; exact fun k hk => rF_slot slot _ k hk)
  have HBB : Hid (∀ k, low64 birth / 2 ^ (8 * k) % 256 = F (4 + k)) := Lib.hid (by rw [← hF]; exact fun k => rF_birth _ _ k)
  have HF256 : Hid (∀ j, F j < 256) := Lib.hid (by rw [← hF]; exact fun j => ofF_lt _ _ j)
  have HOFL : Hid (((List.range 12).map F).map UInt8.ofNat = ofL (low32 slot) (low64 birth)) := Lib.hid (by rw [← hF]; unfold ofL; simp [Function.comp_def])
  obtain ⟨OL, hOL⟩ : ∃ OL, ofL (low32 slot) (low64 birth) = OL := ⟨_, rfl⟩
  rw [hOL] at HOFL ⊢
  obtain ⟨S, hS⟩ : ∃ S, low64 slot = S := ⟨_, rfl⟩
  obtain ⟨B, hB⟩ : ∃ B, low64 birth = B := ⟨_, rfl⟩
  rw [hS] at e1 HS
  rw [hB] at e2 HBB
  clear hF hS hB hOL
  go_enter Tryd.func25, Tryd.ntmps25
  go_wp2
  go_loopw [5, 6] (BRel w w.heap.size 0 4 F) (fun _ i _ => 4 - (intOf i).toNat)
  case atStart => exact ⟨⟨0, 0, by omega, rfl, rfl, ⟨rfl, .inl ⟨rfl, rfl⟩⟩, Below.refl _ _, Nat.le_refl _⟩⟩
  case round =>
    obtain ⟨⟨k, m, hk, hm, rfl, hown, hbel, hsz⟩⟩ := hrel
    have BEL := Lib.hid hbel
    have HM := Lib.hid hm
    clear hbel
    by_cases hlt : k < 4
    · obtain ⟨s8, hs8⟩ : ∃ s8, 8 * k = s8 := ⟨_, rfl⟩
      have hs : 8 * (k : Int) = (s8 : Int) := by omega
      have hk4 : (k : Int) < 4 := by omega
      have hb := shr_byte S s8
      have hFk := HS.out k hlt
      rw [hs8] at hFk
      rw [hFk] at hb
      have hs24 : (s8 : Int) ≤ 24 := by omega
      have HX1 := Lib.hid (show m + 1 ≤ maxLen by unfold maxLen; omega)
      have HX2 := Lib.hid (show (m + 1) * 1 ≤ 140737488355328 by omega)
      clear hs8 hm hFk
      go_wp2_with (first
        | (at_builtin; refine wpList_append_grows (v := u5) rfl _ _ _ rfl Tryd.underlying22 hi0 hz0 hz1 hz2 hz3 (by decide) rfl hown rfl rfl (byte_one _) HX1.out HX2.out hsz ?_; intro g' cap' w4 hown1 hgr1))
      go_roundw
      case rel =>
        refine ⟨⟨k + 1, m + 1, by omega, by rw [HM.out]; omega, by go_num, ?_, bel_grows BEL.out hgr1 hown (Nat.le_refl _) hsz, Nat.le_trans hsz hgr1.grown.size⟩⟩
        have e : k = m := by rw [HM.out]; omega
        rw [List.range_succ, List.map_append]
        rw [e] at hown1
        simpa [u8v] using hown1
      case measure => simp [intOf]; omega
    · have hk4 : k = 4 := by omega
      have hm4 : m = 4 := by omega
      subst hk4 hm4
      have HO := Lib.hid hown
      clear hown hm hk hlt
      go_wp2
      go_loopw [5, 7] (BRel w w.heap.size 4 8 F) (fun _ i _ => 8 - (intOf i).toNat)
      case atStart => exact ⟨⟨0, 4, by omega, rfl, rfl, HO.out, BEL.out, hsz⟩⟩
      case round =>
        clear HO BEL hsz HM
        obtain ⟨⟨k, m, hk, hm, rfl, hown, hbel, hsz⟩⟩ := hrel
        have BEL := Lib.hid hbel
        have HM := Lib.hid hm
        clear hbel
        by_cases hlt : k < 8
        · obtain ⟨s8, hs8⟩ : ∃ s8, 8 * k = s8 := ⟨_, rfl⟩
          have hs : 8 * (k : Int) = (s8 : Int) := by omega
          have hk4 : (k : Int) < 8 := by omega
          have hb := shr_byte B s8
          have hFk := HBB.out k
          rw [hs8, ← hm] at hFk
          rw [hFk] at hb
          have hs24 : (s8 : Int) ≤ 56 := by omega
          have HX1 := Lib.hid (show m + 1 ≤ maxLen by unfold maxLen; omega)
          have HX2 := Lib.hid (show (m + 1) * 1 ≤ 140737488355328 by omega)
          clear hs8 hm hFk
          go_wp2_with (first
            | (at_builtin; refine wpList_append_grows (v := u5) rfl _ _ _ rfl Tryd.underlying22 hi0 hz0 hz1 hz2 hz3 (by decide) rfl hown rfl rfl (byte_one _) HX1.out HX2.out hsz ?_; intro g' cap' w4 hown1 hgr1))
          go_roundw
          case rel =>
            refine ⟨⟨k + 1, m + 1, by omega, by rw [HM.out]; omega, by go_num, ?_, bel_grows BEL.out hgr1 hown (Nat.le_refl _) hsz, Nat.le_trans hsz hgr1.grown.size⟩⟩
            rw [List.range_succ, List.map_append]
            simpa [u8v] using hown1
          case measure => simp [intOf]; omega
        · have hk8 : k = 8 := by omega
          have hm12 : m = 12 := by omega
          subst hk8 hm12
          obtain ⟨g, cap, rfl⟩ := own_form hown (by decide)
          have hcp := own_cap hown
          have hba := own_bytes hown (fun x hx => by
            obtain ⟨j, _, rfl⟩ := List.mem_map.1 hx
            exact HF256.out j)
          rw [HOFL.out] at hba
          have HBA := Lib.hid hba
          have HCM := Lib.hid (show cap ≤ 9223372036854775807 by have := hcp.2.1; unfold maxLen at this; omega)
          have HC12 := Lib.hid hcp.1
          clear hown hcp hba hm hk hlt HM
          go_wp2
          go_ret
          exact ⟨g, cap, rfl, HC12.out, HCM.out, HBA.out, BEL.out⟩
set_option maxHeartbeats 1000000 in
theorem rof_any (key : ByteArray) (hk : key.size = 16) (slot birth : Int) (w : World) : Calls Tryd.prog 15 #[.string key, .int .i64 slot, .int .i64 birth] w (RetB (.int .u64 (wd (sipSum (keySt key.data.toList) (ofL (low32 slot) (low64 birth))))) w) := by
  have HK := Lib.hid hk
  clear hk
  go_enter Tryd.func15, Tryd.ntmps15
  go_wp2_with (first | (go_at_call 25; fail))
  refine (rbytes_any slot birth w).mono ?_
  rintro e w1 ⟨g, cap, rfl, hc12, hcm, hb, hbel⟩
  have HB := Lib.hid hb
  have BEL := Lib.hid hbel
  have s1 := hbel.size
  have HC := Lib.hid hcm
  have HC2 := Lib.hid hc12
  clear hb hbel hcm hc12
  go_wp2_with (first | (go_at_call 10; fail))
  refine (rsum_any key HK.out g 0 12 cap (ofL (low32 slot) (low64 birth)) (by simp [ofL]) HC2.out (by decide) HC.out w1 HB.out).mono ?_
  rintro e w2 ⟨rfl, h2⟩
  have HB2 := BEL.out.trans (h2.mono s1)
  go_wp2
  go_ret
  exact ⟨rfl, HB2⟩
end Go.Proofs.YtclcmdpampimkaaDoor
