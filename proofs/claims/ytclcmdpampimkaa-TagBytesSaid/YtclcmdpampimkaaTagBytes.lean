/-
  lineagelaw07: the walk of TagBytes.
-/
import Derived.Test.YtclcmdpampimkaaTagLaws
import Derived.Test.YtclcmdpampimkaaPick
namespace Go.Proofs.Ytclcmdpampimkaa
set_option maxRecDepth 100000
open Go.RowKit

set_option maxHeartbeats 2000000 in
theorem tagBytes_wrong (key : ByteArray) (hk : key.size ≠ 16) (slot birth up : Int) (w : World) : Calls Try.prog 3 #[.string key, .int .i64 slot, .int .i64 birth, .int .i64 up] w (RetB (.bool true) w) := by
  have h1 : ((key.size : Int) != 16) = true := by simp; omega
  have h2 : ¬ (key.size : Int) = 16 := by omega
  have HK := Lib.hid hk
  clear hk
  go_enter Try.func3, Try.ntmps3
  go_wp2_with (first | (go_at_call 4; fail))
  refine (works_any _).mono ?_
  rintro e w1 ⟨rfl, h1'⟩
  have HB1 := Lib.hid h1'
  have s1 := h1'.size
  clear h1'
  go_wp2_with (first | (go_at_call 5; fail))
  refine (new_wrong key HK.out _).mono ?_
  rintro e w2 ⟨rfl, h2'⟩
  have HB2 := HB1.out.trans (h2'.mono s1)
  clear h2' HB1
  go_wp2
  go_ret
  exact ⟨rfl, HB2⟩

theorem ofF_slot (slot : Int) (B k : Nat) (hk : k < 4) : IntKind.u8.wrap (slot / 2 ^ (8 * k)) = ((ofF (low32 slot) B k : Nat) : Int) := by
  have h : k = 0 ∨ k = 1 ∨ k = 2 ∨ k = 3 := by omega
  rw [IntKind.wrap_u8]
  unfold ofF low32
  rcases h with rfl | rfl | rfl | rfl <;> simp <;> omega
theorem ofF_birth (birth : Int) (S k : Nat) (hk : k < 8) : IntKind.u8.wrap (birth / 2 ^ (8 * k)) = ((ofF S (low64 birth) (4 + k) : Nat) : Int) := by
  have h : k = 0 ∨ k = 1 ∨ k = 2 ∨ k = 3 ∨ k = 4 ∨ k = 5 ∨ k = 6 ∨ k = 7 := by omega
  rw [IntKind.wrap_u8]
  unfold ofF low64
  rcases h with rfl | rfl | rfl | rfl | rfl | rfl | rfl | rfl <;> simp <;> omega
theorem low32_far (slot : Int) (p : Nat) : low32 (wrap64 (slot + (p : Int) * 4294967296)) = low32 slot := by
  unfold low32
  have : wrap64 (slot + (p : Int) * 4294967296) % 4294967296 = slot % 4294967296 := by
    rw [← IntWalk.i64_left]
    rw [IntKind.wrap_i64]
    omega
  rw [this]
structure BRel (w : World) (base off n : Nat) (F : Nat → Nat) (l i : Value) (wr : World) : Prop where
  ex : ∃ k m, k ≤ n ∧ m = off + k ∧ i = .int .i64 (k : Nat) ∧ wr.ownsRow base 5 1 l m (u8v ((List.range m).map F)) ∧ Below w.heap.size w wr ∧ base ≤ wr.heap.size
set_option maxHeartbeats 4000000 in
theorem tagBytes_right (key : ByteArray) (hk : key.size = 16) (slot birth up : Int) (w : World) : Calls Try.prog 3 #[.string key, .int .i64 slot, .int .i64 birth, .int .i64 up] w (RetB (.bool true) w) := by
  have HK := Lib.hid hk
  obtain ⟨ii, iz, hi0, hz0, hz1, hz2, hz3⟩ := u8Info
  obtain ⟨ks, hks⟩ : ∃ ks, keySt key.data.toList = ks := ⟨_, rfl⟩
  have hnew : ∀ w, Calls Try.prog 5 #[.string key] w (fun e w' => ∃ g, e = .returned (newV g) ∧ Blk w' g 40 ks.cells ∧ w.heap.size ≤ g ∧ Below w.heap.size w w') := fun w => by rw [← hks]; exact new_right key hk w
  have HN := Lib.hid hnew
  have hS := fun k hk => ofF_slot slot (low64 birth) k hk
  have hB := fun k hk => ofF_birth birth (low32 slot) k hk
  have hpk : ∀ w, Calls Try.prog 7 #[.int .i64 up, .int .i64 1048576] w (RetSame (.int .i64 (pickN up 1048576 : Nat)) w) := fun w => by
    have h := pick_any up 1048576 (by decide) (by decide) w
    rw [pickN_eq up 1048576 (by decide)] at h
    exact h
  have l2 := pickN_lt up 1048576 (by decide)
  have HFAR := Lib.hid (low32_far slot (pickN up 1048576))
  obtain ⟨F, hF⟩ : ∃ F, ofF (low32 slot) (low64 birth) = F := ⟨_, rfl⟩
  have HS : Hid (∀ k, k < 4 → IntKind.u8.wrap (slot / 2 ^ (8 * k)) = ((F k : Nat) : Int)) := Lib.hid (by rw [← hF]; exact hS)
  have HBB : Hid (∀ k, k < 8 → IntKind.u8.wrap (birth / 2 ^ (8 * k)) = ((F (4 + k) : Nat) : Int)) := Lib.hid (by rw [← hF]; exact hB)
  have HF256 : Hid (∀ j, F j < 256) := Lib.hid (by rw [← hF]; exact fun j => ofF_lt _ _ j)
  have HOFL : Hid (((List.range 12).map F).map UInt8.ofNat = ofL (low32 slot) (low64 birth)) := Lib.hid (by rw [← hF]; unfold ofL; simp [Function.comp_def])
  have HPK := Lib.hid hpk
  clear hk hks hnew hS hB hpk hF
  go_enter Try.func3, Try.ntmps3
  go_wp2_with (first | (go_at_call 4; fail))
  refine (works_any _).mono ?_
  rintro e w1 ⟨rfl, h1'⟩
  have HB1 := Lib.hid h1'
  have s1 := h1'.size
  clear h1'
  go_wp2_with (first | (go_at_call 5; fail))
  refine (HN.out _).mono ?_
  rintro e w2 ⟨g1, rfl, hK1, hg1, hb2⟩
  have HK1 := Lib.hid hK1
  have HB2 := Lib.hid (HB1.out.trans (hb2.mono s1))
  have s2 := HB2.out.size
  unfold newV
  clear hK1 hb2 HB1 s1 hg1
  go_wp2_with (first | (go_at_call 5; fail))
  refine (HN.out _).mono ?_
  rintro e w3 ⟨g2, rfl, hK2, hg2, hb3⟩
  have HK1' := Lib.hid (HK1.out.below hb3 HK1.out.lt)
  have HK2 := Lib.hid hK2
  have HB3 := Lib.hid (HB2.out.trans (hb3.mono s2))
  have s3 := HB3.out.size
  unfold newV
  clear hK2 hb3 HB2 s2 hg2 HK1
  go_wp2
  go_loopw [12, 13] (BRel w3 w3.heap.size 0 4 F) (fun _ i _ => 4 - (intOf i).toNat)
  case atStart => exact ⟨⟨0, 0, by omega, rfl, rfl, ⟨rfl, .inl ⟨rfl, rfl⟩⟩, Below.refl _ _, Nat.le_refl _⟩⟩
  case round =>
    obtain ⟨⟨k, m, hk, hm, rfl, hown, hbel, hsz⟩⟩ := hrel
    have BEL := Lib.hid hbel
    have HM := Lib.hid hm
    clear hbel
    by_cases hlt : k < 4
    · obtain ⟨s8, hs8⟩ : ∃ s8, 8 * k = s8 := ⟨_, rfl⟩
      have hs : 8 * (k : Int) = (s8 : Int) := by omega
      have hk4 : (k : Int) < 4 := by omega
      have hb := HS.out k hlt
      rw [hs8] at hb
      have hs24 : (s8 : Int) ≤ 24 := by omega
      have HX1 := Lib.hid (show m + 1 ≤ maxLen by unfold maxLen; omega)
      have HX2 := Lib.hid (show (m + 1) * 1 ≤ 140737488355328 by omega)
      clear hs8 hm
      go_wp2_with (first
        | (at_builtin; refine wpList_append_grows (v := u12) rfl _ _ _ rfl Try.underlying28 hi0 hz0 hz1 hz2 hz3 (by decide) rfl hown rfl rfl (byte_one _) HX1.out HX2.out hsz ?_; intro g' cap' w4 hown1 hgr1))
      go_roundw
      case rel =>
        refine ⟨⟨k + 1, m + 1, by omega, by rw [HM.out]; omega, by go_num, ?_, bel_grows BEL.out hgr1 hown (Nat.le_refl _) hsz, Nat.le_trans hsz hgr1.grown.size⟩⟩
        have e : k = m := by rw [HM.out]; omega
        rw [List.range_succ, List.map_append]
        rw [e] at hown1
        simpa [u8v] using hown1
      case measure => simp [intOf]; omega
    · have hk4 : k = 4 := by omega
      have hm4 : m = 4 := by omega
      subst hk4 hm4
      have HO := Lib.hid hown
      clear hown hm hk hlt
      go_wp2
      go_loopw [12, 14] (BRel w3 w3.heap.size 4 8 F) (fun _ i _ => 8 - (intOf i).toNat)
      case atStart => exact ⟨⟨0, 4, by omega, rfl, rfl, HO.out, BEL.out, hsz⟩⟩
      case round =>
        clear HO BEL hsz HM
        obtain ⟨⟨k, m, hk, hm, rfl, hown, hbel, hsz⟩⟩ := hrel
        have BEL := Lib.hid hbel
        have HM := Lib.hid hm
        clear hbel
        by_cases hlt : k < 8
        · obtain ⟨s8, hs8⟩ : ∃ s8, 8 * k = s8 := ⟨_, rfl⟩
          have hs : 8 * (k : Int) = (s8 : Int) := by omega
          have hk4 : (k : Int) < 8 := by omega
          have hb := HBB.out k hlt
          rw [hs8, ← hm] at hb
          have hs24 : (s8 : Int) ≤ 56 := by omega
          have HX1 := Lib.hid (show m + 1 ≤ maxLen by unfold maxLen; omega)
          have HX2 := Lib.hid (show (m + 1) * 1 ≤ 140737488355328 by omega)
          clear hs8 hm
          go_wp2_with (first
            | (at_builtin; refine wpList_append_grows (v := u12) rfl _ _ _ rfl Try.underlying28 hi0 hz0 hz1 hz2 hz3 (by decide) rfl hown rfl rfl (byte_one _) HX1.out HX2.out hsz ?_; intro g' cap' w4 hown1 hgr1))
          go_roundw
          case rel =>
            refine ⟨⟨k + 1, m + 1, by omega, by rw [HM.out]; omega, by go_num, ?_, bel_grows BEL.out hgr1 hown (Nat.le_refl _) hsz, Nat.le_trans hsz hgr1.grown.size⟩⟩
            rw [List.range_succ, List.map_append]
            simpa [u8v] using hown1
          case measure => simp [intOf]; omega
        · have hk8 : k = 8 := by omega
          have hm12 : m = 12 := by omega
          subst hk8 hm12
          obtain ⟨g, cap, rfl⟩ := own_form hown (by decide)
          have hcp := own_cap hown
          have hba := own_bytes hown (fun x hx => by
            obtain ⟨j, _, rfl⟩ := List.mem_map.1 hx
            exact HF256.out j)
          rw [HOFL.out] at hba
          have HBA := Lib.hid hba
          have hcm : cap ≤ 9223372036854775807 := by have := hcp.2.1; unfold maxLen at this; omega
          have hc12 := hcp.1
          have HW := Lib.hid (HB3.out.trans (BEL.out.mono s3))
          have sw := HW.out.size
          have HK1a := Lib.hid (HK1'.out.below BEL.out HK1'.out.lt)
          have HK2a := Lib.hid (HK2.out.below BEL.out HK2.out.lt)
          obtain ⟨X, hX⟩ : ∃ X, sipSum ks (ofL (low32 slot) (low64 birth)) = X := ⟨_, rfl⟩
          have HX := Lib.hid hX
          clear hown hcp hba hm hk hlt BEL hX HB3 HK1' HK2 HM
          go_wp2_with (first | (go_at_call 6; fail))
          refine (of_any g1 ks slot birth wr HK1a.out.row HK1a.out.lt).mono ?_
          rintro e w5 ⟨rfl, h5⟩
          rw [HX.out]
          have HW5 := Lib.hid (HW.out.trans (h5.mono sw))
          have sw5 := HW5.out.size
          have HK1b := Lib.hid (HK1a.out.below h5 HK1a.out.lt)
          have HK2b := Lib.hid (HK2a.out.below h5 HK2a.out.lt)
          have HBA5 := Lib.hid (HBA.out.below h5 (Nat.le_refl _))
          clear h5 HW sw HK1a HK2a HBA
          go_wp2_with (first
            | (go_at_call 7; refine (HPK.out _).mono ?_; rintro e w' ⟨rfl, rfl⟩)
            | (go_at_call 8; fail))
          refine (sum_any g1 12 cap ks _ (ofL (low32 slot) (low64 birth)) (by simp [ofL]) hc12 hcm w5 HK1b.out.row HK1b.out.lt HBA5.out).mono ?_
          rintro e w6 ⟨rfl, h6⟩
          rw [HX.out]
          have HW6 := Lib.hid (HW5.out.trans (h6.mono sw5))
          have sw6 := HW6.out.size
          have HK1c := Lib.hid (HK1b.out.below h6 HK1b.out.lt)
          have HK2c := Lib.hid (HK2b.out.below h6 HK2b.out.lt)
          clear h6 HW5 sw5 HK1b HK2b HBA5
          have hxx : (X == X) = true := by simp
          go_wp2_with (first | (go_at_call 6; fail))
          refine (of_any g2 ks slot birth w6 HK2c.out.row HK2c.out.lt).mono ?_
          rintro e w7 ⟨rfl, h7⟩
          rw [HX.out]
          have HW7 := Lib.hid (HW6.out.trans (h7.mono sw6))
          have sw7 := HW7.out.size
          have HK1d := Lib.hid (HK1c.out.below h7 HK1c.out.lt)
          have HK2d := Lib.hid (HK2c.out.below h7 HK2c.out.lt)
          clear h7 HW6 sw6 HK1c HK2c
          go_wp2_with (first | (go_at_call 6; fail))
          refine (of_any g2 ks _ birth w7 HK2d.out.row HK2d.out.lt).mono ?_
          rintro e w8 ⟨rfl, h8⟩
          rw [HFAR.out, HX.out]
          have HW8 := Lib.hid (HW7.out.trans (h8.mono sw7))
          have sw8 := HW8.out.size
          have HK1e := Lib.hid (HK1d.out.below h8 HK1d.out.lt)
          clear h8 HW7 sw7 HK1d HK2d
          go_wp2_with (first | (go_at_call 6; fail))
          refine (of_any g1 ks slot birth w8 HK1e.out.row HK1e.out.lt).mono ?_
          rintro e w9 ⟨rfl, h9⟩
          rw [HX.out]
          have HW9 := HW8.out.trans (h9.mono sw8)
          clear h9 HW8 sw8 HK1e
          go_wp2
          go_ret
          exact ⟨rfl, HW9⟩
theorem tagBytes_any (key : ByteArray) (slot birth up : Int) (w : World) : Calls Try.prog 3 #[.string key, .int .i64 slot, .int .i64 birth, .int .i64 up] w (RetB (.bool true) w) := by
  by_cases h : key.size = 16
  · exact tagBytes_right key h slot birth up w
  · exact tagBytes_wrong key h slot birth up w
end Go.Proofs.Ytclcmdpampimkaa
