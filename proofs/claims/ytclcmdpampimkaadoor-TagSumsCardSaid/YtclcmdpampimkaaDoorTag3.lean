/-
  Package tag: Of.
-/
import Derived.Test.YtclcmdpampimkaaDoorTag2
namespace Go.Proofs.YtclcmdpampimkaaDoor
set_option maxRecDepth 100000
open Go.RowKit

/-! ### Of -/
/-- The j-th of the 12 bytes of a slot and a birth. -/
def ofF (S B : Nat) (j : Nat) : Nat := if j < 4 then S / 2 ^ (8 * j) % 256 else B / 2 ^ (8 * (j - 4)) % 256
def ofL (S B : Nat) : List UInt8 := (List.range 12).map fun j => UInt8.ofNat (ofF S B j)
theorem ofF_lt (S B j : Nat) : ofF S B j < 256 := by unfold ofF; split <;> exact Nat.mod_lt _ (by decide)
/-- A number as the word that a conversion leaves. -/
def low32 (i : Int) : Nat := (i % 4294967296).toNat
def low64 (i : Int) : Nat := (i % 18446744073709551616).toNat
structure OfRel (w : World) (S B : Nat) (i : Value) (wr : World) : Prop where
  ex : ∃ k : Nat, k ≤ 12 ∧ i = .int .i64 k ∧ Blk wr w.heap.size 57 (rowU8 12 fun j => if j < k then ofF S B j else 0) ∧ Below w.heap.size w wr
theorem shr_byte (S s : Nat) : IntKind.u8.wrap ((S : Int) / 2 ^ s) = ((S / 2 ^ s % 256 : Nat) : Int) := by
  have e5 : ((S : Int) / 2 ^ s) = ((S / 2 ^ s : Nat) : Int) := by rw [Int.natCast_ediv]; simp
  rw [e5, IntKind.wrap_u8]; omega
set_option maxHeartbeats 2000000 in
theorem of_any (gk : Nat) (s : St) (slot birth : Int) (w : World) (hK : RowAt w gk 0 s.cells) (hkg : gk < w.heap.size) :
    Calls Tryd.prog 14 #[.pointer (some ⟨gk, 0, none⟩), .int .i64 slot, .int .i64 birth] w (RetB (.int .u64 (wd (sipSum s (ofL (low32 slot) (low64 birth))))) w) := by
  have HKK := Lib.hid hK
  have e1 : IntKind.u32.wrap slot = ((low32 slot : Nat) : Int) := by unfold low32; rw [IntKind.wrap_u32]; omega
  have e2 : IntKind.u64.wrap birth = ((low64 birth : Nat) : Int) := by unfold low64; rw [IntKind.wrap_u64]; omega
  have z12 : ∀ w, (zeroValue 57).run Tryd.prog w = .ok (.agg (rowU8 12 fun _ => 0)) w := fun w => by kernel_rfl
  obtain ⟨S, hS⟩ : ∃ S, low32 slot = S := ⟨_, rfl⟩
  obtain ⟨B, hB⟩ : ∃ B, low64 birth = B := ⟨_, rfl⟩
  rw [hS] at e1 ⊢
  rw [hB] at e2 ⊢
  clear hK hS hB
  go_enter Tryd.func14, Tryd.ntmps14
  have B0 : Hid (Blk (w.alloc (.cells (rowU8 12 fun _ => 0) 57)) w.heap.size 57 (rowU8 12 fun j => if j < 0 then ofF S B j else 0)) := Lib.hid (Blk.new _ _ _)
  have bel0 := Lib.hid ((Below.refl w.heap.size w).alloc (Nat.le_refl _) (.cells (rowU8 12 fun _ => 0) 57))
  go_wp2
  go_loopw [9] (OfRel w S B) (fun i _ => 12 - (intOf i).toNat)
  case atStart => exact ⟨⟨0, by omega, rfl, B0.out, bel0.out⟩⟩
  case round =>
    clear B0 bel0
    obtain ⟨⟨k, hk, rfl, hB, hbel⟩⟩ := hrel
    by_cases hlt : k < 12
    · have hk12 : (k : Int) < 12 := by omega
      have c0 : wr.cell? ⟨w.heap.size, k, none⟩ = some (.int .u8 ((if k < k then ofF S B k else 0 : Nat) : Int)) := by rw [hB.cell, rowU8_get hlt]
      have f0 : wr.frozen? ⟨w.heap.size, k, none⟩ = false := hB.frozen k
      have HB := Lib.hid hB
      have BEL := Lib.hid hbel
      have hrow : ∀ (x : Nat), x = ofF S B k → Blk (wr.setCell ⟨w.heap.size, k, none⟩ (.int .u8 (x : Int))) w.heap.size 57 (rowU8 12 fun j => if j < k + 1 then ofF S B j else 0) := fun x hx => by
        have h := HB.out.set_ k (.int .u8 (x : Int))
        rw [rowU8_set, rowU8_congr (G := fun j => if j < k + 1 then ofF S B j else 0)] at h
        · exact h
        · intro j hj
          by_cases e : j = k
          · subst e; rw [if_pos rfl, if_pos (by omega), hx]
          · rw [if_neg e]
            by_cases e2 : j < k
            · rw [if_pos e2, if_pos (by omega)]
            · rw [if_neg e2, if_neg (by omega)]
      have HROW := Lib.hid hrow
      clear hB hbel hrow
      by_cases h4 : k < 4
      · obtain ⟨s8, hs8⟩ : ∃ s8, 8 * k = s8 := ⟨_, rfl⟩
        have hs : 8 * (k : Int) = (s8 : Int) := by omega
        have hk4 : (k : Int) < 4 := by omega
        have hb := shr_byte S s8
        obtain ⟨x, hx⟩ : ∃ x, S / 2 ^ s8 % 256 = x := ⟨_, rfl⟩
        rw [hx] at hb
        have HX : Hid (x = ofF S B k) := Lib.hid (by unfold ofF; rw [if_pos h4, hs8, hx])
        clear hx hs8
        go_wp2
        go_roundw
        case rel => exact ⟨⟨k + 1, by omega, by go_num, HROW.out x HX.out, BEL.out.setCell (p := ⟨w.heap.size, k, none⟩) (Nat.le_refl _) _⟩⟩
        case measure => simp [intOf]; omega
      · obtain ⟨q, hq⟩ : ∃ q, k = q + 4 := ⟨k - 4, by omega⟩
        obtain ⟨s8, hs8⟩ : ∃ s8, 8 * q = s8 := ⟨_, rfl⟩
        have hq4 : (k : Int) - 4 = (q : Int) := by omega
        have hs : 8 * (q : Int) = (s8 : Int) := by omega
        have hk4 : ¬ (k : Int) < 4 := by omega
        have hq0 : (q : Int) < 8 := by omega
        have hb := shr_byte B s8
        obtain ⟨x, hx⟩ : ∃ x, B / 2 ^ s8 % 256 = x := ⟨_, rfl⟩
        rw [hx] at hb
        have HX : Hid (x = ofF S B k) := Lib.hid (by unfold ofF; rw [if_neg h4, hq, Nat.add_sub_cancel, hs8, hx])
        clear hx hs8 hq
        go_wp2
        go_roundw
        case rel => exact ⟨⟨k + 1, by omega, by go_num, HROW.out x HX.out, BEL.out.setCell (p := ⟨w.heap.size, k, none⟩) (Nat.le_refl _) _⟩⟩
        case measure => simp [intOf]; omega
    · obtain rfl : k = 12 := by omega
      have hb := BytesAt.row hB (fun j _ => by by_cases e : j < 12; (rw [if_pos e]; exact ofF_lt _ _ _); (rw [if_neg e]; decide))
      rw [show ((List.range 12).map fun j => UInt8.ofNat (if j < 12 then ofF S B j else 0)) = ofL S B from by unfold ofL; apply List.map_congr_left; intro j hj; rw [if_pos (List.mem_range.1 hj)]] at hb
      have HBA := Lib.hid hb
      have BEL := Lib.hid hbel
      have hs1 := hbel.size
      have HK2 := Lib.hid (HKK.out.below hbel hkg)
      clear hB hbel hb hk hlt
      go_wp2_with (first | (go_at_call 9; fail))
      refine (sum_any gk 12 12 s _ (ofL S B) (by simp [ofL]) (by decide) (by decide) wr HK2.out (Nat.lt_of_lt_of_le hkg hs1) HBA.out).mono ?_
      rintro e w2 ⟨rfl, h2⟩
      have HB2 := BEL.out.trans (h2.mono hs1)
      go_wp2
      go_ret
      exact ⟨rfl, HB2⟩
end Go.Proofs.YtclcmdpampimkaaDoor
