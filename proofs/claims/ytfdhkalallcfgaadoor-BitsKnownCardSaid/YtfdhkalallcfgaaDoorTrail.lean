/-
  math/bits.TrailingZeros64 of a word that is not 0 (its table laid as its initialiser lays it); a word's numbers, rising, and what is left without the lowest.
-/
import Derived.Test.YtfdhkalallcfgaaDoorAllNums
import Derived.Lib.TrailingZeros
import Derived.Laws.Bits64b
namespace Go.Proofs.YtfdhkalallcfgaaDoor
set_option maxRecDepth 100000
open Go.RowKit

/-- The numbers of a set, rising. -/
def bitsL (x : BitVec 64) : List Nat := (List.range 64).filter (hb x)
theorem numsB_bitsL (x : BitVec 64) : numsB x 64 = (bitsL x).map fun (n : Nat) => (n : Int) := rfl
theorem bitsL_len (x : BitVec 64) : (bitsL x).length ≤ 64 := Nat.le_trans (List.length_filter_le _ _) (by simp)
theorem bitsL_zero : bitsL 0#64 = [] := by
  refine List.filter_eq_nil_iff.2 fun i _ => ?_
  simp [hb]
/-- A word's lowest number. -/
def lowB (x : BitVec 64) : Nat := Lib.ctz 64 x.toNat
theorem lowB_spec {x : BitVec 64} (h : x ≠ 0#64) : lowB x < 64 ∧ hb x (lowB x) = true ∧ (∀ j, j < lowB x → hb x j = false) ∧ ∀ j, hb (x &&& (x - 1#64)) j = (hb x j && !(j == lowB x)) := by
  have hx0 : x.toNat ≠ 0 := fun e => h (BitVec.eq_of_toNat_eq (by simpa using e))
  obtain ⟨m, hm, hk⟩ := Lib.ctzFrom_spec 64 x.toNat (by omega) x.isLt
  have ek : lowB x = Lib.ctzFrom 64 x.toNat := by simp [lowB, Lib.ctz, hx0]
  rw [← ek] at hm hk
  generalize lowB x = k at hm hk ek
  have hp : 0 < 2 ^ k := Nat.two_pow_pos k
  have t1 : ∀ j, x.toNat.testBit j = (decide (k ≤ j) && (2 * m + 1).testBit (j - k)) := fun j => by
    rw [hm, Nat.mul_comm, Nat.testBit_mul_two_pow]
  have e2 : (x - 1#64).toNat = 2 ^ k * (2 * m) + (2 ^ k - 1) := by
    rw [BitVec.toNat_sub_of_le (by rw [BitVec.le_def]; simp; omega)]
    rw [hm, Nat.mul_add]
    simp
    omega
  have t2 : ∀ j, (x - 1#64).toNat.testBit j = if j < k then (2 ^ k - 1).testBit j else (2 * m).testBit (j - k) := fun j => by
    rw [e2, Nat.testBit_two_pow_mul_add _ (by omega)]
  have hb1 : ∀ j, hb x j = (decide (k ≤ j) && (2 * m + 1).testBit (j - k)) := fun j => t1 j
  refine ⟨hk, ?_, ?_, ?_⟩
  · rw [hb1]; simp [Nat.testBit_zero]
  · intro j hj; rw [hb1]; simp; omega
  · intro j
    have ea : hb (x &&& (x - 1#64)) j = (hb x j && (x - 1#64).toNat.testBit j) := by
      show (x &&& (x - 1#64)).getLsbD j = _
      rw [BitVec.getLsbD_and]; rfl
    rw [ea, t2]
    by_cases h1 : j < k
    · have : hb x j = false := by rw [hb1]; simp; omega
      simp [this]
    · rw [if_neg h1]
      by_cases h2 : j = k
      · subst h2
        simp [Nat.testBit_zero]
      · obtain ⟨d, rfl⟩ : ∃ d, j = k + (d + 1) := ⟨j - k - 1, by omega⟩
        have e3 : k + (d + 1) - k = d + 1 := by omega
        rw [hb1, e3, Nat.testBit_succ, Nat.testBit_succ]
        have d1 : (2 * m + 1) / 2 = m := by omega
        have d2 : (2 * m) / 2 = m := by omega
        rw [d1, d2]
        have : (k + (d + 1) == k) = false := by simp
        rw [this]
        cases m.testBit d <;> simp
theorem filter_range_low {p q : Nat → Bool} {k : Nat} (hk : k < 64) (hp : p k = true) (hlow : ∀ j, j < k → p j = false) (hq : ∀ j, q j = (p j && !(j == k))) : (List.range 64).filter p = k :: (List.range 64).filter q := by
  obtain ⟨r, hr⟩ : ∃ r, 64 = k + (r + 1) := ⟨64 - k - 1, by omega⟩
  rw [hr, List.range_add, List.filter_append, List.filter_append]
  have z1 : (List.range k).filter p = [] := List.filter_eq_nil_iff.2 fun j hj => by rw [hlow j (List.mem_range.1 hj)]; simp
  have z2 : (List.range k).filter q = [] := List.filter_eq_nil_iff.2 fun j hj => by rw [hq, hlow j (List.mem_range.1 hj)]; simp
  rw [z1, z2, List.nil_append, List.nil_append, List.range_succ_eq_map]
  have qk : q k = false := by rw [hq]; simp
  simp only [List.map_cons, Nat.add_zero, List.filter_cons, hp, qk, if_true, List.map_map]
  simp only [Bool.false_eq_true, if_false, List.cons.injEq, true_and]
  refine List.filter_congr fun j hj => ?_
  obtain ⟨i, _, rfl⟩ := List.mem_map.1 hj
  rw [hq]
  have : ((((k + ·) ∘ Nat.succ) i) == k) = false := by simp
  rw [this]; simp
/-- The lowest number is taken out. -/
theorem bitsL_step {x : BitVec 64} (h : x ≠ 0#64) : bitsL x = lowB x :: bitsL (x &&& (x - 1#64)) := by
  obtain ⟨h1, h2, h3, h4⟩ := lowB_spec h
  exact filter_range_low h1 h2 h3 h4
theorem bitsL_eq_nil {x : BitVec 64} (h : bitsL x = []) : x = 0#64 := by
  by_cases h0 : x = 0#64
  · exact h0
  · rw [bitsL_step h0] at h; cases h

/-! ### the walk -/
/-- The library's table, as its initialiser lays it. -/
def Tab (w : World) : Prop := ∀ j, j < 64 → w.cell? ⟨0, j, none⟩ = some (.int .u8 (Lib.deBruijn64tab.getD j 0))
theorem Tab.below {w w' : World} {B : Nat} (h : Tab w) (hb : Below B w w') (hB : 0 < B) : Tab w' := fun j hj => (hb.cell (p := ⟨0, j, none⟩) hB).trans (h j hj)
theorem Tab.pos {w : World} (h : Tab w) : 0 < w.heap.size := by
  rcases Nat.lt_or_ge 0 w.heap.size with h1 | h1
  · exact h1
  · have := h 0 (by omega); simp [World.cell?, Array.getElem?_eq_none h1] at this
theorem tz_key (x a : Nat) (hx : x < 18446744073709551616) (hx0 : x ≠ 0) (hlow : x &&& (18446744073709551616 - x) = a) :
    IntKind.u64.wrap (bits BinOp.and IntKind.u64 (x : Int) (IntKind.u64.wrap (-(x : Int))) * 285870213051353865) / 288230376151711744 = ((a * 285870213051353865 % 18446744073709551616 / 288230376151711744 : Nat) : Int) := by
  have e1 : IntKind.u64.wrap (-(x : Int)) = ((18446744073709551616 - x : Nat) : Int) := by rw [IntKind.wrap_u64]; omega
  rw [e1, u64_and_nat x _ hx (by omega), hlow, IntKind.wrap_u64]
  omega
set_option maxHeartbeats 1000000 in
theorem tz_core (x k idx : Nat) (w : World) (hx0 : ((x : Int) == 0) = false)
    (key : IntKind.u64.wrap (bits BinOp.and IntKind.u64 (x : Int) (IntKind.u64.wrap (-(x : Int))) * 285870213051353865) / 288230376151711744 = (idx : Int))
    (hi : idx < 64) (hk : k < 64) (hcell : w.cell? ⟨0, idx, none⟩ = some (.int .u8 k)) :
    Calls Tryd.prog 29 #[.int .u64 x] w (RetSame (.int .i64 k) w) := by
  go_enter Tryd.func29, Tryd.ntmps29
  go_wp2_with (simp only [key])
  go_ret
  exact ⟨rfl, rfl⟩
theorem tz_any {x : BitVec 64} (h : x ≠ 0#64) (w : World) (hT : Tab w) : Calls Tryd.prog 29 #[.int .u64 (wd x)] w (RetSame (.int .i64 (lowB x)) w) := by
  have hx0 : x.toNat ≠ 0 := fun e => h (BitVec.eq_of_toNat_eq (by simpa using e))
  obtain ⟨hlow, hk⟩ := Lib.lowest_bit 64 x.toNat hx0 x.isLt
  obtain ⟨hi, htab⟩ := Lib.deBruijn64_at _ hk
  have hcell := hT _ hi
  rw [htab] at hcell
  exact tz_core x.toNat _ _ w (by simp; omega) (tz_key x.toNat _ x.isLt hx0 hlow) hi hk hcell
end Go.Proofs.YtfdhkalallcfgaaDoor
