/-
  The document's answer for two sets (Meet, Join, Less, Within), bit by bit, and the numbers of a set in a row (All); how many they are.
-/
import Derived.Test.YtfdhkalallcfgaaDoorBits
namespace Go.Proofs.YtfdhkalallcfgaaDoor
set_option maxRecDepth 100000
open Go.RowKit

/-- The word whose bits below k are f's. -/
def accB (f : Nat → Bool) : Nat → BitVec 64
  | 0 => 0#64
  | k + 1 => if f k then accB f k ||| BitVec.twoPow 64 k else accB f k
theorem accB_get (f : Nat → Bool) (j : Nat) : ∀ k, k ≤ 64 → (accB f k).getLsbD j = (decide (j < k) && f j)
  | 0, _ => by simp [accB]
  | k + 1, hk => by
    have ih := accB_get f j k (by omega)
    unfold accB
    cases hf : f k
    · simp only [Bool.false_eq_true, if_false, ih]
      by_cases e : j = k
      · subst e; simp [hf]
      · have : (j < k + 1) ↔ (j < k) := by omega
        simp [this]
    · simp only [if_true, BitVec.getLsbD_or, BitVec.getLsbD_twoPow, ih]
      by_cases e : j = k
      · subst e; simp [hf]; omega
      · have : (j < k + 1) ↔ (j < k) := by omega
        have e' : ¬ k = j := fun h => e h.symm
        simp [this, e']
theorem accB_all (f : Nat → Bool) (x : BitVec 64) (h : ∀ j, j < 64 → f j = x.getLsbD j) : accB f 64 = x := by
  apply BitVec.eq_of_getLsbD_eq
  intro j hj
  rw [accB_get f j 64 (Nat.le_refl _), h j hj]
  simp [hj]

theorem accB_t {f : Nat → Bool} {k : Nat} (h : f k = true) : accB f (k + 1) = (accB f k ||| BitVec.twoPow 64 k) := by rw [accB, if_pos h]
theorem accB_f {f : Nat → Bool} {k : Nat} (h : f k = false) : accB f (k + 1) = accB f k := by rw [accB, if_neg (by simp [h])]

def ofF (x y : BitVec 64) (p q r : Bool) (j : Nat) : Bool := p && hb x j && hb y j || q && (hb x j || hb y j) || r && hb x j && !hb y j
def OfRel (w : World) (f : Nat → Bool) (s i : Value) (wr : World) : Prop := w = wr ∧ ∃ k : Nat, k ≤ 64 ∧ s = .int .u64 (wd (accB f k)) ∧ i = .int .i64 k

set_option maxHeartbeats 1000000 in
theorem of_any (x y : BitVec 64) (p q r : Bool) (hp : (p = true ∧ q = false ∧ r = false) ∨ (p = false ∧ q = true ∧ r = false) ∨ (p = false ∧ q = false ∧ r = true)) (w : World) :
    Calls Tryd.prog 58 #[.int .u64 (wd x), .int .u64 (wd y), .bool p, .bool q, .bool r] w (RetSame (.int .u64 (wd (accB (ofF x y p q r) 64))) w) := by
  rcases hp with ⟨rfl, rfl, rfl⟩ | ⟨rfl, rfl, rfl⟩ | ⟨rfl, rfl, rfl⟩
  · go_enter Tryd.func58, Tryd.ntmps58
    go_wp2
    go_loopw [11, 12] (OfRel w (ofF x y true false false)) (fun _ i _ => 64 - (intOf i).toNat)
    case atStart => exact ⟨rfl, 0, by omega, rfl, rfl⟩
    case round =>
      obtain ⟨rfl, k, hk, rfl, rfl⟩ := hrel
      by_cases hlt : k < 64
      · cases hx : hb x k <;> cases hy : hb y k
        all_goals
          go_wp2_with (go_at_call 25; refine (rhas_nat _ k hlt _).mono ?_; rintro e w' ⟨rfl, rfl⟩)
          go_roundw
          case rel => exact ⟨rfl, k + 1, by omega, by simp [accB, ofF, hx, hy], by go_num⟩
          case measure => simp [intOf]; omega
      · have hk' : k = 64 := by omega
        subst hk'
        clear hk hlt
        go_wp2
        go_ret
        exact ⟨rfl, rfl⟩
  · go_enter Tryd.func58, Tryd.ntmps58
    go_wp2
    go_loopw [11, 12] (OfRel w (ofF x y false true false)) (fun _ i _ => 64 - (intOf i).toNat)
    case atStart => exact ⟨rfl, 0, by omega, rfl, rfl⟩
    case round =>
      obtain ⟨rfl, k, hk, rfl, rfl⟩ := hrel
      by_cases hlt : k < 64
      · cases hx : hb x k <;> cases hy : hb y k
        all_goals
          go_wp2_with (go_at_call 25; refine (rhas_nat _ k hlt _).mono ?_; rintro e w' ⟨rfl, rfl⟩)
          go_roundw
          case rel => exact ⟨rfl, k + 1, by omega, by simp [accB, ofF, hx, hy], by go_num⟩
          case measure => simp [intOf]; omega
      · have hk' : k = 64 := by omega
        subst hk'
        clear hk hlt
        go_wp2
        go_ret
        exact ⟨rfl, rfl⟩
  · go_enter Tryd.func58, Tryd.ntmps58
    go_wp2
    go_loopw [11, 12] (OfRel w (ofF x y false false true)) (fun _ i _ => 64 - (intOf i).toNat)
    case atStart => exact ⟨rfl, 0, by omega, rfl, rfl⟩
    case round =>
      obtain ⟨rfl, k, hk, rfl, rfl⟩ := hrel
      by_cases hlt : k < 64
      · cases hx : hb x k <;> cases hy : hb y k
        all_goals
          go_wp2_with (go_at_call 25; refine (rhas_nat _ k hlt _).mono ?_; rintro e w' ⟨rfl, rfl⟩)
          go_roundw
          case rel => exact ⟨rfl, k + 1, by omega, by simp [accB, ofF, hx, hy], by go_num⟩
          case measure => simp [intOf]; omega
      · have hk' : k = 64 := by omega
        subst hk'
        clear hk hlt
        go_wp2
        go_ret
        exact ⟨rfl, rfl⟩
end Go.Proofs.YtfdhkalallcfgaaDoor
