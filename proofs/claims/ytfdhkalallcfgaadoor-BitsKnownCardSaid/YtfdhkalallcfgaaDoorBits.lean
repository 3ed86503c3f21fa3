/-
  Package bits and the document's answer to it, function by function: put, has, of two sets, within, how many.
-/
import Derived.Test.YtfdhkalallcfgaaDoorProg
import Derived.Test.YtfdhkalallcfgaaDoorMem
import Derived.Test.YtfdhkalallcfgaaDoorWord
namespace Go.Proofs.YtfdhkalallcfgaaDoor
set_option maxRecDepth 100000
open Go.RowKit

def bErr (k : Int) : Value := .iface 55 (.int .i64 k)

/-- A word's bit. (A plain def: so that no rule of simp turns it.) -/
def hb (x : BitVec 64) (i : Nat) : Bool := x.getLsbD i
/-- Whether the number i (any) is in the set x. -/
def hasZ (x : BitVec 64) (i : Int) : Bool := decide (0 ≤ i) && decide (i < 64) && hb x i.toNat
theorem hasZ_nat (x : BitVec 64) (i : Nat) : hasZ x i = hb x i := by
  unfold hasZ hb
  by_cases h : i < 64
  · simp; omega
  · have : x.getLsbD i = false := BitVec.getLsbD_of_ge _ _ (by omega)
    simp [this]
theorem z_cases (i : Int) : i < 0 ∨ 64 ≤ i ∨ ∃ n : Nat, n < 64 ∧ i = n := by
  by_cases h0 : i < 0
  · exact .inl h0
  · by_cases h1 : 64 ≤ i
    · exact .inr (.inl h1)
    · exact .inr (.inr ⟨i.toNat, by omega, by omega⟩)

theorem has_nat (x : BitVec 64) (i : Nat) (hi : i < 64) (w : World) : Calls Tryd.prog 24 #[.int .u64 (wd x), .int .i64 i] w (RetSame (.bool (hb x i)) w) := by
  have e : (x &&& BitVec.twoPow 64 i != 0#64) = hb x i := bit_and x i hi
  go_enter Tryd.func24, Tryd.ntmps24
  go_wp2
  go_ret
  exact ⟨rfl, rfl⟩
theorem has_any (x : BitVec 64) (i : Int) (w : World) : Calls Tryd.prog 24 #[.int .u64 (wd x), .int .i64 i] w (RetSame (.bool (hasZ x i)) w) := by
  rcases z_cases i with h | h | ⟨n, hn, rfl⟩
  · have e : hasZ x i = false := by simp [hasZ]; omega
    go_enter Tryd.func24, Tryd.ntmps24
    go_wp2
    go_ret
    exact ⟨rfl, rfl⟩
  · have e : hasZ x i = false := by simp [hasZ]; omega
    have h0 : 0 ≤ i := by omega
    have h1 : ¬ i < 64 := by omega
    go_enter Tryd.func24, Tryd.ntmps24
    go_wp2
    go_ret
    exact ⟨rfl, rfl⟩
  · rw [hasZ_nat]; exact has_nat x n hn w
theorem rhas_nat (x : BitVec 64) (i : Nat) (hi : i < 64) (w : World) : Calls Tryd.prog 25 #[.int .u64 (wd x), .int .i64 i] w (RetSame (.bool (hb x i)) w) := by
  have e : (x >>> i &&& 1#64 == 1#64) = hb x i := bit_shr x i
  go_enter Tryd.func25, Tryd.ntmps25
  go_wp2
  go_ret
  exact ⟨rfl, rfl⟩
theorem rhas_any (x : BitVec 64) (i : Int) (w : World) : Calls Tryd.prog 25 #[.int .u64 (wd x), .int .i64 i] w (RetSame (.bool (hasZ x i)) w) := by
  rcases z_cases i with h | h | ⟨n, hn, rfl⟩
  · have e : hasZ x i = false := by simp [hasZ]; omega
    go_enter Tryd.func25, Tryd.ntmps25
    go_wp2
    go_ret
    exact ⟨rfl, rfl⟩
  · have e : hasZ x i = false := by simp [hasZ]; omega
    have h0 : 0 ≤ i := by omega
    have h1 : ¬ i < 64 := by omega
    go_enter Tryd.func25, Tryd.ntmps25
    go_wp2
    go_ret
    exact ⟨rfl, rfl⟩
  · rw [hasZ_nat]; exact rhas_nat x n hn w

/-- The set with a number, or without it. -/
def putB (x : BitVec 64) (i : Nat) (on : Bool) : BitVec 64 := if on then x ||| BitVec.twoPow 64 i else x &&& ~~~ BitVec.twoPow 64 i
def inZ (i : Int) : Bool := decide (0 ≤ i) && decide (i < 64)
def putZ (x : BitVec 64) (i : Int) (on : Bool) : BitVec 64 := if inZ i then putB x i.toNat on else 0
def putE (i : Int) : Value := if inZ i then .nilIface else bErr 1
def putV (x : BitVec 64) (i : Int) (on : Bool) : Value := .tuple #[.int .u64 (wd (putZ x i on)), putE i]
theorem inZ_nat {i : Nat} (h : i < 64) : inZ (i : Int) = true := by simp [inZ]; omega
theorem put_any (x : BitVec 64) (i : Int) (on : Bool) (w : World) : Calls Tryd.prog 21 #[.int .u64 (wd x), .int .i64 i, .bool on] w (RetSame (putV x i on) w) := by
  rcases z_cases i with h | h | ⟨n, hn, rfl⟩
  · have e : inZ i = false := by simp [inZ]; omega
    go_enter Tryd.func21, Tryd.ntmps21
    go_wp2
    go_ret2
    exact ⟨by simp [putV, putZ, putE, e, bErr, wd_zero], rfl⟩
  · have e : inZ i = false := by simp [inZ]; omega
    have h0 : ¬ i < 0 := by omega
    go_enter Tryd.func21, Tryd.ntmps21
    go_wp2
    go_ret2
    exact ⟨by simp [putV, putZ, putE, e, bErr, wd_zero], rfl⟩
  · have e := inZ_nat hn
    have h0 : ¬ (n : Int) < 0 := by omega
    have h1 : ¬ (64 : Int) ≤ n := by omega
    cases on
    · go_enter Tryd.func21, Tryd.ntmps21
      go_wp2
      go_ret2
      exact ⟨by simp [putV, putZ, putB, putE, e], rfl⟩
    · go_enter Tryd.func21, Tryd.ntmps21
      go_wp2
      go_ret2
      exact ⟨by simp [putV, putZ, putB, putE, e], rfl⟩
theorem putB_get (x : BitVec 64) (i : Nat) (hi : i < 64) (on : Bool) (j : Nat) : (putB x i on).getLsbD j = if i = j then on else x.getLsbD j := by
  have hp : ∀ v : BitVec 64, 64 ≤ j → v.getLsbD j = false := fun v h => BitVec.getLsbD_of_ge _ _ h
  cases on <;> by_cases e : i = j
  · subst e; simp [putB, hi]
  · simp [putB, e]
    intro h
    by_cases hj : j < 64
    · exact hj
    · rw [hp _ (by omega)] at h; cases h
  · subst e; simp [putB, hi]
  · simp [putB, e]

theorem meet_any (x y : BitVec 64) (w : World) : Calls Tryd.prog 45 #[.int .u64 (wd x), .int .u64 (wd y)] w (RetSame (.int .u64 (wd (x &&& y))) w) := by
  go_enter Tryd.func45, Tryd.ntmps45
  go_wp2
  go_ret
  exact ⟨rfl, rfl⟩
theorem join_any (x y : BitVec 64) (w : World) : Calls Tryd.prog 47 #[.int .u64 (wd x), .int .u64 (wd y)] w (RetSame (.int .u64 (wd (x ||| y))) w) := by
  go_enter Tryd.func47, Tryd.ntmps47
  go_wp2
  go_ret
  exact ⟨rfl, rfl⟩
theorem less_any (x y : BitVec 64) (w : World) : Calls Tryd.prog 49 #[.int .u64 (wd x), .int .u64 (wd y)] w (RetSame (.int .u64 (wd (x &&& ~~~y))) w) := by
  go_enter Tryd.func49, Tryd.ntmps49
  go_wp2
  go_ret
  exact ⟨rfl, rfl⟩
theorem within_any (x y : BitVec 64) (w : World) : Calls Tryd.prog 51 #[.int .u64 (wd x), .int .u64 (wd y)] w (RetSame (.bool (x &&& ~~~y == 0#64)) w) := by
  go_enter Tryd.func51, Tryd.ntmps51
  go_wp2
  go_ret
  exact ⟨rfl, rfl⟩
end Go.Proofs.YtfdhkalallcfgaaDoor
