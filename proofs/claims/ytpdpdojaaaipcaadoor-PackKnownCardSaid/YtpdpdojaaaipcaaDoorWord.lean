/-
  Words of 64 bits in the walk: what Go's operations on uint64 leave is said as an operation of BitVec 64. Over any program.
-/
import Derived.WalkKit
import Derived.Laws.BitsAllLaws
import Derived.IntWalk
namespace Go.Proofs.YtpdpdojaaaipcaaDoor
set_option maxRecDepth 100000
open Go.RowKit

/-- A word as the number that Go holds. (A plain def: so that no rule of simp turns what stands in it.) -/
def wd (x : BitVec 64) : Int := (x.toNat : Int)
theorem wd_lt (x : BitVec 64) : 0 ≤ wd x ∧ wd x < 18446744073709551616 := by unfold wd; have := x.isLt; omega
theorem wd_zero : wd 0#64 = 0 := rfl
theorem wd_inj {x y : BitVec 64} (h : wd x = wd y) : x = y := BitVec.eq_of_toNat_eq (by unfold wd at h; omega)
@[go_sem] theorem u64_and_bv (x y : BitVec 64) : bits .and .u64 (wd x) (wd y) = wd (x &&& y) := by
  unfold wd; rw [u64_and_nat _ _ x.isLt y.isLt]; rfl
@[go_sem] theorem u64_or_bv (x y : BitVec 64) : bits .or .u64 (wd x) (wd y) = wd (x ||| y) := by
  unfold wd; rw [u64_or_nat _ _ x.isLt y.isLt]; rfl
@[go_sem] theorem u64_xor_bv (x y : BitVec 64) : bits .xor .u64 (wd x) (wd y) = wd (x ^^^ y) := by
  unfold wd; rw [u64_xor_nat _ _ x.isLt y.isLt]; rfl
@[go_sem] theorem u64_andNot_bv (x y : BitVec 64) : bits .andNot .u64 (wd x) (wd y) = wd (x &&& ~~~y) := by
  unfold wd; rw [u64_andNot_nat _ _ x.isLt y.isLt, BitVec.toNat_and, BitVec.toNat_not]
theorem bits_lit (op : BinOp) (a b c : Int) (h : BitVec.ofInt 64 b = BitVec.ofInt 64 c) : bits op .u64 a b = bits op .u64 a c := by
  unfold bits
  simp only [IntKind.bits]
  cases op <;> simp [h]
theorem ofInt_lit (n : Nat) : BitVec.ofInt 64 (n : Int) = BitVec.ofInt 64 (wd (BitVec.ofNat 64 n)) := by
  unfold wd
  rw [BitVec.ofInt_natCast, BitVec.ofInt_natCast, BitVec.ofNat_toNat, BitVec.setWidth_eq]
@[go_sem] theorem u64_and_lit (x : BitVec 64) (n : Nat) : bits .and .u64 (wd x) (no_index (@OfNat.ofNat Int n instOfNat)) = wd (x &&& BitVec.ofNat 64 n) := by
  rw [← u64_and_bv]; exact bits_lit _ _ _ _ (ofInt_lit n)
@[go_sem] theorem u64_or_lit (x : BitVec 64) (n : Nat) : bits .or .u64 (wd x) (no_index (@OfNat.ofNat Int n instOfNat)) = wd (x ||| BitVec.ofNat 64 n) := by
  rw [← u64_or_bv]; exact bits_lit _ _ _ _ (ofInt_lit n)
@[go_sem] theorem u64_pow_bv (i : Nat) : IntKind.u64.wrap (2 ^ i) = wd (BitVec.twoPow 64 i) := by
  unfold wd
  rw [IntKind.wrap_u64, BitVec.toNat_twoPow]
  simp
@[go_sem] theorem u64_shr_bv (x : BitVec 64) (i : Nat) : wd x / 2 ^ i = wd (x >>> i) := by
  unfold wd
  rw [BitVec.toNat_ushiftRight, Nat.shiftRight_eq_div_pow]
  simp
@[go_sem] theorem u64_add_bv (x y : BitVec 64) : IntKind.u64.wrap (wd x + wd y) = wd (x + y) := by
  unfold wd
  rw [IntKind.wrap_u64, BitVec.toNat_add]
  simp
@[go_sem] theorem u64_mul_bv (x y : BitVec 64) : IntKind.u64.wrap (wd x * wd y) = wd (x * y) := by
  unfold wd
  rw [IntKind.wrap_u64, BitVec.toNat_mul]
  simp
@[go_sem] theorem u64_eq_bv (x y : BitVec 64) : (wd x == wd y) = (x == y) := by
  by_cases h : x = y
  · simp [h]
  · have h' : wd x ≠ wd y := fun e => h (wd_inj e)
    rw [beq_eq_false_iff_ne.2 h, beq_eq_false_iff_ne.2 h']
@[go_sem] theorem u64_ne_bv (x y : BitVec 64) : (wd x != wd y) = (x != y) := by
  simp only [bne, u64_eq_bv]
@[go_sem] theorem u64_eq_lit (x : BitVec 64) (n : Nat) (h : n < 18446744073709551616 := by decide) : (wd x == (no_index (@OfNat.ofNat Int n instOfNat))) = (x == BitVec.ofNat 64 n) := by
  have e : wd (BitVec.ofNat 64 n) = (n : Int) := by unfold wd; rw [BitVec.toNat_ofNat, Nat.mod_eq_of_lt h]
  rw [← u64_eq_bv, e]; rfl
@[go_sem] theorem u64_eq_zero (x : BitVec 64) : (wd x == 0) = (x == 0#64) := u64_eq_lit x 0 (by decide)
@[go_sem] theorem u64_ne_zero (x : BitVec 64) : (wd x != 0) = (x != 0#64) := by simp only [bne, u64_eq_zero]
@[go_sem] theorem u64_eq_one (x : BitVec 64) : (wd x == 1) = (x == 1#64) := u64_eq_lit x 1 (by decide)
/-- A word's bit by 'x >> i & 1 == 1'. -/
theorem bit_shr (x : BitVec 64) (i : Nat) : (x >>> i &&& 1#64 == 1#64) = x.getLsbD i := by
  have h : (x >>> i &&& 1#64) = if x.getLsbD i then 1#64 else 0#64 := by
    apply BitVec.eq_of_getLsbD_eq
    intro j hj
    by_cases hx : x.getLsbD i <;> by_cases h0 : j = 0
    · subst h0; simp [hx]
    · simp [hx, h0]
    · subst h0; simp [hx]
    · simp [hx, h0]
  rw [h]
  cases x.getLsbD i <;> rfl
/-- A word's bit by 'x & (1 << i) != 0'. -/
theorem bit_and (x : BitVec 64) (i : Nat) (hi : i < 64) : (x &&& BitVec.twoPow 64 i != 0#64) = x.getLsbD i := by
  have h : (x &&& BitVec.twoPow 64 i) = if x.getLsbD i then BitVec.twoPow 64 i else 0#64 := by
    apply BitVec.eq_of_getLsbD_eq
    intro j hj
    by_cases hx : x.getLsbD i
    · simp only [hx, BitVec.getLsbD_and, BitVec.getLsbD_twoPow, if_true]
      by_cases e : i = j
      · subst e; simp [hx]
      · simp [e]
    · simp only [BitVec.getLsbD_and, BitVec.getLsbD_twoPow]
      by_cases e : i = j
      · subst e; simp [hx]
      · simp [hx, e]
  have hp : BitVec.twoPow 64 i ≠ 0#64 := fun e => by
    have := congrArg (fun v => v.getLsbD i) e
    simp [hi] at this
  rw [h]
  cases x.getLsbD i
  · rfl
  · simpa using hp
theorem word_of {a : Int} (h0 : 0 ≤ a) (h1 : a < 18446744073709551616) : ∃ x : BitVec 64, a = wd x :=
  ⟨BitVec.ofNat 64 a.toNat, by unfold wd; rw [BitVec.toNat_ofNat, Nat.mod_eq_of_lt (by omega)]; omega⟩
theorem word_wf {a : Int} (h : (Lit.int .u64 a).wf = true) : ∃ x : BitVec 64, a = wd x := by
  have h1 : IntKind.u64.min = 0 := by decide
  have h2 : IntKind.u64.max = 18446744073709551615 := by decide
  simp [Lit.wf, h1, h2] at h
  exact word_of (by omega) (by omega)
end Go.Proofs.YtpdpdojaaaipcaaDoor
