/-
  How many bits a word has: the sums of math/bits.OnesCount64 against a plain count.
-/
import Derived.Test.YtfdhkalallcfgaaDoorWord
namespace Go.Proofs.YtfdhkalallcfgaaDoor
set_option maxRecDepth 100000

/-- How many of the first f bits are set. -/
def popN : Nat → Nat → Nat
  | 0, _ => 0
  | f + 1, n => n % 2 + popN f (n / 2)
theorem popN_top : ∀ f n, popN (f + 1) n = popN f n + n / 2 ^ f % 2
  | 0, n => by simp [popN]
  | f + 1, n => by
    rw [popN, popN_top f (n / 2)]
    simp only [popN]
    rw [Nat.div_div_eq_div_mul, Nat.pow_succ, Nat.mul_comm 2]
    omega
theorem popN_split : ∀ (f g a r : Nat), r < 2 ^ f → popN (f + g) (2 ^ f * a + r) = popN f r + popN g a
  | 0, g, a, r, h => by
    have : r = 0 := by simpa using h
    subst this
    simp [popN]
  | f + 1, g, a, r, h => by
    have e : f + 1 + g = (f + g) + 1 := by omega
    have h1 : (2 ^ (f + 1) * a + r) % 2 = r % 2 := by rw [Nat.pow_succ, Nat.mul_assoc, Nat.mul_comm (2 ^ f), Nat.mul_assoc]; omega
    have h2 : (2 ^ (f + 1) * a + r) / 2 = 2 ^ f * a + r / 2 := by
      rw [Nat.pow_succ, Nat.mul_comm (2 ^ f) 2, Nat.mul_assoc]; omega
    rw [e, popN, popN, h1, h2, popN_split f g a (r / 2) (by rw [Nat.pow_succ] at h; omega)]
    omega
def mk (c : Nat) : Nat → Nat
  | 0 => 0
  | k + 1 => 256 * mk c k + c
theorem and256 (a b r s : Nat) (hr : r < 256) (hs : s < 256) : (256 * a + r) &&& (256 * b + s) = 256 * (a &&& b) + (r &&& s) := by
  have h1 := Nat.and_div_two_pow (a := 256 * a + r) (b := 256 * b + s) (n := 8)
  have h2 := Nat.and_mod_two_pow (a := 256 * a + r) (b := 256 * b + s) (n := 8)
  have e1 : (256 * a + r) / 2 ^ 8 = a := by omega
  have e2 : (256 * b + s) / 2 ^ 8 = b := by omega
  have e3 : (256 * a + r) % 2 ^ 8 = r := by omega
  have e4 : (256 * b + s) % 2 ^ 8 = s := by omega
  rw [e1, e2] at h1
  rw [e3, e4] at h2
  omega
def s1 (k n : Nat) : Nat := (n / 2 &&& mk 0x55 k) + (n &&& mk 0x55 k)
def s2 (k n : Nat) : Nat := (n / 4 &&& mk 0x33 k) + (n &&& mk 0x33 k)
def s3 (k n : Nat) : Nat := (n / 16 + n) &&& mk 0x0f k
def b1 (r : Nat) : Nat := (r / 2 &&& 0x55) + (r &&& 0x55)
def b2 (r : Nat) : Nat := (r / 4 &&& 0x33) + (r &&& 0x33)
def b3 (r : Nat) : Nat := (r / 16 + r) % 16
theorem t1 : ∀ e : Fin 2, ∀ q : Fin 128, (128 * e.val + q.val) &&& 0x55 = q.val &&& 0x55 := by decide +kernel
theorem t2 : ∀ e : Fin 4, ∀ q : Fin 64, (64 * e.val + q.val) &&& 0x33 = q.val &&& 0x33 := by decide +kernel
theorem t3 : ∀ q : Fin 256, q.val &&& 0x0f = q.val % 16 := by decide +kernel
theorem tb : ∀ r : Fin 256, b1 r.val < 256 ∧ b2 (b1 r.val) < 256 ∧ b2 (b1 r.val) / 16 ≤ 4 ∧ b2 (b1 r.val) % 16 ≤ 4 ∧ b3 (b2 (b1 r.val)) = popN 8 r.val ∧ popN 8 r.val ≤ 8 := by decide +kernel
theorem s1_step (k a r : Nat) (hr : r < 256) : s1 (k + 1) (256 * a + r) = 256 * s1 k a + b1 r := by
  unfold s1 b1
  have e : (256 * a + r) / 2 = 256 * (a / 2) + (128 * (a % 2) + r / 2) := by omega
  have h := t1 ⟨a % 2, by omega⟩ ⟨r / 2, by omega⟩
  simp only at h
  rw [e, mk, and256 _ _ _ _ (by omega) (by omega), and256 _ _ _ _ hr (by omega), h]
  omega
theorem s2_step (k a r : Nat) (hr : r < 256) : s2 (k + 1) (256 * a + r) = 256 * s2 k a + b2 r := by
  unfold s2 b2
  have e : (256 * a + r) / 4 = 256 * (a / 4) + (64 * (a % 4) + r / 4) := by omega
  have h := t2 ⟨a % 4, by omega⟩ ⟨r / 4, by omega⟩
  simp only at h
  rw [e, mk, and256 _ _ _ _ (by omega) (by omega), and256 _ _ _ _ hr (by omega), h]
  omega
theorem s3_step (k a r : Nat) (ha : a % 16 ≤ 4) (hr : r < 256) (h1 : r / 16 ≤ 4) (h2 : r % 16 ≤ 4) : s3 (k + 1) (256 * a + r) = 256 * s3 k a + b3 r := by
  unfold s3 b3
  have e : (256 * a + r) / 16 + (256 * a + r) = 256 * (a / 16 + a) + (16 * (a % 16) + r / 16 + r) := by omega
  have h := t3 ⟨16 * (a % 16) + r / 16 + r, by omega⟩
  simp only at h
  rw [e, mk, and256 _ _ _ _ (by omega) (by omega), h]
  omega
theorem s21_low (k n : Nat) : s2 k (s1 k n) % 16 ≤ 4 := by
  cases k with
  | zero => simp [s2, mk]
  | succ k =>
    have e : n = 256 * (n / 256) + n % 256 := by omega
    have t := tb ⟨n % 256, by omega⟩
    simp only at t
    rw [e, s1_step _ _ _ (by omega), s2_step _ _ _ t.1]
    omega
/-- The three first steps: each byte has its own count. -/
def sums : Nat → Nat → Nat
  | 0, _ => 0
  | k + 1, n => 256 * sums k (n / 256) + popN 8 (n % 256)
theorem s321 : ∀ k n, s3 k (s2 k (s1 k n)) = sums k n
  | 0, n => by simp [s3, mk, sums]
  | k + 1, n => by
    have e : n = 256 * (n / 256) + n % 256 := by omega
    have t := tb ⟨n % 256, by omega⟩
    simp only at t
    conv => lhs; rw [e]
    rw [s1_step _ _ _ (by omega), s2_step _ _ _ t.1, s3_step _ _ _ (s21_low _ _) t.2.1 t.2.2.1 t.2.2.2.1, t.2.2.2.2.1, s321 k, sums]
theorem popN8_le (r : Nat) (h : r < 256) : popN 8 r ≤ 8 := (tb ⟨r, h⟩).2.2.2.2.2
def pc1 (x : BitVec 64) : BitVec 64 := (x >>> 1 &&& 0x5555555555555555#64) + (x &&& 0x5555555555555555#64)
def pc2 (x : BitVec 64) : BitVec 64 := (x >>> 2 &&& 0x3333333333333333#64) + (x &&& 0x3333333333333333#64)
def pc3 (x : BitVec 64) : BitVec 64 := (x >>> 4 + x) &&& 0x0f0f0f0f0f0f0f0f#64
def pc4 (x : BitVec 64) : BitVec 64 := x + x >>> 8
def pc5 (x : BitVec 64) : BitVec 64 := x + x >>> 16
def pc6 (x : BitVec 64) : BitVec 64 := x + x >>> 32
theorem and_le (a m : Nat) : a &&& m ≤ m := Nat.and_le_right
theorem pc1_nat (x : BitVec 64) : (pc1 x).toNat = s1 8 x.toNat := by
  have h1 := and_le (x.toNat / 2 ^ 1) 0x5555555555555555
  have h2 := and_le x.toNat 0x5555555555555555
  show ((x.toNat >>> 1 &&& 0x5555555555555555) + (x.toNat &&& 0x5555555555555555)) % 2 ^ 64 = (x.toNat / 2 &&& 0x5555555555555555) + (x.toNat &&& 0x5555555555555555)
  rw [Nat.shiftRight_eq_div_pow, Nat.mod_eq_of_lt (by omega)]
theorem pc2_nat (x : BitVec 64) : (pc2 x).toNat = s2 8 x.toNat := by
  have h1 := and_le (x.toNat / 2 ^ 2) 0x3333333333333333
  have h2 := and_le x.toNat 0x3333333333333333
  show ((x.toNat >>> 2 &&& 0x3333333333333333) + (x.toNat &&& 0x3333333333333333)) % 2 ^ 64 = (x.toNat / 4 &&& 0x3333333333333333) + (x.toNat &&& 0x3333333333333333)
  rw [Nat.shiftRight_eq_div_pow, Nat.mod_eq_of_lt (by omega)]
theorem pc3_nat (x : BitVec 64) (h : x.toNat ≤ 0x6666666666666666) : (pc3 x).toNat = s3 8 x.toNat := by
  show (x.toNat >>> 4 + x.toNat) % 2 ^ 64 &&& 0x0f0f0f0f0f0f0f0f = (x.toNat / 16 + x.toNat) &&& 0x0f0f0f0f0f0f0f0f
  rw [Nat.shiftRight_eq_div_pow, Nat.mod_eq_of_lt (by omega)]
theorem s2_le (n : Nat) : s2 8 n ≤ 0x6666666666666666 := by
  have h1 := and_le (n / 4) 0x3333333333333333
  have h2 := and_le n 0x3333333333333333
  show (n / 4 &&& 0x3333333333333333) + (n &&& 0x3333333333333333) ≤ _
  omega
theorem pc321 (x : BitVec 64) : (pc3 (pc2 (pc1 x))).toNat = sums 8 x.toNat := by
  rw [pc3_nat _ (by rw [pc2_nat]; exact s2_le _), pc2_nat, pc1_nat, s321]
theorem pop_bytes (n : Nat) (h : n < 2 ^ 64) : popN 64 n = popN 8 (n % 256) + (popN 8 (n / 256 % 256) + (popN 8 (n / 256 / 256 % 256) + (popN 8 (n / 256 / 256 / 256 % 256) + (popN 8 (n / 256 / 256 / 256 / 256 % 256) + (popN 8 (n / 256 / 256 / 256 / 256 / 256 % 256) + (popN 8 (n / 256 / 256 / 256 / 256 / 256 / 256 % 256) + popN 8 (n / 256 / 256 / 256 / 256 / 256 / 256 / 256 % 256))))))) := by
  have st : ∀ g m, popN (8 + g) m = popN 8 (m % 256) + popN g (m / 256) := fun g m => by
    have e : m = 2 ^ 8 * (m / 256) + m % 256 := by omega
    conv => lhs; rw [e]
    exact popN_split 8 g _ _ (by omega)
  rw [show (64 : Nat) = 8 + (8 + (8 + (8 + (8 + (8 + (8 + (8 + 0))))))) from rfl, st, st, st, st, st, st, st, st]
  simp [popN]
/-- A number by its digits to the base 256, the lowest first. -/
def nl : List Nat → Nat
  | [] => 0
  | d :: l => 256 * nl l + d
theorem nl_div (d : Nat) (l : List Nat) (h : d < 256) : nl (d :: l) / 256 = nl l := by simp only [nl]; omega
theorem nl_mod (d : Nat) (l : List Nat) : nl (d :: l) % 128 = d % 128 := by simp only [nl]; omega
theorem nl_lt8 (a b c d e f g h : Nat) (ha : a < 256) (hb : b < 256) (hc : c < 256) (hd : d < 256) (he : e < 256) (hf : f < 256) (hg : g < 256) (hh : h < 256) : nl [a, b, c, d, e, f, g, h] < 2 ^ 64 := by
  simp only [nl]; omega
theorem nl_add (d e : Nat) (l m : List Nat) : nl (d :: l) + nl (e :: m) = 256 * (nl l + nl m) + (d + e) := by simp only [nl]; omega
theorem nl_add0 (l : List Nat) : nl l + nl [] = nl l := rfl
theorem nl_cons (d : Nat) (l : List Nat) : 256 * nl l + d = nl (d :: l) := rfl
theorem pc4_nat (x : BitVec 64) : (pc4 x).toNat = (x.toNat + x.toNat / 256) % 2 ^ 64 := by
  unfold pc4
  rw [BitVec.toNat_add, BitVec.toNat_ushiftRight, Nat.shiftRight_eq_div_pow]
theorem pc5_nat (x : BitVec 64) : (pc5 x).toNat = (x.toNat + x.toNat / 256 / 256) % 2 ^ 64 := by
  unfold pc5
  rw [BitVec.toNat_add, BitVec.toNat_ushiftRight, Nat.shiftRight_eq_div_pow, Nat.div_div_eq_div_mul]
theorem pc6_nat (x : BitVec 64) : (pc6 x).toNat = (x.toNat + x.toNat / 256 / 256 / 256 / 256) % 2 ^ 64 := by
  unfold pc6
  rw [BitVec.toNat_add, BitVec.toNat_ushiftRight, Nat.shiftRight_eq_div_pow, Nat.div_div_eq_div_mul, Nat.div_div_eq_div_mul, Nat.div_div_eq_div_mul]
theorem last_sums (d0 d1 d2 d3 d4 d5 d6 d7 : Nat) (h0 : d0 ≤ 8) (h1 : d1 ≤ 8) (h2 : d2 ≤ 8) (h3 : d3 ≤ 8) (h4 : d4 ≤ 8) (h5 : d5 ≤ 8) (h6 : d6 ≤ 8) (h7 : d7 ≤ 8) (x : BitVec 64)
    (hx : x.toNat = nl [d0, d1, d2, d3, d4, d5, d6, d7]) :
    (pc6 (pc5 (pc4 x))).toNat % 128 = d0 + (d1 + (d2 + (d3 + (d4 + (d5 + (d6 + d7)))))) ∧ d0 + (d1 + (d2 + (d3 + (d4 + (d5 + (d6 + d7)))))) ≤ 64 := by
  have g4 : (pc4 x).toNat = nl [d0 + d1, d1 + d2, d2 + d3, d3 + d4, d4 + d5, d5 + d6, d6 + d7, d7] := by
    rw [pc4_nat, hx, nl_div _ _ (by omega), nl_add, nl_add, nl_add, nl_add, nl_add, nl_add, nl_add, nl_add0]
    simp only [nl_cons]
    exact Nat.mod_eq_of_lt (nl_lt8 _ _ _ _ _ _ _ _ (by omega) (by omega) (by omega) (by omega) (by omega) (by omega) (by omega) (by omega))
  have g5 : (pc5 (pc4 x)).toNat = nl [d0 + d1 + (d2 + d3), d1 + d2 + (d3 + d4), d2 + d3 + (d4 + d5), d3 + d4 + (d5 + d6), d4 + d5 + (d6 + d7), d5 + d6 + d7, d6 + d7, d7] := by
    rw [pc5_nat, g4, nl_div _ _ (by omega), nl_div _ _ (by omega), nl_add, nl_add, nl_add, nl_add, nl_add, nl_add, nl_add0]
    simp only [nl_cons]
    exact Nat.mod_eq_of_lt (nl_lt8 _ _ _ _ _ _ _ _ (by omega) (by omega) (by omega) (by omega) (by omega) (by omega) (by omega) (by omega))
  have g6 : (pc6 (pc5 (pc4 x))).toNat = nl [d0 + d1 + (d2 + d3) + (d4 + d5 + (d6 + d7)), d1 + d2 + (d3 + d4) + (d5 + d6 + d7), d2 + d3 + (d4 + d5) + (d6 + d7), d3 + d4 + (d5 + d6) + d7, d4 + d5 + (d6 + d7), d5 + d6 + d7, d6 + d7, d7] := by
    rw [pc6_nat, g5, nl_div _ _ (by omega), nl_div _ _ (by omega), nl_div _ _ (by omega), nl_div _ _ (by omega), nl_add, nl_add, nl_add, nl_add, nl_add0]
    simp only [nl_cons]
    exact Nat.mod_eq_of_lt (nl_lt8 _ _ _ _ _ _ _ _ (by omega) (by omega) (by omega) (by omega) (by omega) (by omega) (by omega) (by omega))
  rw [g6, nl_mod]
  omega
theorem pop_word (x : BitVec 64) : (pc6 (pc5 (pc4 (pc3 (pc2 (pc1 x)))))).toNat % 128 = popN 64 x.toNat ∧ popN 64 x.toNat ≤ 64 := by
  have h := pc321 x
  simp only [sums, Nat.mul_zero, Nat.zero_add] at h
  have hl : ∀ m, popN 8 (m % 256) ≤ 8 := fun m => popN8_le _ (by omega)
  rw [pop_bytes x.toNat x.isLt]
  exact last_sums _ _ _ _ _ _ _ _ (hl _) (hl _) (hl _) (hl _) (hl _) (hl _) (hl _) (hl _) _ (by rw [h]; simp only [nl, Nat.mul_zero, Nat.zero_add])
end Go.Proofs.YtfdhkalallcfgaaDoor
