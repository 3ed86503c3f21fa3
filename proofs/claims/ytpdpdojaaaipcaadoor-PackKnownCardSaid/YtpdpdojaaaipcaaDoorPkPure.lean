/-
  Numbers in sevens, texts in bytes, and back. Plain Lean, no program.
-/
namespace Go.Proofs.YtpdpdojaaaipcaaDoor
set_option maxRecDepth 100000

/-- A number in sevens. -/
def sevens (v : Nat) : List UInt8 := if v < 128 then [UInt8.ofNat v] else UInt8.ofNat (v % 128 + 128) :: sevens (v / 128)
termination_by v
decreasing_by omega
theorem sevens_lt {v : Nat} (h : v < 128) : sevens v = [UInt8.ofNat v] := by rw [sevens, if_pos h]
theorem sevens_ge {v : Nat} (h : ¬ v < 128) : sevens v = UInt8.ofNat (v % 128 + 128) :: sevens (v / 128) := by rw [sevens, if_neg h]
theorem sevens_pos (v : Nat) : 1 ≤ (sevens v).length := by
  by_cases h : v < 128
  · rw [sevens_lt h]; simp
  · rw [sevens_ge h]; simp
theorem sevens_le : ∀ (k v : Nat), v < 2 ^ (7 * k + 7) → (sevens v).length ≤ k + 1
  | 0, v, h => by rw [sevens_lt (by omega)]; simp
  | k + 1, v, h => by
    by_cases hv : v < 128
    · rw [sevens_lt hv]; simp
    · rw [sevens_ge hv]
      have e : 2 ^ (7 * (k + 1) + 7) = 2 ^ (7 * k + 7) * 128 := by rw [show 7 * (k + 1) + 7 = (7 * k + 7) + 7 by omega, Nat.pow_add]
      have := sevens_le k (v / 128) (by omega)
      simp; omega
/-- The number at the beginning of some bytes: it, and how many it has; the error's number. -/
def readN (i acc : Nat) : List UInt8 → Except Int (Nat × Nat)
  | [] => .error 2
  | c :: l => if (i = 9 ∧ 1 < c.toNat) ∨ (0 < i ∧ c.toNat = 0) then .error 4 else if c.toNat < 128 then .ok (acc + c.toNat * 128 ^ i, i + 1) else readN (i + 1) (acc + (c.toNat - 128) * 128 ^ i) l
theorem ofNat_toNat {n : Nat} (h : n < 256) : (UInt8.ofNat n).toNat = n := by rw [UInt8.toNat_ofNat']; omega
theorem pow128 (i : Nat) : 128 ^ i = 2 ^ (7 * i) := by rw [show (128 : Nat) = 2 ^ 7 from rfl, ← Nat.pow_mul]
theorem readN_sevens : ∀ (n v i acc : Nat) (rest : List UInt8), v ≤ n → i ≤ 9 → v < 2 ^ (64 - 7 * i) → (0 < i → 0 < v) → readN i acc (sevens v ++ rest) = .ok (acc + v * 128 ^ i, i + (sevens v).length)
  | n, v, i, acc, rest, hn, hi, hv, h0 => by
    by_cases h : v < 128
    · rw [sevens_lt h, List.singleton_append, readN, ofNat_toNat (by omega)]
      have h9 : ¬ ((i = 9 ∧ 1 < v) ∨ (0 < i ∧ v = 0)) := by
        rintro (⟨rfl, h1⟩ | ⟨h1, rfl⟩)
        · have : v < 2 := hv
          omega
        · have := h0 h1; omega
      rw [if_neg h9, if_pos h]
      rfl
    · have h8 : i ≤ 8 := by
        refine Nat.le_of_not_lt fun h9 => ?_
        have : i = 9 := by omega
        subst this
        have : v < 2 := hv
        omega
      rw [sevens_ge h, List.cons_append, readN, ofNat_toNat (by omega)]
      rw [if_neg (by omega), if_neg (by omega)]
      have hn1 : 1 ≤ n := by omega
      have e : 2 ^ (64 - 7 * i) = 2 ^ (64 - 7 * (i + 1)) * 128 := by rw [show 64 - 7 * i = (64 - 7 * (i + 1)) + 7 by omega, Nat.pow_add]
      have hp : ∀ P : Nat, v < P * 128 → v / 128 < P := fun P h => by omega
      rw [readN_sevens (n - 1) (v / 128) (i + 1) _ rest (by omega) (by omega) (hp _ (e ▸ hv)) (fun _ => by omega)]
      congr 1
      rw [Prod.mk.injEq]
      refine ⟨?_, by simp; omega⟩
      have hd : v = v % 128 + 128 * (v / 128) := (Nat.mod_add_div v 128).symm
      rw [Nat.pow_succ, show v % 128 + 128 - 128 = v % 128 by omega, Nat.add_assoc]
      congr 1
      rw [show v / 128 * (128 ^ i * 128) = (128 * (v / 128)) * 128 ^ i by rw [Nat.mul_comm (128 ^ i), ← Nat.mul_assoc, Nat.mul_comm (v / 128)], ← Nat.add_mul]
      rw [← hd]
termination_by n => n
theorem readN_back : ∀ (b : List UInt8) (i acc V n : Nat), i ≤ 9 → readN i acc b = .ok (V, n) → ∃ v rest, b = sevens v ++ rest ∧ V = acc + v * 128 ^ i ∧ n = i + (sevens v).length ∧ v < 2 ^ (64 - 7 * i) ∧ (0 < i → 0 < v)
  | [], i, acc, V, n, _, h => by cases h
  | c :: l, i, acc, V, n, hi, h => by
    rw [readN] at h
    split at h
    · cases h
    · rename_i hc
      have hc256 := c.toNat_lt
      split at h
      · rename_i h128
        simp only [Except.ok.injEq, Prod.mk.injEq] at h
        obtain ⟨h1, h2⟩ := h
        refine ⟨c.toNat, l, by rw [sevens_lt h128]; simp, h1.symm, by rw [sevens_lt h128]; simp; omega, ?_, fun hi0 => ?_⟩
        · by_cases h9 : i = 9
          · subst h9
            show c.toNat < 2
            omega
          · exact Nat.lt_of_lt_of_le h128 (show 2 ^ 7 ≤ _ from Nat.pow_le_pow_right (by decide) (by omega))
        · omega
      · rename_i h128
        by_cases h9 : i = 9
        · omega
        · obtain ⟨v, rest, e1, e2, e3, e4, e5⟩ := readN_back l (i + 1) _ V n (by omega) h
          have hv := e5 (by omega)
          have hge : ¬ (128 * v + (c.toNat - 128)) < 128 := by omega
          have hm : (128 * v + (c.toNat - 128)) % 128 = c.toNat - 128 := by omega
          have hd : (128 * v + (c.toNat - 128)) / 128 = v := by omega
          have es : sevens (128 * v + (c.toNat - 128)) = c :: sevens v := by
            rw [sevens_ge hge, hm, hd, show c.toNat - 128 + 128 = c.toNat by omega]
            simp
          refine ⟨128 * v + (c.toNat - 128), rest, by rw [es, e1]; rfl, ?_, by rw [es, e3]; simp; omega, ?_, fun _ => by omega⟩
          · have key : ∀ d P : Nat, d * P + v * (P * 128) = (128 * v + d) * P := fun d P => by
              rw [Nat.add_mul, Nat.add_comm, Nat.mul_comm P 128, ← Nat.mul_assoc, Nat.mul_comm v 128]
            rw [e2, Nat.pow_succ, Nat.add_assoc, key]
          · have e : 2 ^ (64 - 7 * i) = 2 ^ (64 - 7 * (i + 1)) * 128 := by rw [show 64 - 7 * i = (64 - 7 * (i + 1)) + 7 by omega, Nat.pow_add]
            have hp : ∀ P : Nat, v < P → 128 * v + (c.toNat - 128) < P * 128 := fun P h => by clear e e4 e5 e2 e1 es hm hd; omega
            exact e ▸ hp _ e4
/-- What is put: a number, or a text. -/
structure ItemV where
  isText : Bool
  v : BitVec 64
  s : ByteArray
def encI (x : ItemV) : List UInt8 := if x.isText = true then sevens x.s.size ++ x.s.data.toList else sevens x.v.toNat
/-- The text at the beginning: it, how many bytes it has in all; the error's number. -/
def readT (b : List UInt8) (most : Int) : Except Int (List UInt8 × Nat) :=
  match readN 0 0 b with
  | .error e => .error e
  | .ok (n, k) => if (max most 0).toNat < n then .error 3 else if b.length - k < n then .error 2 else .ok ((b.drop k).take n, k + n)
theorem readT_enc (s : ByteArray) (rest : List UInt8) (most : Int) (h : s.size < 2 ^ 63) (hm : (s.size : Int) ≤ most) : readT (sevens s.size ++ s.data.toList ++ rest) most = .ok (s.data.toList, (sevens s.size).length + s.size) := by
  have h1 := readN_sevens s.size s.size 0 0 (s.data.toList ++ rest) (Nat.le_refl _) (by omega) (Nat.lt_trans h (by decide)) (fun h => absurd h (by decide))
  have hl : s.data.toList.length = s.size := by rw [Array.length_toList]; rfl
  unfold readT
  rw [List.append_assoc, h1]
  simp only [Nat.zero_add, Nat.pow_zero, Nat.mul_one]
  have h3 : ¬ (sevens s.size ++ (s.data.toList ++ rest)).length - (sevens s.size).length < s.size := by rw [List.length_append, List.length_append, hl]; omega
  have h4 : ¬ (max most 0).toNat < s.size := by omega
  rw [if_neg h4, if_neg h3]
  congr 1
  rw [Prod.mk.injEq]
  refine ⟨?_, rfl⟩
  rw [List.drop_left' rfl, List.take_left' hl]
theorem readT_back {b : List UInt8} {most : Int} {s : List UInt8} {n : Nat} (h : readT b most = .ok (s, n)) : ∃ rest, b = sevens s.length ++ s ++ rest ∧ n = (sevens s.length).length + s.length := by
  unfold readT at h
  split at h
  · cases h
  · rename_i m k hr
    split at h
    · cases h
    · split at h
      · cases h
      · rename_i h1 h2
        simp only [Except.ok.injEq, Prod.mk.injEq] at h
        obtain ⟨rfl, rfl⟩ := h
        obtain ⟨v, rest, e1, e2, e3, e4, e5⟩ := readN_back b 0 0 m k (by omega) hr
        simp only [Nat.zero_add, Nat.pow_zero, Nat.mul_one] at e2 e3
        subst e2 e3
        rw [e1, List.drop_left' rfl]
        have hl : m ≤ rest.length := by rw [e1, List.length_append] at h2; omega
        have hlen : (List.take m rest).length = m := by simp; omega
        rw [hlen]
        refine ⟨rest.drop m, ?_, rfl⟩
        rw [List.append_assoc, List.take_append_drop]
end Go.Proofs.YtpdpdojaaaipcaaDoor
