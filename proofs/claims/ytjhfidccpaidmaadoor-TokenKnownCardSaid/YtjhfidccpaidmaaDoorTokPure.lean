/-
  Tokens as numbers and as texts: digits to the base 32, bytes to the base 256; reading back. Plain Lean, no program.
-/
namespace Go.Proofs.YtjhfidccpaidmaaDoor
set_option maxRecDepth 100000

/-- A token's number: slot, birth, tag. -/
def tokT (s b x : Nat) : Nat := s * 2 ^ 88 + b * 2 ^ 64 + x
/-- The k-th digit to the base 32 (0: the highest of 20). -/
def dig (T k : Nat) : Nat := T * 16 / 32 ^ (19 - k) % 32
def letterN (n : Nat) : Nat := if n < 26 then 97 + n else 24 + n
/-- The j-th byte of the text. -/
def textF (T j : Nat) : Nat := if j = 0 then 116 else letterN (dig T (j - 1))
def textL (T : Nat) : List UInt8 := (List.range 21).map fun j => UInt8.ofNat (textF T j)
/-- A letter's number. -/
def numOf (c : UInt8) : Option Nat := if 97 ≤ c.toNat ∧ c.toNat ≤ 122 then some (c.toNat - 97) else if 50 ≤ c.toNat ∧ c.toNat ≤ 55 then some (c.toNat - 24) else none

theorem letterN_lt {n : Nat} (h : n < 32) : letterN n < 256 := by unfold letterN; split <;> omega
theorem numOf_lt {c : UInt8} {d : Nat} (h : numOf c = some d) : d < 32 := by
  unfold numOf at h
  split at h
  · simp at h; omega
  · split at h
    · simp at h; omega
    · cases h
theorem numOf_letter {n : Nat} (h : n < 32) : numOf (UInt8.ofNat (letterN n)) = some n := by
  have hc : (UInt8.ofNat (letterN n)).toNat = letterN n := by
    rw [UInt8.toNat_ofNat']; have := letterN_lt h; omega
  unfold numOf
  rw [hc]
  unfold letterN
  by_cases h26 : n < 26
  · rw [if_pos h26, if_pos (by omega)]; congr 1; omega
  · rw [if_neg h26, if_neg (by omega), if_pos (by omega)]; congr 1; omega
theorem letter_numOf {c : UInt8} {d : Nat} (h : numOf c = some d) : UInt8.ofNat (letterN d) = c := by
  unfold numOf at h
  have hc := c.toNat_lt
  apply UInt8.toNat_inj.1
  split at h
  · simp at h
    subst h
    rw [UInt8.toNat_ofNat']
    unfold letterN
    rw [if_pos (by omega)]; omega
  · split at h
    · simp at h
      subst h
      rw [UInt8.toNat_ofNat']
      unfold letterN
      rw [if_neg (by omega)]; omega
    · cases h
theorem dig_lt (T k : Nat) : dig T k < 32 := Nat.mod_lt _ (by decide)
theorem textF_lt (T j : Nat) : textF T j < 256 := by
  unfold textF; split
  · decide
  · exact letterN_lt (dig_lt _ _)
theorem textL_length (T : Nat) : (textL T).length = 21 := by simp [textL]
theorem textL_get (T : Nat) {j : Nat} (h : j < 21) : (textL T)[j]? = some (UInt8.ofNat (textF T j)) := by simp [textL, h]

/-! ### the number of a row of digits -/
/-- The first m digits (given by place), as a number to the base 32. -/
def accN (f : Nat → Nat) : Nat → Nat
  | 0 => 0
  | m + 1 => accN f m * 32 + f m
theorem accN_lt {f : Nat → Nat} : ∀ {m : Nat}, (∀ j, j < m → f j < 32) → accN f m < 32 ^ m
  | 0, _ => by simp [accN]
  | m + 1, h => by
    have ih := accN_lt (f := f) (m := m) (fun j hj => h j (by omega))
    have hm := h m (by omega)
    rw [accN, Nat.pow_succ]
    omega
theorem accN_congr {f g : Nat → Nat} : ∀ {m : Nat}, (∀ j, j < m → f j = g j) → accN f m = accN g m
  | 0, _ => rfl
  | m + 1, h => by rw [accN, accN, accN_congr (fun j hj => h j (by omega)), h m (by omega)]
/-- The digits of a number make it again. -/
theorem accN_digits (V n : Nat) : ∀ m, m ≤ n → accN (fun k => V / 32 ^ (n - 1 - k) % 32) m = V / 32 ^ (n - m) % 32 ^ m
  | 0, _ => by simp [accN, Nat.mod_one]
  | m + 1, h => by
    rw [accN, accN_digits V n m (by omega)]
    have e : n - m = (n - (m + 1)) + 1 := by omega
    have e2 : n - 1 - m = n - (m + 1) := by omega
    rw [e, e2, Nat.pow_succ, ← Nat.div_div_eq_div_mul]
    generalize V / 32 ^ (n - (m + 1)) = W
    rw [Nat.pow_succ, Nat.mul_comm (32 ^ m) 32, Nat.mod_mul]
    omega
theorem accN_dig {T : Nat} (h : T < 2 ^ 96) : accN (dig T) 20 = T * 16 := by
  have := accN_digits (T * 16) 20 20 (Nat.le_refl _)
  rw [show accN (dig T) 20 = accN (fun k => T * 16 / 32 ^ (20 - 1 - k) % 32) 20 from rfl, this]
  simp
  omega
/-- And the number has them as its digits. -/
theorem digits_accN {f : Nat → Nat} : ∀ {m : Nat}, (∀ j, j < m → f j < 32) → ∀ k, k < m → accN f m / 32 ^ (m - 1 - k) % 32 = f k
  | 0, _, k, hk => by omega
  | m + 1, h, k, hk => by
    have hm := h m (by omega)
    by_cases e : k = m
    · subst e
      rw [accN, show k + 1 - 1 - k = 0 from by omega]
      omega
    · have ih := digits_accN (f := f) (m := m) (fun j hj => h j (by omega)) k (by omega)
      rw [accN, show m + 1 - 1 - k = (m - 1 - k) + 1 from by omega, Nat.pow_succ', ← Nat.div_div_eq_div_mul]
      have : (accN f m * 32 + f m) / 32 = accN f m := by omega
      rw [this]
      exact ih

/-! ### Parse, as a function -/
/-- The number of each letter; none: one is no letter. -/
def numsOf : List UInt8 → Option (List Nat)
  | [] => some []
  | c :: l => match numOf c, numsOf l with
    | some d, some r => some (d :: r)
    | _, _ => none
def accL (l : List Nat) : Nat := l.foldl (fun a d => a * 32 + d) 0
def mayN (s b : Nat) : Bool := decide (s < 32) && decide (1 ≤ b) && decide (b ≤ 1048576)
/-- What a text is read as: slot, birth, tag; or the error's number. -/
def parseA (A : Nat) : Except Nat (Nat × Nat × Nat) :=
  if A % 16 ≠ 0 then .error 4
  else if mayN (A / 16 / 2 ^ 88) (A / 16 / 2 ^ 64 % 2 ^ 24) then .ok (A / 16 / 2 ^ 88, A / 16 / 2 ^ 64 % 2 ^ 24, A / 16 % 2 ^ 64) else .error 1
def parseL (l : List UInt8) : Except Nat (Nat × Nat × Nat) :=
  if l.length < 21 then .error 2
  else if 21 < l.length then .error 3
  else if l.head? ≠ some 116 then .error 4
  else match numsOf l.tail with
    | none => .error 4
    | some ds => parseA (accL ds)

theorem numsOf_map {l : List UInt8} {f : Nat → Nat} : ∀ {m : Nat}, l.length = m → (∀ j, j < m → (l[j]?).bind numOf = some (f j)) → numsOf l = some ((List.range m).map f) := by
  induction l generalizing f with
  | nil => intro m hm _; simp at hm; subst hm; rfl
  | cons c l ih =>
    intro m hm h
    cases m with
    | zero => simp at hm
    | succ m =>
      have h0 := h 0 (by omega)
      simp at h0
      have := ih (f := fun j => f (j + 1)) (m := m) (by simpa using hm) (fun j hj => by have := h (j + 1) (by omega); simpa using this)
      rw [numsOf, h0, this, List.range_succ_eq_map]
      simp [Function.comp_def]
theorem accL_range (f : Nat → Nat) : ∀ m, accL ((List.range m).map f) = accN f m
  | 0 => rfl
  | m + 1 => by
    rw [List.range_succ, List.map_append]
    unfold accL
    rw [List.foldl_append]
    have := accL_range f m
    unfold accL at this
    rw [this]
    rfl
theorem tokT_lt {s b x : Nat} (hs : s < 32) (hb : b ≤ 1048576) (hx : x < 2 ^ 64) : tokT s b x < 2 ^ 96 := by
  unfold tokT; omega
theorem tokT_parts {s b x : Nat} (_hs : s < 32) (hb : b ≤ 1048576) (hx : x < 2 ^ 64) : tokT s b x / 2 ^ 88 = s ∧ tokT s b x / 2 ^ 64 % 2 ^ 24 = b ∧ tokT s b x % 2 ^ 64 = x := by
  unfold tokT; omega
theorem tokT_of (T : Nat) : tokT (T / 2 ^ 88) (T / 2 ^ 64 % 2 ^ 24) (T % 2 ^ 64) = T := by
  unfold tokT; omega
theorem parse_T {T : Nat} (hT : T < 2 ^ 96) : parseL (textL T) = parseA (T * 16) := by
  have hA := accN_dig hT
  clear hT
  have hn : numsOf (textL T).tail = some ((List.range 20).map (dig T)) := by
    apply numsOf_map
    · simp [textL_length]
    · intro j hj
      rw [List.getElem?_tail, textL_get T (by omega)]
      show numOf _ = _
      unfold textF
      rw [if_neg (by omega), show j + 1 - 1 = j from rfl]
      exact numOf_letter (dig_lt _ _)
  have hh : (textL T).head? = some 116 := by rw [List.head?_eq_getElem?, textL_get T (by omega)]; rfl
  unfold parseL
  rw [textL_length, if_neg (by decide), if_neg (by decide), hh, if_neg (by simp), hn, ← hA, ← accL_range]
theorem parseA_T (T : Nat) : parseA (T * 16) = if mayN (T / 2 ^ 88) (T / 2 ^ 64 % 2 ^ 24) then .ok (T / 2 ^ 88, T / 2 ^ 64 % 2 ^ 24, T % 2 ^ 64) else .error 1 := by
  unfold parseA
  rw [if_neg (by omega), show T * 16 / 16 = T from by omega]
/-- A token that was written is read as it was. -/
theorem parse_text {s b x : Nat} (hs : s < 32) (hb1 : 1 ≤ b) (hb : b ≤ 1048576) (hx : x < 2 ^ 64) : parseL (textL (tokT s b x)) = .ok (s, b, x) := by
  have hm : mayN s b = true := by simp [mayN]; omega
  obtain ⟨p1, p2, p3⟩ := tokT_parts hs hb hx
  rw [parse_T (tokT_lt hs hb hx), parseA_T, p1, p2, p3, if_pos hm]

theorem numsOf_get : ∀ {l : List UInt8} {ds : List Nat}, numsOf l = some ds → ds.length = l.length ∧ ∀ (j d : Nat), ds[j]? = some d → (l[j]?).bind numOf = some d
  | [], ds, h => by simp [numsOf] at h; subst h; simp
  | c :: l, ds, h => by
    unfold numsOf at h
    cases h1 : numOf c with
    | none => simp [h1] at h
    | some d =>
      cases h2 : numsOf l with
      | none => simp [h1, h2] at h
      | some r =>
        simp [h1, h2] at h
        subst h
        have ih := numsOf_get h2
        refine ⟨by simp [ih.1], fun j e he => ?_⟩
        cases j with
        | zero => simp at he; subst he; simpa using h1
        | succ j => simpa using ih.2 j e (by simpa using he)
/-- A text that was read is written as the very text. -/
theorem text_parse {l : List UInt8} {s b x : Nat} (h : parseL l = .ok (s, b, x)) : textL (tokT s b x) = l ∧ s < 32 ∧ 1 ≤ b ∧ b ≤ 1048576 ∧ x < 2 ^ 64 := by
  unfold parseL at h
  split at h
  · cases h
  · rename_i h1
    split at h
    · cases h
    · rename_i h2
      split at h
      · cases h
      · rename_i h3
        split at h
        · cases h
        · rename_i ds hds
          obtain ⟨hlen, hget⟩ := numsOf_get hds
          have hl : l.length = 21 := by omega
          have hdl : ds.length = 20 := by rw [hlen]; simp [hl]
          have hlt : ∀ j, j < 20 → ds.getD j 0 < 32 := fun j hj => by
            have hj' : ds[j]? = some (ds.getD j 0) := by rw [List.getD_eq_getElem?_getD, List.getElem?_eq_getElem (by omega)]; rfl
            have := hget j _ hj'
            cases hc : l.tail[j]? with
            | none => rw [hc] at this; cases this
            | some c => rw [hc] at this; exact numOf_lt this
          have hmap : ds = (List.range 20).map (fun j => ds.getD j 0) := by
            apply List.ext_getElem?
            intro j
            by_cases hj : j < 20
            · rw [List.getElem?_eq_getElem (by omega)]
              simp [hj, List.getD_eq_getElem?_getD, List.getElem?_eq_getElem (show j < ds.length by omega)]
            · rw [List.getElem?_eq_none (by omega)]
              simp [hj]
          have hA : accL ds = accN (fun j => ds.getD j 0) 20 := by
            conv => lhs; rw [hmap]
            exact accL_range _ _
          have hAlt := accN_lt hlt
          have hdig := digits_accN hlt
          rw [hA] at h
          generalize accN (fun j => ds.getD j 0) 20 = A at *
          unfold parseA at h
          split at h
          · cases h
          · rename_i h4
            split at h
            · rename_i h5
              cases h
              simp only [mayN, Bool.and_eq_true, decide_eq_true_eq] at h5
              refine ⟨?_, h5.1.1, h5.1.2, h5.2, Nat.mod_lt _ (by decide)⟩
              rw [tokT_of]
              apply List.ext_getElem?
              intro j
              by_cases hj : j < 21
              · rw [textL_get _ hj]
                cases j with
                | zero =>
                  cases l with
                  | nil => simp at hl
                  | cons c l => simp at h3; subst h3; rfl
                | succ j =>
                  have hd : dig (A / 16) j = ds.getD j 0 := by
                    unfold dig
                    rw [show A / 16 * 16 = A from by omega]
                    exact hdig j (by omega)
                  have hj' : ds[j]? = some (ds.getD j 0) := by rw [List.getD_eq_getElem?_getD, List.getElem?_eq_getElem (by omega)]; rfl
                  have hb := hget j _ hj'
                  rw [List.getElem?_tail] at hb
                  cases hc : l[j + 1]? with
                  | none => rw [hc] at hb; cases hb
                  | some c =>
                    rw [hc] at hb
                    unfold textF
                    rw [if_neg (by omega), show j + 1 - 1 = j from rfl, hd, letter_numOf hb]
              · rw [List.getElem?_eq_none (by rw [textL_length]; omega), List.getElem?_eq_none (by omega)]
            · cases h
/-- Unlike tokens have unlike texts. -/
theorem text_inj {s b x s' b' x' : Nat} (hs : s < 32) (hb1 : 1 ≤ b) (hb : b ≤ 1048576) (hx : x < 2 ^ 64) (hs' : s' < 32) (hb1' : 1 ≤ b') (hb' : b' ≤ 1048576) (hx' : x' < 2 ^ 64)
    (h : textL (tokT s b x) = textL (tokT s' b' x')) : s = s' ∧ b = b' ∧ x = x' := by
  have h1 := parse_text hs hb1 hb hx
  rw [h, parse_text hs' hb1' hb' hx'] at h1
  simp only [Except.ok.injEq, Prod.mk.injEq] at h1
  exact ⟨h1.1.symm, h1.2.1.symm, h1.2.2.symm⟩

/-! ### the bytes of a token's number -/
/-- The j-th byte of 12, and a byte of noughts behind. -/
def byteT (T j : Nat) : Nat := T * 256 / 256 ^ (12 - j) % 256
/-- A letter's number out of two bytes that lie beside each other. -/
theorem dig_bytes (T k q r : Nat) (hk : k < 20) (hq : 5 * k = 8 * q + r) (hr : r < 8) : (byteT T q * 256 + byteT T (q + 1)) / 2 ^ (11 - r) % 32 = dig T k := by
  have hq12 : q < 12 := by omega
  unfold byteT dig
  have e1 : 12 - q = (12 - (q + 1)) + 1 := by omega
  rw [e1, Nat.pow_succ, ← Nat.div_div_eq_div_mul]
  have e2 : T * 256 / 256 ^ (12 - (q + 1)) / 256 % 256 * 256 + T * 256 / 256 ^ (12 - (q + 1)) % 256 = T * 256 / 256 ^ (12 - (q + 1)) % 65536 := by omega
  rw [e2]
  have p256 : ∀ n, (256 : Nat) ^ n = 2 ^ (8 * n) := fun n => by rw [Nat.pow_mul]
  have p32 : ∀ n, (32 : Nat) ^ n = 2 ^ (5 * n) := fun n => by rw [Nat.pow_mul]
  rw [p256, p32]
  have e3 : ∀ V : Nat, V % 65536 / 2 ^ (11 - r) % 32 = V / 2 ^ (11 - r) % 32 := fun V => by
    have h16 : (65536 : Nat) = 2 ^ (11 - r) * (32 * 2 ^ r) := by
      rw [show (32 : Nat) = 2 ^ 5 from rfl, ← Nat.pow_add, ← Nat.pow_add, show 11 - r + (5 + r) = 16 from by omega]
    rw [h16, Nat.mod_mul_right_div_self, Nat.mod_mod_of_dvd _ (Nat.dvd_mul_right _ _)]
  rw [e3, Nat.div_div_eq_div_mul, ← Nat.pow_add]
  have e5 : T * 256 = T * 2 ^ 8 := by rw [show (2 : Nat) ^ 8 = 256 from rfl]
  have e6 : T * 16 = T * 2 ^ 4 := by rw [show (2 : Nat) ^ 4 = 16 from rfl]
  rw [e5, e6]
  by_cases hc : 8 ≤ 8 * (12 - (q + 1)) + (11 - r)
  · have e7 : 8 * (12 - (q + 1)) + (11 - r) = 8 + (91 - 5 * k) := by omega
    have e8 : 5 * (19 - k) = 4 + (91 - 5 * k) := by omega
    rw [e7, e8, Nat.pow_add, Nat.pow_add, ← Nat.div_div_eq_div_mul, ← Nat.div_div_eq_div_mul, Nat.mul_div_cancel _ (by decide), Nat.mul_div_cancel _ (by decide)]
  · have hk19 : k = 19 := by omega
    have hr7 : r = 7 := by omega
    have hq11 : q = 11 := by omega
    subst hk19 hr7 hq11
    show T * 2 ^ 8 / 2 ^ 4 % 32 = T * 2 ^ 4 / 2 ^ 0 % 32
    omega
/-- The bytes from off on, n of them, as a number. -/
theorem bytes_val (T off : Nat) : ∀ n, off + n ≤ 12 → (List.range n).foldl (fun a j => a * 256 + byteT T (off + j)) 0 = T / 256 ^ (12 - off - n) % 256 ^ n
  | 0, _ => by simp [Nat.mod_one]
  | n + 1, h => by
    rw [List.range_succ, List.foldl_append, bytes_val T off n (by omega)]
    simp only [List.foldl_cons, List.foldl_nil]
    have e : 12 - off - n = (12 - off - (n + 1)) + 1 := by omega
    unfold byteT
    have e2 : 12 - (off + n) = (12 - off - (n + 1)) + 1 := by omega
    have e3 : T * 256 / 256 ^ ((12 - off - (n + 1)) + 1) = T / 256 ^ (12 - off - (n + 1)) := by
      rw [Nat.pow_succ', ← Nat.div_div_eq_div_mul, Nat.mul_div_cancel _ (by decide)]
    rw [e2, e3, e, Nat.pow_succ, ← Nat.div_div_eq_div_mul]
    generalize T / 256 ^ (12 - off - (n + 1)) = W
    rw [Nat.pow_succ, Nat.mul_comm (256 ^ n) 256, Nat.mod_mul]
    omega

/-! ### reading letter by letter -/
theorem numsOf_snoc : ∀ {l : List UInt8} {ds : List Nat} {c : UInt8} {d : Nat}, numsOf l = some ds → numOf c = some d → numsOf (l ++ [c]) = some (ds ++ [d])
  | [], ds, c, d, h, hc => by simp [numsOf] at h; subst h; simp [numsOf, hc]
  | e :: l, ds, c, d, h, hc => by
    unfold numsOf at h
    cases h1 : numOf e with
    | none => simp [h1] at h
    | some x =>
      cases h2 : numsOf l with
      | none => simp [h1, h2] at h
      | some r =>
        simp [h1, h2] at h
        subst h
        have ih := numsOf_snoc h2 hc
        simp [numsOf, h1, ih]
theorem numsOf_bad : ∀ (l : List UInt8) (c : UInt8) (m : List UInt8), numOf c = none → numsOf (l ++ c :: m) = none
  | [], c, m, hc => by simp [numsOf, hc]
  | e :: l, c, m, hc => by
    have ih := numsOf_bad l c m hc
    simp only [List.cons_append, numsOf, ih]
    cases numOf e <;> rfl
theorem accL_snoc (ds : List Nat) (d : Nat) : accL (ds ++ [d]) = accL ds * 32 + d := by simp [accL]
theorem accL_lt {l : List UInt8} {ds : List Nat} (h : numsOf l = some ds) : accL ds < 32 ^ l.length := by
  obtain ⟨hlen, hget⟩ := numsOf_get h
  have hlt : ∀ j, j < l.length → ds.getD j 0 < 32 := fun j hj => by
    have hj' : ds[j]? = some (ds.getD j 0) := by rw [List.getD_eq_getElem?_getD, List.getElem?_eq_getElem (by omega)]; rfl
    have := hget j _ hj'
    cases hc : l[j]? with
    | none => rw [hc] at this; cases this
    | some c => rw [hc] at this; exact numOf_lt this
  have hmap : ds = (List.range l.length).map (fun j => ds.getD j 0) := by
    apply List.ext_getElem?
    intro j
    by_cases hj : j < l.length
    · rw [List.getElem?_eq_getElem (by omega)]
      simp [hj, List.getD_eq_getElem?_getD, List.getElem?_eq_getElem (show j < ds.length by omega)]
    · rw [List.getElem?_eq_none (by omega)]
      simp [hj]
  have hA : accL ds = accN (fun j => ds.getD j 0) l.length := by
    conv => lhs; rw [hmap]
    exact accL_range _ _
  rw [hA]
  exact accN_lt hlt
/-- The bytes that m letters fill, as numbers. -/
def bytesN (A m : Nat) : List Nat := (List.range (5 * m / 8)).map fun j => A / 2 ^ (5 * m - 8 * (j + 1)) % 256
theorem rest_step (A d r : Nat) (hd : d < 32) : (A * 32 + d) % 2 ^ (r + 5) = A % 2 ^ r * 32 + d := by
  rw [show (2 : Nat) ^ (r + 5) = 32 * 2 ^ r from by rw [Nat.pow_add, Nat.mul_comm], Nat.mod_mul]
  have e1 : (A * 32 + d) % 32 = d := by omega
  have e2 : (A * 32 + d) / 32 = A := by omega
  rw [e1, e2]; omega
theorem byte_old (A d m j : Nat) (hd : d < 32) (hj : 8 * (j + 1) ≤ 5 * m) : (A * 32 + d) / 2 ^ (5 * (m + 1) - 8 * (j + 1)) % 256 = A / 2 ^ (5 * m - 8 * (j + 1)) % 256 := by
  rw [show 5 * (m + 1) - 8 * (j + 1) = 5 + (5 * m - 8 * (j + 1)) from by omega, Nat.pow_add, ← Nat.div_div_eq_div_mul]
  rw [show (A * 32 + d) / 2 ^ 5 = A from by omega]
theorem bytesN_less (A d m : Nat) (hd : d < 32) (h : 5 * m % 8 + 5 < 8) : bytesN (A * 32 + d) (m + 1) = bytesN A m := by
  unfold bytesN
  rw [show 5 * (m + 1) / 8 = 5 * m / 8 from by omega]
  apply List.map_congr_left
  intro j hj
  exact byte_old A d m j hd (by have := List.mem_range.1 hj; omega)
theorem bytesN_more (A d m c : Nat) (hd : d < 32) (h : 5 * m % 8 + 5 = 8 + c) : bytesN (A * 32 + d) (m + 1) = bytesN A m ++ [(A % 2 ^ (5 * m % 8) * 32 + d) / 2 ^ c % 256] := by
  unfold bytesN
  rw [show 5 * (m + 1) / 8 = 5 * m / 8 + 1 from by omega, List.range_succ, List.map_append]
  congr 1
  · apply List.map_congr_left
    intro j hj
    exact byte_old A d m j hd (by have := List.mem_range.1 hj; omega)
  · simp only [List.map_cons, List.map_nil, List.cons.injEq, and_true]
    rw [← rest_step A d (5 * m % 8) hd, h, show 5 * (m + 1) - 8 * (5 * m / 8 + 1) = c from by omega, Nat.pow_add, Nat.mul_comm (2 ^ 8), Nat.mod_mul_right_div_self]
    rw [show (2 : Nat) ^ 8 = 256 from rfl, Nat.mod_mod]
theorem bytesN_len (A m : Nat) : (bytesN A m).length = 5 * m / 8 := by simp [bytesN]
theorem bytesN_last (A j : Nat) (hj : j < 12) : (bytesN A 20)[j]? = some (byteT (A / 16) j) := by
  unfold bytesN
  rw [List.getElem?_map, List.getElem?_range (by omega)]
  simp only [Option.map_some, Option.some.injEq]
  unfold byteT
  have e : 256 ^ (12 - j) = 256 * 256 ^ (11 - j) := by rw [show 12 - j = (11 - j) + 1 from by omega, Nat.pow_succ']
  rw [e, ← Nat.div_div_eq_div_mul, Nat.mul_div_cancel _ (by decide), show 5 * 20 - 8 * (j + 1) = 4 + 8 * (11 - j) from by omega, Nat.pow_add, ← Nat.div_div_eq_div_mul, Nat.pow_mul]
theorem parse_bytes (A : Nat) (hA : A < 2 ^ 100) : (List.range 1).foldl (fun a j => a * 256 + byteT (A / 16) (0 + j)) 0 = A / 16 / 2 ^ 88 ∧ (List.range 3).foldl (fun a j => a * 256 + byteT (A / 16) (1 + j)) 0 = A / 16 / 2 ^ 64 % 2 ^ 24 ∧ (List.range 8).foldl (fun a j => a * 256 + byteT (A / 16) (4 + j)) 0 = A / 16 % 2 ^ 64 := by
  rw [bytes_val _ 0 1 (by decide), bytes_val _ 1 3 (by decide), bytes_val _ 4 8 (by decide)]
  refine ⟨?_, ?_, ?_⟩
  · simp only [show 12 - 0 - 1 = 11 from rfl, show (256 : Nat) ^ 11 = 2 ^ 88 from rfl, show (256 : Nat) ^ 1 = 256 from rfl]; omega
  · simp only [show 12 - 1 - 3 = 8 from rfl, show (256 : Nat) ^ 8 = 2 ^ 64 from rfl, show (256 : Nat) ^ 3 = 2 ^ 24 from rfl]
  · simp only [show 12 - 4 - 8 = 0 from rfl, show (256 : Nat) ^ 0 = 1 from rfl, show (256 : Nat) ^ 8 = 2 ^ 64 from rfl, Nat.div_one]
end Go.Proofs.YtjhfidccpaidmaaDoor
