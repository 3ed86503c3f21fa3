/-
  Of no program: a set's numbers make it again; its rows have just these numbers; the rows rise and lie apart.
-/
import Derived.Test.YtfdhkalallcfgaaDoorSameI
namespace Go.Proofs.YtfdhkalallcfgaaDoor
set_option maxRecDepth 100000

def natI (l : List Nat) : List Int := l.map fun (n : Nat) => (n : Int)
/-- The set with the numbers of a list. -/
def setOf (s : BitVec 64) : List Nat → BitVec 64
  | [] => s
  | i :: l => setOf (s ||| BitVec.twoPow 64 i) l
theorem hb_or (s : BitVec 64) (a i : Nat) (ha : a < 64) : hb (s ||| BitVec.twoPow 64 a) i = (hb s i || decide (a = i)) := by
  unfold hb
  rw [BitVec.getLsbD_or, BitVec.getLsbD_twoPow]
  simp [ha]
theorem ofGo_nat : ∀ (l : List Nat) (s : BitVec 64) (n : Nat), (∀ i ∈ l, i < 64 ∧ hb s i = false) → l.Nodup → ofGo s n (natI l) = (setOf s l, none)
  | [], s, n, _, _ => rfl
  | a :: l, s, n, h, hd => by
    obtain ⟨h1, h2⟩ := h a (List.mem_cons_self ..)
    obtain ⟨d1, d2⟩ := List.nodup_cons.1 hd
    show ofGo s n ((a : Int) :: natI l) = _
    rw [ofGo_on h1 h2, ofGo_nat l _ _ (fun i hi => ?_) d2]
    · rfl
    · obtain ⟨g1, g2⟩ := h i (List.mem_cons_of_mem _ hi)
      refine ⟨g1, ?_⟩
      rw [hb_or _ _ _ h1, g2]
      simp
      rintro rfl
      exact d1 hi
theorem hb_setOf : ∀ (l : List Nat) (s : BitVec 64) (j : Nat), (∀ i ∈ l, i < 64) → hb (setOf s l) j = (hb s j || decide (j ∈ l))
  | [], s, j, _ => by simp [setOf]
  | a :: l, s, j, h => by
    show hb (setOf (s ||| BitVec.twoPow 64 a) l) j = _
    rw [hb_setOf l _ j (fun i hi => h i (List.mem_cons_of_mem _ hi)), hb_or _ _ _ (h a (List.mem_cons_self ..)), Bool.or_assoc]
    congr 1
    rw [← Bool.decide_or]
    simp [eq_comm]
theorem bitsL_mem {x : BitVec 64} {i : Nat} : i ∈ bitsL x ↔ i < 64 ∧ hb x i = true := by simp [bitsL]
theorem of_bits (x : BitVec 64) : ofL (natI (bitsL x)) = (x, none) := by
  unfold ofL
  rw [ofGo_nat _ _ _ (fun i hi => ⟨(bitsL_mem.1 hi).1, by simp [hb]⟩) (List.Pairwise.filter _ List.nodup_range)]
  have e : setOf 0 (bitsL x) = x := by
    apply BitVec.eq_of_getLsbD_eq
    intro j hj
    have h := hb_setOf (bitsL x) 0 j (fun i hi => (bitsL_mem.1 hi).1)
    show hb (setOf 0 (bitsL x)) j = hb x j
    rw [h]
    have z : hb 0 j = false := by simp [hb]
    rw [z, Bool.false_or]
    cases hx : hb x j
    · simp [bitsL_mem, hx]
    · simp [bitsL_mem, hx, hj]
  rw [e]

/-! ### rows -/
/-- The numbers of rows. -/
def expand (l : List (Nat × Nat)) : List Nat := l.flatMap fun p => List.range' p.1 (p.2 - p.1)
theorem expand_snoc (l : List (Nat × Nat)) (p : Nat × Nat) : expand (l ++ [p]) = expand l ++ List.range' p.1 (p.2 - p.1) := by simp [expand]
theorem range'_last (s n : Nat) : List.range' s (n + 1) = List.range' s n ++ [s + n] := by rw [List.range'_concat]; simp
theorem expand_rows (x : BitVec 64) : ∀ k, (List.range (k + 1)).filter (hb x) = expand (rowsPre x ((List.range (k + 1)).filter (hb x))) ++ (if hb x k && hb x (k + 1) then List.range' (startOf x k) (k + 1 - startOf x k) else [])
  | 0 => by
    cases h0 : hb x 0 <;> cases h1 : hb x 1 <;> simp [h0, h1, rowsPre, expand, startOf, List.range_succ]
  | k + 1 => by
    have ih := expand_rows x k
    have hs : startOf x (k + 1) = if hb x k then startOf x k else k + 1 := rfl
    have hle := startOf_le x k
    rw [List.range_succ, List.filter_append]
    cases h1 : hb x (k + 1)
    · simp only [List.filter_cons, h1, List.filter_nil, Bool.false_and, Bool.false_eq_true, if_false, List.append_nil]
      rw [h1, Bool.and_false, if_neg (by simp), List.append_nil] at ih
      exact ih
    · simp only [List.filter_cons, h1, if_true, List.filter_nil, Bool.true_and]
      rw [h1, Bool.and_true] at ih
      cases h0 : hb x k
      · rw [h0] at ih hs
        simp only [Bool.false_eq_true, if_false, List.append_nil] at ih hs
        cases h2 : hb x (k + 1 + 1)
        · rw [rowsPre_end h2, expand_snoc, hs, ← ih]
          simp
        · rw [rowsPre_on h2, hs, ← ih]
          simp
      · rw [h0] at ih hs
        simp only [if_true] at ih hs
        have e : k + 1 + 1 - startOf x k = (k + 1 - startOf x k) + 1 := by omega
        have e2 : startOf x k + (k + 1 - startOf x k) = k + 1 := by omega
        cases h2 : hb x (k + 1 + 1)
        · rw [rowsPre_end h2, expand_snoc, hs]
          simp only [e, range'_last, e2]
          simp only [Bool.false_eq_true, if_false, List.append_nil]
          rw [← List.append_assoc, ← ih]
        · rw [rowsPre_on h2, hs, e, range'_last, e2]
          simp only [if_true]
          rw [← List.append_assoc, ← ih]
theorem expand_rowsL (x : BitVec 64) : expand (rowsL x) = bitsL x := by
  have h : hb x 64 = false := BitVec.getLsbD_of_ge _ _ (by omega)
  have := expand_rows x 63
  rw [h, Bool.and_false, if_neg (by simp), List.append_nil] at this
  exact this.symm
theorem startOf_gt {x : BitVec 64} {m : Nat} (hm : hb x m = false) : ∀ i, m < i → m < startOf x i
  | 0, h => by omega
  | k + 1, h => by
    have hs : startOf x (k + 1) = if hb x k then startOf x k else k + 1 := rfl
    rw [hs]
    by_cases e : k = m
    · subst e; rw [hm]; simp
    · cases hb x k
      · simp; omega
      · simpa using startOf_gt hm k (by omega)
/-- The end of the last row. -/
def lastOf (l : List (Nat × Nat)) : Int := match l.getLast? with
  | none => -1
  | some p => p.2
theorem lastOf_snoc (l : List (Nat × Nat)) (p : Nat × Nat) : lastOf (l ++ [p]) = p.2 := by simp [lastOf]
theorem rows_next {x : BitVec 64} {pre : List (Nat × Nat)} {p : Nat × Nat} (h : pre ++ [p] <+: rowsL x) : p.1 < p.2 ∧ p.2 ≤ 64 ∧ lastOf pre < p.1 := by
  unfold rowsL rowsPre bitsL at h
  rw [List.filter_filter] at h
  obtain ⟨l, hl, he⟩ := List.prefix_map_iff.1 h
  obtain ⟨l1, l2, rfl, h1, h2⟩ := List.map_eq_append_iff.1 he.symm
  obtain ⟨i, rfl, hi⟩ : ∃ i, l2 = [i] ∧ (startOf x i, i + 1) = p := by
    cases l2 with
    | nil => cases h2
    | cons i r =>
      cases r with
      | nil => exact ⟨i, rfl, by simpa using h2⟩
      | cons _ _ => simp at h2
  obtain ⟨e1, e2, e3⟩ := pre_range hl
  subst hi
  simp only [Bool.and_eq_true, Bool.not_eq_true'] at e2
  have hle := startOf_le x i
  refine ⟨by show startOf x i < i + 1; omega, by show i + 1 ≤ 64; omega, ?_⟩
  subst h1
  unfold lastOf
  rw [List.getLast?_map]
  cases hg : l1.getLast? with
  | none => simp; omega
  | some j =>
    have hj := List.mem_of_getLast? hg
    rw [e1] at hj
    simp only [List.mem_filter, List.mem_range, Bool.and_eq_true, Bool.not_eq_true'] at hj
    obtain ⟨j1, j2, j3⟩ := hj
    have hne : j + 1 ≠ i := fun e => by rw [e] at j2; rw [e2.2] at j2; cases j2
    have := startOf_gt j2 i (by omega)
    simp
    omega
end Go.Proofs.YtfdhkalallcfgaaDoor
