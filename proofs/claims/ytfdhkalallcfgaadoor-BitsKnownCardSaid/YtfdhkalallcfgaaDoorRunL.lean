/-
  A set's rows of numbers: in the order in which bits.Runs hands them out. Of no program.
-/
import Derived.Test.YtfdhkalallcfgaaDoorTrail
namespace Go.Proofs.YtfdhkalallcfgaaDoor
set_option maxRecDepth 100000

/-- The first number of the row that holds k. -/
def startOf (x : BitVec 64) : Nat → Nat
  | 0 => 0
  | k + 1 => if hb x k then startOf x k else k + 1
def rowsPre (x : BitVec 64) (pre : List Nat) : List (Nat × Nat) := (pre.filter fun i => !hb x (i + 1)).map fun i => (startOf x i, i + 1)
/-- A set's rows: the first number, and the one behind the last. -/
def rowsL (x : BitVec 64) : List (Nat × Nat) := rowsPre x (bitsL x)
theorem rowsPre_end {x : BitVec 64} {pre : List Nat} {i : Nat} (h : hb x (i + 1) = false) : rowsPre x (pre ++ [i]) = rowsPre x pre ++ [(startOf x i, i + 1)] := by
  simp [rowsPre, List.filter_append, h]
theorem rowsPre_on {x : BitVec 64} {pre : List Nat} {i : Nat} (h : hb x (i + 1) = true) : rowsPre x (pre ++ [i]) = rowsPre x pre := by
  simp [rowsPre, List.filter_append, h]
theorem rowsPre_prefix {x : BitVec 64} {pre : List Nat} (h : pre <+: bitsL x) : rowsPre x pre <+: rowsL x := (h.filter _).map _
theorem rowsPre_len (x : BitVec 64) (pre : List Nat) : (rowsPre x pre).length ≤ pre.length := by
  unfold rowsPre; rw [List.length_map]; exact List.length_filter_le _ _
theorem rowsL_len (x : BitVec 64) : (rowsL x).length ≤ 64 := Nat.le_trans (rowsPre_len x _) (bitsL_len x)
/-- What is handed out of a rising row of numbers, and what was ahead of it. -/
theorem pre_range {p : Nat → Bool} {i : Nat} : ∀ {n : Nat} {pre : List Nat}, pre ++ [i] <+: (List.range n).filter p → pre = (List.range i).filter p ∧ p i = true ∧ i < n
  | 0, pre, h => by
    rw [List.range_zero, List.filter_nil, List.prefix_nil] at h
    simp at h
  | n + 1, pre, h => by
    rw [List.range_succ, List.filter_append] at h
    by_cases hn : p n
    · simp only [List.filter_cons, hn, if_true, List.filter_nil] at h
      rcases List.prefix_concat_iff.1 h with h | h
      · obtain ⟨h1, h2⟩ := List.append_inj' h rfl
        obtain rfl : i = n := by simpa using h2
        exact ⟨h1, hn, by omega⟩
      · obtain ⟨h1, h2, h3⟩ := pre_range h
        exact ⟨h1, h2, by omega⟩
    · simp only [List.filter_cons, hn, List.filter_nil] at h
      obtain ⟨h1, h2, h3⟩ := pre_range (by simpa using h)
      exact ⟨h1, h2, by omega⟩
theorem pre_bits {x : BitVec 64} {pre : List Nat} {i : Nat} (h : pre ++ [i] <+: bitsL x) : pre = (List.range i).filter (hb x) ∧ hb x i = true ∧ i < 64 := pre_range h
/-- What the variable 'from' holds when these have been handed out. -/
def fromOf (x : BitVec 64) (pre : List Nat) : Int := match pre.getLast? with
  | none => -1
  | some p => startOf x p
theorem fromOf_snoc (x : BitVec 64) (pre : List Nat) (i : Nat) : fromOf x (pre ++ [i]) = startOf x i := by simp [fromOf]
theorem fromOf_on {x : BitVec 64} {pre : List Nat} {j : Nat} (h : pre ++ [j + 1] <+: bitsL x) (hj : hb x j = true) : fromOf x pre = startOf x (j + 1) := by
  obtain ⟨h1, _, _⟩ := pre_bits h
  subst h1
  rw [List.range_succ, List.filter_append]
  simp [hj, fromOf, startOf]
theorem startOf_new {x : BitVec 64} {i : Nat} (h : ∀ j, i = j + 1 → hb x j = false) : startOf x i = i := by
  cases i with
  | zero => rfl
  | succ j => simp [startOf, h j rfl]
theorem startOf_le (x : BitVec 64) : ∀ i, startOf x i ≤ i
  | 0 => Nat.le_refl _
  | k + 1 => by
    have := startOf_le x k
    unfold startOf
    split <;> omega

/-! ### the document's row of the bounds -/
/-- Whether a row begins or ends at i. -/
def edge (x : BitVec 64) : Nat → Bool
  | 0 => hb x 0
  | k + 1 => hb x (k + 1) != hb x k
def edgesB (x : BitVec 64) (k : Nat) : List Int := ((List.range k).filter (edge x)).map fun (n : Nat) => (n : Int)
theorem edgesB_t {x : BitVec 64} {k : Nat} (h : edge x k = true) : edgesB x (k + 1) = edgesB x k ++ [(k : Int)] := by
  simp [edgesB, List.range_succ, h]
theorem edgesB_f {x : BitVec 64} {k : Nat} (h : edge x k = false) : edgesB x (k + 1) = edgesB x k := by
  simp [edgesB, List.range_succ, h]
theorem edgesB_len (x : BitVec 64) (k : Nat) : (edgesB x k).length ≤ k := by
  unfold edgesB; rw [List.length_map]; exact Nat.le_trans (List.length_filter_le _ _) (by simp)
/-- The rows' bounds in one list. -/
def flatP (l : List (Nat × Nat)) : List Int := l.flatMap fun p => [(p.1 : Int), (p.2 : Int)]
theorem flatP_snoc (l : List (Nat × Nat)) (p : Nat × Nat) : flatP (l ++ [p]) = flatP l ++ [(p.1 : Int), (p.2 : Int)] := by simp [flatP]
theorem flatP_len (l : List (Nat × Nat)) : (flatP l).length = 2 * l.length := by
  induction l with
  | nil => rfl
  | cons a l ih => simp [flatP] at ih ⊢; omega
/-- Up to k, the rows' bounds are the places at which a row begins or ends; the row that k stands in has begun. -/
theorem flatP_edges (x : BitVec 64) : ∀ k, edgesB x (k + 1) = flatP (rowsPre x ((List.range k).filter (hb x))) ++ (if hb x k then [(startOf x k : Int)] else [])
  | 0 => by
    cases h : hb x 0
    · rw [edgesB_f (by simpa [edge] using h)]; simp [edgesB, rowsPre, flatP]
    · rw [edgesB_t (by simpa [edge] using h)]; simp [edgesB, rowsPre, flatP, startOf]
  | k + 1 => by
    have ih := flatP_edges x k
    rw [List.range_succ, List.filter_append]
    cases h0 : hb x k <;> cases h1 : hb x (k + 1)
    · rw [edgesB_f (by simp [edge, h0, h1]), ih]; simp [h0]
    · rw [edgesB_t (by simp [edge, h0, h1]), ih]; simp [h0, startOf]
    · rw [edgesB_t (by simp [edge, h0, h1]), ih]
      simp only [List.filter_cons, h0, if_true, List.filter_nil]
      rw [rowsPre_end h1, flatP_snoc]; simp
    · rw [edgesB_f (by simp [edge, h0, h1]), ih]
      simp only [List.filter_cons, h0, if_true, List.filter_nil]
      rw [rowsPre_on h1]; simp [startOf, h0]
theorem flatP_rowsL (x : BitVec 64) : flatP (rowsL x) = edgesB x 65 := by
  have h : hb x 64 = false := BitVec.getLsbD_of_ge _ _ (by omega)
  rw [flatP_edges x 64, h]
  simp [rowsL, bitsL]
end Go.Proofs.YtfdhkalallcfgaaDoor
