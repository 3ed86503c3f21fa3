/-
  The document's row of a set's numbers (All), and how many they are (Count); Meet, Join, Less, Within.
-/
import Derived.Test.YtfdhkalallcfgaaDoorTwo
namespace Go.Proofs.YtfdhkalallcfgaaDoor
set_option maxRecDepth 100000
open Go.RowKit

def intVs (l : List Int) : List Value := l.map (.int .i64)
/-- The numbers below k of a set, rising. -/
def numsB (x : BitVec 64) (k : Nat) : List Int := ((List.range k).filter (hb x)).map fun (n : Nat) => (n : Int)
theorem numsB_t {x : BitVec 64} {k : Nat} (h : hb x k = true) : numsB x (k + 1) = numsB x k ++ [(k : Int)] := by
  simp [numsB, List.range_succ, h]
theorem numsB_f {x : BitVec 64} {k : Nat} (h : hb x k = false) : numsB x (k + 1) = numsB x k := by
  simp [numsB, List.range_succ, h]
theorem numsB_len (x : BitVec 64) : ∀ k, (numsB x k).length ≤ k
  | 0 => by simp [numsB]
  | k + 1 => by
    have ih := numsB_len x k
    cases h : hb x k
    · rw [numsB_f h]; omega
    · rw [numsB_t h]; simp; omega
def AllRel (w : World) (x : BitVec 64) (l i : Value) (wr : World) : Prop :=
  ∃ k : Nat, k ≤ 64 ∧ i = .int .i64 k ∧ wr.ownsRow w.heap.size 3 1 l (numsB x k).length (intVs (numsB x k)) ∧ Below w.heap.size w wr
/-- A row of ints of one's own is handed back. -/
def RetInts (l : List Int) (w : World) (e : Ending) (w' : World) : Prop :=
  ∃ v, e = .returned v ∧ w'.ownsRow w.heap.size 3 1 v l.length (intVs l) ∧ Below w.heap.size w w'
theorem int_one (i : Int) : ∀ u ∈ (#[Value.int .i64 i] : Array Value).toList, u.oneCell' = true := by intro u hu; simp at hu; subst hu; rfl
theorem intInfo : ∃ i z, Tryd.prog.info? 3 = some i ∧ i.zero = some z ∧ i.size = 1 ∧ i.bytes = 8 ∧ z.cells.size = 1 := by
  have h : (match Tryd.prog.info? 3 with | some i => (match i.zero with | some z => i.size == 1 && i.bytes == 8 && z.cells.size == 1 | none => false) | none => false) = true := by decide +kernel
  cases hi : Tryd.prog.info? 3 with
  | none => rw [hi] at h; cases h
  | some i =>
    rw [hi] at h
    cases hz : i.zero with
    | none => simp only [hz] at h; cases h
    | some z =>
      simp only [hz, Bool.and_eq_true, beq_iff_eq] at h
      exact ⟨i, z, rfl, hz, h.1.1, h.1.2, h.2⟩
theorem ownsInts_nil (w : World) : w.ownsRow w.heap.size 3 1 (.slice none 0 0) 0 [] := ⟨rfl, .inl ⟨rfl, rfl⟩⟩
set_option maxHeartbeats 1000000 in
theorem rall_any (x : BitVec 64) (w : World) : Calls Tryd.prog 7 #[.int .u64 (wd x)] w (RetInts (numsB x 64) w) := by
  obtain ⟨ii, iz, hi, hz0, hz1, hz2, hz3⟩ := intInfo
  go_enter Tryd.func7, Tryd.ntmps7
  go_wp2
  go_loopw [3, 4] (AllRel w x) (fun _ i _ => 64 - (intOf i).toNat)
  case atStart => exact ⟨0, by omega, rfl, ownsInts_nil w, Below.refl _ _⟩
  case round =>
    obtain ⟨k, hk, rfl, hown, hbel⟩ := hrel
    by_cases hlt : k < 64
    · have hsz := hbel.size
      cases hx : hb x k
      · have HO := Lib.hid hown
        clear hown
        go_wp2_with (go_at_call 25; refine (rhas_nat _ k hlt _).mono ?_; rintro e w' ⟨rfl, rfl⟩)
        go_roundw
        case rel => exact ⟨k + 1, by omega, by go_num, by rw [numsB_f hx]; exact HO.out, hbel⟩
        case measure => simp [intOf]; omega
      · have HL := Lib.hid (numsB_len x k)
        have h1 : (numsB x k).length + 1 ≤ maxLen := by unfold maxLen; have := HL.out; omega
        have h2 : ((numsB x k).length + 1) * 8 ≤ 140737488355328 := by have := HL.out; omega
        have H1 := Lib.hid h1
        have H2 := Lib.hid h2
        have HX := Lib.hid hx
        clear h1 h2
        go_wp2_with (first
          | (go_at_call 25; refine (rhas_nat _ k hlt _).mono ?_; rintro e w' ⟨rfl, rfl⟩)
          | (at_builtin; refine wpList_append_one (v := u3) rfl _ _ _ rfl Tryd.underlying24 hi hz0 hz1 hz2 hz3 (by decide) rfl hown rfl rfl (int_one _) H1.out H2.out hsz ?_; intro g' cap' w1 hown1 hgr1))
        go_roundw
        case rel => exact ⟨k + 1, by omega, by go_num, by rw [numsB_t HX.out, List.length_append]; simpa [intVs] using hown1, bel_grown hbel hgr1 hown (Nat.le_refl _) hsz⟩
        case measure => simp [intOf]; omega
    · have hk' : k = 64 := by omega
      subst hk'
      clear hk hlt
      go_wp2
      go_ret
      exact ⟨_, rfl, hown, hbel⟩
end Go.Proofs.YtfdhkalallcfgaaDoor
