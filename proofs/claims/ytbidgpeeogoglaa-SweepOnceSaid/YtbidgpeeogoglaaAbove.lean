/-
  lineagelaw19.above.
-/
import Derived.Test.YtbidgpeeogoglaaOnceQ
import Derived.Test.YtbidgpeeogoglaaKids
namespace Go.Proofs.Ytbidgpeeogoglaa
set_option maxRecDepth 100000
open Go.RowKit Go.Sort

theorem asc_fall {ups : List Int} (hU : Ups ups) {k : Nat} {m y : Nat} (hy : y < ups.length) (h : ascL ups k m = (y : Int)) : ascL ups k (m + 1) = ups.getD y 0 ∧ ups.getD y 0 < (y : Int) := by
  refine ⟨?_, (hU y hy).2⟩
  show parL ups (ascL ups k m) = _
  rw [h]; exact parL_nat ups y
theorem asc_neg {ups : List Int} (hU : Ups ups) {k m i : Nat} (h : ascL ups k m < 0) (hno : ∀ m', m' < m → ascL ups k m' ≠ (i : Int)) : ¬ ∃ m', ascL ups k m' = (i : Int) := by
  rintro ⟨m', hm'⟩
  rcases Nat.lt_or_ge m' m with h1 | h1
  · exact hno m' h1 hm'
  · have := ascL_le hU k m (m' - m)
    rw [show m + (m' - m) = m' by omega] at this
    omega
/-- A truth value: just this. -/
def RetIf (p : Prop) (w : World) : Ending → World → Prop := fun e w' => w' = w ∧ ∃ b, e = .returned (.bool b) ∧ (b = true ↔ p)
set_option maxHeartbeats 8000000 in
theorem above_any (ups : List Int) (hU : Ups ups) (n : Nat) (hl : ups.length = n) (hn : n ≤ 32) (A : Option Addr) (cA : Nat) (i k : Nat) (hk : k < n) (w : World) (hin : IntsAt w A ups) :
    Calls Try.prog 19 #[.slice A n cA, .int .i64 i, .int .i64 k] w (RetIf (∃ m, ascL ups k m = (i : Int)) w) := by
  have hn1 : (n : Int) ≤ 32 := by omega
  have HIN := Lib.hid hin
  have HL := Lib.hid hl
  have HU := Lib.hid hU
  clear hin hl hU
  go_enter Try.func19, Try.ntmps19
  go_wp2
  go_loopw [2, 7] (fun v j wr => ∃ m : Nat, m ≤ n + 1 ∧ j = .int .i64 m ∧ v = .int .i64 (ascL ups k m) ∧ wr = w ∧ (∀ m', m' < m → ascL ups k m' ≠ (i : Int)) ∧ ascL ups k m + m ≤ k) (fun _ j _ => n + 1 - (intOf j).toNat)
  case atStart => exact ⟨0, by omega, rfl, rfl, rfl, fun m' h => absurd h (Nat.not_lt_zero _), by show (k : Int) + 0 ≤ k; omega⟩
  case round =>
    obtain ⟨m, hm, rfl, rfl, rfl, hno, hfall⟩ := hrel
    have HNO := Lib.hid hno
    clear hno
    obtain ⟨y, hy⟩ : ∃ y, ascL ups k m = y := ⟨_, rfl⟩
    have HY := Lib.hid hy
    rw [hy] at hfall ⊢
    clear hy
    by_cases hlt : m ≤ n
    · have hmi : (m : Int) ≤ (n : Int) := by omega
      by_cases hy0 : y < 0
      · have hne : ¬ (y = (i : Int)) := by omega
        have HN := Lib.hid (asc_neg HU.out (by rw [HY.out]; exact hy0) HNO.out)
        go_wp2
        go_ret
        refine ⟨rfl, _, rfl, ?_⟩
        exact ⟨fun h => absurd (by simpa using h) hne, fun h => absurd h HN.out⟩
      · by_cases he : y = (i : Int)
        · subst he
          go_wp2
          go_ret
          refine ⟨rfl, _, rfl, ?_⟩
          exact ⟨fun _ => ⟨m, HY.out⟩, fun _ => by simp⟩
        · obtain ⟨yn, rfl⟩ : ∃ yn : Nat, y = (yn : Int) := ⟨y.toNat, by omega⟩
          have hyn : yn < ups.length := by rw [HL.out]; omega
          have hyni : (yn : Int) < (n : Int) := by rw [HL.out] at hyn; omega
          obtain ⟨b1, o1, rfl, g1, r1⟩ := HIN.out (by rw [HL.out]; omega)
          obtain ⟨x, hx⟩ : ∃ x, ups[yn]? = some x := ⟨_, List.getElem?_eq_getElem hyn⟩
          have d1 := r1 yn x hx
          have hA := asc_fall HU.out hyn HY.out
          rw [getD_at hx] at hA
          have HA := Lib.hid hA.1
          have hx2 := hA.2
          have HNO2 := Lib.hid (show ∀ m', m' < m + 1 → ascL ups k m' ≠ (i : Int) from fun m' h => by
            rcases Nat.lt_or_ge m' m with h1 | h1
            · exact HNO.out m' h1
            · obtain rfl : m' = m := by omega
              rw [HY.out]; exact he)
          clear hx r1 hA hyn
          go_wp2
          go_roundw
          case rel => exact ⟨m + 1, by omega, by go_num, by rw [HA.out], by trivial, HNO2.out, by rw [HA.out]; omega⟩
          case measure => simp [intOf] <;> omega
    · obtain rfl : m = n + 1 := by omega
      have hka : ¬ (((n + 1 : Nat) : Int) ≤ (n : Int)) := by omega
      have HN := Lib.hid (asc_neg HU.out (by rw [HY.out]; omega) HNO.out)
      go_wp2
      go_ret
      refine ⟨rfl, _, rfl, ?_⟩
      exact ⟨fun h => absurd h (by simp), fun h => absurd h HN.out⟩
end Go.Proofs.Ytbidgpeeogoglaa
