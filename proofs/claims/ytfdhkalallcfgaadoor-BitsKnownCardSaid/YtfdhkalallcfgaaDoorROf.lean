/-
  Package lineageref02: Of.
-/
import Derived.Test.YtfdhkalallcfgaaDoorOf
namespace Go.Proofs.YtfdhkalallcfgaaDoor
set_option maxRecDepth 100000
open Go.RowKit

def rofV (r : BitVec 64 × Option (Int × Nat)) : Value := .tuple #[.int .u64 (wd r.1), .int .i64 (match r.2 with | none => 0 | some (k, _) => k), .int .i64 (match r.2 with | none => 0 | some (_, n) => (n : Int))]
set_option maxHeartbeats 1000000 in
theorem rof_list (A : Option Addr) (cap : Nat) (xs : List Int) (w : World) (hr : IntsAt w A xs) (hl : xs.length * 8 ≤ 140737488351232) :
    Calls Tryd.prog 18 #[.slice A xs.length cap] w (RetSame (rofV (ofL xs)) w) := by
  have HR := Lib.hid hr
  have hl1 : xs.length + 1 ≤ 9223372036854775807 := by omega
  have HL := Lib.hid hl
  clear hr hl
  go_enter Tryd.func18, Tryd.ntmps18
  go_wp2
  go_loopw [5, 6] (OfLoop w xs) (fun _ i _ => xs.length - (intOf i).toNat)
  case atStart => exact ⟨rfl, 0, 0#64, Nat.zero_le _, rfl, rfl, rfl⟩
  case round =>
    obtain ⟨rfl, k, x, hk, rfl, rfl, hof⟩ := hrel
    by_cases hlt : k < xs.length
    · have hd : xs.drop k = xs[k] :: xs.drop (k + 1) := List.drop_eq_getElem_cons hlt
      rw [hd] at hof
      obtain ⟨b, off, rfl, hb_, hrow⟩ := HR.out (by omega)
      have hcell := hrow k xs[k] (List.getElem?_eq_getElem hlt)
      clear hrow HR hd
      obtain ⟨i, hi⟩ : ∃ i, xs[k] = i := ⟨_, rfl⟩
      rw [hi] at hof hcell
      clear hi
      rcases z_cases i with h | h | ⟨n, hn, rfl⟩
      · have hz : inZ i = false := by simp [inZ]; omega
        rw [ofGo_bad hz] at hof
        have HOF := Lib.hid hof
        clear hof
        go_wp2
        exact bodyPost_ret (v := rofV (ofL xs)) (by rw [HOF.out]; simp [results, Tryd.results18, go_sem, rofV, ofGo, wd_zero]) rfl ⟨rfl, rfl⟩
      · have hz : inZ i = false := by simp [inZ]; omega
        have h0 : ¬ i < 0 := by omega
        rw [ofGo_bad hz] at hof
        have HOF := Lib.hid hof
        clear hof
        go_wp2
        exact bodyPost_ret (v := rofV (ofL xs)) (by rw [HOF.out]; simp [results, Tryd.results18, go_sem, rofV, ofGo, wd_zero]) rfl ⟨rfl, rfl⟩
      · have h0 : ¬ (n : Int) < 0 := by omega
        have h1 : ¬ (63 : Int) < n := by omega
        have h64 : (n : Int) < 64 := by omega
        cases hx : hb x n
        · rw [ofGo_on hn hx] at hof
          have HOF := Lib.hid hof
          clear hof
          go_wp2_with (go_at_call 25; refine (rhas_nat _ n hn _).mono ?_; rintro e w' ⟨rfl, rfl⟩)
          go_roundw
          case rel => exact ⟨rfl, k + 1, _, by omega, rfl, by go_num, HOF.out⟩
          case measure => simp [intOf]; omega
        · rw [ofGo_twice hn hx] at hof
          have HOF := Lib.hid hof
          clear hof
          go_wp2_with (go_at_call 25; refine (rhas_nat _ n hn _).mono ?_; rintro e w' ⟨rfl, rfl⟩)
          exact bodyPost_ret (v := rofV (ofL xs)) (by rw [HOF.out]; simp [results, Tryd.results18, go_sem, rofV, ofGo, wd_zero]) rfl ⟨rfl, rfl⟩
    · have hd : xs.drop k = [] := List.drop_eq_nil_of_le (by omega)
      rw [hd] at hof
      have HOF := Lib.hid hof
      have hke : ¬ (k : Int) < xs.length := by omega
      clear hof hd HR
      go_wp2
      exact bodyPost_ret (v := rofV (ofL xs)) (by rw [HOF.out]; simp [results, Tryd.results18, go_sem, rofV, ofGo, wd_zero]) rfl ⟨rfl, rfl⟩

end Go.Proofs.YtfdhkalallcfgaaDoor
