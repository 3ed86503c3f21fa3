/-
  Package level: is, names, Name, Parse, Enough, steps, Raise.
-/
import Derived.Test.YthoibafhbacfiaaDoorErrs
namespace Go.Proofs.YthoibafhbacfiaaDoor
set_option maxRecDepth 100000
open Go.RowKit

def isLev (l : Int) : Bool := decide (0 ≤ l) && decide (l ≤ 2)
def lowS : ByteArray := ⟨#[108, 111, 119]⟩
def midS : ByteArray := ⟨#[109, 105, 100]⟩
def highS : ByteArray := ⟨#[104, 105, 103, 104]⟩
def levName (l : Int) : ByteArray := if l = 0 then lowS else if l = 1 then midS else if l = 2 then highS else ⟨#[]⟩
def levErr (l : Int) : Value := if isLev l then .nilIface else errno 13
def levParse (s : ByteArray) : Int × Value := if lowS.toList = s.toList then (0, .nilIface) else if midS.toList = s.toList then (1, .nilIface) else if highS.toList = s.toList then (2, .nilIface) else (0, errno 4)
def enoughB (a b : Int) : Bool := isLev a && isLev b && decide (b ≤ a)
def raiseV (have_ want life : Int) : Value := if isLev have_ && isLev want && decide (have_ < want) then (if life < 1 ∨ 300 < life then errno 12 else .nilIface) else errno 13

theorem lev_cases (l : Int) : l = 0 ∨ l = 1 ∨ l = 2 ∨ (¬ (0 ≤ l ∧ l ≤ 2) ∧ isLev l = false) := by
  by_cases h : 0 ≤ l ∧ l ≤ 2
  · omega
  · exact .inr (.inr (.inr ⟨h, by simp [isLev]; omega⟩))

set_option maxHeartbeats 400000 in
theorem is_any (l : Int) (w : World) : Calls Tryd.prog 58 #[.int .i64 l] w (RetSame (.bool (isLev l)) w) := by
  by_cases h1 : 0 ≤ l
  · by_cases h2 : l ≤ 2
    · go_enter Tryd.func58, Tryd.ntmps58
      go_wp2
      go_ret
      exact ⟨by simp [isLev, h1, h2], rfl⟩
    · go_enter Tryd.func58, Tryd.ntmps58
      go_wp2
      go_ret
      exact ⟨by simp [isLev, h1]; omega, rfl⟩
  · go_enter Tryd.func58, Tryd.ntmps58
    go_wp2
    go_ret
    exact ⟨by simp [isLev]; omega, rfl⟩

set_option maxHeartbeats 400000 in
theorem enough_any (a b : Int) (w : World) : Calls Tryd.prog 45 #[.int .i64 a, .int .i64 b] w (RetSame (.bool (enoughB a b)) w) := by
  cases ha : isLev a
  · go_enter Tryd.func45, Tryd.ntmps45
    go_wp2_with (go_at_call 58; refine (is_any _ _).mono ?_; rintro e w' ⟨rfl, rfl⟩)
    go_ret
    exact ⟨by simp [enoughB, ha], rfl⟩
  · cases hb : isLev b
    · go_enter Tryd.func45, Tryd.ntmps45
      go_wp2_with (go_at_call 58; refine (is_any _ _).mono ?_; rintro e w' ⟨rfl, rfl⟩)
      go_ret
      exact ⟨by simp [enoughB, hb], rfl⟩
    · go_enter Tryd.func45, Tryd.ntmps45
      go_wp2_with (go_at_call 58; refine (is_any _ _).mono ?_; rintro e w' ⟨rfl, rfl⟩)
      go_ret
      exact ⟨by simp [enoughB, ha, hb], rfl⟩

set_option maxHeartbeats 400000 in
theorem steps_any (w : World) : Calls Tryd.prog 63 #[] w (RetB (.agg #[.int .i64 0, .int .i64 1, .int .i64 0, .int .i64 2, .int .i64 1, .int .i64 2]) w) := by
  go_enter Tryd.func63, Tryd.ntmps63
  go_wp2
  exact bodyPost_ret (v := .agg #[.int .i64 0, .int .i64 1, .int .i64 0, .int .i64 2, .int .i64 1, .int .i64 2]) (by simp [results, Tryd.results63, go_sem]) rfl ⟨rfl, by go_grown⟩

set_option maxHeartbeats 1000000 in
theorem lraise_any (a b c : Int) (w : World) : Calls Tryd.prog 54 #[.int .i64 a, .int .i64 b, .int .i64 c] w (RetB (raiseV a b c) w) := by
  have i0 : ∀ w, (Instr.index 109 (.agg #[.int .i64 0, .int .i64 1, .int .i64 0, .int .i64 2, .int .i64 1, .int .i64 2]) (.int .i64 0)).run Tryd.prog w = .ok (.agg #[.int .i64 0, .int .i64 1]) w := fun _ => by kernel_rfl
  have i1 : ∀ w, (Instr.index 109 (.agg #[.int .i64 0, .int .i64 1, .int .i64 0, .int .i64 2, .int .i64 1, .int .i64 2]) (.int .i64 1)).run Tryd.prog w = .ok (.agg #[.int .i64 0, .int .i64 2]) w := fun _ => by kernel_rfl
  have i2 : ∀ w, (Instr.index 109 (.agg #[.int .i64 0, .int .i64 1, .int .i64 0, .int .i64 2, .int .i64 1, .int .i64 2]) (.int .i64 2)).run Tryd.prog w = .ok (.agg #[.int .i64 1, .int .i64 2]) w := fun _ => by kernel_rfl
  rcases lev_cases a with rfl | rfl | rfl | ⟨h, hl⟩
  · rcases lev_cases b with rfl | rfl | rfl | ⟨h, hl⟩
    rotate_right
    · have h0 : ¬ (0 : Int) = b := by omega
      have h1 : ¬ (1 : Int) = b := by omega
      have h2 : ¬ (2 : Int) = b := by omega
      have hv : raiseV 0 b c = errno 13 := by simp [raiseV, hl]
      clear h hl
      rw [hv]
      go_enter Tryd.func54, Tryd.ntmps54
      go_wp2_with (go_at_call 63; refine (steps_any _).mono ?_; rintro e w1 ⟨rfl, hb⟩)
      have hsz := hb.size
      go_rounds 4
      go_ret
      exact ⟨rfl, by go_grown⟩
    · go_enter Tryd.func54, Tryd.ntmps54
      go_wp2_with (go_at_call 63; refine (steps_any _).mono ?_; rintro e w1 ⟨rfl, hb⟩)
      have hsz := hb.size
      go_rounds 4
      go_ret
      exact ⟨rfl, by go_grown⟩
    all_goals
      go_enter Tryd.func54, Tryd.ntmps54
      go_wp2_with (go_at_call 63; refine (steps_any _).mono ?_; rintro e w1 ⟨rfl, hb⟩)
      have hsz := hb.size
      go_rounds 4
      all_goals
        go_ret
        refine ⟨?_, by go_grown⟩
        simp [raiseV, isLev, errno]
        try omega
  · rcases lev_cases b with rfl | rfl | rfl | ⟨h, hl⟩
    rotate_right
    · have h0 : ¬ (0 : Int) = b := by omega
      have h1 : ¬ (1 : Int) = b := by omega
      have h2 : ¬ (2 : Int) = b := by omega
      have hv : raiseV 1 b c = errno 13 := by simp [raiseV, hl]
      clear h hl
      rw [hv]
      go_enter Tryd.func54, Tryd.ntmps54
      go_wp2_with (go_at_call 63; refine (steps_any _).mono ?_; rintro e w1 ⟨rfl, hb⟩)
      have hsz := hb.size
      go_rounds 4
      go_ret
      exact ⟨rfl, by go_grown⟩
    all_goals
      go_enter Tryd.func54, Tryd.ntmps54
      go_wp2_with (go_at_call 63; refine (steps_any _).mono ?_; rintro e w1 ⟨rfl, hb⟩)
      have hsz := hb.size
      go_rounds 4
      all_goals
        go_ret
        refine ⟨?_, by go_grown⟩
        simp [raiseV, isLev, errno]
        try omega
  · have hv : raiseV 2 b c = errno 13 := by
      unfold raiseV
      rw [if_neg]
      simp [isLev]
    rw [hv]
    go_enter Tryd.func54, Tryd.ntmps54
    go_wp2_with (go_at_call 63; refine (steps_any _).mono ?_; rintro e w1 ⟨rfl, hb⟩)
    have hsz := hb.size
    go_rounds 4
    go_ret
    exact ⟨rfl, by go_grown⟩
  · have h0 : ¬ (0 : Int) = a := by omega
    have h1 : ¬ (1 : Int) = a := by omega
    have hv : raiseV a b c = errno 13 := by simp [raiseV, hl]
    clear h hl
    rw [hv]
    go_enter Tryd.func54, Tryd.ntmps54
    go_wp2_with (go_at_call 63; refine (steps_any _).mono ?_; rintro e w1 ⟨rfl, hb⟩)
    have hsz := hb.size
    go_rounds 4
    go_ret
    exact ⟨rfl, by go_grown⟩
end Go.Proofs.YthoibafhbacfiaaDoor
