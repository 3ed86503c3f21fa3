/-
  Errors with a place (api.Fault): errors.Is, errors.As, lineagekit.Num, Place, At.
-/
import Derived.Test.YtahcedpfnechfaaDoorPlain
namespace Go.Proofs.YtahcedpfnechfaaDoor
set_option maxRecDepth 100000
open Go.RowKit Go.Extern.Stop Go.Stop Go.Extern

def faultC (k n : Int) : Array Value := #[.int .i64 k, .int .i64 n]
theorem noIsF (v : Value) (xT : TypeId) (w : World) : (Instr.typeAssert (.iface 64 v) xT 109 true).run Tryd.prog w = .ok (.tuple #[.nilIface, .bool false]) w := run_typeAssert_lacksB Tryd.underlying109 (by kernel_rfl) (by kernel_rfl) v xT w
theorem noAsF (v : Value) (xT : TypeId) (w : World) : (Instr.typeAssert (.iface 64 v) xT 101 true).run Tryd.prog w = .ok (.tuple #[.nilIface, .bool false]) w := run_typeAssert_lacksB Tryd.underlying101 (by kernel_rfl) (by kernel_rfl) v xT w
theorem hasUnwrapF (v : Value) (w : World) : (Instr.typeAssert (.iface 64 v) 35 104 true).run Tryd.prog w = .ok (.tuple #[.iface 64 v, .bool true]) w := by kernel_rfl
theorem methodUnwrapF (v : Value) (w : World) : (Go.method 245 64 v "Unwrap").run Tryd.prog w = .ok (82, v) w := by kernel_rfl
theorem eql_fault (v : Value) (b : Int) (w : World) : (binOp .eql 35 (.iface 64 v) (.iface 62 (.int .i64 b))).run Tryd.prog w = .ok (.bool false) w := by
  kernel_rfl
set_option maxHeartbeats 1000000 in
theorem unwrap_fault (k n : Int) (w : World) : Calls Tryd.prog 82 #[.agg #[.int .i64 k, .int .i64 n]] w fun e w' => e = .returned (.iface 62 (.int .i64 k)) ∧ Below w.heap.size w w' := by
  go_enter Tryd.func82, Tryd.ntmps82
  go_wp2
  go_ret
  exact ⟨rfl, (Below.refl _ _).alloc (Nat.le_refl _) _⟩
set_option maxHeartbeats 1000000 in
/-- errors.is of an error with a place, at a number. -/
theorem is_fault (a n b : Int) (w : World) : Calls Tryd.prog 57 #[.iface 64 (.agg #[.int .i64 a, .int .i64 n]), .iface 62 (.int .i64 b), .bool true] w (RetB (.bool (a == b)) w) := by
  have nE := noIsE
  have uE := noUnwrapE
  have vE := noUnwrapsE
  have nF := noIsF
  have uF := hasUnwrapF
  have mF := methodUnwrapF
  have heq := fun w => eql_errno a b w
  have heqF := eql_fault
  by_cases hab : (a == b) = true
  · go_enter Tryd.func57, Tryd.ntmps57
    go_wp2
    refine wp_loop_rounds 2 ?_
    rw [rounds_succ]
    go_wp2_with (first | (go_at_call 82; fail))
    refine (unwrap_fault a n w).mono ?_
    rintro e w1 ⟨rfl, hb1⟩
    have HB1 := Lib.hid hb1
    clear hb1
    go_wp2
    rw [rounds_succ]
    go_wp2
    go_ret
    exact ⟨by rw [hab]; rfl, HB1.out⟩
  · have hab' : (a == b) = false := by simpa using hab
    clear hab
    go_enter Tryd.func57, Tryd.ntmps57
    go_wp2
    refine wp_loop_rounds 2 ?_
    rw [rounds_succ]
    go_wp2_with (first | (go_at_call 82; fail))
    refine (unwrap_fault a n w).mono ?_
    rintro e w1 ⟨rfl, hb1⟩
    have HB1 := Lib.hid hb1
    clear hb1
    go_wp2
    rw [rounds_succ]
    go_wp2
    go_ret
    exact ⟨by rw [hab']; rfl, HB1.out⟩
set_option maxHeartbeats 1000000 in
/-- errors.Is of an error with a place, at a number. -/
theorem Is_fault (a n b : Int) (w : World) : Calls Tryd.prog 44 #[.iface 64 (.agg #[.int .i64 a, .int .i64 n]), .iface 62 (.int .i64 b)] w (RetB (.bool (a == b)) w) := by
  have h8 := @run_callFunc_extern Tryd.prog 56 _ ReflectliteType.typeOf Tryd.func56 (by kernel_rfl) (by kernel_rfl) (by kernel_rfl) (by kernel_rfl)
  have h32 := @run_callFunc_extern Tryd.prog 88 _ compEntry Tryd.func88 (by kernel_rfl) (by kernel_rfl) (by kernel_rfl) (by kernel_rfl)
  have tT := isTypeOf
  have cT := isComparable
  have mR := isMethodComparable
  go_enter Tryd.func44, Tryd.ntmps44
  go_wp2_with (first | (go_at_call 57; fail))
  refine (is_fault a n b _).mono ?_
  rintro e w1 ⟨rfl, hb1⟩
  go_wp2
  go_ret
  exact ⟨rfl, hb1⟩
structure NumRelF (w : World) (k : Int) (f i : Value) (wr : World) : Prop where
  ex : ∃ n : Nat, 1 ≤ n ∧ n ≤ 25 ∧ i = .int .i64 n ∧ f = .int .i64 (if k < n then k else 0) ∧ Below w.heap.size w wr
set_option maxHeartbeats 2000000 in
/-- lineagekit.Num of an error with a place. -/
theorem Num_fault (k a : Int) (h1 : 1 ≤ k) (h2 : k ≤ 24) (w : World) : Calls Tryd.prog 27 #[.iface 64 (.agg #[.int .i64 k, .int .i64 a])] w (RetB (.int .i64 k) w) := by
  have hk0 : (k == 0) = false := by simp; omega
  go_enter Tryd.func27, Tryd.ntmps27
  go_wp2
  go_loopw [3, 4] (NumRelF w k) (fun _ i _ => 25 - (intOf i).toNat)
  case atStart => exact ⟨⟨1, by omega, by omega, rfl, by rw [if_neg (by omega)], Below.refl _ _⟩⟩
  case round =>
    obtain ⟨⟨n, hn1, hn2, rfl, rfl, hbel⟩⟩ := hrel
    have BEL := Lib.hid hbel
    have hsz := hbel.size
    clear hbel
    by_cases hle : n ≤ 24
    · by_cases hkn : k < (n : Int)
      · have hne : (k == (n : Int)) = false := by simp; omega
        rw [if_pos hkn]
        go_wp2_with (first | (go_at_call 44; fail))
        refine (Is_fault k a _ _).mono ?_
        rintro e w1 ⟨rfl, hb1⟩
        have B1 := Lib.hid (BEL.out.trans (hb1.mono hsz))
        clear hb1
        go_wp2
        go_roundw
        case rel => exact ⟨⟨n + 1, by omega, by omega, by go_num, by rw [if_pos (by omega)], B1.out⟩⟩
        case measure => simp [intOf]; omega
      · rw [if_neg hkn]
        by_cases hke : k = (n : Int)
        · subst hke
          have hee : ((n : Int) == (n : Int)) = true := by simp
          go_wp2_with (first | (go_at_call 44; fail))
          refine (Is_fault _ a _ _).mono ?_
          rintro e w1 ⟨rfl, hb1⟩
          have B1 := Lib.hid (BEL.out.trans (hb1.mono hsz))
          clear hb1
          go_wp2
          go_roundw
          case rel => exact ⟨⟨n + 1, by omega, by omega, by go_num, by rw [if_pos (by omega)], B1.out⟩⟩
          case measure => simp [intOf]; omega
        · have hne : (k == (n : Int)) = false := by simpa using hke
          have hkn2 : ¬ k < (n : Int) + 1 := by omega
          clear hke
          go_wp2_with (first | (go_at_call 44; fail))
          refine (Is_fault k a _ _).mono ?_
          rintro e w1 ⟨rfl, hb1⟩
          have B1 := Lib.hid (BEL.out.trans (hb1.mono hsz))
          clear hb1
          go_wp2
          go_roundw
          case rel => exact ⟨⟨n + 1, by omega, by omega, by go_num, by rw [if_neg (by omega)], B1.out⟩⟩
          case measure => simp [intOf]; omega
    · obtain rfl : n = 25 := by omega
      rw [if_pos (by omega)]
      go_wp2_with (first | (go_at_call 44; fail))
      refine (Is_fault k a _ _).mono ?_
      rintro e w1 ⟨rfl, hb1⟩
      have B1 := Lib.hid (BEL.out.trans (hb1.mono hsz))
      clear hb1
      go_wp2
      go_ret
      exact ⟨rfl, B1.out⟩
end Go.Proofs.YtahcedpfnechfaaDoor
