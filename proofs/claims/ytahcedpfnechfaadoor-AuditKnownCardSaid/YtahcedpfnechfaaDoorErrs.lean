/-
  Errors by number: errors.Is between two errors that are numbers of package api, and lineagekit.Num of one.
-/
import Derived.Test.YtahcedpfnechfaaDoorErrno
import Derived.Test.YtahcedpfnechfaaDoorMem
import Derived.LaidEql
import Derived.Stop.Asserts
import Derived.RowKitTokens
namespace Go.Proofs.YtahcedpfnechfaaDoor
set_option maxRecDepth 100000
open Go.RowKit Go.Extern.Stop Go.Stop Go.Extern


theorem run_equalIn_errno (P : Program) (w : World) (d : Nat) {ti tn : TypeId} {ms : Array (String × TypeId)} {i : TypeInfo} {k : IntKind} (a b : Int)
    (hi : P.underlying ti = some (.interface ms)) (hn : P.underlying tn = some (.int k)) (hinfo : P.info? tn = some i) (hcomp : i.comparable = true) :
    (Op.equalIn (d + 2) ti (.iface tn (.int k a)) (.iface tn (.int k b))).run P w = .ok (a == b) w := by
  simp [Op.equalIn, run_underlying hi, run_underlying hn, typeInfo, hinfo, hcomp]
theorem errnoComp : (Tryd.prog.info? 62).map (·.comparable) = some true := by kernel_rfl
/-- Two errors that are numbers are one where the numbers are. -/
theorem eql_errno (a b : Int) (w : World) : (binOp .eql 35 (.iface 62 (.int .i64 a)) (.iface 62 (.int .i64 b))).run Tryd.prog w = .ok (.bool (a == b)) w := by
  obtain ⟨i, hi, hcmp⟩ := Option.map_eq_some_iff.1 errnoComp
  simp only [binOp]
  simp [Op.equal, Op.maxDepth, run_equalIn_errno Tryd.prog w 9998 a b Tryd.underlying35 Tryd.underlying62 hi hcmp]

theorem isTypeOf (v : Value) (w : World) : (ReflectliteType.typeOf #[.iface 62 v]).run Tryd.prog w = .ok (.iface 97 (.agg #[.pointer (some ⟨1, 62, none⟩)])) w := by kernel_rfl
/-- The model's entry for (rtype).Comparable. -/
def compEntry : Array Value → Sem Value := ReflectliteType.method fun t => do Rtype.noPackHeld "Comparable" t; pure (.bool (← typeInfo t).comparable)
theorem isComparable (w : World) : (compEntry #[.agg #[.pointer (some ⟨1, 62, none⟩)]]).run Tryd.prog w = .ok (.bool true) w := by kernel_rfl
theorem isMethodComparable (v : Value) (w : World) : (Go.method 245 97 v "Comparable").run Tryd.prog w = .ok (88, v) w := by kernel_rfl
theorem noIsE (v : Value) (xT : TypeId) (w : World) : (Instr.typeAssert (.iface 62 v) xT 109 true).run Tryd.prog w = .ok (.tuple #[.nilIface, .bool false]) w := run_typeAssert_lacksB Tryd.underlying109 (by kernel_rfl) (by kernel_rfl) v xT w
theorem noUnwrapE (v : Value) (xT : TypeId) (w : World) : (Instr.typeAssert (.iface 62 v) xT 104 true).run Tryd.prog w = .ok (.tuple #[.nilIface, .bool false]) w := run_typeAssert_lacksB Tryd.underlying104 (by kernel_rfl) (by kernel_rfl) v xT w
theorem noUnwrapsE (v : Value) (xT : TypeId) (w : World) : (Instr.typeAssert (.iface 62 v) xT 105 true).run Tryd.prog w = .ok (.tuple #[.nilIface, .bool false]) w := run_typeAssert_lacksB Tryd.underlying105 (by kernel_rfl) (by kernel_rfl) v xT w

set_option maxHeartbeats 1000000 in
/-- errors.is of two numbers. -/
theorem is_errno (a b : Int) (w : World) : Calls Tryd.prog 57 #[.iface 62 (.int .i64 a), .iface 62 (.int .i64 b), .bool true] w fun e w' => e = .returned (.bool (a == b)) ∧ w = w' := by
  have nE := noIsE
  have uE := noUnwrapE
  have vE := noUnwrapsE
  have heq := fun w => eql_errno a b w
  by_cases hab : (a == b) = true
  · go_enter Tryd.func57, Tryd.ntmps57
    go_wp2
    refine wp_loop_rounds 1 ?_
    rw [rounds_succ]
    go_wp2
    go_ret
    exact ⟨by rw [hab]; rfl, rfl⟩
  · have hab' : (a == b) = false := by simpa using hab
    clear hab
    go_enter Tryd.func57, Tryd.ntmps57
    go_wp2
    refine wp_loop_rounds 1 ?_
    rw [rounds_succ]
    go_wp2
    go_ret
    exact ⟨by rw [hab']; rfl, rfl⟩

set_option maxHeartbeats 1000000 in
/-- errors.Is of two numbers. -/
theorem Is_errno (a b : Int) (w : World) : Calls Tryd.prog 44 #[.iface 62 (.int .i64 a), .iface 62 (.int .i64 b)] w fun e w' => e = .returned (.bool (a == b)) ∧ w = w' := by
  have h8 := @run_callFunc_extern Tryd.prog 56 _ ReflectliteType.typeOf Tryd.func56 (by kernel_rfl) (by kernel_rfl) (by kernel_rfl) (by kernel_rfl)
  have h32 := @run_callFunc_extern Tryd.prog 88 _ compEntry Tryd.func88 (by kernel_rfl) (by kernel_rfl) (by kernel_rfl) (by kernel_rfl)
  have tT := isTypeOf
  have cT := isComparable
  have mR := isMethodComparable
  go_enter Tryd.func44, Tryd.ntmps44
  go_wp2_with (go_at_call 57; refine (is_errno _ _ _).mono ?_; rintro e w' ⟨rfl, rfl⟩)
  go_ret
  exact ⟨rfl, rfl⟩

/-- What Num has found when the numbers below n were asked. -/
def NumRel (k : Int) (f i : Value) : Prop := ∃ n : Nat, 1 ≤ n ∧ n ≤ 25 ∧ i = .int .i64 n ∧ f = .int .i64 (if k < n then k else 0)
set_option maxHeartbeats 1000000 in
/-- lineagekit.Num of a number. -/
theorem Num_errno (k : Int) (h1 : 1 ≤ k) (h2 : k ≤ 24) (w : World) : Calls Tryd.prog 27 #[.iface 62 (.int .i64 k)] w fun e w' => e = .returned (.int .i64 k) ∧ w = w' := by
  have hk0 : (k == 0) = false := by simp; omega
  go_enter Tryd.func27, Tryd.ntmps27
  go_wp2
  go_loop [3, 4] (NumRel k) (fun _ i => 25 - (intOf i).toNat)
  case atStart => exact ⟨1, by omega, by omega, rfl, by rw [if_neg (by omega)]⟩
  case round =>
    obtain ⟨n, hn1, hn2, rfl, rfl⟩ := hrel
    by_cases hle : n ≤ 24
    · by_cases hkn : k < (n : Int)
      · have hne : (k == (n : Int)) = false := by simp; omega
        rw [if_pos hkn]
        go_wp2_with (go_at_call 44; refine (Is_errno _ _ _).mono ?_; rintro e w' ⟨rfl, rfl⟩)
        go_round
        case rel => exact ⟨n + 1, by omega, by omega, by go_num, by rw [if_pos (by omega)]⟩
        case measure => simp [intOf]; omega
      · rw [if_neg hkn]
        by_cases hke : k = (n : Int)
        · subst hke
          go_wp2_with (go_at_call 44; refine (Is_errno _ _ _).mono ?_; rintro e w' ⟨rfl, rfl⟩)
          go_round
          case rel => exact ⟨n + 1, by omega, by omega, by go_num, by rw [if_pos (by omega)]⟩
          case measure => simp [intOf]; omega
        · have hne : (k == (n : Int)) = false := by simpa using hke
          have hkn2 : ¬ k < (n : Int) + 1 := by omega
          clear hke
          go_wp2_with (go_at_call 44; refine (Is_errno _ _ _).mono ?_; rintro e w' ⟨rfl, rfl⟩)
          go_round
          case rel => exact ⟨n + 1, by omega, by omega, by go_num, by rw [if_neg (by omega)]⟩
          case measure => simp [intOf]; omega
    · obtain rfl : n = 25 := by omega
      rw [if_pos (by omega)]
      go_wp2_with (go_at_call 44; refine (Is_errno _ _ _).mono ?_; rintro e w' ⟨rfl, rfl⟩)
      go_ret
      exact ⟨rfl, rfl⟩

/-- lineagekit.Num of none. -/
theorem Num_nil (w : World) : Calls Tryd.prog 27 #[.nilIface] w fun e w' => e = .returned (.int .i64 0) ∧ w = w' := by
  go_enter Tryd.func27, Tryd.ntmps27
  go_wp2
  go_ret
  exact ⟨rfl, rfl⟩
end Go.Proofs.YtahcedpfnechfaaDoor
