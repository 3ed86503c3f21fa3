/-
  Merged texts: Errs, Plain, Fault, Fault2, Fault3.
-/
import Derived.Test.YtbidgpeeogoglaaDoorGa
import Derived.LaidEql
import Derived.Stop.Asserts
import Derived.RowKitTokens
/-
  Errors by number: errors.Is between two errors that are numbers of package api, and lineagekit.Num of one.
-/
namespace Go.Proofs.YtbidgpeeogoglaaDoor
set_option maxRecDepth 100000
open Go.RowKit Go.Extern.Stop Go.Stop Go.Extern


theorem run_equalIn_errno (P : Program) (w : World) (d : Nat) {ti tn : TypeId} {ms : Array (String × TypeId)} {i : TypeInfo} {k : IntKind} (a b : Int)
    (hi : P.underlying ti = some (.interface ms)) (hn : P.underlying tn = some (.int k)) (hinfo : P.info? tn = some i) (hcomp : i.comparable = true) :
    (Op.equalIn (d + 2) ti (.iface tn (.int k a)) (.iface tn (.int k b))).run P w = .ok (a == b) w := by
  simp [Op.equalIn, run_underlying hi, run_underlying hn, typeInfo, hinfo, hcomp]
theorem errnoComp : (Tryd.prog.info? 112).map (·.comparable) = some true := by kernel_rfl
/-- Two errors that are numbers are one where the numbers are. -/
theorem eql_errno (a b : Int) (w : World) : (binOp .eql 55 (.iface 112 (.int .i64 a)) (.iface 112 (.int .i64 b))).run Tryd.prog w = .ok (.bool (a == b)) w := by
  obtain ⟨i, hi, hcmp⟩ := Option.map_eq_some_iff.1 errnoComp
  simp only [binOp]
  simp [Op.equal, Op.maxDepth, run_equalIn_errno Tryd.prog w 9998 a b Tryd.underlying55 Tryd.underlying112 hi hcmp]

theorem isTypeOf (v : Value) (w : World) : (ReflectliteType.typeOf #[.iface 112 v]).run Tryd.prog w = .ok (.iface 156 (.agg #[.pointer (some ⟨1, 112, none⟩)])) w := by kernel_rfl
/-- The model's entry for (rtype).Comparable. -/
def compEntry : Array Value → Sem Value := ReflectliteType.method fun t => do Rtype.noPackHeld "Comparable" t; pure (.bool (← typeInfo t).comparable)
theorem isComparable (w : World) : (compEntry #[.agg #[.pointer (some ⟨1, 112, none⟩)]]).run Tryd.prog w = .ok (.bool true) w := by kernel_rfl
theorem isMethodComparable (v : Value) (w : World) : (Go.method 300 156 v "Comparable").run Tryd.prog w = .ok (142, v) w := by kernel_rfl
theorem noIsE (v : Value) (xT : TypeId) (w : World) : (Instr.typeAssert (.iface 112 v) xT 168 true).run Tryd.prog w = .ok (.tuple #[.nilIface, .bool false]) w := run_typeAssert_lacksB Tryd.underlying168 (by kernel_rfl) (by kernel_rfl) v xT w
theorem noUnwrapE (v : Value) (xT : TypeId) (w : World) : (Instr.typeAssert (.iface 112 v) xT 163 true).run Tryd.prog w = .ok (.tuple #[.nilIface, .bool false]) w := run_typeAssert_lacksB Tryd.underlying163 (by kernel_rfl) (by kernel_rfl) v xT w
theorem noUnwrapsE (v : Value) (xT : TypeId) (w : World) : (Instr.typeAssert (.iface 112 v) xT 165 true).run Tryd.prog w = .ok (.tuple #[.nilIface, .bool false]) w := run_typeAssert_lacksB Tryd.underlying165 (by kernel_rfl) (by kernel_rfl) v xT w

set_option maxHeartbeats 1000000 in
/-- errors.is of two numbers. -/
theorem is_errno (a b : Int) (w : World) : Calls Tryd.prog 112 #[.iface 112 (.int .i64 a), .iface 112 (.int .i64 b), .bool true] w fun e w' => e = .returned (.bool (a == b)) ∧ w = w' := by
  have nE := noIsE
  have uE := noUnwrapE
  have vE := noUnwrapsE
  have heq := fun w => eql_errno a b w
  by_cases hab : (a == b) = true
  · go_enter Tryd.func112, Tryd.ntmps112
    go_wp2
    refine wp_loop_rounds 1 ?_
    rw [rounds_succ]
    go_wp2
    go_ret
    exact ⟨by rw [hab]; rfl, rfl⟩
  · have hab' : (a == b) = false := by simpa using hab
    clear hab
    go_enter Tryd.func112, Tryd.ntmps112
    go_wp2
    refine wp_loop_rounds 1 ?_
    rw [rounds_succ]
    go_wp2
    go_ret
    exact ⟨by rw [hab']; rfl, rfl⟩

set_option maxHeartbeats 1000000 in
/-- errors.Is of two numbers. -/
theorem Is_errno (a b : Int) (w : World) : Calls Tryd.prog 93 #[.iface 112 (.int .i64 a), .iface 112 (.int .i64 b)] w fun e w' => e = .returned (.bool (a == b)) ∧ w = w' := by
  have h8 := @run_callFunc_extern Tryd.prog 111 _ ReflectliteType.typeOf Tryd.func111 (by kernel_rfl) (by kernel_rfl) (by kernel_rfl) (by kernel_rfl)
  have h32 := @run_callFunc_extern Tryd.prog 142 _ compEntry Tryd.func142 (by kernel_rfl) (by kernel_rfl) (by kernel_rfl) (by kernel_rfl)
  have tT := isTypeOf
  have cT := isComparable
  have mR := isMethodComparable
  go_enter Tryd.func93, Tryd.ntmps93
  go_wp2_with (go_at_call 112; refine (is_errno _ _ _).mono ?_; rintro e w' ⟨rfl, rfl⟩)
  go_ret
  exact ⟨rfl, rfl⟩

/-- What Num has found when the numbers below n were asked. -/
def NumRel (k : Int) (f i : Value) : Prop := ∃ n : Nat, 1 ≤ n ∧ n ≤ 25 ∧ i = .int .i64 n ∧ f = .int .i64 (if k < n then k else 0)
set_option maxHeartbeats 1000000 in
/-- lineagekit.Num of a number. -/
theorem Num_errno (k : Int) (h1 : 1 ≤ k) (h2 : k ≤ 24) (w : World) : Calls Tryd.prog 68 #[.iface 112 (.int .i64 k)] w fun e w' => e = .returned (.int .i64 k) ∧ w = w' := by
  have hk0 : (k == 0) = false := by simp; omega
  go_enter Tryd.func68, Tryd.ntmps68
  go_wp2
  go_loop [3, 4] (NumRel k) (fun _ i => 25 - (intOf i).toNat)
  case atStart => exact ⟨1, by omega, by omega, rfl, by rw [if_neg (by omega)]⟩
  case round =>
    obtain ⟨n, hn1, hn2, rfl, rfl⟩ := hrel
    by_cases hle : n ≤ 24
    · by_cases hkn : k < (n : Int)
      · have hne : (k == (n : Int)) = false := by simp; omega
        rw [if_pos hkn]
        go_wp2_with (go_at_call 93; refine (Is_errno _ _ _).mono ?_; rintro e w' ⟨rfl, rfl⟩)
        go_round
        case rel => exact ⟨n + 1, by omega, by omega, by go_num, by rw [if_pos (by omega)]⟩
        case measure => simp [intOf]; omega
      · rw [if_neg hkn]
        by_cases hke : k = (n : Int)
        · subst hke
          go_wp2_with (go_at_call 93; refine (Is_errno _ _ _).mono ?_; rintro e w' ⟨rfl, rfl⟩)
          go_round
          case rel => exact ⟨n + 1, by omega, by omega, by go_num, by rw [if_pos (by omega)]⟩
          case measure => simp [intOf]; omega
        · have hne : (k == (n : Int)) = false := by simpa using hke
          have hkn2 : ¬ k < (n : Int) + 1 := by omega
          clear hke
          go_wp2_with (go_at_call 93; refine (Is_errno _ _ _).mono ?_; rintro e w' ⟨rfl, rfl⟩)
          go_round
          case rel => exact ⟨n + 1, by omega, by omega, by go_num, by rw [if_neg (by omega)]⟩
          case measure => simp [intOf]; omega
    · obtain rfl : n = 25 := by omega
      rw [if_pos (by omega)]
      go_wp2_with (go_at_call 93; refine (Is_errno _ _ _).mono ?_; rintro e w' ⟨rfl, rfl⟩)
      go_ret
      exact ⟨rfl, rfl⟩

/-- lineagekit.Num of none. -/
theorem Num_nil (w : World) : Calls Tryd.prog 68 #[.nilIface] w fun e w' => e = .returned (.int .i64 0) ∧ w = w' := by
  go_enter Tryd.func68, Tryd.ntmps68
  go_wp2
  go_ret
  exact ⟨rfl, rfl⟩
end Go.Proofs.YtbidgpeeogoglaaDoor
/-
  errors.As at the target '*api.Fault': an error that is a number (it is no Fault); lineagekit.Plain of a number, and of none.
-/
namespace Go.Proofs.YtbidgpeeogoglaaDoor
set_option maxRecDepth 100000
open Go.RowKit Go.Extern.Stop Go.Stop Go.Extern

/-- The package-level variable errors.errorType as the program's text lays it. -/
def Laid (w : World) : Prop := w.cell? ⟨0, 0, none⟩ = some (.iface 156 (.agg #[.pointer (some ⟨1, 55, none⟩)]))
theorem Laid.pos {w : World} (h : Laid w) : 0 < w.heap.size := by
  rcases Nat.lt_or_ge 0 w.heap.size with h1 | h1
  · exact h1
  · unfold Laid at h; simp [World.cell?, Array.getElem?_eq_none h1] at h
theorem Laid.below {w w' : World} {B : Nat} (h : Laid w) (hb : Below B w w') (hB : 0 < B) : Laid w' := (hb.cell (p := ⟨0, 0, none⟩) hB).trans h

theorem valueOfP (t : Addr) (w : World) : (ReflectliteValue.unpack (.iface 118 (.pointer (some t)))).run Tryd.prog w
    = .ok (.agg #[.pointer (some ⟨1, 118, none⟩), .pointer (some ⟨w.heap.size, 0, none⟩), .int .u64 150]) (w.alloc (.cells #[.pointer (some t)] 118)) := by kernel_rfl
theorem typeP (a : Addr) (w : World) : (ReflectliteValue.methodAny (ReflectliteValue.valueError "reflectlite.Value.Type" 0) (fun t _ _ _ => ReflectliteType.toType t) #[.agg #[.pointer (some ⟨1, 118, none⟩), .pointer (some a), .int .u64 150]]).run Tryd.prog w
    = .ok (.iface 156 (.agg #[.pointer (some ⟨1, 118, none⟩)])) w := by kernel_rfl
theorem methodKind (h : Value) (w : World) : (Go.method 300 156 (.agg #[h]) "Kind").run Tryd.prog w = .ok (131, h) w := by kernel_rfl
theorem kindP (w : World) : ((ReflectliteType.abiMethod fun t => (fun a : Nat => Value.int IntKind.u8 (a : Int)) <$> Rtype.kind t) #[.pointer (some ⟨1, 118, none⟩)]).run Tryd.prog w = .ok (.int .u8 22) w := by kernel_rfl
theorem kindF (w : World) : ((ReflectliteType.abiMethod fun t => (fun a : Nat => Value.int IntKind.u8 (a : Int)) <$> Rtype.kind t) #[.pointer (some ⟨1, 115, none⟩)]).run Tryd.prog w = .ok (.int .u8 25) w := by kernel_rfl
theorem rlm (z : Sem Value) (f : TypeId → Addr → Nat → Nat → Sem Value) (v : Value) :
    ReflectliteValue.method z f #[v] = (do match ← ReflectliteValue.parts v with | none => z | some (t, a, fl) => f t a fl (fl % 32)) := rfl
theorem partsP (a : Addr) (w : World) : (ReflectliteValue.parts (.agg #[.pointer (some ⟨1, 118, none⟩), .pointer (some a), .int .u64 150])).run Tryd.prog w = .ok (some (118, a, 150)) w := by kernel_rfl
theorem isNilP (a p : Addr) (W : World) (ha : W.cell? a = some (.pointer (some p))) :
    (ReflectliteValue.method (ReflectliteValue.valueError "reflectlite.Value.IsNil" 0) ReflectliteValue.isNil #[.agg #[.pointer (some ⟨1, 118, none⟩), .pointer (some a), .int .u64 150]]).run Tryd.prog W = .ok (.bool false) W := by
  rw [rlm]
  simp only [Sem.run_bind, partsP, Result.andThen]
  simp [ReflectliteValue.isNil, loadVar, isAgg, underlying, Tryd.underlying118, ha, Result.andThen]
theorem methodElem (h : Value) (w : World) : (Go.method 300 156 (.agg #[h]) "Elem").run Tryd.prog w = .ok (143, .agg #[h]) w := by kernel_rfl
theorem methodImplements (h : Value) (w : World) : (Go.method 300 156 (.agg #[h]) "Implements").run Tryd.prog w = .ok (144, .agg #[h]) w := by kernel_rfl
theorem methodAssignableTo (h : Value) (w : World) : (Go.method 300 156 (.agg #[h]) "AssignableTo").run Tryd.prog w = .ok (141, .agg #[h]) w := by kernel_rfl
theorem elemP (w : World) : (ReflectliteType.method ReflectliteType.elem #[.agg #[.pointer (some ⟨1, 118, none⟩)]]).run Tryd.prog w = .ok (.iface 156 (.agg #[.pointer (some ⟨1, 115, none⟩)])) w := by kernel_rfl
theorem implementsF (w : World) : (ReflectliteType.relation "Implements" ReflectliteType.implements_ #[.agg #[.pointer (some ⟨1, 115, none⟩)], .iface 156 (.agg #[.pointer (some ⟨1, 55, none⟩)])]).run Tryd.prog w = .ok (.bool true) w := by kernel_rfl
theorem assignableE (w : World) : (ReflectliteType.relation "AssignableTo" ReflectliteType.assignableTo #[.agg #[.pointer (some ⟨1, 112, none⟩)], .iface 156 (.agg #[.pointer (some ⟨1, 115, none⟩)])]).run Tryd.prog w = .ok (.bool false) w := by kernel_rfl
theorem noAsE (v : Value) (xT : TypeId) (w : World) : (Instr.typeAssert (.iface 112 v) xT 160 true).run Tryd.prog w = .ok (.tuple #[.nilIface, .bool false]) w := run_typeAssert_lacksB Tryd.underlying160 (by kernel_rfl) (by kernel_rfl) v xT w

set_option maxHeartbeats 4000000 in
/-- errors.As of a number, at a Fault: it is none. -/
theorem as_miss (k : Int) (t : Addr) (w : World) (hg : Laid w) :
    Calls Tryd.prog 69 #[.iface 112 (.int .i64 k), .iface 118 (.pointer (some t))] w (RetB (.bool false) w) := by
  have h6 := @run_callFunc_extern Tryd.prog 94 _ (fun args => ReflectliteValue.unpack (args.getD 0 (.tuple #[]))) Tryd.func94 (by kernel_rfl) (by kernel_rfl) (by kernel_rfl) (by kernel_rfl)
  have h7 := @run_callFunc_extern Tryd.prog 95 _ (ReflectliteValue.methodAny (ReflectliteValue.valueError "reflectlite.Value.Type" 0) (fun t _ _ _ => ReflectliteType.toType t)) Tryd.func95 (by kernel_rfl) (by kernel_rfl) (by kernel_rfl) (by kernel_rfl)
  have h8 := @run_callFunc_extern Tryd.prog 96 _ (ReflectliteValue.method (ReflectliteValue.valueError "reflectlite.Value.IsNil" 0) ReflectliteValue.isNil) Tryd.func96 (by kernel_rfl) (by kernel_rfl) (by kernel_rfl) (by kernel_rfl)
  have h27 := @run_callFunc_extern Tryd.prog 131 _ (ReflectliteType.abiMethod fun t => do pure (.int .u8 (← Rtype.kind t))) Tryd.func131 (by kernel_rfl) (by kernel_rfl) (by kernel_rfl) (by kernel_rfl)
  have h37 := @run_callFunc_extern Tryd.prog 143 _ (ReflectliteType.method ReflectliteType.elem) Tryd.func143 (by kernel_rfl) (by kernel_rfl) (by kernel_rfl) (by kernel_rfl)
  have h38 := @run_callFunc_extern Tryd.prog 144 _ (ReflectliteType.relation "Implements" ReflectliteType.implements_) Tryd.func144 (by kernel_rfl) (by kernel_rfl) (by kernel_rfl) (by kernel_rfl)
  have h10 := @run_callFunc_extern Tryd.prog 111 _ ReflectliteType.typeOf Tryd.func111 (by kernel_rfl) (by kernel_rfl) (by kernel_rfl) (by kernel_rfl)
  have h35 := @run_callFunc_extern Tryd.prog 141 _ (ReflectliteType.relation "AssignableTo" ReflectliteType.assignableTo) Tryd.func141 (by kernel_rfl) (by kernel_rfl) (by kernel_rfl) (by kernel_rfl)
  have tO := isTypeOf
  have mA := methodAssignableTo
  have aE := assignableE
  have f6 := valueOfP
  have f7 := typeP
  have mK := methodKind
  have mE := methodElem
  have mI := methodImplements
  have kP := kindP
  have kF := kindF
  have eP := elemP
  have iF := implementsF
  have nA := noAsE
  have nU := noUnwrapE
  have nV := noUnwrapsE
  have hlt := hg.pos
  have n8 := isNilP ⟨w.heap.size, 0, none⟩ t ((w.alloc (.cells #[.pointer (some t)] 118)).alloc (.cells #[.pointer (some ⟨1, 118, none⟩), .pointer (some ⟨w.heap.size, 0, none⟩), .int .u64 150] 137)) (by simp)
  have hg2 : ((w.alloc (.cells #[.pointer (some t)] 118)).alloc (.cells #[.pointer (some ⟨1, 118, none⟩), .pointer (some ⟨w.heap.size, 0, none⟩), .int .u64 150] 137)).cell? ⟨0, 0, none⟩ = some (.iface 156 (.agg #[.pointer (some ⟨1, 55, none⟩)])) := by
    rw [World.cell?_alloc_lt _ _ ⟨0, 0, none⟩ (Nat.lt_of_lt_of_le hlt (by simp)), World.cell?_alloc_lt _ _ ⟨0, 0, none⟩ hlt]; exact hg
  go_enter Tryd.func69, Tryd.ntmps69
  go_wp2
  refine wp_loop_rounds 1 ?_
  rw [rounds_succ]
  go_wp2
  go_ret
  exact ⟨rfl, by go_grown⟩

/-- lineagekit.Plain of none. -/
theorem plain_nil (n : Int) (w : World) : Calls Tryd.prog 35 #[.nilIface, .int .i64 n] w (RetB (.bool (decide (n = 0))) w) := by
  by_cases hn : n = 0
  · subst hn
    go_enter Tryd.func35, Tryd.ntmps35
    go_wp2_with (go_at_call 68; refine (Num_nil _).mono ?_; rintro e w' ⟨rfl, rfl⟩)
    go_ret
    exact ⟨rfl, (Below.refl _ _).alloc (Nat.le_refl _) _⟩
  · have h0 : ((0 : Int) == n) = false := by simp; omega
    have hd : decide (n = 0) = false := by simpa using hn
    go_enter Tryd.func35, Tryd.ntmps35
    go_wp2_with (go_at_call 68; refine (Num_nil _).mono ?_; rintro e w' ⟨rfl, rfl⟩)
    go_ret
    exact ⟨by rw [hd]; rfl, (Below.refl _ _).alloc (Nat.le_refl _) _⟩
/-- lineagekit.Plain of a number. -/
theorem plain_errno (k n : Int) (h1 : 1 ≤ k) (h2 : k ≤ 24) (w : World) (hg : Laid w) : Calls Tryd.prog 35 #[.iface 112 (.int .i64 k), .int .i64 n] w (RetB (.bool (decide (n = k))) w) := by
  have HG := Lib.hid hg
  have hlt := hg.pos
  clear hg
  by_cases hn : n = k
  · subst hn
    have hd : (n == n) = true := by simp
    go_enter Tryd.func35, Tryd.ntmps35
    go_wp2_with (first
      | (go_at_call 68; refine (Num_errno _ h1 h2 _).mono ?_; rintro e w' ⟨rfl, rfl⟩)
      | (go_at_call 69; fail))
    refine (as_miss _ _ _ (HG.out.below ((Below.refl w.heap.size w).alloc (Nat.le_refl _) _) hlt)).mono ?_
    rintro e w1 ⟨rfl, hb⟩
    have hbel := ((Below.refl w.heap.size w).alloc (Nat.le_refl _) (.cells #[.int .i64 0, .int .i64 0] 115)).trans (hb.mono (by simp))
    go_wp2
    go_ret
    exact ⟨by simp, hbel⟩
  · have h0 : (k == n) = false := by simp; omega
    have hd : decide (n = k) = false := by simpa using hn
    go_enter Tryd.func35, Tryd.ntmps35
    go_wp2_with (go_at_call 68; refine (Num_errno _ h1 h2 _).mono ?_; rintro e w' ⟨rfl, rfl⟩)
    go_ret
    exact ⟨by rw [hd]; rfl, (Below.refl _ _).alloc (Nat.le_refl _) _⟩
/-- The error with this number; 0: none. -/
def errOf (k : Int) : Value := if k = 0 then .nilIface else errno k
theorem plain_same (k : Int) (h1 : 0 ≤ k) (h2 : k ≤ 24) (w : World) (hg : Laid w) : Calls Tryd.prog 35 #[errOf k, .int .i64 k] w (RetB (.bool true) w) := by
  unfold errOf
  by_cases h0 : k = 0
  · subst h0
    exact plain_nil 0 w
  · rw [if_neg h0]
    have h := plain_errno k k (by omega) h2 w hg
    have e : decide (k = k) = true := by simp
    rw [e] at h
    exact h
end Go.Proofs.YtbidgpeeogoglaaDoor
/-
  Errors with a place (api.Fault): errors.Is, errors.As, lineagekit.Num, Place, At.
-/
namespace Go.Proofs.YtbidgpeeogoglaaDoor
set_option maxRecDepth 100000
open Go.RowKit Go.Extern.Stop Go.Stop Go.Extern

def faultC (k n : Int) : Array Value := #[.int .i64 k, .int .i64 n]
theorem noIsF (v : Value) (xT : TypeId) (w : World) : (Instr.typeAssert (.iface 115 v) xT 168 true).run Tryd.prog w = .ok (.tuple #[.nilIface, .bool false]) w := run_typeAssert_lacksB Tryd.underlying168 (by kernel_rfl) (by kernel_rfl) v xT w
theorem noAsF (v : Value) (xT : TypeId) (w : World) : (Instr.typeAssert (.iface 115 v) xT 160 true).run Tryd.prog w = .ok (.tuple #[.nilIface, .bool false]) w := run_typeAssert_lacksB Tryd.underlying160 (by kernel_rfl) (by kernel_rfl) v xT w
theorem hasUnwrapF (v : Value) (w : World) : (Instr.typeAssert (.iface 115 v) 55 163 true).run Tryd.prog w = .ok (.tuple #[.iface 115 v, .bool true]) w := by kernel_rfl
theorem methodUnwrapF (v : Value) (w : World) : (Go.method 300 115 v "Unwrap").run Tryd.prog w = .ok (136, v) w := by kernel_rfl
theorem eql_fault (v : Value) (b : Int) (w : World) : (binOp .eql 55 (.iface 115 v) (.iface 112 (.int .i64 b))).run Tryd.prog w = .ok (.bool false) w := by
  kernel_rfl
set_option maxHeartbeats 1000000 in
theorem unwrap_fault (k n : Int) (w : World) : Calls Tryd.prog 136 #[.agg #[.int .i64 k, .int .i64 n]] w fun e w' => e = .returned (.iface 112 (.int .i64 k)) ∧ Below w.heap.size w w' := by
  go_enter Tryd.func136, Tryd.ntmps136
  go_wp2
  go_ret
  exact ⟨rfl, (Below.refl _ _).alloc (Nat.le_refl _) _⟩
set_option maxHeartbeats 1000000 in
/-- errors.is of an error with a place, at a number. -/
theorem is_fault (a n b : Int) (w : World) : Calls Tryd.prog 112 #[.iface 115 (.agg #[.int .i64 a, .int .i64 n]), .iface 112 (.int .i64 b), .bool true] w (RetB (.bool (a == b)) w) := by
  have nE := noIsE
  have uE := noUnwrapE
  have vE := noUnwrapsE
  have nF := noIsF
  have uF := hasUnwrapF
  have mF := methodUnwrapF
  have heq := fun w => eql_errno a b w
  have heqF := eql_fault
  by_cases hab : (a == b) = true
  · go_enter Tryd.func112, Tryd.ntmps112
    go_wp2
    refine wp_loop_rounds 2 ?_
    rw [rounds_succ]
    go_wp2_with (first | (go_at_call 136; fail))
    refine (unwrap_fault a n w).mono ?_
    rintro e w1 ⟨rfl, hb1⟩
    have HB1 := Lib.hid hb1
    clear hb1
    go_wp2
    rw [rounds_succ]
    go_wp2
    go_ret
    exact ⟨by rw [hab]; rfl, HB1.out⟩
  · have hab' : (a == b) = false := by simpa using hab
    clear hab
    go_enter Tryd.func112, Tryd.ntmps112
    go_wp2
    refine wp_loop_rounds 2 ?_
    rw [rounds_succ]
    go_wp2_with (first | (go_at_call 136; fail))
    refine (unwrap_fault a n w).mono ?_
    rintro e w1 ⟨rfl, hb1⟩
    have HB1 := Lib.hid hb1
    clear hb1
    go_wp2
    rw [rounds_succ]
    go_wp2
    go_ret
    exact ⟨by rw [hab']; rfl, HB1.out⟩
set_option maxHeartbeats 1000000 in
/-- errors.Is of an error with a place, at a number. -/
theorem Is_fault (a n b : Int) (w : World) : Calls Tryd.prog 93 #[.iface 115 (.agg #[.int .i64 a, .int .i64 n]), .iface 112 (.int .i64 b)] w (RetB (.bool (a == b)) w) := by
  have h8 := @run_callFunc_extern Tryd.prog 111 _ ReflectliteType.typeOf Tryd.func111 (by kernel_rfl) (by kernel_rfl) (by kernel_rfl) (by kernel_rfl)
  have h32 := @run_callFunc_extern Tryd.prog 142 _ compEntry Tryd.func142 (by kernel_rfl) (by kernel_rfl) (by kernel_rfl) (by kernel_rfl)
  have tT := isTypeOf
  have cT := isComparable
  have mR := isMethodComparable
  go_enter Tryd.func93, Tryd.ntmps93
  go_wp2_with (first | (go_at_call 112; fail))
  refine (is_fault a n b _).mono ?_
  rintro e w1 ⟨rfl, hb1⟩
  go_wp2
  go_ret
  exact ⟨rfl, hb1⟩
structure NumRelF (w : World) (k : Int) (f i : Value) (wr : World) : Prop where
  ex : ∃ n : Nat, 1 ≤ n ∧ n ≤ 25 ∧ i = .int .i64 n ∧ f = .int .i64 (if k < n then k else 0) ∧ Below w.heap.size w wr
set_option maxHeartbeats 2000000 in
/-- lineagekit.Num of an error with a place. -/
theorem Num_fault (k a : Int) (h1 : 1 ≤ k) (h2 : k ≤ 24) (w : World) : Calls Tryd.prog 68 #[.iface 115 (.agg #[.int .i64 k, .int .i64 a])] w (RetB (.int .i64 k) w) := by
  have hk0 : (k == 0) = false := by simp; omega
  go_enter Tryd.func68, Tryd.ntmps68
  go_wp2
  go_loopw [3, 4] (NumRelF w k) (fun _ i _ => 25 - (intOf i).toNat)
  case atStart => exact ⟨⟨1, by omega, by omega, rfl, by rw [if_neg (by omega)], Below.refl _ _⟩⟩
  case round =>
    obtain ⟨⟨n, hn1, hn2, rfl, rfl, hbel⟩⟩ := hrel
    have BEL := Lib.hid hbel
    have hsz := hbel.size
    clear hbel
    by_cases hle : n ≤ 24
    · by_cases hkn : k < (n : Int)
      · have hne : (k == (n : Int)) = false := by simp; omega
        rw [if_pos hkn]
        go_wp2_with (first | (go_at_call 93; fail))
        refine (Is_fault k a _ _).mono ?_
        rintro e w1 ⟨rfl, hb1⟩
        have B1 := Lib.hid (BEL.out.trans (hb1.mono hsz))
        clear hb1
        go_wp2
        go_roundw
        case rel => exact ⟨⟨n + 1, by omega, by omega, by go_num, by rw [if_pos (by omega)], B1.out⟩⟩
        case measure => simp [intOf]; omega
      · rw [if_neg hkn]
        by_cases hke : k = (n : Int)
        · subst hke
          have hee : ((n : Int) == (n : Int)) = true := by simp
          go_wp2_with (first | (go_at_call 93; fail))
          refine (Is_fault _ a _ _).mono ?_
          rintro e w1 ⟨rfl, hb1⟩
          have B1 := Lib.hid (BEL.out.trans (hb1.mono hsz))
          clear hb1
          go_wp2
          go_roundw
          case rel => exact ⟨⟨n + 1, by omega, by omega, by go_num, by rw [if_pos (by omega)], B1.out⟩⟩
          case measure => simp [intOf]; omega
        · have hne : (k == (n : Int)) = false := by simpa using hke
          have hkn2 : ¬ k < (n : Int) + 1 := by omega
          clear hke
          go_wp2_with (first | (go_at_call 93; fail))
          refine (Is_fault k a _ _).mono ?_
          rintro e w1 ⟨rfl, hb1⟩
          have B1 := Lib.hid (BEL.out.trans (hb1.mono hsz))
          clear hb1
          go_wp2
          go_roundw
          case rel => exact ⟨⟨n + 1, by omega, by omega, by go_num, by rw [if_neg (by omega)], B1.out⟩⟩
          case measure => simp [intOf]; omega
    · obtain rfl : n = 25 := by omega
      rw [if_pos (by omega)]
      go_wp2_with (first | (go_at_call 93; fail))
      refine (Is_fault k a _ _).mono ?_
      rintro e w1 ⟨rfl, hb1⟩
      have B1 := Lib.hid (BEL.out.trans (hb1.mono hsz))
      clear hb1
      go_wp2
      go_ret
      exact ⟨rfl, B1.out⟩
end Go.Proofs.YtbidgpeeogoglaaDoor
/-
  errors.As of an error with a place, at '*api.Fault'.
-/
namespace Go.Proofs.YtbidgpeeogoglaaDoor
set_option maxRecDepth 100000
open Go.RowKit Go.Extern.Stop Go.Stop Go.Extern

theorem valueOfF (k n : Int) (w : World) : (ReflectliteValue.unpack (.iface 115 (.agg #[.int .i64 k, .int .i64 n]))).run Tryd.prog w
    = .ok (.agg #[.pointer (some ⟨1, 115, none⟩), .pointer (some ⟨w.heap.size, 0, none⟩), .int .u64 153]) (w.alloc (.cells #[.int .i64 k, .int .i64 n] 115)) := by kernel_rfl
theorem typeOfF (v : Value) (w : World) : (ReflectliteType.typeOf #[.iface 115 v]).run Tryd.prog w = .ok (.iface 156 (.agg #[.pointer (some ⟨1, 115, none⟩)])) w := by kernel_rfl
theorem assignableF (w : World) : (ReflectliteType.relation "AssignableTo" ReflectliteType.assignableTo #[.agg #[.pointer (some ⟨1, 115, none⟩)], .iface 156 (.agg #[.pointer (some ⟨1, 115, none⟩)])]).run Tryd.prog w = .ok (.bool true) w := by kernel_rfl
theorem elemOfP (w : World) : (Rtype.elem? 118).run Tryd.prog w = .ok (some 115) w := by kernel_rfl
theorem mkF (p : Addr) (w : World) : (ReflectliteValue.mk 115 p ReflectliteValue.flagAddr).run Tryd.prog w = .ok (.agg #[.pointer (some ⟨1, 115, none⟩), .pointer (some p), .int .u64 409]) w := by kernel_rfl
theorem elemVP (a p : Addr) (W : World) (ha : W.cell? a = some (.pointer (some p))) :
    (ReflectliteValue.method (ReflectliteValue.valueError "reflectlite.Value.Elem" 0) ReflectliteValue.elem #[.agg #[.pointer (some ⟨1, 118, none⟩), .pointer (some a), .int .u64 150]]).run Tryd.prog W
      = .ok (.agg #[.pointer (some ⟨1, 115, none⟩), .pointer (some p), .int .u64 409]) W := by
  rw [rlm]
  simp only [Sem.run_bind, partsP, Result.andThen]
  simp [ReflectliteValue.elem, loadVar, isAgg, underlying, Tryd.underlying118, ha, Result.andThen, elemOfP, mkF]
theorem rls (v x : Value) : ReflectliteValue.set #[v, x] = (do
    let (some (dst, a, fl), some (src, b, _)) := (← ReflectliteValue.parts v, ← ReflectliteValue.parts x)
      | unsupported (.noEntry "extern/(internal/reflectlite.Value).Set.zeroValue")
    if fl / ReflectliteValue.flagAddr % 2 == 0 then unsupported (.noEntry "extern/(internal/reflectlite.Value).Set.unaddressable")
    let val ← loadVar src b
    if ← Rtype.directlyAssignable dst src then storeVar dst a val
    else if ← Rtype.implements dst src then
      if (← Rtype.kind src) == 20 then
        match val with
        | .nilIface => unsupported (.noEntry "extern/reflectlite: a nil value of one interface type handed on as a value of another")
        | _ => storeVar dst a val
      else storeVar dst a (.iface src val)
    else panicString ("reflectlite.Set: value of type " ++ (← Rtype.spelt src) ++ " is not assignable to type " ++ (← Rtype.spelt dst))
    pure (.tuple #[])) := rfl
theorem partsFa (a : Addr) (w : World) : (ReflectliteValue.parts (.agg #[.pointer (some ⟨1, 115, none⟩), .pointer (some a), .int .u64 409])).run Tryd.prog w = .ok (some (115, a, 409)) w := by kernel_rfl
theorem partsF (a : Addr) (w : World) : (ReflectliteValue.parts (.agg #[.pointer (some ⟨1, 115, none⟩), .pointer (some a), .int .u64 153])).run Tryd.prog w = .ok (some (115, a, 153)) w := by kernel_rfl
theorem directF (w : World) : (Rtype.directlyAssignable 115 115).run Tryd.prog w = .ok true w := by kernel_rfl
theorem infoF : (Tryd.prog.info? 115).map (·.size) = some 2 := by kernel_rfl
theorem splice_two (c0 c1 x y : Value) : splice #[c0, c1] 0 #[x, y] = #[x, y] := rfl
/-- (Value).Set: the Fault at block g gets what the Value's own variable holds. -/
theorem setF (g b : Nat) (k n : Int) (c0 c1 : Value) (W : World) (hb : RowAt W b 0 (faultC k n)) (hB : Blk W g 115 #[c0, c1]) :
    (ReflectliteValue.set #[.agg #[.pointer (some ⟨1, 115, none⟩), .pointer (some ⟨g, 0, none⟩), .int .u64 409], .agg #[.pointer (some ⟨1, 115, none⟩), .pointer (some ⟨b, 0, none⟩), .int .u64 153]]).run Tryd.prog W
      = .ok (.tuple #[]) (W.setRow g (faultC k n)) := by
  have h1 := run_loadVar_at (P := Tryd.prog) W Tryd.underlying115 rfl (cs := faultC k n) infoF hb
  have h2 := run_storeVar_at (P := Tryd.prog) W (ty := 115) (o := 0) (vs := faultC k n) infoF hB (by simp [faultC]) (by intro v hv; simp [faultC] at hv; rcases hv with rfl | rfl <;> rfl)
  have h3 : splice #[c0, c1] 0 (faultC k n) = faultC k n := rfl
  rw [h3] at h2
  rw [rls]
  simp only [Sem.run_bind, partsFa, partsF, Result.andThen]
  simp [ReflectliteValue.flagAddr, h1, Result.andThen, directF, h2]
set_option maxHeartbeats 4000000 in
/-- errors.As of an error with a place, at a Fault: it is set. -/
theorem as_hit (k n : Int) (g : Nat) (c0 c1 : Value) (w : World) (hg : Laid w) (hB : Blk w g 115 #[c0, c1]) (B : Nat) (hBg : B ≤ g) :
    Calls Tryd.prog 69 #[.iface 115 (.agg #[.int .i64 k, .int .i64 n]), .iface 118 (.pointer (some ⟨g, 0, none⟩))] w (fun e w' => e = .returned (.bool true) ∧ Blk w' g 115 (faultC k n) ∧ Below B w w') := by
  have h6 := @run_callFunc_extern Tryd.prog 94 _ (fun args => ReflectliteValue.unpack (args.getD 0 (.tuple #[]))) Tryd.func94 (by kernel_rfl) (by kernel_rfl) (by kernel_rfl) (by kernel_rfl)
  have h7 := @run_callFunc_extern Tryd.prog 95 _ (ReflectliteValue.methodAny (ReflectliteValue.valueError "reflectlite.Value.Type" 0) (fun t _ _ _ => ReflectliteType.toType t)) Tryd.func95 (by kernel_rfl) (by kernel_rfl) (by kernel_rfl) (by kernel_rfl)
  have h8 := @run_callFunc_extern Tryd.prog 96 _ (ReflectliteValue.method (ReflectliteValue.valueError "reflectlite.Value.IsNil" 0) ReflectliteValue.isNil) Tryd.func96 (by kernel_rfl) (by kernel_rfl) (by kernel_rfl) (by kernel_rfl)
  have h27 := @run_callFunc_extern Tryd.prog 131 _ (ReflectliteType.abiMethod fun t => do pure (.int .u8 (← Rtype.kind t))) Tryd.func131 (by kernel_rfl) (by kernel_rfl) (by kernel_rfl) (by kernel_rfl)
  have h37 := @run_callFunc_extern Tryd.prog 143 _ (ReflectliteType.method ReflectliteType.elem) Tryd.func143 (by kernel_rfl) (by kernel_rfl) (by kernel_rfl) (by kernel_rfl)
  have h38 := @run_callFunc_extern Tryd.prog 144 _ (ReflectliteType.relation "Implements" ReflectliteType.implements_) Tryd.func144 (by kernel_rfl) (by kernel_rfl) (by kernel_rfl) (by kernel_rfl)
  have h10 := @run_callFunc_extern Tryd.prog 111 _ ReflectliteType.typeOf Tryd.func111 (by kernel_rfl) (by kernel_rfl) (by kernel_rfl) (by kernel_rfl)
  have h35 := @run_callFunc_extern Tryd.prog 141 _ (ReflectliteType.relation "AssignableTo" ReflectliteType.assignableTo) Tryd.func141 (by kernel_rfl) (by kernel_rfl) (by kernel_rfl) (by kernel_rfl)
  have h11 := @run_callFunc_extern Tryd.prog 113 _ (ReflectliteValue.method (ReflectliteValue.valueError "reflectlite.Value.Elem" 0) ReflectliteValue.elem) Tryd.func113 (by kernel_rfl) (by kernel_rfl) (by kernel_rfl) (by kernel_rfl)
  have h12 := @run_callFunc_extern Tryd.prog 114 _ ReflectliteValue.set Tryd.func114 (by kernel_rfl) (by kernel_rfl) (by kernel_rfl) (by kernel_rfl)
  have tO := typeOfF
  have mA := methodAssignableTo
  have aE := assignableF
  have vF := valueOfF
  have f6 := valueOfP
  have f7 := typeP
  have mK := methodKind
  have mE := methodElem
  have mI := methodImplements
  have kP := kindP
  have kF := kindF
  have eP := elemP
  have iF := implementsF
  have hlt := hg.pos
  have hgl := hB.lt
  have n8 := isNilP ⟨w.heap.size, 0, none⟩ ⟨g, 0, none⟩ ((w.alloc (.cells #[.pointer (some ⟨g, 0, none⟩)] 118)).alloc (.cells #[.pointer (some ⟨1, 118, none⟩), .pointer (some ⟨w.heap.size, 0, none⟩), .int .u64 150] 137)) (by simp)
  have hg2 : ((w.alloc (.cells #[.pointer (some ⟨g, 0, none⟩)] 118)).alloc (.cells #[.pointer (some ⟨1, 118, none⟩), .pointer (some ⟨w.heap.size, 0, none⟩), .int .u64 150] 137)).cell? ⟨0, 0, none⟩ = some (.iface 156 (.agg #[.pointer (some ⟨1, 55, none⟩)])) := by
    rw [World.cell?_alloc_lt _ _ ⟨0, 0, none⟩ (Nat.lt_of_lt_of_le hlt (by simp)), World.cell?_alloc_lt _ _ ⟨0, 0, none⟩ hlt]; exact hg
  have el := elemVP ⟨w.heap.size, 0, none⟩ ⟨g, 0, none⟩ (((w.alloc (.cells #[.pointer (some ⟨g, 0, none⟩)] 118)).alloc (.cells #[.pointer (some ⟨1, 118, none⟩), .pointer (some ⟨w.heap.size, 0, none⟩), .int .u64 150] 137)).alloc (.cells #[.pointer (some ⟨1, 118, none⟩), .pointer (some ⟨w.heap.size, 0, none⟩), .int .u64 150] 137)) (by rw [World.cell?_alloc_lt _ _ ⟨w.heap.size, 0, none⟩ (by simp; omega)]; simp)
  have st := setF g (w.heap.size + 1 + 1 + 1) k n c0 c1 ((((w.alloc (.cells #[.pointer (some ⟨g, 0, none⟩)] 118)).alloc (.cells #[.pointer (some ⟨1, 118, none⟩), .pointer (some ⟨w.heap.size, 0, none⟩), .int .u64 150] 137)).alloc (.cells #[.pointer (some ⟨1, 118, none⟩), .pointer (some ⟨w.heap.size, 0, none⟩), .int .u64 150] 137)).alloc (.cells #[.int .i64 k, .int .i64 n] 115))
    (Blk.new_at (by simp)).row ((((hB.alloc _).alloc _).alloc _).alloc _)
  have hfin : Blk (((((w.alloc (.cells #[.pointer (some ⟨g, 0, none⟩)] 118)).alloc (.cells #[.pointer (some ⟨1, 118, none⟩), .pointer (some ⟨w.heap.size, 0, none⟩), .int .u64 150] 137)).alloc (.cells #[.pointer (some ⟨1, 118, none⟩), .pointer (some ⟨w.heap.size, 0, none⟩), .int .u64 150] 137)).alloc (.cells #[.int .i64 k, .int .i64 n] 115)).setRow g (faultC k n)) g 115 (faultC k n) := ((((hB.alloc _).alloc _).alloc _).alloc _).setRow_same _
  have HFIN := Lib.hid hfin
  have HBG := Lib.hid hBg
  have HGL := Lib.hid hgl
  clear hfin hBg hB
  go_enter Tryd.func69, Tryd.ntmps69
  go_wp2
  refine wp_loop_rounds 1 ?_
  rw [rounds_succ]
  go_wp2
  go_ret
  refine ⟨rfl, HFIN.out, ?_⟩
  have hb0 : B ≤ w.heap.size := Nat.le_trans HBG.out (Nat.le_of_lt HGL.out)
  exact bel_setRow (((((Below.refl B w).alloc hb0 _).alloc (by simp; omega) _).alloc (by simp; omega) _).alloc (by simp; omega) _) HBG.out _
end Go.Proofs.YtbidgpeeogoglaaDoor
/-
  lineagekit.Place, At: of none, of an error with a place.
-/
namespace Go.Proofs.YtbidgpeeogoglaaDoor
set_option maxRecDepth 100000
open Go.RowKit

set_option maxHeartbeats 1000000 in
theorem place_fault (k a : Int) (h1 : 1 ≤ k) (h2 : k ≤ 24) (w : World) (hg : Laid w) : Calls Tryd.prog 92 #[.iface 115 (.agg #[.int .i64 k, .int .i64 a])] w (RetB (.tuple #[.int .i64 a, .bool true]) w) := by
  have HG := Lib.hid hg
  have hlt := hg.pos
  clear hg
  have hd : (k == k) = true := by simp
  have B0 := Lib.hid (Blk.new w 115 #[.int .i64 0, .int .i64 0])
  have BEL0 := Lib.hid ((Below.refl w.heap.size w).alloc (Nat.le_refl _) (.cells #[.int .i64 0, .int .i64 0] 115))
  go_enter Tryd.func92, Tryd.ntmps92
  go_wp2_with (first | (go_at_call 69; fail))
  refine (as_hit k a w.heap.size _ _ _ (HG.out.below BEL0.out hlt) B0.out w.heap.size (Nat.le_refl _)).mono ?_
  rintro e w1 ⟨rfl, hB, hb⟩
  have c0 : w1.cell? ⟨w.heap.size, 0, none⟩ = some (.int .i64 k) := hB.cell 0
  have c1 : w1.cell? ⟨w.heap.size, 1, none⟩ = some (.int .i64 a) := hB.cell 1
  have BEL1 := Lib.hid (BEL0.out.trans hb)
  have s1 := BEL1.out.size
  clear hB hb B0 BEL0
  have HQ := Lib.hid (quiet_of (fun w => Num_fault k a h1 h2 w))
  have d0 := cell_regrown c0
  have d1 := cell_regrown c1
  go_wp2
  refine wp_region_quiet_below (by kernel_rfl) (by kernel_rfl) ?_
  repeat (first | go_big_quiet_skip | (go_big_quiet_want; go_big_quiet_op; first | go_big_quiet_on | go_big_quiet_call (with_reducible exact HQ.out _ _ _)))
  refine wpQuiet_nil ?_
  intro w2 hC
  have BEL2 := BEL1.out.trans ((below_class hC).mono s1)
  clear hC c0 c1 d0 d1
  go_wp2
  go_ret2
  exact ⟨rfl, BEL2⟩
set_option maxHeartbeats 1000000 in
theorem at_nil (p : Int) (w : World) : Calls Tryd.prog 66 #[.nilIface, .int .i64 0, .int .i64 p] w (RetB (.bool true) w) := by
  go_enter Tryd.func66, Tryd.ntmps66
  go_wp2
  go_ret
  exact ⟨rfl, Below.refl _ _⟩
set_option maxHeartbeats 1000000 in
theorem at_fault (k a : Int) (h1 : 1 ≤ k) (h2 : k ≤ 24) (w : World) (hg : Laid w) : Calls Tryd.prog 66 #[.iface 115 (.agg #[.int .i64 k, .int .i64 a]), .int .i64 k, .int .i64 a] w (RetB (.bool true) w) := by
  have HG := Lib.hid hg
  have hlt := hg.pos
  clear hg
  have hd : (k == k) = true := by simp
  have hda : (a == a) = true := by simp
  have hk0 : (k == 0) = false := by simp; omega
  go_enter Tryd.func66, Tryd.ntmps66
  go_wp2_with (first | (go_at_call 92; fail))
  refine (place_fault k a h1 h2 _ HG.out).mono ?_
  rintro e w1 ⟨rfl, hb1⟩
  have BEL1 := Lib.hid hb1
  have s1 := hb1.size
  clear hb1
  go_wp2_with (first | (go_at_call 68; fail))
  refine (Num_fault k a h1 h2 _).mono ?_
  rintro e w2 ⟨rfl, hb2⟩
  have BEL2 := BEL1.out.trans (hb2.mono s1)
  clear hb2
  go_wp2
  go_ret
  exact ⟨rfl, BEL2⟩
end Go.Proofs.YtbidgpeeogoglaaDoor
