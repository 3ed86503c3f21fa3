/-
  Merged texts: Errs, Plain, Fault, Fault2, Fault3.
-/
import Derived.Test.YtbidgpeeogoglaaGa
import Derived.LaidEql
import Derived.Stop.Asserts
import Derived.RowKitTokens
/-
  Errors by number: errors.Is between two errors that are numbers of package api, and lineagekit.Num of one.
-/
namespace Go.Proofs.Ytbidgpeeogoglaa
set_option maxRecDepth 100000
open Go.RowKit Go.Extern.Stop Go.Stop Go.Extern


theorem run_equalIn_errno (P : Program) (w : World) (d : Nat) {ti tn : TypeId} {ms : Array (String × TypeId)} {i : TypeInfo} {k : IntKind} (a b : Int)
    (hi : P.underlying ti = some (.interface ms)) (hn : P.underlying tn = some (.int k)) (hinfo : P.info? tn = some i) (hcomp : i.comparable = true) :
    (Op.equalIn (d + 2) ti (.iface tn (.int k a)) (.iface tn (.int k b))).run P w = .ok (a == b) w := by
  simp [Op.equalIn, run_underlying hi, run_underlying hn, typeInfo, hinfo, hcomp]
theorem errnoComp : (Try.prog.info? 73).map (·.comparable) = some true := by kernel_rfl
/-- Two errors that are numbers are one where the numbers are. -/
theorem eql_errno (a b : Int) (w : World) : (binOp .eql 32 (.iface 73 (.int .i64 a)) (.iface 73 (.int .i64 b))).run Try.prog w = .ok (.bool (a == b)) w := by
  obtain ⟨i, hi, hcmp⟩ := Option.map_eq_some_iff.1 errnoComp
  simp only [binOp]
  simp [Op.equal, Op.maxDepth, run_equalIn_errno Try.prog w 9998 a b Try.underlying32 Try.underlying73 hi hcmp]

/-- The model's entry for (rtype).Comparable. -/
def compEntry : Array Value → Sem Value := ReflectliteType.method fun t => do Rtype.noPackHeld "Comparable" t; pure (.bool (← typeInfo t).comparable)
theorem isComparable (w : World) : (compEntry #[.agg #[.pointer (some ⟨0, 73, none⟩)]]).run Try.prog w = .ok (.bool true) w := by kernel_rfl
/-- What Num has found when the numbers below n were asked. -/
def NumRel (k : Int) (f i : Value) : Prop := ∃ n : Nat, 1 ≤ n ∧ n ≤ 25 ∧ i = .int .i64 n ∧ f = .int .i64 (if k < n then k else 0)
end Go.Proofs.Ytbidgpeeogoglaa
/-
  errors.As at the target '*api.Fault': an error that is a number (it is no Fault); lineagekit.Plain of a number, and of none.
-/
namespace Go.Proofs.Ytbidgpeeogoglaa
set_option maxRecDepth 100000
open Go.RowKit Go.Extern.Stop Go.Stop Go.Extern

theorem kindF (w : World) : ((ReflectliteType.abiMethod fun t => (fun a : Nat => Value.int IntKind.u8 (a : Int)) <$> Rtype.kind t) #[.pointer (some ⟨0, 85, none⟩)]).run Try.prog w = .ok (.int .u8 25) w := by kernel_rfl
theorem rlm (z : Sem Value) (f : TypeId → Addr → Nat → Nat → Sem Value) (v : Value) :
    ReflectliteValue.method z f #[v] = (do match ← ReflectliteValue.parts v with | none => z | some (t, a, fl) => f t a fl (fl % 32)) := rfl
/-- The error with this number; 0: none. -/
def errOf (k : Int) : Value := if k = 0 then .nilIface else errno k
end Go.Proofs.Ytbidgpeeogoglaa
/-
  Errors with a place (api.Fault): errors.Is, errors.As, lineagekit.Num, Place, At.
-/
namespace Go.Proofs.Ytbidgpeeogoglaa
set_option maxRecDepth 100000
open Go.RowKit Go.Extern.Stop Go.Stop Go.Extern

def faultC (k n : Int) : Array Value := #[.int .i64 k, .int .i64 n]
theorem eql_fault (v : Value) (b : Int) (w : World) : (binOp .eql 32 (.iface 85 v) (.iface 73 (.int .i64 b))).run Try.prog w = .ok (.bool false) w := by
  kernel_rfl
structure NumRelF (w : World) (k : Int) (f i : Value) (wr : World) : Prop where
  ex : ∃ n : Nat, 1 ≤ n ∧ n ≤ 25 ∧ i = .int .i64 n ∧ f = .int .i64 (if k < n then k else 0) ∧ Below w.heap.size w wr
end Go.Proofs.Ytbidgpeeogoglaa
/-
  errors.As of an error with a place, at '*api.Fault'.
-/
namespace Go.Proofs.Ytbidgpeeogoglaa
set_option maxRecDepth 100000
open Go.RowKit Go.Extern.Stop Go.Stop Go.Extern

theorem valueOfF (k n : Int) (w : World) : (ReflectliteValue.unpack (.iface 85 (.agg #[.int .i64 k, .int .i64 n]))).run Try.prog w
    = .ok (.agg #[.pointer (some ⟨0, 85, none⟩), .pointer (some ⟨w.heap.size, 0, none⟩), .int .u64 153]) (w.alloc (.cells #[.int .i64 k, .int .i64 n] 85)) := by kernel_rfl
theorem mkF (p : Addr) (w : World) : (ReflectliteValue.mk 85 p ReflectliteValue.flagAddr).run Try.prog w = .ok (.agg #[.pointer (some ⟨0, 85, none⟩), .pointer (some p), .int .u64 409]) w := by kernel_rfl
theorem rls (v x : Value) : ReflectliteValue.set #[v, x] = (do
    let (some (dst, a, fl), some (src, b, _)) := (← ReflectliteValue.parts v, ← ReflectliteValue.parts x)
      | unsupported (.noEntry "extern/(internal/reflectlite.Value).Set.zeroValue")
    if fl / ReflectliteValue.flagAddr % 2 == 0 then unsupported (.noEntry "extern/(internal/reflectlite.Value).Set.unaddressable")
    let val ← loadVar src b
    if ← Rtype.directlyAssignable dst src then storeVar dst a val
    else if ← Rtype.implements dst src then
      if (← Rtype.kind src) == 20 then
        match val with
        | .nilIface => unsupported (.noEntry "extern/reflectlite: a nil value of one interface type handed on as a value of another")
        | _ => storeVar dst a val
      else storeVar dst a (.iface src val)
    else panicString ("reflectlite.Set: value of type " ++ (← Rtype.spelt src) ++ " is not assignable to type " ++ (← Rtype.spelt dst))
    pure (.tuple #[])) := rfl
theorem partsFa (a : Addr) (w : World) : (ReflectliteValue.parts (.agg #[.pointer (some ⟨0, 85, none⟩), .pointer (some a), .int .u64 409])).run Try.prog w = .ok (some (85, a, 409)) w := by kernel_rfl
theorem partsF (a : Addr) (w : World) : (ReflectliteValue.parts (.agg #[.pointer (some ⟨0, 85, none⟩), .pointer (some a), .int .u64 153])).run Try.prog w = .ok (some (85, a, 153)) w := by kernel_rfl
theorem directF (w : World) : (Rtype.directlyAssignable 85 85).run Try.prog w = .ok true w := by kernel_rfl
theorem infoF : (Try.prog.info? 85).map (·.size) = some 2 := by kernel_rfl
theorem splice_two (c0 c1 x y : Value) : splice #[c0, c1] 0 #[x, y] = #[x, y] := rfl
/-- (Value).Set: the Fault at block g gets what the Value's own variable holds. -/
theorem setF (g b : Nat) (k n : Int) (c0 c1 : Value) (W : World) (hb : RowAt W b 0 (faultC k n)) (hB : Blk W g 85 #[c0, c1]) :
    (ReflectliteValue.set #[.agg #[.pointer (some ⟨0, 85, none⟩), .pointer (some ⟨g, 0, none⟩), .int .u64 409], .agg #[.pointer (some ⟨0, 85, none⟩), .pointer (some ⟨b, 0, none⟩), .int .u64 153]]).run Try.prog W
      = .ok (.tuple #[]) (W.setRow g (faultC k n)) := by
  have h1 := run_loadVar_at (P := Try.prog) W Try.underlying85 rfl (cs := faultC k n) infoF hb
  have h2 := run_storeVar_at (P := Try.prog) W (ty := 85) (o := 0) (vs := faultC k n) infoF hB (by simp [faultC]) (by intro v hv; simp [faultC] at hv; rcases hv with rfl | rfl <;> rfl)
  have h3 : splice #[c0, c1] 0 (faultC k n) = faultC k n := rfl
  rw [h3] at h2
  rw [rls]
  simp only [Sem.run_bind, partsFa, partsF, Result.andThen]
  simp [ReflectliteValue.flagAddr, h1, Result.andThen, directF, h2]
end Go.Proofs.Ytbidgpeeogoglaa
/-
  lineagekit.Place, At: of none, of an error with a place.
-/
namespace Go.Proofs.Ytbidgpeeogoglaa
set_option maxRecDepth 100000
open Go.RowKit

end Go.Proofs.Ytbidgpeeogoglaa
