/-
  Package lineageref02: Put.
-/
import Derived.Test.YtfdhkalallcfgaaDoorOf
namespace Go.Proofs.YtfdhkalallcfgaaDoor
set_option maxRecDepth 100000
open Go.RowKit

def rputE (i : Int) : Value := .int .i64 (if inZ i then 0 else 1)
def rputV (x : BitVec 64) (i : Int) (on : Bool) : Value := .tuple #[.int .u64 (wd (putZ x i on)), rputE i]
theorem rput2_any (x : BitVec 64) (i : Int) (on : Bool) (w : World) : Calls Tryd.prog 22 #[.int .u64 (wd x), .int .i64 i, .bool on] w (RetSame (rputV x i on) w) := by
  rcases z_cases i with h | h | ⟨n, hn, rfl⟩
  · have e : inZ i = false := by simp [inZ]; omega
    go_enter Tryd.func22, Tryd.ntmps22
    go_wp2
    go_ret2
    exact ⟨by simp [rputV, putZ, rputE, e, bErr, wd_zero], rfl⟩
  · have e : inZ i = false := by simp [inZ]; omega
    have h0 : ¬ i < 0 := by omega
    go_enter Tryd.func22, Tryd.ntmps22
    go_wp2
    go_ret2
    exact ⟨by simp [rputV, putZ, rputE, e, bErr, wd_zero], rfl⟩
  · have e := inZ_nat hn
    have h0 : ¬ (n : Int) < 0 := by omega
    have h1 : ¬ (63 : Int) < n := by omega
    have h64 : (n : Int) < 64 := by omega
    cases on
    · go_enter Tryd.func22, Tryd.ntmps22
      go_wp2
      go_ret2
      exact ⟨by simp [rputV, putZ, putB, rputE, e], rfl⟩
    · go_enter Tryd.func22, Tryd.ntmps22
      go_wp2
      go_ret2
      exact ⟨by simp [rputV, putZ, putB, rputE, e], rfl⟩
end Go.Proofs.YtfdhkalallcfgaaDoor
