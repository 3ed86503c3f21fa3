/-
  An argument of bytes opened.
-/
import Derived.Test.YtclcmdpampimkaaDoorOpen
import Derived.Test.YtclcmdpampimkaaDoorTagSums
namespace Go.Proofs.YtclcmdpampimkaaDoor
set_option maxRecDepth 100000
open Go.RowKit Go.Deep Go.ChangeShapes Go.WideShapes
section
variable {H : Type} {enc : TypeId × Value → H} {w : World} {base : Nat} {spare : Nat → Bool} {held : Bool}
theorem open_u8 {m : Nat} {cs : List Value} {y : DataW H × List MemPlace} (h : DataW.trod enc Tryd.prog w base spare held m 5 cs = some y) : ∃ x : UInt8, cs = (u8c x).toList := by
  obtain ⟨n, e, _, hw⟩ := DataW.trod_int Tryd.underlying5 h
  have h1 : IntKind.u8.min = 0 := by decide
  have h2 : IntKind.u8.max = 255 := by decide
  simp [Lit.wf, h1, h2] at hw
  refine ⟨UInt8.ofNat n.toNat, ?_⟩
  rw [e]
  unfold u8c
  rw [UInt8.toNat_ofNat', Nat.mod_eq_of_lt (by omega)]
  show _ = [Value.int .u8 ((n.toNat : Nat) : Int)]
  rw [Int.toNat_of_nonneg (by omega)]
theorem okWide_cap {P : Program} {w : World} {r : Reach} {t e : TypeId} {a : Option Addr} {n c : Nat} (ht : P.underlying t = some (.slice e)) (h : Value.okWide P w r base t (.slice a n c)) : c ≤ 9223372036854775807 := by
  have hm : IntKind.i64.max = 9223372036854775807 := by decide
  simp only [Value.okWide, ht, Cell.okWide] at h
  cases a with
  | none => cases n <;> cases c <;> simp_all [Cell.ok]
  | some a => simp_all [Cell.ok]; omega
end
end Go.Proofs.YtclcmdpampimkaaDoor
