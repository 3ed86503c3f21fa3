/-
  bits.Within and the document's.
-/
import Derived.Test.YthoibafhbacfiaaProg
import Derived.Test.YthoibafhbacfiaaMem
import Derived.Test.YthoibafhbacfiaaWord
namespace Go.Proofs.Ythoibafhbacfiaa
set_option maxRecDepth 100000
open Go.RowKit

/-- A word's bit. (A plain def: so that no rule of simp turns it.) -/
def hb (x : BitVec 64) (i : Nat) : Bool := x.getLsbD i
/-- All of x is in y. -/
def inB (x y : BitVec 64) : Bool := x &&& ~~~y == 0#64
def InRel (w : World) (x y : BitVec 64) (i : Value) (wr : World) : Prop := w = wr ∧ ∃ k : Nat, k ≤ 64 ∧ i = .int .i64 k ∧ ∀ j, j < k → hb x j = true → hb y j = true
theorem inB_all {x y : BitVec 64} (h : ∀ j, j < 64 → hb x j = true → hb y j = true) : inB x y = true := by
  have : x &&& ~~~y = 0#64 := by
    apply BitVec.eq_of_getLsbD_eq
    intro j hj
    have := h j hj
    simp only [hb] at this
    cases h1 : x.getLsbD j
    · simp [h1]
    · simp [h1, this h1]
  simp [inB, this]
theorem inB_not {x y : BitVec 64} {j : Nat} (hj : j < 64) (h1 : hb x j = true) (h2 : hb y j = false) : inB x y = false := by
  have : x &&& ~~~y ≠ 0#64 := fun e => by
    have := congrArg (fun v => v.getLsbD j) e
    simp only [hb] at h1 h2
    simp [h1, hj] at this
    rw [BitVec.getLsbD_eq_getElem hj, this] at h2
    cases h2
  simp [inB, this]
theorem within_any (x y : BitVec 64) (w : World) : Calls Try.prog 25 #[.int .u64 (wd x), .int .u64 (wd y)] w (RetSame (.bool (inB x y)) w) := by
  go_enter Try.func25, Try.ntmps25
  go_wp2
  go_ret
  exact ⟨rfl, rfl⟩
end Go.Proofs.Ythoibafhbacfiaa
