/-
  bits.Within and the document's.
-/
import Derived.Test.YthoibafhbacfiaaDoorProg
import Derived.Test.YthoibafhbacfiaaDoorMem
import Derived.Test.YthoibafhbacfiaaDoorWord
namespace Go.Proofs.YthoibafhbacfiaaDoor
set_option maxRecDepth 100000
open Go.RowKit

/-- A word's bit. (A plain def: so that no rule of simp turns it.) -/
def hb (x : BitVec 64) (i : Nat) : Bool := x.getLsbD i
/-- All of x is in y. -/
def inB (x y : BitVec 64) : Bool := x &&& ~~~y == 0#64
def InRel (w : World) (x y : BitVec 64) (i : Value) (wr : World) : Prop := w = wr ∧ ∃ k : Nat, k ≤ 64 ∧ i = .int .i64 k ∧ ∀ j, j < k → hb x j = true → hb y j = true
theorem inB_all {x y : BitVec 64} (h : ∀ j, j < 64 → hb x j = true → hb y j = true) : inB x y = true := by
  have : x &&& ~~~y = 0#64 := by
    apply BitVec.eq_of_getLsbD_eq
    intro j hj
    have := h j hj
    simp only [hb] at this
    cases h1 : x.getLsbD j
    · simp [h1]
    · simp [h1, this h1]
  simp [inB, this]
theorem inB_not {x y : BitVec 64} {j : Nat} (hj : j < 64) (h1 : hb x j = true) (h2 : hb y j = false) : inB x y = false := by
  have : x &&& ~~~y ≠ 0#64 := fun e => by
    have := congrArg (fun v => v.getLsbD j) e
    simp only [hb] at h1 h2
    simp [h1, hj] at this
    rw [BitVec.getLsbD_eq_getElem hj, this] at h2
    cases h2
  simp [inB, this]
theorem within_any (x y : BitVec 64) (w : World) : Calls Tryd.prog 52 #[.int .u64 (wd x), .int .u64 (wd y)] w (RetSame (.bool (inB x y)) w) := by
  go_enter Tryd.func52, Tryd.ntmps52
  go_wp2
  go_ret
  exact ⟨rfl, rfl⟩
theorem rhas_nat (x : BitVec 64) (i : Nat) (hi : i < 64) (w : World) : Calls Tryd.prog 53 #[.int .u64 (wd x), .int .i64 i] w (RetSame (.bool (hb x i)) w) := by
  have e : (x >>> i &&& 1#64 == 1#64) = hb x i := bit_shr x i
  go_enter Tryd.func53, Tryd.ntmps53
  go_wp2
  go_ret
  exact ⟨rfl, rfl⟩
set_option maxHeartbeats 1000000 in
theorem rwithin_any (x y : BitVec 64) (w : World) : Calls Tryd.prog 35 #[.int .u64 (wd x), .int .u64 (wd y)] w (RetSame (.bool (inB x y)) w) := by
  go_enter Tryd.func35, Tryd.ntmps35
  go_wp2
  go_loopw [5] (InRel w x y) (fun i _ => 64 - (intOf i).toNat)
  case atStart => exact ⟨rfl, 0, by omega, rfl, fun j hj => absurd hj (by omega)⟩
  case round =>
    obtain ⟨rfl, k, hk, rfl, hin⟩ := hrel
    have HI := Lib.hid hin
    clear hin
    by_cases hlt : k < 64
    · cases hx : hb x k <;> cases hy : hb y k
      case true.false =>
        have hn := inB_not hlt hx hy
        go_wp2_with (go_at_call 53; refine (rhas_nat _ k hlt _).mono ?_; rintro e w' ⟨rfl, rfl⟩)
        go_ret
        exact ⟨by rw [hn]; rfl, rfl⟩
      all_goals
        go_wp2_with (go_at_call 53; refine (rhas_nat _ k hlt _).mono ?_; rintro e w' ⟨rfl, rfl⟩)
        go_roundw
        case rel =>
          refine ⟨rfl, k + 1, by omega, by go_num, fun j hj h => ?_⟩
          by_cases e : j = k
          · subst e; simp_all
          · exact HI.out j (by omega) h
        case measure => simp [intOf]; omega
    · have hk' : k = 64 := by omega
      subst hk'
      have ha := inB_all HI.out
      clear hk hlt
      go_wp2
      go_ret
      exact ⟨by rw [ha]; rfl, rfl⟩
end Go.Proofs.YthoibafhbacfiaaDoor
