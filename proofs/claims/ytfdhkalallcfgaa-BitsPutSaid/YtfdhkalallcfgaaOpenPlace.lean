/-
  The argument 'Place' opened.
-/
import Derived.Test.YtfdhkalallcfgaaOpen
import Derived.Test.YtfdhkalallcfgaaOf
namespace Go.Proofs.Ytfdhkalallcfgaa
open Go.RowKit Go.Deep Go.ChangeShapes Go.WideShapes
section
variable {H : Type} {enc : TypeId × Value → H} {w : World} {base : Nat} {spare : Nat → Bool} {held : Bool}
theorem open_place {m : Nat} {cs : List Value} {y : DataW H × List MemPlace} (h : DataW.trod enc Try.prog w base spare held m 29 cs = some y) : ∃ (a : Int) (b : Bool), cs = [.int .i64 a, .bool b] := by
  have c3 : Try.prog.cellsOf 3 = 1 := by kernel_rfl
  have c4 : Try.prog.cellsOf 4 = 1 := by kernel_rfl
  have c2 : Try.prog.cellsOf 29 = 2 := by kernel_rfl
  obtain ⟨hl, hf⟩ := open_fields Try.underlying29 h
  obtain ⟨c0, c1, rfl⟩ := list2 (hl.trans c2)
  obtain ⟨_, _, h0⟩ := hf 0 _ rfl
  obtain ⟨_, _, h1⟩ := hf 1 _ rfl
  obtain ⟨n0, e0, _⟩ := DataW.trod_int Try.underlying3 h0
  obtain ⟨n1, e1, _⟩ := DataW.trod_bool Try.underlying4 h1
  simp [c3, c4] at e0 e1
  exact ⟨n0, n1, by rw [e0, e1]⟩
end
end Go.Proofs.Ytfdhkalallcfgaa
