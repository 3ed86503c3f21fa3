/-
  lineagelaw16.Act opened.
-/
import Derived.Test.YtdgdbcapojgnlaaDoorOpen
import Derived.Test.YtdgdbcapojgnlaaDoorGi
namespace Go.Proofs.YtdgdbcapojgnlaaDoor
set_option maxRecDepth 100000
open Go.RowKit Go.Deep Go.ChangeShapes Go.WideShapes
section
variable {H : Type} {enc : TypeId × Value → H} {w : World} {base : Nat} {spare : Nat → Bool} {held : Bool}
theorem c16_int : Tryd.prog.cellsOf 3 = 1 := by kernel_rfl
theorem c_act16 : Tryd.prog.cellsOf 53 = 4 := by kernel_rfl
theorem list4_ {α : Type} {l : List α} (h : l.length = 4) : ∃ a b c d, l = [a, b, c, d] := by
  match l, h with
  | [a, b, c, d], _ => exact ⟨a, b, c, d, rfl⟩
theorem open_act16 {m : Nat} {cs : List Value} {y : DataW H × List MemPlace} (h : DataW.trod enc Tryd.prog w base spare held m 53 cs = some y) : ∃ x : Act16, cs = x.cells.toList := by
  obtain ⟨hl, hf⟩ := open_fields Tryd.underlying53 h
  obtain ⟨c0, c1, c2, c3, rfl⟩ := list4_ (hl.trans c_act16)
  obtain ⟨_, _, h0⟩ := hf 0 _ rfl
  obtain ⟨_, _, h1⟩ := hf 1 _ rfl
  obtain ⟨_, _, h2⟩ := hf 2 _ rfl
  obtain ⟨_, _, h3⟩ := hf 3 _ rfl
  obtain ⟨n0, e0, _⟩ := DataW.trod_int Tryd.underlying3 h0
  obtain ⟨n1, e1, _⟩ := DataW.trod_int Tryd.underlying3 h1
  obtain ⟨n2, e2, _⟩ := DataW.trod_int Tryd.underlying3 h2
  obtain ⟨n3, e3, _⟩ := DataW.trod_int Tryd.underlying3 h3
  simp [c16_int] at e0 e1 e2 e3
  exact ⟨⟨n0, n1, n2, n3⟩, by simp [Act16.cells, e0, e1, e2, e3]⟩
end
end Go.Proofs.YtdgdbcapojgnlaaDoor
