/-
  The argument 'Token' opened.
-/
import Derived.Test.YtjhfidccpaidmaaDoorOpen
import Derived.Test.YtjhfidccpaidmaaDoorPrint
namespace Go.Proofs.YtjhfidccpaidmaaDoor
set_option maxRecDepth 100000
open Go.RowKit Go.Deep Go.ChangeShapes Go.WideShapes
section
variable {H : Type} {enc : TypeId × Value → H} {w : World} {base : Nat} {spare : Nat → Bool} {held : Bool}
theorem open_tok {m : Nat} {cs : List Value} {y : DataW H × List MemPlace} (h : DataW.trod enc Tryd.prog w base spare held m 24 cs = some y) : ∃ (t : Tok), cs = [.int .i64 t.slot, .int .i64 t.birth, .int .u64 (wd t.tag)] := by
  have c3 : Tryd.prog.cellsOf 3 = 1 := by kernel_rfl
  have c4 : Tryd.prog.cellsOf 22 = 1 := by kernel_rfl
  have c2 : Tryd.prog.cellsOf 24 = 3 := by kernel_rfl
  obtain ⟨hl, hf⟩ := open_fields Tryd.underlying24 h
  obtain ⟨c0, c1, c2, rfl⟩ := list3 (hl.trans c2)
  obtain ⟨_, _, h0⟩ := hf 0 _ rfl
  obtain ⟨_, _, h1⟩ := hf 1 _ rfl
  obtain ⟨_, _, h2⟩ := hf 2 _ rfl
  obtain ⟨n0, e0, _⟩ := DataW.trod_int Tryd.underlying3 h0
  obtain ⟨n1, e1, _⟩ := DataW.trod_int Tryd.underlying3 h1
  obtain ⟨n2, e2, _, w2⟩ := DataW.trod_int Tryd.underlying22 h2
  obtain ⟨x, rfl⟩ := word_wf w2
  simp [c3, c4] at e0 e1 e2
  exact ⟨⟨n0, n1, x⟩, by rw [e0, e1, e2]⟩
end
end Go.Proofs.YtjhfidccpaidmaaDoor
