import Derived.Test.YtnofnolkdijocaaOpen

import Derived.Test.YtnofnolkdijocaaSess
namespace Go.Proofs.Ytnofnolkdijocaa
open Go.RowKit Go.Deep Go.ChangeShapes Go.WideShapes
section
variable {H : Type} {enc : TypeId × Value → H} {w : World} {base : Nat} {spare : Nat → Bool} {held : Bool}
theorem c3 : Try.prog.cellsOf 3 = 1 := by kernel_rfl
theorem c9 : Try.prog.cellsOf 9 = 1 := by kernel_rfl
theorem c24 : Try.prog.cellsOf 24 = 2 := by kernel_rfl
theorem c26 : Try.prog.cellsOf 26 = 1 := by kernel_rfl
theorem c28 : Try.prog.cellsOf 28 = 12 := by kernel_rfl
theorem open_link {m : Nat} {cs : List Value} {y : DataW H × List MemPlace} (h : DataW.trod enc Try.prog w base spare held m 24 cs = some y) : ∃ a b : Int, cs = [.int .i64 a, .int .i64 b] := by
  obtain ⟨hl, hf⟩ := open_fields Try.underlying24 h
  obtain ⟨c0, c1, rfl⟩ := list2 (hl.trans c24)
  obtain ⟨_, _, h0⟩ := hf 0 _ rfl
  obtain ⟨_, _, h1⟩ := hf 1 _ rfl
  obtain ⟨n0, e0, _⟩ := DataW.trod_int Try.underlying3 h0
  obtain ⟨n1, e1, _⟩ := DataW.trod_int Try.underlying3 h1
  simp [c3] at e0 e1
  exact ⟨n0, n1, by rw [e0, e1]⟩
theorem open_sess {m : Nat} {cs : List Value} {y : DataW H × List MemPlace} (h : DataW.trod enc Try.prog w base spare held m 28 cs = some y) : ∃ s : Sess, cs = s.cells.toList := by
  obtain ⟨hl, hf⟩ := open_fields Try.underlying28 h
  obtain ⟨a0, a1, a2, a3, a4, a5, a6, a7, a8, a9, a10, a11, rfl⟩ := list12 (hl.trans c28)
  obtain ⟨_, _, h0⟩ := hf 0 _ rfl
  obtain ⟨_, _, h1⟩ := hf 1 _ rfl
  obtain ⟨_, _, h2⟩ := hf 2 _ rfl
  obtain ⟨_, _, h3⟩ := hf 3 _ rfl
  obtain ⟨_, _, h4⟩ := hf 4 _ rfl
  obtain ⟨_, _, h5⟩ := hf 5 _ rfl
  obtain ⟨_, _, h6⟩ := hf 6 _ rfl
  obtain ⟨_, _, h7⟩ := hf 7 _ rfl
  obtain ⟨_, _, h8⟩ := hf 8 _ rfl
  obtain ⟨_, _, h9⟩ := hf 9 _ rfl
  obtain ⟨_, _, h10⟩ := hf 10 _ rfl
  obtain ⟨n0, e0, _⟩ := DataW.trod_int Try.underlying3 h0
  obtain ⟨n1, e1, _⟩ := DataW.trod_int Try.underlying3 h1
  obtain ⟨n2, n3, e2⟩ := open_link h2
  obtain ⟨n4, e4, _⟩ := DataW.trod_int Try.underlying3 h3
  obtain ⟨n5, e5, _⟩ := DataW.trod_string Try.underlying9 h4
  obtain ⟨n6, e6, _⟩ := DataW.trod_string Try.underlying9 h5
  obtain ⟨n7, e7, _⟩ := DataW.trod_int Try.underlying26 h6
  obtain ⟨n8, e8, _⟩ := DataW.trod_int Try.underlying3 h7
  obtain ⟨n9, e9, _⟩ := DataW.trod_int Try.underlying3 h8
  obtain ⟨n10, e10, _⟩ := DataW.trod_int Try.underlying3 h9
  obtain ⟨n11, e11, _⟩ := DataW.trod_int Try.underlying3 h10
  simp [c3, c9, c24, c26] at e0 e1 e2 e4 e5 e6 e7 e8 e9 e10 e11
  exact ⟨⟨n0, n1, n2, n3, n4, n5, n6, n7, n8, n9, n10, n11⟩, by simp [Sess.cells, *]⟩
end
end Go.Proofs.Ytnofnolkdijocaa
