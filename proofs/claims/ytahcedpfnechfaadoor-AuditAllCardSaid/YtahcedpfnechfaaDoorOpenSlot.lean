/-
  api.Slot (and all within) opened.
-/
import Derived.Test.YtahcedpfnechfaaDoorOpen
import Derived.Test.YtahcedpfnechfaaDoorSlot
namespace Go.Proofs.YtahcedpfnechfaaDoor
set_option maxRecDepth 100000
open Go.RowKit Go.Deep Go.ChangeShapes Go.WideShapes
theorem split2 {α : Type} {l : List α} {n : Nat} (h : l.length = n + 2) : ∃ a b r, l = a :: b :: r ∧ r.length = n := by
  match l, h with
  | a :: b :: r, h => exact ⟨a, b, r, rfl, by simpa using h⟩
section
variable {H : Type} {enc : TypeId × Value → H} {w : World} {base : Nat} {spare : Nat → Bool} {held : Bool}
theorem c_int : Tryd.prog.cellsOf 3 = 1 := by kernel_rfl
theorem c_bool : Tryd.prog.cellsOf 4 = 1 := by kernel_rfl
theorem c_string : Tryd.prog.cellsOf 9 = 1 := by kernel_rfl
theorem c_set : Tryd.prog.cellsOf 45 = 1 := by kernel_rfl
theorem c_link : Tryd.prog.cellsOf 43 = 2 := by kernel_rfl
theorem c_sess : Tryd.prog.cellsOf 47 = 12 := by kernel_rfl
theorem c_slot : Tryd.prog.cellsOf 49 = 17 := by kernel_rfl
theorem open_link {m : Nat} {cs : List Value} {y : DataW H × List MemPlace} (h : DataW.trod enc Tryd.prog w base spare held m 43 cs = some y) : ∃ a b : Int, cs = [.int .i64 a, .int .i64 b] := by
  obtain ⟨hl, hf⟩ := open_fields Tryd.underlying43 h
  obtain ⟨c0, c1, rfl⟩ := list2 (hl.trans c_link)
  obtain ⟨_, _, h0⟩ := hf 0 _ rfl
  obtain ⟨_, _, h1⟩ := hf 1 _ rfl
  obtain ⟨n0, e0, _⟩ := DataW.trod_int Tryd.underlying3 h0
  obtain ⟨n1, e1, _⟩ := DataW.trod_int Tryd.underlying3 h1
  simp [c_int] at e0 e1
  exact ⟨n0, n1, by rw [e0, e1]⟩
theorem open_sess {m : Nat} {cs : List Value} {y : DataW H × List MemPlace} (h : DataW.trod enc Tryd.prog w base spare held m 47 cs = some y) :
    ∃ (n0 n1 n2 n3 n4 : Int) (s5 s6 : ByteArray) (n7 n8 n9 n10 n11 : Int), cs = [.int .i64 n0, .int .i64 n1, .int .i64 n2, .int .i64 n3, .int .i64 n4, .string s5, .string s6, .int .u64 n7, .int .i64 n8, .int .i64 n9, .int .i64 n10, .int .i64 n11] := by
  obtain ⟨hl, hf⟩ := open_fields Tryd.underlying47 h
  obtain ⟨a0, a1, a2, a3, a4, a5, a6, a7, a8, a9, a10, a11, rfl⟩ := list12 (hl.trans c_sess)
  obtain ⟨_, _, h0⟩ := hf 0 _ rfl
  obtain ⟨_, _, h1⟩ := hf 1 _ rfl
  obtain ⟨_, _, h2⟩ := hf 2 _ rfl
  obtain ⟨_, _, h3⟩ := hf 3 _ rfl
  obtain ⟨_, _, h4⟩ := hf 4 _ rfl
  obtain ⟨_, _, h5⟩ := hf 5 _ rfl
  obtain ⟨_, _, h6⟩ := hf 6 _ rfl
  obtain ⟨_, _, h7⟩ := hf 7 _ rfl
  obtain ⟨_, _, h8⟩ := hf 8 _ rfl
  obtain ⟨_, _, h9⟩ := hf 9 _ rfl
  obtain ⟨_, _, h10⟩ := hf 10 _ rfl
  obtain ⟨n0, e0, _⟩ := DataW.trod_int Tryd.underlying3 h0
  obtain ⟨n1, e1, _⟩ := DataW.trod_int Tryd.underlying3 h1
  obtain ⟨n2, n3, e2⟩ := open_link h2
  obtain ⟨n4, e4, _⟩ := DataW.trod_int Tryd.underlying3 h3
  obtain ⟨n5, e5, _⟩ := DataW.trod_string Tryd.underlying9 h4
  obtain ⟨n6, e6, _⟩ := DataW.trod_string Tryd.underlying9 h5
  obtain ⟨n7, e7, _⟩ := DataW.trod_int Tryd.underlying45 h6
  obtain ⟨n8, e8, _⟩ := DataW.trod_int Tryd.underlying3 h7
  obtain ⟨n9, e9, _⟩ := DataW.trod_int Tryd.underlying3 h8
  obtain ⟨n10, e10, _⟩ := DataW.trod_int Tryd.underlying3 h9
  obtain ⟨n11, e11, _⟩ := DataW.trod_int Tryd.underlying3 h10
  simp [c_int, c_string, c_link, c_set] at e0 e1 e2 e4 e5 e6 e7 e8 e9 e10 e11
  exact ⟨n0, n1, n2, n3, n4, n5, n6, n7, n8, n9, n10, n11, by simp [*]⟩
theorem list17 {α : Type} {l : List α} (h : l.length = 17) : ∃ a b c d e r, l = a :: b :: c :: d :: e :: r ∧ r.length = 12 := by
  obtain ⟨a, b, r, e1, h1⟩ := split2 (n := 15) h
  obtain ⟨c, d, r2, e2, h2⟩ := split2 (n := 13) h1
  subst e1 e2
  match r2, h2 with
  | e :: r, h => exact ⟨a, b, c, d, e, r, rfl, by simpa using h⟩
theorem open_slot {m : Nat} {cs : List Value} {y : DataW H × List MemPlace} (h : DataW.trod enc Tryd.prog w base spare held m 49 cs = some y) : ∃ s : SlotV, cs = s.cells.toList := by
  obtain ⟨hl, hf⟩ := open_fields Tryd.underlying49 h
  obtain ⟨c0, c1, c2, c3, c4, r, rfl, hr⟩ := list17 (hl.trans c_slot)
  obtain ⟨_, _, h0⟩ := hf 0 _ rfl
  obtain ⟨_, _, h1⟩ := hf 1 _ rfl
  obtain ⟨_, _, h2⟩ := hf 2 _ rfl
  obtain ⟨_, _, h3⟩ := hf 3 _ rfl
  obtain ⟨_, _, h4⟩ := hf 4 _ rfl
  obtain ⟨_, _, h5⟩ := hf 5 _ rfl
  obtain ⟨b0, e0, _⟩ := DataW.trod_bool Tryd.underlying4 h0
  obtain ⟨b1, e1, _⟩ := DataW.trod_bool Tryd.underlying4 h1
  obtain ⟨k2, e2, _⟩ := DataW.trod_int Tryd.underlying3 h2
  obtain ⟨k3, e3, _⟩ := DataW.trod_int Tryd.underlying3 h3
  obtain ⟨k4, e4, _⟩ := DataW.trod_int Tryd.underlying3 h4
  obtain ⟨n0, n1, n2, n3, n4, n5, n6, n7, n8, n9, n10, n11, e5⟩ := open_sess h5
  simp [c_int, c_bool, c_sess] at e0 e1 e2 e3 e4 e5
  rw [List.take_of_length_le (by omega)] at e5
  exact ⟨⟨b0, b1, k2, k3, k4, n0, n1, n2, n3, n4, n5, n6, n7, n8, n9, n10, n11⟩, by rw [e0, e1, e2, e3, e4, e5]; rfl⟩
end
end Go.Proofs.YtahcedpfnechfaaDoor
