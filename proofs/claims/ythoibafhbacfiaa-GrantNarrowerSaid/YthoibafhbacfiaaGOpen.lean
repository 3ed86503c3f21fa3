/-
  A session, a request, a place of chapter 22's laws opened.
-/
import Derived.Test.YthoibafhbacfiaaOpen
import Derived.Test.YthoibafhbacfiaaGSess
namespace Go.Proofs.Ythoibafhbacfiaa
set_option maxRecDepth 100000
open Go.RowKit Go.Deep Go.ChangeShapes Go.WideShapes
section
variable {H : Type} {enc : TypeId × Value → H} {w : World} {base : Nat} {spare : Nat → Bool} {held : Bool}
theorem c_int : Try.prog.cellsOf 3 = 1 := by kernel_rfl
theorem c_bool : Try.prog.cellsOf 4 = 1 := by kernel_rfl
theorem c_string : Try.prog.cellsOf 9 = 1 := by kernel_rfl
theorem c_set : Try.prog.cellsOf 25 = 1 := by kernel_rfl
theorem c_link : Try.prog.cellsOf 23 = 2 := by kernel_rfl
theorem c_sess : Try.prog.cellsOf 27 = 12 := by kernel_rfl
theorem c_req : Try.prog.cellsOf 29 = 5 := by kernel_rfl
theorem c_there : Try.prog.cellsOf 31 = 3 := by kernel_rfl
theorem open_link {m : Nat} {cs : List Value} {y : DataW H × List MemPlace} (h : DataW.trod enc Try.prog w base spare held m 23 cs = some y) : ∃ a b : Int, cs = [.int .i64 a, .int .i64 b] := by
  obtain ⟨hl, hf⟩ := open_fields Try.underlying23 h
  obtain ⟨c0, c1, rfl⟩ := list2 (hl.trans c_link)
  obtain ⟨_, _, h0⟩ := hf 0 _ rfl
  obtain ⟨_, _, h1⟩ := hf 1 _ rfl
  obtain ⟨n0, e0, _⟩ := DataW.trod_int Try.underlying3 h0
  obtain ⟨n1, e1, _⟩ := DataW.trod_int Try.underlying3 h1
  simp [c_int] at e0 e1
  exact ⟨n0, n1, by rw [e0, e1]⟩
theorem open_sessS {m : Nat} {cs : List Value} {y : DataW H × List MemPlace} (h : DataW.trod enc Try.prog w base spare held m 27 cs = some y) :
    ∃ s : Sess, cs = (Sess.cells s).toList := by
  obtain ⟨hl, hf⟩ := open_fields Try.underlying27 h
  obtain ⟨a0, a1, a2, a3, a4, a5, a6, a7, a8, a9, a10, a11, rfl⟩ := list12 (hl.trans c_sess)
  obtain ⟨_, _, h0⟩ := hf 0 _ rfl
  obtain ⟨_, _, h1⟩ := hf 1 _ rfl
  obtain ⟨_, _, h2⟩ := hf 2 _ rfl
  obtain ⟨_, _, h3⟩ := hf 3 _ rfl
  obtain ⟨_, _, h4⟩ := hf 4 _ rfl
  obtain ⟨_, _, h5⟩ := hf 5 _ rfl
  obtain ⟨_, _, h6⟩ := hf 6 _ rfl
  obtain ⟨_, _, h7⟩ := hf 7 _ rfl
  obtain ⟨_, _, h8⟩ := hf 8 _ rfl
  obtain ⟨_, _, h9⟩ := hf 9 _ rfl
  obtain ⟨_, _, h10⟩ := hf 10 _ rfl
  obtain ⟨n0, e0, _⟩ := DataW.trod_int Try.underlying3 h0
  obtain ⟨n1, e1, _⟩ := DataW.trod_int Try.underlying3 h1
  obtain ⟨n2, n3, e2⟩ := open_link h2
  obtain ⟨n4, e4, _⟩ := DataW.trod_int Try.underlying3 h3
  obtain ⟨n5, e5, _⟩ := DataW.trod_string Try.underlying9 h4
  obtain ⟨n6, e6, _⟩ := DataW.trod_string Try.underlying9 h5
  obtain ⟨n7, e7, _, w7⟩ := DataW.trod_int Try.underlying25 h6
  obtain ⟨n8, e8, _⟩ := DataW.trod_int Try.underlying3 h7
  obtain ⟨n9, e9, _⟩ := DataW.trod_int Try.underlying3 h8
  obtain ⟨n10, e10, _⟩ := DataW.trod_int Try.underlying3 h9
  obtain ⟨n11, e11, _⟩ := DataW.trod_int Try.underlying3 h10
  obtain ⟨x7, rfl⟩ := word_wf w7
  simp [c_int, c_string, c_link, c_set] at e0 e1 e2 e4 e5 e6 e7 e8 e9 e10 e11
  exact ⟨⟨n0, n1, n2, n3, n4, n5, n6, x7, n8, n9, n10, n11⟩, by simp [Sess.cells, *]⟩
theorem list5 {α : Type} {l : List α} (h : l.length = 5) : ∃ a b c d e, l = [a, b, c, d, e] := by
  match l, h with
  | [a, b, c, d, e], _ => exact ⟨a, b, c, d, e, rfl⟩
theorem open_reqR {m : Nat} {cs : List Value} {y : DataW H × List MemPlace} (h : DataW.trod enc Try.prog w base spare held m 29 cs = some y) :
    ∃ r : Req, cs = (Req.cells r).toList := by
  obtain ⟨hl, hf⟩ := open_fields Try.underlying29 h
  obtain ⟨a0, a1, a2, a3, a4, rfl⟩ := list5 (hl.trans c_req)
  obtain ⟨_, _, h0⟩ := hf 0 _ rfl
  obtain ⟨_, _, h1⟩ := hf 1 _ rfl
  obtain ⟨_, _, h2⟩ := hf 2 _ rfl
  obtain ⟨_, _, h3⟩ := hf 3 _ rfl
  obtain ⟨_, _, h4⟩ := hf 4 _ rfl
  obtain ⟨n0, e0, _⟩ := DataW.trod_string Try.underlying9 h0
  obtain ⟨n1, e1, _⟩ := DataW.trod_string Try.underlying9 h1
  obtain ⟨n2, e2, _, w2⟩ := DataW.trod_int Try.underlying25 h2
  obtain ⟨n3, e3, _⟩ := DataW.trod_int Try.underlying3 h3
  obtain ⟨n4, e4, _⟩ := DataW.trod_int Try.underlying3 h4
  obtain ⟨x2, rfl⟩ := word_wf w2
  simp [c_int, c_string, c_set] at e0 e1 e2 e3 e4
  exact ⟨⟨n0, n1, x2, n3, n4⟩, by simp [Req.cells, *]⟩
theorem open_there {m : Nat} {cs : List Value} {y : DataW H × List MemPlace} (h : DataW.trod enc Try.prog w base spare held m 31 cs = some y) :
    ∃ (a b : Int) (f : Bool), cs = [.int .i64 a, .int .i64 b, .bool f] := by
  obtain ⟨hl, hf⟩ := open_fields Try.underlying31 h
  obtain ⟨a0, a1, a2, rfl⟩ := list3 (hl.trans c_there)
  obtain ⟨_, _, h0⟩ := hf 0 _ rfl
  obtain ⟨_, _, h1⟩ := hf 1 _ rfl
  obtain ⟨_, _, h2⟩ := hf 2 _ rfl
  obtain ⟨n0, e0, _⟩ := DataW.trod_int Try.underlying3 h0
  obtain ⟨n1, e1, _⟩ := DataW.trod_int Try.underlying3 h1
  obtain ⟨n2, e2, _⟩ := DataW.trod_bool Try.underlying4 h2
  simp [c_int, c_bool] at e0 e1 e2
  exact ⟨n0, n1, n2, by simp [*]⟩
end
end Go.Proofs.Ythoibafhbacfiaa
