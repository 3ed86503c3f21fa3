/-
  lineagelaw10.Item opened, with its bulk.
-/
import Derived.Test.YtpdpdojaaaipcaaBulk
import Derived.Test.YtpdpdojaaaipcaaItem
namespace Go.Proofs.Ytpdpdojaaaipcaa
set_option maxRecDepth 100000
open Go.RowKit Go.Deep Go.ChangeShapes Go.WideShapes
section
variable {H : Type} {enc : TypeId × Value → H} {w : World} {base : Nat} {spare : Nat → Bool} {held : Bool}
theorem word_wf' {n : Int} (h : (Lit.int .u64 n).wf = true) : ∃ x : BitVec 64, n = wd x := by
  have hx : 0 ≤ n ∧ n ≤ 18446744073709551615 := by simpa [Lit.wf, IntKind.min, IntKind.max, IntKind.signed, IntKind.bits] using h
  refine ⟨BitVec.ofNat 64 n.toNat, ?_⟩
  unfold wd
  rw [BitVec.toNat_ofNat]
  omega
theorem open_item {m : Nat} {cs : List Value} {y : DataW H × List MemPlace} (h : DataW.trod enc Try.prog w base spare held m 31 cs = some y) : ∃ x : ItemV, cs = x.cells.toList ∧ x.s.size ≤ Rows.uptoBulk y.1 := by
  have cb : Try.prog.cellsOf 4 = 1 := by kernel_rfl
  have cw : Try.prog.cellsOf 29 = 1 := by kernel_rfl
  have cstr : Try.prog.cellsOf 9 = 1 := by kernel_rfl
  have c3 : Try.prog.cellsOf 31 = 3 := by kernel_rfl
  obtain ⟨ys, n, _, rfl, hl, hyl, hf⟩ := DataW.trod_struct Try.underlying31 h
  obtain ⟨c0, c1, c2, rfl⟩ := list3 (hl.trans c3)
  obtain ⟨y0, y1, y2, rfl⟩ := list3 (show ys.length = 3 from hyl)
  have h0 := hf 0 _ rfl
  have h1 := hf 1 _ rfl
  have h2 := hf 2 _ rfl
  obtain ⟨n0, e0, _⟩ := DataW.trod_bool Try.underlying4 h0
  obtain ⟨n1, e1, _, w1⟩ := DataW.trod_int Try.underlying29 h1
  obtain ⟨s, e2, e3, _⟩ := DataW.trod_string Try.underlying9 h2
  obtain ⟨x, rfl⟩ := word_wf' w1
  simp [cb, cw, cstr] at e0 e1 e2
  subst e3
  refine ⟨⟨n0, x, s⟩, by rw [e0, e1, e2]; rfl, ?_⟩
  have hs : s.data.toList.length = s.size := by rw [Array.length_toList]; rfl
  simp only [List.map_cons, List.map_nil, Rows.uptoBulk, Rows.uptoBulkAll, hs]
  omega
end
end Go.Proofs.Ytpdpdojaaaipcaa
