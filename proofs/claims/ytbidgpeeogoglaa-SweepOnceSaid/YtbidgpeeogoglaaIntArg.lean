/-
  An argument of ints opened.
-/
import Derived.Test.YtbidgpeeogoglaaOpen
import Derived.Test.YtbidgpeeogoglaaGa
namespace Go.Proofs.Ytbidgpeeogoglaa
set_option maxRecDepth 100000
open Go.RowKit Go.Deep Go.ChangeShapes Go.WideShapes
def i64c (x : Int) : Array Value := #[.int .i64 x]
theorem i64c_size (x : Int) : (i64c x).size = 1 := rfl
theorem intsAt_rows {A : Option Addr} {l : List Int} {w : World} (h : 0 < l.length → ∃ b off, A = some ⟨b, off, none⟩ ∧ b < w.heap.size ∧ ∀ k y, l[k]? = some y → RowAt w b (off + k * 1) (i64c y)) : IntsAt w A l := fun hn => by
  obtain ⟨b, off, rfl, hlt, hr⟩ := h hn
  exact ⟨b, off, rfl, hlt, fun k x hx => by have := (hr k x hx).cell0 (v := .int .i64 x) rfl; rwa [Nat.mul_one] at this⟩
section
variable {H : Type} {enc : TypeId × Value → H} {w : World} {base : Nat} {spare : Nat → Bool} {held : Bool}
theorem open_i64 {m : Nat} {cs : List Value} {y : DataW H × List MemPlace} (h : DataW.trod enc Try.prog w base spare held m 3 cs = some y) : ∃ x : Int, cs = (i64c x).toList := by
  obtain ⟨n, e, _, _⟩ := DataW.trod_int Try.underlying3 h
  exact ⟨n, e⟩
end
end Go.Proofs.Ytbidgpeeogoglaa
