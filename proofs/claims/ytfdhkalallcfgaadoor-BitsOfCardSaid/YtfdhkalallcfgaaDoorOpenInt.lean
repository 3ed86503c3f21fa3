/-
  An argument of ints opened; BitsOf over it.
-/
import Derived.Test.YtfdhkalallcfgaaDoorOpen
import Derived.Test.YtfdhkalallcfgaaDoorLOf2
namespace Go.Proofs.YtfdhkalallcfgaaDoor
set_option maxRecDepth 100000
open Go.RowKit Go.Deep Go.ChangeShapes Go.WideShapes
def i64c (x : Int) : Array Value := #[.int .i64 x]
theorem i64c_size (x : Int) : (i64c x).size = 1 := rfl
theorem bitsOf_rows (A : Option Addr) (cap : Nat) (l : List Int) (i : Int) (on : Bool) (w : World) (h : 0 < l.length → ∃ b off, A = some ⟨b, off, none⟩ ∧ b < w.heap.size ∧ ∀ k y, l[k]? = some y → RowAt w b (off + k * 1) (i64c y)) (hl : l.length * 8 ≤ 140737488351232) (hg : Laid w) :
    Calls Tryd.prog 5 #[.slice A l.length cap, .int .i64 i, .bool on] w (RetB (.bool true) w) :=
  bitsOf_any A cap l i on w (fun hn => by
    obtain ⟨b, off, rfl, hlt, hr⟩ := h hn
    exact ⟨b, off, rfl, hlt, fun k x hx => by have := (hr k x hx).cell0 (v := .int .i64 x) rfl; rwa [Nat.mul_one] at this⟩) hl hg
section
variable {H : Type} {enc : TypeId × Value → H} {w : World} {base : Nat} {spare : Nat → Bool} {held : Bool}
theorem open_i64 {m : Nat} {cs : List Value} {y : DataW H × List MemPlace} (h : DataW.trod enc Tryd.prog w base spare held m 3 cs = some y) : ∃ x : Int, cs = (i64c x).toList := by
  obtain ⟨n, e, _, _⟩ := DataW.trod_int Tryd.underlying3 h
  exact ⟨n, e⟩
end
end Go.Proofs.YtfdhkalallcfgaaDoor
