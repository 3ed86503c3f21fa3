/-
  lineagelaw10.Ask: its cells.
-/
import Derived.Test.YtpdpdojaaaipcaaDoorMem
namespace Go.Proofs.YtpdpdojaaaipcaaDoor
set_option maxRecDepth 100000
open Go.RowKit
structure AskV where
  isText : Bool
  most : Int
  lt : most < 9223372036854775808
def AskV.cells (x : AskV) : Array Value := #[.bool x.isText, .int .i64 x.most]
@[go_sem] theorem AskV.size (x : AskV) : (AskV.cells x).size = 2 := rfl
def AsksAt (w : World) (A : Option Addr) (xs : List AskV) : Prop := 0 < xs.length → ∃ b off, A = some ⟨b, off, none⟩ ∧ b < w.heap.size ∧ ∀ k y, xs[k]? = some y → RowAt w b (off + k * 2) y.cells
theorem AsksAt.below {w w' : World} {A : Option Addr} {xs : List AskV} {B : Nat} (h : AsksAt w A xs) (hb : Below B w w') (hB : w.heap.size ≤ B) : AsksAt w' A xs := fun hn => by
  obtain ⟨b, off, rfl, hlt, hc⟩ := h hn
  have hs := hb.size
  exact ⟨b, off, rfl, by omega, fun k i hk => (hc k i hk).below hb (by omega)⟩
end Go.Proofs.YtpdpdojaaaipcaaDoor
