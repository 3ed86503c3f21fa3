/-
  An error by its number.
-/
import Derived.Test.YtahcedpfnechfaaDoorProg
namespace Go.Proofs.YtahcedpfnechfaaDoor
set_option maxRecDepth 100000
/-- The error with this number. -/
def errno (k : Int) : Value := .iface 62 (.int .i64 k)
end Go.Proofs.YtahcedpfnechfaaDoor
