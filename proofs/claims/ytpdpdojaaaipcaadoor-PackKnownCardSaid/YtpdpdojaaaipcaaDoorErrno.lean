/-
  An error by its number.
-/
import Derived.Test.YtpdpdojaaaipcaaDoorProg
namespace Go.Proofs.YtpdpdojaaaipcaaDoor
set_option maxRecDepth 100000
/-- The error with this number. -/
def errno (k : Int) : Value := .iface 48 (.int .i64 k)
end Go.Proofs.YtpdpdojaaaipcaaDoor
