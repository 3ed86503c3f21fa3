/-
  An error by its number.
-/
import Derived.Test.YtfdhkalallcfgaaDoorProg
namespace Go.Proofs.YtfdhkalallcfgaaDoor
set_option maxRecDepth 100000
/-- The error with this number. -/
def errno (k : Int) : Value := .iface 55 (.int .i64 k)
end Go.Proofs.YtfdhkalallcfgaaDoor
