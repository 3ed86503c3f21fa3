/-
  An error by its number.
-/
import Derived.Test.YthoibafhbacfiaaDoorProg
namespace Go.Proofs.YthoibafhbacfiaaDoor
set_option maxRecDepth 100000
/-- The error with this number. -/
def errno (k : Int) : Value := .iface 47 (.int .i64 k)
end Go.Proofs.YthoibafhbacfiaaDoor
