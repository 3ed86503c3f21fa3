/-
  An error by its number.
-/
import Derived.Test.YthoibafhbacfiaaProg
namespace Go.Proofs.Ythoibafhbacfiaa
set_option maxRecDepth 100000
/-- The error with this number. -/
def errno (k : Int) : Value := .iface 45 (.int .i64 k)
end Go.Proofs.Ythoibafhbacfiaa
