/-
  An error by its number.
-/
import Derived.Test.YtjhfidccpaidmaaDoorProg
namespace Go.Proofs.YtjhfidccpaidmaaDoor
set_option maxRecDepth 100000
/-- The error with this number. -/
def errno (k : Int) : Value := .iface 39 (.int .i64 k)
end Go.Proofs.YtjhfidccpaidmaaDoor
