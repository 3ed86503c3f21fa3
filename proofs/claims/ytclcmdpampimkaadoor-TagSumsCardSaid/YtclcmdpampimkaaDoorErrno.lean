/-
  An error by its number.
-/
import Derived.Test.YtclcmdpampimkaaDoorProg
namespace Go.Proofs.YtclcmdpampimkaaDoor
set_option maxRecDepth 100000
/-- The error with this number. -/
def errno (k : Int) : Value := .iface 41 (.int .i64 k)
end Go.Proofs.YtclcmdpampimkaaDoor
