/-
  An error by its number.
-/
import Derived.Test.YtclcmdpampimkaaProg
namespace Go.Proofs.Ytclcmdpampimkaa
set_option maxRecDepth 100000
/-- The error with this number. -/
def errno (k : Int) : Value := .iface 36 (.int .i64 k)
end Go.Proofs.Ytclcmdpampimkaa
