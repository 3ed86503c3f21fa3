/-
  An error by its number.
-/
import Derived.Test.YtpdpdojaaaipcaaProg
namespace Go.Proofs.Ytpdpdojaaaipcaa
set_option maxRecDepth 100000
/-- The error with this number. -/
def errno (k : Int) : Value := .iface 63 (.int .i64 k)
end Go.Proofs.Ytpdpdojaaaipcaa
