/-
  An error by its number.
-/
import Derived.Test.YtdgdbcapojgnlaaDoorProg
namespace Go.Proofs.YtdgdbcapojgnlaaDoor
set_option maxRecDepth 100000
/-- The error with this number. -/
def errno (k : Int) : Value := .iface 94 (.int .i64 k)
end Go.Proofs.YtdgdbcapojgnlaaDoor
