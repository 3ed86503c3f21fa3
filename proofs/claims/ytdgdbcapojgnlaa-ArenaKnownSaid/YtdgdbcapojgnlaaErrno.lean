/-
  An error by its number.
-/
import Derived.Test.YtdgdbcapojgnlaaProg
namespace Go.Proofs.Ytdgdbcapojgnlaa
set_option maxRecDepth 100000
/-- The error with this number. -/
def errno (k : Int) : Value := .iface 70 (.int .i64 k)
end Go.Proofs.Ytdgdbcapojgnlaa
