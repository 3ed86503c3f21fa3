/-
  lineagelaw19: told.
-/
import Derived.Test.YtbidgpeeogoglaaGh
import Derived.Test.YtbidgpeeogoglaaGg
import Derived.Test.YtbidgpeeogoglaaGb
import Derived.Test.YtbidgpeeogoglaaGi
namespace Go.Proofs.Ytbidgpeeogoglaa
set_option maxRecDepth 100000
open Go.RowKit Go.Sort

end Go.Proofs.Ytbidgpeeogoglaa
