/-
  lineagelaw10.PackKnown.
-/
import Derived.Test.YtpdpdojaaaipcaaDoorKn3
namespace Go.Proofs.YtpdpdojaaaipcaaDoor
set_option maxRecDepth 100000
open Go.RowKit
theorem packKnown_any (w : World) (hg : Laid w) : Calls Tryd.prog 4 #[] w (RetB (.bool true) w) := by
  have HG := Lib.hid hg
  clear hg
  go_enter Tryd.func4, Tryd.ntmps4
  go_wp2_with (go_at_call 16; fail)
  refine (knownNumbers_any w).mono ?_
  rintro e w1 ⟨rfl, h1⟩
  have H1 := Lib.hid h1
  clear h1
  go_wp2_with (go_at_call 17; fail)
  refine (knownRows_any w1 (HG.out.below H1.out HG.out.pos)).mono ?_
  rintro e w2 ⟨rfl, h2⟩
  have H2 := Lib.hid (H1.out.trans (h2.mono H1.out.size))
  clear h2
  go_wp2_with (go_at_call 18; fail)
  refine (knownSaid_any w2 (HG.out.below H2.out HG.out.pos)).mono ?_
  rintro e w3 ⟨rfl, h3⟩
  have H3 := Lib.hid (H2.out.trans (h3.mono H2.out.size))
  clear h3
  go_wp2
  go_ret
  exact ⟨rfl, H3.out⟩
end Go.Proofs.YtpdpdojaaaipcaaDoor
