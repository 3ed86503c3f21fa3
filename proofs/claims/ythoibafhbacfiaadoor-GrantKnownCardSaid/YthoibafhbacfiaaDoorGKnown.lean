/-
  lineagelaw22.GrantKnown holds.
-/
import Derived.Test.YthoibafhbacfiaaDoorGKn3
namespace Go.Proofs.YthoibafhbacfiaaDoor
set_option maxRecDepth 100000
open Go.RowKit
theorem grantKnown_any (w : World) (hg : Laid w) : Calls Tryd.prog 6 #[] w (RetB (.bool true) w) := by
  have HG := Lib.hid hg
  clear hg
  go_enter Tryd.func6, Tryd.ntmps6
  go_wp2_with (go_at_call 14; fail)
  refine (knownSaid_any _).mono ?_
  rintro e w1 ⟨rfl, h1⟩
  have B1 := Lib.hid h1
  clear h1
  go_wp2_with (go_at_call 15; fail)
  refine (knownOrder_any _ (HG.out.below B1.out HG.out.pos)).mono ?_
  rintro e w2 ⟨rfl, h2⟩
  have B2 := Lib.hid (B1.out.trans (h2.mono B1.out.size))
  clear h2
  go_wp2_with (go_at_call 16; fail)
  refine (knownEnds_any _ (HG.out.below B2.out HG.out.pos)).mono ?_
  rintro e w3 ⟨rfl, h3⟩
  have B3 := Lib.hid (B2.out.trans (h3.mono B2.out.size))
  clear h3
  go_wp2
  go_ret
  exact ⟨rfl, B3.out⟩
end Go.Proofs.YthoibafhbacfiaaDoor
