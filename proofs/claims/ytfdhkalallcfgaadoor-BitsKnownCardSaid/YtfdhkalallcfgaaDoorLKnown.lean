/-
  lineagelaw02.BitsKnown, joined.
-/
import Derived.Test.YtfdhkalallcfgaaDoorKPairs
namespace Go.Proofs.YtfdhkalallcfgaaDoor
set_option maxRecDepth 100000
open Go.RowKit

theorem bitsKnown_any (w : World) (hT : Tab w) (hg : Laid w) : Calls Tryd.prog 6 #[] w (RetB (.bool true) w) := by
  have HG := Lib.hid hg
  have HT := Lib.hid hT
  have hpos := hg.pos
  have hpos0 := hT.pos
  clear hg hT
  go_enter Tryd.func6, Tryd.ntmps6
  go_wp2_with (go_at_call 26; fail)
  refine (knownSaid_any _ HG.out).mono ?_
  rintro e w1 ⟨rfl, h1⟩
  have D1 := Lib.hid h1
  clear h1
  go_wp2_with (go_at_call 27; fail)
  refine (knownPairs_any _ (HT.out.below D1.out hpos0) (HG.out.below D1.out hpos)).mono ?_
  rintro e w2 ⟨rfl, h1⟩
  have D2 := Lib.hid (D1.out.trans (h1.mono D1.out.size))
  clear h1
  go_wp2
  go_ret
  exact ⟨rfl, D2.out⟩
end Go.Proofs.YtfdhkalallcfgaaDoor
