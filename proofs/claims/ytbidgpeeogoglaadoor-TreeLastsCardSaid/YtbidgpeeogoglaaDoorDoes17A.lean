/-
  lineagelaw17.does: any act.
-/
import Derived.Test.YtbidgpeeogoglaaDoorDoes17P
import Derived.Test.YtbidgpeeogoglaaDoorDoes17B
namespace Go.Proofs.YtbidgpeeogoglaaDoor
set_option maxRecDepth 100000
open Go.RowKit Go.Sort

section
variable {S R : St} {q g q2 lo h b : Nat} {l : Int}
theorem does17_any (x : ActT) (w : World) (t : Trr w q g q2 lo h b S R l l w) (hag : Agree S R) (hL : Laid w) (hge : 0 < g ∧ 0 < lo ∧ 0 < q ∧ 0 < q2) (hw0 : 0 ≤ S.writes) (hw1 : S.writes < 600000) (hr0 : 0 ≤ R.writes) (hr1 : R.writes < 600000) :
    Calls Tryd.prog 12 #[.pointer (some ⟨g, 0, none⟩), .pointer (some ⟨q, 0, none⟩), .pointer (some ⟨q2, 0, none⟩), .agg x.cells] w (Does17 q g q2 lo h b S (R.act17 l x) w) := by
  obtain ⟨c, hc6, hc⟩ := pick_range x.kind 6 (by decide)
  rcases (show c = 0 ∨ c = 1 ∨ c = 2 ∨ c = 3 ∨ c = 4 ∨ c = 5 by omega) with rfl | rfl | rfl | rfl | rfl | rfl
  · exact does17_0 x w t hag hL hge hw0 hw1 hr0 hr1 hc
  · exact does17_1 x w t hag hL hge hw0 hw1 hr0 hr1 hc
  · exact does17_2 x w t hag hL hge hw0 hw1 hr0 hr1 hc
  · exact does17_3 x w t hag hL hge hw0 hw1 hr0 hr1 hc
  · exact does17_4 x w t hag hL hge hw0 hw1 hr0 hr1 hc
  · exact does17_5 x w t hag hL hge hw0 hw1 hr0 hr1 hc
end
end Go.Proofs.YtbidgpeeogoglaaDoor
