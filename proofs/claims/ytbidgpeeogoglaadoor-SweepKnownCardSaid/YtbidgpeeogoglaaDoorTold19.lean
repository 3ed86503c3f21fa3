/-
  lineagelaw19: told.
-/
import Derived.Test.YtbidgpeeogoglaaDoorGh
import Derived.Test.YtbidgpeeogoglaaDoorGg
import Derived.Test.YtbidgpeeogoglaaDoorGb
import Derived.Test.YtbidgpeeogoglaaDoorGi
namespace Go.Proofs.YtbidgpeeogoglaaDoor
set_option maxRecDepth 100000
open Go.RowKit Go.Sort

theorem told19_any (no at_ : Int) (h : (at_ = -1 ∧ 0 ≤ no ∧ no ≤ 24) ∨ (no = 24 ∧ 0 ≤ at_ ∧ at_ < 32)) (w : World) (hL : Laid w) : Calls Tryd.prog 45 #[errP no at_, .int .i64 no, .int .i64 at_] w (RetB (.bool true) w) := by
  rcases h with ⟨rfl, h0, h1⟩ | ⟨rfl, h0, h1⟩
  · have e : errP no (-1) = errOf no := by unfold errP errOf; split <;> rfl
    rw [e]
    have HP := Lib.hid (plain_same no h0 h1 w hL)
    generalize errOf no = ev at *
    go_enter Tryd.func45, Tryd.ntmps45
    go_wp2_with (go_at_call 35; fail)
    refine HP.out.mono ?_
    rintro e w2 ⟨rfl, hb⟩
    have HB := Lib.hid hb
    clear hb
    go_wp2
    go_ret
    exact ⟨rfl, HB.out⟩
  · rw [errP_at h0]
    have HP := Lib.hid (at_fault 24 at_ (by omega) (by omega) w hL)
    have hn : ¬ at_ < 0 := by omega
    unfold faultV
    go_enter Tryd.func45, Tryd.ntmps45
    go_wp2_with (go_at_call 66; fail)
    refine HP.out.mono ?_
    rintro e w2 ⟨rfl, hb⟩
    have HB := Lib.hid hb
    clear hb
    go_wp2
    go_ret
    exact ⟨rfl, HB.out⟩
end Go.Proofs.YtbidgpeeogoglaaDoor
