/-
  lineagelaw22: parent, works: a child that is born.
-/
import Derived.Test.YthoibafhbacfiaaDoorGLogin
import Derived.Test.YthoibafhbacfiaaDoorGChild
namespace Go.Proofs.YthoibafhbacfiaaDoor
set_option maxRecDepth 100000
open Go.RowKit

def parentS : Sess := ⟨1, 3, 0, 0, 0, ⟨#[97, 110, 110]⟩, ⟨#[]⟩, 7#64, 1, 0, 100, 0⟩
def worksR : Req := ⟨⟨#[]⟩, ⟨#[116, 97, 98, 108, 101, 116]⟩, 5#64, 0, 1000⟩
theorem name_tablet : nameB ⟨#[116, 97, 98, 108, 101, 116]⟩ = true := by
  have h : (⟨#[116, 97, 98, 108, 101, 116]⟩ : ByteArray).size = 6 := rfl
  unfold nameB
  rw [h]
  rw [okFrom_at (by rw [h]; decide), okFrom_at (by rw [h]; decide), okFrom_at (by rw [h]; decide), okFrom_at (by rw [h]; decide), okFrom_at (by rw [h]; decide), okFrom_at (by rw [h]; decide), okFrom_end (by rw [h]; decide)]
  rfl
theorem works_no : childNo parentS worksR 40 9 false = 0 := by
  unfold childNo
  rw [show nameB worksR.label = true from name_tablet]
  decide
def worksC : Array Value := #[.int .i64 0, .int .i64 10, .int .i64 1, .int .i64 3, .int .i64 1, .string ⟨#[97, 110, 110]⟩, .string ⟨#[116, 97, 98, 108, 101, 116]⟩, .int .u64 5, .int .i64 1, .int .i64 40, .int .i64 100, .int .i64 1]
theorem works_child (w : World) : Calls Tryd.prog 10 #[.agg parentS.cells, .agg worksR.cells, .int .i64 40, .int .i64 9, .bool false] w (RetB (.tuple #[.agg worksC, .nilIface]) w) := by
  have h := child_any parentS worksR 40 9 false w
  have e : childR parentS worksR 40 9 false = belowS parentS worksR 40 9 1 5#64 1 := if_pos works_no
  rw [works_no, e, errK_zero] at h
  exact h
theorem parent_any (w : World) : Calls Tryd.prog 38 #[] w (RetB (.agg parentS.cells) w) := by
  have HU := Lib.hid Tryd.underlying31
  go_enter Tryd.func38, Tryd.ntmps38
  go_wp2
  exact bodyPost_ret (results_at rfl rfl (Blk.new w 31 parentS.cells).row HU.out rfl sessInfo) rfl ⟨rfl, bel_alloc (Below.refl _ _) _⟩
set_option maxHeartbeats 1000000 in
theorem works_any (w : World) : Calls Tryd.prog 40 #[] w (RetB (.bool true) w) := by
  have HU := Lib.hid Tryd.underlying31
  go_enter Tryd.func40, Tryd.ntmps40
  go_wp2_with (go_at_call 38; refine (parent_any _).mono ?_; rintro e w1 ⟨rfl, h1⟩)
  go_wp2_with (go_at_call 10; fail)
  refine (works_child w1).mono ?_
  rintro e w2 ⟨rfl, h2⟩
  unfold worksC
  have HB := Lib.hid (h1.trans (h2.mono h1.size))
  clear h1 h2
  go_wp2
  go_ret
  trace_state
  exact ⟨rfl, bel_alloc HB.out _⟩
end Go.Proofs.YthoibafhbacfiaaDoor
