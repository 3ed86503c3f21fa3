/-
  The audit: there, bare, below.
-/
import Derived.Test.YtahcedpfnechfaaDoorAudV
namespace Go.Proofs.YtahcedpfnechfaaDoor
set_option maxRecDepth 100000
open Go.RowKit Go.Sort

theorem cthere_any (i : Int) (w : World) : Calls Tryd.prog 52 #[.int .i64 i] w (RetSame (.bool (inR i)) w) := by
  go_enter Tryd.func52, Tryd.ntmps52
  by_cases h1 : 0 ≤ i
  · by_cases h2 : i < 32
    · rw [inR_iff.2 ⟨h1, h2⟩]
      go_wp2
      go_ret
      exact ⟨by simp [h2], rfl⟩
    · rw [show inR i = false by rw [Bool.eq_false_iff]; exact fun h => h2 (inR_iff.1 h).2]
      go_wp2
      go_ret
      exact ⟨by simp [h2], rfl⟩
  · rw [show inR i = false by rw [Bool.eq_false_iff]; exact fun h => h1 (inR_iff.1 h).1]
    go_wp2
    go_ret
    exact ⟨by simp [h1], rfl⟩
theorem rthere_any (i : Int) (w : World) : Calls Tryd.prog 33 #[.int .i64 i] w (RetSame (.bool (inR i)) w) := by
  go_enter Tryd.func33, Tryd.ntmps33
  by_cases h1 : 0 ≤ i
  · by_cases h2 : i < 32
    · rw [inR_iff.2 ⟨h1, h2⟩]
      go_wp2
      go_ret
      exact ⟨by simp [h2], rfl⟩
    · rw [show inR i = false by rw [Bool.eq_false_iff]; exact fun h => h2 (inR_iff.1 h).2]
      go_wp2
      go_ret
      exact ⟨by simp [h2], rfl⟩
  · rw [show inR i = false by rw [Bool.eq_false_iff]; exact fun h => h1 (inR_iff.1 h).1]
    go_wp2
    go_ret
    exact ⟨by simp [h1], rfl⟩
theorem cbare_any (w : World) : Calls Tryd.prog 53 #[] w (RetB (.agg SlotV.bare.cells) w) := by
  have HU := Lib.hid Tryd.underlying49
  go_enter Tryd.func53, Tryd.ntmps53
  go_wp2_with (first
    | (refine wpList_build_as rfl rfl rfl built_bare ?_)
    | (refine wpList_store_new rfl rfl rfl rfl rfl (SlotV.one _) slotInfo ?_))
  exact bodyPost_ret (results_at rfl rfl (Blk.new w 49 SlotV.bare.cells).row HU.out rfl slotInfo) rfl ⟨rfl, (Below.refl _ _).alloc (Nat.le_refl _) _⟩
theorem rbare_any (w : World) : Calls Tryd.prog 34 #[] w (RetB (.agg SlotV.bare.cells) w) := by
  have HU := Lib.hid Tryd.underlying49
  go_enter Tryd.func34, Tryd.ntmps34
  go_wp2_with (first
    | (refine wpList_build_as rfl rfl rfl built_bare ?_)
    | (refine wpList_store_new rfl rfl rfl rfl rfl (SlotV.one _) slotInfo ?_))
  exact bodyPost_ret (results_at rfl rfl (Blk.new w 49 SlotV.bare.cells).row HU.out rfl slotInfo) rfl ⟨rfl, (Below.refl _ _).alloc (Nat.le_refl _) _⟩
/-- A slot's session: its twelve cells. -/
def SlotV.sess (s : SlotV) : Array Value := #[.int .i64 s.slot, .int .i64 s.birth, .int .i64 s.upSlot, .int .i64 s.upBirth, .int .i64 s.kind, .string s.user, .string s.label, .int .u64 s.scopes, .int .i64 s.level, .int .i64 s.born, .int .i64 s.deadline, .int .i64 s.depth]
/-- May x hang below p? -/
def belowX (x p : SlotV) : Bool := !(decide (x.birth ≤ p.birth) || x.kind == 0 || wrap64 (x.depth - 1) != p.depth || decide (p.deadline < x.deadline) || bits .andNot .u64 x.scopes p.scopes != 0) &&
  (if x.kind = 2 then decide (p.level < x.level) && decide (wrap64 (x.deadline - 300) ≤ x.born) else decide (x.level ≤ p.level))
theorem two_below (w : World) (a b : Obj) : Below w.heap.size w ((w.alloc a).alloc b) := ((Below.refl _ _).alloc (Nat.le_refl _) _).alloc (by simp) _
set_option maxHeartbeats 4000000 in
theorem cbelow_any (x p : SlotV) (w : World) : Calls Tryd.prog 62 #[.agg x.sess, .agg p.sess] w (RetB (.bool (belowX x p)) w) := by
  obtain ⟨b, hb⟩ : ∃ b, belowX x p = b := ⟨_, rfl⟩
  have HB := Lib.hid hb
  rw [hb]
  clear hb
  unfold SlotV.sess
  go_enter Tryd.func62, Tryd.ntmps62
  go_wp2
  all_goals
    go_ret
    refine ⟨?_, two_below _ _ _⟩
    rw [← HB.out]
    clear HB
    unfold belowX
    first
      | (simp_all; done)
      | (simp_all <;> omega)
end Go.Proofs.YtahcedpfnechfaaDoor
