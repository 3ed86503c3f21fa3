/-
  Package arena, function by function: there, bare, New.
-/
import Derived.Test.YtdgdbcapojgnlaaDoorSlot
import Derived.Test.YtdgdbcapojgnlaaDoorQuietTail
import Derived.Test.YtdgdbcapojgnlaaDoorErrno
namespace Go.Proofs.YtdgdbcapojgnlaaDoor
set_option maxRecDepth 100000
open Go.RowKit Go.Sort

structure ArAt (w : World) (g : Nat) (A : Ar) : Prop where
  blk : Blk w g 63 A.cells
  full : A.Full
section
variable {P : Program} {ops : Array Oper} {rest : List Oper} {o' : Oper} {a : Act} {w : World} {Q : Exit → Act → World → Prop}
/-- A struct or an array, built: its cells by name. -/
theorem wpList_build_as {ty : TypeId} {parts : Array (Nat × Operand)} {ps : Array (Nat × Value)} {vs : Array Value} (ho : o'.op = .build ty parts) (hw : Region.wanted o' (yielded ops a.tmps) = true) (hp : (parts.map fun (i, x) => (i, a.eval x)) = ps) (hb : P.built ty ps.toList = some vs)
    (hK : wpList P ops Q rest (a.put o'.dst (.agg vs)) w) : wpList P ops Q (o' :: rest) a w :=
  wpList_want hw fun K hK' => by
    refine wp_build ty parts ho (by rw [hp, hb]; rfl) ?_
    rw [hp, hb]
    exact hK' _ _ hK
end
theorem built_bare : Tryd.prog.built 36 (#[(2, Value.int .i64 (-1)), (3, .int .i64 (-1)), (4, .int .i64 (-1))] : Array (Nat × Value)).toList = some SlotV.bare.cells := by kernel_rfl
theorem built_zero : Tryd.prog.built 36 (#[] : Array (Nat × Value)).toList = some SlotV.zero.cells := by kernel_rfl
theorem there_any (i : Int) (w : World) : Calls Tryd.prog 58 #[.int .i64 i] w (RetSame (.bool (decide (0 ≤ i) && decide (i < 32))) w) := by
  by_cases h0 : 0 ≤ i
  · by_cases h1 : i < 32
    · have e : (decide (0 ≤ i) && decide (i < 32)) = true := by simp [h0, h1]
      have e1 : decide (i < 32) = true := by simp [h1]
      have e0 : decide (0 ≤ i) = true := by simp [h0]
      go_enter Tryd.func58, Tryd.ntmps58
      go_wp2
      go_ret
      exact ⟨by simp [h0, h1], rfl⟩
    · go_enter Tryd.func58, Tryd.ntmps58
      go_wp2
      go_ret
      exact ⟨by simp; omega, rfl⟩
  · have h0' : i < 0 := by omega
    go_enter Tryd.func58, Tryd.ntmps58
    go_wp2
    go_ret
    exact ⟨by simp; omega, rfl⟩
theorem bare_any (w : World) : Calls Tryd.prog 24 #[] w (RetB (.agg SlotV.bare.cells) w) := by
  go_enter Tryd.func24, Tryd.ntmps24
  go_wp2_with (first
    | (refine wpList_build_as rfl rfl rfl built_bare ?_)
    | (refine wpList_store_new rfl rfl rfl rfl rfl (SlotV.one _) slotInfo ?_))
  exact bodyPost_ret (results_at rfl rfl (Blk.new w 36 SlotV.bare.cells).row rfl rfl slotInfo) rfl ⟨rfl, (Below.refl _ _).alloc (Nat.le_refl _) _⟩
end Go.Proofs.YtdgdbcapojgnlaaDoor
