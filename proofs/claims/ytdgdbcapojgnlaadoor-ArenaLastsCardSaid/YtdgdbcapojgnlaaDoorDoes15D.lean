/-
  lineagelaw15.does: what an act makes of an arena.
-/
import Derived.Test.YtdgdbcapojgnlaaDoorTwo15
import Derived.Test.YtdgdbcapojgnlaaDoorAsked
import Derived.Test.YtdgdbcapojgnlaaDoorAct
import Derived.Test.YtdgdbcapojgnlaaDoorPick
namespace Go.Proofs.YtdgdbcapojgnlaaDoor
set_option maxRecDepth 100000
open Go.RowKit Go.Shelf Go.Sort

/-- What an act makes of an arena. -/
def St.actC (S : St) (c : Nat) (x : ActV) : St := match c with
  | 1 => S.putZ x.n x.s
  | 2 => S.takeZ
  | 3 => S.takeZ
  | 4 => S.dropZ x.n
  | 5 => S.giveZ x.n
  | _ => S
def St.act (S : St) (x : ActV) : St := S.actC (pickZ x.kind 7).toNat x
theorem act_writes (S : St) (x : ActV) : S.writes ≤ (S.act x).writes ∧ (S.act x).writes ≤ S.writes + 1 := by
  unfold St.act St.actC
  split <;> (try simp only [St.putZ, St.takeZ, St.dropZ, St.giveZ]) <;> (try split) <;> simp [St.put, St.take, St.drop, St.give] <;> omega
/-- An act's cells but the first, in a block. -/
@[reducible] def actAt (B : Nat) (x : ActV) (W : World) : Prop := W.cell? ⟨B, 1, none⟩ = some (.int .i64 x.n) ∧ W.cell? ⟨B, 2, none⟩ = some (.bool x.s.used) ∧ W.cell? ⟨B, 3, none⟩ = some (.bool x.s.dead) ∧ W.cell? ⟨B, 4, none⟩ = some (.int .i64 x.s.kids) ∧ W.cell? ⟨B, 5, none⟩ = some (.int .i64 x.s.prev) ∧ W.cell? ⟨B, 6, none⟩ = some (.int .i64 x.s.next) ∧ W.cell? ⟨B, 7, none⟩ = some (.int .i64 x.s.slot) ∧ W.cell? ⟨B, 8, none⟩ = some (.int .i64 x.s.birth) ∧ W.cell? ⟨B, 9, none⟩ = some (.int .i64 x.s.upSlot) ∧ W.cell? ⟨B, 10, none⟩ = some (.int .i64 x.s.upBirth) ∧ W.cell? ⟨B, 11, none⟩ = some (.int .i64 x.s.kind) ∧ W.cell? ⟨B, 12, none⟩ = some (.string x.s.user) ∧ W.cell? ⟨B, 13, none⟩ = some (.string x.s.label) ∧ W.cell? ⟨B, 14, none⟩ = some (.int .u64 x.s.scopes) ∧ W.cell? ⟨B, 15, none⟩ = some (.int .i64 x.s.level) ∧ W.cell? ⟨B, 16, none⟩ = some (.int .i64 x.s.born) ∧ W.cell? ⟨B, 17, none⟩ = some (.int .i64 x.s.deadline) ∧ W.cell? ⟨B, 18, none⟩ = some (.int .i64 x.s.depth)
theorem actAt_row {B : Nat} {x : ActV} {W : World} (h : W.cell? ⟨B, 1, none⟩ = some (.int .i64 x.n)) (r : RowAt W B 2 x.s.cells) : actAt B x W :=
  ⟨h, r.at_ 0 _ rfl, r.at_ 1 _ rfl, r.at_ 2 _ rfl, r.at_ 3 _ rfl, r.at_ 4 _ rfl, r.at_ 5 _ rfl, r.at_ 6 _ rfl, r.at_ 7 _ rfl, r.at_ 8 _ rfl, r.at_ 9 _ rfl, r.at_ 10 _ rfl, r.at_ 11 _ rfl, r.at_ 12 _ rfl, r.at_ 13 _ rfl, r.at_ 14 _ rfl, r.at_ 15 _ rfl, r.at_ 16 _ rfl⟩
end Go.Proofs.YtdgdbcapojgnlaaDoor
