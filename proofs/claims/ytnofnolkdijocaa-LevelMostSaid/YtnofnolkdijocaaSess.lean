import Derived.Test.YtnofnolkdijocaaProg
import Derived.Test.YtnofnolkdijocaaMem
namespace Go.Proofs.Ytnofnolkdijocaa
open Go.RowKit Go.Sort

structure Sess where
  slot : Int
  birth : Int
  upSlot : Int
  upBirth : Int
  kind : Int
  user : ByteArray
  label : ByteArray
  scopes : Int
  level : Int
  born : Int
  deadline : Int
  depth : Int

def Sess.cells (s : Sess) : Array Value := #[.int .i64 s.slot, .int .i64 s.birth, .int .i64 s.upSlot, .int .i64 s.upBirth, .int .i64 s.kind, .string s.user, .string s.label, .int .u64 s.scopes, .int .i64 s.level, .int .i64 s.born, .int .i64 s.deadline, .int .i64 s.depth]
def Sess.zero : Sess := ⟨0, 0, 0, 0, 0, ByteArray.empty, ByteArray.empty, 0, 0, 0, 0, 0⟩
/-- two sessions are the same -/
def Sess.same (s t : Sess) : Bool := s.slot == t.slot && (s.birth == t.birth && (s.upSlot == t.upSlot && (s.upBirth == t.upBirth && (s.kind == t.kind && (s.user.toList == t.user.toList && (s.label.toList == t.label.toList && (s.scopes == t.scopes && (s.level == t.level && (s.born == t.born && (s.deadline == t.deadline && s.depth == t.depth))))))))))

theorem Sess.same_refl (s : Sess) : s.same s = true := by simp [Sess.same]

theorem ite_ok_false {p : Prop} [Decidable p] (c : Bool) (w : World) : (if p then Result.ok (Value.bool c) w else Result.ok (Value.bool false) w) = Result.ok (Value.bool (decide p && c)) w := by split <;> simp_all
theorem ite_ok_true {p : Prop} [Decidable p] (c : Bool) (w : World) : (if p then Result.ok (Value.bool c) w else Result.ok (Value.bool true) w) = Result.ok (Value.bool (!decide p || c)) w := by split <;> simp_all

theorem eql_sess (s t : Sess) (w : World) : (binOp .eql 28 (.agg s.cells) (.agg t.cells)).run Try.prog w = .ok (.bool (s.same t)) w := by
  unfold Sess.cells
  simp [go_sem, ite_ok_false, Sess.same, Bool.beq_eq_decide_eq]
  
theorem neq_sess (s t : Sess) (w : World) : (binOp .neq 28 (.agg s.cells) (.agg t.cells)).run Try.prog w = .ok (.bool (!s.same t)) w := by
  unfold Sess.cells
  simp [go_sem, ite_ok_true, Sess.same, Bool.beq_eq_decide_eq]

@[go_sem] theorem Sess.c0 (s : Sess) : (Sess.cells s)[0]? = some (.int .i64 s.slot) := rfl
@[go_sem] theorem Sess.c1 (s : Sess) : (Sess.cells s)[1]? = some (.int .i64 s.birth) := rfl
@[go_sem] theorem Sess.c2 (s : Sess) : (Sess.cells s)[2]? = some (.int .i64 s.upSlot) := rfl
@[go_sem] theorem Sess.c3 (s : Sess) : (Sess.cells s)[3]? = some (.int .i64 s.upBirth) := rfl
@[go_sem] theorem Sess.c4 (s : Sess) : (Sess.cells s)[4]? = some (.int .i64 s.kind) := rfl
@[go_sem] theorem Sess.c5 (s : Sess) : (Sess.cells s)[5]? = some (.string s.user) := rfl
@[go_sem] theorem Sess.c6 (s : Sess) : (Sess.cells s)[6]? = some (.string s.label) := rfl
@[go_sem] theorem Sess.c7 (s : Sess) : (Sess.cells s)[7]? = some (.int .u64 s.scopes) := rfl
@[go_sem] theorem Sess.c8 (s : Sess) : (Sess.cells s)[8]? = some (.int .i64 s.level) := rfl
@[go_sem] theorem Sess.c9 (s : Sess) : (Sess.cells s)[9]? = some (.int .i64 s.born) := rfl
@[go_sem] theorem Sess.c10 (s : Sess) : (Sess.cells s)[10]? = some (.int .i64 s.deadline) := rfl
@[go_sem] theorem Sess.c11 (s : Sess) : (Sess.cells s)[11]? = some (.int .i64 s.depth) := rfl
@[go_sem] theorem Sess.cells_size (s : Sess) : (Sess.cells s).size = 12 := rfl
theorem Sess.one (s : Sess) : ∀ v ∈ (Sess.cells s).toList, v.oneCell' = true := by
  intro v hv
  simp [Sess.cells] at hv
  rcases hv with rfl | rfl | rfl | rfl | rfl | rfl | rfl | rfl | rfl | rfl | rfl | rfl <;> rfl
theorem info28 : (Try.prog.info? 28).map (·.size) = some 12 := by kernel_rfl

end Go.Proofs.Ytnofnolkdijocaa
