/-
  Sessions, requests and births as records: their cells, and when two sessions are the same.
-/
import Derived.Test.YthoibafhbacfiaaDoorProg
import Derived.Test.YthoibafhbacfiaaDoorMem
import Derived.Test.YthoibafhbacfiaaDoorWord
namespace Go.Proofs.YthoibafhbacfiaaDoor
set_option maxRecDepth 100000
open Go.RowKit Go.Sort

structure Sess where
  slot : Int
  birth : Int
  upSlot : Int
  upBirth : Int
  kind : Int
  user : ByteArray
  label : ByteArray
  scopes : BitVec 64
  level : Int
  born : Int
  deadline : Int
  depth : Int
structure Req where
  user : ByteArray
  label : ByteArray
  scopes : BitVec 64
  level : Int
  life : Int
structure Bir where
  p : Sess
  r : Req
  now : Int
  births : Int
  full : Bool
  till : Int
/-- A session as Go holds it. -/
def Sess.cells (s : Sess) : Array Value := #[.int .i64 s.slot, .int .i64 s.birth, .int .i64 s.upSlot, .int .i64 s.upBirth, .int .i64 s.kind, .string s.user, .string s.label, .int .u64 (wd s.scopes), .int .i64 s.level, .int .i64 s.born, .int .i64 s.deadline, .int .i64 s.depth]
@[go_sem] theorem Sess.c0 (s : Sess) : (Sess.cells s)[0]? = some (.int .i64 s.slot) := rfl
@[go_sem] theorem Sess.c1 (s : Sess) : (Sess.cells s)[1]? = some (.int .i64 s.birth) := rfl
@[go_sem] theorem Sess.c2 (s : Sess) : (Sess.cells s)[2]? = some (.int .i64 s.upSlot) := rfl
@[go_sem] theorem Sess.c3 (s : Sess) : (Sess.cells s)[3]? = some (.int .i64 s.upBirth) := rfl
@[go_sem] theorem Sess.c4 (s : Sess) : (Sess.cells s)[4]? = some (.int .i64 s.kind) := rfl
@[go_sem] theorem Sess.c5 (s : Sess) : (Sess.cells s)[5]? = some (.string s.user) := rfl
@[go_sem] theorem Sess.c6 (s : Sess) : (Sess.cells s)[6]? = some (.string s.label) := rfl
@[go_sem] theorem Sess.c7 (s : Sess) : (Sess.cells s)[7]? = some (.int .u64 (wd s.scopes)) := rfl
@[go_sem] theorem Sess.c8 (s : Sess) : (Sess.cells s)[8]? = some (.int .i64 s.level) := rfl
@[go_sem] theorem Sess.c9 (s : Sess) : (Sess.cells s)[9]? = some (.int .i64 s.born) := rfl
@[go_sem] theorem Sess.c10 (s : Sess) : (Sess.cells s)[10]? = some (.int .i64 s.deadline) := rfl
@[go_sem] theorem Sess.c11 (s : Sess) : (Sess.cells s)[11]? = some (.int .i64 s.depth) := rfl
@[go_sem] theorem Sess.cells_size (s : Sess) : (Sess.cells s).size = 12 := rfl
theorem Sess.one (s : Sess) : ∀ u ∈ (Sess.cells s).toList, u.oneCell' = true := by
  intro u hu
  simp [Sess.cells] at hu
  rcases hu with rfl | rfl | rfl | rfl | rfl | rfl | rfl | rfl | rfl | rfl | rfl | rfl <;> rfl
/-- A request as Go holds it. -/
def Req.cells (r : Req) : Array Value := #[.string r.user, .string r.label, .int .u64 (wd r.scopes), .int .i64 r.level, .int .i64 r.life]
@[go_sem] theorem Req.c0 (r : Req) : (Req.cells r)[0]? = some (.string r.user) := rfl
@[go_sem] theorem Req.c1 (r : Req) : (Req.cells r)[1]? = some (.string r.label) := rfl
@[go_sem] theorem Req.c2 (r : Req) : (Req.cells r)[2]? = some (.int .u64 (wd r.scopes)) := rfl
@[go_sem] theorem Req.c3 (r : Req) : (Req.cells r)[3]? = some (.int .i64 r.level) := rfl
@[go_sem] theorem Req.c4 (r : Req) : (Req.cells r)[4]? = some (.int .i64 r.life) := rfl
@[go_sem] theorem Req.cells_size (r : Req) : (Req.cells r).size = 5 := rfl
theorem Req.one (r : Req) : ∀ u ∈ (Req.cells r).toList, u.oneCell' = true := by
  intro u hu
  simp [Req.cells] at hu
  rcases hu with rfl | rfl | rfl | rfl | rfl <;> rfl
/-- A birth as Go holds it. -/
def Bir.cells (b : Bir) : Array Value := #[.int .i64 b.p.slot, .int .i64 b.p.birth, .int .i64 b.p.upSlot, .int .i64 b.p.upBirth, .int .i64 b.p.kind, .string b.p.user, .string b.p.label, .int .u64 (wd b.p.scopes), .int .i64 b.p.level, .int .i64 b.p.born, .int .i64 b.p.deadline, .int .i64 b.p.depth, .string b.r.user, .string b.r.label, .int .u64 (wd b.r.scopes), .int .i64 b.r.level, .int .i64 b.r.life, .int .i64 b.now, .int .i64 b.births, .bool b.full, .int .i64 b.till]
@[go_sem] theorem Bir.c0 (b : Bir) : (Bir.cells b)[0]? = some (.int .i64 b.p.slot) := rfl
@[go_sem] theorem Bir.c1 (b : Bir) : (Bir.cells b)[1]? = some (.int .i64 b.p.birth) := rfl
@[go_sem] theorem Bir.c2 (b : Bir) : (Bir.cells b)[2]? = some (.int .i64 b.p.upSlot) := rfl
@[go_sem] theorem Bir.c3 (b : Bir) : (Bir.cells b)[3]? = some (.int .i64 b.p.upBirth) := rfl
@[go_sem] theorem Bir.c4 (b : Bir) : (Bir.cells b)[4]? = some (.int .i64 b.p.kind) := rfl
@[go_sem] theorem Bir.c5 (b : Bir) : (Bir.cells b)[5]? = some (.string b.p.user) := rfl
@[go_sem] theorem Bir.c6 (b : Bir) : (Bir.cells b)[6]? = some (.string b.p.label) := rfl
@[go_sem] theorem Bir.c7 (b : Bir) : (Bir.cells b)[7]? = some (.int .u64 (wd b.p.scopes)) := rfl
@[go_sem] theorem Bir.c8 (b : Bir) : (Bir.cells b)[8]? = some (.int .i64 b.p.level) := rfl
@[go_sem] theorem Bir.c9 (b : Bir) : (Bir.cells b)[9]? = some (.int .i64 b.p.born) := rfl
@[go_sem] theorem Bir.c10 (b : Bir) : (Bir.cells b)[10]? = some (.int .i64 b.p.deadline) := rfl
@[go_sem] theorem Bir.c11 (b : Bir) : (Bir.cells b)[11]? = some (.int .i64 b.p.depth) := rfl
@[go_sem] theorem Bir.c12 (b : Bir) : (Bir.cells b)[12]? = some (.string b.r.user) := rfl
@[go_sem] theorem Bir.c13 (b : Bir) : (Bir.cells b)[13]? = some (.string b.r.label) := rfl
@[go_sem] theorem Bir.c14 (b : Bir) : (Bir.cells b)[14]? = some (.int .u64 (wd b.r.scopes)) := rfl
@[go_sem] theorem Bir.c15 (b : Bir) : (Bir.cells b)[15]? = some (.int .i64 b.r.level) := rfl
@[go_sem] theorem Bir.c16 (b : Bir) : (Bir.cells b)[16]? = some (.int .i64 b.r.life) := rfl
@[go_sem] theorem Bir.c17 (b : Bir) : (Bir.cells b)[17]? = some (.int .i64 b.now) := rfl
@[go_sem] theorem Bir.c18 (b : Bir) : (Bir.cells b)[18]? = some (.int .i64 b.births) := rfl
@[go_sem] theorem Bir.c19 (b : Bir) : (Bir.cells b)[19]? = some (.bool b.full) := rfl
@[go_sem] theorem Bir.c20 (b : Bir) : (Bir.cells b)[20]? = some (.int .i64 b.till) := rfl
@[go_sem] theorem Bir.cells_size (b : Bir) : (Bir.cells b).size = 21 := rfl
theorem Bir.one (b : Bir) : ∀ u ∈ (Bir.cells b).toList, u.oneCell' = true := by
  intro u hu
  simp [Bir.cells] at hu
  rcases hu with rfl | rfl | rfl | rfl | rfl | rfl | rfl | rfl | rfl | rfl | rfl | rfl | rfl | rfl | rfl | rfl | rfl | rfl | rfl | rfl | rfl <;> rfl
def Sess.zero : Sess := ⟨0, 0, 0, 0, 0, ⟨#[]⟩, ⟨#[]⟩, 0#64, 0, 0, 0, 0⟩
def Bir.zero : Bir := ⟨Sess.zero, ⟨⟨#[]⟩, ⟨#[]⟩, 0#64, 0, 0⟩, 0, 0, false, 0⟩
/-- Two sessions are the same. -/
def Sess.same (s t : Sess) : Bool := s.slot == t.slot && (s.birth == t.birth && (s.upSlot == t.upSlot && (s.upBirth == t.upBirth && (s.kind == t.kind && (s.user.toList == t.user.toList && (s.label.toList == t.label.toList && (s.scopes == t.scopes && (s.level == t.level && (s.born == t.born && (s.deadline == t.deadline && (s.depth == t.depth)))))))))))
theorem Sess.same_refl (s : Sess) : s.same s = true := by simp [Sess.same]
theorem Sess.same_eq {s t : Sess} (h : s.same t = true) : s = t := by
  have hb : ∀ a b : ByteArray, a.toList = b.toList → a = b := fun a b e => by
    rw [Go.ByteArray.toList_eq, Go.ByteArray.toList_eq] at e
    exact ByteArray.ext (Array.toList_inj.1 e)
  simp only [Sess.same, Bool.and_eq_true, beq_iff_eq] at h
  obtain ⟨h0, h1, h2, h3, h4, h5, h6, h7, h8, h9, h10, h11⟩ := h
  cases s; cases t
  simp only [Sess.mk.injEq]
  exact ⟨h0, h1, h2, h3, h4, hb _ _ h5, hb _ _ h6, h7, h8, h9, h10, h11⟩
theorem ite_ok_false {p : Prop} [Decidable p] (c : Bool) (w : World) : (if p then Result.ok (Value.bool c) w else Result.ok (Value.bool false) w) = Result.ok (Value.bool (decide p && c)) w := by split <;> simp_all
theorem ite_ok_true {p : Prop} [Decidable p] (c : Bool) (w : World) : (if p then Result.ok (Value.bool c) w else Result.ok (Value.bool true) w) = Result.ok (Value.bool (!decide p || c)) w := by split <;> simp_all
theorem wd_eqP (x y : BitVec 64) : (wd x = wd y) = (x = y) := by
  apply propext; exact ⟨wd_inj, fun e => by rw [e]⟩
theorem eql_sess (s t : Sess) (w : World) : (binOp .eql 31 (.agg s.cells) (.agg t.cells)).run Tryd.prog w = .ok (.bool (s.same t)) w := by
  unfold Sess.cells
  simp [go_sem, ite_ok_false, Sess.same, Bool.beq_eq_decide_eq, wd_eqP]
theorem neq_sess (s t : Sess) (w : World) : (binOp .neq 31 (.agg s.cells) (.agg t.cells)).run Tryd.prog w = .ok (.bool (!s.same t)) w := by
  unfold Sess.cells
  simp [go_sem, ite_ok_true, Sess.same, Bool.beq_eq_decide_eq, wd_eqP]
theorem sessInfo : (Tryd.prog.info? 31).map (·.size) = some 12 := by kernel_rfl
theorem reqInfo : (Tryd.prog.info? 25).map (·.size) = some 5 := by kernel_rfl
theorem birInfo : (Tryd.prog.info? 70).map (·.size) = some 21 := by kernel_rfl
end Go.Proofs.YthoibafhbacfiaaDoor
