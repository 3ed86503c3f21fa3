/-
  lineagelaw22.GrantLess holds.
-/
import Derived.Test.YthoibafhbacfiaaGWorks
import Derived.Test.YthoibafhbacfiaaGRaised
namespace Go.Proofs.Ythoibafhbacfiaa
set_option maxRecDepth 100000
open Go.RowKit

def thereC (now births : Int) (full : Bool) : Array Value := #[.int .i64 now, .int .i64 births, .bool full]
def Req.less (r : Req) : Req := { r with life := wrap64 (r.life - 1) }
def Req.fewer (r : Req) : Req := { r with scopes := r.scopes &&& 5#64 }
theorem inB_and {x y z : BitVec 64} (h : inB x y = true) : inB (x &&& z) y = true := by
  have h' : x &&& ~~~y = 0#64 := by simpa [inB] using h
  have : (x &&& z) &&& ~~~y = 0#64 := by
    rw [BitVec.and_assoc, BitVec.and_comm z, ← BitVec.and_assoc, h']; simp
  simp [inB, this]
theorem child_ok_iff (p : Sess) (r : Req) (now b : Int) (f : Bool) : childNo p r now b f = 0 ↔ nameB r.label = true ∧ tillZ now r.life p.deadline ≠ 0 ∧ ¬ (p.depth < 0 ∨ 6 ≤ p.depth) ∧ inB r.scopes p.scopes = true ∧ roomNo b f = 0 := by
  unfold childNo
  by_cases h1 : nameB r.label = true <;> by_cases h2 : tillZ now r.life p.deadline = 0 <;> by_cases h3 : p.depth < 0 ∨ 6 ≤ p.depth <;> by_cases h4 : inB r.scopes p.scopes = true <;> simp [h1, h2, h3, h4]
theorem raised_ok_iff (p : Sess) (r : Req) (now b : Int) (f : Bool) : raisedNo p r now b f = 0 ↔ nameB r.label = true ∧ tillZ now r.life p.deadline ≠ 0 ∧ ¬ 300 < r.life ∧ ¬ (p.depth < 0 ∨ 6 ≤ p.depth) ∧ stepB p.level r.level = true ∧ roomNo b f = 0 := by
  unfold raisedNo
  by_cases h1 : nameB r.label = true <;> by_cases h2 : tillZ now r.life p.deadline = 0 <;> by_cases h3 : p.depth < 0 ∨ 6 ≤ p.depth <;> by_cases h4 : stepB p.level r.level = true <;> by_cases h5 : 300 < r.life <;> simp [h1, h2, h3, h4, h5]
theorem till_less {now life most : Int} (h : tillZ now life most ≠ 0) (h1 : 1 < life) : wrap64 (life - 1) = life - 1 ∧ tillZ now (life - 1) most ≠ 0 := by
  obtain ⟨a1, a2, a3, a4, a5, a6, a7, _, _⟩ := till_pos h
  refine ⟨IntWalk.wrap64_in _ (by omega), ?_⟩
  have : tillZ now (life - 1) most = min (now + (life - 1)) most := if_pos ⟨a1, a2, a3, a4, by omega, by omega, a7⟩
  rw [this]; omega
theorem child_less {p : Sess} {r : Req} {now b : Int} {f : Bool} (h : childNo p r now b f = 0) : childNo p r.fewer now b f = 0 ∧ (1 < r.life → childNo p r.less now b f = 0) := by
  obtain ⟨h1, h2, h3, h4, h5⟩ := (child_ok_iff _ _ _ _ _).1 h
  refine ⟨(child_ok_iff _ _ _ _ _).2 ⟨h1, h2, h3, inB_and h4, h5⟩, fun hl => (child_ok_iff _ _ _ _ _).2 ⟨h1, ?_, h3, h4, h5⟩⟩
  obtain ⟨e, ht⟩ := till_less h2 hl
  show tillZ now (wrap64 (r.life - 1)) p.deadline ≠ 0
  rw [e]; exact ht
theorem raised_less {p : Sess} {r : Req} {now b : Int} {f : Bool} (h : raisedNo p r now b f = 0) (hl : 1 < r.life) : raisedNo p r.less now b f = 0 := by
  obtain ⟨h1, h2, h3, h4, h5, h6⟩ := (raised_ok_iff _ _ _ _ _).1 h
  obtain ⟨e, ht⟩ := till_less h2 hl
  refine (raised_ok_iff _ _ _ _ _).2 ⟨h1, ?_, ?_, h4, h5, h6⟩
  · show tillZ now (wrap64 (r.life - 1)) p.deadline ≠ 0
    rw [e]; exact ht
  · show ¬ 300 < wrap64 (r.life - 1)
    rw [e]; omega
/-- The variables of a law of chapter 22 at the world: the parent, the request, the place. -/
structure Vars (n : Nat) (p : Sess) (r : Req) (now births : Int) (full : Bool) (w : World) : Prop where
  bp : Blk w n 27 p.cells
  br : Blk w (n + 1) 29 r.cells
  bx : Blk w (n + 1 + 1) 31 (thereC now births full)
  lt : n + 1 + 1 < w.heap.size
section
variable {n : Nat} {p : Sess} {r : Req} {now births : Int} {full : Bool} {w w' : World}
theorem Vars.made (w : World) (p : Sess) (r : Req) (now births : Int) (full : Bool) : Vars w.heap.size p r now births full (((w.alloc (.cells p.cells 27)).alloc (.cells r.cells 29)).alloc (.cells (thereC now births full) 31)) :=
  ⟨((Blk.new w _ _).alloc _).alloc _, (Blk.new_at (by simp)).alloc _, Blk.new_at (by simp), by simp⟩
theorem Vars.go (v : Vars n p r now births full w) {B : Nat} (h : Below B w w') (hB : n + 1 + 1 < B) : Vars n p r now births full w' :=
  ⟨v.bp.below h (by omega), v.br.below h (by omega), v.bx.below h hB, Nat.lt_of_lt_of_le v.lt h.size⟩
theorem Vars.call (v : Vars n p r now births full w) (h : Below w.heap.size w w') : Vars n p r now births full w' := v.go h v.lt
theorem Vars.alloc (v : Vars n p r now births full w) (o : Obj) : Vars n p r now births full (w.alloc o) := v.call (bel_alloc (Below.refl _ _) o)
theorem Vars.x0 (v : Vars n p r now births full w) : w.cell? ⟨n + 1 + 1, 0, none⟩ = some (.int .i64 now) := v.bx.cell 0
theorem Vars.x1 (v : Vars n p r now births full w) : w.cell? ⟨n + 1 + 1, 1, none⟩ = some (.int .i64 births) := v.bx.cell 1
theorem Vars.x2 (v : Vars n p r now births full w) : w.cell? ⟨n + 1 + 1, 2, none⟩ = some (.bool full) := v.bx.cell 2
end
end Go.Proofs.Ythoibafhbacfiaa
