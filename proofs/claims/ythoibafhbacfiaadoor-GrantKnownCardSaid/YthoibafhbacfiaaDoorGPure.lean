/-
  What a birth is, and what refuses it: in numbers, of no program.
-/
import Derived.Test.YthoibafhbacfiaaDoorGSess
import Derived.Test.YthoibafhbacfiaaDoorGWithin
import Derived.Test.YthoibafhbacfiaaDoorGName
import Derived.Test.YthoibafhbacfiaaDoorLev
namespace Go.Proofs.YthoibafhbacfiaaDoor
set_option maxRecDepth 100000
open Go.RowKit

/-- The deadline of a life; 0: there is none. -/
def tillZ (now life most : Int) : Int := if 0 ≤ now ∧ now ≤ 1099511627776 ∧ 0 ≤ most ∧ most ≤ 1099511627776 ∧ 1 ≤ life ∧ life ≤ 1073741824 ∧ now < most then min (now + life) most else 0
theorem till_pos {now life most : Int} (h : tillZ now life most ≠ 0) : 0 ≤ now ∧ now ≤ 1099511627776 ∧ 0 ≤ most ∧ most ≤ 1099511627776 ∧ 1 ≤ life ∧ life ≤ 1073741824 ∧ now < most ∧ tillZ now life most = min (now + life) most ∧ now < tillZ now life most := by
  unfold tillZ at h ⊢
  split at h
  · rename_i hc
    rw [if_pos hc]
    refine ⟨hc.1, hc.2.1, hc.2.2.1, hc.2.2.2.1, hc.2.2.2.2.1, hc.2.2.2.2.2.1, hc.2.2.2.2.2.2, rfl, ?_⟩
    omega
  · exact absurd rfl h
/-- What refuses a birth for want of room. -/
def roomNo (births : Int) (full : Bool) : Int := if births < 0 ∨ 1048576 ≤ births then 18 else if full = true then 19 else 0
def loginNo (r : Req) (now births : Int) (full : Bool) : Int :=
  if nameB r.user = false then 8 else if isLev r.level = false then 13 else if tillZ now r.life 1099511627776 = 0 then 12 else roomNo births full
def belowNo (p : Sess) (r : Req) (now : Int) : Int :=
  if nameB r.label = false then 8 else if tillZ now r.life p.deadline = 0 then 12 else if p.depth < 0 ∨ 6 ≤ p.depth then 17 else 0
def childNo (p : Sess) (r : Req) (now births : Int) (full : Bool) : Int :=
  if nameB r.label = false then 8 else if tillZ now r.life p.deadline = 0 then 12 else if p.depth < 0 ∨ 6 ≤ p.depth then 17 else if inB r.scopes p.scopes = false then 11 else roomNo births full
/-- A step up that there is. -/
def stepB (a b : Int) : Bool := isLev a && isLev b && decide (a < b)
def raisedNo (p : Sess) (r : Req) (now births : Int) (full : Bool) : Int :=
  if nameB r.label = false then 8 else if tillZ now r.life p.deadline = 0 then 12 else if 300 < r.life then 12 else if p.depth < 0 ∨ 6 ≤ p.depth then 17 else if stepB p.level r.level = false then 13 else roomNo births full
def loginS (r : Req) (now births : Int) : Sess := ⟨0, births + 1, 0, 0, 0, r.user, ⟨#[]⟩, r.scopes, r.level, now, tillZ now r.life 1099511627776, 0⟩
/-- A session below another one, of this kind. -/
def belowS (p : Sess) (r : Req) (now births kind : Int) (x : BitVec 64) (l : Int) : Sess := ⟨0, births + 1, p.slot, p.birth, kind, p.user, r.label, x, l, now, tillZ now r.life p.deadline, p.depth + 1⟩
def loginR (r : Req) (now births : Int) (full : Bool) : Sess := if loginNo r now births full = 0 then loginS r now births else Sess.zero
def childR (p : Sess) (r : Req) (now births : Int) (full : Bool) : Sess := if childNo p r now births full = 0 then belowS p r now births 1 r.scopes p.level else Sess.zero
def raisedR (p : Sess) (r : Req) (now births : Int) (full : Bool) : Sess := if raisedNo p r now births full = 0 then belowS p r now births 2 p.scopes r.level else Sess.zero
theorem roomNo_in (b : Int) (f : Bool) : roomNo b f = 0 ∨ roomNo b f = 18 ∨ roomNo b f = 19 := by unfold roomNo; repeat' split <;> simp
theorem loginNo_le (r : Req) (now b : Int) (f : Bool) : 0 ≤ loginNo r now b f ∧ loginNo r now b f ≤ 24 := by
  unfold loginNo; have := roomNo_in b f; repeat' split <;> omega
theorem childNo_le (p : Sess) (r : Req) (now b : Int) (f : Bool) : 0 ≤ childNo p r now b f ∧ childNo p r now b f ≤ 24 := by
  unfold childNo; have := roomNo_in b f; repeat' split <;> omega
theorem raisedNo_le (p : Sess) (r : Req) (now b : Int) (f : Bool) : 0 ≤ raisedNo p r now b f ∧ raisedNo p r now b f ≤ 24 := by
  unfold raisedNo; have := roomNo_in b f; repeat' split <;> omega

/-! ### rules -/
/-- A rule as Go holds it: its error's number, its function; and whether the birth breaks it. -/
structure Rule where
  no : Int
  f : FuncId
  c : Bool
def Rule.cells (r : Rule) : Array Value := #[.int .i64 r.no, .func (.func r.f) #[] #[]]
theorem Rule.cells_size (r : Rule) : r.cells.size = 2 := rfl
@[go_sem] theorem Rule.c0 (r : Rule) : (Rule.cells r)[0]? = some (.int .i64 r.no) := rfl
@[go_sem] theorem Rule.c1 (r : Rule) : (Rule.cells r)[1]? = some (.func (.func r.f) #[] #[]) := rfl
theorem Rule.one (r : Rule) : ∀ u ∈ r.cells.toList, u.oneCell' = true := by
  intro u hu; simp [Rule.cells] at hu; rcases hu with rfl | rfl <;> rfl
/-- The number of the first rule that is broken; 0: none. -/
def firstNo : List Rule → Int
  | [] => 0
  | r :: l => if r.c then r.no else firstNo l
theorem firstNo_skip : ∀ (l : List Rule) (k : Nat), (∀ j r, j < k → l[j]? = some r → r.c = false) → firstNo l = firstNo (l.drop k)
  | [], k, _ => by simp
  | r :: l, 0, _ => by simp
  | r :: l, k + 1, h => by
    have h0 : r.c = false := h 0 r (by omega) (by simp)
    rw [firstNo, h0, List.drop_succ_cons]
    exact firstNo_skip l k (fun j x hj hx => h (j + 1) x (by omega) (by simpa using hx))
end Go.Proofs.YthoibafhbacfiaaDoor
