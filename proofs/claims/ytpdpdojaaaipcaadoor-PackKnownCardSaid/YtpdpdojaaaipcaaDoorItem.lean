/-
  lineagelaw10.Item, Ask: their cells; lists of them that may be read.
-/
import Derived.Test.YtpdpdojaaaipcaaDoorPkSame
namespace Go.Proofs.YtpdpdojaaaipcaaDoor
set_option maxRecDepth 100000
open Go.RowKit
def ItemV.cells (x : ItemV) : Array Value := #[.bool x.isText, .int .u64 (wd x.v), .string x.s]
@[go_sem] theorem ItemV.size (x : ItemV) : (ItemV.cells x).size = 3 := rfl
/-- A list of items that may be read. -/
def ItemsAt (w : World) (A : Option Addr) (xs : List ItemV) : Prop := 0 < xs.length → ∃ b off, A = some ⟨b, off, none⟩ ∧ b < w.heap.size ∧ ∀ k y, xs[k]? = some y → RowAt w b (off + k * 3) y.cells
theorem ItemsAt.below {w w' : World} {A : Option Addr} {xs : List ItemV} {B : Nat} (h : ItemsAt w A xs) (hb : Below B w w') (hB : w.heap.size ≤ B) : ItemsAt w' A xs := fun hn => by
  obtain ⟨b, off, rfl, hlt, hc⟩ := h hn
  have hs := hb.size
  exact ⟨b, off, rfl, by omega, fun k i hk => (hc k i hk).below hb (by omega)⟩
/-- Their bytes. -/
def encs (xs : List ItemV) : List UInt8 := xs.flatMap encI
theorem encs_snoc (xs : List ItemV) (x : ItemV) : encs (xs ++ [x]) = encs xs ++ encI x := by simp [encs]
theorem encs_take {xs : List ItemV} {k : Nat} {x : ItemV} (h : xs[k]? = some x) : encs (xs.take (k + 1)) = encs (xs.take k) ++ encI x := by
  rw [List.take_add_one, h, Option.toList_some, encs_snoc]
theorem encs_split {xs : List ItemV} {k : Nat} {x : ItemV} (h : xs[k]? = some x) : encs xs = encs (xs.take k) ++ (encI x ++ encs (xs.drop (k + 1))) := by
  obtain ⟨h1, h2⟩ := List.getElem?_eq_some_iff.1 h
  conv => lhs; rw [← List.take_append_drop k xs]
  rw [encs, List.flatMap_append]
  congr 1
  rw [List.drop_eq_getElem_cons h1, h2]
  rfl
theorem encI_text (y : BitVec 64) (s : ByteArray) : encI ⟨true, y, s⟩ = sevens s.size ++ s.data.toList := if_pos (c := (true : Bool) = true) (by rfl)
theorem encI_num (y : BitVec 64) (s : ByteArray) : encI ⟨false, y, s⟩ = sevens y.toNat := if_neg (c := (false : Bool) = true) (by decide)
theorem encI_le (x : ItemV) (hs : x.s.size < 2 ^ 63) : (encI x).length ≤ 10 + x.s.size := by
  unfold encI
  have hl : x.s.data.toList.length = x.s.size := by rw [Array.length_toList]; rfl
  split
  · rw [List.length_append, hl]
    have := sevens_le 9 x.s.size (Nat.lt_trans hs (by decide))
    omega
  · have := sevens_ten x.v
    omega
theorem encs_le : ∀ xs : List ItemV, (∀ x ∈ xs, x.s.size < 2 ^ 63) → (encs xs).length ≤ 10 * xs.length + (xs.map fun x => x.s.size).sum
  | [], _ => Nat.le_refl _
  | x :: r, h => by
    have h1 := encs_le r (fun y hy => h y (List.mem_cons_of_mem _ hy))
    have h2 := encI_le x (h x (List.mem_cons_self ..))
    simp only [encs, List.flatMap_cons, List.length_append, List.length_cons, List.map_cons, List.sum_cons] at *
    omega
end Go.Proofs.YtpdpdojaaaipcaaDoor
