/-
  Rows of bytes, by place; bytes that a slice holds. Over any program.
-/
import Derived.Test.YtpdpdojaaaipcaaDoorMem
namespace Go.Proofs.YtpdpdojaaaipcaaDoor
set_option maxRecDepth 100000
open Go.RowKit

/-- n bytes, by place. -/
def rowU8 (n : Nat) (F : Nat → Nat) : Array Value := ((List.range n).map fun i => Value.int .u8 (F i : Int)).toArray
theorem rowU8_size (n : Nat) (F : Nat → Nat) : (rowU8 n F).size = n := by simp [rowU8]
theorem rowU8_get {n : Nat} {F : Nat → Nat} {j : Nat} (h : j < n) : (rowU8 n F)[j]? = some (.int .u8 (F j : Int)) := by
  simp [rowU8, h]
theorem rowU8_set (n : Nat) (F : Nat → Nat) (k x : Nat) : (rowU8 n F).setIfInBounds k (.int .u8 (x : Int)) = rowU8 n (fun j => if j = k then x else F j) := by
  apply Array.ext_getElem?
  intro j
  rw [Array.getElem?_setIfInBounds]
  by_cases hj : j < n
  · by_cases e : k = j
    · subst e; simp [rowU8, hj]
    · have e' : ¬ j = k := fun h => e h.symm
      simp [rowU8, hj, e, e']
  · by_cases e : k = j
    · subst e; simp [rowU8, hj]
    · simp [rowU8, hj, e]
theorem rowU8_congr {n : Nat} {F G : Nat → Nat} (h : ∀ j, j < n → F j = G j) : rowU8 n F = rowU8 n G := by
  unfold rowU8
  congr 1
  apply List.map_congr_left
  intro j hj
  rw [h j (by simpa using hj)]

/-- The slice with the address A holds the bytes l. -/
def BytesAt (w : World) (A : Option Addr) (l : List UInt8) : Prop := 0 < l.length → ∃ b off, A = some ⟨b, off, none⟩ ∧ b < w.heap.size ∧ ∀ k x, l[k]? = some x → w.cell? ⟨b, off + k, none⟩ = some (.int .u8 (x.toNat : Int))
theorem BytesAt.below {w w' : World} {A : Option Addr} {l : List UInt8} {B : Nat} (h : BytesAt w A l) (hb : Below B w w') (hB : w.heap.size ≤ B) : BytesAt w' A l := fun hn => by
  obtain ⟨b, off, rfl, hlt, hc⟩ := h hn
  have hs := hb.size
  exact ⟨b, off, rfl, by omega, fun k x hk => (hb.cell (p := ⟨b, off + k, none⟩) (by show b < B; omega)).trans (hc k x hk)⟩
theorem BytesAt.take {w : World} {A : Option Addr} {l : List UInt8} (h : BytesAt w A l) (n : Nat) : BytesAt w A (l.take n) := fun hn => by
  have hl : 0 < l.length := by simp at hn; omega
  obtain ⟨b, off, rfl, hlt, hc⟩ := h hl
  exact ⟨b, off, rfl, hlt, fun k x hk => hc k x (by rw [List.getElem?_take] at hk; split at hk <;> simp_all)⟩
theorem BytesAt.drop {w : World} {b off : Nat} {l : List UInt8} (h : BytesAt w (some ⟨b, off, none⟩) l) (n : Nat) : BytesAt w (some ⟨b, off + n, none⟩) (l.drop n) := fun hn => by
  have hl : 0 < l.length := by simp at hn; omega
  obtain ⟨b', off', e, hlt, hc⟩ := h hl
  injection e with e; injection e with e1 e2; subst e1 e2
  exact ⟨b, off + n, rfl, hlt, fun k x hk => by rw [Nat.add_assoc]; exact hc _ x (by simpa [List.getElem?_drop] using hk)⟩
theorem BytesAt.nil (w : World) (A : Option Addr) : BytesAt w A [] := fun h => absurd h (by simp)
theorem BytesAt.row {w : World} {g n : Nat} {t : TypeId} {F : Nat → Nat} (h : Blk w g t (rowU8 n F)) (hF : ∀ j, j < n → F j < 256) : BytesAt w (some ⟨g, 0, none⟩) ((List.range n).map fun j => UInt8.ofNat (F j)) := fun _ =>
  ⟨g, 0, rfl, h.lt, fun k x hk => by
    have hkn : k < n := by have := (List.getElem?_eq_some_iff.1 hk).1; simpa using this
    rw [Nat.zero_add, h.cell, rowU8_get hkn]
    rw [List.getElem?_map, List.getElem?_range hkn] at hk
    simp only [Option.map_some, Option.some.injEq] at hk
    rw [← hk, UInt8.toNat_ofNat', Nat.mod_eq_of_lt (hF k hkn)]⟩
end Go.Proofs.YtpdpdojaaaipcaaDoor
