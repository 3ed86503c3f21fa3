/-
  Arguments opened: a slice of structs as a list.
-/
import Derived.Test.YtahcedpfnechfaaDoorMem
import Derived.ProofKit
import Derived.OpenShut
import Derived.Deep.Slices
import Derived.SizedLaws
import Derived.ChangeSame
namespace Go.Proofs.YtahcedpfnechfaaDoor
set_option maxRecDepth 100000
open Go.RowKit Go.Deep Go.ChangeShapes Go.WideShapes

section
variable {H : Type} {enc : TypeId × Value → H} {P : Program} {w : World} {base : Nat} {spare : Nat → Bool} {held : Bool}
/-- A slice that came in, as a list: its cells, element by element. -/
theorem open_rows {α : Type} (f : α → Array Value) {t e : TypeId} {size : Nat} (ht : P.underlying t = some (.slice e)) (hC : P.cellsOf e = size) (h0 : 0 < size) (hfs : ∀ x, (f x).size = size)
    (rd : ∀ m cs y, DataW.trod enc P w base spare held m e cs = some y → ∃ x, cs = (f x).toList) {fuel : Nat} {A : Option Addr} {n c : Nat} {x : DataW H × List MemPlace}
    (h : DataW.trod enc P w base spare held fuel t [.slice A n c] = some x) :
    ∃ xs : List α, xs.length = n ∧ n ≤ c ∧ ((n = 0 ∧ x.1 = .nil) ∨ ∃ el sp, x.1 = .slice el sp ∧ el.length = n) ∧
      (0 < n → ∃ b off, A = some ⟨b, off, none⟩ ∧ b < w.heap.size ∧ ∀ k y, xs[k]? = some y → RowAt w b (off + k * size) (f y)) := by
  rcases open_slice ht h with ⟨hcs, rfl⟩ | ⟨a, len, cap, m, mm, D, Pl, hcs, hb, hl, hm, hmm, rfl, hi⟩
  · obtain ⟨rfl, rfl, rfl⟩ : A = none ∧ n = 0 ∧ c = 0 := by simpa using hcs
    exact ⟨[], rfl, Nat.le_refl _, .inl ⟨rfl, rfl⟩, fun h => absurd h (by omega)⟩
  · obtain ⟨rfl, rfl, rfl⟩ : A = some a ∧ n = len ∧ c = cap := by simpa using hcs
    have hlm : n ≤ m := by rw [hmm]; split <;> omega
    have key : ∀ i, i < n → ∃ x, ∀ j v, (f x)[j]? = some v → w.cell? (a.add (i * size + j)) = some v := fun i hin => by
      obtain ⟨cs', hc, ht'⟩ := hi i (by omega)
      obtain ⟨x, rfl⟩ := rd _ _ _ ht'
      obtain ⟨_, _, hat⟩ := World.cells?_some hc
      refine ⟨x, fun j v hv => ?_⟩
      have hj : j < size := by rw [← hfs x]; exact (Array.getElem?_eq_some_iff.1 hv).1
      have := hat j (by rw [hC]; exact hj)
      rw [hC] at this
      rw [← Go.Deep.add_add, this]
      simpa using hv
    have hx : ∃ xs : List α, xs.length = n ∧ ∀ (k : Nat) (y : α), xs[k]? = some y → ∀ (j : Nat) (v : Value), (f y)[j]? = some v → w.cell? (a.add (k * size + j)) = some v := by
      by_cases hn : n = 0
      · exact ⟨[], by simp [hn], fun k y h => by simp at h⟩
      · obtain ⟨x0, _⟩ := key 0 (by omega)
        have key' : ∀ i, ∃ x, i < n → ∀ j v, (f x)[j]? = some v → w.cell? (a.add (i * size + j)) = some v := fun i => by
          by_cases h : i < n
          · obtain ⟨x, hx⟩ := key i h; exact ⟨x, fun _ => hx⟩
          · exact ⟨x0, fun h' => absurd h' h⟩
        obtain ⟨F, hF⟩ := Classical.axiomOfChoice key'
        refine ⟨(List.range n).map F, by simp, fun k y hy => ?_⟩
        have hk : k < n := by have := (List.getElem?_eq_some_iff.1 hy).1; simpa using this
        rw [List.getElem?_map, List.getElem?_range hk] at hy
        simp at hy
        subst hy
        exact hF k hk
    obtain ⟨xs, hxl, hxc⟩ := hx
    refine ⟨xs, hxl, hl, .inr ⟨_, _, rfl, by simp⟩, fun hn => ?_⟩
    obtain ⟨y, hy⟩ : ∃ y, xs[0]? = some y := ⟨_, List.getElem?_eq_getElem (by omega)⟩
    have h00 := hxc 0 y hy 0 ((f y)[0]'(by rw [hfs]; exact h0)) (Array.getElem?_eq_getElem _)
    obtain ⟨b, off, spot⟩ := a
    obtain rfl : spot = none := by simpa [Addr.add] using World.cell?_spot h00
    refine ⟨b, off, rfl, ?_, fun k y hy => ⟨fun j v hv => ?_⟩⟩
    · have := World.block_lt_of_cell? w _ h00
      simpa [Addr.add] using this
    · have := hxc k y hy j v hv
      rw [Addr.add_lit] at this
      rwa [Nat.add_assoc]

/-- A struct that was read: each field's reading. -/
theorem open_fields {t : TypeId} {fs : Array Field} (ht : P.underlying t = some (.struct fs)) {m : Nat} {cs : List Value} {y : DataW H × List MemPlace} (h : DataW.trod enc P w base spare held m t cs = some y) :
    cs.length = P.cellsOf t ∧ ∀ (i : Nat) (f : Field), fs[i]? = some f → ∃ n yi, DataW.trod enc P w base spare held n f.type ((cs.drop f.offset).take (P.cellsOf f.type)) = some yi := by
  obtain ⟨ys, n, _, _, hl, hyl, hf⟩ := DataW.trod_struct ht h
  refine ⟨hl, fun i f hi => ?_⟩
  have hlt : i < ys.length := by rw [hyl]; exact (Array.getElem?_eq_some_iff.1 hi).1
  exact ⟨n, ys[i], by rw [hf i f hi, List.getElem?_eq_getElem hlt]⟩
end
theorem list2 {α : Type} {l : List α} (h : l.length = 2) : ∃ a b, l = [a, b] := by
  match l, h with
  | [a, b], _ => exact ⟨a, b, rfl⟩
theorem list3 {α : Type} {l : List α} (h : l.length = 3) : ∃ a b c, l = [a, b, c] := by
  match l, h with
  | [a, b, c], _ => exact ⟨a, b, c, rfl⟩
theorem list12 {α : Type} {l : List α} (h : l.length = 12) : ∃ a0 a1 a2 a3 a4 a5 a6 a7 a8 a9 a10 a11, l = [a0, a1, a2, a3, a4, a5, a6, a7, a8, a9, a10, a11] := by
  match l, h with
  | [a0, a1, a2, a3, a4, a5, a6, a7, a8, a9, a10, a11], _ => exact ⟨a0, a1, a2, a3, a4, a5, a6, a7, a8, a9, a10, a11, rfl⟩
end Go.Proofs.YtahcedpfnechfaaDoor
