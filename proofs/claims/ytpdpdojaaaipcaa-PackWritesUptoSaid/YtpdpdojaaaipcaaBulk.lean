/-
  What the bound of an '..UptoSaid' gives: a slice opened with the bulk of its elements.
-/
import Derived.Test.YtpdpdojaaaipcaaRows
import Derived.Test.YtpdpdojaaaipcaaOpen
namespace Go.Proofs.Ytpdpdojaaaipcaa
set_option maxRecDepth 100000
open Go.RowKit Go.Deep Go.ChangeShapes Go.WideShapes
section
variable {H : Type}
theorem bulk_pos (d : DataW H) : 1 ≤ Rows.uptoBulk d := by
  cases d with
  | lit l => cases l <;> simp [Rows.uptoBulk]
  | nil => simp [Rows.uptoBulk]
  | ptr d => simp [Rows.uptoBulk]
  | slice el sp => simp [Rows.uptoBulk]
  | agg ps => simp [Rows.uptoBulk]
  | iface t d => simp [Rows.uptoBulk]
  | map es => simp [Rows.uptoBulk]
  | held h => simp [Rows.uptoBulk]
theorem bulk_mem {d : DataW H} : ∀ {l : List (DataW H)}, d ∈ l → Rows.uptoBulk d ≤ Rows.uptoBulkAll l
  | [], h => by cases h
  | x :: r, h => by
    simp only [Rows.uptoBulkAll]
    rcases List.mem_cons.1 h with e | h
    · subst e; omega
    · have := bulk_mem h; omega
theorem bulk_len : ∀ l : List (DataW H), l.length ≤ Rows.uptoBulkAll l
  | [] => Nat.zero_le _
  | x :: r => by
    have h1 := bulk_pos x
    have h2 := bulk_len r
    simp only [Rows.uptoBulkAll, List.length_cons]
    omega
theorem bulk_sum {α : Type} (bk : α → Nat) (F : Nat → α) (D : Nat → DataW H) : ∀ l : List Nat, (∀ i ∈ l, bk (F i) ≤ Rows.uptoBulk (D i)) → ((l.map F).map bk).sum ≤ Rows.uptoBulkAll (l.map D)
  | [], _ => Nat.le_refl _
  | i :: r, h => by
    have h1 := h i (List.mem_cons_self ..)
    have h2 := bulk_sum bk F D r (fun j hj => h j (List.mem_cons_of_mem _ hj))
    simp only [List.map_cons, List.sum_cons, Rows.uptoBulkAll]
    omega
variable {enc : TypeId × Value → H} {P : Program} {w : World} {base : Nat} {spare : Nat → Bool} {held : Bool}
/-- A slice that came in, as a list, with the bulk of what it holds. -/
theorem open_rows_b {α : Type} (f : α → Array Value) (bk : α → Nat) {t e : TypeId} {size : Nat} (ht : P.underlying t = some (.slice e)) (hC : P.cellsOf e = size) (h0 : 0 < size) (hfs : ∀ x, (f x).size = size)
    (rd : ∀ m cs y, DataW.trod enc P w base spare held m e cs = some y → ∃ x, cs = (f x).toList ∧ bk x ≤ Rows.uptoBulk y.1) {fuel : Nat} {A : Option Addr} {n c : Nat} {x : DataW H × List MemPlace}
    (h : DataW.trod enc P w base spare held fuel t [.slice A n c] = some x) :
    ∃ xs : List α, xs.length = n ∧ n ≤ c ∧ (A = none → c = 0) ∧ ((n = 0 ∧ x.1 = .nil) ∨ ∃ el sp, x.1 = .slice el sp ∧ el.length = n) ∧ (xs.map bk).sum ≤ Rows.uptoBulk x.1 ∧ n ≤ Rows.uptoBulk x.1 ∧
      (0 < n → ∃ b off, A = some ⟨b, off, none⟩ ∧ b < w.heap.size ∧ ∀ k y, xs[k]? = some y → RowAt w b (off + k * size) (f y)) := by
  rcases open_slice ht h with ⟨hcs, rfl⟩ | ⟨a, len, cap, m, mm, D, Pl, hcs, hb, hl, hm, hmm, rfl, hi⟩
  · obtain ⟨rfl, rfl, rfl⟩ : A = none ∧ n = 0 ∧ c = 0 := by simpa using hcs
    exact ⟨[], rfl, Nat.le_refl _, fun _ => rfl, .inl ⟨rfl, rfl⟩, Nat.zero_le _, Nat.zero_le _, fun h => absurd h (by omega)⟩
  · obtain ⟨rfl, rfl, rfl⟩ : A = some a ∧ n = len ∧ c = cap := by simpa using hcs
    have hlm : n ≤ m := by rw [hmm]; split <;> omega
    have key : ∀ i, i < n → ∃ x, (∀ j v, (f x)[j]? = some v → w.cell? (a.add (i * size + j)) = some v) ∧ bk x ≤ Rows.uptoBulk (D i) := fun i hin => by
      obtain ⟨cs', hc, ht'⟩ := hi i (by omega)
      obtain ⟨x, rfl, hbk⟩ := rd _ _ _ ht'
      obtain ⟨_, _, hat⟩ := World.cells?_some hc
      refine ⟨x, fun j v hv => ?_, hbk⟩
      have hj : j < size := by rw [← hfs x]; exact (Array.getElem?_eq_some_iff.1 hv).1
      have := hat j (by rw [hC]; exact hj)
      rw [hC] at this
      rw [← Go.Deep.add_add, this]
      simpa using hv
    have hx : ∃ xs : List α, xs.length = n ∧ (xs.map bk).sum ≤ Rows.uptoBulkAll ((List.range n).map D) ∧ ∀ (k : Nat) (y : α), xs[k]? = some y → ∀ (j : Nat) (v : Value), (f y)[j]? = some v → w.cell? (a.add (k * size + j)) = some v := by
      by_cases hn : n = 0
      · exact ⟨[], by simp [hn], Nat.zero_le _, fun k y h => by simp at h⟩
      · obtain ⟨x0, _⟩ := key 0 (by omega)
        have key' : ∀ i, ∃ x, i < n → (∀ j v, (f x)[j]? = some v → w.cell? (a.add (i * size + j)) = some v) ∧ bk x ≤ Rows.uptoBulk (D i) := fun i => by
          by_cases h : i < n
          · obtain ⟨x, hx⟩ := key i h; exact ⟨x, fun _ => hx⟩
          · exact ⟨x0, fun h' => absurd h' h⟩
        obtain ⟨F, hF⟩ := Classical.axiomOfChoice key'
        refine ⟨(List.range n).map F, by simp, bulk_sum bk F D _ (fun i hi => (hF i (by simpa using hi)).2), fun k y hy => ?_⟩
        have hk : k < n := by have := (List.getElem?_eq_some_iff.1 hy).1; simpa using this
        rw [List.getElem?_map, List.getElem?_range hk] at hy
        simp at hy
        subst hy
        exact (hF k hk).1
    obtain ⟨xs, hxl, hsum, hxc⟩ := hx
    have hlen := bulk_len ((List.range n).map D)
    rw [List.length_map, List.length_range] at hlen
    refine ⟨xs, hxl, hl, (fun e => by cases e), .inr ⟨_, _, rfl, by simp⟩, by simp only [Rows.uptoBulk]; omega, by simp only [Rows.uptoBulk]; omega, fun hn => ?_⟩
    obtain ⟨y, hy⟩ : ∃ y, xs[0]? = some y := ⟨_, List.getElem?_eq_getElem (by omega)⟩
    have h00 := hxc 0 y hy 0 ((f y)[0]'(by rw [hfs]; exact h0)) (Array.getElem?_eq_getElem _)
    obtain ⟨b, off, spot⟩ := a
    obtain rfl : spot = none := by simpa [Addr.add] using World.cell?_spot h00
    refine ⟨b, off, rfl, ?_, fun k y hy => ⟨fun j v hv => ?_⟩⟩
    · have := World.block_lt_of_cell? w _ h00
      simpa [Addr.add] using this
    · have := hxc k y hy j v hv
      rw [Addr.add_lit] at this
      rwa [Nat.add_assoc]
end
theorem okWide_cap' {P : Program} {w : World} {r : Reach} {t e : TypeId} {a : Option Addr} {n c base' : Nat} (ht : P.underlying t = some (.slice e)) (h : Value.okWide P w r base' t (.slice a n c)) : c ≤ 9223372036854775807 := by
  have hm : IntKind.i64.max = 9223372036854775807 := by decide
  simp only [Value.okWide, ht, Cell.okWide] at h
  cases a with
  | none => cases n <;> cases c <;> simp_all [Cell.ok]
  | some a => simp_all [Cell.ok]; omega
end Go.Proofs.Ytpdpdojaaaipcaa
