/-
  Package arena in the words of what it is thought of; lineagelaw15.works.
-/
import Derived.Test.YtdgdbcapojgnlaaDoorArFrees
namespace Go.Proofs.YtdgdbcapojgnlaaDoor
set_option maxRecDepth 100000
open Go.RowKit

/-- An arena at g that is S. -/
structure IsAr (w : World) (g : Nat) (S : St) : Prop where
  ex : ∃ A, ArAt w g A ∧ Rep A S
theorem IsAr.lt {w : World} {g : Nat} {S : St} (h : IsAr w g S) : g < w.heap.size := by obtain ⟨A, h1, _⟩ := h.ex; exact h1.blk.lt
theorem IsAr.block {w w' : World} {g : Nat} {S : St} (h : IsAr w g S) (hb : w'.heap[g]? = w.heap[g]?) : IsAr w' g S := by obtain ⟨A, h1, h2⟩ := h.ex; exact ⟨A, h1.block hb, h2⟩
theorem IsAr.below {w w' : World} {g B : Nat} {S : St} (h : IsAr w g S) (hb : Below B w w') (hg : g < B) : IsAr w' g S := h.block (hb.block g hg)
theorem IsAr.free_lt {w : World} {g : Nat} {S : St} (h : IsAr w g S) : ∀ i ∈ S.free, i < 32 := by obtain ⟨A, _, h2⟩ := h.ex; exact h2.chain.lt
theorem IsAr.nodup {w : World} {g : Nat} {S : St} (h : IsAr w g S) : S.free.Nodup := by obtain ⟨A, _, h2⟩ := h.ex; exact h2.nodup
theorem IsAr.len {w : World} {g : Nat} {S : St} (h : IsAr w g S) : S.slots.length = 32 := by obtain ⟨A, h1, h2⟩ := h.ex; rw [← h2.slots]; exact h1.full.slots
def RetSt (v : Value) (w : World) (g : Nat) (S : St) (e : Ending) (w' : World) : Prop := e = .returned v ∧ IsAr w' g S ∧ w.grownBy w' (some g)
theorem new_st (w : World) : Calls Tryd.prog 7 #[] w fun e w' => ∃ g, e = .returned (.pointer (some ⟨g, 0, none⟩)) ∧ w.heap.size ≤ g ∧ IsAr w' g St.new ∧ Below w.heap.size w w' :=
  (arNew_any w).mono fun e w' ⟨g, h1, h2, h3, h4⟩ => ⟨g, h1, h2, ⟨_, h3, rep_new⟩, h4⟩
theorem take_st {S : St} {i : Nat} {L : List Nat} (he : S.free = i :: L) (g : Nat) (w : World) (h : IsAr w g S) :
    Calls Tryd.prog 32 #[.pointer (some ⟨g, 0, none⟩)] w (RetSt (.tuple #[.int .i64 i, .nilIface]) w g S.take) := by
  obtain ⟨A, hA, hS⟩ := h.ex
  obtain ⟨h1, h2, n, hn, hr⟩ := hS.first_some he
  exact (take_some h1 g A n w hA h2 hn).mono fun e w' ⟨e1, e2, e3⟩ => ⟨e1, ⟨_, e2, hr⟩, e3⟩
theorem take_full {S : St} (he : S.free = []) (g : Nat) (w : World) (h : IsAr w g S) :
    Calls Tryd.prog 32 #[.pointer (some ⟨g, 0, none⟩)] w (RetSame (.tuple #[.int .i64 0, errno 19]) w) := by
  obtain ⟨A, hA, hS⟩ := h.ex
  exact take_none g A w hA (hS.first_none he)
theorem put_st {S : St} {i : Nat} (hi : i < 32) (s : SlotV) (g : Nat) (w : World) (h : IsAr w g S) (hw0 : 0 ≤ S.writes) (hw1 : S.writes < 1000000000) :
    Calls Tryd.prog 29 #[.pointer (some ⟨g, 0, none⟩), .int .i64 i, .agg s.cells] w (RetSt .nilIface w g (S.put i s)) := by
  obtain ⟨A, hA, hS⟩ := h.ex
  exact (put_in hi g A s w hA (by rw [hS.writes]; exact hw0) (by rw [hS.writes]; exact hw1)).mono fun e w' ⟨e1, e2, e3⟩ => ⟨e1, ⟨_, e2, hS.put i s⟩, e3⟩
theorem place_st {S : St} {i : Nat} (hi : i ∈ S.free) (g : Nat) (w : World) (h : IsAr w g S) :
    Calls Tryd.prog 33 #[.pointer (some ⟨g, 0, none⟩), .int .i64 i] w (RetSt .nilIface w g (S.drop i)) := by
  obtain ⟨A, hA, hS⟩ := h.ex
  exact (place_in g A S w hA hS hi).mono fun e w' ⟨e1, A', e2, e3, e4⟩ => ⟨e1, ⟨A', e2, e3⟩, e4⟩
theorem place_no {S : St} {i : Nat} (hi : i < 32) (hn : i ∉ S.free) (g : Nat) (w : World) (h : IsAr w g S) :
    Calls Tryd.prog 33 #[.pointer (some ⟨g, 0, none⟩), .int .i64 i] w (RetSame (errno 10) w) := by
  obtain ⟨A, hA, hS⟩ := h.ex
  exact place_taken hi g A w hA (hS.taken i hi hn)
theorem free_st {S : St} {i : Nat} (hi : i < 32) (hn : i ∉ S.free) (g : Nat) (w : World) (h : IsAr w g S) (hw0 : 0 ≤ S.writes) (hw1 : S.writes < 1000000000) :
    Calls Tryd.prog 35 #[.pointer (some ⟨g, 0, none⟩), .int .i64 i] w (RetSt .nilIface w g (S.give i)) := by
  obtain ⟨A, hA, hS⟩ := h.ex
  exact (free_in hi g A w hA (hS.taken i hi hn) (by rw [hS.writes]; exact hw0) (by rw [hS.writes]; exact hw1)).mono fun e w' ⟨e1, e2, e3⟩ => ⟨e1, ⟨_, e2, hS.give hi hn⟩, e3⟩
theorem free_no {S : St} {i : Nat} (hi : i ∈ S.free) (g : Nat) (w : World) (h : IsAr w g S) :
    Calls Tryd.prog 35 #[.pointer (some ⟨g, 0, none⟩), .int .i64 i] w (RetSame (errno 9) w) := by
  obtain ⟨A, hA, hS⟩ := h.ex
  obtain ⟨n, hn, hne⟩ := hS.next_free hi
  exact free_twice (hS.chain.lt i hi) g A n w hA hn hne
theorem get_st {S : St} {i : Nat} (hi : i < 32) {s : SlotV} (hs : S.slots[i]? = some s) (g : Nat) (w : World) (h : IsAr w g S) :
    Calls Tryd.prog 27 #[.pointer (some ⟨g, 0, none⟩), .int .i64 i] w (RetB (.tuple #[.agg s.cells, .nilIface]) w) := by
  obtain ⟨A, hA, hS⟩ := h.ex
  exact get_in hi g A (by rw [hS.slots]; exact hs) w hA
theorem writes_st {S : St} (g : Nat) (w : World) (h : IsAr w g S) : Calls Tryd.prog 37 #[.pointer (some ⟨g, 0, none⟩)] w (RetSame (.int .i64 S.writes) w) := by
  obtain ⟨A, hA, hS⟩ := h.ex
  rw [← hS.writes]; exact writes_any g A w hA
/-- What Frees hands back: an iterator over the free ones. -/
theorem frees_st {S : St} (g : Nat) (w : World) (h : IsAr w g S) : Calls Tryd.prog 12 #[.pointer (some ⟨g, 0, none⟩)] w fun e w' =>
    ∃ B, e = .returned (.func (.func 39) #[] #[.pointer (some ⟨B, 0, none⟩)]) ∧ (∀ n₀, Seqs Tryd.prog 39 #[.pointer (some ⟨B, 0, none⟩)] natV n₀ (fun k => w.heap.size ≤ k ∧ k < w'.heap.size) 0 S.free w') ∧ Below w.heap.size w w' := by
  obtain ⟨A, hA, hS⟩ := h.ex
  refine (frees_any g A S w hA hS).mono ?_
  rintro e w' ⟨B, v, h1, h2, h3, h4, h5⟩
  obtain ⟨p, cap, rfl, hi, hp⟩ := owns_intsFrom h4
  have hl := hS.len
  exact ⟨B, h1, fun n₀ => frees1_seqs S.free p cap w' B n₀ _ ⟨h2, h3.lt⟩ hp h3 hi (by omega), h5⟩

theorem frees_nil (b : Option Addr) (w : World) : (binOp .neq 42 (.func (.func 39) #[] #[.pointer b]) .nilFunc).run Tryd.prog w = .ok (.bool true) w := by kernel_rfl
end Go.Proofs.YtdgdbcapojgnlaaDoor
