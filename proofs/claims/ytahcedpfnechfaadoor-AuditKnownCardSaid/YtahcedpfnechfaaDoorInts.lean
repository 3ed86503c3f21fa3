/-
  Lists of ints in memory: rows of one's own, rows that may be read; SameInts of a list and itself.
-/
import Derived.Test.YtahcedpfnechfaaDoorProg
import Derived.Test.YtahcedpfnechfaaDoorMem
import Derived.Test.YtahcedpfnechfaaDoorCollS
namespace Go.Proofs.YtahcedpfnechfaaDoor
set_option maxRecDepth 100000
open Go.RowKit

def intVs (l : List Int) : List Value := l.map (.int .i64)
/-- A row of ints of one's own is handed back. -/
def RetInts (l : List Int) (w : World) (e : Ending) (w' : World) : Prop :=
  ∃ v, e = .returned v ∧ w'.ownsRow w.heap.size 3 1 v l.length (intVs l) ∧ Below w.heap.size w w'
theorem int_one (i : Int) : ∀ u ∈ (#[Value.int .i64 i] : Array Value).toList, u.oneCell' = true := by intro u hu; simp at hu; subst hu; rfl
theorem intInfo : ∃ i z, Tryd.prog.info? 3 = some i ∧ i.zero = some z ∧ i.size = 1 ∧ i.bytes = 8 ∧ z.cells.size = 1 := by
  have h : (match Tryd.prog.info? 3 with | some i => (match i.zero with | some z => i.size == 1 && i.bytes == 8 && z.cells.size == 1 | none => false) | none => false) = true := by decide +kernel
  cases hi : Tryd.prog.info? 3 with
  | none => rw [hi] at h; cases h
  | some i =>
    rw [hi] at h
    cases hz : i.zero with
    | none => simp only [hz] at h; cases h
    | some z =>
      simp only [hz, Bool.and_eq_true, beq_iff_eq] at h
      exact ⟨i, z, rfl, hz, h.1.1, h.1.2, h.2⟩
theorem ownsInts_nil (w : World) : w.ownsRow w.heap.size 3 1 (.slice none 0 0) 0 [] := ⟨rfl, .inl ⟨rfl, rfl⟩⟩
/-- A row of ints that may be read: its cells lie where the slice says. -/
def IntsAt (w : World) (A : Option Addr) (xs : List Int) : Prop := 0 < xs.length → ∃ b off, A = some ⟨b, off, none⟩ ∧ b < w.heap.size ∧ ∀ k i, xs[k]? = some i → w.cell? ⟨b, off + k, none⟩ = some (.int .i64 i)
theorem IntsAt.below {w w' : World} {A : Option Addr} {xs : List Int} {B : Nat} (h : IntsAt w A xs) (hb : Below B w w') (hB : w.heap.size ≤ B) : IntsAt w' A xs := fun hn => by
  obtain ⟨b, off, rfl, hlt, hc⟩ := h hn
  have hs := hb.size
  exact ⟨b, off, rfl, by omega, fun k i hk => (hb.cell (p := ⟨b, off + k, none⟩) (by show b < B; omega)).trans (hc k i hk)⟩

theorem own_ints {w : World} {base g n cap : Nat} {l : List Int} (h : w.ownsRow base 3 1 (.slice (some ⟨g, 0, none⟩) n cap) n (intVs l)) : IntsAt w (some ⟨g, 0, none⟩) l := fun _ =>
  ⟨g, 0, rfl, (h.lt g rfl).2, fun k x hk => by
    have hc := h.cells rfl k (.int .i64 x) (by unfold intVs; rw [List.getElem?_map, hk]; rfl)
    rw [Addr.add_lit] at hc
    exact hc⟩
theorem owns_intsAt {w : World} {base n : Nat} {v : Value} {l : List Int} (h : w.ownsRow base 3 1 v n (intVs l)) : ∃ A cap, v = .slice A n cap ∧ IntsAt w A l := by
  rcases h.2 with ⟨rfl, rfl⟩ | ⟨g, cap, cur, rfl, _⟩
  · refine ⟨_, _, rfl, fun hp => ?_⟩
    have h1 := h.1
    rw [show (intVs l).length = l.length from List.length_map _] at h1
    omega
  · exact ⟨_, _, rfl, own_ints h⟩

/-- .. and from which block on it lies. -/
theorem owns_intsFrom {w : World} {base n : Nat} {v : Value} {l : List Int} (h : w.ownsRow base 3 1 v n (intVs l)) : ∃ A cap, v = .slice A n cap ∧ IntsAt w A l ∧ ∀ a, A = some a → base ≤ a.block ∧ a.block < w.heap.size := by
  rcases h.2 with ⟨rfl, rfl⟩ | ⟨g, cap, cur, rfl, hg, _⟩
  · refine ⟨_, _, rfl, fun hp => ?_, fun a e => by cases e⟩
    have h1 := h.1
    rw [show (intVs l).length = l.length from List.length_map _] at h1
    omega
  · exact ⟨_, _, rfl, own_ints h, fun a e => by cases e; exact ⟨hg, (h.lt g rfl).2⟩⟩
theorem IntsAt.kept {w w' : World} {A : Option Addr} {xs : List Int} (h : IntsAt w A xs) (hs : w.heap.size ≤ w'.heap.size) (hb : ∀ a, A = some a → a.block < w.heap.size → w'.heap[a.block]? = w.heap[a.block]?) : IntsAt w' A xs := fun hn => by
  obtain ⟨b, off, rfl, hlt, hc⟩ := h hn
  exact ⟨b, off, rfl, by omega, fun k i hk => (World.cell?_of_block (a := ⟨b, off + k, none⟩) (hb ⟨b, off, none⟩ rfl hlt)).trans (hc k i hk)⟩
theorem marks_cons (D : Nat) (ds : List Nat) : ({ target := .collected D, args := #[] } :: marks ds : List Deferred) = marks (D :: ds) := rfl
theorem int_two (i j : Int) : ∀ u ∈ (#[Value.int .i64 i, .int .i64 j] : Array Value).toList, u.oneCell' = true := by
  intro u hu; simp at hu; rcases hu with rfl | rfl <;> rfl
theorem intVs_app (l m : List Int) : intVs (l ++ m) = intVs l ++ intVs m := List.map_append
theorem owns_intsCap {w : World} {base n : Nat} {v : Value} {l : List Int} (h : w.ownsRow base 3 1 v n (intVs l)) : ∃ A cap, v = .slice A n cap ∧ n ≤ cap ∧ IntsAt w A l := by
  rcases h.2 with ⟨rfl, rfl⟩ | ⟨g, cap, cur, rfl, _, _, hc, _⟩
  · refine ⟨_, _, rfl, Nat.le_refl _, fun hp => ?_⟩
    have h1 := h.1
    rw [show (intVs l).length = l.length from List.length_map _] at h1
    omega
  · exact ⟨_, _, rfl, hc, own_ints h⟩
theorem IntsAt.take {w : World} {A : Option Addr} {l : List Int} (h : IntsAt w A l) (m : Nat) : IntsAt w A (l.take m) := fun hp => by
  rw [List.length_take] at hp
  obtain ⟨b, off, e, hb, hc⟩ := h (by omega)
  refine ⟨b, off, e, hb, fun k i hk => hc k i ?_⟩
  rw [List.getElem?_take] at hk
  split at hk
  · exact hk
  · cases hk
def natInts (l : List Nat) : List Int := l.map fun (n : Nat) => (n : Int)
theorem natInts_snoc (l : List Nat) (x : Nat) : intVs (natInts (l ++ [x])) = intVs (natInts l) ++ [Value.int .i64 x] := by simp [natInts, intVs]
theorem natInts_len (l : List Nat) : (natInts l).length = l.length := by simp [natInts]
theorem take_of_prefix {α : Type} {pre l : List α} (h : pre <+: l) : l.take pre.length = pre := by
  obtain ⟨t, rfl⟩ := h; simp

theorem intsNew (w : World) (l : List Int) (cs : Array Value) (h : cs = (l.map (Value.int .i64)).toArray) : IntsAt (w.alloc (.cells cs 3)) (some ⟨w.heap.size, 0, none⟩) l := fun _ => ⟨_, 0, rfl, by simp, fun k i hk => by
  rw [World.cell?_alloc_at _ _ _ _ rfl, h]
  simp [hk]⟩
end Go.Proofs.YtahcedpfnechfaaDoor
