/-
  'append(xs[:i], xs[i+1:]...)' on a row of one's own.
-/
import Derived.Test.YtdgdbcapojgnlaaDoorGa
import Derived.Test.YtdgdbcapojgnlaaDoorGc
import Derived.Deep.RegionLaw
namespace Go.Proofs.YtdgdbcapojgnlaaDoor
set_option maxRecDepth 100000
open Go.RowKit

theorem grown_setCells (g : Nat) : ∀ (vs : List Value) (o : Nat) (w : World), w.grownBy (w.setCells g o vs) (some g)
  | [], _, w => turned_refl w g
  | v :: r, o, w => grownBy_trans (grownBy_set w g o v) (grown_setCells g r (o + 1) (w.setCell ⟨g, o, none⟩ v))
theorem Blk.setCells {g : Nat} {t : TypeId} : ∀ (vs : List Value) (o : Nat) (w : World) (cs : Array Value), Blk w g t cs → o + vs.length ≤ cs.size →
    ∃ cs', Blk (w.setCells g o vs) g t cs' ∧ cs'.size = cs.size ∧ ∀ j, cs'[j]? = if o ≤ j ∧ j < o + vs.length then vs[j - o]? else cs[j]?
  | [], o, w, cs, h, _ => ⟨cs, h, rfl, fun j => by rw [if_neg (by simp)]⟩
  | v :: r, o, w, cs, h, hl => by
    simp only [List.length_cons] at hl
    obtain ⟨cs', h1, h2, h3⟩ := Blk.setCells r (o + 1) _ _ (h.set_ o v) (by simp; omega)
    refine ⟨cs', h1, by rw [h2]; simp, fun j => ?_⟩
    rw [h3 j, Array.getElem?_setIfInBounds]
    simp only [List.length_cons]
    by_cases e : j = o
    · subst e
      rw [if_neg (by omega), if_pos rfl, if_pos (by omega), if_pos (by omega)]
      simp
    · by_cases c : o + 1 ≤ j ∧ j < o + 1 + r.length
      · rw [if_pos c, if_pos (by omega), show j - o = (j - (o + 1)) + 1 by omega, List.getElem?_cons_succ]
      · rw [if_neg c, if_neg (fun e' => e e'.symm), if_neg (by omega)]
theorem erase_at {α : Type} {L : List α} {i j : Nat} (hi : i < L.length) : (L.eraseIdx i)[j]? = if j < i then L[j]? else L[j + 1]? := by
  rw [List.getElem?_eraseIdx]
/-- What is moved to the left. -/
def movedN (L : List Nat) (i : Nat) : List Value := intVs (natInts (L.drop (i + 1)))
theorem movedN_len (L : List Nat) (i : Nat) : (movedN L i).length = L.length - (i + 1) := by simp [movedN, intVs, natInts]
theorem own_del {w : World} {base gb n cap : Nat} {L : List Nat} (h : w.ownsRow base 3 1 (.slice (some ⟨gb, 0, none⟩) n cap) n (intVs (natInts L))) {i : Nat} (hi : i < n) (hn : L.length = n) :
    (w.setCells gb i (movedN L i)).ownsRow base 3 1 (.slice (some ⟨gb, 0, none⟩) (n - 1) cap) (n - 1) (intVs (natInts (L.eraseIdx i))) := by
  have hle : (L.eraseIdx i).length = n - 1 := by rw [List.length_eraseIdx_of_lt (by omega)]; omega
  rcases h.2 with ⟨e, _⟩ | ⟨g, c, cur, e, hb, hg, h1, h2, h3, h4⟩
  · cases e
  · cases e
    have hcs : ∀ j, j < n → cur[j]? = (intVs (natInts L))[j]? := fun j hj => by
      rw [← h4, List.getElem?_take_of_lt (by omega)]; simp
    have hml := movedN_len L i
    obtain ⟨cs', k1, k2, k3⟩ := Blk.setCells (movedN L i) i w cur (t := 3) ⟨hg⟩ (by rw [hml]; omega)
    refine ⟨by simp [intVs, natInts, hle], .inr ⟨gb, cap, cs', rfl, hb, k1.eq, by omega, h2, by rw [k2]; exact h3, ?_⟩⟩
    apply List.ext_getElem?
    intro j
    by_cases hj : j < n - 1
    · rw [List.getElem?_take_of_lt (by omega), Array.getElem?_toList, k3 j]
      simp only [intVs, natInts, List.getElem?_map, erase_at (show i < L.length by omega), movedN, List.length_map, List.length_drop]
      by_cases c : j < i
      · rw [if_neg (by omega), if_pos c, hcs j (by omega)]
        simp [intVs, natInts]
      · rw [if_pos (by omega), if_neg c, List.getElem?_drop, show i + 1 + (j - i) = j + 1 by omega]
    · rw [List.getElem?_eq_none (by rw [List.length_take]; simp; omega), List.getElem?_eq_none (by simp [intVs, natInts, hle]; omega)]
theorem owns_callS {w w' : World} {base n : Nat} {e : TypeId} {size : Nat} {v : Value} {xs : List Value} (h : w.ownsRow base e size v n xs) (hb : Below w.heap.size w w') : w'.ownsRow base e size v n xs := h.kept (grownBy_below hb none) (Classical.em _)
theorem owns_atS {w : World} {base n cap : Nat} {A : Option Addr} {l : List Int} (h : w.ownsRow base 3 1 (.slice A n cap) n (intVs l)) : IntsAt w A l := by
  obtain ⟨A', c', e, hin⟩ := owns_intsAt h
  cases e
  exact hin
end Go.Proofs.YtdgdbcapojgnlaaDoor
