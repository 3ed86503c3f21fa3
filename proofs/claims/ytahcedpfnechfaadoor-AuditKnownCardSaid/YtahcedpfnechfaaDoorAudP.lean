/-
  The audit: rings (pure).
-/
import Derived.Test.YtahcedpfnechfaaDoorAudM
namespace Go.Proofs.YtahcedpfnechfaaDoor
set_option maxRecDepth 100000
open Go.RowKit Go.Sort

def faultV (k at_ : Int) : Value := .iface 64 (.agg #[.int .i64 k, .int .i64 at_])
/-- Where something is wrong: a slot, or none. -/
def placeI (i : Int) : Int := if inR i = true then i else -1
def outV : Option Int → Value
  | none => .nilIface
  | some a => faultV 24 a
def DumpV.at_ (d : DumpV) (i : Int) : SlotV := d.slots.getD i.toNat SlotV.zero
/-- A ring, gone through behind 'ahead': what is wrong, and the marks. -/
def ringGo (d : DumpV) : Nat → Int → Int → Int → Int → List Int → Option Int × List Int
  | 0, _, _, _, _, M => (none, M)
  | n + 1, ahead, last, up, mark, M =>
    if memberX d M (d.at_ ahead).next ahead up mark = false then (some (placeI (d.at_ ahead).next), M)
    else
      if ((if (d.at_ (d.at_ ahead).next).kids = -1 then (none, M.set (d.at_ ahead).next.toNat mark) else if inR (d.at_ (d.at_ ahead).next).kids = false then (some (-1), M.set (d.at_ ahead).next.toNat mark)
          else ringGo d n (d.at_ (d.at_ ahead).next).kids (d.at_ (d.at_ ahead).next).kids (d.at_ ahead).next mark (M.set (d.at_ ahead).next.toNat mark)) : Option Int × List Int).1 = none then
        if (d.at_ ahead).next = last then (none, ((if (d.at_ (d.at_ ahead).next).kids = -1 then (none, M.set (d.at_ ahead).next.toNat mark) else if inR (d.at_ (d.at_ ahead).next).kids = false then (some (-1), M.set (d.at_ ahead).next.toNat mark)
          else ringGo d n (d.at_ (d.at_ ahead).next).kids (d.at_ (d.at_ ahead).next).kids (d.at_ ahead).next mark (M.set (d.at_ ahead).next.toNat mark)) : Option Int × List Int).2)
        else ringGo d n (d.at_ ahead).next last up mark ((if (d.at_ (d.at_ ahead).next).kids = -1 then (none, M.set (d.at_ ahead).next.toNat mark) else if inR (d.at_ (d.at_ ahead).next).kids = false then (some (-1), M.set (d.at_ ahead).next.toNat mark)
          else ringGo d n (d.at_ (d.at_ ahead).next).kids (d.at_ (d.at_ ahead).next).kids (d.at_ ahead).next mark (M.set (d.at_ ahead).next.toNat mark)) : Option Int × List Int).2
      else (if (d.at_ (d.at_ ahead).next).kids = -1 then (none, M.set (d.at_ ahead).next.toNat mark) else if inR (d.at_ (d.at_ ahead).next).kids = false then (some (-1), M.set (d.at_ ahead).next.toNat mark)
          else ringGo d n (d.at_ (d.at_ ahead).next).kids (d.at_ (d.at_ ahead).next).kids (d.at_ ahead).next mark (M.set (d.at_ ahead).next.toNat mark))
/-- A ring, by its last one. -/
def ringTop (d : DumpV) (n : Nat) (last up mark : Int) (M : List Int) : Option Int × List Int :=
  if last = -1 then (none, M) else if inR last = false then (some (-1), M) else ringGo d n last last up mark M
theorem ringGo_succ (d : DumpV) (n : Nat) (ahead last up mark : Int) (M : List Int) : ringGo d (n + 1) ahead last up mark M =
    if memberX d M (d.at_ ahead).next ahead up mark = false then (some (placeI (d.at_ ahead).next), M)
    else if (ringTop d n (d.at_ (d.at_ ahead).next).kids (d.at_ ahead).next mark (M.set (d.at_ ahead).next.toNat mark)).1 = none then
      (if (d.at_ ahead).next = last then (none, (ringTop d n (d.at_ (d.at_ ahead).next).kids (d.at_ ahead).next mark (M.set (d.at_ ahead).next.toNat mark)).2)
        else ringGo d n (d.at_ ahead).next last up mark (ringTop d n (d.at_ (d.at_ ahead).next).kids (d.at_ ahead).next mark (M.set (d.at_ ahead).next.toNat mark)).2)
    else ringTop d n (d.at_ (d.at_ ahead).next).kids (d.at_ ahead).next mark (M.set (d.at_ ahead).next.toNat mark) := by
  conv => lhs; unfold ringGo
  unfold ringTop
  rfl
/-- How many slots weren't seen yet. -/
def unseen (M : List Int) : Nat := M.count 0
theorem unseen_set {M : List Int} {k : Nat} (h : M[k]? = some 0) {v : Int} (hv : v ≠ 0) : unseen (M.set k v) + 1 = unseen M := by
  unfold unseen
  induction M generalizing k with
  | nil => simp at h
  | cons a M ih =>
    cases k with
    | zero =>
      simp at h
      subst h
      rw [List.set_cons_zero, List.count_cons, List.count_cons]
      simp [hv]
    | succ k =>
      rw [List.set_cons_succ, List.count_cons, List.count_cons, ← ih (by simpa using h)]
      omega
theorem memberX_in {d : DumpV} {M : List Int} {i ahead up mark : Int} (hM : M.length = 32) (h : memberX d M i ahead up mark = true) : ∃ k : Nat, i = (k : Int) ∧ k < 32 ∧ M[k]? = some 0 := by
  unfold memberX at h
  simp only [Bool.and_eq_true] at h
  have hi := inR_iff.1 h.1.1.1.1.1.1
  have h0 := h.1.1.1.1.1.2
  refine ⟨i.toNat, by omega, by omega, ?_⟩
  rw [beq_iff_eq, List.getD_eq_getElem?_getD, List.getElem?_eq_getElem (by omega)] at h0
  rw [List.getElem?_eq_getElem (by omega)]
  simpa using h0
theorem ring_sane (d : DumpV) : ∀ (n : Nat) (ahead last up mark : Int) (M : List Int), mark ≠ 0 → M.length = 32 → (ringGo d n ahead last up mark M).2.length = 32 ∧ unseen (ringGo d n ahead last up mark M).2 ≤ unseen M
  | 0, _, _, _, _, M, _, hM => ⟨hM, Nat.le_refl _⟩
  | n + 1, ahead, last, up, mark, M, hm, hM => by
    have top : ∀ last up M, M.length = 32 → (ringTop d n last up mark M).2.length = 32 ∧ unseen (ringTop d n last up mark M).2 ≤ unseen M := fun last up M hM => by
      unfold ringTop
      split
      · exact ⟨hM, Nat.le_refl _⟩
      · split
        · exact ⟨hM, Nat.le_refl _⟩
        · exact ring_sane d n last last up mark M hm hM
    rw [ringGo_succ]
    split
    · exact ⟨hM, Nat.le_refl _⟩
    · rename_i hmem
      obtain ⟨k, hk, hk32, hk0⟩ := memberX_in hM (by simpa using hmem)
      have hs := unseen_set hk0 hm
      have hl : (M.set (d.at_ ahead).next.toNat mark).length = 32 := by rw [List.length_set]; exact hM
      have ht := top (d.at_ (d.at_ ahead).next).kids (d.at_ ahead).next _ hl
      rw [hk, Int.toNat_natCast] at ht ⊢
      split
      · split
        · exact ⟨ht.1, Nat.le_trans ht.2 (by omega)⟩
        · have hr := ring_sane d n k last up mark _ hm ht.1
          exact ⟨hr.1, by omega⟩
      · exact ⟨ht.1, by omega⟩
theorem top_sane (d : DumpV) (n : Nat) (last up mark : Int) (M : List Int) (hm : mark ≠ 0) (hM : M.length = 32) : (ringTop d n last up mark M).2.length = 32 ∧ unseen (ringTop d n last up mark M).2 ≤ unseen M := by
  unfold ringTop
  split
  · exact ⟨hM, Nat.le_refl _⟩
  · split
    · exact ⟨hM, Nat.le_refl _⟩
    · exact ring_sane d n last last up mark M hm hM
/-- How many marks in memory are nought. -/
def unseenW (w : World) (L : Nat) : Nat := ((List.range 32).map fun i => match w.cell? ⟨L, 6 + i, none⟩ with | some (.int .i64 v) => v | _ => 1).count 0
theorem LookAt.unseenW {w : World} {L : Nat} {ty : TypeId} {t : List Value} {d : DumpV} {As : Option Addr} {cs : Nat} {Af : Option Addr} {cf : Nat} {M : List Int} (h : LookAt w L ty t d As cs Af cf M) : unseenW w L = unseen M := by
  unfold Proofs.YtahcedpfnechfaaDoor.unseenW unseen
  congr 1
  apply List.ext_getElem?
  intro i
  rw [List.getElem?_map]
  by_cases hi : i < 32
  · have hl := h.len
    obtain ⟨v, hv⟩ : ∃ v, M[i]? = some v := ⟨_, List.getElem?_eq_getElem (by omega)⟩
    rw [List.getElem?_range hi, hv]
    simp only [Option.map_some, h.mark hv]
  · rw [List.getElem?_eq_none (by simp; omega), List.getElem?_eq_none (by rw [h.len]; omega)]; rfl
theorem DumpV.at_nat {d : DumpV} {k : Nat} {s : SlotV} (h : d.slots[k]? = some s) : d.at_ (k : Int) = s := by
  unfold DumpV.at_
  rw [Int.toNat_natCast, List.getD_eq_getElem?_getD, h]; rfl
theorem LookAt.set {w : World} {L : Nat} {ty : TypeId} {t : List Value} {d : DumpV} {As : Option Addr} {cs : Nat} {Af : Option Addr} {cf : Nat} {M : List Int} (h : LookAt w L ty t d As cs Af cf M) {k : Nat} (hk : k < 32) (v : Int) : LookAt (w.setCell ⟨L, 6 + k, none⟩ (.int .i64 v)) L ty t d As cs Af cf (M.set k v) := by
  have hb : ∀ a : Addr, a.block ≠ L → (w.setCell ⟨L, 6 + k, none⟩ (.int .i64 v)).heap[a.block]? = w.heap[a.block]? := fun a ha => Below.heap_setCell w ⟨L, 6 + k, none⟩ _ a.block ha
  refine ⟨?_, by rw [List.length_set]; exact h.len, h.slots.kept (by simp) fun a e _ => hb a (h.ne.1 a e), h.free.kept (by simp) fun a e _ => hb a (h.ne.2 a e), h.ne⟩
  have h2 := h.blk.set_ (6 + k) (.int .i64 v)
  rwa [lookC_setm rfl (by rw [h.len]; exact hk)] at h2
end Go.Proofs.YtahcedpfnechfaaDoor
