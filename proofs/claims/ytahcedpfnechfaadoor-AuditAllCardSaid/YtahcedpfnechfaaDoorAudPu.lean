/-
  The audit: where nothing is wrong, what Parts counts (pure).
-/
import Derived.Test.YtahcedpfnechfaaDoorAudKP
namespace Go.Proofs.YtahcedpfnechfaaDoor
set_option maxRecDepth 100000
open Go.RowKit Go.Sort

/-- Some that weren't marked are: with this mark, slots of this kind. -/
def Stp (d : DumpV) (mark : Int) (c : SlotV → Bool) (M M' : List Int) : Prop := M'.length = M.length ∧ ∀ i : Nat, M'[i]? = M[i]? ∨ (M[i]? = some 0 ∧ M'[i]? = some mark ∧ c (d.at_ (i : Int)) = true)
section
variable {d : DumpV} {mark : Int} {c : SlotV → Bool}
theorem Stp.refl (M : List Int) : Stp d mark c M M := ⟨rfl, fun _ => .inl rfl⟩
theorem Stp.trans {M M1 M2 : List Int} (h : Stp d mark c M M1) (h2 : Stp d mark c M1 M2) : Stp d mark c M M2 := by
  refine ⟨h2.1.trans h.1, fun i => ?_⟩
  rcases h.2 i with e | ⟨e0, e1, e2⟩
  · rcases h2.2 i with f | ⟨f0, f1, f2⟩
    · exact .inl (f.trans e)
    · exact .inr ⟨e ▸ f0, f1, f2⟩
  · rcases h2.2 i with f | ⟨f0, f1, f2⟩
    · exact .inr ⟨e0, f.trans e1, e2⟩
    · exact .inr ⟨e0, f1, e2⟩
theorem Stp.set {M : List Int} {k : Nat} (h0 : M[k]? = some 0) (hc : c (d.at_ (k : Int)) = true) : Stp d mark c M (M.set k mark) := by
  refine ⟨List.length_set .., fun i => ?_⟩
  rw [List.getElem?_set]
  by_cases e : k = i
  · subst e
    have hl := (List.getElem?_eq_some_iff.1 h0).1
    rw [if_pos rfl, if_pos hl]
    exact .inr ⟨h0, rfl, hc⟩
  · rw [if_neg e]; exact .inl rfl
theorem Stp.keeps {M M' : List Int} (h : Stp d mark c M M') {i : Nat} {v : Int} (hv : M[i]? = some v) (h0 : v ≠ 0) : M'[i]? = some v := by
  rcases h.2 i with e | ⟨e, _⟩
  · rw [e, hv]
  · rw [hv] at e; injection e with e; exact absurd e h0
theorem Stp.back {M M' : List Int} (h : Stp d mark c M M') {i : Nat} {v : Int} (hv : M'[i]? = some v) (h0 : v ≠ mark) : M[i]? = some v := by
  rcases h.2 i with e | ⟨_, e, _⟩
  · rw [← e, hv]
  · rw [hv] at e; injection e with e; exact absurd e h0
end
theorem count_congr {v : Int} : ∀ (M M' : List Int), M.length = M'.length → (∀ i : Nat, M[i]? = some v ↔ M'[i]? = some v) → M.count v = M'.count v
  | [], [], _, _ => rfl
  | [], _ :: _, h, _ => by simp at h
  | _ :: _, [], h, _ => by simp at h
  | a :: M, b :: M', hl, h => by
    have ih := count_congr M M' (by simpa using hl) (fun i => by simpa using h (i + 1))
    have h0 := h 0
    simp only [List.getElem?_cons_zero, Option.some.injEq] at h0
    rw [List.count_cons, List.count_cons, ih]
    by_cases ha : a = v
    · rw [if_pos (by simp [ha]), if_pos (by simp [h0.1 ha])]
    · rw [if_neg (by simp [ha]), if_neg (by simpa using fun e => ha (h0.2 e))]
theorem Stp.count {d : DumpV} {mark : Int} {c : SlotV → Bool} {M M' : List Int} (h : Stp d mark c M M') {v : Int} (h0 : v ≠ 0) (hv : v ≠ mark) : M'.count v = M.count v :=
  count_congr _ _ h.1 fun _ => ⟨fun e => h.back e hv, fun e => h.keeps e h0⟩
theorem memberX_used {d : DumpV} {M : List Int} {i ahead up mark : Int} (h : memberX d M i ahead up mark = true) : (d.at_ i).used = true := by
  unfold memberX at h
  simp only [Bool.and_eq_true] at h
  exact h.1.1.1.1.2
theorem ring_stp (d : DumpV) : ∀ (n : Nat) (ahead last up mark : Int) (M : List Int), M.length = 32 → Stp d mark (·.used) M (ringGo d n ahead last up mark M).2
  | 0, _, _, _, _, M, _ => Stp.refl M
  | n + 1, ahead, last, up, mark, M, hM => by
    have top : ∀ last up M, M.length = 32 → Stp d mark (·.used) M (ringTop d n last up mark M).2 := fun last up M hM => by
      unfold ringTop
      split
      · exact Stp.refl M
      · split
        · exact Stp.refl M
        · exact ring_stp d n last last up mark M hM
    rw [ringGo_succ]
    split
    · exact Stp.refl M
    · rename_i hmem
      have hmem' : memberX d M (d.at_ ahead).next ahead up mark = true := by simpa using hmem
      obtain ⟨k, hk, hk32, hk0⟩ := memberX_in hM hmem'
      have hu := memberX_used hmem'
      have hl : (M.set (d.at_ ahead).next.toNat mark).length = 32 := by rw [List.length_set]; exact hM
      have hs : Stp d mark (·.used) M (M.set (d.at_ ahead).next.toNat mark) := by
        rw [hk, Int.toNat_natCast]
        rw [hk] at hu
        exact Stp.set hk0 hu
      have ht := top (d.at_ (d.at_ ahead).next).kids (d.at_ ahead).next _ hl
      have hst := hs.trans ht
      split
      · split
        · exact hst
        · exact hst.trans (ring_stp d n (d.at_ ahead).next last up mark _ (hst.1.trans hM))
      · exact hst
theorem top_stp (d : DumpV) (n : Nat) (last up mark : Int) (M : List Int) (hM : M.length = 32) : Stp d mark (·.used) M (ringTop d n last up mark M).2 := by
  unfold ringTop
  split
  · exact Stp.refl M
  · split
    · exact Stp.refl M
    · exact ring_stp d n last last up mark M hM
/-- A ring that is gone through marks one at least. -/
theorem ring_hit (d : DumpV) (n : Nat) (ahead last up mark : Int) (M : List Int) (hm : mark ≠ 0) (hM : M.length = 32) (h : (ringGo d (n + 1) ahead last up mark M).1 = none) : ∃ i : Nat, (ringGo d (n + 1) ahead last up mark M).2[i]? = some mark := by
  rw [ringGo_succ] at h ⊢
  split
  · rename_i hmem
    rw [if_pos hmem] at h
    cases h
  · rename_i hmem
    have hmem' : memberX d M (d.at_ ahead).next ahead up mark = true := by simpa using hmem
    obtain ⟨k, hk, hk32, hk0⟩ := memberX_in hM hmem'
    have hl : (M.set (d.at_ ahead).next.toNat mark).length = 32 := by rw [List.length_set]; exact hM
    have h0 : (M.set (d.at_ ahead).next.toNat mark)[k]? = some mark := by
      rw [hk, Int.toNat_natCast, List.getElem?_set, if_pos rfl, if_pos (by omega)]
    have ht := top_stp d n (d.at_ (d.at_ ahead).next).kids (d.at_ ahead).next mark _ hl
    have h1 := ht.keeps h0 hm
    split
    · split
      · exact ⟨k, h1⟩
      · exact ⟨k, (ring_stp d n (d.at_ ahead).next last up mark _ (ht.1.trans hl)).keeps h1 hm⟩
    · exact ⟨k, h1⟩
theorem top_hit (d : DumpV) (n : Nat) (last up mark : Int) (M : List Int) (hm : mark ≠ 0) (hM : M.length = 32) (hc : M.count mark = 0) (h : (ringTop d (n + 1) last up mark M).1 = none) : 0 < (ringTop d (n + 1) last up mark M).2.count mark ↔ 0 ≤ last := by
  unfold ringTop at h ⊢
  by_cases h1 : last = -1
  · rw [if_pos h1, hc]
    constructor
    · intro h; omega
    · intro h; omega
  · rw [if_neg h1] at h ⊢
    by_cases h2 : inR last = false
    · rw [if_pos h2] at h; cases h
    · rw [if_neg h2] at h ⊢
      have hr := inR_iff.1 (show inR last = true by simpa using h2)
      obtain ⟨i, hi⟩ := ring_hit d n last last up mark M hm hM h
      exact ⟨fun _ => hr.1, fun _ => List.count_pos_iff.2 (List.mem_of_getElem? hi)⟩
theorem bareB_used {s : SlotV} (h : bareB s = true) : s.used = false := by
  unfold bareB at h
  simp only [Bool.and_eq_true, Bool.not_eq_true'] at h
  exact h.1.1
theorem frees_stp (d : DumpV) : ∀ (l M : List Int), M.length = 32 → (freesGo d l M).1 = none → Stp d 1 (fun s => !s.used) M (freesGo d l M).2 ∧ (freesGo d l M).2.count 1 = M.count 1 + l.length
  | [], M, _, _ => ⟨Stp.refl M, rfl⟩
  | i :: l, M, hM, h => by
    unfold freesGo at h ⊢
    split
    · rename_i hb; rw [if_pos hb] at h; cases h
    · rename_i hb
      rw [if_neg hb] at h
      have hb1 : inR i = true := by
        cases hi : inR i
        · exact absurd (.inl hi) hb
        · rfl
      have hb2 : M.getD i.toNat 0 = 0 := by
        by_cases e : M.getD i.toNat 0 = 0
        · exact e
        · exact absurd (.inr (.inl e)) hb
      have hb3 : bareB (d.at_ i) = true := by
        cases hi : bareB (d.at_ i)
        · exact absurd (.inr (.inr hi)) hb
        · rfl
      have hr := inR_iff.1 hb1
      have h0 : M[i.toNat]? = some 0 := by
        rw [List.getD_eq_getElem?_getD, List.getElem?_eq_getElem (by omega)] at hb2
        rw [List.getElem?_eq_getElem (by omega)]
        simpa using hb2
      have hs : Stp d 1 (fun s => !s.used) M (M.set i.toNat 1) := Stp.set h0 (by
        rw [Int.toNat_of_nonneg hr.1, bareB_used hb3]; rfl)
      obtain ⟨h1, h2⟩ := frees_stp d l _ (hs.1.trans hM) h
      refine ⟨hs.trans h1, ?_⟩
      rw [h2, List.length_cons]
      have hk := (List.getElem?_eq_some_iff.1 h0).1
      have hc : (M.set i.toNat 1).count 1 = M.count 1 + 1 := by
        rw [List.count_set hk]
        have : M[i.toNat] = 0 := by
          rw [List.getElem?_eq_getElem hk] at h0
          simpa using h0
        simp [this]
      rw [hc]
      omega
theorem count_used : ∀ (M : List Int) (S : List SlotV), M.length = S.length → (∀ (i : Nat) (x : Int) (s : SlotV), M[i]? = some x → S[i]? = some s → (x = 1 ∧ s.used = false ∨ x = 2 ∧ s.used = true ∨ x = 3 ∧ s.used = true)) → M.count 2 + M.count 3 = S.countP (·.used) ∧ M.count 1 + M.count 2 + M.count 3 = M.length
  | [], [], _, _ => ⟨rfl, rfl⟩
  | [], _ :: _, h, _ => by simp at h
  | _ :: _, [], h, _ => by simp at h
  | x :: M, s :: S, hl, h => by
    have ih := count_used M S (by simpa using hl) (fun i x s h1 h2 => h (i + 1) x s (by simpa using h1) (by simpa using h2))
    have h0 := h 0 x s rfl rfl
    rw [List.countP_cons, List.length_cons, List.count_cons, List.count_cons, List.count_cons]
    rcases h0 with ⟨rfl, hu⟩ | ⟨rfl, hu⟩ | ⟨rfl, hu⟩
    · simp [hu]; omega
    · simp [hu]; omega
    · simp [hu]; omega
theorem restX_nz {d : DumpV} {M : List Int} (h : restX d M = none) : ∀ i : Nat, i < 32 → mk M i ≠ 0 := by
  intro i hi e
  unfold restX at h
  split at h
  · cases h
  · rename_i hf
    rw [List.find?_eq_none] at hf
    have := hf i (List.mem_range.2 hi)
    rw [e] at this
    exact this rfl
/-- Where nothing is wrong. -/
structure PartsOk (d : DumpV) (a b c : Int) : Prop where
  apos : 0 ≤ a
  bpos : 0 ≤ b
  cpos : 0 ≤ c
  sum : a + b + c = 32
  free : c = d.free.length
  used : a + b = (d.slots.countP (·.used) : Nat)
  roots : 0 < a ↔ 0 ≤ d.roots
  garbage : 0 < b ↔ 0 ≤ d.garbage
theorem parts_ok (d : DumpV) (hA : argOk d) (hn : (lookX d).1 = none) : PartsOk d (partsX d).1 (partsX d).2.1 (partsX d).2.2 := by
  have hp : partsX d = (cntI (lookX d).2 2, cntI (lookX d).2 3, cntI (lookX d).2 1) := if_pos ⟨hA, hn⟩
  obtain ⟨fr, hfr⟩ : ∃ fr, freesGo d d.free M0 = fr := ⟨_, rfl⟩
  obtain ⟨r2, hr2⟩ : ∃ r2, ringTop d 33 d.roots (-1) 2 fr.2 = r2 := ⟨_, rfl⟩
  obtain ⟨r3, hr3⟩ : ∃ r3, ringTop d 33 d.garbage (-1) 3 r2.2 = r3 := ⟨_, rfl⟩
  have ho1 : fr.1 = none := by
    rcases ho : fr.1 with _ | a
    · rfl
    · rw [lookX_1 hfr ho, ho] at hn; cases hn
  have ho2 : r2.1 = none := by
    rcases ho : r2.1 with _ | a
    · rfl
    · rw [lookX_2 hfr ho1 hr2 ho, ho] at hn; cases hn
  have ho3 : r3.1 = none := by
    rcases ho : r3.1 with _ | a
    · rfl
    · rw [lookX_3 hfr ho1 hr2 ho2 hr3 ho, ho] at hn; cases hn
  have hlx := lookX_4 hfr ho1 hr2 ho2 hr3 ho3
  rw [hlx] at hn
  have hl0 : M0.length = 32 := rfl
  obtain ⟨s1, c1⟩ := frees_stp d d.free M0 hl0 (by rw [hfr]; exact ho1)
  rw [hfr] at s1 c1
  have hl1 : fr.2.length = 32 := s1.1.trans hl0
  have s2 := top_stp d 33 d.roots (-1) 2 fr.2 hl1
  rw [hr2] at s2
  have hl2 : r2.2.length = 32 := s2.1.trans hl1
  have s3 := top_stp d 33 d.garbage (-1) 3 r2.2 hl2
  rw [hr3] at s3
  have hl3 : r3.2.length = 32 := s3.1.trans hl2
  have z2 : fr.2.count 2 = 0 := by rw [s1.count (by decide) (by decide)]; rfl
  have z3 : r2.2.count 3 = 0 := by rw [s2.count (by decide) (by decide), s1.count (by decide) (by decide)]; rfl
  have p2 := top_hit d 32 d.roots (-1) 2 fr.2 (by decide) hl1 z2 (by rw [hr2]; exact ho2)
  rw [hr2] at p2
  have p3 := top_hit d 32 d.garbage (-1) 3 r2.2 (by decide) hl2 z3 (by rw [hr3]; exact ho3)
  rw [hr3] at p3
  have k1 : r3.2.count 1 = d.free.length := by
    rw [s3.count (by decide) (by decide), s2.count (by decide) (by decide), c1]
    show 0 + _ = _
    omega
  have k2 : r3.2.count 2 = r2.2.count 2 := s3.count (by decide) (by decide)
  have hnz := restX_nz hn
  have hcu := count_used r3.2 d.slots (hl3.trans hA.1.symm) (fun i x s hx hs => by
    have hi := (List.getElem?_eq_some_iff.1 hx).1
    have hat : d.at_ (i : Int) = s := DumpV.at_nat hs
    have hx0 : x ≠ 0 := by
      have := hnz i (by omega)
      unfold mk at this
      rw [List.getD_eq_getElem?_getD, hx] at this
      simpa using this
    have hM0 : M0[i]? = some 0 := by
      unfold M0
      rw [List.getElem?_replicate, if_pos (by omega)]
    rcases s3.2 i with e3 | ⟨_, e3, u3⟩
    · rw [hx] at e3
      rcases s2.2 i with e2 | ⟨_, e2, u2⟩
      · rw [← e3] at e2
        rcases s1.2 i with e1 | ⟨_, e1, u1⟩
        · rw [← e2, hM0] at e1
          injection e1 with e1
          exact absurd e1 hx0
        · rw [← e2] at e1
          injection e1 with e1
          rw [hat] at u1
          exact .inl ⟨e1, by simpa using u1⟩
      · rw [← e3] at e2
        injection e2 with e2
        rw [hat] at u2
        exact .inr (.inl ⟨e2, u2⟩)
    · rw [hx] at e3
      injection e3 with e3
      rw [hat] at u3
      exact .inr (.inr ⟨e3, u3⟩))
  rw [hl3] at hcu
  rw [hp, hlx]
  unfold cntI
  rw [k2] at *
  show PartsOk d (r2.2.count 2 : Nat) (r3.2.count 3 : Nat) (r3.2.count 1 : Nat)
  refine ⟨by omega, by omega, by omega, by omega, by rw [k1], by omega, by rw [← p2]; omega, by rw [← p3]; omega⟩
end Go.Proofs.YtahcedpfnechfaaDoor
