import Derived.Test.YtnofnolkdijocaaBest
namespace Go.Proofs.Ytnofnolkdijocaa
open Go.RowKit

theorem better_iff (s t : Sess) : s.better t = true ↔ (s.level > t.level ∨ (s.level = t.level ∧ (s.deadline > t.deadline ∨ (s.deadline = t.deadline ∧ s.birth < t.birth)))) := by
  unfold Sess.better
  by_cases h1 : s.level = t.level
  · by_cases h2 : s.deadline = t.deadline
    · simp [h1, h2]
    · simp [h1, h2]
  · simp [h1]
theorem better_not (s t : Sess) : s.better t = false ↔ ¬ (s.level > t.level ∨ (s.level = t.level ∧ (s.deadline > t.deadline ∨ (s.deadline = t.deadline ∧ s.birth < t.birth)))) := by
  rw [← better_iff]; simp

theorem bestStep_cases (now : Int) (b : Sess × Bool) (s : Sess) : (bestStep now b s = (s, true) ∧ now < s.deadline ∧ (b.2 = true → s.better b.1 = true)) ∨ (bestStep now b s = b ∧ (now < s.deadline → b.2 = true ∧ s.better b.1 = false)) := by
  unfold bestStep
  by_cases hd : now < s.deadline
  · rcases b with ⟨b1, b2⟩
    cases b2
    · left; simp [hd]
    · cases hb : s.better b1
      · right; simp [hd, hb]
      · left; simp [hd, hb]
  · right; simp [hd]

theorem fold_facts (now : Int) : ∀ (l : List Sess) (b : Sess × Bool),
    (b.2 = true → (l.foldl (bestStep now) b).2 = true) ∧
    (l.foldl (bestStep now) b = b ∨ ((l.foldl (bestStep now) b).2 = true ∧ (l.foldl (bestStep now) b).1 ∈ l ∧ now < (l.foldl (bestStep now) b).1.deadline)) ∧
    (b.2 = true → b.1.better (l.foldl (bestStep now) b).1 = false) ∧
    (∀ s ∈ l, now < s.deadline → (l.foldl (bestStep now) b).2 = true ∧ s.better (l.foldl (bestStep now) b).1 = false)
  | [], b => ⟨fun h => h, .inl rfl, fun _ => by rw [List.foldl_nil, better_not]; omega, by simp⟩
  | s :: l, b => by
    obtain ⟨hA, hB, hD, hC⟩ := fold_facts now l (bestStep now b s)
    rw [List.foldl_cons]
    generalize l.foldl (bestStep now) (bestStep now b s) = r at hA hB hD hC
    rcases bestStep_cases now b s with ⟨e, hd, hb⟩ | ⟨e, hd⟩ <;> rw [e] at hA hB hD
    · have h1 := hD rfl
      rw [better_not] at h1
      refine ⟨fun _ => hA rfl, .inr ?_, fun h => ?_, fun t ht htd => ?_⟩
      · rcases hB with h | ⟨h, h2, h3⟩
        · subst h; exact ⟨rfl, List.mem_cons_self, hd⟩
        · exact ⟨h, List.mem_cons_of_mem _ h2, h3⟩
      · have h2 := (better_iff _ _).1 (hb h)
        rw [better_not]; simp only at h1 h2 ⊢; omega
      · rcases List.mem_cons.1 ht with rfl | h
        · exact ⟨hA rfl, hD rfl⟩
        · exact hC t h htd
    · refine ⟨hA, ?_, hD, fun t ht htd => ?_⟩
      · rcases hB with h | ⟨h, h2, h3⟩
        · exact .inl h
        · exact .inr ⟨h, List.mem_cons_of_mem _ h2, h3⟩
      · rcases List.mem_cons.1 ht with rfl | h
        · obtain ⟨h1, h2⟩ := hd htd
          have h3 := hD h1
          rw [better_not] at h2 h3
          exact ⟨hA h1, by rw [better_not]; omega⟩
        · exact hC t h htd

theorem best_live (now : Int) (l : List Sess) : ∀ s ∈ l, now < s.deadline → (bestOf now l).2 = true ∧ s.level ≤ (bestOf now l).1.level := fun s hs hd => by
  obtain ⟨h1, h2⟩ := (fold_facts now l (Sess.zero, false)).2.2.2 s hs hd
  rw [better_not] at h2
  exact ⟨h1, by unfold bestOf; omega⟩
theorem best_one (now : Int) (l : List Sess) (h : (bestOf now l).2 = true) : (bestOf now l).1 ∈ l ∧ now < (bestOf now l).1.deadline := by
  rcases (fold_facts now l (Sess.zero, false)).2.1 with e | ⟨_, h2, h3⟩
  · unfold bestOf at h; rw [e] at h; cases h
  · exact ⟨h2, h3⟩
theorem best_none (now : Int) (l : List Sess) (h : (bestOf now l).2 = false) : (bestOf now l).1 = Sess.zero := by
  rcases (fold_facts now l (Sess.zero, false)).2.1 with e | ⟨h1, _⟩
  · unfold bestOf; rw [e]
  · unfold bestOf at h; rw [h1] at h; cases h
theorem fold_still (now : Int) (r : Sess × Bool) : ∀ l : List Sess, (∀ s ∈ l, now < s.deadline → r.2 = true ∧ s.better r.1 = false) → l.foldl (bestStep now) r = r
  | [], _ => rfl
  | s :: l, h => by
    rw [List.foldl_cons]
    have e : bestStep now r s = r := by
      unfold bestStep
      by_cases hd : now < s.deadline
      · obtain ⟨h1, h2⟩ := h s List.mem_cons_self hd
        simp [h1, h2]
      · simp [hd]
    rw [e]
    exact fold_still now r l fun t ht => h t (List.mem_cons_of_mem _ ht)
theorem best_twice (now : Int) (l : List Sess) : bestOf now (l ++ l) = bestOf now l := by
  unfold bestOf
  rw [List.foldl_append]
  exact fold_still now _ l (fold_facts now l (Sess.zero, false)).2.2.2
theorem fold_two (now : Int) (x : Sess) : ∀ (l : List Sess) (r q : Sess × Bool),
    ((r = (x, true) ∧ (q.2 = true → q.1.better x = false)) ∨ (r = q ∧ q.2 = true ∧ q.1.better x = true)) →
    ((l.foldl (bestStep now) r = (x, true)) ∨ (l.foldl (bestStep now) r = l.foldl (bestStep now) q ∧ (l.foldl (bestStep now) q).2 = true))
  | [], r, q, h => by
    rcases h with ⟨h, _⟩ | ⟨h, h2, _⟩
    · exact .inl h
    · exact .inr ⟨h, h2⟩
  | s :: l, r, q, h => by
    rw [List.foldl_cons, List.foldl_cons]
    refine fold_two now x l _ _ ?_
    rcases h with ⟨rfl, hq⟩ | ⟨rfl, h2, h3⟩
    · rcases bestStep_cases now (x, true) s with ⟨e, hd, hb⟩ | ⟨e, hd⟩
      · have hb' := (better_iff _ _).1 (hb rfl)
        rw [e]
        rcases bestStep_cases now q s with ⟨e2, _, _⟩ | ⟨e2, hd2⟩
        · rw [e2]; exact .inr ⟨rfl, rfl, hb rfl⟩
        · obtain ⟨h4, h5⟩ := hd2 hd
          have h6 := hq h4
          simp only [better_not] at h5 h6 hb'
          omega
      · rw [e]
        rcases bestStep_cases now q s with ⟨e2, hd2, _⟩ | ⟨e2, _⟩
        · rw [e2]; exact .inl ⟨rfl, fun _ => (hd hd2).2⟩
        · rw [e2]; exact .inl ⟨rfl, hq⟩
    · rcases bestStep_cases now r s with ⟨e, hd, hb⟩ | ⟨e, hd⟩
      · rw [e]
        have h4 := (better_iff _ _).1 (hb h2)
        rw [better_iff] at h3
        exact .inr ⟨rfl, rfl, by rw [better_iff]; simp only; omega⟩
      · rw [e]; exact .inr ⟨rfl, h2, h3⟩
/-- The best of two lists behind each other. -/
theorem best_both (now : Int) (a b : List Sess) : ((bestOf now a).2 = true ∧ bestOf now (a ++ b) = bestOf now a) ∨ ((bestOf now b).2 = true ∧ bestOf now (a ++ b) = bestOf now b) ∨ ((bestOf now a).2 = false ∧ (bestOf now b).2 = false ∧ (bestOf now (a ++ b)).2 = false) := by
  have e : bestOf now (a ++ b) = b.foldl (bestStep now) (bestOf now a) := by unfold bestOf; rw [List.foldl_append]
  rw [e]
  cases h : (bestOf now a).2
  · have hz : bestOf now a = (Sess.zero, false) := by
      have := best_none now a h
      exact Prod.ext this h
    rw [hz]
    change _ ∨ ((bestOf now b).2 = true ∧ bestOf now b = bestOf now b) ∨ (_ ∧ _ ∧ (bestOf now b).2 = false)
    cases h2 : (bestOf now b).2
    · exact .inr (.inr ⟨rfl, rfl, rfl⟩)
    · exact .inr (.inl ⟨rfl, rfl⟩)
  · have hz : bestOf now a = ((bestOf now a).1, true) := Prod.ext rfl h
    rcases fold_two now (bestOf now a).1 b (bestOf now a) (Sess.zero, false) (.inl ⟨hz, fun h => by cases h⟩) with h1 | ⟨h1, h2⟩
    · exact .inl ⟨rfl, by rw [h1, ← hz]⟩
    · exact .inr (.inl ⟨h2, h1⟩)
end Go.Proofs.Ytnofnolkdijocaa
