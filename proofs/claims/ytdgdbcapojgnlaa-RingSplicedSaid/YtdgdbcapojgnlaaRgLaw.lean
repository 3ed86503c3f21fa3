/-
  Rings of slots as links: laws of lists alone, of no program.
-/
namespace Go.Proofs.Ytdgdbcapojgnlaa
set_option maxRecDepth 100000

def hdI (n : Int) : List Nat → Int
  | [] => n
  | x :: _ => x
def lsI (p : Int) : List Nat → Int
  | [] => p
  | x :: xs => lsI x xs
/-- These follow one another: what is ahead of the first one is p, what is behind the last one n. -/
def Lk (f : Int → Int × Int) : Int → List Nat → Int → Prop
  | _, [], _ => True
  | p, x :: xs, n => f x = (p, hdI n xs) ∧ Lk f x xs n
theorem lsI_app (p : Int) (A B : List Nat) : lsI p (A ++ B) = lsI (lsI p A) B := by
  induction A generalizing p with
  | nil => rfl
  | cons a A ih => exact ih _
theorem hdI_app (n : Int) (A B : List Nat) : hdI n (A ++ B) = hdI (hdI n B) A := by
  cases A <;> rfl
theorem lsI_ne {p q : Int} {A : List Nat} (h : A ≠ []) : lsI p A = lsI q A := by
  cases A with
  | nil => exact absurd rfl h
  | cons a A => rfl
theorem hdI_ne {p q : Int} {A : List Nat} (h : A ≠ []) : hdI p A = hdI q A := by
  cases A with
  | nil => exact absurd rfl h
  | cons a A => rfl
theorem lsI_mem {p : Int} {A : List Nat} (h : A ≠ []) : ∃ x : Nat, lsI p A = x ∧ x ∈ A := by
  induction A generalizing p with
  | nil => exact absurd rfl h
  | cons a A ih =>
    cases A with
    | nil => exact ⟨a, rfl, by simp⟩
    | cons b B =>
      obtain ⟨x, h1, h2⟩ := ih (p := a) (by simp)
      exact ⟨x, h1, List.mem_cons_of_mem _ h2⟩
theorem hdI_mem {n : Int} {A : List Nat} (h : A ≠ []) : ∃ x : Nat, hdI n A = x ∧ x ∈ A := by
  cases A with
  | nil => exact absurd rfl h
  | cons a A => exact ⟨a, rfl, by simp⟩
theorem Lk.app {f : Int → Int × Int} {A B : List Nat} {p n : Int} : Lk f p (A ++ B) n ↔ Lk f p A (hdI n B) ∧ Lk f (lsI p A) B n := by
  induction A generalizing p with
  | nil => simp [Lk, lsI]
  | cons a A ih =>
    simp only [List.cons_append, Lk, lsI, hdI_app, ih, and_assoc]
/-- Only the links of these count. -/
theorem Lk.congr {f f' : Int → Int × Int} {L : List Nat} {p n : Int} (h : Lk f p L n) (e : ∀ x ∈ L, f' x = f x) : Lk f' p L n := by
  induction L generalizing p with
  | nil => trivial
  | cons a L ih => exact ⟨(e a (by simp)).trans h.1, ih h.2 fun x hx => e x (List.mem_cons_of_mem _ hx)⟩
/-- The ends are turned. -/
theorem Lk.turn {f f' : Int → Int × Int} {L : List Nat} {p n p' n' : Int} (h : Lk f p L n) (hd : L.Nodup)
    (e : ∀ x ∈ L, f' (x : Int) = (if (x : Int) = hdI (-1) L then p' else (f x).1, if (x : Int) = lsI (-1) L then n' else (f x).2)) : Lk f' p' L n' := by
  induction L generalizing p p' with
  | nil => trivial
  | cons a L ih =>
    have hd' := List.nodup_cons.1 hd
    cases L with
    | nil =>
      refine ⟨?_, trivial⟩
      rw [e a (by simp)]
      simp [hdI, lsI]
    | cons b M =>
      obtain ⟨h1, h2⟩ := h
      obtain ⟨x, hx, hxm⟩ := lsI_mem (p := a) (A := b :: M) (by simp)
      have hne : ∀ y ∈ b :: M, (y : Int) ≠ (a : Int) := fun y hy e => hd'.1 (by have : y = a := by omega
                                                                                rw [← this]; exact hy)
      have hla : ¬ ((a : Int) = lsI (-1) (a :: b :: M)) := by
        show ¬ ((a : Int) = lsI a (b :: M))
        rw [hx]
        exact fun e => hne x hxm e.symm
      refine ⟨?_, ?_⟩
      · rw [e a (by simp), if_neg hla, h1]
        simp [hdI]
      · refine ih h2 hd'.2 fun y hy => ?_
        rw [e y (List.mem_cons_of_mem _ hy), if_neg (show ¬ ((y : Int) = hdI (-1) (a :: b :: M)) from hne y hy)]
        have e1 : lsI (-1) (a :: b :: M) = lsI (-1) (b :: M) := rfl
        rw [e1]
        congr 1
        by_cases hyb : (y : Int) = hdI (-1) (b :: M)
        · rw [if_pos hyb]
          have : y = b := by simp [hdI] at hyb; omega
          subst this
          rw [h2.1]
        · rw [if_neg hyb]
/-- A ring: these slots, the first one first. -/
structure Ring (f : Int → Int × Int) (L : List Nat) : Prop where
  nodup : L.Nodup
  lt : ∀ x ∈ L, x < 32
  lk : Lk f (lsI (-1) L) L (hdI (-1) L)
theorem Ring.nil (f : Int → Int × Int) : Ring f [] := ⟨List.nodup_nil, fun _ h => (by cases h), trivial⟩
theorem Ring.congr {f f' : Int → Int × Int} {L : List Nat} (h : Ring f L) (e : ∀ x ∈ L, f' x = f x) : Ring f' L := ⟨h.nodup, h.lt, h.lk.congr e⟩
theorem Ring.rot {f : Int → Int × Int} {A B : List Nat} (h : Ring f (A ++ B)) : Ring f (B ++ A) := by
  by_cases hA : A = []
  · subst hA; simpa using h
  by_cases hB : B = []
  · subst hB; simpa using h
  refine ⟨?_, fun x hx => h.lt x (by simp at hx ⊢; exact hx.symm), ?_⟩
  · have := h.nodup
    rw [List.nodup_append] at this ⊢
    exact ⟨this.2.1, this.1, fun a ha b hb e => this.2.2 b hb a ha e.symm⟩
  · have := h.lk
    rw [Lk.app] at this ⊢
    rw [lsI_app, hdI_app] at this ⊢
    have l1 : ∀ p, lsI p A = lsI (-1) A := fun p => lsI_ne hA
    have l2 : ∀ p, lsI p B = lsI (-1) B := fun p => lsI_ne hB
    have h1 : ∀ p, hdI p A = hdI (-1) A := fun p => hdI_ne hA
    have h2 : ∀ p, hdI p B = hdI (-1) B := fun p => hdI_ne hB
    simp only [l1 (lsI _ _), l2 (lsI _ _), h1 (hdI _ _), h2 (hdI _ _)] at this ⊢
    exact ⟨this.2, this.1⟩
/-- The ends of one ring. -/
theorem Ring.first {f : Int → Int × Int} {L : List Nat} {a : Nat} (h : Ring f (a :: L)) : f a = (lsI (-1) (a :: L), hdI a L) := h.lk.1
theorem Ring.last {f : Int → Int × Int} {L : List Nat} (h : Ring f L) (hL : L ≠ []) : (f (lsI (-1) L)).2 = hdI (-1) L := by
  have : ∀ (L : List Nat) (p n : Int), L ≠ [] → Lk f p L n → (f (lsI (-1) L)).2 = n := by
    intro L
    induction L with
    | nil => intro p n h; exact absurd rfl h
    | cons a L ih =>
      intro p n _ h
      cases L with
      | nil => show (f a).2 = n; rw [h.1]; rfl
      | cons b M => exact ih a n (by simp) h.2
  exact this L _ _ hL h.lk
theorem Ring.head {f : Int → Int × Int} {L : List Nat} (h : Ring f L) (hL : L ≠ []) : (f (hdI (-1) L)).1 = lsI (-1) L := by
  cases L with
  | nil => exact absurd rfl hL
  | cons a L => show (f a).1 = _; rw [h.first]
/-- Both neighbours lead back. -/
theorem Ring.there {f : Int → Int × Int} {A B : List Nat} {i : Nat} (h : Ring f (A ++ i :: B)) : ∃ p n : Nat, f i = ((p : Int), (n : Int)) ∧ p ∈ A ++ i :: B ∧ n ∈ A ++ i :: B ∧ (f p).2 = i ∧ (f n).1 = i ∧ (p : Int) = lsI (lsI (-1) (i :: B)) A ∧ (n : Int) = hdI (hdI (-1) (A ++ [i])) B := by
  have hr := h.rot
  have hm : ∀ x, x ∈ i :: B ++ A → x ∈ A ++ i :: B := fun x hx => by simp at hx ⊢; rcases hx with h | h | h <;> simp [h]
  obtain ⟨p, hp, hpm⟩ := lsI_mem (p := -1) (A := i :: B ++ A) (by simp)
  obtain ⟨n, hn, hnm⟩ := hdI_mem (n := (i : Int)) (A := B ++ A ++ [i]) (by simp)
  have hn' : hdI (i : Int) (B ++ A) = n := by rw [hdI_app] at hn; exact hn
  have hlk : f i = (lsI (-1) (i :: B ++ A), hdI i (B ++ A)) := hr.first
  refine ⟨p, n, by rw [hlk, hp, hn'], hm p hpm, hm n (by simp at hnm ⊢; rcases hnm with h | h | h <;> simp [h]), ?_, ?_, ?_, ?_⟩
  · rw [← hp]
    exact hr.last (by simp)
  · by_cases hBA : B ++ A = []
    · rw [hBA] at hn'
      have : n = i := by simp [hdI] at hn'; omega
      subst this
      have e := hr.first
      rw [e]
      simp [hBA, lsI]
    · have hr2 : Ring f ([i] ++ (B ++ A)) := by simpa using hr
      have := hr2.lk
      rw [Lk.app] at this
      have h2 := this.2
      obtain ⟨C, c, hC⟩ : ∃ c C, B ++ A = c :: C := by
        cases hh : B ++ A with
        | nil => exact absurd hh hBA
        | cons c C => exact ⟨c, C, rfl⟩
      rw [hC] at h2 hn'
      have hcn : C = n := by simp [hdI] at hn'; omega
      subst hcn
      rw [h2.1]
      rfl
  · rw [← hp]
    show lsI (i : Int) (B ++ A) = _
    rw [lsI_app]; rfl
  · rw [← hn', hdI_app]
    congr 1
    rw [hdI_app]; rfl
/-- **Splice**: the two ends are turned. -/
theorem Ring.splice {f g f' : Int → Int × Int} {A B : List Nat} (hA : Ring f A) (hB : Ring g B) (h0 : A ≠ []) (h1 : B ≠ []) (hd : ∀ x ∈ A, x ∉ B)
    (eA : ∀ x ∈ A, f' (x : Int) = (if (x : Int) = hdI (-1) A then lsI (-1) B else (f x).1, if (x : Int) = lsI (-1) A then hdI (-1) B else (f x).2))
    (eB : ∀ x ∈ B, f' (x : Int) = (if (x : Int) = hdI (-1) B then lsI (-1) A else (g x).1, if (x : Int) = lsI (-1) B then hdI (-1) A else (g x).2)) : Ring f' (A ++ B) := by
  refine ⟨List.nodup_append.2 ⟨hA.nodup, hB.nodup, fun a ha b hb e => hd a ha (e ▸ hb)⟩, fun x hx => by rcases List.mem_append.1 hx with h | h; exact hA.lt x h; exact hB.lt x h, ?_⟩
  rw [Lk.app]
  refine ⟨?_, ?_⟩
  · rw [lsI_app, show lsI (lsI (-1) A) B = lsI (-1) B from lsI_ne h1, hdI_app, show hdI (hdI (hdI (-1) B) A) B = hdI (-1) B from hdI_ne h1]
    exact hA.lk.turn hA.nodup eA
  · rw [lsI_app, hdI_app, show hdI (hdI (-1) B) A = hdI (-1) A from hdI_ne h0]
    rw [show lsI (lsI (lsI (-1) A) B) A = lsI (-1) A from lsI_ne h0]
    exact hB.lk.turn hB.nodup eB
/-- **Drop**: what was beside it is made one another's. -/
theorem Ring.drop {f f' : Int → Int × Int} {A B : List Nat} {i : Nat} (h : Ring f (A ++ i :: B)) (e : ∀ x ∈ A ++ B, f' (x : Int) = (if (f i).2 = (x : Int) then (f i).1 else (f x).1, if (f i).1 = (x : Int) then (f i).2 else (f x).2)) : Ring f' (A ++ B) := by
  have hr := h.rot
  by_cases hBA : B ++ A = []
  · simp at hBA
    rw [hBA.1, hBA.2]; exact Ring.nil _
  have hr2 : Ring f ([i] ++ (B ++ A)) := by simpa using hr
  refine Ring.rot (A := B) (B := A) ⟨(List.nodup_append.1 hr2.nodup).2.1, fun x hx => hr2.lt x (List.mem_append_right _ hx), ?_⟩
  have h2 := hr2.lk
  rw [Lk.app] at h2
  refine h2.2.turn (List.nodup_append.1 hr2.nodup).2.1 fun x hx => ?_
  have hi : f i = (lsI (-1) (B ++ A), hdI (-1) (B ++ A)) := by
    have := hr2.first
    rw [show lsI (-1) (i :: [].append (B ++ A)) = lsI (-1) (B ++ A) from lsI_ne (p := i) hBA, show hdI (i : Int) ([].append (B ++ A)) = hdI (-1) (B ++ A) from hdI_ne hBA] at this
    exact this
  rw [e x (by simp at hx ⊢; exact hx.symm), hi]
  congr 1
  · by_cases hh : hdI (-1) (B ++ A) = (x : Int)
    · rw [if_pos hh, if_pos hh.symm]
    · rw [if_neg hh, if_neg fun k => hh k.symm]
  · by_cases hh : lsI (-1) (B ++ A) = (x : Int)
    · rw [if_pos hh, if_pos hh.symm]
    · rw [if_neg hh, if_neg fun k => hh k.symm]
end Go.Proofs.Ytdgdbcapojgnlaa
