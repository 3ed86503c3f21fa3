/-
  Package ring: Splice, as the code has it, and what it makes of well-linked rings; the slots of a ring in their order.
-/
import Derived.Test.YtdgdbcapojgnlaaRgSt
namespace Go.Proofs.Ytdgdbcapojgnlaa
set_option maxRecDepth 100000

/-- One slot of Splice's four. -/
def St.spl1 (S : St) (one two f g i : Int) : St := S.link i (if i = g then one else if i = f then two else (S.lk i).1) (if i = one then g else if i = two then f else (S.lk i).2)
def St.spl4 (S : St) (one two f g : Int) : St := (((S.spl1 one two f g one).spl1 one two f g two).spl1 one two f g f).spl1 one two f g g
/-- Splice, as the code has it. -/
def St.splice (S : St) (one two : Int) : Value × St :=
  if (one ≠ -1 ∧ inR one = false) ∨ (two ≠ -1 ∧ inR two = false) then (.tuple #[.int .i64 0, errno 1], S)
  else if one = -1 then (.tuple #[.int .i64 two, .nilIface], S)
  else if two = -1 then (.tuple #[.int .i64 one, .nilIface], S)
  else if one = two then (.tuple #[.int .i64 0, errno 9], S)
  else if S.well one = false then (.tuple #[.int .i64 0, faultV 24 one], S)
  else if S.well two = false then (.tuple #[.int .i64 0, faultV 24 two], S)
  else (.tuple #[.int .i64 two, .nilIface], S.spl4 one two (S.lk one).2 (S.lk two).2)
theorem spl1_len (S : St) (a b f g i : Int) : (S.spl1 a b f g i).slots.length = S.slots.length := link_len ..
def spT (S : St) (a b f g x : Int) : Int × Int := (if x = g then a else if x = f then b else (S.lk x).1, if x = a then g else if x = b then f else (S.lk x).2)
theorem spl1_lk {S T : St} (hl : T.slots.length = 32) {a b f g : Int} {P : List Nat} (h : ∀ x : Nat, T.lk x = if x ∈ P then spT S a b f g x else S.lk x) {i : Nat} (hi : i < 32) :
    ∀ x : Nat, (T.spl1 a b f g i).lk x = if x ∈ P ++ [i] then spT S a b f g x else S.lk x := by
  intro x
  unfold St.spl1
  rw [St.lk_link T hl]
  by_cases hx : x = i
  · subst hx
    rw [if_pos ⟨rfl, inR_nat hi⟩, if_pos (c := x ∈ P ++ [x]) (by simp), h x]
    by_cases hP : x ∈ P
    · rw [if_pos hP]
      unfold spT
      simp only
      congr 1
      · by_cases e1 : (x : Int) = g
        · rw [if_pos e1, if_pos e1]
        · by_cases e2 : (x : Int) = f
          · rw [if_neg e1, if_pos e2, if_neg e1, if_pos e2]
          · rw [if_neg e1, if_neg e2]
      · by_cases e1 : (x : Int) = a
        · rw [if_pos e1, if_pos e1]
        · by_cases e2 : (x : Int) = b
          · rw [if_neg e1, if_pos e2, if_neg e1, if_pos e2]
          · rw [if_neg e1, if_neg e2]
    · rw [if_neg hP]
      rfl
  · rw [if_neg (by omega), h x]
    simp [hx]
theorem spl4_lk {S : St} (hl : S.slots.length = 32) {a b f g : Nat} (ha : a < 32) (hb : b < 32) (hf : f < 32) (hg : g < 32) : ∀ x : Nat, (S.spl4 a b f g).lk x = spT S a b f g x := by
  intro x
  have h0 : ∀ x : Nat, S.lk x = if x ∈ ([] : List Nat) then spT S a b f g x else S.lk x := fun x => by simp
  have h1 := spl1_lk hl h0 ha
  have h2 := spl1_lk (by rw [spl1_len, hl]) h1 hb
  have h3 := spl1_lk (by rw [spl1_len, spl1_len, hl]) h2 hf
  have h4 := spl1_lk (by rw [spl1_len, spl1_len, spl1_len, hl]) h3 hg
  show (((((S.spl1 a b f g a).spl1 a b f g b).spl1 a b f g f).spl1 a b f g g).lk x) = _
  rw [h4 x]
  by_cases hm : x ∈ [] ++ [a] ++ [b] ++ [f] ++ [g]
  · rw [if_pos hm]
  · rw [if_neg hm]
    simp at hm
    unfold spT
    rw [if_neg (by omega), if_neg (by omega), if_neg (by omega), if_neg (by omega)]
theorem spl4_moved {S : St} (hl : S.slots.length = 32) {a b f g : Nat} : Moved 4 [a, b, f, g] S (S.spl4 a b f g) :=
  ((((Moved.link S hl _ _).trans (Moved.link _ (by rw [link_len, hl]) _ _)).trans (Moved.link _ (by rw [link_len, link_len, hl]) _ _)).trans (Moved.link _ (by rw [link_len, link_len, link_len, hl]) _ _)).mono (by omega) fun x hx => by simp at hx ⊢; omega
theorem splice_ring {S : St} (hl : S.slots.length = 32) {A B : List Nat} (hA : Ring S.lk A) (hB : Ring S.lk B) (hd : ∀ x ∈ A, x ∉ B) :
    ∃ S', S.splice (lsI (-1) A) (lsI (-1) B) = (.tuple #[.int .i64 (lsI (-1) (A ++ B)), .nilIface], S') ∧ Ring S'.lk (A ++ B) ∧ Moved 4 (A ++ B) S S' := by
  by_cases h0 : A = []
  · subst h0
    refine ⟨S, ?_, hB, (Moved.refl S).mono (by omega) (fun _ h => by cases h)⟩
    by_cases h1 : B = []
    · subst h1; simp [St.splice, lsI]
    · obtain ⟨b, hb, hbm⟩ := lsI_mem (p := -1) h1
      simp only [List.nil_append, hb]
      have := inR_nat (hB.lt b hbm)
      simp [St.splice, lsI, this]
  by_cases h1 : B = []
  · subst h1
    refine ⟨S, ?_, by simpa using hA, (Moved.refl S).mono (by omega) (fun _ h => by cases h)⟩
    obtain ⟨a, ha, ham⟩ := lsI_mem (p := -1) h0
    simp only [List.append_nil, ha]
    have := inR_nat (hA.lt a ham)
    simp [St.splice, lsI, this]
    try omega
  obtain ⟨a, ha, ham⟩ := lsI_mem (p := -1) h0
  obtain ⟨b, hb, hbm⟩ := lsI_mem (p := -1) h1
  obtain ⟨f, hf, hfm⟩ := hdI_mem (n := -1) h0
  obtain ⟨g, hg, hgm⟩ := hdI_mem (n := -1) h1
  have har := hA.lt a ham
  have hbr := hB.lt b hbm
  have hfr := hA.lt f hfm
  have hgr := hB.lt g hgm
  have hab : a ≠ b := fun e => hd a ham (e ▸ hbm)
  have l1 := hA.last h0
  have l2 := hB.last h1
  rw [ha, hf] at l1
  rw [hb, hg] at l2
  have e1 : lsI (-1) (A ++ B) = b := by rw [lsI_app, ← hb]; exact lsI_ne h1
  have hlk := spl4_lk hl har hbr hfr hgr
  refine ⟨S.spl4 a b f g, ?_, ?_, ?_⟩
  · rw [ha, hb, e1]
    simp only [St.splice, inR_nat har, inR_nat hbr, hA.wellm ham, hB.wellm hbm, l1, l2]
    rw [if_neg (by simp), if_neg (by omega), if_neg (by omega), if_neg (by omega), if_neg (by simp), if_neg (by simp)]
  · refine Ring.splice hA hB h0 h1 hd (fun x hx => ?_) (fun x hx => ?_)
    · have n1 : x ≠ g := fun e => hd x hx (e ▸ hgm)
      have n2 : x ≠ b := fun e => hd x hx (e ▸ hbm)
      rw [hlk x, ha, hb, hf, hg]
      unfold spT
      rw [if_neg (c := (x : Int) = (g : Int)) (by omega), if_neg (c := (x : Int) = (b : Int)) (by omega)]
    · have n1 : x ≠ f := fun e => hd f hfm (e ▸ hx)
      have n2 : x ≠ a := fun e => hd a ham (e ▸ hx)
      rw [hlk x, ha, hb, hf, hg]
      unfold spT
      rw [if_neg (c := (x : Int) = (f : Int)) (by omega), if_neg (c := (x : Int) = (a : Int)) (by omega)]
  · refine (spl4_moved hl).mono (Int.le_refl _) fun x hx => ?_
    simp at hx ⊢
    rcases hx with rfl | rfl | rfl | rfl
    · exact .inl ham
    · exact .inr hbm
    · exact .inl hfm
    · exact .inr hgm

/-- The slots from one on, by the links behind; at most so many. -/
def St.run (S : St) : Nat → Int → List Nat
  | 0, _ => []
  | n + 1, i => if inR i = true then i.toNat :: S.run n (S.lk i).2 else []
def upto (last : Int) : List Nat → List Nat
  | [] => []
  | x :: xs => if (x : Int) = last then [x] else x :: upto last xs
/-- What All hands out. -/
def St.all (S : St) (last : Int) : List Nat := if inR last = true then upto last (S.run 32 (S.lk last).2) else []
theorem run_ring {S : St} : ∀ (L : List Nat) (p n : Int) (k : Nat), Lk S.lk p L n → L ≠ [] → L.Nodup → (∀ x ∈ L, x < 32) → L.length ≤ k → upto (lsI (-1) L) (S.run k (hdI (-1) L)) = L
  | [], _, _, _, _, h, _, _, _ => absurd rfl h
  | a :: L, p, n, 0, _, _, _, _, h => by simp at h
  | a :: L, p, n, k + 1, h, _, hd, hlt, hk => by
    have ha := inR_nat (hlt a (by simp))
    simp only [hdI, St.run, ha, if_true, Int.toNat_natCast]
    cases L with
    | nil => simp [upto, lsI]
    | cons b M =>
      have hd' := List.nodup_cons.1 hd
      obtain ⟨x, hx, hxm⟩ := lsI_mem (p := (a : Int)) (A := b :: M) (by simp)
      have e1 : lsI (-1) (a :: b :: M) = lsI (-1) (b :: M) := rfl
      have e2 : lsI (-1) (b :: M) = x := by rw [← hx]; rfl
      have e3 : (S.lk a).2 = hdI (-1) (b :: M) := by rw [h.1]; rfl
      have ih := run_ring (b :: M) a n k h.2 (by simp) hd'.2 (fun y hy => hlt y (List.mem_cons_of_mem _ hy)) (by simp at hk ⊢; omega)
      rw [e1, e3]
      unfold upto
      rw [if_neg, ih]
      rw [e2]
      intro e
      exact hd'.1 (by have : a = x := by omega
                      exact this ▸ hxm)
theorem all_ring {S : St} {L : List Nat} (h : Ring S.lk L) (hlen : L.length ≤ 32) : S.all (lsI (-1) L) = L := by
  by_cases h0 : L = []
  · subst h0; rfl
  · obtain ⟨l, hl, hm⟩ := lsI_mem (p := -1) h0
    unfold St.all
    rw [h.last h0, hl, inR_nat (h.lt l hm), if_pos rfl, ← hl]
    exact run_ring L _ _ 32 h.lk h0 h.nodup h.lt hlen
theorem run_lt (S : St) : ∀ (k : Nat) (i : Int), ∀ x ∈ S.run k i, x < 32
  | 0, _, x, h => by cases h
  | k + 1, i, x, h => by
    unfold St.run at h
    split at h
    · rename_i hi
      rcases List.mem_cons.1 h with rfl | h
      · have := inR_iff.1 hi; omega
      · exact run_lt S k _ x h
    · cases h
theorem run_len (S : St) : ∀ (k : Nat) (i : Int), (S.run k i).length ≤ k
  | 0, _ => Nat.le_refl _
  | k + 1, i => by
    unfold St.run
    split
    · have := run_len S k (S.lk i).2
      simp; omega
    · simp
theorem upto_pre (last : Int) : ∀ L : List Nat, upto last L <+: L
  | [] => List.prefix_rfl
  | x :: xs => by
    unfold upto
    split
    · exact ⟨xs, rfl⟩
    · obtain ⟨t, ht⟩ := upto_pre last xs
      exact ⟨t, by rw [List.cons_append, ht]⟩
theorem all_len (S : St) (last : Int) : (S.all last).length ≤ 32 := by
  unfold St.all
  split
  · exact Nat.le_trans (upto_pre _ _).length_le (run_len ..)
  · simp
end Go.Proofs.Ytdgdbcapojgnlaa
