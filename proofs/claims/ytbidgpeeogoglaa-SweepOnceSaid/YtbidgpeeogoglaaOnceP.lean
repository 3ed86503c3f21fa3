/-
  Garbage over a forest, as lists: what is put there is freed in the order of All; of no program.
-/
import Derived.Test.YtbidgpeeogoglaaHp
import Derived.Test.YtbidgpeeogoglaaHk
namespace Go.Proofs.Ytbidgpeeogoglaa
set_option maxRecDepth 100000
open Go.RowKit Go.Sort

theorem lk_at {S : St} (hl : S.slots.length = 32) {x : Int} (hx : inR x = true) : S.lk x = ((S.slotAt x).prev, (S.slotAt x).next) := by
  have h0 := inR_iff.1 hx
  obtain ⟨s, hs⟩ := slot_of hl (show x.toNat < 32 by omega)
  unfold St.lk St.slotAt
  simp only [hx, if_true, hs, if_pos h0]
theorem ring_lastR {f : Int → Int × Int} {L : List Nat} (h : Ring f L) (hL : L ≠ []) : inR (lsI (-1) L) = true := by
  obtain ⟨x, hx, hm⟩ := lsI_mem (p := (-1 : Int)) (A := L) hL
  rw [hx]; exact inR_nat (h.lt x hm)
theorem give_slotAt {S : St} (hl : S.slots.length = 32) {k : Nat} (hk : k < 32) (j : Int) : (S.give k).slotAt j = if j = (k : Int) then SlotV.bare else S.slotAt j :=
  (slotAt_congr (show (S.give k).slots = (S.put k SlotV.bare).slots from rfl) j).trans (put_slotAt hl hk SlotV.bare j)
theorem give_lk {S : St} (hl : S.slots.length = 32) {k : Nat} (hk : k < 32) (x : Nat) (hx : x ≠ k) : (S.give k).lk x = S.lk x :=
  (lk_congr (show (S.give k).slots = (S.put k SlotV.bare).slots from rfl) x).trans (put_lk hl hk SlotV.bare x hx)
section
variable {R : St} {l : Int} {K : Int → List Nat}
theorem Fo.gadd (F : Fo R l K) {i : Nat} (hi : i < 32) (hu : (R.slotAt i).used = true) (hik : ∀ q, i ∉ K q) :
    ∃ R', R.gadd (lsI (-1) (K (-2))) i = ((0, -1), R', (i : Int)) ∧ Fo R' l (fun q => if q = -2 then K (-2) ++ [i] else K q) ∧ R'.free = R.free ∧
      (∀ j : Nat, (R'.slotAt j).used = (R.slotAt j).used ∧ (R'.slotAt j).birth = (R.slotAt j).birth ∧ (R'.slotAt j).upSlot = (R.slotAt j).upSlot ∧ (R'.slotAt j).upBirth = (R.slotAt j).upBirth) := by
  obtain ⟨e1, e2, e3, sp⟩ := rpush_ring F.len (F.ring (-2)) hi (hik (-2))
  unfold St.gadd
  rw [inR_nat hi, hu, if_neg (by simp), if_neg (by simp), if_pos e2, e1]
  refine ⟨_, rfl, ⟨sp.len, ?_, fun j hj => ?_, fun q => ?_, fun q q' hqq x hx hx' => ?_⟩, sp.free, fun j => ⟨sp.used j, sp.birth j, sp.upSlot j, sp.upBirth j⟩⟩
  · rw [if_neg (by omega)]; exact F.last
  · rw [if_neg (by omega), sp.kids j]; exact F.kids j hj
  · split
    · exact e3
    · rename_i hq
      refine (F.ring q).congr fun x hx => sp.lk x fun hm => ?_
      rw [List.mem_append, List.mem_singleton] at hm
      rcases hm with hm | rfl
      · exact F.apart q (-2) hq x hx hm
      · exact hik q hx
  · split at hx
    · rename_i e
      rw [if_neg (by omega)] at hx'
      rw [List.mem_append, List.mem_singleton] at hx
      rcases hx with hx | rfl
      · exact F.apart (-2) q' (by omega) x hx hx'
      · exact hik q' hx'
    · split at hx'
      · rename_i e e'
        rw [List.mem_append, List.mem_singleton] at hx'
        rcases hx' with hx' | rfl
        · exact F.apart q (-2) e x hx hx'
        · exact hik q hx
      · exact F.apart q q' hqq x hx hx'
theorem Fo.unit (F : Fo R l K) {f : Nat} {rest : List Nat} (hK : K (-2) = f :: rest) (hf : f ∉ R.free) :
    ∃ R', R.gunit (lsI (-1) (K (-2))) = (((f : Int), true), R', lsI (-1) (rest ++ K f)) ∧ Fo R' l (fun q => if q = -2 then rest ++ K f else if q = (f : Int) then [] else K q) ∧ R'.free = f :: R.free ∧
      (R'.slotAt f) = SlotV.bare ∧ (∀ j : Nat, j ≠ f → (R'.slotAt j).used = (R.slotAt j).used ∧ (R'.slotAt j).birth = (R.slotAt j).birth) := by
  have hr2 := F.ring (-2)
  have hne : K (-2) ≠ [] := by rw [hK]; simp
  have hf32 : f < 32 := hr2.lt f (by rw [hK]; simp)
  have hin := ring_lastR hr2 hne
  have hnx : (R.slotAt (lsI (-1) (K (-2)))).next = (f : Int) := by
    have h := hr2.last hne
    rw [lk_at F.len hin] at h
    rw [hK] at h ⊢
    exact h
  have hd : ∀ x ∈ K (-2), x ∉ K (f : Int) := F.apart (-2) f (by omega)
  obtain ⟨e1, e2, e3, sp1⟩ := rsplice_ring F.len hr2 (F.ring f) hd
  rw [hK] at e1 e2 e3 sp1 hin hnx ⊢
  rw [List.cons_append] at e1 e3 sp1
  unfold St.gunit
  rw [hnx, if_neg (by rw [hin]; simp), if_neg (by rw [inR_nat hf32]; simp), F.kids f hf32, if_neg (by rw [e2]; simp), e1]
  generalize hQ : (R.rsplice (lsI (-1) (f :: rest)) (lsI (-1) (K f))).2 = Q at *
  obtain ⟨d1, d2, d3, d4, sp2⟩ := rdrop_ring (A := []) (B := rest ++ K f) sp1.len e3
  rw [List.nil_append] at d1 d2 d3 d4 sp2
  rw [if_neg (by rw [d2]; simp), d1]
  generalize hP : (Q.rdrop (lsI (-1) (f :: (rest ++ K f))) f).2 = P at *
  have hPf : P.free = R.free := sp2.free.trans sp1.free
  have hg0 : giveNo P f = 0 := by
    unfold giveNo
    rw [if_pos (inR_nat hf32), hPf, Int.toNat_natCast, if_neg hf]
  have hgz : P.giveZ f = P.give f := by
    unfold St.giveZ
    rw [if_pos ⟨inR_nat hf32, by rw [hPf, Int.toNat_natCast]; exact hf⟩, Int.toNat_natCast]
  have hfr : f ∉ rest ++ K (f : Int) := (List.nodup_cons.1 e3.nodup).1
  have hgl : (P.give f).slots.length = 32 := by show (P.slots.set _ _).length = 32; rw [List.length_set]; exact sp2.len
  have hsp : ∀ j : Int, (P.slotAt j).kids = (R.slotAt j).kids ∧ (P.slotAt j).used = (R.slotAt j).used ∧ (P.slotAt j).birth = (R.slotAt j).birth := fun j => ⟨(sp2.kids j).trans (sp1.kids j), (sp2.used j).trans (sp1.used j), (sp2.birth j).trans (sp1.birth j)⟩
  rw [if_pos hg0, hgz]
  refine ⟨_, rfl, ⟨hgl, ?_, fun j hj => ?_, fun q => ?_, fun q q' hqq x hx hx' => ?_⟩, ?_, ?_, fun j hj => ?_⟩
  · rw [if_neg (by omega), if_neg (by omega)]; exact F.last
  · rw [give_slotAt sp2.len hf32, if_neg (show ¬ ((j : Int) = -2) by omega)]
    by_cases e : (j : Int) = (f : Int)
    · rw [if_pos e, if_pos e]; rfl
    · rw [if_neg e, if_neg e, (hsp j).1]; exact F.kids j hj
  · split
    · exact d3.congr fun x hx => give_lk sp2.len hf32 x fun e => hfr (e ▸ hx)
    · rename_i hq
      split
      · exact Ring.nil _
      · rename_i hq2
        refine (F.ring q).congr fun x hx => ?_
        have hxf : x ≠ f := fun e => F.apart q (-2) hq x hx (by rw [hK, e]; simp)
        have hxm : x ∉ f :: (rest ++ K (f : Int)) := fun hm => by
          rw [List.mem_cons, List.mem_append] at hm
          rcases hm with h | h | h
          · exact hxf h
          · exact F.apart q (-2) hq x hx (by rw [hK]; simp [h])
          · exact F.apart q f hq2 x hx h
        exact (give_lk sp2.len hf32 x hxf).trans ((sp2.lk x hxm).trans (sp1.lk x hxm))
  · have key : ∀ q q' : Int, q ≠ q' → q ≠ -2 → x ∈ (if q = -2 then rest ++ K f else if q = (f : Int) then [] else K q) → x ∈ (if q' = -2 then rest ++ K f else if q' = (f : Int) then [] else K q') → False := fun q q' hqq hq hx hx' => by
      rw [if_neg hq] at hx
      split at hx
      · cases hx
      · rename_i hqf
        split at hx'
        · rw [List.mem_append] at hx'
          rcases hx' with h | h
          · exact F.apart q (-2) hq x hx (by rw [hK]; simp [h])
          · exact F.apart q f hqf x hx h
        · split at hx'
          · cases hx'
          · exact F.apart q q' hqq x hx hx'
    by_cases h2 : q = -2
    · exact key q' q (Ne.symm hqq) (by omega) hx' hx
    · exact key q q' hqq h2 hx hx'
  · show f :: P.free = f :: R.free
    rw [hPf]
  · rw [give_slotAt sp2.len hf32, if_pos rfl]
  · rw [give_slotAt sp2.len hf32, if_neg (by omega)]; exact (hsp j).2
theorem Fo.unit_none (R : St) : R.gunit (-1) = ((0, false), R, -1) := by
  unfold St.gunit
  rw [if_pos (by rfl)]
theorem withL_disj : ∀ (m l : List Nat), m.Nodup → (∀ x ∈ m, x ∉ l) → withL l m = l ++ m
  | [], l, _, _ => by simp [withL]
  | a :: m, l, hn, hd => by
    have h1 := List.nodup_cons.1 hn
    have ih := withL_disj m (l ++ [a]) h1.2 fun x hx hm => by
      rcases List.mem_append.1 hm with h | h
      · exact hd x (List.mem_cons_of_mem _ hx) h
      · rw [List.mem_singleton] at h; subst h; exact h1.1 hx
    unfold withL at ih ⊢
    rw [List.foldl_cons, if_neg (hd a (by simp)), ih, List.append_assoc]; rfl
/-- Each comes from the garbage, or from one that was gone over. -/
def Src (K : Int → List Nat) (L : List Nat) (k : Nat) : Prop := ∀ x ∈ L, x ∈ K (-2) ∨ ∃ p ∈ L.take k, x ∈ K (p : Int)
theorem Fo.allK (F : Fo R l K) (p : Int) : R.all (lsI (-1) (K p)) = K p := all_ring (F.ring p) (nodup_len 32 _ (F.ring p).nodup (F.ring p).lt)
theorem take_at {L : List Nat} {k j x : Nat} (h : L[j]? = some x) (hj : j < k) : x ∈ L.take k := by
  refine List.mem_of_getElem? (i := j) ?_
  rw [List.getElem?_take, if_pos hj]; exact h
theorem nodup_at {L : List Nat} (h : L.Nodup) {k f : Nat} (hk : L[k]? = some f) : f ∉ L.take k := fun hm => by
  obtain ⟨j, hj⟩ := List.getElem?_of_mem hm
  rw [List.getElem?_take] at hj
  split at hj
  · rename_i hjk
    have h1 := (List.getElem?_eq_some_iff.1 hk).1
    have := (List.getElem?_inj (i := j) (j := k) (by omega) h).1 (hj.trans hk.symm)
    omega
  · cases hj
theorem Fo.bfs (F : Fo R l K) : ∀ k, Src K (R.swIt (lsI (-1) (K (-2))) k) k ∧ ∀ f, (R.swIt (lsI (-1) (K (-2))) k)[k]? = some f → R.swIt (lsI (-1) (K (-2))) (k + 1) = R.swIt (lsI (-1) (K (-2))) k ++ K (f : Int)
  | k => by
    have hs : Src K (R.swIt (lsI (-1) (K (-2))) k) k := by
      cases k with
      | zero =>
        intro x hx
        unfold St.swIt at hx
        rw [F.allK, withL_disj _ _ (F.ring (-2)).nodup (fun x _ h => by cases h), List.nil_append] at hx
        exact .inl hx
      | succ k =>
        obtain ⟨h1, h2⟩ := F.bfs k
        cases hk : (R.swIt (lsI (-1) (K (-2))) k)[k]? with
        | none =>
          have e : R.swIt (lsI (-1) (K (-2))) (k + 1) = R.swIt (lsI (-1) (K (-2))) k := swIt_stay R _ (List.getElem?_eq_none_iff.1 hk) 1
          rw [e]
          intro x hx
          rcases h1 x hx with h | ⟨p, hp, h⟩
          · exact .inl h
          · exact .inr ⟨p, (List.take_subset_take_left _ (Nat.le_succ k)) hp, h⟩
        | some f =>
          rw [h2 f hk]
          intro x hx
          have hkl := (List.getElem?_eq_some_iff.1 hk).1
          have ht : ∀ y, y ∈ (R.swIt (lsI (-1) (K (-2))) k).take (k + 1) → y ∈ (R.swIt (lsI (-1) (K (-2))) k ++ K (f : Int)).take (k + 1) := fun y hy => by
            rw [List.take_append_of_le_length (by omega)]; exact hy
          rcases List.mem_append.1 hx with hx | hx
          · rcases h1 x hx with h | ⟨p, hp, h⟩
            · exact .inl h
            · exact .inr ⟨p, ht p ((List.take_subset_take_left _ (Nat.le_succ k)) hp), h⟩
          · exact .inr ⟨f, ht f (take_at hk (by omega)), hx⟩
    refine ⟨hs, fun f hf => ?_⟩
    have hnd := (swIt_row R (lsI (-1) (K (-2))) k).1
    have hf32 := (swIt_row R (lsI (-1) (K (-2))) k).2 f (List.mem_of_getElem? hf)
    rw [swIt_next R _ hf, F.kids f hf32, F.allK, withL_disj _ _ (F.ring f).nodup]
    intro x hx hm
    rcases hs x hm with h | ⟨p, hp, h⟩
    · exact F.apart f (-2) (by omega) x hx h
    · by_cases e : p = f
      · subst e; exact nodup_at hnd hf hp
      · exact F.apart f p (by omega) x hx h
theorem Fo.pre1 (F : Fo R l K) (k : Nat) : R.swIt (lsI (-1) (K (-2))) k <+: R.swIt (lsI (-1) (K (-2))) (k + 1) := by
  cases hk : (R.swIt (lsI (-1) (K (-2))) k)[k]? with
  | none => rw [show R.swIt (lsI (-1) (K (-2))) (k + 1) = R.swIt (lsI (-1) (K (-2))) k from swIt_stay R _ (List.getElem?_eq_none_iff.1 hk) 1]; exact List.prefix_refl _
  | some f => rw [(F.bfs k).2 f hk]; exact List.prefix_append _ _
theorem Fo.pre (F : Fo R l K) (k : Nat) : ∀ j, R.swIt (lsI (-1) (K (-2))) k <+: R.swIt (lsI (-1) (K (-2))) (k + j)
  | 0 => List.prefix_refl _
  | j + 1 => (F.pre k j).trans (F.pre1 (k + j))
theorem Fo.preAll (F : Fo R l K) {k : Nat} (hk : k ≤ 32) : R.swIt (lsI (-1) (K (-2))) k <+: R.swAll (lsI (-1) (K (-2))) := by
  have := F.pre k (32 - k)
  rw [show k + (32 - k) = 32 by omega] at this
  exact this
theorem swAll_len (R : St) (l3 : Int) : (R.swAll l3).length ≤ 32 := swIt_len R l3 32
/-- The k-th of all is the k-th when its turn comes. -/
theorem Fo.at_ (F : Fo R l K) {k : Nat} (hk : k < (R.swAll (lsI (-1) (K (-2)))).length) : (R.swIt (lsI (-1) (K (-2))) k)[k]? = (R.swAll (lsI (-1) (K (-2))))[k]? := by
  have h32 := swAll_len R (lsI (-1) (K (-2)))
  have hlt : k < (R.swIt (lsI (-1) (K (-2))) k).length := by
    rcases Nat.lt_or_ge k (R.swIt (lsI (-1) (K (-2))) k).length with h | h
    · exact h
    · rw [swAll_at R _ (by omega) h] at hk; omega
  obtain ⟨t, ht⟩ := F.preAll (k := k) (by omega)
  rw [← ht, List.getElem?_append_left hlt]
theorem Fo.takeAll (F : Fo R l K) {k : Nat} (hk : k ≤ (R.swAll (lsI (-1) (K (-2)))).length) : (R.swIt (lsI (-1) (K (-2))) k).take k = (R.swAll (lsI (-1) (K (-2)))).take k := by
  have h32 := swAll_len R (lsI (-1) (K (-2)))
  obtain ⟨t, ht⟩ := F.preAll (k := k) (by omega)
  have hle : k ≤ (R.swIt (lsI (-1) (K (-2))) k).length := by
    rcases Nat.lt_or_ge (R.swIt (lsI (-1) (K (-2))) k).length k with h | h
    · rw [swAll_at R _ (by omega) (Nat.le_of_lt h)] at hk; omega
    · exact h
  rw [← ht, List.take_append_of_le_length hle]
theorem Fo.mem_all (F : Fo R l K) (D : Nat → Prop) (hG : ∀ x ∈ K (-2), D x) (hK : ∀ p x : Nat, D p → x ∈ K (p : Int) → D x) (hB : ∀ x, D x → x ∈ K (-2) ∨ ∃ p : Nat, D p ∧ p < x ∧ x ∈ K (p : Int)) (x : Nat) : x ∈ R.swAll (lsI (-1) (K (-2))) ↔ D x := by
  constructor
  · have : ∀ k, ∀ x ∈ R.swIt (lsI (-1) (K (-2))) k, D x := by
      intro k
      induction k with
      | zero =>
        intro x hx
        rcases (F.bfs 0).1 x hx with h | ⟨p, hp, _⟩
        · exact hG x h
        · simp at hp
      | succ k ih =>
        intro x hx
        cases hk : (R.swIt (lsI (-1) (K (-2))) k)[k]? with
        | none => rw [show R.swIt (lsI (-1) (K (-2))) (k + 1) = R.swIt (lsI (-1) (K (-2))) k from swIt_stay R _ (List.getElem?_eq_none_iff.1 hk) 1] at hx; exact ih x hx
        | some f =>
          rw [(F.bfs k).2 f hk] at hx
          rcases List.mem_append.1 hx with hx | hx
          · exact ih x hx
          · exact hK f x (ih f (List.mem_of_getElem? hk)) hx
    exact this 32 x
  · induction x using Nat.strongRecOn with
    | _ x ih =>
      intro hx
      rcases hB x hx with h | ⟨p, hp, hlt, h⟩
      · refine (F.preAll (k := 0) (by omega)).subset ?_
        unfold St.swIt
        rw [F.allK, withL_disj _ _ (F.ring (-2)).nodup (fun x _ h => by cases h)]
        exact h
      · obtain ⟨j, hj⟩ := List.getElem?_of_mem (ih p hlt hp)
        have hjl := (List.getElem?_eq_some_iff.1 hj).1
        have h32 := swAll_len R (lsI (-1) (K (-2)))
        refine (F.preAll (k := j + 1) (by omega)).subset ?_
        rw [(F.bfs j).2 p ((F.at_ hjl).trans hj)]
        exact List.mem_append_right _ h
end
end Go.Proofs.Ytbidgpeeogoglaa
