/-
  Package ring: what Push and Drop make of well-linked rings.
-/
import Derived.Test.YtdgdbcapojgnlaaRgDrop
import Derived.Test.YtdgdbcapojgnlaaRgLaw
namespace Go.Proofs.Ytdgdbcapojgnlaa
set_option maxRecDepth 100000

theorem inR_iff {i : Int} : inR i = true ↔ 0 ≤ i ∧ i < 32 := by simp [inR]
theorem inR_nat {i : Nat} (h : i < 32) : inR (i : Int) = true := by rw [inR_iff]; omega
theorem St.lk_link (S : St) (hl : S.slots.length = 32) (i p n x : Int) : (S.link i p n).lk x = if x = i ∧ inR i = true then (p, n) else S.lk x := by
  by_cases hi : 0 ≤ i ∧ i < 32
  · obtain ⟨k, rfl⟩ : ∃ k : Nat, i = (k : Int) := ⟨i.toNat, by omega⟩
    have hk : k < 32 := by omega
    have hs : S.slots[k]? = some S.slots[k] := List.getElem?_eq_getElem (by omega)
    generalize S.slots[k] = s at hs
    by_cases he : (s.prev, s.next) = (p, n)
    · rw [S.link_same (by rw [S.lk_in hk hs]; exact he)]
      by_cases hx : x = k
      · rw [if_pos ⟨hx, inR_nat hk⟩, hx, S.lk_in hk hs, he]
      · rw [if_neg (fun h => hx h.1)]
    · rw [S.link_in hk hs he]
      by_cases hx : x = k
      · rw [if_pos ⟨hx, inR_nat hk⟩, hx]
        rw [St.lk_in _ hk (s := { s with prev := p, next := n }) (by simp [St.put, hl, hk])]
      · rw [if_neg (fun h => hx h.1)]
        unfold St.lk
        by_cases hxr : 0 ≤ x ∧ x < 32
        · rw [if_pos hxr, if_pos hxr]
          have : (S.put k { s with prev := p, next := n }).slots[x.toNat]? = S.slots[x.toNat]? := by
            simp only [St.put]
            exact List.getElem?_set_ne (by omega)
          rw [this]
        · rw [if_neg hxr, if_neg hxr]
  · rw [S.link_out hi, if_neg]
    rintro ⟨_, h⟩
    exact hi (inR_iff.1 h)
/-- A slot without its links. -/
def SlotV.strip (s : SlotV) : SlotV := { s with prev := 0, next := 0 }
/-- Links alone have turned, of these slots; at most so many writes. -/
structure Moved (n : Int) (L : List Nat) (S S' : St) : Prop where
  lk : ∀ x : Nat, x ∉ L → S'.lk x = S.lk x
  free : S'.free = S.free
  len : S'.slots.length = S.slots.length
  rest : ∀ k : Nat, (S'.slots[k]?).map SlotV.strip = (S.slots[k]?).map SlotV.strip
  lo : S.writes ≤ S'.writes
  hi : S'.writes ≤ S.writes + n
theorem Moved.refl (S : St) : Moved 0 [] S S := ⟨fun _ _ => rfl, rfl, rfl, fun _ => rfl, Int.le_refl _, by omega⟩
theorem Moved.trans {n m : Int} {L M : List Nat} {S T U : St} (h : Moved n L S T) (k : Moved m M T U) : Moved (n + m) (L ++ M) S U :=
  ⟨fun x hx => (k.lk x (fun h => hx (List.mem_append_right _ h))).trans (h.lk x (fun h => hx (List.mem_append_left _ h))), k.free.trans h.free, k.len.trans h.len, fun j => (k.rest j).trans (h.rest j), Int.le_trans h.lo k.lo, by have := h.hi; have := k.hi; omega⟩
theorem Moved.mono {n m : Int} {L M : List Nat} {S T : St} (h : Moved n L S T) (hn : n ≤ m) (hL : ∀ x ∈ L, x ∈ M) : Moved m M S T :=
  ⟨fun x hx => h.lk x fun hm => hx (hL x hm), h.free, h.len, h.rest, h.lo, by have := h.hi; omega⟩
theorem Moved.link (S : St) (hl : S.slots.length = 32) {i : Nat} (p n : Int) : Moved 1 [i] S (S.link i p n) := by
  refine ⟨fun x hx => ?_, ?_, link_len S i p n, ?_, (link_writes S i p n).1, (link_writes S i p n).2⟩
  · rw [St.lk_link S hl, if_neg]
    rintro ⟨h, _⟩
    exact hx (by simp; omega)
  · unfold St.link
    split
    · split <;> rfl
    · rfl
  · intro k
    unfold St.link
    split
    · split
      · rename_i s hs
        simp only [St.put, Int.toNat_natCast]
        simp only [Int.toNat_natCast] at hs
        by_cases e : i = k
        · subst e
          rw [hs]
          have : i < S.slots.length := (List.getElem?_eq_some_iff.1 hs).1
          simp [SlotV.strip, this]
        · rw [List.getElem?_set_ne e]
      · rfl
    · rfl
/-- In a ring, a slot is well linked. -/
theorem Ring.well {S : St} {A B : List Nat} {i : Nat} (h : Ring S.lk (A ++ i :: B)) : S.well i = true := by
  obtain ⟨p, n, h1, h2, h3, h4, h5, _⟩ := h.there
  unfold St.well
  rw [h1]
  simp [inR_nat (h.lt p h2), inR_nat (h.lt n h3), h4, h5]
theorem Ring.split {f : Int → Int × Int} {L : List Nat} (_ : Ring f L) {i : Nat} (hi : i ∈ L) : ∃ A B, L = A ++ i :: B := List.append_of_mem hi
theorem Ring.wellm {S : St} {L : List Nat} {i : Nat} (h : Ring S.lk L) (hi : i ∈ L) : S.well i = true := by
  obtain ⟨A, B, rfl⟩ := h.split hi
  exact h.well
theorem Ring.one {S : St} (hl : S.slots.length = 32) {i : Nat} (hi : i < 32) : Ring (S.link i i i).lk [i] :=
  ⟨by simp, fun x hx => by simp at hx; omega, by rw [show lsI (-1) [i] = (i : Int) from rfl]; refine ⟨?_, trivial⟩; rw [St.lk_link S hl, if_pos ⟨rfl, inR_nat hi⟩]; rfl⟩
/-- Push of a slot that is in no ring, as the last one of one. -/
theorem push_first {S : St} (hl : S.slots.length = 32) {i : Nat} (hi : i < 32) : ∃ S', S.push (-1) i = (.tuple #[.int .i64 i, .nilIface], S') ∧ Ring S'.lk [i] ∧ Moved 1 [i] S S' := by
  refine ⟨S.link i i i, ?_, Ring.one hl hi, Moved.link S hl _ _⟩
  simp [St.push, inR_nat hi]
theorem push_ring {S : St} (hl : S.slots.length = 32) {L : List Nat} (h : Ring S.lk L) (h0 : L ≠ []) {i : Nat} (hi : i < 32) (hn : i ∉ L) :
    ∃ S', S.push (lsI (-1) L) i = (.tuple #[.int .i64 i, .nilIface], S') ∧ Ring S'.lk (L ++ [i]) ∧ Moved 3 (L ++ [i]) S S' := by
  obtain ⟨l, hlast, hlm⟩ := lsI_mem (p := -1) h0
  obtain ⟨f, hf, hfm⟩ := hdI_mem (n := -1) h0
  have hl2 := h.last h0
  have hf2 := h.head h0
  rw [hlast] at hl2 hf2
  rw [hf] at hl2 hf2
  have hlr := inR_nat (h.lt l hlm)
  have hfr := inR_nat (h.lt f hfm)
  have hil : i ≠ l := fun e => hn (e ▸ hlm)
  have hif : i ≠ f := fun e => hn (e ▸ hfm)
  have hR1 : Ring (S.link i i i).lk [i] := Ring.one hl hi
  -- what the code answers
  have hcode : S.push (lsI (-1) L) i = if f = l then (.tuple #[.int .i64 i, .nilIface], (S.link i l f).link l i i) else
      (.tuple #[.int .i64 i, .nilIface], ((S.link i l f).link l ((S.link i l f).lk l).1 i).link f i (((S.link i l f).link l ((S.link i l f).lk l).1 i).lk f).2) := by
    rw [hlast]
    have hw := h.wellm hlm
    simp only [St.push, inR_nat hi, hlr, hw, hl2]
    rw [if_neg (by simp), if_neg (by omega), if_neg (by simp), if_neg (by simp), if_neg (by omega)]
    by_cases e : f = l
    · rw [if_pos (by omega), if_pos e]
    · rw [if_neg (by omega), if_neg e]
  have hlen1 := (link_len S i l f).trans hl
  -- the two rings, spliced
  have key : ∀ S' : St, (∀ x : Nat, S'.lk x = if x = i then ((l : Int), (f : Int)) else (if x = f then (i : Int) else (S.lk x).1, if x = l then (i : Int) else (S.lk x).2)) → Ring S'.lk (L ++ [i]) := by
    intro S' e
    refine Ring.splice h hR1 h0 (by simp) (fun x hx hx2 => hn (by simp at hx2; exact hx2 ▸ hx)) (fun x hx => ?_) (fun x hx => ?_)
    · rw [e x, if_neg (show ¬ x = i from fun e => hn (e ▸ hx)), hf, hlast]
      simp only [lsI, hdI]
      congr 1
      · by_cases e : x = f
        · rw [if_pos e, if_pos (by omega)]
        · rw [if_neg e, if_neg (by omega)]
      · by_cases e : x = l
        · rw [if_pos e, if_pos (by omega)]
        · rw [if_neg e, if_neg (by omega)]
    · simp at hx
      subst hx
      rw [e x, if_pos rfl, hf, hlast]
      simp [lsI, hdI]
  by_cases e : f = l
  · rw [if_pos e] at hcode
    refine ⟨_, hcode, key _ fun x => ?_, ?_⟩
    · rw [St.lk_link _ hlen1, St.lk_link S hl]
      by_cases e1 : x = i
      · subst e1
        rw [if_neg (by omega), if_pos ⟨rfl, inR_nat hi⟩, if_pos rfl]
      · rw [if_neg (c := x = i) e1]
        by_cases e2 : x = l
        · subst e2
          rw [if_pos ⟨rfl, hlr⟩, if_pos e.symm, if_pos rfl]
        · rw [if_neg (by omega), if_neg (by omega), if_neg (by omega), if_neg e2]
    · refine ((Moved.link S hl _ _).trans (Moved.link _ hlen1 _ _)).mono (by omega) fun x hx => ?_
      simp at hx ⊢
      rcases hx with rfl | rfl
      · exact .inr rfl
      · exact .inl hlm
  · rw [if_neg e] at hcode
    have hlen2 := (link_len (S.link i l f) l ((S.link i l f).lk l).1 i).trans hlen1
    have e1 : ((S.link i l f).lk l).1 = (S.lk l).1 := by rw [St.lk_link S hl, if_neg (by omega)]
    have e2 : (((S.link i l f).link l ((S.link i l f).lk l).1 i).lk f).2 = (S.lk f).2 := by
      rw [St.lk_link _ hlen1, if_neg (by omega), St.lk_link S hl, if_neg (by omega)]
    refine ⟨_, hcode, key _ fun x => ?_, ?_⟩
    · rw [e2, e1] at *
      rw [St.lk_link _ (by rw [link_len, hlen1]), St.lk_link _ hlen1, St.lk_link S hl]
      by_cases c1 : x = i
      · subst c1
        rw [if_neg (by omega), if_neg (by omega), if_pos ⟨rfl, inR_nat hi⟩, if_pos rfl]
      · rw [if_neg (c := x = i) c1]
        by_cases c2 : x = l
        · subst c2
          rw [if_neg (by omega), if_pos ⟨rfl, hlr⟩, if_neg (fun h => e h.symm), if_pos rfl]
        · by_cases c3 : x = f
          · subst c3
            rw [if_pos ⟨rfl, hfr⟩, if_pos rfl, if_neg c2]
          · rw [if_neg (by omega), if_neg (by omega), if_neg (by omega), if_neg c3, if_neg c2]
    · refine (((Moved.link S hl _ _).trans (Moved.link _ hlen1 _ _)).trans (Moved.link _ hlen2 _ _)).mono (by omega) fun x hx => ?_
      simp at hx ⊢
      rcases hx with rfl | rfl | rfl
      · exact .inr rfl
      · exact .inl hlm
      · exact .inl hfm
/-- Drop out of a ring. -/
theorem drop_ring {S : St} (hl : S.slots.length = 32) {A B : List Nat} {i : Nat} (h : Ring S.lk (A ++ i :: B)) :
    ∃ S', S.dropR (lsI (-1) (A ++ i :: B)) i = (.tuple #[.int .i64 (lsI (-1) (A ++ B)), .nilIface], S') ∧ Ring S'.lk (A ++ B) ∧ S'.lk i = (-1, -1) ∧ Moved 3 (A ++ i :: B) S S' := by
  obtain ⟨p, n, hpn, hpm, hnm, hpi, hni, hp, hn⟩ := h.there
  have hi : i < 32 := h.lt i (by simp)
  have hir := inR_nat hi
  have hpr := inR_nat (h.lt p hpm)
  have hnr := inR_nat (h.lt n hnm)
  obtain ⟨l, hlast, hlm⟩ := lsI_mem (p := -1) (A := A ++ i :: B) (by simp)
  have hiAB : i ∉ A ++ B := by
    have := h.nodup
    rw [List.nodup_append] at this
    obtain ⟨_, h2, h3⟩ := this
    rw [List.mem_append]
    rintro (h4 | h4)
    · exact h3 i h4 i (by simp) rfl
    · exact (List.nodup_cons.1 h2).1 h4
  -- what is answered
  have hans : (if (i : Int) ≠ (l : Int) then (l : Int) else if (p : Int) = i then -1 else (p : Int)) = lsI (-1) (A ++ B) := by
    by_cases hB : B = []
    · subst hB
      have e1 : (l : Int) = i := by rw [← hlast, lsI_app]; rfl
      rw [if_neg (by simp [e1])]
      rw [hp]
      by_cases hA : A = []
      · subst hA
        simp [lsI]
      · rw [show lsI (lsI (-1) [i]) A = lsI (-1) A from lsI_ne hA, List.append_nil]
        obtain ⟨x, hx, hxm⟩ := lsI_mem (p := -1) hA
        rw [hx, if_neg]
        intro e
        exact hiAB (by rw [List.append_nil]; have : x = i := by omega
                       exact this ▸ hxm)
    · have e1 : lsI (-1) (A ++ i :: B) = lsI (-1) B := by rw [lsI_app]; exact lsI_ne hB
      have e2 : lsI (-1) (A ++ B) = lsI (-1) B := by rw [lsI_app]; exact lsI_ne hB
      rw [e2, ← e1, hlast, if_pos]
      obtain ⟨x, hx, hxm⟩ := lsI_mem (p := -1) hB
      rw [e1, hx] at hlast
      intro e
      exact hiAB (List.mem_append_right _ (by have : x = i := by omega
                                              exact this ▸ hxm))
  have hcode : S.dropR (lsI (-1) (A ++ i :: B)) i = (.tuple #[.int .i64 (lsI (-1) (A ++ B)), .nilIface], (S.joined i p n).link i (-1) (-1)) := by
    rw [hlast]
    simp only [St.dropR, hir, inR_nat (h.lt l hlm), h.well, hpn, hans]
    simp
  -- the ring that is left
  have key : ∀ S' : St, (∀ x : Nat, x ≠ i → S'.lk x = (if (n : Int) = (x : Int) then (p : Int) else (S.lk x).1, if (p : Int) = (x : Int) then (n : Int) else (S.lk x).2)) → Ring S'.lk (A ++ B) := by
    intro S' e
    refine h.drop fun x hx => ?_
    rw [e x (fun e => hiAB (e ▸ hx)), hpn]
  have hpAB : p ≠ i → n ≠ i := by
    rintro hne rfl
    exact hne (by have := hni; rw [hpn] at this; simp at this; omega)
  have hnp : n ≠ i → p ≠ i := by
    rintro hne rfl
    exact hne (by have := hpi; rw [hpn] at this; simp at this; omega)
  refine ⟨_, hcode, ?_, ?_, ?_⟩
  · by_cases h1 : p = i
    · have h2 : n = i := Classical.byContradiction fun h => hnp h h1
      have hlen := hl
      refine key _ fun x hx => ?_
      rw [show S.joined i p n = S from by simp [St.joined, h1], St.lk_link S hl, if_neg (by omega), if_neg (by omega), if_neg (by omega)]
    · have h2 := hpAB h1
      by_cases h3 : p = n
      · have e : S.joined i p n = S.link p n n := by simp only [St.joined]; rw [if_neg (by omega), if_pos (by omega)]
        rw [e]
        refine key _ fun x hx => ?_
        rw [St.lk_link _ (by rw [link_len, hl]), if_neg (by omega), St.lk_link S hl]
        by_cases c : x = p
        · rw [if_pos ⟨by omega, hpr⟩, if_pos (by omega), if_pos (by omega), h3]
        · rw [if_neg (by omega), if_neg (by omega), if_neg (by omega)]
      · have e : S.joined i p n = (S.link p (S.lk p).1 n).link n p ((S.link p (S.lk p).1 n).lk n).2 := by simp only [St.joined]; rw [if_neg (by omega), if_neg (by omega)]
        have e2 : ((S.link p (S.lk p).1 n).lk n).2 = (S.lk n).2 := by rw [St.lk_link S hl, if_neg (by omega)]
        rw [e, e2]
        refine key _ fun x hx => ?_
        rw [St.lk_link _ (by rw [link_len, link_len, hl]), if_neg (by omega), St.lk_link _ (by rw [link_len, hl]), St.lk_link S hl]
        by_cases c : x = p
        · subst c
          rw [if_neg (by omega), if_pos ⟨rfl, hpr⟩, if_neg (by omega), if_pos rfl]
        · by_cases c2 : x = n
          · subst c2
            rw [if_pos ⟨rfl, hnr⟩, if_pos rfl, if_neg (by omega)]
          · rw [if_neg (by omega), if_neg (by omega), if_neg (by omega), if_neg (by omega)]
  · have hlen : (S.joined i p n).slots.length = 32 := by
      unfold St.joined
      split
      · exact hl
      · split
        · rw [link_len, hl]
        · simp only [link_len, hl]
    rw [St.lk_link _ hlen, if_pos ⟨rfl, hir⟩]
  · have hm : Moved 2 (A ++ i :: B) S (S.joined i p n) := by
      unfold St.joined
      split
      · exact (Moved.refl S).mono (by omega) (fun _ h => by cases h)
      · split
        · exact (Moved.link S hl _ _).mono (by omega) (fun x hx => by simp only [List.mem_singleton] at hx; exact hx ▸ hpm)
        · exact ((Moved.link S hl _ _).trans (Moved.link _ (by rw [link_len, hl]) _ _)).mono (by omega) (fun x hx => by
            simp only [List.mem_append, List.mem_singleton] at hx
            rcases hx with hx | hx
            · exact hx ▸ hpm
            · exact hx ▸ hnm)
    exact (hm.trans (Moved.link _ (hm.len.trans hl) _ _)).mono (by omega) (fun x hx => by
      rcases List.mem_append.1 hx with h | h
      · exact h
      · simp only [List.mem_singleton] at h; rw [h]; simp)
end Go.Proofs.Ytdgdbcapojgnlaa
