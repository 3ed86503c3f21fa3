/-
  Slots that are cut and put into the garbage, one behind the other, and then freed; of no program.
-/
import Derived.Test.YtbidgpeeogoglaaOnceP
namespace Go.Proofs.Ytbidgpeeogoglaa
set_option maxRecDepth 100000
open Go.RowKit Go.Sort

/-- How many of the first ones are so. -/
def cntB (P : Nat → Bool) (m : Nat) : Nat := ((List.range m).filter P).length
theorem cntB_succ (P : Nat → Bool) (m : Nat) : cntB P (m + 1) = cntB P m + if P m = true then 1 else 0 := by
  unfold cntB
  rw [List.range_succ, List.filter_append, List.length_append]
  congr 1
  cases h : P m <;> simp [h]
theorem cntB_le (P : Nat → Bool) (m : Nat) : cntB P m ≤ m := by
  unfold cntB
  exact Nat.le_trans (List.length_filter_le _ _) (by simp)
theorem cntB_congr {P Q : Nat → Bool} {m : Nat} (h : ∀ x, x < m → P x = Q x) : cntB P m = cntB Q m := by
  unfold cntB
  rw [List.filter_congr fun x hx => h x (List.mem_range.1 hx)]
theorem cntB_set {P Q : Nat → Bool} {m j : Nat} (hj : j < m) (h0 : P j = false) (h1 : Q j = true) (h : ∀ x, x ≠ j → Q x = P x) : cntB Q m = cntB P m + 1 := by
  induction m with
  | zero => omega
  | succ m ih =>
    rw [cntB_succ, cntB_succ]
    by_cases e : j = m
    · subst e
      rw [h0, h1, cntB_congr (P := Q) (Q := P) fun x hx => h x (by omega)]
      simp
    · rw [ih (by omega), h m (by omega)]; omega
theorem cntB_nodup {P : Nat → Bool} {m : Nat} {L : List Nat} (hn : L.Nodup) (h : ∀ x, x ∈ L ↔ x < m ∧ P x = true) : L.length = cntB P m := by
  unfold cntB
  refine ((List.perm_ext_iff_of_nodup hn (List.Pairwise.filter _ List.nodup_range)).2 fun x => ?_).length_eq
  rw [h x, List.mem_filter, List.mem_range]
theorem cntB_not (P : Nat → Bool) : ∀ m, cntB P m + cntB (fun x => !P x) m = m
  | 0 => rfl
  | m + 1 => by
    have ih := cntB_not P m
    rw [cntB_succ, cntB_succ]
    cases P m <;> simp <;> omega
/-- What hangs where, when these were cut, one behind the other. -/
def KC (ups : List Int) (C : List Nat) (p : Int) : List Nat := if p = -2 then C else (kidsL ups p (-1)).filter (fun x => decide (x ∉ C))
/-- Under one of these. -/
def Dead (ups : List Int) (C : List Nat) (x : Nat) : Prop := ∃ c ∈ C, ∃ m, ascL ups x m = (c : Int)
theorem Dead.snoc {ups : List Int} {C : List Nat} {k x : Nat} : Dead ups (C ++ [k]) x ↔ Dead ups C x ∨ ∃ m, ascL ups x m = (k : Int) := by
  unfold Dead
  constructor
  · rintro ⟨c, hc, h⟩
    rw [List.mem_append, List.mem_singleton] at hc
    rcases hc with hc | rfl
    · exact .inl ⟨c, hc, h⟩
    · exact .inr h
  · rintro (⟨c, hc, h⟩ | h)
    · exact ⟨c, List.mem_append_left _ hc, h⟩
    · exact ⟨k, by simp, h⟩
theorem asc_up {ups : List Int} {x p : Nat} (h : parL ups x = (p : Int)) : ∀ m, ascL ups x (m + 1) = ascL ups p m
  | 0 => h
  | m + 1 => by
    show parL ups (ascL ups x (m + 1)) = parL ups (ascL ups p m)
    rw [asc_up h m]
theorem parL_nat (ups : List Int) (x : Nat) : parL ups x = ups.getD x 0 := by
  unfold parL
  rw [if_pos (by omega), Int.toNat_natCast]
theorem asc_root {ups : List Int} {x : Nat} (h : parL ups x = -1) : ∀ m, ascL ups x (m + 1) = -1
  | 0 => h
  | m + 1 => by
    show parL ups (ascL ups x (m + 1)) = -1
    rw [asc_root h m]; rfl
structure Cuts (ups : List Int) (F0 : List Nat) (R : St) (l l3 : Int) (C : List Nat) : Prop where
  fo : Fo R l (KC ups C)
  l3 : l3 = lsI (-1) C
  usd : Usd R ups.length
  at_ : ∀ j : Nat, j < ups.length → (R.slotAt j).upSlot = hungU (ups.getD j 0) ∧ (R.slotAt j).upBirth = hungB (ups.getD j 0)
  free : R.free = F0
  lt : ∀ c ∈ C, c < ups.length
theorem Cuts.start {ups : List Int} {R : St} {l : Int} (G : Gr R l ups ups.length) : Cuts ups R.free R l (-1) [] := by
  refine ⟨G.fo.congr fun q => ?_, rfl, G.usd, G.at_, rfl, fun c hc => by cases hc⟩
  unfold KC
  split
  · rename_i e
    subst e
    refine List.eq_nil_iff_forall_not_mem.2 fun k hk => ?_
    obtain ⟨h1, h2, _⟩ := mem_kidsL.1 hk
    have := (G.ok k h1).1
    omega
  · exact (List.filter_eq_self.2 fun x _ => by simp).symm
theorem Cuts.step {ups : List Int} {F0 : List Nat} {R : St} {l l3 : Int} {C : List Nat} (H : Cuts ups F0 R l l3 C) (hU : Ups ups) (hn : ups.length ≤ 32) {k : Nat} (hk : k < ups.length) (hd : ¬ Dead ups C k) :
    ∃ R1 l1 R2, R.tcut l k = ((0, -1), R1, l1) ∧ R1.gadd l3 k = ((0, -1), R2, (k : Int)) ∧ Cuts ups F0 R2 l1 k (C ++ [k]) := by
  have hkC : k ∉ C := fun h => hd ⟨k, h, 0, rfl⟩
  have hu := hU k hk
  have hp' : ups.getD k 0 = -1 ∨ ∃ j : Nat, ups.getD k 0 = j ∧ j < ups.length ∧ j ≠ k := by
    by_cases h : ups.getD k 0 = -1
    · exact .inl h
    · exact .inr ⟨(ups.getD k 0).toNat, by omega, by omega, by omega⟩
  have hm : k ∈ KC ups C (ups.getD k 0) := by
    unfold KC
    rw [if_neg (by omega), List.mem_filter]
    exact ⟨mem_kidsL.2 ⟨hk, rfl, by omega⟩, by simpa using hkC⟩
  obtain ⟨R1, l1, h1, F1, U1, a1, _, f1⟩ := H.fo.cut hn H.usd hk hp' hm (H.at_ k hk).1 (H.at_ k hk).2
  have hK1 : (if (-2 : Int) = ups.getD k 0 then (KC ups C (ups.getD k 0)).filter (fun x => decide (x ≠ k)) else KC ups C (-2)) = C := by
    rw [if_neg (by omega)]; unfold KC; rw [if_pos rfl]
  obtain ⟨R2, h2, F2, f2, a2⟩ := F1.gadd (i := k) (by omega) (U1 k hk).1 (fun q hq => by
    split at hq
    · rw [List.mem_filter] at hq; simp at hq
    · rename_i hne
      exact H.fo.apart q _ hne k hq hm)
  rw [hK1] at h2 F2
  refine ⟨R1, l1, R2, h1, H.l3 ▸ h2, ⟨F2.congr fun q => ?_, ?_, fun j hj => ?_, fun j hj => ?_, ?_, ?_⟩⟩
  · unfold KC
    by_cases hq : q = -2
    · rw [if_pos hq, if_pos hq]
    · rw [if_neg hq, if_neg hq]
      by_cases hq2 : q = ups.getD k 0
      · rw [if_pos hq2, if_neg (show ¬ (ups.getD k 0 = -2) by omega), List.filter_filter, ← hq2, if_neg hq]
        refine List.filter_congr fun x _ => ?_
        rw [Bool.eq_iff_iff]
        simp only [Bool.and_eq_true, decide_eq_true_eq, List.mem_append, List.mem_singleton]
        constructor
        · rintro ⟨h, h'⟩ (h3 | h3)
          · exact h' h3
          · exact h h3
        · exact fun h => ⟨fun e => h (.inr e), fun e => h (.inl e)⟩
      · rw [if_neg hq2, if_neg hq]
        refine List.filter_congr fun x hx => ?_
        rw [Bool.eq_iff_iff]
        simp only [decide_eq_true_eq, List.mem_append, List.mem_singleton]
        have hxk : x ≠ k := fun e => by
          subst e
          exact hq2 (mem_kidsL.1 hx).2.1.symm
        constructor
        · rintro h (h3 | h3)
          · exact h h3
          · exact hxk h3
        · exact fun h e => h (.inl e)
  · rw [lsI_app]; rfl
  · rw [(a2 j).1, (a2 j).2.1]; exact U1 j hj
  · rw [(a2 j).2.2.1, (a2 j).2.2.2, (a1 j).1, (a1 j).2]; exact H.at_ j hj
  · rw [f2, f1]; exact H.free
  · intro c hc
    rw [List.mem_append, List.mem_singleton] at hc
    rcases hc with hc | rfl
    · exact H.lt c hc
    · exact hk
/-- What all of the garbage is. -/
theorem Cuts.mem {ups : List Int} {F0 : List Nat} {R : St} {l l3 : Int} {C : List Nat} (H : Cuts ups F0 R l l3 C) (hU : Ups ups) (x : Nat) : x ∈ R.swAll l3 ↔ x < ups.length ∧ Dead ups C x := by
  have hC : KC ups C (-2) = C := by unfold KC; rw [if_pos rfl]
  have h := H.fo.mem_all (fun x => x < ups.length ∧ Dead ups C x) (fun x hx => ?_) (fun p x hp hx => ?_) (fun x hx => ?_) x
  · rw [hC, ← H.l3] at h; exact h
  · rw [hC] at hx; exact ⟨H.lt x hx, x, hx, 0, rfl⟩
  · unfold KC at hx
    rw [if_neg (by omega), List.mem_filter] at hx
    obtain ⟨h1, h2, _⟩ := mem_kidsL.1 hx.1
    obtain ⟨_, c, hc, m, hm⟩ := hp
    exact ⟨h1, c, hc, m + 1, (asc_up ((parL_nat ups x).trans h2) m).trans hm⟩
  · obtain ⟨hlt, c, hc, m, hm⟩ := hx
    by_cases hxC : x ∈ C
    · exact .inl (by rw [hC]; exact hxC)
    · have hux := hU x hlt
      have hpl := parL_nat ups x
      cases m with
      | zero =>
        have : x = c := Int.ofNat.inj hm
        exact absurd (this ▸ hc) hxC
      | succ m =>
        by_cases hr : ups.getD x 0 = -1
        · rw [asc_root (hpl.trans hr)] at hm; omega
        · have hpn : ((ups.getD x 0).toNat : Int) = ups.getD x 0 := by omega
          rw [asc_up (p := (ups.getD x 0).toNat) (by rw [hpl, hpn])] at hm
          refine .inr ⟨(ups.getD x 0).toNat, ⟨by omega, c, hc, m, hm⟩, by omega, ?_⟩
          unfold KC
          rw [if_neg (by omega), List.mem_filter]
          exact ⟨mem_kidsL.2 ⟨hlt, hpn.symm, by omega⟩, by simpa using hxC⟩
/-- What hangs where, when this many units were done. -/
def KU (R0 : St) (l30 : Int) (K : Int → List Nat) (i : Nat) (q : Int) : List Nat :=
  if q = -2 then (R0.swIt l30 i).drop i else if 0 ≤ q ∧ q.toNat ∈ (R0.swAll l30).take i then [] else K q
structure Un (R0 : St) (l30 : Int) (K : Int → List Nat) (i : Nat) (R : St) (l l3 : Int) : Prop where
  fo : Fo R l (KU R0 l30 K i)
  l3 : l3 = lsI (-1) ((R0.swIt l30 i).drop i)
  free : R.free.length = R0.free.length + i
  frm : ∀ x, x ∈ R.free → x ∈ R0.free ∨ x ∈ (R0.swAll l30).take i
  used : ∀ j : Nat, (R.slotAt j).used = if j ∈ (R0.swAll l30).take i then false else (R0.slotAt j).used
  birth : ∀ j : Nat, j ∉ (R0.swAll l30).take i → (R.slotAt j).birth = (R0.slotAt j).birth
theorem Un.start {R0 : St} {l l30 : Int} {K : Int → List Nat} (F : Fo R0 l K) (hl : l30 = lsI (-1) (K (-2))) : Un R0 l30 K 0 R0 l l30 := by
  have h0 : R0.swIt l30 0 = K (-2) := by
    unfold St.swIt
    rw [hl, F.allK, withL_disj _ _ (F.ring (-2)).nodup (fun x _ h => by cases h)]; rfl
  refine ⟨F.congr fun q => ?_, ?_, rfl, fun x hx => .inl hx, fun j => ?_, fun j _ => rfl⟩
  · unfold KU
    split
    · rename_i e; rw [List.drop_zero, h0, e]
    · rw [List.take_zero, if_neg (fun h => by cases h.2)]
  · rw [List.drop_zero, h0, hl]
  · rw [List.take_zero, if_neg (fun h => by cases h)]
theorem Un.step {R0 : St} {l l30 : Int} {K : Int → List Nat} (F : Fo R0 l K) (hl : l30 = lsI (-1) (K (-2))) (hd : ∀ x ∈ R0.swAll l30, x ∉ R0.free) {i f : Nat} (hf : (R0.swAll l30)[i]? = some f) {R : St} {l' l3 : Int} (H : Un R0 l30 K i R l' l3) :
    ∃ R' l3', R.gunit l3 = (((f : Int), true), R', l3') ∧ Un R0 l30 K (i + 1) R' l' l3' ∧ (R'.slotAt f).used = false := by
  have hil := (List.getElem?_eq_some_iff.1 hf).1
  have hnd : (R0.swAll l30).Nodup := (swIt_row R0 l30 32).1
  have hft := nodup_at hnd hf
  have hfi : (R0.swIt l30 i)[i]? = some f := by
    subst hl
    rw [F.at_ hil]; exact hf
  have hii := (List.getElem?_eq_some_iff.1 hfi).1
  have hfe := (List.getElem?_eq_some_iff.1 hfi).2
  have hnx : R0.swIt l30 (i + 1) = R0.swIt l30 i ++ K (f : Int) := by subst hl; exact (F.bfs i).2 f hfi
  have hdr : (R0.swIt l30 i).drop i = f :: (R0.swIt l30 i).drop (i + 1) := by rw [List.drop_eq_getElem_cons hii, hfe]
  have hdr1 : (R0.swIt l30 (i + 1)).drop (i + 1) = (R0.swIt l30 i).drop (i + 1) ++ K (f : Int) := by rw [hnx, List.drop_append_of_le_length hii]
  have htk : (R0.swAll l30).take (i + 1) = (R0.swAll l30).take i ++ [f] := by rw [List.take_add_one, hf]; rfl
  have hK : KU R0 l30 K i (-2) = f :: (R0.swIt l30 i).drop (i + 1) := by unfold KU; rw [if_pos rfl]; exact hdr
  have hKf : KU R0 l30 K i (f : Int) = K f := by
    unfold KU
    rw [if_neg (by omega), if_neg (fun h => hft (by simpa using h.2))]
  have hfr : f ∉ R.free := fun h => by
    rcases H.frm f h with h | h
    · exact hd f (List.mem_of_getElem? hf) h
    · exact hft h
  obtain ⟨R', h1, F1, f1, b1, a1⟩ := H.fo.unit hK hfr
  rw [hKf] at h1 F1
  have hl3 : l3 = lsI (-1) (KU R0 l30 K i (-2)) := by rw [hK, ← hdr]; exact H.l3
  refine ⟨R', _, hl3 ▸ h1, ⟨F1.congr fun q => ?_, ?_, ?_, fun x hx => ?_, fun j => ?_, fun j hj => ?_⟩, by rw [b1]; rfl⟩
  · unfold KU
    by_cases h2 : q = -2
    · rw [if_pos h2, if_pos h2, hdr1]
    · rw [if_neg h2, if_neg h2, htk]
      by_cases h3 : q = (f : Int)
      · rw [if_pos h3, if_neg h2]
        exact (if_pos (show 0 ≤ q ∧ q.toNat ∈ (R0.swAll l30).take i ++ [f] from ⟨by omega, by rw [h3, Int.toNat_natCast]; simp⟩)).symm
      · rw [if_neg h3, if_neg h2]
        by_cases h4 : 0 ≤ q ∧ q.toNat ∈ (R0.swAll l30).take i
        · rw [if_pos h4, if_pos ⟨h4.1, List.mem_append_left _ h4.2⟩]
        · rw [if_neg h4, if_neg]
          rintro ⟨h5, h6⟩
          rw [List.mem_append, List.mem_singleton] at h6
          rcases h6 with h6 | h6
          · exact h4 ⟨h5, h6⟩
          · omega
  · rw [hdr1]
  · rw [f1, List.length_cons, H.free]; omega
  · rw [f1] at hx
    rw [htk, List.mem_append, List.mem_singleton]
    rcases List.mem_cons.1 hx with h | h
    · exact .inr (.inr h)
    · rcases H.frm x h with h | h
      · exact .inl h
      · exact .inr (.inl h)
  · rw [htk]
    by_cases e : j = f
    · subst e; rw [b1, if_pos (by simp)]; rfl
    · rw [(a1 j e).1, H.used j]
      by_cases h4 : j ∈ (R0.swAll l30).take i
      · rw [if_pos h4, if_pos (List.mem_append_left _ h4)]
      · rw [if_neg h4, if_neg]
        rw [List.mem_append, List.mem_singleton]
        rintro (h | h)
        · exact h4 h
        · exact e h
  · rw [htk, List.mem_append, List.mem_singleton] at hj
    rw [(a1 j fun e => hj (.inr e)).2]
    exact H.birth j fun e => hj (.inl e)
theorem Un.done {R0 : St} {l l30 : Int} {K : Int → List Nat} {R : St} {l' l3 : Int} (F : Fo R0 l K) (hl : l30 = lsI (-1) (K (-2))) (H : Un R0 l30 K (R0.swAll l30).length R l' l3) : l3 = -1 ∧ R.swAll l3 = [] := by
  have h32 := swAll_len R0 l30
  have hle : (R0.swIt l30 (R0.swAll l30).length).length ≤ (R0.swAll l30).length := by
    subst hl
    exact (F.preAll h32).length_le
  have hnil : (R0.swIt l30 (R0.swAll l30).length).drop (R0.swAll l30).length = [] := List.drop_eq_nil_of_le hle
  have e : l3 = -1 := by rw [H.l3, hnil]; rfl
  refine ⟨e, ?_⟩
  have hall : R.all (-1) = [] := by unfold St.all; rw [if_neg (by decide)]
  have h0 : R.swIt (-1) 0 = [] := by unfold St.swIt; rw [hall]; rfl
  rw [e]
  have := swAll_at R (-1) (k := 0) (by omega) (by rw [h0]; simp)
  rw [this, h0]
theorem hungR_gr (ps : List Int) : ∀ k, k ≤ 32 → Gr (hungR ps k).1 (hungR ps k).2 (upsOf ps k) k ∧ (hungR ps k).1.free = List.range' k (32 - k)
  | 0, _ => ⟨Gr.new, by show List.range 32 = _; rw [List.range_eq_range']⟩
  | k + 1, h => by
    obtain ⟨G, hf⟩ := hungR_gr ps k (by omega)
    have G1 : Gr (hungR ps k).1.take (hungR ps k).2 (upsOf ps k) k := ⟨⟨G.fo.len, G.fo.last, G.fo.kids, G.fo.ring, G.fo.apart⟩, G.usd, G.ok, G.at_⟩
    have G2 := G1.put (by omega) (by rw [upsOf_len]; exact Nat.le_refl _)
    obtain ⟨R', l', h1, h2, h3⟩ := G2.add h (show (upsOf ps k).length < k + 1 by rw [upsOf_len]; omega) (show -1 ≤ hungP ps k ∧ hungP ps k < ((upsOf ps k).length : Int) by rw [upsOf_len]; exact hungP_in ps k)
    rw [upsOf_len] at h1
    rw [upsOf_snoc, show hungR ps (k + 1) = (R', l') from by show ((((hungR ps k).1.take).put k (SlotV.usd ((k : Int) + 1))).tadd (hungR ps k).2 k (hungU (hungP ps k)) (hungB (hungP ps k))).2 = _; rw [h1]]
    refine ⟨h2, ?_⟩
    show R'.free = _
    rw [h3]
    show (hungR ps k).1.free.tail = _
    rw [hf, show 32 - k = (32 - (k + 1)) + 1 by omega, List.range'_succ]; rfl
theorem hungR_ok (ps : List Int) (k : Nat) (h : k < 32) : hungOk ps k := by
  obtain ⟨G, hf⟩ := hungR_gr ps k (by omega)
  have G1 : Gr (hungR ps k).1.take (hungR ps k).2 (upsOf ps k) k := ⟨⟨G.fo.len, G.fo.last, G.fo.kids, G.fo.ring, G.fo.apart⟩, G.usd, G.ok, G.at_⟩
  have G2 := G1.put (by omega) (by rw [upsOf_len]; exact Nat.le_refl _)
  obtain ⟨R', l', h1, h2, h3⟩ := G2.add h (show (upsOf ps k).length < k + 1 by rw [upsOf_len]; omega) (show -1 ≤ hungP ps k ∧ hungP ps k < ((upsOf ps k).length : Int) by rw [upsOf_len]; exact hungP_in ps k)
  rw [upsOf_len] at h1
  refine ⟨⟨List.range' (k + 1) (32 - (k + 1)), by rw [hf, show 32 - k = (32 - (k + 1)) + 1 by omega, List.range'_succ]⟩, by rw [h1]⟩
end Go.Proofs.Ytbidgpeeogoglaa
