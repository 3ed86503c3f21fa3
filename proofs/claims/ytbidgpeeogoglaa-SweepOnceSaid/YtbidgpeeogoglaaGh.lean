/-
  Merged texts: RfLaw, RfW, RfPush, RfDrop, RfSplice.
-/
import Derived.Test.YtbidgpeeogoglaaGd
import Derived.Test.YtbidgpeeogoglaaGg
/-
  The document's rings (lineageref16) as pure law: what it makes of an arena's slots, and that the code's Push, Drop and Splice make the same of them, at any links.
-/
namespace Go.Proofs.Ytbidgpeeogoglaa
set_option maxRecDepth 100000

def St.setN (S : St) (k : Nat) (v : Int) : St := match S.slots[k]? with | some s => { S with slots := S.slots.set k { s with next := v } } | none => S
def St.setP (S : St) (k : Nat) (v : Int) : St := match S.slots[k]? with | some s => { S with slots := S.slots.set k { s with prev := v } } | none => S
/-- What comes behind i is k. -/
def St.rlink (S : St) (i k : Int) : St := (S.setN i.toNat k).setP k.toNat i
section
variable {S : St}
theorem setN_len (S : St) (k : Nat) (v : Int) : (S.setN k v).slots.length = S.slots.length := by unfold St.setN; split <;> simp
theorem setP_len (S : St) (k : Nat) (v : Int) : (S.setP k v).slots.length = S.slots.length := by unfold St.setP; split <;> simp
theorem setN_free (S : St) (k : Nat) (v : Int) : (S.setN k v).free = S.free := by unfold St.setN; split <;> rfl
theorem setP_free (S : St) (k : Nat) (v : Int) : (S.setP k v).free = S.free := by unfold St.setP; split <;> rfl
theorem setN_writes (S : St) (k : Nat) (v : Int) : (S.setN k v).writes = S.writes := by unfold St.setN; split <;> rfl
theorem setP_writes (S : St) (k : Nat) (v : Int) : (S.setP k v).writes = S.writes := by unfold St.setP; split <;> rfl
theorem setN_at {k : Nat} {s : SlotV} (h : S.slots[k]? = some s) (v : Int) : S.setN k v = { S with slots := S.slots.set k { s with next := v } } := by unfold St.setN; rw [h]
theorem setP_at {k : Nat} {s : SlotV} (h : S.slots[k]? = some s) (v : Int) : S.setP k v = { S with slots := S.slots.set k { s with prev := v } } := by unfold St.setP; rw [h]
theorem slot_of (hl : S.slots.length = 32) {k : Nat} (hk : k < 32) : ∃ s, S.slots[k]? = some s := ⟨_, List.getElem?_eq_getElem (by omega)⟩
theorem setN_lk (hl : S.slots.length = 32) {k : Nat} (hk : k < 32) (v : Int) (x : Int) : (S.setN k v).lk x = if x = k then ((S.lk x).1, v) else S.lk x := by
  obtain ⟨s, hs⟩ := slot_of hl hk
  rw [setN_at hs]
  by_cases hx : x = k
  · rw [if_pos hx, hx, S.lk_in hk hs, St.lk_in _ hk (s := { s with next := v }) (by simp [hl, hk])]
  · rw [if_neg hx]
    unfold St.lk
    by_cases hxr : 0 ≤ x ∧ x < 32
    · rw [if_pos hxr, if_pos hxr]
      simp only [List.getElem?_set_ne (show k ≠ x.toNat by omega)]
    · rw [if_neg hxr, if_neg hxr]
theorem setP_lk (hl : S.slots.length = 32) {k : Nat} (hk : k < 32) (v : Int) (x : Int) : (S.setP k v).lk x = if x = k then (v, (S.lk x).2) else S.lk x := by
  obtain ⟨s, hs⟩ := slot_of hl hk
  rw [setP_at hs]
  by_cases hx : x = k
  · rw [if_pos hx, hx, S.lk_in hk hs, St.lk_in _ hk (s := { s with prev := v }) (by simp [hl, hk])]
  · rw [if_neg hx]
    unfold St.lk
    by_cases hxr : 0 ≤ x ∧ x < 32
    · rw [if_pos hxr, if_pos hxr]
      simp only [List.getElem?_set_ne (show k ≠ x.toNat by omega)]
    · rw [if_neg hxr, if_neg hxr]
theorem setN_rest (S : St) (k : Nat) (v : Int) (j : Nat) : ((S.setN k v).slots[j]?).map SlotV.strip = (S.slots[j]?).map SlotV.strip := by
  unfold St.setN
  split
  · rename_i s hs
    by_cases e : k = j
    · subst e
      have : k < S.slots.length := (List.getElem?_eq_some_iff.1 hs).1
      simp only [List.getElem?_set_self this, hs, Option.map_some]
      rfl
    · simp only [List.getElem?_set_ne e]
  · rfl
theorem setP_rest (S : St) (k : Nat) (v : Int) (j : Nat) : ((S.setP k v).slots[j]?).map SlotV.strip = (S.slots[j]?).map SlotV.strip := by
  unfold St.setP
  split
  · rename_i s hs
    by_cases e : k = j
    · subst e
      have : k < S.slots.length := (List.getElem?_eq_some_iff.1 hs).1
      simp only [List.getElem?_set_self this, hs, Option.map_some]
      rfl
    · simp only [List.getElem?_set_ne e]
  · rfl
/-- Two arenas that differ in links alone, and whose links are the same, have the same slots. -/
theorem slots_eq {S T : St} (hS : S.slots.length = 32) (hT : T.slots.length = 32) (hr : ∀ j : Nat, (S.slots[j]?).map SlotV.strip = (T.slots[j]?).map SlotV.strip) (hl : ∀ x : Int, S.lk x = T.lk x) : S.slots = T.slots := by
  apply List.ext_getElem?
  intro j
  by_cases hj : j < 32
  · obtain ⟨s, hs⟩ := slot_of hS hj
    obtain ⟨t, ht⟩ := slot_of hT hj
    have h1 := hl j
    rw [S.lk_in hj hs, T.lk_in hj ht] at h1
    have h2 := hr j
    rw [hs, ht] at h2 ⊢
    simp only [Option.map_some, Option.some.injEq, Prod.mk.injEq] at h1 h2
    obtain ⟨h3, h4⟩ := h1
    cases s; cases t
    simp only [SlotV.strip, SlotV.mk.injEq] at h2 h3 h4 ⊢
    simp [h2, h3, h4]
  · rw [List.getElem?_eq_none (by omega), List.getElem?_eq_none (by omega)]
theorem lk_congr {S T : St} (h : S.slots = T.slots) (x : Int) : S.lk x = T.lk x := by unfold St.lk; rw [h]
theorem well_congr {S T : St} (h : S.slots = T.slots) (x : Int) : S.well x = T.well x := by unfold St.well; simp only [lk_congr h]
/-- The same slots, the same free ones. -/
structure Agree (S R : St) : Prop where
  slots : S.slots = R.slots
  free : S.free = R.free
  len : S.slots.length = 32
theorem Agree.lk {S R : St} (h : Agree S R) (x : Int) : R.lk x = S.lk x := (lk_congr h.slots x).symm
theorem Agree.well {S R : St} (h : Agree S R) (x : Int) : R.well x = S.well x := (well_congr h.slots x).symm
theorem Agree.rlen {S R : St} (h : Agree S R) : R.slots.length = 32 := h.slots ▸ h.len
/-- R was made of S by links alone. -/
structure Linked (S R : St) : Prop where
  rest : ∀ j : Nat, (R.slots[j]?).map SlotV.strip = (S.slots[j]?).map SlotV.strip
  free : R.free = S.free
  len : R.slots.length = S.slots.length
theorem Linked.refl (S : St) : Linked S S := ⟨fun _ => rfl, rfl, rfl⟩
theorem Linked.trans {S R T : St} (h : Linked S R) (k : Linked R T) : Linked S T := ⟨fun j => (k.rest j).trans (h.rest j), k.free.trans h.free, k.len.trans h.len⟩
theorem Linked.setN (S : St) (k : Nat) (v : Int) : Linked S (S.setN k v) := ⟨setN_rest S k v, setN_free S k v, setN_len S k v⟩
theorem Linked.setP (S : St) (k : Nat) (v : Int) : Linked S (S.setP k v) := ⟨setP_rest S k v, setP_free S k v, setP_len S k v⟩
theorem Linked.rlink (S : St) (i k : Int) : Linked S (S.rlink i k) := (Linked.setN S _ _).trans (Linked.setP _ _ _)
theorem Linked.link (S : St) (hl : S.slots.length = 32) (i p n : Int) : Linked S (S.link i p n) := by
  by_cases hi : 0 ≤ i ∧ i < 32
  · obtain ⟨k, rfl⟩ : ∃ k : Nat, i = (k : Int) := ⟨i.toNat, by omega⟩
    have m := Moved.link S hl (i := k) p n
    exact ⟨m.rest, m.free, m.len⟩
  · rw [S.link_out hi]; exact Linked.refl S
theorem Linked.agree {S R S' R' : St} (h : Agree S R) (hS : Linked S S') (hR : Linked R R') (hl : ∀ x : Int, S'.lk x = R'.lk x) : Agree S' R' :=
  ⟨slots_eq (by rw [hS.len, h.len]) (by rw [hR.len, h.rlen]) (fun j => by rw [hS.rest, hR.rest, h.slots]) hl, by rw [hS.free, hR.free, h.free], by rw [hS.len, h.len]⟩
theorem rlink_len (S : St) (i k : Int) : (S.rlink i k).slots.length = S.slots.length := by unfold St.rlink; rw [setP_len, setN_len]
theorem rlink_writes (S : St) (i k : Int) : (S.rlink i k).writes = S.writes := by unfold St.rlink; rw [setP_writes, setN_writes]
theorem rlink_lk (hl : S.slots.length = 32) {i k : Int} (hi : inR i = true) (hk : inR k = true) (x : Int) : (S.rlink i k).lk x = (if x = k then i else (S.lk x).1, if x = i then k else (S.lk x).2) := by
  have h1 := inR_iff.1 hi
  have h2 := inR_iff.1 hk
  unfold St.rlink
  rw [setP_lk (by rw [setN_len, hl]) (by omega), setN_lk hl (by omega)]
  rw [show ((k.toNat : Nat) : Int) = k by omega, show ((i.toNat : Nat) : Int) = i by omega]
  by_cases e1 : x = k <;> by_cases e2 : x = i <;> simp [e1, e2]
  all_goals (repeat' split) <;> simp_all

/-- Push, as the document has it: the last one, the error, where; and the arena then. -/
def St.rpush (R : St) (last i : Int) : (Int × Int × Int) × St :=
  if inR i = false ∨ (last ≠ -1 ∧ inR last = false) then ((0, 1, -1), R)
  else if last = -1 then ((i, 0, -1), R.rlink i i)
  else if R.well last = false then ((0, 24, last), R)
  else if i = last ∨ i = (R.lk last).2 then ((0, 9, -1), R)
  else ((i, 0, -1), (R.rlink last i).rlink i (R.lk last).2)
/-- Drop, as the document has it. -/
def St.rdrop (R : St) (last i : Int) : (Int × Int × Int) × St :=
  if inR i = false ∨ inR last = false then ((0, 1, -1), R)
  else if R.well i = false then ((0, 24, i), R)
  else
    let R' := ((R.rlink (R.lk i).1 (R.lk i).2).setP i.toNat (-1)).setN i.toNat (-1)
    (if i ≠ last then (last, 0, -1) else if (R.lk i).1 = i then (-1, 0, -1) else ((R.lk i).1, 0, -1), R')
/-- Splice, as the document has it. -/
def St.rsplice (R : St) (one two : Int) : (Int × Int × Int) × St :=
  if (one ≠ -1 ∧ inR one = false) ∨ (two ≠ -1 ∧ inR two = false) then ((0, 1, -1), R)
  else if one = -1 then ((two, 0, -1), R)
  else if two = -1 then ((one, 0, -1), R)
  else if one = two then ((0, 9, -1), R)
  else if R.well one = false then ((0, 24, one), R)
  else if R.well two = false then ((0, 24, two), R)
  else ((two, 0, -1), (R.rlink one (R.lk two).2).rlink two (R.lk one).2)
/-- The error of a number and a place. -/
def errP (no at_ : Int) : Value := if no = 0 then .nilIface else if at_ < 0 then errno no else faultV no at_
/-- What the code answers (v, and the arena S'), and what the document does (r, and R'), agree. -/
structure Same (S : St) (v : Value) (S' : St) (r : Int × Int × Int) (R' : St) (most : Int) : Prop where
  val : v = .tuple #[.int .i64 r.1, errP r.2.1 r.2.2]
  agree : Agree S' R'
  lo : S.writes ≤ S'.writes
  hi : S'.writes ≤ S.writes + (if r.2.1 = 0 then most else 0)
  no : (r.2.2 = -1 ∧ 0 ≤ r.2.1 ∧ r.2.1 ≤ 24) ∨ (r.2.1 = 24 ∧ 0 ≤ r.2.2 ∧ r.2.2 < 32)
theorem well_iff (S : St) (i : Int) : S.well i = true ↔ inR (S.lk i).1 = true ∧ inR (S.lk i).2 = true ∧ (S.lk (S.lk i).1).2 = i ∧ (S.lk (S.lk i).2).1 = i := by
  unfold St.well; simp only [Bool.and_eq_true, beq_iff_eq, and_assoc]
theorem well_out (S : St) {i : Int} (h : inR i = false) : S.well i = false := by
  have : ¬ (0 ≤ i ∧ i < 32) := fun hh => by rw [inR_iff.2 hh] at h; cases h
  unfold St.well
  rw [S.lk_out this]
  simp [inR]
theorem link_lk {S : St} (hl : S.slots.length = 32) {i : Int} (hi : inR i = true) (p n x : Int) : (S.link i p n).lk x = if x = i then (p, n) else S.lk x := by
  rw [S.lk_link hl]; simp [hi]
theorem inR_cases (i : Int) : inR i = true ∨ inR i = false := by cases inR i <;> simp
theorem Same.stay {S R : St} (h : Agree S R) {v : Value} {r : Int × Int × Int} {most : Int} (hv : v = .tuple #[.int .i64 r.1, errP r.2.1 r.2.2]) (hm : 0 ≤ most) (no : (r.2.2 = -1 ∧ 0 ≤ r.2.1 ∧ r.2.1 ≤ 24) ∨ (r.2.1 = 24 ∧ 0 ≤ r.2.2 ∧ r.2.2 < 32)) : Same S v S r R most :=
  ⟨hv, h, Int.le_refl _, by split <;> omega, no⟩
theorem errP_ok (a : Int) : errP 0 a = .nilIface := rfl
theorem errP_no {n : Int} (hn : n ≠ 0) : errP n (-1) = errno n := by unfold errP; rw [if_neg hn, if_pos (by omega)]
theorem errP_at {a : Int} (ha : 0 ≤ a) : errP 24 a = faultV 24 a := by unfold errP; rw [if_neg (by omega), if_neg (by omega)]

theorem Same.ok {S S' R' : St} {i most : Int} (hA : Agree S' R') (lo : S.writes ≤ S'.writes) (hi : S'.writes ≤ S.writes + most) : Same S (.tuple #[.int .i64 i, .nilIface]) S' (i, 0, -1) R' most :=
  ⟨rfl, hA, lo, hi, .inl ⟨rfl, by dsimp only; omega, by dsimp only; omega⟩⟩

theorem push_same {S R : St} (h : Agree S R) (last i : Int) : Same S (S.push last i).1 (S.push last i).2 (R.rpush last i).1 (R.rpush last i).2 3 := by
  unfold St.push St.rpush
  have hl := h.len
  have hrl := h.rlen
  rcases inR_cases i with hi | hi
  rotate_left
  · rw [if_pos hi, if_pos (.inl hi)]
    exact Same.stay h rfl (by omega) (.inl ⟨rfl, by dsimp only; omega, by dsimp only; omega⟩)
  rw [if_neg (by simp [hi])]
  by_cases h1 : last = -1
  · rw [if_pos h1, if_neg (by simp [hi, h1]), if_pos h1]
    have m := link_writes S i i i
    dsimp only
    refine Same.ok (Linked.agree h (Linked.link S hl _ _ _) (Linked.rlink R _ _) fun x => ?_) m.1 (by omega)
    rw [link_lk hl hi, rlink_lk hrl hi hi, h.lk]
    split <;> simp
  rw [if_neg h1]
  rcases inR_cases last with hla | hla
  rotate_left
  · rw [if_pos hla, if_pos (.inr ⟨h1, hla⟩)]
    exact Same.stay h rfl (by omega) (.inl ⟨rfl, by dsimp only; omega, by dsimp only; omega⟩)
  have hlr := inR_iff.1 hla
  rw [if_neg (show ¬ (inR last = false) by simp [hla]), if_neg (show ¬ (inR i = false ∨ (last ≠ -1 ∧ inR last = false)) by simp [hi, hla]), if_neg h1, h.well]
  by_cases hw : S.well last = false
  · rw [if_pos hw, if_pos hw]
    exact Same.stay h (by rw [errP_at hlr.1]) (by omega) (.inr ⟨rfl, hlr.1, hlr.2⟩)
  rw [if_neg hw, if_neg hw, h.lk]
  by_cases h2 : i = last ∨ i = (S.lk last).2
  · rw [if_pos h2, if_pos h2]
    exact Same.stay h rfl (by omega) (.inl ⟨rfl, by dsimp only; omega, by dsimp only; omega⟩)
  rw [if_neg h2, if_neg h2]
  have hwt := (well_iff S last).1 (by simpa using hw)
  obtain ⟨hp, hn, hpn, hnp⟩ := hwt
  generalize hf : (S.lk last).2 = f at *
  have hL : Linked R ((R.rlink last i).rlink i f) := (Linked.rlink R _ _).trans (Linked.rlink _ _ _)
  have hRl : ∀ x, ((R.rlink last i).rlink i f).lk x = (if x = f then i else if x = i then last else (S.lk x).1, if x = i then f else if x = last then i else (S.lk x).2) := by
    intro x
    rw [rlink_lk (by rw [rlink_len, hrl]) hi hn, rlink_lk hrl hla hi, h.lk]
  by_cases h3 : f = last
  · rw [if_pos h3]
    have m1 := link_writes S i last f
    have m2 := link_writes (S.link i last f) last i i
    dsimp only
    refine Same.ok (Linked.agree h ((Linked.link S hl _ _ _).trans (Linked.link _ (by rw [link_len, hl]) _ _ _)) hL fun x => ?_) (by omega) (by omega)
    rw [hRl, link_lk (by rw [link_len, hl]) hla, link_lk hl hi]
    subst h3
    by_cases e1 : x = f
    · have : f ≠ i := fun e => h2 (.inl e.symm)
      simp [e1, this]
    · simp only [if_neg e1]
      split <;> rfl
  · rw [if_neg h3]
    have m1 := link_writes S i last f
    have m2 := link_writes (S.link i last f) last ((S.link i last f).lk last).1 i
    have m3 := link_writes ((S.link i last f).link last ((S.link i last f).lk last).1 i) f i (((S.link i last f).link last ((S.link i last f).lk last).1 i).lk f).2
    have l1 : (S.link i last f).slots.length = 32 := by rw [link_len, hl]
    have l2 : ((S.link i last f).link last ((S.link i last f).lk last).1 i).slots.length = 32 := by rw [link_len, l1]
    dsimp only
    refine Same.ok (Linked.agree h (((Linked.link S hl _ _ _).trans (Linked.link _ l1 _ _ _)).trans (Linked.link _ l2 _ _ _)) hL fun x => ?_) (by omega) (by omega)
    have n1 : i ≠ last := fun e => h2 (.inl e)
    have n2 : i ≠ f := fun e => h2 (.inr e)
    rw [hRl, link_lk l2 hn, link_lk l1 hla, link_lk l1 hla, link_lk hl hi, link_lk hl hi, link_lk hl hi]
    have n3 : last ≠ i := Ne.symm n1
    have n4 : f ≠ i := Ne.symm n2
    by_cases e1 : x = f
    · simp [e1, h3, n4]
    · by_cases e2 : x = last
      · simp [e2, n3, Ne.symm h3]
      · by_cases e3 : x = i
        · simp [e3, n1, n2]
        · simp [e1, e2, e3]

theorem drop_same {S R : St} (h : Agree S R) (last i : Int) : Same S (S.dropR last i).1 (S.dropR last i).2 (R.rdrop last i).1 (R.rdrop last i).2 3 := by
  unfold St.dropR St.rdrop
  have hl := h.len
  have hrl := h.rlen
  by_cases h0 : inR i = false ∨ inR last = false
  · rw [if_pos h0, if_pos h0]
    exact Same.stay h rfl (by omega) (.inl ⟨rfl, by dsimp only; omega, by dsimp only; omega⟩)
  rw [if_neg h0, if_neg h0, h.well]
  have hi : inR i = true := by simpa using fun e => h0 (.inl e)
  have hla : inR last = true := by simpa using fun e => h0 (.inr e)
  have hir := inR_iff.1 hi
  by_cases hw : S.well i = false
  · rw [if_pos hw, if_pos hw]
    exact Same.stay h (by rw [errP_at hir.1]) (by omega) (.inr ⟨rfl, hir.1, hir.2⟩)
  rw [if_neg hw, if_neg hw]
  dsimp only
  rw [h.lk]
  obtain ⟨hp, hn, hpn, hnp⟩ := (well_iff S i).1 (by simpa using hw)
  have hself : S.lk i = ((S.lk i).1, (S.lk i).2) := rfl
  generalize hP : (S.lk i).1 = p at *
  generalize hN : (S.lk i).2 = n at *
  have hz : ((i.toNat : Nat) : Int) = i := by omega
  have lr : (R.rlink p n).slots.length = 32 := by rw [rlink_len, hrl]
  have hL : Linked R (((R.rlink p n).setP i.toNat (-1)).setN i.toNat (-1)) := ((Linked.rlink R _ _).trans (Linked.setP _ _ _)).trans (Linked.setN _ _ _)
  have hRl : ∀ x, (((R.rlink p n).setP i.toNat (-1)).setN i.toNat (-1)).lk x = if x = i then (-1, -1) else (if x = n then p else (S.lk x).1, if x = p then n else (S.lk x).2) := by
    intro x
    rw [setN_lk (by rw [setP_len, lr]) (by omega), setP_lk lr (by omega), rlink_lk hrl hp hn, h.lk, hz]
    split <;> rfl
  have hj : ∀ S1 : St, S1.slots.length = 32 → Linked S S1 → S.writes ≤ S1.writes → S1.writes ≤ S.writes + 2 → (∀ x, x ≠ i → S1.lk x = (if x = n then p else (S.lk x).1, if x = p then n else (S.lk x).2)) →
      Same S (.tuple #[.int .i64 (if i ≠ last then last else if p = i then -1 else p), .nilIface]) (S1.link i (-1) (-1)) (if i ≠ last then (last, 0, -1) else if p = i then (-1, 0, -1) else (p, 0, -1)) (((R.rlink p n).setP i.toNat (-1)).setN i.toNat (-1)) 3 := by
    intro S1 l1 k1 w1 w2 hx
    have m := link_writes S1 i (-1) (-1)
    have hag : Agree (S1.link i (-1) (-1)) (((R.rlink p n).setP i.toNat (-1)).setN i.toNat (-1)) := Linked.agree h (k1.trans (Linked.link _ l1 _ _ _)) hL fun x => by
      rw [hRl, link_lk l1 hi]
      by_cases e : x = i
      · rw [if_pos e, if_pos e]
      · rw [if_neg e, if_neg e, hx x e]
    split
    · exact Same.ok hag (by omega) (by omega)
    · split
      · exact Same.ok hag (by omega) (by omega)
      · exact Same.ok hag (by omega) (by omega)
  refine hj (S.joined i p n) ?_ ?_ ?_ ?_ ?_
  · unfold St.joined
    split
    · exact hl
    · split <;> simp only [link_len, hl]
  · unfold St.joined
    split
    · exact Linked.refl S
    · split
      · exact Linked.link S hl _ _ _
      · exact (Linked.link S hl _ _ _).trans (Linked.link _ (by rw [link_len, hl]) _ _ _)
  · unfold St.joined
    split
    · exact Int.le_refl _
    · split
      · exact (link_writes ..).1
      · have := link_writes S p (S.lk p).1 n
        have := link_writes (S.link p (S.lk p).1 n) n p ((S.link p (S.lk p).1 n).lk n).2
        dsimp only; omega
  · unfold St.joined
    split
    · omega
    · split
      · have := (link_writes S p n n).2; omega
      · have := link_writes S p (S.lk p).1 n
        have := link_writes (S.link p (S.lk p).1 n) n p ((S.link p (S.lk p).1 n).lk n).2
        dsimp only; omega
  · intro x hxi
    unfold St.joined
    by_cases e1 : p = i
    · rw [if_pos e1]
      have hni : n = i := by
        rw [e1] at hpn
        rw [← hN]; exact hpn
      have a1 : ¬ x = n := fun e => hxi (e.trans hni)
      have a2 : ¬ x = p := fun e => hxi (e.trans e1)
      rw [if_neg a1, if_neg a2]
    · rw [if_neg e1]
      by_cases e2 : p = n
      · rw [if_pos e2, link_lk hl hp]
        by_cases e3 : x = p
        · rw [if_pos e3, if_pos (e3.trans e2), if_pos e3, e2]
        · rw [if_neg e3, if_neg (fun e => e3 (e.trans e2.symm)), if_neg e3]
      · rw [if_neg e2]
        dsimp only
        rw [link_lk (by rw [link_len, hl]) hn, link_lk hl hp, link_lk hl hp, if_neg (Ne.symm e2)]
        by_cases e3 : x = n
        · rw [if_pos e3, if_pos e3, if_neg (fun e => e2 (e.symm.trans e3)), e3]
        · rw [if_neg e3, if_neg e3]
          by_cases e4 : x = p
          · rw [if_pos e4, if_pos e4, e4]
          · rw [if_neg e4, if_neg e4]

theorem splice_same {S R : St} (h : Agree S R) (one two : Int) : Same S (S.splice one two).1 (S.splice one two).2 (R.rsplice one two).1 (R.rsplice one two).2 4 := by
  unfold St.splice St.rsplice
  have hl := h.len
  have hrl := h.rlen
  by_cases h0 : (one ≠ -1 ∧ inR one = false) ∨ (two ≠ -1 ∧ inR two = false)
  · rw [if_pos h0, if_pos h0]
    exact Same.stay h rfl (by omega) (.inl ⟨rfl, by dsimp only; omega, by dsimp only; omega⟩)
  rw [if_neg h0, if_neg h0]
  by_cases h1 : one = -1
  · rw [if_pos h1, if_pos h1]
    exact Same.stay h rfl (by omega) (.inl ⟨rfl, by dsimp only; omega, by dsimp only; omega⟩)
  rw [if_neg h1, if_neg h1]
  by_cases h2 : two = -1
  · rw [if_pos h2, if_pos h2]
    exact Same.stay h rfl (by omega) (.inl ⟨rfl, by dsimp only; omega, by dsimp only; omega⟩)
  rw [if_neg h2, if_neg h2]
  by_cases h3 : one = two
  · rw [if_pos h3, if_pos h3]
    exact Same.stay h rfl (by omega) (.inl ⟨rfl, by dsimp only; omega, by dsimp only; omega⟩)
  rw [if_neg h3, if_neg h3, h.well, h.well]
  have ho : inR one = true := by
    rcases inR_cases one with e | e
    · exact e
    · exact absurd (.inl ⟨h1, e⟩) h0
  have ht : inR two = true := by
    rcases inR_cases two with e | e
    · exact e
    · exact absurd (.inr ⟨h2, e⟩) h0
  have hor := inR_iff.1 ho
  have htr := inR_iff.1 ht
  by_cases hw : S.well one = false
  · rw [if_pos hw, if_pos hw]
    exact Same.stay h (by rw [errP_at hor.1]) (by omega) (.inr ⟨rfl, hor.1, hor.2⟩)
  rw [if_neg hw, if_neg hw]
  by_cases hw2 : S.well two = false
  · rw [if_pos hw2, if_pos hw2]
    exact Same.stay h (by rw [errP_at htr.1]) (by omega) (.inr ⟨rfl, htr.1, htr.2⟩)
  rw [if_neg hw2, if_neg hw2, h.lk, h.lk]
  obtain ⟨_, hf, _, hfo⟩ := (well_iff S one).1 (by simpa using hw)
  obtain ⟨_, hg, _, hgt⟩ := (well_iff S two).1 (by simpa using hw2)
  obtain ⟨f, hF, hf32⟩ : ∃ k : Nat, (S.lk one).2 = (k : Int) ∧ k < 32 := ⟨(S.lk one).2.toNat, by have := inR_iff.1 hf; omega, by have := inR_iff.1 hf; omega⟩
  obtain ⟨g, hG, hg32⟩ : ∃ k : Nat, (S.lk two).2 = (k : Int) ∧ k < 32 := ⟨(S.lk two).2.toNat, by have := inR_iff.1 hg; omega, by have := inR_iff.1 hg; omega⟩
  obtain ⟨a, rfl⟩ : ∃ k : Nat, one = (k : Int) := ⟨one.toNat, by omega⟩
  obtain ⟨b, rfl⟩ : ∃ k : Nat, two = (k : Int) := ⟨two.toNat, by omega⟩
  rw [hF] at hf hfo ⊢
  rw [hG] at hg hgt ⊢
  have hm := spl4_moved hl (a := a) (b := b) (f := f) (g := g)
  dsimp only
  refine Same.ok (Linked.agree h ⟨hm.rest, hm.free, hm.len⟩ ((Linked.rlink R _ _).trans (Linked.rlink _ _ _)) fun x => ?_) hm.lo hm.hi
  rw [rlink_lk (by rw [rlink_len, hrl]) ht hf, rlink_lk hrl ho hg, h.lk]
  have hfg : (f : Int) ≠ g := fun e => h3 (by rw [← hfo, ← hgt, e])
  by_cases hx : 0 ≤ x ∧ x < 32
  · obtain ⟨k, rfl⟩ : ∃ k : Nat, x = (k : Int) := ⟨x.toNat, by omega⟩
    rw [spl4_lk hl (by omega) (by omega) hf32 hg32]
    unfold spT
    refine Prod.ext ?_ ?_
    · show (if (k : Int) = g then (a : Int) else if (k : Int) = f then b else _) = (if (k : Int) = f then (b : Int) else if (k : Int) = g then a else _)
      by_cases e1 : (k : Int) = g
      · rw [if_pos e1, if_neg (fun e => hfg (e.symm.trans e1)), if_pos e1]
      · rw [if_neg e1]
        split <;> rfl
    · show (if (k : Int) = a then (g : Int) else if (k : Int) = b then f else _) = (if (k : Int) = b then (f : Int) else if (k : Int) = a then g else _)
      by_cases e1 : (k : Int) = a
      · rw [if_pos e1, if_neg (fun e => h3 (e1.symm.trans e)), if_pos e1]
      · rw [if_neg e1]
        split <;> rfl
  · have q : ∀ T : St, T.lk x = (-1, -1) := fun T => T.lk_out hx
    rw [q, q]
    have n1 : ¬ x = f := fun e => hx (by omega)
    have n2 : ¬ x = g := fun e => hx (by omega)
    have n3 : ¬ x = a := fun e => hx (by omega)
    have n4 : ¬ x = b := fun e => hx (by omega)
    rw [if_neg n1, if_neg n2, if_neg n4, if_neg n3]
end
end Go.Proofs.Ytbidgpeeogoglaa
/-
  The document's rings, walked: Well, link, Push, Drop, Splice.
-/
namespace Go.Proofs.Ytbidgpeeogoglaa
set_option maxRecDepth 100000
open Go.RowKit Go.Sort

theorem flatS_setF {l : List SlotV} {k j : Nat} {s s' : SlotV} {v : Value} (hs : l[k]? = some s) (hj : j < 17) (h : s.cells.toList.set j v = s'.cells.toList) : (flatS l).set (17 * k + j) v = flatS (l.set k s') := by
  obtain ⟨hk, hk2⟩ := List.getElem?_eq_some_iff.1 hs
  have h1 := flat_set17 l k s hk
  have h2 := flat_set17 l k s' hk
  rw [← hk2, List.set_getElem_self hk, hk2] at h1
  have hl := flat_len17 l
  have hA : ((l.flatMap fun (s : SlotV) => (SlotV.cells s).toList).take (17 * k)).length = 17 * k := by rw [List.length_take, hl]; omega
  have hc : s.cells.toList.length = 17 := rfl
  show (l.flatMap fun (s : SlotV) => (SlotV.cells s).toList).set (17 * k + j) v = (l.set k s').flatMap fun (s : SlotV) => (SlotV.cells s).toList
  rw [← h2]
  conv => lhs; rw [← h1]
  rw [List.append_assoc, List.append_assoc, List.set_append_right _ _ (by omega), hA, show 17 * k + j - 17 * k = j by omega, List.set_append_left _ _ (by omega), h]
section
variable {lo h b cap : Nat} {S : St} {junk : List Value} {vF : Value} {W : World}
end
end Go.Proofs.Ytbidgpeeogoglaa
/-
  The document's rings, walked: Push, Drop, Splice.
-/
namespace Go.Proofs.Ytbidgpeeogoglaa
set_option maxRecDepth 100000
open Go.RowKit Go.Sort

def tri (r : Int × Int × Int) : Value := .tuple #[.int .i64 r.1, .int .i64 r.2.1, .int .i64 r.2.2]
end Go.Proofs.Ytbidgpeeogoglaa
/-
  The document's rings, walked: Drop.
-/
namespace Go.Proofs.Ytbidgpeeogoglaa
set_option maxRecDepth 100000
open Go.RowKit Go.Sort

end Go.Proofs.Ytbidgpeeogoglaa
/-
  The document's rings, walked: Splice.
-/
namespace Go.Proofs.Ytbidgpeeogoglaa
set_option maxRecDepth 100000
open Go.RowKit Go.Sort

end Go.Proofs.Ytbidgpeeogoglaa
