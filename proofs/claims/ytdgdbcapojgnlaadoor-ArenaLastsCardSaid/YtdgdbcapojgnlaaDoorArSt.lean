/-
  What an arena is: its slots, the list of the free ones; the operations on it. Of no program.
-/
import Derived.Test.YtdgdbcapojgnlaaDoorSlot
import Derived.Test.YtdgdbcapojgnlaaDoorArOps3
namespace Go.Proofs.YtdgdbcapojgnlaaDoor
set_option maxRecDepth 100000

/-- From f on, the free ones are just L. -/
def Chain (nx : List Int) : Int → List Nat → Prop
  | f, [] => f = -1
  | f, i :: L => f = i ∧ i < 32 ∧ ∃ n, nx[i]? = some n ∧ Chain nx n L
theorem Chain.lt {nx : List Int} : ∀ {f : Int} {L : List Nat}, Chain nx f L → ∀ i ∈ L, i < 32
  | _, [], _, i, h => by cases h
  | _, a :: L, ⟨_, h1, n, _, h2⟩, i, h => by
    rcases List.mem_cons.1 h with rfl | h
    · exact h1
    · exact h2.lt i h
theorem Chain.next {nx : List Int} : ∀ {f : Int} {L : List Nat}, Chain nx f L → ∀ i ∈ L, ∃ n, nx[i]? = some n ∧ n ≠ -2
  | _, [], _, i, h => by cases h
  | _, a :: L, ⟨_, h1, n, hn, h2⟩, i, h => by
    rcases List.mem_cons.1 h with rfl | h
    · refine ⟨n, hn, ?_⟩
      cases L with
      | nil => have h3 : n = -1 := h2; omega
      | cons b L => have h3 : n = b := h2.1; omega
    · exact h2.next i h
theorem Chain.set {nx : List Int} {j : Nat} {v : Int} : ∀ {f : Int} {L : List Nat}, Chain nx f L → j ∉ L → Chain (nx.set j v) f L
  | _, [], h, _ => h
  | _, a :: L, ⟨h0, h1, n, hn, h2⟩, hj => by
    have ha : j ≠ a := fun e => hj (e ▸ List.mem_cons_self ..)
    exact ⟨h0, h1, n, by rw [List.getElem?_set_ne ha]; exact hn, h2.set (fun h => hj (List.mem_cons_of_mem _ h))⟩
/-- A number is taken out of the midst: the one ahead leads to the one behind. -/
theorem Chain.cut {nx : List Int} {i : Nat} {rest : List Nat} {n : Int} (hn : nx[i]? = some n) : ∀ {f : Int} {pre : List Nat} (j : Nat), Chain nx f (pre ++ j :: i :: rest) → (pre ++ j :: i :: rest).Nodup → Chain (nx.set j n) f (pre ++ j :: rest)
  | f, [], j, h, hd => by
    obtain ⟨h0, h1, m, hm, h2, h3, k, hk, h4⟩ := h
    rw [hn] at hk
    obtain rfl := Option.some.inj hk
    have hl : j < nx.length := (List.getElem?_eq_some_iff.1 hm).1
    have hj : j ∉ rest := fun h => (List.nodup_cons.1 hd).1 (List.mem_cons_of_mem _ h)
    exact ⟨h0, h1, n, by simp [hl], h4.set hj⟩
  | f, a :: pre, j, h, hd => by
    obtain ⟨h0, h1, m, hm, h2⟩ := h
    have hd' := List.nodup_cons.1 hd
    have ha : j ≠ a := fun e => hd'.1 (by rw [← e]; simp)
    exact ⟨h0, h1, m, by rw [List.getElem?_set_ne ha]; exact hm, Chain.cut hn j h2 hd'.2⟩
theorem Chain.mid {nx : List Int} : ∀ {f : Int} {pre : List Nat} {i : Nat} {rest : List Nat}, Chain nx f (pre ++ i :: rest) → Chain nx i (i :: rest)
  | _, [], i, rest, h => by obtain ⟨h0, h1⟩ := h; exact ⟨rfl, h1⟩
  | _, a :: pre, i, rest, ⟨_, _, n, _, h⟩ => h.mid

/-- An arena as it is thought of. -/
structure St where
  slots : List SlotV
  free : List Nat
  writes : Int
structure Rep (A : Ar) (S : St) : Prop where
  slots : A.slots = S.slots
  writes : A.writes = S.writes
  chain : Chain A.next A.first S.free
  nodup : S.free.Nodup
  taken : ∀ i, i < 32 → i ∉ S.free → A.next[i]? = some (-2)
  full : A.Full
section
variable {A : Ar} {S : St}
def St.take (S : St) : St := { S with free := S.free.tail }
def St.drop (S : St) (i : Nat) : St := { S with free := S.free.erase i }
def St.give (S : St) (i : Nat) : St := ⟨S.slots.set i SlotV.bare, i :: S.free, S.writes + 1⟩
def St.put (S : St) (i : Nat) (s : SlotV) : St := { S with slots := S.slots.set i s, writes := S.writes + 1 }
theorem Rep.put (h : Rep A S) (i : Nat) (s : SlotV) : Rep ((A.putSlot i s).putWrites (A.writes + 1)) (S.put i s) :=
  ⟨by simp [Ar.putSlot, Ar.putWrites, St.put, h.slots], by simp [Ar.putWrites, St.put, h.writes], h.chain, h.nodup, h.taken, (h.full.putSlot i s).putWrites _⟩
theorem Rep.first_none (h : Rep A S) (he : S.free = []) : A.first = -1 := by have := h.chain; rw [he] at this; exact this
theorem Rep.first_some (h : Rep A S) {i : Nat} {L : List Nat} (he : S.free = i :: L) : i < 32 ∧ A.first = i ∧ ∃ n, A.next[i]? = some n ∧ Rep ((A.putFirst n).putNext i (-2)) S.take := by
  have hc := h.chain
  have hd := h.nodup
  rw [he] at hc hd
  obtain ⟨h0, h1, n, hn, h2⟩ := hc
  have hd' := List.nodup_cons.1 hd
  have hl : i < A.next.length := (List.getElem?_eq_some_iff.1 hn).1
  refine ⟨h1, h0, n, hn, h.slots, h.writes, ?_, ?_, ?_, (h.full.putFirst n).putNext i (-2)⟩
  · show Chain (A.next.set i (-2)) n S.free.tail
    rw [he]
    exact h2.set hd'.1
  · show S.free.tail.Nodup
    rw [he]; exact hd'.2
  · intro j hj hjn
    show (A.next.set i (-2))[j]? = some (-2)
    by_cases e : i = j
    · subst e; simp [hl]
    · rw [List.getElem?_set_ne e]
      refine h.taken j hj fun hm => hjn ?_
      show j ∈ S.free.tail
      rw [he] at hm ⊢
      rcases List.mem_cons.1 hm with rfl | hm
      · exact absurd rfl e
      · exact hm
theorem Rep.next_free (h : Rep A S) {i : Nat} (hi : i ∈ S.free) : ∃ n, A.next[i]? = some n ∧ n ≠ -2 := h.chain.next i hi
theorem Rep.give (h : Rep A S) {i : Nat} (hi : i < 32) (hn : i ∉ S.free) : Rep (A.freed i) (S.give i) := by
  have hl : i < A.next.length := by rw [h.full.next]; exact hi
  refine ⟨by simp [Ar.freed, Ar.putSlot, Ar.putFirst, Ar.putNext, Ar.putWrites, St.give, h.slots], by simp [Ar.freed, Ar.putWrites, St.give, h.writes], ?_, List.nodup_cons.2 ⟨hn, h.nodup⟩, ?_, (((h.full.putSlot i _).putFirst _).putNext i _).putWrites _⟩
  · show Chain (A.next.set i A.first) i (i :: S.free)
    exact ⟨rfl, hi, A.first, by simp [hl], h.chain.set hn⟩
  · intro j hj hjn
    show (A.next.set i A.first)[j]? = some (-2)
    have hji : i ≠ j := fun e => hjn (e ▸ List.mem_cons_self ..)
    rw [List.getElem?_set_ne hji]
    exact h.taken j hj fun hm => hjn (List.mem_cons_of_mem _ hm)
/-- A free one is taken out of the list: the first one. -/
theorem Rep.drop_head (h : Rep A S) {i : Nat} {L : List Nat} (he : S.free = i :: L) {n : Int} (hn : A.next[i]? = some n) : Rep ((A.putFirst n).putNext i (-2)) (S.drop i) := by
  obtain ⟨_, _, m, hm, hr⟩ := h.first_some he
  rw [hn] at hm
  obtain rfl := Option.some.inj hm
  have e : S.drop i = S.take := by simp [St.drop, St.take, he]
  rw [e]; exact hr
/-- Another one. -/
theorem Rep.drop_mid (h : Rep A S) {i j : Nat} {pre rest : List Nat} (he : S.free = pre ++ j :: i :: rest) {n : Int} (hn : A.next[i]? = some n) : Rep ((A.putNext j n).putNext i (-2)) (S.drop i) := by
  have hc := h.chain
  have hd := h.nodup
  rw [he] at hc hd
  have hl : i < A.next.length := (List.getElem?_eq_some_iff.1 hn).1
  have hmem : i ∈ S.free := by rw [he]; simp
  have hi : i < 32 := h.chain.lt i hmem
  have hin : i ∉ pre ++ j :: rest := by
    rw [List.nodup_append] at hd
    obtain ⟨_, h2, h3⟩ := hd
    simp only [List.nodup_cons, List.mem_cons, not_or] at h2
    rw [List.mem_append, List.mem_cons]
    rintro (h | h | h)
    · exact h3 i h i (by simp) rfl
    · exact h2.1.1 h.symm
    · exact h2.2.1 h
  have e2 : (S.drop i).free = pre ++ j :: rest := by
    show S.free.erase i = _
    rw [he]
    have hip : i ∉ pre := fun h => hin (List.mem_append_left _ h)
    rw [List.erase_append_right _ hip]
    have hji : j ≠ i := fun e => hin (by rw [← e]; simp)
    rw [List.erase_cons_tail (by simpa using hji), List.erase_cons_head]
  refine ⟨h.slots, h.writes, ?_, ?_, ?_, (h.full.putNext j n).putNext i (-2)⟩
  · show Chain ((A.next.set j n).set i (-2)) A.first (S.drop i).free
    rw [e2]
    exact (Chain.cut hn j hc hd).set hin
  · exact h.nodup.erase i
  · intro k hk hkn
    show ((A.next.set j n).set i (-2))[k]? = some (-2)
    by_cases e : i = k
    · subst e; simp [hl]
    · rw [List.getElem?_set_ne e]
      have hkf : k ∉ S.free := fun hm => hkn (by show k ∈ S.free.erase i; exact (List.mem_erase_of_ne (Ne.symm e)).2 hm)
      have hkj : j ≠ k := fun e' => hkf (by rw [he, ← e']; simp)
      rw [List.getElem?_set_ne hkj]
      exact h.taken k hk hkf
end
def St.new : St := ⟨List.replicate 32 SlotV.bare, List.range 32, 0⟩
theorem chain_new : ∀ k : Nat, k ≤ 32 → Chain Ar.new.next (if k = 0 then -1 else ((32 - k : Nat) : Int)) ((List.range' (32 - k) k))
  | 0, _ => rfl
  | k + 1, hk => by
    have ih := chain_new k (by omega)
    have e : List.range' (32 - (k + 1)) (k + 1) = (32 - (k + 1)) :: List.range' (32 - k) k := by
      rw [List.range'_succ, show 32 - (k + 1) + 1 = 32 - k by omega]
    rw [e]
    refine ⟨by simp, by omega, _, ?_, ih⟩
    have hnx : ∀ j : Nat, j < 32 → Ar.new.next[j]? = some (if j = 31 then -1 else (j : Int) + 1) := by decide +kernel
    rw [hnx _ (by omega)]
    by_cases h0 : k = 0
    · subst h0; rfl
    · rw [if_neg h0, if_neg (by omega)]
      congr 1
      omega
theorem rep_new : Rep Ar.new St.new := by
  refine ⟨by simp [Ar.new, Ar.putNext, Ar.made, St.new], rfl, ?_, List.nodup_range, ?_, (Ar.made_full (by omega)).putNext 31 (-1)⟩
  · have h := chain_new 32 (Nat.le_refl _)
    have e : (List.range' (32 - 32) 32) = St.new.free := by decide
    rw [e] at h
    exact h
  · intro i hi hn
    exact absurd (List.mem_range.2 hi) hn
end Go.Proofs.YtdgdbcapojgnlaaDoor
