/-
  The document's arena (lineageref15): what it is; There, Bare, Get.
-/
import Derived.Test.YtdgdbcapojgnlaaDoorArGet
import Derived.Test.YtdgdbcapojgnlaaDoorQuietTail
namespace Go.Proofs.YtdgdbcapojgnlaaDoor
set_option maxRecDepth 100000
open Go.RowKit

def flatS (l : List SlotV) : List Value := l.flatMap fun (s : SlotV) => (SlotV.cells s).toList
/-- The document's arena at h is S; all that it has lies from lo on. -/
structure RAt (lo h : Nat) (S : St) (b cap : Nat) (junk : List Value) (vF : Value) (W : World) : Prop where
  head : Blk W h 48 #[.slice (some ⟨b, 0, none⟩) 32 cap, vF, .int .i64 S.writes]
  slots : Blk W b 36 (flatS S.slots ++ junk).toArray
  free : W.ownsRow lo 3 1 vF S.free.length (intVs (natInts S.free))
  len : S.slots.length = 32
  loh : lo ≤ h
  lob : lo ≤ b
  cap : 32 ≤ cap
def IsRef (lo h : Nat) (S : St) (W : World) : Prop := ∃ b cap junk vF, RAt lo h S b cap junk vF W
section
variable {lo h b cap i : Nat} {S : St} {junk : List Value} {vF : Value} {W W' : World}
theorem flatS_len (l : List SlotV) : (flatS l).length = 17 * l.length := flat_len17 l
theorem RAt.kept (r : RAt lo h S b cap junk vF W) {row : Option Nat} (hg : W.grownBy W' row) (hr : ∀ k, row = some k → k < lo) : RAt lo h S b cap junk vF W' :=
  ⟨r.head.grown hg (fun e => by have := hr _ e.symm; have := r.loh; omega), r.slots.grown hg (fun e => by have := hr _ e.symm; have := r.lob; omega),
    r.free.kept hg (by
      rcases Classical.em (vF.ownBlock = none) with e | e
      · exact .inl e
      · refine .inr fun e2 => ?_
        obtain ⟨k, hk⟩ : ∃ k, vF.ownBlock = some k := Option.ne_none_iff_exists'.1 e
        have h1 := (r.free.lt k hk).1
        have h2 := hr k (by rw [← e2, hk])
        omega), r.len, r.loh, r.lob, r.cap⟩
theorem RAt.call (r : RAt lo h S b cap junk vF W) (hb : Below W.heap.size W W') : RAt lo h S b cap junk vF W' := r.kept (grownBy_below hb none) (fun k e => by cases e)
theorem IsRef.call (r : IsRef lo h S W) (hb : Below W.heap.size W W') : IsRef lo h S W' := by obtain ⟨b, c, j, v, r⟩ := r; exact ⟨b, c, j, v, r.call hb⟩
theorem IsRef.kept (r : IsRef lo h S W) {g : Nat} (hg : W.grownBy W' (some g)) (hr : g < lo) : IsRef lo h S W' := by obtain ⟨b, c, j, v, r⟩ := r; exact ⟨b, c, j, v, r.kept hg (fun k e => by cases e; exact hr)⟩
theorem RAt.row (r : RAt lo h S b cap junk vF W) {s : SlotV} (hs : S.slots[i]? = some s) : RowAt W b (i * 17) s.cells :=
  ⟨fun j v hv => by
    have hi := (List.getElem?_eq_some_iff.1 hs).1
    have hj : j < 17 := (Array.getElem?_eq_some_iff.1 hv).1
    rw [r.slots.cell, List.getElem?_toArray, List.getElem?_append_left (by rw [flatS_len]; omega), Nat.mul_comm]
    exact (flat_at17 S.slots i j s hs hj).trans hv⟩
end

/-- Nothing is turned but the blocks x. -/
structure Tn (x : Nat → Prop) (w w' : World) : Prop where
  os : w'.os = w.os
  tape : w'.tape = w.tape
  output : w'.output = w.output
  size : w.heap.size ≤ w'.heap.size
  block : ∀ k, k < w.heap.size → ¬ x k → w'.heap[k]? = w.heap[k]?
section
variable {x y : Nat → Prop} {w w1 w2 : World}
theorem Tn.refl (x : Nat → Prop) (w : World) : Tn x w w := ⟨rfl, rfl, rfl, Nat.le_refl _, fun _ _ _ => rfl⟩
theorem Tn.trans (h1 : Tn x w w1) (h2 : Tn x w1 w2) : Tn x w w2 :=
  ⟨h2.os.trans h1.os, h2.tape.trans h1.tape, h2.output.trans h1.output, Nat.le_trans h1.size h2.size, fun k hk e => (h2.block k (Nat.lt_of_lt_of_le hk h1.size) e).trans (h1.block k hk e)⟩
theorem Tn.ofBelow (x : Nat → Prop) (hb : Below w.heap.size w w1) : Tn x w w1 := ⟨hb.os, hb.tape, hb.output, hb.size, fun k hk _ => hb.block k hk⟩
theorem Tn.call (h1 : Tn x w w1) (hb : Below w1.heap.size w1 w2) : Tn x w w2 := h1.trans (Tn.ofBelow x hb)
theorem Tn.ofGrown {g : Nat} (hg : w.grownBy w1 (some g)) (hx : x g) : Tn x w w1 := ⟨hg.os, hg.tape, hg.output, hg.size, fun k hk e => hg.block k hk (fun e2 => by cases e2; exact e hx)⟩
theorem Tn.grown {g : Nat} (h1 : Tn x w w1) (hg : w1.grownBy w2 (some g)) (hx : x g) : Tn x w w2 := h1.trans (Tn.ofGrown hg hx)
theorem Tn.mono (h : Tn x w w1) (hxy : ∀ k, x k → y k) : Tn y w w1 := ⟨h.os, h.tape, h.output, h.size, fun k hk e => h.block k hk fun hx => e (hxy k hx)⟩
theorem Tn.below {n : Nat} (h : Tn x w w1) (hx : ∀ k, x k → n ≤ k) (hn : n ≤ w.heap.size) : Below n w w1 :=
  ⟨h.os, h.tape, h.output, h.size, fun k hk => h.block k (Nat.lt_of_lt_of_le hk hn) fun e => by have := hx k e; omega⟩
end
section
variable {lo h b cap i : Nat} {S : St} {junk : List Value} {vF : Value} {W W' : World}
theorem RAt.ne (r : RAt lo h S b cap junk vF W) : h ≠ b := fun e => by
  have h1 := r.head.eq
  rw [e, r.slots.eq] at h1
  injection h1 with h1
  injection h1 with _ h1
  exact absurd h1 (by decide)
theorem RAt.fne (r : RAt lo h S b cap junk vF W) : ∀ k, vF.ownBlock = some k → k ≠ h ∧ k ≠ b := fun k hk => by
  rcases r.free.2 with ⟨e, _⟩ | ⟨g, c, cur, e, _, hg, _⟩
  · rw [e] at hk; cases hk
  · rw [e] at hk
    obtain rfl : g = k := by simpa [Value.ownBlock] using hk
    refine ⟨fun e2 => ?_, fun e2 => ?_⟩
    · have h1 := r.head.eq
      rw [← e2, hg] at h1
      injection h1 with h1
      injection h1 with _ h1
      exact absurd h1 (by decide)
    · have h1 := r.slots.eq
      rw [← e2, hg] at h1
      injection h1 with h1
      injection h1 with _ h1
      exact absurd h1 (by decide)
theorem fkept {k : Nat} (hk : W.grownBy W' (some k)) {n : Nat} {xs : List Value} (hf : W.ownsRow lo 3 1 vF n xs) (hne : ∀ j, vF.ownBlock = some j → j ≠ k) : W'.ownsRow lo 3 1 vF n xs := hf.kept hk (by
  rcases Classical.em (vF.ownBlock = none) with e | e
  · exact .inl e
  · exact .inr fun e2 => hne k e2 rfl)
/-- A slot's store. -/
theorem RAt.splice (hl : S.slots.length = 32) (hi : i < 32) (s : SlotV) : Go.Proofs.YtdgdbcapojgnlaaDoor.splice (flatS S.slots ++ junk).toArray (i * 17) s.cells = (flatS (S.slots.set i s) ++ junk).toArray := by
  rw [Nat.mul_comm]
  have hl2 := flatS_len S.slots
  rw [hl] at hl2
  have e : s.cells.size = 17 := rfl
  have hf := flat_set17 S.slots i s (by rw [hl]; exact hi)
  unfold Go.Proofs.YtdgdbcapojgnlaaDoor.splice
  simp only [e]
  rw [show flatS (S.slots.set i s) = _ from hf.symm, List.take_append_of_le_length (by omega), List.drop_append_of_le_length (by omega)]
  simp [flatS]
theorem RAt.room (r : RAt lo h S b cap junk vF W) (hi : i < 32) (s : SlotV) : i * 17 + s.cells.size ≤ (flatS S.slots ++ junk).toArray.size := by
  have hl2 := flatS_len S.slots
  rw [r.len] at hl2
  have e : s.cells.size = 17 := rfl
  simp only [List.size_toArray, List.length_append, hl2, e]
  omega
theorem RAt.store (r : RAt lo h S b cap junk vF W) (i : Nat) (s : SlotV) : RAt lo h { S with slots := S.slots.set i s } b cap junk vF (W.setRow b (flatS (S.slots.set i s) ++ junk).toArray) :=
  ⟨r.head.setRow_ne r.ne _, r.slots.setRow_same _, fkept (grownBy_setRow W b _) r.free (fun j hj => (r.fne j hj).2), by simp [r.len], r.loh, r.lob, r.cap⟩
theorem RAt.setWrites (r : RAt lo h S b cap junk vF W) (n : Int) : RAt lo h { S with writes := n } b cap junk vF (W.setCell ⟨h, 2, none⟩ (.int .i64 n)) :=
  ⟨by have := r.head.set_ 2 (.int .i64 n); simpa using this, r.slots.far (p := ⟨h, 2, none⟩) (Ne.symm r.ne) _, fkept (grownBy_set W h 2 _) r.free (fun j hj => (r.fne j hj).1), r.len, r.loh, r.lob, r.cap⟩
theorem RAt.setFree (r : RAt lo h S b cap junk vF W) {v' : Value} {L : List Nat} (hr : W.ownsRow lo 3 1 v' L.length (intVs (natInts L))) : RAt lo h { S with free := L } b cap junk v' (W.setCell ⟨h, 1, none⟩ v') := by
  have hne : ∀ j, v'.ownBlock = some j → j ≠ h := fun k hk => by
    rcases hr.2 with ⟨e, _⟩ | ⟨g, c, cur, e, _, hg, _⟩
    · rw [e] at hk; cases hk
    · rw [e] at hk
      obtain rfl : g = k := by simpa [Value.ownBlock] using hk
      intro e2
      have h1 := r.head.eq
      rw [← e2, hg] at h1
      injection h1 with h1
      injection h1 with _ h1
      exact absurd h1 (by decide)
  exact ⟨by have := r.head.set_ 1 v'; simpa using this, r.slots.far (p := ⟨h, 1, none⟩) (Ne.symm r.ne) _, fkept (grownBy_set W h 1 _) hr hne, r.len, r.loh, r.lob, r.cap⟩
end
/-- The document's arena at h, its slots at b. -/
def IsRB (lo h b : Nat) (S : St) (W : World) : Prop := ∃ cap junk vF, RAt lo h S b cap junk vF W
theorem IsRB.call {lo h b : Nat} {S : St} {W W' : World} (r : IsRB lo h b S W) (hb : Below W.heap.size W W') : IsRB lo h b S W' := by obtain ⟨c, j, v, r⟩ := r; exact ⟨c, j, v, r.call hb⟩
theorem IsRB.kept {lo h b : Nat} {S : St} {W W' : World} (r : IsRB lo h b S W) {g : Nat} (hg : W.grownBy W' (some g)) (hr : g < lo) : IsRB lo h b S W' := by obtain ⟨c, j, v, r⟩ := r; exact ⟨c, j, v, r.kept hg (fun k e => by cases e; exact hr)⟩
/-- What a call of the document's arena gives. -/
def RetR (v : Value) (w : World) (lo h b : Nat) (S : St) (e : Ending) (w' : World) : Prop := e = .returned v ∧ IsRB lo h b S w' ∧ Tn (fun k => k = h ∨ k = b) w w'
end Go.Proofs.YtdgdbcapojgnlaaDoor
