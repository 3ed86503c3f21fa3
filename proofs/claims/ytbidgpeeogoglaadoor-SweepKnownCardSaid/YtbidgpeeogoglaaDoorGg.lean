/-
  Merged texts: RefAr, RefArG, RefAr2, RefAr3, RefAr4, RefAr5.
-/
import Derived.Test.YtbidgpeeogoglaaDoorGd
import Derived.Test.YtbidgpeeogoglaaDoorGa
import Derived.Deep.RegionHeld3
import Derived.Deep.RegionLaw
import Derived.Deep.AppendLies
/-
  The document's arena (lineageref15): what it is; There, Bare, Get.
-/
namespace Go.Proofs.YtbidgpeeogoglaaDoor
set_option maxRecDepth 100000
open Go.RowKit

def flatS (l : List SlotV) : List Value := l.flatMap fun (s : SlotV) => (SlotV.cells s).toList
/-- The document's arena at h is S; all that it has lies from lo on. -/
structure RAt (lo h : Nat) (S : St) (b cap : Nat) (junk : List Value) (vF : Value) (W : World) : Prop where
  head : Blk W h 96 #[.slice (some ⟨b, 0, none⟩) 32 cap, vF, .int .i64 S.writes]
  slots : Blk W b 39 (flatS S.slots ++ junk).toArray
  free : W.ownsRow lo 3 1 vF S.free.length (intVs (natInts S.free))
  len : S.slots.length = 32
  loh : lo ≤ h
  lob : lo ≤ b
  cap : 32 ≤ cap
def IsRef (lo h : Nat) (S : St) (W : World) : Prop := ∃ b cap junk vF, RAt lo h S b cap junk vF W
section
variable {lo h b cap i : Nat} {S : St} {junk : List Value} {vF : Value} {W W' : World}
theorem flatS_len (l : List SlotV) : (flatS l).length = 17 * l.length := flat_len17 l
theorem RAt.kept (r : RAt lo h S b cap junk vF W) {row : Option Nat} (hg : W.grownBy W' row) (hr : ∀ k, row = some k → k < lo) : RAt lo h S b cap junk vF W' :=
  ⟨r.head.grown hg (fun e => by have := hr _ e.symm; have := r.loh; omega), r.slots.grown hg (fun e => by have := hr _ e.symm; have := r.lob; omega),
    r.free.kept hg (by
      rcases Classical.em (vF.ownBlock = none) with e | e
      · exact .inl e
      · refine .inr fun e2 => ?_
        obtain ⟨k, hk⟩ : ∃ k, vF.ownBlock = some k := Option.ne_none_iff_exists'.1 e
        have h1 := (r.free.lt k hk).1
        have h2 := hr k (by rw [← e2, hk])
        omega), r.len, r.loh, r.lob, r.cap⟩
theorem RAt.call (r : RAt lo h S b cap junk vF W) (hb : Below W.heap.size W W') : RAt lo h S b cap junk vF W' := r.kept (grownBy_below hb none) (fun k e => by cases e)
theorem IsRef.call (r : IsRef lo h S W) (hb : Below W.heap.size W W') : IsRef lo h S W' := by obtain ⟨b, c, j, v, r⟩ := r; exact ⟨b, c, j, v, r.call hb⟩
theorem IsRef.kept (r : IsRef lo h S W) {g : Nat} (hg : W.grownBy W' (some g)) (hr : g < lo) : IsRef lo h S W' := by obtain ⟨b, c, j, v, r⟩ := r; exact ⟨b, c, j, v, r.kept hg (fun k e => by cases e; exact hr)⟩
theorem RAt.row (r : RAt lo h S b cap junk vF W) {s : SlotV} (hs : S.slots[i]? = some s) : RowAt W b (i * 17) s.cells :=
  ⟨fun j v hv => by
    have hi := (List.getElem?_eq_some_iff.1 hs).1
    have hj : j < 17 := (Array.getElem?_eq_some_iff.1 hv).1
    rw [r.slots.cell, List.getElem?_toArray, List.getElem?_append_left (by rw [flatS_len]; omega), Nat.mul_comm]
    exact (flat_at17 S.slots i j s hs hj).trans hv⟩
end

/-- Nothing is turned but the blocks x. -/
structure Tn (x : Nat → Prop) (w w' : World) : Prop where
  os : w'.os = w.os
  tape : w'.tape = w.tape
  output : w'.output = w.output
  size : w.heap.size ≤ w'.heap.size
  block : ∀ k, k < w.heap.size → ¬ x k → w'.heap[k]? = w.heap[k]?
section
variable {x y : Nat → Prop} {w w1 w2 : World}
theorem Tn.refl (x : Nat → Prop) (w : World) : Tn x w w := ⟨rfl, rfl, rfl, Nat.le_refl _, fun _ _ _ => rfl⟩
theorem Tn.trans (h1 : Tn x w w1) (h2 : Tn x w1 w2) : Tn x w w2 :=
  ⟨h2.os.trans h1.os, h2.tape.trans h1.tape, h2.output.trans h1.output, Nat.le_trans h1.size h2.size, fun k hk e => (h2.block k (Nat.lt_of_lt_of_le hk h1.size) e).trans (h1.block k hk e)⟩
theorem Tn.ofBelow (x : Nat → Prop) (hb : Below w.heap.size w w1) : Tn x w w1 := ⟨hb.os, hb.tape, hb.output, hb.size, fun k hk _ => hb.block k hk⟩
theorem Tn.call (h1 : Tn x w w1) (hb : Below w1.heap.size w1 w2) : Tn x w w2 := h1.trans (Tn.ofBelow x hb)
theorem Tn.ofGrown {g : Nat} (hg : w.grownBy w1 (some g)) (hx : x g) : Tn x w w1 := ⟨hg.os, hg.tape, hg.output, hg.size, fun k hk e => hg.block k hk (fun e2 => by cases e2; exact e hx)⟩
theorem Tn.grown {g : Nat} (h1 : Tn x w w1) (hg : w1.grownBy w2 (some g)) (hx : x g) : Tn x w w2 := h1.trans (Tn.ofGrown hg hx)
theorem Tn.mono (h : Tn x w w1) (hxy : ∀ k, x k → y k) : Tn y w w1 := ⟨h.os, h.tape, h.output, h.size, fun k hk e => h.block k hk fun hx => e (hxy k hx)⟩
theorem Tn.below {n : Nat} (h : Tn x w w1) (hx : ∀ k, x k → n ≤ k) (hn : n ≤ w.heap.size) : Below n w w1 :=
  ⟨h.os, h.tape, h.output, h.size, fun k hk => h.block k (Nat.lt_of_lt_of_le hk hn) fun e => by have := hx k e; omega⟩
end
section
variable {lo h b cap i : Nat} {S : St} {junk : List Value} {vF : Value} {W W' : World}
theorem RAt.ne (r : RAt lo h S b cap junk vF W) : h ≠ b := fun e => by
  have h1 := r.head.eq
  rw [e, r.slots.eq] at h1
  injection h1 with h1
  injection h1 with _ h1
  exact absurd h1 (by decide)
theorem RAt.fne (r : RAt lo h S b cap junk vF W) : ∀ k, vF.ownBlock = some k → k ≠ h ∧ k ≠ b := fun k hk => by
  rcases r.free.2 with ⟨e, _⟩ | ⟨g, c, cur, e, _, hg, _⟩
  · rw [e] at hk; cases hk
  · rw [e] at hk
    obtain rfl : g = k := by simpa [Value.ownBlock] using hk
    refine ⟨fun e2 => ?_, fun e2 => ?_⟩
    · have h1 := r.head.eq
      rw [← e2, hg] at h1
      injection h1 with h1
      injection h1 with _ h1
      exact absurd h1 (by decide)
    · have h1 := r.slots.eq
      rw [← e2, hg] at h1
      injection h1 with h1
      injection h1 with _ h1
      exact absurd h1 (by decide)
theorem fkept {k : Nat} (hk : W.grownBy W' (some k)) {n : Nat} {xs : List Value} (hf : W.ownsRow lo 3 1 vF n xs) (hne : ∀ j, vF.ownBlock = some j → j ≠ k) : W'.ownsRow lo 3 1 vF n xs := hf.kept hk (by
  rcases Classical.em (vF.ownBlock = none) with e | e
  · exact .inl e
  · exact .inr fun e2 => hne k e2 rfl)
/-- A slot's store. -/
theorem RAt.splice (hl : S.slots.length = 32) (hi : i < 32) (s : SlotV) : Go.Proofs.YtbidgpeeogoglaaDoor.splice (flatS S.slots ++ junk).toArray (i * 17) s.cells = (flatS (S.slots.set i s) ++ junk).toArray := by
  rw [Nat.mul_comm]
  have hl2 := flatS_len S.slots
  rw [hl] at hl2
  have e : s.cells.size = 17 := rfl
  have hf := flat_set17 S.slots i s (by rw [hl]; exact hi)
  unfold Go.Proofs.YtbidgpeeogoglaaDoor.splice
  simp only [e]
  rw [show flatS (S.slots.set i s) = _ from hf.symm, List.take_append_of_le_length (by omega), List.drop_append_of_le_length (by omega)]
  simp [flatS]
theorem RAt.room (r : RAt lo h S b cap junk vF W) (hi : i < 32) (s : SlotV) : i * 17 + s.cells.size ≤ (flatS S.slots ++ junk).toArray.size := by
  have hl2 := flatS_len S.slots
  rw [r.len] at hl2
  have e : s.cells.size = 17 := rfl
  simp only [List.size_toArray, List.length_append, hl2, e]
  omega
theorem RAt.store (r : RAt lo h S b cap junk vF W) (i : Nat) (s : SlotV) : RAt lo h { S with slots := S.slots.set i s } b cap junk vF (W.setRow b (flatS (S.slots.set i s) ++ junk).toArray) :=
  ⟨r.head.setRow_ne r.ne _, r.slots.setRow_same _, fkept (grownBy_setRow W b _) r.free (fun j hj => (r.fne j hj).2), by simp [r.len], r.loh, r.lob, r.cap⟩
theorem RAt.setWrites (r : RAt lo h S b cap junk vF W) (n : Int) : RAt lo h { S with writes := n } b cap junk vF (W.setCell ⟨h, 2, none⟩ (.int .i64 n)) :=
  ⟨by have := r.head.set_ 2 (.int .i64 n); simpa using this, r.slots.far (p := ⟨h, 2, none⟩) (Ne.symm r.ne) _, fkept (grownBy_set W h 2 _) r.free (fun j hj => (r.fne j hj).1), r.len, r.loh, r.lob, r.cap⟩
theorem RAt.setFree (r : RAt lo h S b cap junk vF W) {v' : Value} {L : List Nat} (hr : W.ownsRow lo 3 1 v' L.length (intVs (natInts L))) : RAt lo h { S with free := L } b cap junk v' (W.setCell ⟨h, 1, none⟩ v') := by
  have hne : ∀ j, v'.ownBlock = some j → j ≠ h := fun k hk => by
    rcases hr.2 with ⟨e, _⟩ | ⟨g, c, cur, e, _, hg, _⟩
    · rw [e] at hk; cases hk
    · rw [e] at hk
      obtain rfl : g = k := by simpa [Value.ownBlock] using hk
      intro e2
      have h1 := r.head.eq
      rw [← e2, hg] at h1
      injection h1 with h1
      injection h1 with _ h1
      exact absurd h1 (by decide)
  exact ⟨by have := r.head.set_ 1 v'; simpa using this, r.slots.far (p := ⟨h, 1, none⟩) (Ne.symm r.ne) _, fkept (grownBy_set W h 1 _) hr hne, r.len, r.loh, r.lob, r.cap⟩
end
/-- The document's arena at h, its slots at b. -/
def IsRB (lo h b : Nat) (S : St) (W : World) : Prop := ∃ cap junk vF, RAt lo h S b cap junk vF W
theorem IsRB.call {lo h b : Nat} {S : St} {W W' : World} (r : IsRB lo h b S W) (hb : Below W.heap.size W W') : IsRB lo h b S W' := by obtain ⟨c, j, v, r⟩ := r; exact ⟨c, j, v, r.call hb⟩
theorem IsRB.kept {lo h b : Nat} {S : St} {W W' : World} (r : IsRB lo h b S W) {g : Nat} (hg : W.grownBy W' (some g)) (hr : g < lo) : IsRB lo h b S W' := by obtain ⟨c, j, v, r⟩ := r; exact ⟨c, j, v, r.kept hg (fun k e => by cases e; exact hr)⟩
/-- What a call of the document's arena gives. -/
def RetR (v : Value) (w : World) (lo h b : Nat) (S : St) (e : Ending) (w' : World) : Prop := e = .returned v ∧ IsRB lo h b S w' ∧ Tn (fun k => k = h ∨ k = b) w w'
end Go.Proofs.YtbidgpeeogoglaaDoor
/-
  The document's arena: There, Bare, Get.
-/
namespace Go.Proofs.YtbidgpeeogoglaaDoor
set_option maxRecDepth 100000
open Go.RowKit

theorem refArInfo : (Tryd.prog.info? 96).map (·.size) = some 3 := by kernel_rfl
theorem rthereA_any (i : Int) (w : World) : Calls Tryd.prog 58 #[.int .i64 i] w (RetSame (.bool (inR i)) w) := by
  by_cases h0 : 0 ≤ i
  · by_cases h1 : i < 32
    · have e : inR i = true := by simp [inR, h0, h1]
      rw [e]
      go_enter Tryd.func58, Tryd.ntmps58
      go_wp2
      go_ret
      exact ⟨rfl, rfl⟩
    · have e : inR i = false := by simp [inR, h1]
      rw [e]
      go_enter Tryd.func58, Tryd.ntmps58
      go_wp2
      go_ret
      exact ⟨rfl, rfl⟩
  · have e : inR i = false := by simp [inR, h0]
    rw [e]
    go_enter Tryd.func58, Tryd.ntmps58
    go_wp2
    go_ret
    exact ⟨rfl, rfl⟩
theorem rbare_any (w : World) : Calls Tryd.prog 48 #[] w (RetB (.agg SlotV.bare.cells) w) := by
  have HU := Lib.hid Tryd.underlying39
  go_enter Tryd.func48, Tryd.ntmps48
  go_wp2_with (first
    | (refine wpList_build_as rfl rfl rfl built_bare ?_)
    | (refine wpList_store_new rfl rfl rfl rfl rfl (SlotV.one _) slotInfo ?_))
  exact bodyPost_ret (results_at rfl rfl (Blk.new w 39 SlotV.bare.cells).row HU.out rfl slotInfo) rfl ⟨rfl, (Below.refl _ _).alloc (Nat.le_refl _) _⟩
/-- A slot's zero cells, written out. -/
@[reducible] def zeroL : Array Value := #[.bool false, .bool false, .int .i64 0, .int .i64 0, .int .i64 0, .int .i64 0, .int .i64 0, .int .i64 0, .int .i64 0, .int .i64 0, .string ⟨#[]⟩, .string ⟨#[]⟩, .int .u64 0, .int .i64 0, .int .i64 0, .int .i64 0, .int .i64 0]
/-- The error's number of a place. -/
def noAt (j : Int) : Value := .int .i64 (if inR j = true then 0 else 1)
end Go.Proofs.YtbidgpeeogoglaaDoor
/-
  The document's arena: At, without, Take, Place. 
-/
namespace Go.Proofs.YtbidgpeeogoglaaDoor
set_option maxRecDepth 100000
open Go.RowKit
/-- Where a slot stands among the free ones. -/
def posIn (l : List Nat) (i : Nat) : Int := if i ∈ l then (l.idxOf i : Int) else -1
theorem idx_min : ∀ (l : List Nat) (i k : Nat), l[k]? = some i → l.idxOf i ≤ k
  | [], i, k, h => by simp at h
  | a :: r, i, 0, h => by
    simp at h; subst h; simp
  | a :: r, i, k + 1, h => by
    have := idx_min r i k (by simpa using h)
    rw [List.idxOf_cons]
    cases a == i <;> simp <;> omega
theorem posIn_at {l : List Nat} {i k : Nat} (h : l[k]? = some i) (hn : ∀ j, j < k → l[j]? ≠ some i) : posIn l i = (k : Int) := by
  unfold posIn
  rw [if_pos (List.mem_of_getElem? h)]
  have h1 : l.idxOf i < l.length := List.idxOf_lt_length_of_mem (List.mem_of_getElem? h)
  have h2 : l[l.idxOf i]? = some i := by rw [List.getElem?_eq_getElem h1]; simp
  have h4 := idx_min l i k h
  rcases Nat.lt_or_ge (l.idxOf i) k with h3 | h3
  · exact absurd h2 (hn _ h3)
  · have : l.idxOf i = k := by omega
    rw [this]
theorem posIn_no {l : List Nat} {i : Nat} (h : i ∉ l) : posIn l i = -1 := if_neg h
theorem erase_idx {l : List Nat} {i : Nat} : l.eraseIdx (l.idxOf i) = l.erase i := by
  rw [List.erase_eq_eraseIdx_of_idxOf (by rfl)]

theorem erase_take {l : List Nat} {i k x : Nat} (hx : l[i]? = some x) : (l.take (i + 1)).eraseIdx k = if i = k then (l.take i).eraseIdx k else (l.take i).eraseIdx k ++ [x] := by
  have hlt := (List.getElem?_eq_some_iff.1 hx).1
  have ht : l.take (i + 1) = l.take i ++ [x] := by rw [List.take_add_one, hx]; rfl
  have hli : (l.take i).length = i := by rw [List.length_take]; omega
  rw [ht]
  rcases Nat.lt_trichotomy i k with h | h | h
  · rw [if_neg (by omega), List.eraseIdx_of_length_le (by simp [hli]; omega), List.eraseIdx_of_length_le (by omega)]
  · subst h
    rw [if_pos rfl, List.eraseIdx_append_of_length_le (by omega), hli, Nat.sub_self, List.eraseIdx_of_length_le (l := l.take i) (by omega)]
    simp
  · rw [if_neg (by omega), List.eraseIdx_append_of_lt_length (by omega)]
section
variable {lo h b cap : Nat} {S : St} {junk : List Value} {vF : Value} {W : World}
/-- What the head and the row of the free ones hold. -/
theorem RAt.view (r : RAt lo h S b cap junk vF W) : ∃ A c, vF = .slice A S.free.length c ∧ IntsAt W A (natInts S.free) ∧ W.cell? ⟨h, 0, none⟩ = some (.slice (some ⟨b, 0, none⟩) 32 cap) ∧ W.cell? ⟨h, 1, none⟩ = some (.slice A S.free.length c) ∧ W.cell? ⟨h, 2, none⟩ = some (.int .i64 S.writes) := by
  obtain ⟨A, c, e, hi⟩ := owns_intsAt r.free
  have c0 := r.head.cell 0
  have c1 := r.head.cell 1
  have c2 := r.head.cell 2
  rw [e] at c1
  exact ⟨A, c, e, hi, c0, c1, c2⟩
end
set_option maxHeartbeats 2000000 in
theorem rat_any {lo h b : Nat} {S : St} (i : Nat) (w : World) (r : IsRB lo h b S w) (hl : S.free.length ≤ 32) : Calls Tryd.prog 115 #[.pointer (some ⟨h, 0, none⟩), .int .i64 i] w (RetSame (.int .i64 (posIn S.free i)) w) := by
  obtain ⟨cap, junk, vF, r⟩ := r
  obtain ⟨A, c, _, hi, _, c1, _⟩ := r.view
  obtain ⟨L, hL⟩ : ∃ L, S.free = L := ⟨_, rfl⟩
  rw [hL] at hi c1 hl ⊢
  obtain ⟨n, hn⟩ : ∃ n, L.length = n := ⟨_, rfl⟩
  have HN := Lib.hid hn
  rw [hn] at c1 hl
  have HI := Lib.hid hi
  clear r hi hL hn
  go_enter Tryd.func115, Tryd.ntmps115
  go_wp2
  go_loopw [5] (fun v wr => ∃ k : Nat, k ≤ n ∧ v = .int .i64 k ∧ wr = w ∧ ∀ j, j < k → L[j]? ≠ some i) (fun v _ => n - (intOf v).toNat)
  case atStart => exact ⟨0, Nat.zero_le _, rfl, rfl, fun j hj => absurd hj (Nat.not_lt_zero _)⟩
  case round =>
    obtain ⟨k, hk, rfl, rfl, hno⟩ := hrel
    have HNO := Lib.hid hno
    by_cases hlt : k < n
    · have hki : (k : Int) < (n : Int) := by omega
      obtain ⟨x, hx⟩ : ∃ x, L[k]? = some x := ⟨_, List.getElem?_eq_getElem (by rw [HN.out]; exact hlt)⟩
      obtain ⟨b1, o1, rfl, g1, r1⟩ := HI.out (by rw [natInts_len, HN.out]; omega)
      have d1 := r1 k (x : Int) (by simp [natInts, hx])
      have HX := Lib.hid hx
      clear r1 hx hno
      by_cases he : x = i
      · subst he
        have hpos := posIn_at HX.out HNO.out
        rw [hpos]
        clear hpos
        go_wp2
        go_ret
        exact ⟨rfl, rfl⟩
      · have hei : ((x : Int) == (i : Int)) = false := by simp; omega
        go_wp2
        go_roundw
        case rel => exact ⟨k + 1, by omega, by go_num, by trivial, fun j hj => by
          rcases Nat.lt_or_ge j k with h1 | h1
          · exact HNO.out j h1
          · obtain rfl : j = k := by omega
            rw [HX.out]; intro e; injection e with e; exact he e⟩
        case measure => simp [intOf]; omega
    · obtain rfl : k = n := by omega
      have hni : i ∉ L := fun hm => by
        obtain ⟨j, hj⟩ := List.getElem?_of_mem hm
        have := (List.getElem?_eq_some_iff.1 hj).1
        exact HNO.out j (by rw [← HN.out]; exact this) hj
      have hpn := posIn_no hni
      clear hni hno
      go_wp2
      go_ret
      exact ⟨by rw [hpn]; rfl, rfl⟩
end Go.Proofs.YtbidgpeeogoglaaDoor
/-
  The document's arena: without, Take, Place.
-/
namespace Go.Proofs.YtbidgpeeogoglaaDoor
set_option maxRecDepth 100000
open Go.RowKit

set_option maxHeartbeats 2000000 in
theorem rwithout_any {lo h b : Nat} {S : St} (i : Nat) (w : World) (r : IsRB lo h b S w) (hl : S.free.length ≤ 32) (hlo : lo ≤ w.heap.size) : Calls Tryd.prog 67 #[.pointer (some ⟨h, 0, none⟩), .int .i64 i] w (RetR (.tuple #[]) w lo h b { S with free := S.free.eraseIdx i }) := by
  obtain ⟨ii, iz, hi0, hz0, hz1, hz2, hz3⟩ := intInfo
  obtain ⟨cap, junk, vF, r⟩ := r
  obtain ⟨A, c, _, hi, _, c1, _⟩ := r.view
  obtain ⟨L, hL⟩ : ∃ L, S.free = L := ⟨_, rfl⟩
  have HLL := Lib.hid hL
  rw [hL] at hi c1 hl ⊢
  obtain ⟨n, hn⟩ : ∃ n, L.length = n := ⟨_, rfl⟩
  have HN := Lib.hid hn
  rw [hn] at c1 hl
  have HI := Lib.hid hi
  have HR := Lib.hid r
  have hhl := r.head.lt
  clear r hi hL hn
  go_enter Tryd.func67, Tryd.ntmps67
  go_wp2
  go_loopw [4, 5] (fun v j wr => ∃ k : Nat, k ≤ n ∧ j = .int .i64 k ∧ wr.ownsRow w.heap.size 3 1 v ((L.take k).eraseIdx i).length (intVs (natInts ((L.take k).eraseIdx i))) ∧ Below w.heap.size w wr) (fun _ j _ => n - (intOf j).toNat)
  case atStart => exact ⟨0, Nat.zero_le _, rfl, by rw [show (L.take 0).eraseIdx i = [] from by simp]; exact World.ownsRow_nil _ _ _ _, Below.refl _ _⟩
  case round =>
    obtain ⟨k, hk, rfl, hown, hbel⟩ := hrel
    have HB := Lib.hid hbel
    have hk1 := (hbel.cell (p := ⟨h, 1, none⟩) hhl).trans c1
    by_cases hlt : k < n
    · have hki : (k : Int) < (n : Int) := by omega
      obtain ⟨x, hx⟩ : ∃ x, L[k]? = some x := ⟨_, List.getElem?_eq_getElem (by rw [HN.out]; exact hlt)⟩
      have hst := erase_take (k := i) hx
      have hlen : ((L.take k).eraseIdx i).length ≤ k := Nat.le_trans (List.length_eraseIdx_le _ _) (by rw [List.length_take]; omega)
      obtain ⟨b1, o1, rfl, g1, r1⟩ := (HI.out.below hbel (Nat.le_refl _)) (by rw [natInts_len, HN.out]; omega)
      have d1 := r1 k (x : Int) (by simp [natInts, hx])
      obtain ⟨E, hE⟩ : ∃ E, (L.take k).eraseIdx i = E := ⟨_, rfl⟩
      rw [hE] at hown hst hlen
      have HO := Lib.hid hown
      have HST := Lib.hid hst
      obtain ⟨Ar, cp, rfl⟩ := owns_slice hown
      clear r1 hx hbel hE hst hown
      by_cases he : k = i
      · subst he
        have hEE := HST.out
        rw [if_pos rfl] at hEE
        have HEE := Lib.hid hEE
        clear hEE HST
        go_wp2
        go_roundw
        case rel => exact ⟨k + 1, by omega, by go_num, by rw [HEE.out]; exact HO.out, HB.out⟩
        case measure => simp [intOf]; omega
      · have hEE := HST.out
        rw [if_neg he] at hEE
        have HEE := Lib.hid hEE
        have hei : ((k : Int) == (i : Int)) = false := by simp; omega
        have h1 : E.length + 1 ≤ maxLen := by unfold maxLen; omega
        have h2 : (E.length + 1) * 8 ≤ 140737488355328 := by omega
        have H1 := Lib.hid h1
        have H2 := Lib.hid h2
        have hs := HB.out.size
        clear hEE HST h1 h2
        go_wp2_with (at_builtin; refine wpList_append_one (v := .slice Ar E.length cp) rfl _ _ 46 rfl Tryd.underlying46 hi0 hz0 hz1 hz2 hz3 (by decide) rfl HO.out rfl rfl (int_one _) H1.out H2.out hs ?_; intro g' cap' w11 hown1 hgr1)
        have hbk := bel_grown HB.out hgr1 HO.out (Nat.le_refl _) hs
        clear hgr1
        go_roundw
        case rel => exact ⟨k + 1, by omega, by go_num, by rw [HEE.out, natInts_snoc, List.length_append]; exact hown1, hbk⟩
        case measure => simp [intOf]; omega
    · obtain rfl : k = n := by omega
      have htk : L.take k = L := by rw [List.take_of_length_le (by rw [HN.out]; exact Nat.le_refl _)]
      rw [htk] at hown
      obtain ⟨Ar, cp, rfl⟩ := owns_slice hown
      have hr2 := (HR.out.call hbel).setFree (owns_lower hown hlo)
      have hf := (HR.out.call hbel).head.frozen 1
      have HR2 := Lib.hid hr2
      have HT := Lib.hid (fun v => (Tn.ofBelow (fun k => k = h ∨ k = b) hbel).grown (grownBy_set wr h 1 v) (.inl rfl))
      have c1' := ((HR.out.call hbel).head.cell 1)
      clear hown hbel htk hr2 HI HN c1
      go_wp2
      first | go_end0 | refine bodyPost_end (v := .tuple #[]) (results_none rfl _ _ _) rfl ?_
      exact ⟨rfl, ⟨_, _, _, HR2.out⟩, HT.out _⟩

set_option maxHeartbeats 2000000 in
theorem rtake_none {lo h b : Nat} {S : St} (w : World) (r : IsRB lo h b S w) (he : S.free = []) : Calls Tryd.prog 34 #[.pointer (some ⟨h, 0, none⟩)] w (RetSame (.tuple #[.int .i64 0, .int .i64 19]) w) := by
  obtain ⟨cap, junk, vF, r⟩ := r
  obtain ⟨A, c, _, _, _, c1, _⟩ := r.view
  rw [he] at c1
  simp only [List.length_nil] at c1
  clear r he
  go_enter Tryd.func34, Tryd.ntmps34
  go_wp2
  go_ret2
  exact ⟨rfl, rfl⟩
set_option maxHeartbeats 2000000 in
theorem rtake_some {lo h b i : Nat} {S : St} {L : List Nat} (w : World) (r : IsRB lo h b S w) (he : S.free = i :: L) (hl : S.free.length ≤ 32) (hlo : lo ≤ w.heap.size) : Calls Tryd.prog 34 #[.pointer (some ⟨h, 0, none⟩)] w (RetR (.tuple #[.int .i64 i, .int .i64 0]) w lo h b S.take) := by
  have HW := Lib.hid (rwithout_any 0 w r hl hlo)
  have hst : ({ S with free := S.free.eraseIdx 0 } : St) = S.take := by unfold St.take; rw [he]; rfl
  rw [hst] at HW
  obtain ⟨cap, junk, vF, r⟩ := r
  obtain ⟨A, c, _, hi, _, c1, _⟩ := r.view
  rw [he] at hi
  obtain ⟨b1, o1, rfl, g1, r1⟩ := hi (by simp [natInts])
  have d1 := r1 0 (i : Int) (by simp [natInts])
  have hn0 : ((S.free.length : Int) == 0) = false := by rw [he]; simp only [List.length_cons]; exact beq_false_of_ne (by omega)
  have hn1 : (0 : Int) < (S.free.length : Int) := by rw [he]; simp only [List.length_cons]; omega
  obtain ⟨n, hn⟩ : ∃ n, S.free.length = n := ⟨_, rfl⟩
  rw [hn] at c1 hn0 hn1
  simp only [Nat.add_zero] at d1
  clear r he hl hlo hi r1 hst hn
  go_enter Tryd.func34, Tryd.ntmps34
  go_wp2_with (go_at_call 67; fail)
  refine HW.out.mono ?_
  rintro e w1 ⟨rfl, h1, h2⟩
  have H1 := Lib.hid h1
  have H2 := Lib.hid h2
  clear h1 h2 HW c1 d1
  go_wp2
  go_ret2
  exact ⟨rfl, H1.out, H2.out⟩
theorem drop_idx {S : St} (i : Nat) : ({ S with free := S.free.eraseIdx (S.free.idxOf i) } : St) = S.drop i := by unfold St.drop; rw [erase_idx]
end Go.Proofs.YtbidgpeeogoglaaDoor
/-
  The document's arena: Put, Give.
-/
namespace Go.Proofs.YtbidgpeeogoglaaDoor
set_option maxRecDepth 100000
open Go.RowKit Go.Sort

set_option maxHeartbeats 2000000 in
theorem rput_out (i : Int) (p : Option Addr) (s : SlotV) (w : World) (hi : inR i = false) : Calls Tryd.prog 52 #[.pointer p, .int .i64 i, .agg s.cells] w (RetB (.int .i64 1) w) := by
  have HT := Lib.hid (fun w => rthereA_any i w)
  rw [hi] at HT
  clear hi
  go_enter Tryd.func52, Tryd.ntmps52
  go_wp2_with (first
    | (go_at_call 58; refine (HT.out _).mono ?_; rintro e w' ⟨rfl, rfl⟩))
  go_ret
  exact ⟨rfl, (Below.refl _ _).alloc (Nat.le_refl _) _⟩
set_option maxHeartbeats 4000000 in
theorem rput_in {lo h b i : Nat} {S : St} (hi : i < 32) (s : SlotV) (w : World) (r : IsRB lo h b S w) (hw0 : 0 ≤ S.writes) (hw1 : S.writes < 1000000000) :
    Calls Tryd.prog 52 #[.pointer (some ⟨h, 0, none⟩), .int .i64 i, .agg s.cells] w (RetR (.int .i64 0) w lo h b (S.put i s)) := by
  have HT := Lib.hid (fun w => rthereA_any (i : Int) w)
  rw [show inR (i : Int) = true by simp [inR]; omega] at HT
  obtain ⟨cap, junk, vF, r⟩ := r
  have hlt := r.head.lt
  have r1 := r.call ((Below.refl _ _).alloc (Nat.le_refl _) (.cells s.cells 39))
  have c0 := r1.head.cell 0
  simp only [List.getElem?_toArray, List.getElem?_cons_zero] at c0
  have HB := Lib.hid r1
  have hi1 : (i : Int) < 32 := by omega
  have hi0 : (0 : Int) ≤ (i : Int) := by omega
  have HU := Lib.hid Tryd.underlying39
  have HR := Lib.hid ((Blk.new w 39 s.cells).row.class_ (by simp))
  have d0 := cell_regrown c0
  clear r r1
  go_enter Tryd.func52, Tryd.ntmps52
  go_wp2_with (first
    | (go_at_call 58; refine (HT.out _).mono ?_; rintro e w' ⟨rfl, rfl⟩))
  refine wp_region_quiet_tail_below 7 (by kernel_rfl) (by kernel_rfl) ?_
  simp only [List.take_succ_cons, List.take_zero, List.drop_succ_cons, List.drop_zero]
  repeat (first
    | go_big_quiet_skip
    | (refine wpQuiet_load_at rfl rfl rfl HR.out HU.out rfl slotInfo ?_; simp only [Act.put, List.setIfInBounds_toArray, List.set_cons_zero, List.set_cons_succ])
    | (go_big_quiet_want; go_big_quiet_op; first | go_big_quiet_on))
  refine wpQuiet_nil ?_
  intro v0 hC
  have hb := below_class hC
  have b0 := HB.out.call hb
  refine wpList_store_at rfl rfl rfl rfl b0.slots (b0.room hi s) (SlotV.one _) slotInfo ?_
  rw [RAt.splice b0.len hi s]
  have b1 := b0.store i s
  have c2 := b1.head.cell 2
  have f2 := b1.head.frozen 2
  simp only [List.getElem?_toArray, List.getElem?_cons_zero, List.getElem?_cons_succ] at c2
  have hwr : IntKind.i64.wrap (S.writes + 1) = S.writes + 1 := IntWalk.i64_in _ (by omega)
  have R2 := Lib.hid (b1.setWrites (S.writes + 1))
  have T2 := Lib.hid ((((Tn.ofBelow (fun k => k = h ∨ k = b) (((Below.refl w.heap.size w).alloc (Nat.le_refl _) (.cells s.cells 39)).trans (hb.mono (by simp)))).grown (grownBy_setRow v0 b (flatS (S.slots.set i s) ++ junk).toArray) (.inr rfl))).grown (grownBy_set _ h 2 (.int .i64 (S.writes + 1))) (.inl rfl))
  clear hb b0 b1 hC HB HR HT c0 d0
  go_wp2
  go_ret
  exact ⟨rfl, ⟨_, _, _, R2.out⟩, T2.out⟩

/-! ### Give -/
theorem run_append_empty {P : Program} (w : World) (t ty e : TypeId) (i : TypeInfo) (ht : P.underlying t = some (.slice e)) (hi : P.info? e = some i) (A : Option Addr) (n cap c : Nat) (h : n ≤ cap) :
    (Builtin.append_ #[t, t] ty #[.slice A n cap, .slice none 0 c]).run P w = .ok (.slice A n cap) w := by
  cases A <;> simp [Builtin.append_, run_underlying ht, sizeOf, typeInfo, hi, Builtin.lenOf, h, run_firstCells_none, storeCells]
/-- 'append(l, x...)' of two lists of ints, the first one's own. -/
theorem run_append_intsAt (ty : TypeId) (w : World) {base n1 : Nat} {v : Value} {L1 : List Int} (hown : w.ownsRow base 3 1 v n1 (intVs L1)) (A : Option Addr) (c : Nat) (L2 : List Int) (hin : IntsAt w A L2) (hsum : n1 + L2.length ≤ 1000000) (hbase : base ≤ w.heap.size) :
    ∃ v' w', (Builtin.append_ #[46, 46] ty #[v, .slice A L2.length c]).run Tryd.prog w = .ok v' w' ∧ w'.ownsRow base 3 1 v' (n1 + L2.length) (intVs (L1 ++ L2)) ∧ w.grownBy w' v.ownBlock := by
  obtain ⟨ii, iz, hi, hz0, hz1, hz2, hz3⟩ := intInfo
  have main : ∀ a : Addr, (∀ j u, (intVs L2)[j]? = some u → w.cell? (a.add j) = some u) → ∃ v' w', (Builtin.append_ #[46, 46] ty #[v, .slice (some a) L2.length c]).run Tryd.prog w = .ok v' w' ∧ w'.ownsRow base 3 1 v' (n1 + L2.length) (intVs (L1 ++ L2)) ∧ w.grownBy w' v.ownBlock := fun a ha => by
    obtain ⟨v', w', h1, h2, h3, _⟩ := run_append_own (P := Tryd.prog) w base 46 ty 3 ii iz 1 8 Tryd.underlying46 hi hz0 hz1 hz2 hz3 (by decide) v n1 (intVs L1) hown a L2.length c (intVs L2) (by simp [intVs]) ha
      (fun u hu => by simp only [intVs, List.mem_map] at hu; obtain ⟨x, _, rfl⟩ := hu; rfl) (by unfold maxLen; omega) (by omega) hbase
    exact ⟨v', w', h1, by rw [intVs_app]; exact h2, h3⟩
  rcases L2 with _ | ⟨x, L2⟩
  · cases A with
    | none =>
      obtain ⟨p, cap, rfl⟩ := owns_slice hown
      have hc : n1 ≤ cap := by
        rcases hown.2 with ⟨e, e2⟩ | ⟨g, cap', cur, e, _, _, h, _⟩
        · injection e with _ e3 e4; omega
        · injection e with _ _ e4; omega
      exact ⟨_, w, run_append_empty w 46 ty 3 ii Tryd.underlying46 hi p n1 cap c hc, by simpa using hown, ⟨rfl, rfl, rfl, Nat.le_refl _, fun _ _ _ => rfl⟩⟩
    | some a => exact main a (fun j u hu => by simp [intVs] at hu)
  · obtain ⟨b, off, rfl, hb, hc⟩ := hin (by simp)
    refine main ⟨b, off, none⟩ fun j u hu => ?_
    rw [Addr.add_lit]
    simp only [intVs, List.getElem?_map, Option.map_eq_some_iff] at hu
    obtain ⟨y, hy, rfl⟩ := hu
    exact hc j y hy
section
variable {P : Program} {ops : Array Oper} {rest : List Oper} {o : Oper} {a : Act} {w : World} {Q : Exit → Act → World → Prop}
/-- 'append', by a run that is known. -/
theorem wpList_append_run (hgd : o.guard = none) {sl x : Operand} {t u : TypeId} (ho : o.op = .call { callee := .builtin .append, args := #[sl, x], argTypes := #[t, u] }) {v y v' : Value} {w' : World} (hs : a.eval sl = v) (hx : a.eval x = y)
    (hr : (Builtin.append_ #[t, u] o.type #[v, y]).run P w = .ok v' w') (h : wpList P ops Q rest (a.put o.dst v') w') : wpList P ops Q (o :: rest) a w := by
  refine wpList_plain hgd fun K hK => ?_
  unfold Oper.wp execOp
  simp only [ho, resolve, invoke, builtin, Sem.run_bind, Sem.run_pure, Result.andThen_ok, List.map_toArray, List.map_cons, List.map_nil, hs, hx, hr]
  exact hK _ _ h
end
theorem ownsOne (w : World) (i : Int) : (w.alloc (.cells #[.int .i64 i] 3)).ownsRow w.heap.size 3 1 (.slice (some ⟨w.heap.size, 0, none⟩) 1 1) 1 (intVs [i]) :=
  ⟨rfl, .inr ⟨w.heap.size, 1, #[.int .i64 i], rfl, Nat.le_refl _, heap_alloc_new w _, Nat.le_refl _, by unfold maxLen; omega, rfl, rfl⟩⟩
set_option maxHeartbeats 2000000 in
theorem rgive_out (i : Int) (p : Option Addr) (w : World) (hi : inR i = false) : Calls Tryd.prog 99 #[.pointer p, .int .i64 i] w (RetSame (.int .i64 1) w) := by
  have HT := Lib.hid (fun w => rthereA_any i w)
  rw [hi] at HT
  clear hi
  go_enter Tryd.func99, Tryd.ntmps99
  go_wp2_with (first
    | (go_at_call 58; refine (HT.out _).mono ?_; rintro e w' ⟨rfl, rfl⟩))
  go_ret
  exact ⟨rfl, rfl⟩
set_option maxHeartbeats 2000000 in
theorem rgive_no {lo h b i : Nat} {S : St} (w : World) (r : IsRB lo h b S w) (hi32 : i < 32) (hm : i ∈ S.free) (hl : S.free.length ≤ 32) : Calls Tryd.prog 99 #[.pointer (some ⟨h, 0, none⟩), .int .i64 i] w (RetSame (.int .i64 9) w) := by
  have HA := Lib.hid (rat_any i w r hl)
  rw [show posIn S.free i = (S.free.idxOf i : Int) from if_pos hm] at HA
  have HT := Lib.hid (rthereA_any (i : Int) w)
  rw [show inR (i : Int) = true by simp [inR]; omega] at HT
  obtain ⟨k, hk⟩ : ∃ k, S.free.idxOf i = k := ⟨_, rfl⟩
  rw [hk] at HA
  have hk0 : (0 : Int) ≤ (k : Int) := by omega
  clear hm hl hk r
  go_enter Tryd.func99, Tryd.ntmps99
  go_wp2_with (first
    | (go_at_call 58; refine HT.out.mono ?_; rintro e w' ⟨rfl, rfl⟩)
    | (go_at_call 115; refine HA.out.mono ?_; rintro e w' ⟨rfl, rfl⟩))
  go_ret
  exact ⟨rfl, rfl⟩
set_option maxHeartbeats 4000000 in
theorem rgive_in {lo h b i : Nat} {S : St} (w : World) (r : IsRB lo h b S w) (hi32 : i < 32) (hm : i ∉ S.free) (hl : S.free.length ≤ 32) (hlo : lo ≤ w.heap.size) (hw0 : 0 ≤ S.writes) (hw1 : S.writes < 1000000000) :
    Calls Tryd.prog 99 #[.pointer (some ⟨h, 0, none⟩), .int .i64 i] w (RetR (.int .i64 0) w lo h b (S.give i)) := by
  have HA := Lib.hid (rat_any i w r hl)
  rw [posIn_no hm] at HA
  have HT := Lib.hid (rthereA_any (i : Int) w)
  rw [show inR (i : Int) = true by simp [inR]; omega] at HT
  have HBA := Lib.hid rbare_any
  obtain ⟨cap, junk, vF, r⟩ := r
  have hlt := r.head.lt
  have hfne := r.fne
  have r1 := r.call ((Below.refl _ _).alloc (Nat.le_refl _) (.cells #[.int .i64 i] 3))
  obtain ⟨A, c, e, hi, _, c1, _⟩ := r1.view
  have hfr1 := r1.head.frozen 1
  have hlf : (natInts S.free).length = S.free.length := natInts_len _
  obtain ⟨v', w2, hrun, ho2, hg2⟩ := run_append_intsAt 46 (w.alloc (.cells #[.int .i64 i] 3)) (ownsOne w i) A c (natInts S.free) hi (by rw [hlf]; omega) (by simp)
  rw [hlf] at hrun ho2
  obtain ⟨p', cap', rfl⟩ := owns_slice ho2
  have hg2' : (w.alloc (.cells #[.int .i64 i] 3)).grownBy w2 (some w.heap.size) := hg2
  have hsz2 : w.heap.size < w2.heap.size := by have := hg2'.size; rw [World.size_alloc] at this; omega
  have r2 : RAt lo h S b cap junk vF w2 :=
    ⟨r1.head.grown hg2' (by simp; omega), r1.slots.grown hg2' (by have := r.slots.lt; simp; omega), fkept hg2' r1.free (fun j hj => by have := (r.free.lt j hj).2; omega), r1.len, r1.loh, r1.lob, r1.cap⟩
  have hT2 : Tn (fun k => k = h ∨ k = b) w w2 := Tn.ofBelow _ (((Below.refl _ _).alloc (Nat.le_refl _) _).grown hg2' (by simp) (fun k e => by cases e; exact Nat.le_refl _))
  have hc1 := (r2.head.cell 1)
  have hfr2 := r2.head.frozen 1
  have ho3 : w2.ownsRow lo 3 1 (.slice p' (1 + S.free.length) cap') (i :: S.free).length (intVs (natInts (i :: S.free))) := by
    have := owns_lower ho2 hlo
    rw [show (i :: S.free).length = 1 + S.free.length by simp; omega]
    exact this
  have r3 := r2.setFree ho3
  have hT3 := hT2.grown (grownBy_set w2 h 1 (.slice p' (1 + S.free.length) cap')) (.inl rfl)
  obtain ⟨w3, hw3⟩ : ∃ w3, w2.setCell ⟨h, 1, none⟩ (.slice p' (1 + S.free.length) cap') = w3 := ⟨_, rfl⟩
  rw [hw3] at r3 hT3
  obtain ⟨n, hn⟩ : ∃ n, S.free.length = n := ⟨_, rfl⟩
  rw [hn] at hrun c1 hw3
  have HRUN := Lib.hid hrun
  have R3 := Lib.hid r3
  have T3 := Lib.hid hT3
  have W3 := Lib.hid hw3
  have c30 := r3.head.cell 0
  simp only [List.getElem?_toArray, List.getElem?_cons_zero] at c30
  have d30 := cell_regrown c30
  have hi1 : (i : Int) < 32 := by omega
  have hi0 : (0 : Int) ≤ (i : Int) := by omega
  clear r r1 r2 r3 hT2 hT3 ho2 ho3 hg2 hg2' hrun hi e hfne hw3 hm hl c30
  go_enter Tryd.func99, Tryd.ntmps99
  go_wp2_with (first
    | (go_at_call 58; refine HT.out.mono ?_; rintro e w' ⟨rfl, rfl⟩)
    | (go_at_call 115; refine HA.out.mono ?_; rintro e w' ⟨rfl, rfl⟩)
    | (at_builtin; refine wpList_append_run rfl rfl rfl rfl HRUN.out ?_))
  rw [W3.out]
  refine wp_region_quiet_tail_below 7 (by kernel_rfl) (by kernel_rfl) ?_
  simp only [List.take_succ_cons, List.take_zero, List.drop_succ_cons, List.drop_zero]
  repeat (first
    | go_big_quiet_skip
    | (go_big_quiet_want; go_big_quiet_op; first | go_big_quiet_on | go_big_quiet_call (exact quiet_of HBA.out _ _ _)))
  refine wpQuiet_nil ?_
  intro v0 hC
  have hb := below_class hC
  have b0 := R3.out.call hb
  refine wpList_store_at rfl rfl rfl rfl b0.slots (b0.room hi32 SlotV.bare) (SlotV.one _) slotInfo ?_
  rw [RAt.splice b0.len hi32 SlotV.bare]
  have b1 := b0.store i SlotV.bare
  have c2 := b1.head.cell 2
  have f2 := b1.head.frozen 2
  simp only [List.getElem?_toArray, List.getElem?_cons_zero, List.getElem?_cons_succ] at c2
  have hwr : IntKind.i64.wrap (S.writes + 1) = S.writes + 1 := IntWalk.i64_in _ (by omega)
  have R4 := Lib.hid (b1.setWrites (S.writes + 1))
  have T4 := Lib.hid (((T3.out.trans (Tn.ofBelow _ hb)).grown (grownBy_setRow v0 b (flatS (S.slots.set i SlotV.bare) ++ junk).toArray) (.inr rfl)).grown (grownBy_set _ h 2 (.int .i64 (S.writes + 1))) (.inl rfl))
  clear hb b0 b1 hC R3 T3 HT HA HBA d30 W3 HRUN
  go_wp2
  go_ret
  exact ⟨rfl, ⟨_, _, _, R4.out⟩, T4.out⟩
end Go.Proofs.YtbidgpeeogoglaaDoor
/-
  The document's arena: New.
-/
namespace Go.Proofs.YtbidgpeeogoglaaDoor
set_option maxRecDepth 100000
open Go.RowKit Go.Sort

/-- An append at a step of a region that draws its order, under a guard. -/
theorem step_append_wanted {P : Program} {w : World} {ops : Array Oper} {o : Oper} {a : Act} {K : Act → World → Prop} {Q : Exit → Act → World → Prop} {E : Prop} (hw : Region.wanted o (yielded ops a.tmps) = true) (s x : Operand) (t : TypeId)
    (ho : o.op = .call { callee := .builtin .append, args := #[s, x], argTypes := #[t, t] })
    (base : Nat) (e : TypeId) (i : TypeInfo) (z : Value) (size bytes : Nat) (ht : P.underlying t = some (.slice e)) (hi : P.info? e = some i) (hz : i.zero = some z)
    (hsize : i.size = size) (hby : i.bytes = bytes) (hzs : z.cells.size = size) (hsz : 0 < size)
    (v : Value) (n : Nat) (xs : List Value) (hs : a.eval s = v) (hown : w.ownsRow base e size v n xs)
    (ad : Addr) (m c : Nat) (news : List Value) (hx : a.eval x = .slice (some ad) m c) (hl : news.length = m * size) (hnews : ∀ j u, news[j]? = some u → w.cell? (ad.add j) = some u) (h1 : ∀ u ∈ news, u.oneCell' = true)
    (hm : 0 < m) (h63 : n + m ≤ maxLen) (hbytes : (n + m) * bytes ≤ 140737488355328) (hbase : base ≤ w.heap.size)
    (h : ∀ g cap w', w'.ownsRow base e size (.slice (some ⟨g, 0, none⟩) (n + m) cap) (n + m) (xs ++ news) → w.grownBy w' v.ownBlock → K (a.put o.dst (.slice (some ⟨g, 0, none⟩) (n + m) cap)) w') :
    if Region.wanted o (yielded ops a.tmps) = true then Oper.wp P o a w K Q else E := by
  rw [if_pos hw]
  exact wp_append_lies w s x t ho base e i z size bytes ht hi hz hsize hby hzs hsz v n xs hs hown ad m c news hx hl hnews h1 hm h63 hbytes hbase _ rfl (fun g cap w' h2 h3 _ _ => h g cap w' h2 h3)
/-- Between two rounds of New: k slots, k free ones. -/
structure NewK (w : World) (vS vF : Value) (k : Nat) (W : World) : Prop where
  head : Blk W w.heap.size 96 #[vS, vF, .int .i64 0]
  slots : W.ownsRow (w.heap.size + 1) 39 17 vS k (flatS (List.replicate k SlotV.bare))
  free : W.ownsRow (w.heap.size + 1) 3 1 vF k (intVs (natInts (List.range k)))
  bel : Below w.heap.size w W
  size : w.heap.size + 1 ≤ W.heap.size
/-- The slots have one more than the free ones. -/
structure NewM (w : World) (vS vF : Value) (k : Nat) (W : World) : Prop where
  head : Blk W w.heap.size 96 #[vS, vF, .int .i64 0]
  slots : W.ownsRow (w.heap.size + 1) 39 17 vS (k + 1) (flatS (List.replicate (k + 1) SlotV.bare))
  free : W.ownsRow (w.heap.size + 1) 3 1 vF k (intVs (natInts (List.range k)))
  bel : Below w.heap.size w W
  size : w.heap.size + 1 ≤ W.heap.size
theorem own_types {W : World} {b1 b2 n1 n2 z1 z2 : Nat} {e1 e2 : TypeId} {v1 v2 : Value} {x1 x2 : List Value} (h1 : W.ownsRow b1 e1 z1 v1 n1 x1) (h2 : W.ownsRow b2 e2 z2 v2 n2 x2) (hne : e1 ≠ e2) : v2.ownBlock = none ∨ v2.ownBlock ≠ v1.ownBlock := by
  rcases h2.2 with ⟨e, _⟩ | ⟨g, c, cur, e, _, hg, _⟩
  · exact .inl (by rw [e]; rfl)
  · refine .inr fun ee => ?_
    rcases h1.2 with ⟨f, _⟩ | ⟨g', c', cur', f, _, hg', _⟩
    · rw [e, f] at ee; cases ee
    · rw [e, f] at ee
      obtain rfl : g = g' := by simpa [Value.ownBlock] using ee
      rw [hg] at hg'
      injection hg' with hg'
      injection hg' with _ hh
      exact hne hh.symm
theorem bare_snoc (k : Nat) : flatS (List.replicate (k + 1) SlotV.bare) = flatS (List.replicate k SlotV.bare) ++ SlotV.bare.cells.toList := by
  rw [List.replicate_succ']; simp [flatS]
section
variable {w W w' ww : World} {vS vF v2 : Value} {k gg cap : Nat}
theorem own_setHead {W : World} {base b0 : Nat} {e : TypeId} {z n : Nat} {v : Value} {xs : List Value} (h : W.ownsRow base e z v n xs) (hb : b0 < base) (o : Nat) (u : Value) : (W.setCell ⟨b0, o, none⟩ u).ownsRow base e z v n xs :=
  h.kept (grownBy_set W b0 o u) (by
    rcases Classical.em (v.ownBlock = none) with e | e
    · exact .inl e
    · refine .inr fun e2 => ?_
      have := (h.lt b0 e2).1
      omega)
theorem NewK.slot (h : NewK w vS vF k W) {o : Obj} (hb : Below W.drew.heap.size W.drew w') (hown : ww.ownsRow (w.heap.size + 1) 39 17 (.slice (some ⟨gg, 0, none⟩) (k + 1) cap) (k + 1) (flatS (List.replicate k SlotV.bare) ++ SlotV.bare.cells.toList)) (hg : (w'.alloc o).grownBy ww vS.ownBlock) :
    NewM w (.slice (some ⟨gg, 0, none⟩) (k + 1) cap) vF k (ww.setCell ⟨w.heap.size, 0, none⟩ (.slice (some ⟨gg, 0, none⟩) (k + 1) cap)) := by
  have hb2 : Below W.heap.size W (w'.alloc o) := ((Below.refl W.heap.size W).drew.trans hb).alloc (by exact hb.size) o
  have hhl := h.head.lt
  have hS := own_below h.slots hb2
  have hF := own_below h.free hb2
  have hH := h.head.below hb2 hhl
  have hH2 := hH.grown hg (fun e => by have := (h.slots.lt _ e.symm).1; omega)
  have hF2 := hF.kept hg (own_types hS hF (by decide))
  have hB2 : Below w.heap.size w ww := bel_grown (h.bel.trans (hb2.mono h.bel.size)) hg hS (Nat.le_succ _) (Nat.le_trans h.bel.size hb2.size)
  refine ⟨?_, own_setHead (by rw [bare_snoc]; exact hown) (Nat.lt_succ_self _) _ _, own_setHead hF2 (Nat.lt_succ_self _) _ _, hB2.setCell (p := ⟨w.heap.size, 0, none⟩) (Nat.le_refl _) _, ?_⟩
  · have := hH2.set_ 0 (.slice (some ⟨gg, 0, none⟩) (k + 1) cap)
    simpa using this
  · have h1 := hg.size
    have h2 := (grownBy_set ww w.heap.size 0 (.slice (some ⟨gg, 0, none⟩) (k + 1) cap)).size
    have h3 := hb2.size
    have h4 := h.size
    omega
theorem NewM.free_ (h : NewM w vS vF k W) (hown : ww.ownsRow (w.heap.size + 1) 3 1 v2 (k + 1) (intVs (natInts (List.range k)) ++ [.int .i64 (k : Int)])) (hg : W.grownBy ww vF.ownBlock) :
    NewK w vS v2 (k + 1) (ww.setCell ⟨w.heap.size, 1, none⟩ v2) := by
  have hhl := h.head.lt
  have hH2 := h.head.grown hg (fun e => by have := (h.free.lt _ e.symm).1; omega)
  have hS2 := h.slots.kept hg (own_types h.free h.slots (by decide))
  have hB2 : Below w.heap.size w ww := bel_grown h.bel hg h.free (Nat.le_succ _) h.bel.size
  refine ⟨?_, own_setHead hS2 (Nat.lt_succ_self _) _ _, own_setHead (by rw [List.range_succ, natInts_snoc]; exact hown) (Nat.lt_succ_self _) _ _, hB2.setCell (p := ⟨w.heap.size, 1, none⟩) (Nat.le_refl _) _, ?_⟩
  · have := hH2.set_ 1 v2
    simpa using this
  · have h1 := hg.size
    have h2 := (grownBy_set ww w.heap.size 1 v2).size
    have h4 := h.size
    omega
theorem NewK.done (h : NewK w vS vF 32 W) : ∃ b, w.heap.size ≤ b ∧ IsRB w.heap.size w.heap.size b St.new W := by
  rcases h.slots.2 with ⟨_, e⟩ | ⟨g, cap, cur, rfl, hbg, hgg, hc, _, hcs, htk⟩
  · omega
  · have hcur : cur = (flatS (List.replicate 32 SlotV.bare) ++ cur.toList.drop (32 * 17)).toArray := by
      rw [← htk, List.take_append_drop]
    refine ⟨g, by omega, cap, cur.toList.drop (32 * 17), vF, ⟨h.head, ⟨?_⟩, ?_, rfl, Nat.le_refl _, by omega, hc⟩⟩
    · rw [hgg, hcur]; rfl
    · exact owns_lower h.free (Nat.le_succ _)
end
theorem slotRow : ∃ i z, Tryd.prog.info? 39 = some i ∧ i.zero = some z ∧ i.size = 17 ∧ i.bytes = 144 ∧ z.cells.size = 17 := by
  have h : (match Tryd.prog.info? 39 with | some i => (match i.zero with | some z => i.size == 17 && i.bytes == 144 && z.cells.size == 17 | none => false) | none => false) = true := by decide +kernel
  cases hi : Tryd.prog.info? 39 with
  | none => rw [hi] at h; cases h
  | some i =>
    rw [hi] at h
    cases hz : i.zero with
    | none => simp only [hz] at h; cases h
    | some z =>
      simp only [hz, Bool.and_eq_true, beq_iff_eq] at h
      exact ⟨i, z, rfl, hz, h.1.1, h.1.2, h.2⟩
set_option maxHeartbeats 4000000 in
theorem rnew_any (w : World) : Calls Tryd.prog 11 #[] w (fun e w' => ∃ h b, e = .returned (.pointer (some ⟨h, 0, none⟩)) ∧ w.heap.size ≤ h ∧ w.heap.size ≤ b ∧ IsRB w.heap.size h b St.new w' ∧ Below w.heap.size w w') := by
  obtain ⟨ii, iz, hi0, hz0, hz1, hz2, hz3⟩ := intInfo
  obtain ⟨si, sz, hsi, hsz1, hsz2, hsz3, hsz4⟩ := slotRow
  have HBA := Lib.hid rbare_any
  go_enter Tryd.func11, Tryd.ntmps11
  go_wp2
  go_loopw [2] (fun i wr => ∃ (k : Nat) (vS vF : Value), k ≤ 32 ∧ i = .int .i64 k ∧ NewK w vS vF k wr) (fun i _ => 32 - (intOf i).toNat)
  case atStart => exact ⟨0, .slice none 0 0, .slice none 0 0, by omega, rfl, ⟨Blk.new _ _ _, World.ownsRow_nil _ _ _ _, World.ownsRow_nil _ _ _ _, (Below.refl _ _).alloc (Nat.le_refl _) _, by simp⟩⟩
  case round =>
    obtain ⟨k, vS, vF, hk, rfl, hK⟩ := hrel
    by_cases hlt : k < 32
    · have hki : (k : Int) < 32 := by omega
      have HK := Lib.hid hK
      have c0 := hK.head.cell 0
      simp only [List.getElem?_toArray, List.getElem?_cons_zero] at c0
      obtain ⟨pS, cS, rfl⟩ := owns_slice hK.slots
      obtain ⟨pF, cF, rfl⟩ := owns_slice hK.free
      clear hK
      go_wp2
      obtain ⟨hh, hs, hf, hbe, hsz⟩ := HK.out
      have HS := Lib.hid hs
      have HF := Lib.hid hf
      have HH := Lib.hid hh
      have HB := Lib.hid hbe
      have h1 : k + 1 ≤ maxLen := by unfold maxLen; omega
      have h2 : (k + 1) * 144 ≤ 140737488355328 := by omega
      have H1 := Lib.hid h1
      have H2 := Lib.hid h2
      have c0d : wr.drew.cell? ⟨w.heap.size, 0, none⟩ = some (.slice pS k cS) := c0
      have hfold : Array.foldl (fun (cs : Array Value) (x : Value × Nat) => cs.setIfInBounds x.snd x.fst) zeroL SlotV.bare.cells.zipIdx 0 17 = SlotV.bare.cells := by kernel_rfl
      simp only [zeroL] at hfold
      clear hh hs hf hbe h1 h2
      have b1 : ∀ w', Below wr.drew.heap.size wr.drew w' → Blk (w'.alloc (.cells SlotV.bare.cells 39)) w.heap.size 96 #[.slice pS k cS, .slice pF k cF, .int .i64 0] := fun w' hb => (HH.out.drew.below hb (by exact HH.out.lt)).alloc _
      have b2 : ∀ w', Below wr.drew.heap.size wr.drew w' → (w'.alloc (.cells SlotV.bare.cells 39)).ownsRow (w.heap.size + 1) 39 17 (.slice pS k cS) k (flatS (List.replicate k SlotV.bare)) := fun w' hb => (own_below (own_below HS.out (Below.refl _ _).drew) hb).alloc _
      have b3 : ∀ w', Below wr.drew.heap.size wr.drew w' → w.heap.size + 1 ≤ (w'.alloc (.cells SlotV.bare.cells 39)).heap.size := fun w' hb => by have h1 := hb.size; have h2 : wr.drew.heap.size = wr.heap.size := rfl; rw [World.size_alloc]; omega
      have b4 : ∀ (r : Nat), (Value.slice pS k cS).ownBlock = some r → r ≠ w.heap.size := fun r hr => by have := (HS.out.lt r hr).1; omega
      have B1 := Lib.hid b1
      have B2 := Lib.hid b2
      have B3 := Lib.hid b3
      have B4 := Lib.hid b4
      clear b1 b2 b3 b4
      go_region_law (first
        | (refine step_append_wanted (by rfl) _ _ 94 (by rfl) (w.heap.size + 1) 39 si sz 17 144 Tryd.underlying94 hsi hsz1 hsz2 hsz3 hsz4 (by decide) (.slice pS k cS) k (flatS (List.replicate k SlotV.bare)) (by rfl) (B2.out _ (by assumption)) ⟨_, 0, none⟩ 1 1 SlotV.bare.cells.toList (by rfl) (by rfl) (Blk.new _ _ _).row.cells (SlotV.one _) (by omega) H1.out H2.out (B3.out _ (by assumption)) ?_
           intro gg cap ww hownw hgrow
           have hhw := (B1.out _ (by assumption)).grown hgrow (fun e => B4.out _ e.symm rfl)
           have cw := hhw.cell 0
           have fw := hhw.frozen 0)
        | (go_simp; go_at_call 48; refine (HBA.out _).mono ?_; rintro e w' ⟨rfl, hb⟩; have c0' : w'.cell? ⟨w.heap.size, 0, none⟩ = some (.slice pS k cS) := (hb.cell (p := ⟨w.heap.size, 0, none⟩) HH.out.lt).trans c0d; have c0'' : (w'.alloc (.cells SlotV.bare.cells 39)).cell? ⟨w.heap.size, 0, none⟩ = some (.slice pS k cS) := (B1.out w' hb).cell 0; dsimp only))
      all_goals
        have HM := Lib.hid (HK.out.slot hb hownw hgrow)
        obtain ⟨X, hX⟩ : ∃ X, ww.setCell ⟨w.heap.size, 0, none⟩ (.slice (some ⟨gg, 0, none⟩) (k + 1) cap) = X := ⟨_, rfl⟩
        rw [hX] at HM ⊢
        have cx1 := HM.out.head.cell 1
        simp only [List.getElem?_toArray, List.getElem?_cons_zero, List.getElem?_cons_succ] at cx1
        have i1 : k + 1 ≤ maxLen := by unfold maxLen; omega
        have i2 : (k + 1) * 8 ≤ 140737488355328 := by omega
        have I1 := Lib.hid i1
        have I2 := Lib.hid i2
        clear hX hownw hgrow hhw cw fw hb c0' c0'' hfold B1 B2 B3 B4 c0d c0 HS HF HH HB H1 H2 hsz i1 i2
        go_wp2_with (at_builtin; refine wpList_append_one (v := .slice pF k cF) rfl _ _ 46 rfl Tryd.underlying46 hi0 hz0 hz1 hz2 hz3 (by decide) rfl HM.out.free rfl rfl (int_one _) I1.out I2.out HM.out.size ?_; intro gf capf w11 hown1 hgr1; have hh2 := HM.out.head.grown hgr1 (fun e => by have := (HM.out.free.lt _ e.symm).1; omega); have cy1 := hh2.cell 1; have fy1 := hh2.frozen 1)
        have hN := HM.out.free_ hown1 hgr1
        have HN := Lib.hid hN
        clear hN hown1 hgr1 hh2 cy1 fy1 HM cx1
        go_roundw
        case rel => exact ⟨k + 1, _, _, by omega, by go_num, HN.out⟩
        case measure => simp [intOf]; omega
    · obtain rfl : k = 32 := by omega
      obtain ⟨b, hb, hR⟩ := hK.done
      have HR := Lib.hid hR
      have HB := Lib.hid hK.bel
      clear hK hR hlt
      go_wp2
      go_ret
      exact ⟨w.heap.size, b, rfl, Nat.le_refl _, hb, HR.out, HB.out⟩
end Go.Proofs.YtbidgpeeogoglaaDoor
