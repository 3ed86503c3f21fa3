/-
  lineagekit.ApartBytes.
-/
import Derived.Test.YtpdpdojaaaipcaaDoorRSev
import Derived.Test.YtpdpdojaaaipcaaDoorPkSame
import Derived.Test.YtpdpdojaaaipcaaDoorQuietTail
namespace Go.Proofs.YtpdpdojaaaipcaaDoor
set_option maxRecDepth 100000
open Go.RowKit
/-- A mark. -/
def mk (k i : Nat) : Nat := (37 * (k + 1) + i) % 256
theorem mk_lt (k i : Nat) : mk k i < 256 := Nat.mod_lt _ (by decide)
def mkB (k n : Nat) : List UInt8 := (List.range n).map fun i => UInt8.ofNat (mk k i)
theorem mkB_len (k n : Nat) : (mkB k n).length = n := by simp [mkB]
theorem mkB_succ (k n : Nat) : mkB k (n + 1) = mkB k n ++ [UInt8.ofNat (mk k n)] := by simp [mkB, List.range_succ]
theorem mkB_get {k n i : Nat} (h : i < n) : (mkB k n)[i]? = some (UInt8.ofNat (mk k i)) := by simp [mkB, h]
theorem mkB_take {k n m : Nat} (h : n ≤ m) : (mkB k m).take n = mkB k n := by
  unfold mkB
  rw [← List.map_take, List.take_range, Nat.min_eq_left h]
set_option maxHeartbeats 1000000 in
theorem markn_any (k i : Nat) (hk : k ≤ 1099511627776) (hi : i ≤ 281474976710656) (w : World) : Calls Tryd.prog 33 #[.int .i64 (k : Int), .int .i64 (i : Int)] w (RetSame (.int .u8 ((mk k i : Nat) : Int)) w) := by
  have e : (37 * ((k : Int) + 1) + (i : Int)) % 256 = ((mk k i : Nat) : Int) := by unfold mk; omega
  have hk' : (k : Int) ≤ 1099511627776 := by omega
  have hi' : (i : Int) ≤ 281474976710656 := by omega
  clear hk hi
  go_enter Tryd.func33, Tryd.ntmps33
  go_wp2
  go_ret
  exact ⟨rfl, rfl⟩
/-- Lists of bytes, each in memory of its own: their rows, how long they are. -/
structure Els (B : Nat) (els : List (Value × Nat)) (w : World) (f : Nat → List UInt8) : Prop where
  own : ∀ j e, els[j]? = some e → w.ownsRow B 5 1 e.1 e.2 (byv (f j))
/-- Nothing is turned but these rows. -/
structure ChgE (els : List (Value × Nat)) (w w' : World) : Prop where
  os : w'.os = w.os
  tape : w'.tape = w.tape
  output : w'.output = w.output
  size : w.heap.size ≤ w'.heap.size
  block : ∀ k, k < w.heap.size → (∀ e ∈ els, e.1.ownBlock ≠ some k) → w'.heap[k]? = w.heap[k]?
theorem ChgE.refl (els : List (Value × Nat)) (w : World) : ChgE els w w := ⟨rfl, rfl, rfl, Nat.le_refl _, fun _ _ _ => rfl⟩
theorem own_same {w w' : World} {B size n : Nat} {e : TypeId} {v : Value} {xs : List Value} (h : w.ownsRow B e size v n xs) (hs : ∀ k, v.ownBlock = some k → w'.heap[k]? = w.heap[k]?) : w'.ownsRow B e size v n xs := by
  rcases h with ⟨h1, h2 | ⟨g, cap, cur, hv, hg, hh, hrest⟩⟩
  · exact ⟨h1, .inl h2⟩
  · exact ⟨h1, .inr ⟨g, cap, cur, hv, hg, (hs g (by rw [hv]; rfl)).trans hh, hrest⟩⟩
theorem own_set {w : World} {B n c g i : Nat} {xs : List Value} {u : Value} (h : w.ownsRow B 5 1 (.slice (some ⟨g, 0, none⟩) n c) n xs) (hi : i < n) : (w.setCell ⟨g, i, none⟩ u).ownsRow B 5 1 (.slice (some ⟨g, 0, none⟩) n c) n (xs.set i u) := by
  rcases h with ⟨h1, ⟨h2, _⟩ | ⟨g', cap, cur, hv, hg, hh, hnc, hcm, hcs, htk⟩⟩
  · cases h2
  · injection hv with e1 e2 e3
    injection e1 with e1
    injection e1 with e1
    subst e1 e3
    have hb : Blk w g 5 cur := ⟨hh⟩
    refine ⟨by simpa using h1, .inr ⟨g, c, cur.setIfInBounds i u, rfl, hg, (hb.set_ i u).eq, hnc, hcm, by simpa using hcs, ?_⟩⟩
    simp only [Array.toList_setIfInBounds, Nat.mul_one] at *
    rw [← htk, List.take_set]
theorem mkB_step (k i : Nat) (l : List UInt8) (hi : i < l.length) : (byv (mkB k i ++ l.drop i)).set i (.int .u8 ((mk k i : Nat) : Int)) = byv (mkB k (i + 1) ++ l.drop (i + 1)) := by
  rw [List.drop_eq_getElem_cons hi, mkB_succ, List.append_assoc, byv_append, byv_append, List.set_append_right _ _ (by rw [byv_len, mkB_len]; exact Nat.le_refl _), byv_len, mkB_len, Nat.sub_self]
  congr 1
  show Value.int .u8 _ :: _ = Value.int .u8 _ :: _
  rw [ofNat_toNat (mk_lt k i)]
  rfl
/-- The lists, apart: no two rows lie in one block, and none lies where their own list lies. -/
structure Apart (vl : Value) (els : List (Value × Nat)) : Prop where
  two : ∀ (i j : Nat) (a b : Value × Nat) (g : Nat), els[i]? = some a → els[j]? = some b → a.1.ownBlock = some g → b.1.ownBlock = some g → i = j
  list : ∀ (j : Nat) (a : Value × Nat) (g : Nat), els[j]? = some a → a.1.ownBlock = some g → vl.ownBlock ≠ some g
section
variable {B : Nat} {els : List (Value × Nat)} {w wr w' : World}
theorem Els.below {f : Nat → List UInt8} (h : Els B els w f) (hb : Below w.heap.size w w') : Els B els w' f := ⟨fun j e he => own_below (h.own j e he) hb⟩
theorem ChgE.trans {w1 w2 : World} (h : ChgE els w w1) (h2 : ChgE els w1 w2) : ChgE els w w2 :=
  ⟨h2.os.trans h.os, h2.tape.trans h.tape, h2.output.trans h.output, Nat.le_trans h.size h2.size, fun k hk hn => (h2.block k (Nat.lt_of_lt_of_le hk h.size) hn).trans (h.block k hk hn)⟩
theorem ChgE.ofBelow (h : Below w.heap.size w w') : ChgE els w w' := ⟨h.os, h.tape, h.output, h.size, fun k hk _ => h.block k hk⟩
theorem ChgE.set {g i j : Nat} {e : Value × Nat} {u : Value} (he : els[j]? = some e) (hg : e.1.ownBlock = some g) : ChgE els w (w.setCell ⟨g, i, none⟩ u) :=
  ⟨rfl, rfl, rfl, by simp, fun k hk hn => Below.heap_setCell w ⟨g, i, none⟩ u k (fun e2 => hn e (List.mem_of_getElem? he) (by rw [hg, e2]))⟩
/-- One cell of one row. -/
theorem Els.set {vl : Value} {f : Nat → List UInt8} (h : Els B els w f) (ha : Apart vl els) {j g i n c : Nat} {u : Value} {l : List UInt8} (he : els[j]? = some (.slice (some ⟨g, 0, none⟩) n c, n)) (hi : i < n) (hl : (byv (f j)).set i u = byv l) :
    Els B els (w.setCell ⟨g, i, none⟩ u) (fun k => if k = j then l else f k) := ⟨fun k e hk => by
  by_cases hkj : k = j
  · subst hkj
    rw [he] at hk
    cases hk
    rw [if_pos rfl, ← hl]
    exact own_set (h.own k _ he) hi
  · rw [if_neg hkj]
    refine own_same (h.own k e hk) fun q hq => Below.heap_setCell w ⟨g, i, none⟩ u q (fun e2 => hkj ?_)
    have e3 : q = g := e2
    subst e3
    exact ha.two k j e _ q hk he hq rfl⟩
theorem Els.congr {f f' : Nat → List UInt8} (h : Els B els w f) (hf : ∀ j, f j = f' j) : Els B els w f' := ⟨fun j e he => by rw [← hf]; exact h.own j e he⟩
end
theorem own_blk2 {w : World} {base size g n c m : Nat} {e : TypeId} {xs : List Value} (h : w.ownsRow base e size (.slice (some ⟨g, 0, none⟩) n c) m xs) : ∃ cur, Blk w g e cur := by
  rcases h.2 with ⟨h, _⟩ | ⟨g', cap', cur, hv, _, h1, _⟩
  · cases h
  · injection hv with h3 h4 h5
    injection h3 with h3
    injection h3 with h3
    subst h3
    exact ⟨cur, ⟨h1⟩⟩
end Go.Proofs.YtpdpdojaaaipcaaDoor
