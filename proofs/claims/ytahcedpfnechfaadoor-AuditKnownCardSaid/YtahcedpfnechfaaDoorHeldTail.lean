/-
  A region that draws its order: reads that yield in every world of a class S, one call that keeps S, and behind them a tail in one forced order. After the library's StillTail and OrdersHeld. Over any program.
-/
import Derived.Test.YtahcedpfnechfaaDoorQuietTail
import Derived.Deep.RegionHeld
namespace Go.Proofs.YtahcedpfnechfaaDoor
set_option maxRecDepth 100000
set_option maxRecDepth 100000
open Go.Sort Go.RowKit

section
variable {P : Program} {ops : Array Oper} {md : Region.Mode} {S : World → Prop} {Q : Exit → Act → World → Prop}

def wpAnyHL (P : Program) (md : Region.Mode) (ops : Array Oper) (Q : Exit → Act → World → Prop) (S : World → Prop) (n : Nat) (L : Array Bool → Act → World → Prop) : Nat → Array Bool → Act → World → Prop
  | 0, listed, a, w => L listed a w
  | f + 1, listed, a, w => Region.ready md ops listed ≠ [] ∧ ∀ i ∈ Region.ready md ops listed, i < n ∧ wpOp P ops Q i (fun a' w' => S w' ∧ wpAnyHL P md ops Q S n L f (listed.setIfInBounds i true) a' w') a w

theorem wpAny_of_headHL {n g : Nat} {L : Array Bool → Act → World → Prop} (hL : ∀ listed a w, L listed a w → wpAny P md ops Q g listed a w) :
    ∀ (f : Nat) (listed : Array Bool) (a : Act) (w : World), wpAnyHL P md ops Q S n L f listed a w → wpAny P md ops Q (f + g) listed a w
  | 0, listed, a, w, h => by rw [Nat.zero_add]; exact hL _ _ _ h
  | f + 1, listed, a, w, h => by
    rw [show f + 1 + g = (f + g) + 1 by omega]
    exact ⟨fun h0 => absurd h0 h.1, fun i hi => wpOp_mono (fun a' w' h' => wpAny_of_headHL hL f _ a' w' h'.2) (h.2 i hi).2⟩

theorem wpAnyHL_first {n i : Nat} {oi : Oper} {v : Value} {L : Array Bool → Act → World → Prop} (hi : ops[i]? = some oi) (hsel : ∀ (j : Nat) (o : Oper) cs b, ops[j]? = some o → o.op ≠ .select cs b)
    (hQ : ∀ c a w, Q (.panic c) (a.put oi.dst v) w → Q (.panic c) a w)
    (hs : Region.sinkB md ops n = true) (hc : Region.chainB md ops n = true) (hn : n < ops.size) (hin : i < n)
    (hdone : ∀ listed a w, L listed a w → ∀ j ∈ Region.ready md ops listed, n ≤ j) :
    ∀ (f : Nat) (listed : Array Bool) (a : Act) (w : World), HeadInv md ops n listed →
      (∀ j oj, ops[j]? = some oj → j ≠ i → listed.getD j true = false → (∀ e ∈ oj.after, Region.binds md e = true → e.on ≠ i) → oi.apart ops oj = true) →
      i ∈ Region.ready md ops listed → YieldsIf P ops S oi v a → S w →
      wpAnyHL P md ops Q S n L f (listed.setIfInBounds i true) (a.put oi.dst v) w → wpAnyHL P md ops Q S n L (f + 1) listed a w := by
  intro f
  induction f with
  | zero =>
    intro listed a w inv _ hr hy hS H
    have hun := (mem_ready.1 hr).1
    refine ⟨fun h => (by rw [h] at hr; cases hr), fun j hj => ?_⟩
    have hjn : j < n := by
      rcases Nat.lt_or_ge j n with h | h
      · exact h
      · exact absurd hj (tail_waits hs hc hn inv _ i rfl hin hun j h)
    refine ⟨hjn, ?_⟩
    by_cases hji : j = i
    · subst hji; exact hy.wpOp hi hS ⟨hS, H⟩
    · have := hdone _ _ _ H j (ready_mono hj hji)
      omega
  | succ f ih =>
    intro listed a w inv hfree hr hy hS H
    have hun := (mem_ready.1 hr).1
    refine ⟨fun h => (by rw [h] at hr; cases hr), fun j hj => ?_⟩
    have hjn : j < n := by
      rcases Nat.lt_or_ge j n with h | h
      · exact h
      · exact absurd hj (tail_waits hs hc hn inv _ i rfl hin hun j h)
    refine ⟨hjn, ?_⟩
    by_cases hji : j = i
    · subst hji; exact hy.wpOp hi hS ⟨hS, H⟩
    · have h1 := (H.2 j (ready_mono hj hji)).2
      obtain ⟨hjun, oj, hoj, hall⟩ := mem_ready.1 hj
      have hnot : ∀ e ∈ oj.after, Region.binds md e = true → e.on ≠ i := fun e he hb heq => by
        have h1 := hall e he hb
        rw [heq, getD_both hun] at h1
        cases h1
      have h2 := wpOp_putIf hoj (hfree j oj hoj hji hjun hnot) (fun cs b => hsel i oi cs b hi) (fun cs b => hsel j oj cs b hoj) hQ hy h1
      have hfree' : ∀ k ok, ops[k]? = some ok → k ≠ i → (listed.setIfInBounds j true).getD k true = false →
          (∀ e ∈ ok.after, Region.binds md e = true → e.on ≠ i) → oi.apart ops ok = true := fun k ok hk hki hun hno => by
        refine hfree k ok hk hki ?_ hno
        by_cases hjk : j = k
        · subst hjk; exact hjun
        · rw [getD_set_ne true hjk] at hun; exact hun
      refine wpOp_mono (fun a' w' h3 => ⟨h3.2.1, ih (listed.setIfInBounds j true) a' w' (inv.set hj hjn) hfree' (ready_mono hr (Ne.symm hji)) h3.1 h3.2.1 ?_⟩) h2
      rw [Array.setIfInBounds_comm _ _ hji]
      exact h3.2.2

/-- Reads that yield in every world that meets S, one behind the other. -/
def wpHeld (P : Program) (ops : Array Oper) (S : World → Prop) (Q : Exit → Act → World → Prop) (L : Act → Prop) : List Oper → Act → Prop
  | [], a => L a
  | o :: l, a => ∃ v, YieldsIf P ops S o v a ∧ (∀ c a w, Q (.panic c) (a.put o.dst v) w → Q (.panic c) a w) ∧ wpHeld P ops S Q L l (a.put o.dst v)
theorem wpHeld_cons {L : Act → Prop} {o : Oper} {l : List Oper} {a : Act} {v : Value} (hQ : ∀ c a w, Q (.panic c) (a.put o.dst v) w → Q (.panic c) a w) (hy : YieldsIf P ops S o v a) (h : wpHeld P ops S Q L l (a.put o.dst v)) : wpHeld P ops S Q L (o :: l) a := ⟨v, hy, hQ, h⟩

theorem wpAnyHL_lex {n g : Nat} (hsel : Region.noSelect ops = true) (hs : Region.sinkB md ops n = true) (hc : Region.chainB md ops n = true) (hn : n < ops.size) {T : Act → World → Prop} {w : World} (hS : S w) {om : Oper} (hm : ops[n - 1]? = some om) :
    ∀ (l : List Oper) (k : Nat) (listed : Array Bool) (a : Act), (∀ j, j < l.length → l[j]? = ops[k + j]?) → k + l.length + 1 = n → HeadInv md ops n listed → (∀ j, j < k → listed.getD j true = true) →
    Region.lexHead md ops g (l.length + 1) k listed = true → wpHeld P ops S Q (fun a' => wpOp P ops Q (n - 1) (fun a'' w'' => S w'' ∧ T a'' w'') a' w) l a →
    wpAnyHL P md ops Q S n (fun listed' a' w' => Region.seqB md ops g n listed' = true ∧ T a' w') (l.length + 1) listed a w
  | [], k, listed, a, _, hk, inv, hd, hB, h => by
    have hkn : k = n - 1 := by simp at hk; omega
    subst hkn
    simp only [List.length_nil, Region.lexHead, Bool.and_eq_true] at hB
    obtain ⟨⟨hr, _⟩, hB'⟩ := hB
    have hr' : n - 1 ∈ Region.ready md ops listed := by simpa using hr
    have hun := (mem_ready.1 hr').1
    have hn0 : n - 1 < n := by simp at hk; omega
    refine ⟨fun h0 => (by rw [h0] at hr'; cases hr'), fun j hj => ?_⟩
    have hjn : j < n := by
      rcases Nat.lt_or_ge j n with h | h
      · exact h
      · exact absurd hj (tail_waits hs hc hn inv _ (n - 1) rfl hn0 hun j h)
    refine ⟨hjn, ?_⟩
    have hj1 : j = n - 1 := by
      rcases Nat.lt_or_ge j (n - 1) with h1 | h1
      · have h2 := (mem_ready.1 hj).1
        rw [hd j h1] at h2
        cases h2
      · omega
    subst hj1
    have hB2 : Region.seqB md ops g n (listed.setIfInBounds (n - 1) true) = true := by
      have e : n - 1 + 1 = n := by omega
      rw [e] at hB'
      exact hB'
    have h0 : wpOp P ops Q (n - 1) (fun a'' w'' => S w'' ∧ T a'' w'') a w := h
    exact wpOp_mono (fun a' w' h' => ⟨h'.1, hB2, h'.2⟩) h0
  | o :: l, k, listed, a, hl, hk, inv, hd, hB, h => by
    have h0 : ops[k]? = some o := by simpa using (hl 0 (by simp)).symm
    rw [List.length_cons, Region.lexHead] at hB
    simp only [Bool.and_eq_true] at hB
    obtain ⟨⟨hr, hf⟩, hB'⟩ := hB
    have hkn : k < n := by simp only [List.length_cons] at hk; omega
    have hr' : k ∈ Region.ready md ops listed := by simpa using hr
    obtain ⟨v, hy, hQ, hK⟩ := h
    have hks : k < listed.size := by rw [inv.size]; omega
    exact wpAnyHL_first h0 (Region.noSelect_spec hsel) hQ hs hc hn hkn (fun listed' a' w' hL => seqB_ready hL.1) (l.length + 1) listed a w inv (Region.free_spec h0 hf) hr' hy hS
      (wpAnyHL_lex hsel hs hc hn hS hm l (k + 1) _ _ (fun j hj => by have := hl (j + 1) (by simp; omega); simpa [Nat.add_assoc, Nat.add_comm 1 j] using this) (by simp only [List.length_cons] at hk; omega) (inv.set hr' hkn)
        (fun j hj => by
          by_cases hjk : k = j
          · subst hjk; simp [Array.getD, hks]
          · rw [getD_set_ne true hjk]; exact hd j (by omega)) hB' hK)

/-- Reads of one class of worlds, one call (number 'm') that keeps the class, and then a tail in one forced order. -/
theorem wp_region_held_tail {id : Nat} {a : Act} {w : World} {l : List Oper} (m : Nat) (hm : P.follows .mixedOrders = true) (hB : Region.lexTailB .any l.toArray (m + 1) = true) {om : Oper} (ho : l[m]? = some om) (hS : S w.drew)
    (h : wpHeld P l.toArray S Q (fun a' => ∀ K' : Act → World → Prop, Shut (∀ a w, S w → (S w → wpList P l.toArray Q (l.drop (m + 1)) a w) → K' a w) → if Region.wanted om (yielded l.toArray a'.tmps) = true then Oper.wp P om a' w.drew K' Q else K' (a'.put om.dst undef) w.drew) (l.take m) a) : (Code.region id l.toArray true).wp P Q a w := by
  simp only [Region.lexTailB, Bool.and_eq_true, decide_eq_true_eq] at hB
  obtain ⟨⟨⟨⟨hsel, hn⟩, hs⟩, hc⟩, hlex⟩ := hB
  have hn' : m + 1 < l.length := by simpa using hn
  have htl : (l.take m).length = m := by simp; omega
  have hdl : (l.drop (m + 1)).length = l.toArray.size - (m + 1) := by simp
  have hom : l.toArray[m + 1 - 1]? = some om := by simpa using ho
  have inv0 : HeadInv .any l.toArray (m + 1) (Array.replicate l.toArray.size false) :=
    ⟨by simp, fun j oj _ hl => (by rw [getD_replicate_false] at hl; cases hl), fun t _ ht => getD_in (by simpa using ht) (getD_replicate_false _ _)⟩
  have h' : wpHeld P l.toArray S Q (fun a' => wpOp P l.toArray Q (m + 1 - 1) (fun a'' w'' => S w'' ∧ wpList P l.toArray Q (l.drop (m + 1)) a'' w'') a' w.drew) (l.take m) a := by
    revert h
    generalize l.take m = t
    intro h
    induction t generalizing a with
    | nil =>
      show wpOp P l.toArray Q (m + 1 - 1) (fun a'' w'' => S w'' ∧ wpList P l.toArray Q (l.drop (m + 1)) a'' w'') a w.drew
      exact wpOp_step hom (fun K' hK => h K' (fun a w hS hW => hK a w ⟨hS, hW hS⟩))
    | cons o t ih => obtain ⟨v, hy, hQ, hK⟩ := h; exact ⟨v, hy, hQ, ih hK⟩
  have H := wpAnyHL_lex (md := .any) (g := l.toArray.size - (m + 1)) hsel hs hc hn hS hom (l.take m) 0 _ a (fun j hj => by
    have hj' : j < m := by rw [htl] at hj; exact hj
    simp [hj']) (by rw [htl]; omega) inv0 (fun j hj => by omega) (by rw [htl]; exact hlex) h'
  refine wp_region_any hm ?_
  have := wpAny_of_headHL (g := l.toArray.size - (m + 1)) (fun listed a' w' hL => by
    have := wpAny_of_seq (md := .any) (Q' := Q) (l.drop (m + 1)) (m + 1) listed a' w' (fun j => by simp [List.getElem?_drop]) (by rw [hdl]; exact hL.1) hL.2
    rwa [hdl] at this) _ _ _ _ H
  rw [htl, show m + 1 + (l.toArray.size - (m + 1)) = l.toArray.size by omega] at this
  exact this
end
end Go.Proofs.YtahcedpfnechfaaDoor
