/-
  A region that draws its order, gone through in phases: within a phase reads that yield in every world of a class S are taken first, the one operation that is left comes up, and S is shown anew; where all that is left waits for all of the phase, another phase begins, with a class of its own. Over any program.
-/
import Derived.Test.YtahcedpfnechfaaDoorHeldTail
namespace Go.Proofs.YtahcedpfnechfaaDoor
set_option maxRecDepth 100000
set_option maxRecDepth 100000
open Go.Sort Go.RowKit

section
variable {P : Program} {ops : Array Oper} {md : Region.Mode} {S : World → Prop} {Q : Exit → Act → World → Prop}

/-- All from number n on waits for all ahead of it. -/
def barB (md : Region.Mode) (ops : Array Oper) (n : Nat) : Bool :=
  decide (ops.size ≤ n) || (Region.sinkB md ops n && (List.range ops.size).all fun t => decide (t ≤ n) || (List.range t).any fun j => decide (n ≤ j) && Region.waitsFor md ops t j)
def headB (md : Region.Mode) (ops : Array Oper) (n : Nat) (listed : Array Bool) : Bool :=
  decide (listed.size = ops.size) && ((List.range ops.size).all fun j => match ops[j]? with
    | some oj => !listed.getD j false || oj.after.all fun e => !Region.binds md e || listed.getD e.on false
    | none => true) && (List.range ops.size).all fun t => decide (t < n) || !listed.getD t true
theorem headB_spec {n : Nat} {listed : Array Bool} (h : headB md ops n listed = true) : HeadInv md ops n listed := by
  unfold headB at h
  simp only [Bool.and_eq_true, decide_eq_true_eq] at h
  obtain ⟨⟨h1, h2⟩, h3⟩ := h
  refine ⟨h1, fun j oj hj hl e he hb => ?_, fun t ht hts => ?_⟩
  · have hjs := (Array.getElem?_eq_some_iff.1 hj).1
    have := List.all_eq_true.1 h2 j (List.mem_range.2 hjs)
    simp only [hj, hl, Bool.not_true, Bool.false_or] at this
    have := Array.all_eq_true_iff_forall_mem.1 this e he
    rw [hb] at this
    simpa using this
  · have := List.all_eq_true.1 h3 t (List.mem_range.2 hts)
    simp only [Bool.or_eq_true, decide_eq_true_eq, Bool.not_eq_true'] at this
    rcases this with h | h
    · omega
    · exact h
theorem bar_spec {n : Nat} (h : barB md ops n = true) {listed : Array Bool} (inv : HeadInv md ops n listed) : ∀ i, i < n → listed.getD i true = false → ∀ t, n ≤ t → t ∉ Region.ready md ops listed := by
  intro i hi hun t
  unfold barB at h
  simp only [Bool.or_eq_true, decide_eq_true_eq, Bool.and_eq_true] at h
  rcases h with hsz | ⟨hs, hg⟩
  · intro ht hr
    obtain ⟨_, ot, hot, _⟩ := mem_ready.1 hr
    have := (Array.getElem?_eq_some_iff.1 hot).1
    omega
  · -- number n waits for i, all behind wait for n
    have hsink : ∀ (d i : Nat), n - i = d → i < n → listed.getD i true = false → n ∉ Region.ready md ops listed := by
      intro d
      induction d using Nat.strongRecOn with
      | _ d ih =>
        intro i hd hi hun hr
        obtain ⟨_, ot, hot, hall⟩ := mem_ready.1 hr
        have hnlt : n < ops.size := (Array.getElem?_eq_some_iff.1 hot).1
        have h1 := List.all_eq_true.1 hs i (List.mem_range.2 hi)
        obtain ⟨j, hj, hj2⟩ := List.any_eq_true.1 h1
        simp only [Bool.and_eq_true, decide_eq_true_eq] at hj2
        obtain ⟨oj, hoj, e, he, hb, hon⟩ := Region.waitsFor_spec hj2.2
        have hjle : j ≤ n := by have := List.mem_range.1 hj; omega
        by_cases hjn : j = n
        · subst hjn
          have : oj = ot := Option.some.inj (hoj.symm.trans hot)
          subst this
          have h2 := hall e he hb
          rw [hon, getD_both hun] at h2
          cases h2
        · cases hl : listed.getD j false with
          | true =>
            have h2 := inv.closed j oj hoj hl e he hb
            rw [hon, getD_both hun] at h2
            cases h2
          | false => exact ih (n - j) (by omega) j rfl (by omega) (getD_in (by rw [inv.size]; omega) hl) hr
    induction t using Nat.strongRecOn with
    | _ t ih =>
      intro ht hr
      by_cases htn : t = n
      · subst htn; exact hsink _ i rfl hi hun hr
      · obtain ⟨_, ot, hot, hall⟩ := mem_ready.1 hr
        have htlt : t < ops.size := (Array.getElem?_eq_some_iff.1 hot).1
        have h1 := List.all_eq_true.1 hg t (List.mem_range.2 htlt)
        simp only [Bool.or_eq_true, decide_eq_true_eq] at h1
        rcases h1 with h1 | h1
        · omega
        · obtain ⟨j, hj, hj2⟩ := List.any_eq_true.1 h1
          simp only [Bool.and_eq_true, decide_eq_true_eq] at hj2
          obtain ⟨o', ho', e, he, hb, hon⟩ := Region.waitsFor_spec hj2.2
          have : o' = ot := Option.some.inj (ho'.symm.trans hot)
          subst this
          have h2 := hall e he hb
          have hju : listed.getD j true = false := inv.tail j hj2.1 (by have := List.mem_range.1 hj; omega)
          rw [hon, getD_both hju] at h2
          cases h2
/-- A phase: 'f' of its operations are left; S holds ahead of each. -/
theorem mix_first {n i : Nat} {oi : Oper} {v : Value} {L : Array Bool → Act → World → Prop} (hi : ops[i]? = some oi) (hsel : ∀ (j : Nat) (o : Oper) cs b, ops[j]? = some o → o.op ≠ .select cs b)
    (hQ : ∀ c a w, Q (.panic c) (a.put oi.dst v) w → Q (.panic c) a w) (hbar : barB md ops n = true) (hin : i < n)
    (hdone : ∀ listed a w, L listed a w → ∀ j ∈ Region.ready md ops listed, n ≤ j) :
    ∀ (f : Nat) (listed : Array Bool) (a : Act) (w : World), HeadInv md ops n listed →
      (∀ j oj, ops[j]? = some oj → j ≠ i → listed.getD j true = false → (∀ e ∈ oj.after, Region.binds md e = true → e.on ≠ i) → oi.apart ops oj = true) →
      i ∈ Region.ready md ops listed → YieldsIf P ops S oi v a → S w →
      wpAnyHL P md ops Q S n L f (listed.setIfInBounds i true) (a.put oi.dst v) w → wpAnyHL P md ops Q S n L (f + 1) listed a w := by
  intro f
  induction f with
  | zero =>
    intro listed a w inv _ hr hy hS H
    have hun := (mem_ready.1 hr).1
    refine ⟨fun h => (by rw [h] at hr; cases hr), fun j hj => ?_⟩
    have hjn : j < n := by
      rcases Nat.lt_or_ge j n with h | h
      · exact h
      · exact absurd hj (bar_spec hbar inv i hin hun j h)
    refine ⟨hjn, ?_⟩
    by_cases hji : j = i
    · subst hji; exact hy.wpOp hi hS ⟨hS, H⟩
    · have := hdone _ _ _ H j (ready_mono hj hji)
      omega
  | succ f ih =>
    intro listed a w inv hfree hr hy hS H
    have hun := (mem_ready.1 hr).1
    refine ⟨fun h => (by rw [h] at hr; cases hr), fun j hj => ?_⟩
    have hjn : j < n := by
      rcases Nat.lt_or_ge j n with h | h
      · exact h
      · exact absurd hj (bar_spec hbar inv i hin hun j h)
    refine ⟨hjn, ?_⟩
    by_cases hji : j = i
    · subst hji; exact hy.wpOp hi hS ⟨hS, H⟩
    · have h1 := (H.2 j (ready_mono hj hji)).2
      obtain ⟨hjun, oj, hoj, hall⟩ := mem_ready.1 hj
      have hnot : ∀ e ∈ oj.after, Region.binds md e = true → e.on ≠ i := fun e he hb heq => by
        have h1 := hall e he hb
        rw [heq, getD_both hun] at h1
        cases h1
      have h2 := wpOp_putIf hoj (hfree j oj hoj hji hjun hnot) (fun cs b => hsel i oi cs b hi) (fun cs b => hsel j oj cs b hoj) hQ hy h1
      have hfree' : ∀ k ok, ops[k]? = some ok → k ≠ i → (listed.setIfInBounds j true).getD k true = false →
          (∀ e ∈ ok.after, Region.binds md e = true → e.on ≠ i) → oi.apart ops ok = true := fun k ok hk hki hun hno => by
        refine hfree k ok hk hki ?_ hno
        by_cases hjk : j = k
        · subst hjk; exact hjun
        · rw [getD_set_ne true hjk] at hun; exact hun
      refine wpOp_mono (fun a' w' h3 => ⟨h3.2.1, ih (listed.setIfInBounds j true) a' w' (inv.set hj hjn) hfree' (ready_mono hr (Ne.symm hji)) h3.1 h3.2.1 ?_⟩) h2
      rw [Array.setIfInBounds_comm _ _ hji]
      exact h3.2.2
/-- What is left behind a phase. -/
def Left (P : Program) (ops : Array Oper) (Q : Exit → Act → World → Prop) (g : Nat) (l1 : Array Bool) (l : Array Bool) (a : Act) (w : World) : Prop := l = l1 ∧ wpAny P .any ops Q g l1 a w
/-- A phase, and what is behind it. -/
def Phs (P : Program) (ops : Array Oper) (Q : Exit → Act → World → Prop) (S : World → Prop) (n g : Nat) (l1 : Array Bool) (f : Nat) (listed : Array Bool) (a : Act) (w : World) : Prop := wpAnyHL P .any ops Q S n (Left P ops Q g l1) f listed a w
theorem any_phase (S : World → Prop) (n f g : Nat) (l1 : Array Bool) {listed : Array Bool} {a : Act} {w : World} {m : Nat} (hm : m = f + g) (h : Phs P ops Q S n g l1 f listed a w) : wpAny P .any ops Q m listed a w := by
  subst hm
  exact wpAny_of_headHL (fun _ _ _ h => by obtain ⟨rfl, h⟩ := h; exact h) f listed a w h
/-- The region begins with a phase. -/
theorem wp_region_mix {id : Nat} {a : Act} {w : World} (S : World → Prop) (n f g : Nat) (l1 : Array Bool) (hmix : P.follows .mixedOrders = true) (hm : ops.size = f + g) (h : Phs P ops Q S n g l1 f (Array.replicate ops.size false) a w.drew) : (Code.region id ops true).wp P Q a w :=
  wp_region_any hmix (any_phase S n f g l1 hm h)
/-- A read, taken first: its slot and the list behind it are told. -/
theorem phs_take {n g : Nat} {l1 : Array Bool} (d : Option Tmp) (l' : Array Bool) {i : Nat} {oi : Oper} {v : Value} {f : Nat} {listed : Array Bool} {a : Act} {w : World} (hi : ops[i]? = some oi)
    (hB : (Region.noSelect ops && barB .any ops n && decide (i < n) && headB .any ops n listed && Region.free .any ops listed i && (Region.ready .any ops listed).contains i && (Region.ready .any ops l1).all (fun j => decide (n ≤ j))) = true)
    (hQ : ∀ c a w, Q (.panic c) (a.put oi.dst v) w → Q (.panic c) a w) (hy : YieldsIf P ops S oi v a) (hS : S w) (hd : oi.dst = d) (hl : listed.setIfInBounds i true = l')
    (h : Phs P ops Q S n g l1 f l' (a.put d v) w) : Phs P ops Q S n g l1 (f + 1) listed a w := by
  subst hd hl
  simp only [Bool.and_eq_true, decide_eq_true_eq] at hB
  obtain ⟨⟨⟨⟨⟨⟨h1, h2⟩, h3⟩, h4⟩, h5⟩, h6⟩, h7⟩ := hB
  exact mix_first hi (Region.noSelect_spec h1) hQ h2 h3 (fun l a w hL j hj => by
    obtain ⟨rfl, _⟩ := hL
    have := List.all_eq_true.1 h7 j hj
    simpa using this) f listed a w (headB_spec h4) (Region.free_spec hi h5) (by simpa using h6) hy hS h
/-- The one operation that may come up; S is to be shown anew behind it. -/
theorem phs_op {n g : Nat} {l1 : Array Bool} (l' : Array Bool) {i : Nat} {o : Oper} {f : Nat} {listed : Array Bool} {a : Act} {w : World} (hi : ops[i]? = some o) (hB : (decide (i < n) && decide (Region.ready .any ops listed = [i])) = true) (hl : listed.setIfInBounds i true = l')
    (h : ∀ K' : Act → World → Prop, Shut (∀ a w, S w → (S w → Phs P ops Q S n g l1 f l' a w) → K' a w) → if Region.wanted o (yielded ops a.tmps) = true then Oper.wp P o a w K' Q else K' (a.put o.dst undef) w) : Phs P ops Q S n g l1 (f + 1) listed a w := by
  subst hl
  simp only [Bool.and_eq_true, decide_eq_true_eq] at hB
  refine ⟨fun h0 => (by rw [hB.2] at h0; cases h0), fun j hj => ?_⟩
  rw [hB.2] at hj
  obtain rfl : j = i := by simpa using hj
  exact ⟨hB.1, wpOp_step hi (fun K' hK => h K' (fun a w hS hW => hK a w ⟨hS, hW hS⟩))⟩
/-- The normal exit led elsewhere. -/
def NormalTo (K : Act → World → Prop) (Q : Exit → Act → World → Prop) : Exit → Act → World → Prop
  | .normal, a, w => K a w
  | e, a, w => Q e a w
theorem wpOp_of_list {i : Nat} {o : Oper} {K : Act → World → Prop} {a : Act} {w : World} (hi : ops[i]? = some o) (h : wpList P ops (NormalTo K Q) [o] a w) : wpOp P ops Q i K a w := by
  unfold wpOp
  rw [hi]
  show if Region.wanted o (yielded ops a.tmps) = true then _ else _
  unfold wpList at h
  split
  · rename_i hw
    rw [if_pos hw] at h
    rcases h with h | ⟨h1, a', w', h2⟩
    · refine .inl ?_
      unfold Oper.wp at *
      generalize (execOp a.eval o).run P w = r at *
      cases r with
      | ok n w' => cases n <;> exact h
      | _ => exact h
    · exact .inr ⟨h1, a', w', h2⟩
  · rename_i hw
    rw [if_neg hw] at h
    exact h
/-- The one operation that may come up, as a list of one: the walk's own steps and laws go through it. -/
theorem phs_list {n g : Nat} {l1 : Array Bool} (l' : Array Bool) {i : Nat} {o : Oper} {f : Nat} {listed : Array Bool} {a : Act} {w : World} (hi : ops[i]? = some o) (hB : (decide (i < n) && decide (Region.ready .any ops listed = [i])) = true) (hl : listed.setIfInBounds i true = l')
    (h : ∀ K' : Act → World → Prop, Shut (∀ a w, S w → (S w → Phs P ops Q S n g l1 f l' a w) → K' a w) → wpList P ops (NormalTo K' Q) [o] a w) : Phs P ops Q S n g l1 (f + 1) listed a w := by
  subst hl
  simp only [Bool.and_eq_true, decide_eq_true_eq] at hB
  refine ⟨fun h0 => (by rw [hB.2] at h0; cases h0), fun j hj => ?_⟩
  rw [hB.2] at hj
  obtain rfl : j = i := by simpa using hj
  exact ⟨hB.1, wpOp_of_list hi (h _ (fun a w hS hW => ⟨hS, hW hS⟩))⟩
/-- The phase is over. -/
theorem phs_end {n g : Nat} {l1 : Array Bool} {a : Act} {w : World} (h : wpAny P .any ops Q g l1 a w) : Phs P ops Q S n g l1 0 l1 a w := ⟨rfl, h⟩
/-- The phase's end is the region's. -/
theorem phs_last {n : Nat} {l1 : Array Bool} {a : Act} {w : World} (hr : Region.ready .any ops l1 = []) (h : Q .normal a w) : Phs P ops Q S n 0 l1 0 l1 a w := ⟨rfl, hr, h⟩
/-- What is left goes in the text's order. -/
theorem any_seq {l : List Oper} {k g : Nat} {l1 : Array Bool} {a : Act} {w : World} (hB : (decide ((l.drop k).length = g) && Region.seqB .any l.toArray g k l1) = true) (h : wpList P l.toArray Q (l.drop k) a w) : wpAny P .any l.toArray Q g l1 a w := by
  simp only [Bool.and_eq_true, decide_eq_true_eq] at hB
  obtain ⟨h1, h2⟩ := hB
  have := wpAny_of_seq (md := .any) (Q' := Q) (l.drop k) k l1 a w (fun j => by simp [List.getElem?_drop]) (by rw [h1]; exact h2) h
  rwa [h1] at this
end
end Go.Proofs.YtahcedpfnechfaaDoor
