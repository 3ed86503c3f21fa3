/-
  Merged texts: SwL, SwX, SwP, HeldTail, Phase, SwWith.
-/
import Derived.Test.YtbidgpeeogoglaaGa
import Derived.Deep.AppendLies
import Derived.Test.YtbidgpeeogoglaaGd
import Derived.Deep.RegionHeld
import Derived.Test.YtbidgpeeogoglaaHj
import Derived.Test.YtbidgpeeogoglaaGf
import Derived.Maps.OwnIn
/-
  Lists of slots: slices.Contains, lineageref19.has; what 'with' makes (pure).
-/
namespace Go.Proofs.Ytbidgpeeogoglaa
set_option maxRecDepth 100000
open Go.RowKit

/-- A list, and those of another one that it hasn't. -/
def withL (l m : List Nat) : List Nat := m.foldl (fun l x => if x ∈ l then l else l ++ [x]) l
theorem withL_take (l m : List Nat) {k x : Nat} (h : m[k]? = some x) : withL l (m.take (k + 1)) = if x ∈ withL l (m.take k) then withL l (m.take k) else withL l (m.take k) ++ [x] := by
  unfold withL
  rw [List.take_add_one, h]
  simp [List.foldl_append]
theorem withL_nodup {l : List Nat} (m : List Nat) (h : l.Nodup) : (withL l m).Nodup := by
  unfold withL
  induction m generalizing l with
  | nil => exact h
  | cons x m ih =>
    simp only [List.foldl_cons]
    split
    · exact ih h
    · rename_i hx
      exact ih (List.nodup_append.2 ⟨h, by simp, fun a ha b hb e => by simp at hb; subst hb; subst e; exact hx ha⟩)
theorem withL_lt {l m : List Nat} (h : ∀ x ∈ l, x < 32) (h2 : ∀ x ∈ m, x < 32) : ∀ x ∈ withL l m, x < 32 := by
  unfold withL
  induction m generalizing l with
  | nil => exact h
  | cons y m ih =>
    simp only [List.foldl_cons]
    refine ih ?_ (fun x hx => h2 x (List.mem_cons_of_mem _ hx))
    intro x hx
    split at hx
    · exact h x hx
    · rcases List.mem_append.1 hx with hx | hx
      · exact h x hx
      · simp at hx; subst hx; exact h2 _ (List.mem_cons_self ..)
set_option maxHeartbeats 2000000 in
theorem idx_any (A : Option Addr) (c n : Nat) (L : List Nat) (hn : L.length = n) (hl : n ≤ 1000000) (x : Nat) (w : World) (hin : IntsAt w A (natInts L)) : Calls Try.prog 62 #[.slice A n c, .int .i64 x] w (fun e w' => w' = w ∧ ∃ j : Int, e = .returned (.int .i64 j) ∧ (0 ≤ j ↔ x ∈ L)) := by
  have HN := Lib.hid hn
  have HI := Lib.hid hin
  clear hin hn
  go_enter Try.func62, Try.ntmps62
  go_wp2
  go_loopw [8] (fun v wr => ∃ k : Nat, k ≤ n ∧ v = .int .i64 k ∧ wr = w ∧ ∀ j, j < k → L[j]? ≠ some x) (fun v _ => n - (intOf v).toNat)
  case atStart => exact ⟨0, Nat.zero_le _, rfl, rfl, fun j hj => absurd hj (Nat.not_lt_zero _)⟩
  case round =>
    obtain ⟨k, hk, rfl, rfl, hno⟩ := hrel
    have HNO := Lib.hid hno
    clear hno
    by_cases hlt : k < n
    · have hki : (k : Int) < (n : Int) := by omega
      obtain ⟨y, hy⟩ : ∃ y, L[k]? = some y := ⟨_, List.getElem?_eq_getElem (by rw [HN.out]; exact hlt)⟩
      obtain ⟨b1, o1, rfl, g1, r1⟩ := HI.out (by rw [natInts_len, HN.out]; omega)
      have d1 := r1 k (y : Int) (by simp [natInts, hy])
      have HY := Lib.hid hy
      clear r1 hy
      by_cases he : y = x
      · subst he
        go_wp2
        go_ret
        exact ⟨rfl, (k : Int), rfl, ⟨fun _ => List.mem_of_getElem? HY.out, fun _ => by omega⟩⟩
      · have hei : ((x : Int) == (y : Int)) = false := by simp; omega
        go_wp2
        go_roundw
        case rel => exact ⟨k + 1, by omega, by go_num, by trivial, fun j hj => by
          rcases Nat.lt_or_ge j k with h1 | h1
          · exact HNO.out j h1
          · obtain rfl : j = k := by omega
            rw [HY.out]; intro e; injection e with e; exact he e⟩
        case measure => simp [intOf] <;> omega
    · obtain rfl : k = n := by omega
      have hni : x ∉ L := fun hm => by
        obtain ⟨j, hj⟩ := List.getElem?_of_mem hm
        have := (List.getElem?_eq_some_iff.1 hj).1
        exact HNO.out j (by rw [← HN.out]; exact this) hj
      go_wp2
      go_ret
      exact ⟨rfl, -1, rfl, ⟨fun h => absurd h (by omega), fun h => absurd h hni⟩⟩
set_option maxHeartbeats 2000000 in
theorem contains_any (A : Option Addr) (c n : Nat) (L : List Nat) (hn : L.length = n) (hl : n ≤ 1000000) (x : Nat) (w : World) (hin : IntsAt w A (natInts L)) : Calls Try.prog 59 #[.slice A n c, .int .i64 x] w (RetSame (.bool (decide (x ∈ L))) w) := by
  have HX := Lib.hid (idx_any A c n L hn hl x w hin)
  clear hin hn
  by_cases hm : x ∈ L
  · rw [decide_eq_true hm]
    go_enter Try.func59, Try.ntmps59
    go_wp2_with (go_at_call 62; fail)
    refine HX.out.mono ?_
    rintro e w' ⟨rfl, j, rfl, hj⟩
    have hj0 : (0 : Int) ≤ j := hj.2 hm
    clear hj hm HX
    go_wp2
    go_ret
    exact ⟨rfl, rfl⟩
  · rw [decide_eq_false hm]
    go_enter Try.func59, Try.ntmps59
    go_wp2_with (go_at_call 62; fail)
    refine HX.out.mono ?_
    rintro e w' ⟨rfl, j, rfl, hj⟩
    have hj0 : ¬ (0 : Int) ≤ j := fun h => hm (hj.1 h)
    have hj1 : decide ((0 : Int) ≤ j) = false := decide_eq_false hj0
    clear hj hm HX
    go_wp2
    go_ret
    exact ⟨by simp [hj0], rfl⟩
end Go.Proofs.Ytbidgpeeogoglaa
/-
  lineageref19.with: walked.
-/
namespace Go.Proofs.Ytbidgpeeogoglaa
set_option maxRecDepth 100000
open Go.RowKit

/-- 'append' of one new element, and where the row lies then. -/
theorem wpList_append_one_lies {P : Program} {w : World} {ops : Array Oper} {rest : List Oper} {o' : Oper} {a : Act} {Q : Exit → Act → World → Prop} {cs : Array Value} {e : TypeId} (hgd : o'.guard = none) (s x : Operand) (t : TypeId) (ho : o'.op = .call { callee := .builtin .append, args := #[s, x], argTypes := #[t, t] })
    {base : Nat} {i : TypeInfo} {z : Value} {size bytes : Nat} (ht : P.underlying t = some (.slice e)) (hi : P.info? e = some i) (hz : i.zero = some z)
    (hsize : i.size = size) (hby : i.bytes = bytes) (hzs : z.cells.size = size) (hsz : 0 < size)
    {v : Value} {n : Nat} {xs : List Value} (hs : a.eval s = v) (hown : w.ownsRow base e size v n xs)
    (hx : a.eval x = .slice (some ⟨w.heap.size, 0, none⟩) 1 1) (hcs : cs.size = size) (h1 : ∀ u ∈ cs.toList, u.oneCell' = true)
    (h63 : n + 1 ≤ maxLen) (hbytes : (n + 1) * bytes ≤ 140737488355328) (hbase : base ≤ w.heap.size)
    (h : ∀ g cap w', w'.ownsRow base e size (.slice (some ⟨g, 0, none⟩) (n + 1) cap) (n + 1) (xs ++ cs.toList) → w.grownBy w' v.ownBlock → (v.ownBlock = some g ∨ w.heap.size < g) → wpList P ops Q rest (a.put o'.dst (.slice (some ⟨g, 0, none⟩) (n + 1) cap)) w') :
    wpList P ops Q (o' :: rest) a (w.alloc (.cells cs e)) := by
  refine wpList_append_lies (w.alloc (.cells cs e)) hgd s x t ho base e i z size bytes ht hi hz hsize hby hzs hsz v n xs hs (hown.alloc _) ⟨w.heap.size, 0, none⟩ 1 1 cs.toList hx (by simp [hcs]) ?_ h1 (by omega) h63 hbytes (by simp; omega) _ rfl ?_
  · intro j u hu
    rw [Addr.add_lit]
    exact (Blk.new w e cs).row.at_ j u (by simpa using hu)
  · intro g cap w' hown' hgrow hg _
    refine h g cap w' hown' ?_ ?_
    · have := World.grownBy_alloc w (.cells cs e) v.ownBlock
      exact ⟨hgrow.os.trans this.os, hgrow.tape.trans this.tape, hgrow.output.trans this.output, Nat.le_trans this.size hgrow.size, fun k hk hne => (hgrow.block k (Nat.lt_of_lt_of_le hk this.size) hne).trans (this.block k hk hne)⟩
    · rcases hg with hg | hg
      · exact .inl hg
      · exact .inr (by rw [hg, World.size_alloc]; omega)
theorem IntsAt.apart {w w' : World} {A : Option Addr} {xs : List Int} {r : Option Nat} (h : IntsAt w A xs) (hg : w.grownBy w' r) (hne : ∀ a, A = some a → r ≠ some a.block) : IntsAt w' A xs := fun hp => by
  obtain ⟨b, off, rfl, hlt, hc⟩ := h hp
  exact ⟨b, off, rfl, Nat.lt_of_lt_of_le hlt hg.size, fun k i hk => (World.cell?_of_block (a := ⟨b, off + k, none⟩) (hg.block b hlt (fun e => hne _ rfl e.symm))).trans (hc k i hk)⟩
theorem withL_len (l m : List Nat) : (withL l m).length ≤ l.length + m.length := by
  unfold withL
  induction m generalizing l with
  | nil => simp
  | cons x m ih =>
    simp only [List.foldl_cons, List.length_cons]
    split
    · have := ih l; omega
    · have := ih (l ++ [x]); simp only [List.length_append, List.length_cons, List.length_nil] at this; omega
end Go.Proofs.Ytbidgpeeogoglaa
/-
  All of the garbage, as pure law.
-/
namespace Go.Proofs.Ytbidgpeeogoglaa
set_option maxRecDepth 100000

/-- One slot's children behind the list. -/
def St.swStep (R : St) (k : Nat) (l : List Nat) : List Nat := match l[k]? with | some x => withL l (R.all (R.slotAt x).kids) | none => l
def St.swIt (R : St) (last : Int) : Nat → List Nat
  | 0 => withL [] (R.all last)
  | k + 1 => R.swStep k (R.swIt last k)
/-- All garbage slots, in the order in which they are freed. -/
def St.swAll (R : St) (last : Int) : List Nat := R.swIt last 32
theorem all_lt (S : St) (last : Int) : ∀ x ∈ S.all last, x < 32 := by
  unfold St.all
  split
  · intro x hx
    exact run_lt S 32 _ x ((upto_pre _ _).subset hx)
  · intro x hx; cases hx
theorem swIt_row (R : St) (last : Int) : ∀ k, (R.swIt last k).Nodup ∧ ∀ x ∈ R.swIt last k, x < 32
  | 0 => ⟨withL_nodup _ List.nodup_nil, withL_lt (fun x hx => by cases hx) (all_lt R last)⟩
  | k + 1 => by
    have ih := swIt_row R last k
    unfold St.swIt St.swStep
    split
    · exact ⟨withL_nodup _ ih.1, withL_lt ih.2 (all_lt R _)⟩
    · exact ih
theorem swIt_len (R : St) (last : Int) (k : Nat) : (R.swIt last k).length ≤ 32 := nodup_len 32 _ (swIt_row R last k).1 (swIt_row R last k).2
theorem swIt_stay (R : St) (last : Int) {k : Nat} (h : (R.swIt last k).length ≤ k) : ∀ j, R.swIt last (k + j) = R.swIt last k
  | 0 => rfl
  | j + 1 => by
    have ih := swIt_stay R last h j
    show R.swStep (k + j) (R.swIt last (k + j)) = _
    rw [ih]
    unfold St.swStep
    rw [List.getElem?_eq_none (by omega)]
theorem swAll_at (R : St) (last : Int) {k : Nat} (hk : k ≤ 32) (h : (R.swIt last k).length ≤ k) : R.swAll last = R.swIt last k := by
  have := swIt_stay R last h (32 - k)
  rw [show k + (32 - k) = 32 by omega] at this
  exact this
theorem swIt_next (R : St) (last : Int) {k x : Nat} (h : (R.swIt last k)[k]? = some x) : R.swIt last (k + 1) = withL (R.swIt last k) (R.all (R.slotAt x).kids) := by
  show R.swStep k (R.swIt last k) = _
  unfold St.swStep
  rw [h]
end Go.Proofs.Ytbidgpeeogoglaa
/-
  A region that draws its order: reads that yield in every world of a class S, one call that keeps S, and behind them a tail in one forced order. After the library's StillTail and OrdersHeld. Over any program.
-/
namespace Go.Proofs.Ytbidgpeeogoglaa
set_option maxRecDepth 100000
set_option maxRecDepth 100000
open Go.Sort Go.RowKit

section
variable {P : Program} {ops : Array Oper} {md : Region.Mode} {S : World → Prop} {Q : Exit → Act → World → Prop}

def wpAnyHL (P : Program) (md : Region.Mode) (ops : Array Oper) (Q : Exit → Act → World → Prop) (S : World → Prop) (n : Nat) (L : Array Bool → Act → World → Prop) : Nat → Array Bool → Act → World → Prop
  | 0, listed, a, w => L listed a w
  | f + 1, listed, a, w => Region.ready md ops listed ≠ [] ∧ ∀ i ∈ Region.ready md ops listed, i < n ∧ wpOp P ops Q i (fun a' w' => S w' ∧ wpAnyHL P md ops Q S n L f (listed.setIfInBounds i true) a' w') a w

theorem wpAny_of_headHL {n g : Nat} {L : Array Bool → Act → World → Prop} (hL : ∀ listed a w, L listed a w → wpAny P md ops Q g listed a w) :
    ∀ (f : Nat) (listed : Array Bool) (a : Act) (w : World), wpAnyHL P md ops Q S n L f listed a w → wpAny P md ops Q (f + g) listed a w
  | 0, listed, a, w, h => by rw [Nat.zero_add]; exact hL _ _ _ h
  | f + 1, listed, a, w, h => by
    rw [show f + 1 + g = (f + g) + 1 by omega]
    exact ⟨fun h0 => absurd h0 h.1, fun i hi => wpOp_mono (fun a' w' h' => wpAny_of_headHL hL f _ a' w' h'.2) (h.2 i hi).2⟩

theorem wpAnyHL_first {n i : Nat} {oi : Oper} {v : Value} {L : Array Bool → Act → World → Prop} (hi : ops[i]? = some oi) (hsel : ∀ (j : Nat) (o : Oper) cs b, ops[j]? = some o → o.op ≠ .select cs b)
    (hQ : ∀ c a w, Q (.panic c) (a.put oi.dst v) w → Q (.panic c) a w)
    (hs : Region.sinkB md ops n = true) (hc : Region.chainB md ops n = true) (hn : n < ops.size) (hin : i < n)
    (hdone : ∀ listed a w, L listed a w → ∀ j ∈ Region.ready md ops listed, n ≤ j) :
    ∀ (f : Nat) (listed : Array Bool) (a : Act) (w : World), HeadInv md ops n listed →
      (∀ j oj, ops[j]? = some oj → j ≠ i → listed.getD j true = false → (∀ e ∈ oj.after, Region.binds md e = true → e.on ≠ i) → oi.apart ops oj = true) →
      i ∈ Region.ready md ops listed → YieldsIf P ops S oi v a → S w →
      wpAnyHL P md ops Q S n L f (listed.setIfInBounds i true) (a.put oi.dst v) w → wpAnyHL P md ops Q S n L (f + 1) listed a w := by
  intro f
  induction f with
  | zero =>
    intro listed a w inv _ hr hy hS H
    have hun := (mem_ready.1 hr).1
    refine ⟨fun h => (by rw [h] at hr; cases hr), fun j hj => ?_⟩
    have hjn : j < n := by
      rcases Nat.lt_or_ge j n with h | h
      · exact h
      · exact absurd hj (tail_waits hs hc hn inv _ i rfl hin hun j h)
    refine ⟨hjn, ?_⟩
    by_cases hji : j = i
    · subst hji; exact hy.wpOp hi hS ⟨hS, H⟩
    · have := hdone _ _ _ H j (ready_mono hj hji)
      omega
  | succ f ih =>
    intro listed a w inv hfree hr hy hS H
    have hun := (mem_ready.1 hr).1
    refine ⟨fun h => (by rw [h] at hr; cases hr), fun j hj => ?_⟩
    have hjn : j < n := by
      rcases Nat.lt_or_ge j n with h | h
      · exact h
      · exact absurd hj (tail_waits hs hc hn inv _ i rfl hin hun j h)
    refine ⟨hjn, ?_⟩
    by_cases hji : j = i
    · subst hji; exact hy.wpOp hi hS ⟨hS, H⟩
    · have h1 := (H.2 j (ready_mono hj hji)).2
      obtain ⟨hjun, oj, hoj, hall⟩ := mem_ready.1 hj
      have hnot : ∀ e ∈ oj.after, Region.binds md e = true → e.on ≠ i := fun e he hb heq => by
        have h1 := hall e he hb
        rw [heq, getD_both hun] at h1
        cases h1
      have h2 := wpOp_putIf hoj (hfree j oj hoj hji hjun hnot) (fun cs b => hsel i oi cs b hi) (fun cs b => hsel j oj cs b hoj) hQ hy h1
      have hfree' : ∀ k ok, ops[k]? = some ok → k ≠ i → (listed.setIfInBounds j true).getD k true = false →
          (∀ e ∈ ok.after, Region.binds md e = true → e.on ≠ i) → oi.apart ops ok = true := fun k ok hk hki hun hno => by
        refine hfree k ok hk hki ?_ hno
        by_cases hjk : j = k
        · subst hjk; exact hjun
        · rw [getD_set_ne true hjk] at hun; exact hun
      refine wpOp_mono (fun a' w' h3 => ⟨h3.2.1, ih (listed.setIfInBounds j true) a' w' (inv.set hj hjn) hfree' (ready_mono hr (Ne.symm hji)) h3.1 h3.2.1 ?_⟩) h2
      rw [Array.setIfInBounds_comm _ _ hji]
      exact h3.2.2

/-- Reads that yield in every world that meets S, one behind the other. -/
def wpHeld (P : Program) (ops : Array Oper) (S : World → Prop) (Q : Exit → Act → World → Prop) (L : Act → Prop) : List Oper → Act → Prop
  | [], a => L a
  | o :: l, a => ∃ v, YieldsIf P ops S o v a ∧ (∀ c a w, Q (.panic c) (a.put o.dst v) w → Q (.panic c) a w) ∧ wpHeld P ops S Q L l (a.put o.dst v)
theorem wpHeld_cons {L : Act → Prop} {o : Oper} {l : List Oper} {a : Act} {v : Value} (hQ : ∀ c a w, Q (.panic c) (a.put o.dst v) w → Q (.panic c) a w) (hy : YieldsIf P ops S o v a) (h : wpHeld P ops S Q L l (a.put o.dst v)) : wpHeld P ops S Q L (o :: l) a := ⟨v, hy, hQ, h⟩

theorem wpAnyHL_lex {n g : Nat} (hsel : Region.noSelect ops = true) (hs : Region.sinkB md ops n = true) (hc : Region.chainB md ops n = true) (hn : n < ops.size) {T : Act → World → Prop} {w : World} (hS : S w) {om : Oper} (hm : ops[n - 1]? = some om) :
    ∀ (l : List Oper) (k : Nat) (listed : Array Bool) (a : Act), (∀ j, j < l.length → l[j]? = ops[k + j]?) → k + l.length + 1 = n → HeadInv md ops n listed → (∀ j, j < k → listed.getD j true = true) →
    Region.lexHead md ops g (l.length + 1) k listed = true → wpHeld P ops S Q (fun a' => wpOp P ops Q (n - 1) (fun a'' w'' => S w'' ∧ T a'' w'') a' w) l a →
    wpAnyHL P md ops Q S n (fun listed' a' w' => Region.seqB md ops g n listed' = true ∧ T a' w') (l.length + 1) listed a w
  | [], k, listed, a, _, hk, inv, hd, hB, h => by
    have hkn : k = n - 1 := by simp at hk; omega
    subst hkn
    simp only [List.length_nil, Region.lexHead, Bool.and_eq_true] at hB
    obtain ⟨⟨hr, _⟩, hB'⟩ := hB
    have hr' : n - 1 ∈ Region.ready md ops listed := by simpa using hr
    have hun := (mem_ready.1 hr').1
    have hn0 : n - 1 < n := by simp at hk; omega
    refine ⟨fun h0 => (by rw [h0] at hr'; cases hr'), fun j hj => ?_⟩
    have hjn : j < n := by
      rcases Nat.lt_or_ge j n with h | h
      · exact h
      · exact absurd hj (tail_waits hs hc hn inv _ (n - 1) rfl hn0 hun j h)
    refine ⟨hjn, ?_⟩
    have hj1 : j = n - 1 := by
      rcases Nat.lt_or_ge j (n - 1) with h1 | h1
      · have h2 := (mem_ready.1 hj).1
        rw [hd j h1] at h2
        cases h2
      · omega
    subst hj1
    have hB2 : Region.seqB md ops g n (listed.setIfInBounds (n - 1) true) = true := by
      have e : n - 1 + 1 = n := by omega
      rw [e] at hB'
      exact hB'
    have h0 : wpOp P ops Q (n - 1) (fun a'' w'' => S w'' ∧ T a'' w'') a w := h
    exact wpOp_mono (fun a' w' h' => ⟨h'.1, hB2, h'.2⟩) h0
  | o :: l, k, listed, a, hl, hk, inv, hd, hB, h => by
    have h0 : ops[k]? = some o := by simpa using (hl 0 (by simp)).symm
    rw [List.length_cons, Region.lexHead] at hB
    simp only [Bool.and_eq_true] at hB
    obtain ⟨⟨hr, hf⟩, hB'⟩ := hB
    have hkn : k < n := by simp only [List.length_cons] at hk; omega
    have hr' : k ∈ Region.ready md ops listed := by simpa using hr
    obtain ⟨v, hy, hQ, hK⟩ := h
    have hks : k < listed.size := by rw [inv.size]; omega
    exact wpAnyHL_first h0 (Region.noSelect_spec hsel) hQ hs hc hn hkn (fun listed' a' w' hL => seqB_ready hL.1) (l.length + 1) listed a w inv (Region.free_spec h0 hf) hr' hy hS
      (wpAnyHL_lex hsel hs hc hn hS hm l (k + 1) _ _ (fun j hj => by have := hl (j + 1) (by simp; omega); simpa [Nat.add_assoc, Nat.add_comm 1 j] using this) (by simp only [List.length_cons] at hk; omega) (inv.set hr' hkn)
        (fun j hj => by
          by_cases hjk : k = j
          · subst hjk; simp [Array.getD, hks]
          · rw [getD_set_ne true hjk]; exact hd j (by omega)) hB' hK)

/-- Reads of one class of worlds, one call (number 'm') that keeps the class, and then a tail in one forced order. -/
theorem wp_region_held_tail {id : Nat} {a : Act} {w : World} {l : List Oper} (m : Nat) (hm : P.follows .mixedOrders = true) (hB : Region.lexTailB .any l.toArray (m + 1) = true) {om : Oper} (ho : l[m]? = some om) (hS : S w.drew)
    (h : wpHeld P l.toArray S Q (fun a' => ∀ K' : Act → World → Prop, Shut (∀ a w, S w → (S w → wpList P l.toArray Q (l.drop (m + 1)) a w) → K' a w) → if Region.wanted om (yielded l.toArray a'.tmps) = true then Oper.wp P om a' w.drew K' Q else K' (a'.put om.dst undef) w.drew) (l.take m) a) : (Code.region id l.toArray true).wp P Q a w := by
  simp only [Region.lexTailB, Bool.and_eq_true, decide_eq_true_eq] at hB
  obtain ⟨⟨⟨⟨hsel, hn⟩, hs⟩, hc⟩, hlex⟩ := hB
  have hn' : m + 1 < l.length := by simpa using hn
  have htl : (l.take m).length = m := by simp; omega
  have hdl : (l.drop (m + 1)).length = l.toArray.size - (m + 1) := by simp
  have hom : l.toArray[m + 1 - 1]? = some om := by simpa using ho
  have inv0 : HeadInv .any l.toArray (m + 1) (Array.replicate l.toArray.size false) :=
    ⟨by simp, fun j oj _ hl => (by rw [getD_replicate_false] at hl; cases hl), fun t _ ht => getD_in (by simpa using ht) (getD_replicate_false _ _)⟩
  have h' : wpHeld P l.toArray S Q (fun a' => wpOp P l.toArray Q (m + 1 - 1) (fun a'' w'' => S w'' ∧ wpList P l.toArray Q (l.drop (m + 1)) a'' w'') a' w.drew) (l.take m) a := by
    revert h
    generalize l.take m = t
    intro h
    induction t generalizing a with
    | nil =>
      show wpOp P l.toArray Q (m + 1 - 1) (fun a'' w'' => S w'' ∧ wpList P l.toArray Q (l.drop (m + 1)) a'' w'') a w.drew
      exact wpOp_step hom (fun K' hK => h K' (fun a w hS hW => hK a w ⟨hS, hW hS⟩))
    | cons o t ih => obtain ⟨v, hy, hQ, hK⟩ := h; exact ⟨v, hy, hQ, ih hK⟩
  have H := wpAnyHL_lex (md := .any) (g := l.toArray.size - (m + 1)) hsel hs hc hn hS hom (l.take m) 0 _ a (fun j hj => by
    have hj' : j < m := by rw [htl] at hj; exact hj
    simp [hj']) (by rw [htl]; omega) inv0 (fun j hj => by omega) (by rw [htl]; exact hlex) h'
  refine wp_region_any hm ?_
  have := wpAny_of_headHL (g := l.toArray.size - (m + 1)) (fun listed a' w' hL => by
    have := wpAny_of_seq (md := .any) (Q' := Q) (l.drop (m + 1)) (m + 1) listed a' w' (fun j => by simp [List.getElem?_drop]) (by rw [hdl]; exact hL.1) hL.2
    rwa [hdl] at this) _ _ _ _ H
  rw [htl, show m + 1 + (l.toArray.size - (m + 1)) = l.toArray.size by omega] at this
  exact this
end
end Go.Proofs.Ytbidgpeeogoglaa
/-
  A region that draws its order: reads that yield in every world of a class S, one call (number m) for which all else waits, and behind it the rest, in whatever order, over another class that is named there. Over any program.
-/
namespace Go.Proofs.Ytbidgpeeogoglaa
set_option maxRecDepth 100000
set_option maxRecDepth 100000
open Go.Sort Go.RowKit

section
variable {P : Program} {ops : Array Oper} {md : Region.Mode} {S : World → Prop} {Q : Exit → Act → World → Prop}

def lexR (md : Region.Mode) (ops : Array Oper) : Nat → Nat → Array Bool → Bool
  | 0, k, listed => (Region.ready md ops listed).contains k
  | f + 1, k, listed => (Region.ready md ops listed).contains k && Region.free md ops listed k && lexR md ops f (k + 1) (listed.setIfInBounds k true)
def sinkR (md : Region.Mode) (ops : Array Oper) (m : Nat) : Bool :=
  (List.range m).all fun i => (List.range (m + 1)).any fun j => decide (i < j) && Region.waitsFor md ops j i
def gateR (md : Region.Mode) (ops : Array Oper) (m : Nat) : Bool :=
  (List.range ops.size).all fun t => decide (t ≤ m) || (List.range t).any fun j => decide (m ≤ j) && Region.waitsFor md ops t j
def phaseB (md : Region.Mode) (ops : Array Oper) (m : Nat) : Bool :=
  Region.noSelect ops && decide (m < ops.size) && sinkR md ops m && gateR md ops m && lexR md ops m 0 (Array.replicate ops.size false)
/-- The first ones are listed. -/
def firsts : Nat → Array Bool → Array Bool
  | 0, l => l
  | k + 1, l => (firsts k l).setIfInBounds k true
theorem firsts_size (k : Nat) (l : Array Bool) : (firsts k l).size = l.size := by
  induction k with
  | zero => rfl
  | succ k ih => unfold firsts; simp [ih]
theorem firsts_at (l : Array Bool) (b : Bool) : ∀ (k j : Nat), j < k → j < l.size → (firsts k l).getD j b = true := by
  intro k
  induction k with
  | zero => intro j h; omega
  | succ k ih =>
    intro j h hl
    unfold firsts
    by_cases hjk : k = j
    · subst hjk
      have : k < (firsts k l).size := by rw [firsts_size]; exact hl
      simp [Array.getD, this]
    · rw [getD_set_ne b hjk]
      exact ih j (by omega) hl

theorem unlisted_last {m i : Nat} {listed : Array Bool} (hs : sinkR md ops m = true) (hm : m < ops.size) (inv : HeadInv md ops (m + 1) listed) :
    ∀ (d i : Nat), m - i = d → i < m → listed.getD i true = false → listed.getD m true = false ∧ m ∉ Region.ready md ops listed := by
  intro d
  induction d using Nat.strongRecOn with
  | _ d ih =>
    intro i hd hi hun
    have h1 := List.all_eq_true.1 hs i (List.mem_range.2 hi)
    obtain ⟨j, hj, hj2⟩ := List.any_eq_true.1 h1
    simp only [Bool.and_eq_true, decide_eq_true_eq] at hj2
    obtain ⟨oj, hoj, e, he, hb, hon⟩ := Region.waitsFor_spec hj2.2
    have hjle : j ≤ m := by have := List.mem_range.1 hj; omega
    have hjun : listed.getD j true = false := by
      cases hl : listed.getD j false with
      | true =>
        have h2 := inv.closed j oj hoj hl e he hb
        rw [hon, getD_both hun] at h2
        cases h2
      | false => exact getD_in (by rw [inv.size]; omega) hl
    by_cases hjm : j = m
    · subst hjm
      refine ⟨hjun, fun hr => ?_⟩
      obtain ⟨_, ot, hot, hall⟩ := mem_ready.1 hr
      have : oj = ot := Option.some.inj (hoj.symm.trans hot)
      subst this
      have h2 := hall e he hb
      rw [hon, getD_both hun] at h2
      cases h2
    · exact ih (m - j) (by omega) j rfl (by omega) hjun
theorem gate_waits {m : Nat} {listed : Array Bool} (hg : gateR md ops m = true) (inv : HeadInv md ops (m + 1) listed) (hun : listed.getD m true = false) : ∀ t, m < t → t ∉ Region.ready md ops listed := by
  intro t ht hr
  obtain ⟨_, ot, hot, hall⟩ := mem_ready.1 hr
  have htlt : t < ops.size := (Array.getElem?_eq_some_iff.1 hot).1
  have h1 := List.all_eq_true.1 hg t (List.mem_range.2 htlt)
  simp only [Bool.or_eq_true, decide_eq_true_eq] at h1
  rcases h1 with h1 | h1
  · omega
  · obtain ⟨j, hj, hj2⟩ := List.any_eq_true.1 h1
    simp only [Bool.and_eq_true, decide_eq_true_eq] at hj2
    obtain ⟨o', ho', e, he, hb, hon⟩ := Region.waitsFor_spec hj2.2
    have : o' = ot := Option.some.inj (ho'.symm.trans hot)
    subst this
    have h2 := hall e he hb
    have hju : listed.getD j true = false := by
      by_cases hjm : j = m
      · subst hjm; exact hun
      · exact inv.tail j (by omega) (by have := List.mem_range.1 hj; omega)
    rw [hon, getD_both hju] at h2
    cases h2
/-- While one of the reads is left, only reads may come up. -/
theorem head_only {m i : Nat} {listed : Array Bool} (hs : sinkR md ops m = true) (hg : gateR md ops m = true) (hm : m < ops.size) (inv : HeadInv md ops (m + 1) listed) (hi : i < m) (hun : listed.getD i true = false) : ∀ j ∈ Region.ready md ops listed, j < m := by
  intro j hj
  obtain ⟨h1, h2⟩ := unlisted_last (i := i) hs hm inv (m - i) i rfl hi hun
  rcases Nat.lt_trichotomy j m with h | h | h
  · exact h
  · subst h; exact absurd hj h2
  · exact absurd hj (gate_waits hg inv h1 j h)

def wpAnyP (P : Program) (md : Region.Mode) (ops : Array Oper) (Q : Exit → Act → World → Prop) (S : World → Prop) (m : Nat) (L : Array Bool → Act → World → Prop) : Nat → Array Bool → Act → World → Prop
  | 0, listed, a, w => L listed a w
  | f + 1, listed, a, w => Region.ready md ops listed ≠ [] ∧ ∀ i ∈ Region.ready md ops listed, i ≤ m ∧ wpOp P ops Q i (fun a' w' => (i = m ∨ S w') ∧ wpAnyP P md ops Q S m L f (listed.setIfInBounds i true) a' w') a w

theorem wpAny_of_P {m g : Nat} {L : Array Bool → Act → World → Prop} (hL : ∀ listed a w, L listed a w → wpAny P md ops Q g listed a w) :
    ∀ (f : Nat) (listed : Array Bool) (a : Act) (w : World), wpAnyP P md ops Q S m L f listed a w → wpAny P md ops Q (f + g) listed a w
  | 0, listed, a, w, h => by rw [Nat.zero_add]; exact hL _ _ _ h
  | f + 1, listed, a, w, h => by
    rw [show f + 1 + g = (f + g) + 1 by omega]
    exact ⟨fun h0 => absurd h0 h.1, fun i hi => wpOp_mono (fun a' w' h' => wpAny_of_P hL f _ a' w' h'.2) (h.2 i hi).2⟩

theorem wpAnyP_first {m i : Nat} {oi : Oper} {v : Value} {L : Array Bool → Act → World → Prop} (hi : ops[i]? = some oi) (hsel : ∀ (j : Nat) (o : Oper) cs b, ops[j]? = some o → o.op ≠ .select cs b)
    (hQ : ∀ c a w, Q (.panic c) (a.put oi.dst v) w → Q (.panic c) a w)
    (hs : sinkR md ops m = true) (hg : gateR md ops m = true) (hm : m < ops.size) (him : i < m)
    (hdone : ∀ listed a w, L listed a w → ∀ j ∈ Region.ready md ops listed, m < j) :
    ∀ (f : Nat) (listed : Array Bool) (a : Act) (w : World), HeadInv md ops (m + 1) listed →
      (∀ j oj, ops[j]? = some oj → j ≠ i → listed.getD j true = false → (∀ e ∈ oj.after, Region.binds md e = true → e.on ≠ i) → oi.apart ops oj = true) →
      i ∈ Region.ready md ops listed → YieldsIf P ops S oi v a → S w →
      wpAnyP P md ops Q S m L f (listed.setIfInBounds i true) (a.put oi.dst v) w → wpAnyP P md ops Q S m L (f + 1) listed a w := by
  intro f
  induction f with
  | zero =>
    intro listed a w inv _ hr hy hS H
    have hun := (mem_ready.1 hr).1
    refine ⟨fun h => (by rw [h] at hr; cases hr), fun j hj => ?_⟩
    have hjm := head_only hs hg hm inv him hun j hj
    refine ⟨Nat.le_of_lt hjm, ?_⟩
    by_cases hji : j = i
    · subst hji; exact hy.wpOp hi hS ⟨.inr hS, H⟩
    · have := hdone _ _ _ H j (ready_mono hj hji)
      omega
  | succ f ih =>
    intro listed a w inv hfree hr hy hS H
    have hun := (mem_ready.1 hr).1
    refine ⟨fun h => (by rw [h] at hr; cases hr), fun j hj => ?_⟩
    have hjm := head_only hs hg hm inv him hun j hj
    refine ⟨Nat.le_of_lt hjm, ?_⟩
    by_cases hji : j = i
    · subst hji; exact hy.wpOp hi hS ⟨.inr hS, H⟩
    · have h1 := (H.2 j (ready_mono hj hji)).2
      obtain ⟨hjun, oj, hoj, hall⟩ := mem_ready.1 hj
      have hnot : ∀ e ∈ oj.after, Region.binds md e = true → e.on ≠ i := fun e he hb heq => by
        have h1 := hall e he hb
        rw [heq, getD_both hun] at h1
        cases h1
      have h2 := wpOp_putIf hoj (hfree j oj hoj hji hjun hnot) (fun cs b => hsel i oi cs b hi) (fun cs b => hsel j oj cs b hoj) hQ hy h1
      have hfree' : ∀ k ok, ops[k]? = some ok → k ≠ i → (listed.setIfInBounds j true).getD k true = false →
          (∀ e ∈ ok.after, Region.binds md e = true → e.on ≠ i) → oi.apart ops ok = true := fun k ok hk hki hun hno => by
        refine hfree k ok hk hki ?_ hno
        by_cases hjk : j = k
        · subst hjk; exact hjun
        · rw [getD_set_ne true hjk] at hun; exact hun
      refine wpOp_mono (fun a' w' h3 => ?_) h2
      have hS' : S w' := by
        rcases h3.2.1 with h4 | h4
        · omega
        · exact h4
      refine ⟨.inr hS', ih (listed.setIfInBounds j true) a' w' (inv.set hj (by omega)) hfree' (ready_mono hr (Ne.symm hji)) h3.1 hS' ?_⟩
      rw [Array.setIfInBounds_comm _ _ hji]
      exact h3.2.2

theorem wpAnyP_lex {m : Nat} (hsel : Region.noSelect ops = true) (hs : sinkR md ops m = true) (hg : gateR md ops m = true) (hm : m < ops.size) {T : Act → World → Prop} {w : World} (hS : S w) {om : Oper} (hom : ops[m]? = some om) :
    ∀ (l : List Oper) (k : Nat) (a : Act), (∀ j, j < l.length → l[j]? = ops[k + j]?) → k + l.length = m → HeadInv md ops (m + 1) (firsts k (Array.replicate ops.size false)) →
    lexR md ops l.length k (firsts k (Array.replicate ops.size false)) = true → wpHeld P ops S Q (fun a' => wpOp P ops Q m (fun a'' w'' => T a'' w'') a' w) l a →
    wpAnyP P md ops Q S m (fun listed' a' w' => listed' = firsts (m + 1) (Array.replicate ops.size false) ∧ T a' w') (l.length + 1) (firsts k (Array.replicate ops.size false)) a w
  | [], k, a, _, hk, inv, hB, h => by
    have hkm : k = m := by simpa using hk
    subst hkm
    have hr : k ∈ Region.ready md ops (firsts k (Array.replicate ops.size false)) := by simpa [lexR] using hB
    have hun := (mem_ready.1 hr).1
    refine ⟨fun h0 => (by rw [h0] at hr; cases hr), fun j hj => ?_⟩
    have hjk : j = k := by
      rcases Nat.lt_trichotomy j k with h1 | h1 | h1
      · have h2 := (mem_ready.1 hj).1
        rw [firsts_at _ true k j h1 (by simp; omega)] at h2
        cases h2
      · exact h1
      · exact absurd hj (gate_waits hg inv hun j h1)
    subst hjk
    refine ⟨Nat.le_refl _, ?_⟩
    have h0 : wpOp P ops Q j (fun a'' w'' => T a'' w'') a w := h
    exact wpOp_mono (fun a' w' h' => ⟨.inl rfl, rfl, h'⟩) h0
  | o :: l, k, a, hl, hk, inv, hB, h => by
    have h0 : ops[k]? = some o := by simpa using (hl 0 (by simp)).symm
    rw [List.length_cons, lexR] at hB
    simp only [Bool.and_eq_true] at hB
    obtain ⟨⟨hr, hf⟩, hB'⟩ := hB
    have hkm : k < m := by simp only [List.length_cons] at hk; omega
    have hr' : k ∈ Region.ready md ops (firsts k (Array.replicate ops.size false)) := by simpa using hr
    obtain ⟨v, hy, hQ, hK⟩ := h
    exact wpAnyP_first h0 (Region.noSelect_spec hsel) hQ hs hg hm hkm (fun listed' a' w' hL j hj => by
        rcases Nat.lt_or_ge m j with h1 | h1
        · exact h1
        · have h2 := (mem_ready.1 hj).1
          rw [hL.1, firsts_at _ true (m + 1) j (by omega) (by simp; omega)] at h2
          cases h2) (l.length + 1) _ a w inv (Region.free_spec h0 hf) hr' hy hS
      (wpAnyP_lex hsel hs hg hm hS hom l (k + 1) _ (fun j hj => by have := hl (j + 1) (by simp; omega); simpa [Nat.add_assoc, Nat.add_comm 1 j] using this) (by simp only [List.length_cons] at hk; omega) (inv.set hr' (by omega)) hB' hK)

/-- Reads of one class of worlds, one call (number 'm'), and then the rest over a class that is named behind the call. -/
theorem wp_region_phase {id : Nat} {a : Act} {w : World} {l : List Oper} (m f : Nat) (ls : Array Bool) (hmix : P.follows .mixedOrders = true) (hB : phaseB .any l.toArray m = true) (hf : l.length = m + 1 + f) (hls : firsts (m + 1) (Array.replicate l.length false) = ls) {om : Oper} (ho : l[m]? = some om) (hS : S w.drew)
    (h : wpHeld P l.toArray S Q (fun a' => ∀ K' : Act → World → Prop, Shut (∀ a w (S2 : World → Prop), S2 w → (S2 w → wpAnyH P .any l.toArray Q S2 f ls a w) → K' a w) → if Region.wanted om (yielded l.toArray a'.tmps) = true then Oper.wp P om a' w.drew K' Q else K' (a'.put om.dst undef) w.drew) (l.take m) a) : (Code.region id l.toArray true).wp P Q a w := by
  simp only [phaseB, Bool.and_eq_true, decide_eq_true_eq] at hB
  obtain ⟨⟨⟨⟨hsel, hn⟩, hs⟩, hg⟩, hlex⟩ := hB
  subst hls
  have hn' : m < l.length := by simpa using hn
  have htl : (l.take m).length = m := by simp; omega
  have hom : l.toArray[m]? = some om := by simpa using ho
  have inv0 : HeadInv .any l.toArray (m + 1) (Array.replicate l.toArray.size false) :=
    ⟨by simp, fun j oj _ hl => (by rw [getD_replicate_false] at hl; cases hl), fun t _ ht => getD_in (by simpa using ht) (getD_replicate_false _ _)⟩
  have h' : wpHeld P l.toArray S Q (fun a' => wpOp P l.toArray Q m (fun a'' w'' => ∃ S2 : World → Prop, S2 w'' ∧ wpAnyH P .any l.toArray Q S2 f (firsts (m + 1) (Array.replicate l.toArray.size false)) a'' w'') a' w.drew) (l.take m) a := by
    revert h
    generalize l.take m = t
    intro h
    induction t generalizing a with
    | nil =>
      show wpOp P l.toArray Q m (fun a'' w'' => ∃ S2 : World → Prop, S2 w'' ∧ wpAnyH P .any l.toArray Q S2 f (firsts (m + 1) (Array.replicate l.toArray.size false)) a'' w'') a w.drew
      exact wpOp_step hom (fun K' hK => h K' (fun a w S2 hS hW => hK a w ⟨S2, hS, by simpa using hW hS⟩))
    | cons o t ih => obtain ⟨v, hy, hQ, hK⟩ := h; exact ⟨v, hy, hQ, ih hK⟩
  have H := wpAnyP_lex (md := .any) hsel hs hg hn hS hom (l.take m) 0 a (fun j hj => by
    have hj' : j < m := by rw [htl] at hj; exact hj
    simp [hj']) (by rw [htl]; omega) inv0 (by rw [htl]; exact hlex) h'
  refine wp_region_any hmix ?_
  have := wpAny_of_P (g := f) (fun listed a' w' hL => by
    obtain ⟨rfl, S2, hS2, hW⟩ := hL
    exact wpAny_of_held _ _ _ _ hW) _ _ _ _ H
  rw [htl, show m + 1 + f = l.toArray.size by simp; omega] at this
  exact this
end
end Go.Proofs.Ytbidgpeeogoglaa
/-
  Package sweep: with, walked.
-/
namespace Go.Proofs.Ytbidgpeeogoglaa
set_option maxRecDepth 100000
open Go.RowKit Go.Shelf
attribute [local go_sem] Oper.semAt_some

/-- One new element behind a row of one's own, in a round, and where the row lies then. -/
theorem wpListIn_append_at {F : Fence} {n : Nat} {P : Program} {w : World} {ops : Array Oper} {rest : List Oper} {o' : Oper} {a : Act} {Q : Exit → Act → World → Prop} {cs : Array Value} {e : TypeId} (hgd : o'.guard = none) (s x : Operand) (t : TypeId) (ho : o'.op = .call { callee := .builtin .append, args := #[s, x], argTypes := #[t, t] })
    {base : Nat} {i : TypeInfo} {z : Value} {size bytes : Nat} (ht : P.underlying t = some (.slice e)) (hi : P.info? e = some i) (hz : i.zero = some z)
    (hsize : i.size = size) (hby : i.bytes = bytes) (hzs : z.cells.size = size) (hsz : 0 < size)
    {v : Value} {k : Nat} {xs : List Value} (hs : a.eval s = v) (hown : w.ownsRow base e size v k xs)
    (hx : a.eval x = .slice (some ⟨w.heap.size, 0, none⟩) 1 1) (hcs : cs.size = size) (h1 : ∀ u ∈ cs.toList, u.oneCell' = true)
    (h63 : k + 1 ≤ maxLen) (hbytes : (k + 1) * bytes ≤ 140737488355328) (hbase : base ≤ w.heap.size)
    (h : ∀ g cap w', w'.ownsRow base e size (.slice (some ⟨g, 0, none⟩) (k + 1) cap) (k + 1) (xs ++ cs.toList) → (w.alloc (.cells cs e)).grownBy w' v.ownBlock → (v.ownBlock = some g ∨ w.heap.size < g) → wpListIn F n P ops Q rest (a.put o'.dst (.slice (some ⟨g, 0, none⟩) (k + 1) cap)) w') :
    wpListIn F n P ops Q (o' :: rest) a (w.alloc (.cells cs e)) := by
  refine wpListIn_append_own_at (w.alloc (.cells cs e)) hgd s x t ho base e i z size bytes ht hi hz hsize hby hzs hsz v k xs hs (hown.alloc _) ⟨w.heap.size, 0, none⟩ 1 1 cs.toList hx (by simp [hcs]) ?_ h1 h63 hbytes (by simp; omega) ?_
  · intro j u hu
    rw [Addr.add_lit]
    exact (Blk.new w e cs).row.at_ j u (by simpa using hu)
  · intro v' w' hown' hgrow _ hlie
    obtain ⟨g', cap', rfl⟩ := ownsRow_succ hown'
    refine h g' cap' w' hown' hgrow ?_
    rcases hlie with h | h
    · exact .inl (by rw [← h]; rfl)
    · refine .inr ?_
      have : g' = (w.alloc (.cells cs e)).heap.size := by simpa [Value.ownBlock] using h
      rw [this, World.size_alloc]; omega
/-- Since w: the box b holds a row of one's own (from base on, at A at the first, or new); nothing else that lay in w has turned. -/
structure CollR (w : World) (b base : Nat) (A : Option Nat) (xs : List Nat) (W : World) (v : Value) : Prop where
  box : Boxed W b 22 v
  row : W.ownsRow base 3 1 v xs.length (intVs (natInts xs))
  own : ∀ r, v.ownBlock = some r → some r = A ∨ w.heap.size + 2 ≤ r
  tn : Tn (fun k => k = b ∨ some k = A) w W
theorem Zone.collR {β : Type} {B lo : Nat} {w : World} {b base : Nat} {A : Option Nat} (hw : w.heap.size ≤ B) (f : β → List Nat) : Zone B lo lo (fun s W => ∃ v, CollR w b base A (f s) W v) := by
  intro s W W' row hs hg hr
  obtain ⟨v, h⟩ := hs
  have hcells : ∀ r o, row = some r → W.heap[r]? = some o → o.isCells = true → False := fun r o e h1 h2 => by
    rcases (hr r e).2 with h3 | ⟨o', h3, h4⟩
    · omega
    · rw [h1] at h3; cases h3; rw [h2] at h4; cases h4
  refine ⟨v, h.box.kept hg (fun e => hcells b _ e.symm h.box rfl), h.row.kept hg ?_, h.own, ?_⟩
  · rcases h.row.2 with ⟨e0, _⟩ | ⟨g, cap, cur, e0, hbg, hgb, _⟩
    · exact .inl (by rw [e0]; rfl)
    · refine .inr fun e' => ?_
      rw [e0] at e'
      have e2 : row = some g := by simpa [Value.ownBlock] using e'.symm
      exact hcells g _ e2 hgb rfl
  · refine ⟨hg.os.trans h.tn.os, hg.tape.trans h.tn.tape, hg.output.trans h.tn.output, Nat.le_trans h.tn.size hg.size, fun j hj hne => ?_⟩
    exact (hg.block j (Nat.lt_of_lt_of_le hj h.tn.size) (fun e => by have := (hr j e.symm).1; omega)).trans (h.tn.block j hj hne)
/-- 'list = append(list, ..)' in a round. -/
theorem CollR.step {w V w1 : World} {b base : Nat} {A : Option Nat} {xs ys : List Nat} {v : Value} {g cap : Nat} {tmp : Obj} (h : CollR w b base A xs V v) (hbA : some b ≠ A) (hb : b < w.heap.size) (hA : ∀ r, A = some r → r < w.heap.size)
    (hsz : w.heap.size + 2 ≤ V.heap.size) (hown : w1.ownsRow base 3 1 (.slice (some ⟨g, 0, none⟩) ys.length cap) ys.length (intVs (natInts ys))) (hgrow : (V.alloc tmp).grownBy w1 v.ownBlock) (hlie : v.ownBlock = some g ∨ V.heap.size < g) :
    Boxed w1 b 22 v ∧ CollR w b base A ys (w1.setCell ⟨b, 0, none⟩ (.slice (some ⟨g, 0, none⟩) ys.length cap)) (.slice (some ⟨g, 0, none⟩) ys.length cap) ∧
    ∀ B n₀ (x : Nat → Prop) lo, n₀ ≤ b → n₀ ≤ base → ¬ x b → (∀ r, A = some r → ¬ x r) → (∀ r, w.heap.size + 2 ≤ r → ¬ x r) → n₀ ≤ w.heap.size + 2 → Kept B n₀ x lo lo V (w1.setCell ⟨b, 0, none⟩ (.slice (some ⟨g, 0, none⟩) ys.length cap)) := by
  have hob : ∀ r, v.ownBlock = some r → base ≤ r ∧ r ≠ b ∧ ∃ cs t f, V.heap[r]? = some (.cells cs t f) := fun r e => by
    rcases h.row.2 with ⟨e0, _⟩ | ⟨g, cap, cur, e0, hbg, hgb, _⟩
    · rw [e0] at e; cases e
    · have e1 := e
      rw [e0] at e
      obtain rfl : g = r := by simpa [Value.ownBlock] using e
      refine ⟨hbg, fun e2 => ?_, _, _, _, hgb⟩
      subst e2
      rcases h.own _ e1 with h1 | h1
      · exact hbA h1
      · omega
  have hv1 : Boxed w1 b 22 v := (h.box.alloc tmp).kept hgrow (fun e => (hob b e.symm).2.1 rfl)
  have hgb : g ≠ b := by
    rcases hlie with h1 | h1
    · exact (hob g h1).2.1
    · omega
  refine ⟨hv1, ⟨hv1.set _, hown.kept (grownBy_setCell' w1 b _) (.inr fun e => hgb (by simpa [Value.ownBlock] using e)), ?_, ?_⟩, ?_⟩
  · intro r e
    obtain rfl : g = r := by simpa [Value.ownBlock] using e
    rcases hlie with h1 | h1
    · exact h.own _ h1
    · exact .inr (by omega)
  · have g2 := grownBy_setCell' w1 b (.slice (some ⟨g, 0, none⟩) ys.length cap)
    refine ⟨g2.os.trans (hgrow.os.trans h.tn.os), g2.tape.trans (hgrow.tape.trans h.tn.tape), g2.output.trans (hgrow.output.trans h.tn.output), by have := h.tn.size; have := hgrow.size; have := g2.size; rw [World.size_alloc] at *; omega, fun j hj hne => ?_⟩
    refine (Below.heap_setCell w1 ⟨b, 0, none⟩ _ j (fun e => hne (.inl e))).trans ((hgrow.block j (by rw [World.size_alloc]; have := h.tn.size; omega) (fun e => ?_)).trans ((Below.heap_alloc V tmp j (by have := h.tn.size; omega)).trans (h.tn.block j hj hne)))
    rcases h.own j e.symm with h1 | h1
    · exact hne (.inr h1)
    · omega
  · intro B n₀ x lo hn hnb hx hxA hxn hn2
    refine ((((Kept.refl V).alloc (by omega) tmp).grown (by omega) hgrow ?_).set hn hx (by omega) _)
    intro r e
    obtain ⟨h1, _, cs, t, f, h2⟩ := hob r e
    refine ⟨by omega, ⟨?_, by omega⟩, fun o ho => ?_⟩
    · rcases h.own r e with h3 | h3
      · exact hxA r h3.symm
      · exact hxn r h3
    · have := (Below.heap_alloc V tmp r (Array.getElem?_eq_some_iff.1 h2).1).trans h2
      rw [this] at ho; cases ho; rfl
theorem withL_snoc (L pre : List Nat) (x : Nat) : withL L (pre ++ [x]) = if x ∈ withL L pre then withL L pre else withL L pre ++ [x] := by
  unfold withL
  simp [List.foldl_append]
set_option maxHeartbeats 8000000 in
theorem cwith_any {w : World} {q g : Nat} {S : St} {l : Int} (base : Nat) (v : Value) (L : List Nat) (last : Int) (W : World) (a : Ga w q g S l W) (hown : W.ownsRow base 3 1 v L.length (intVs (natInts L))) (hbase : base ≤ W.heap.size) (hlen : L.length ≤ 100000) :
    Calls Try.prog 51 #[.pointer (some ⟨q, 0, none⟩), v, .int .i64 last] W (fun e w' => ∃ v', e = .returned v' ∧ w'.ownsRow base 3 1 v' (withL L (S.all last)).length (intVs (natInts (withL L (S.all last)))) ∧ Below base W w') := by
  obtain ⟨ii, iz, hi, hz0, hz1, hz2, hz3⟩ := intInfo
  obtain ⟨p0, k0, rfl⟩ := owns_slice hown
  obtain ⟨v, hv⟩ : ∃ v, Value.slice p0 L.length k0 = v := ⟨_, rfl⟩
  rw [hv] at hown
  obtain ⟨V, hV⟩ : ∃ V, W.alloc (.cells #[.slice p0 L.length k0] 22) = V := ⟨_, rfl⟩
  have hVs : V.heap.size ≤ W.heap.size + 1 ∧ W.heap.size + 1 ≤ V.heap.size := by rw [← hV]; simp
  have hbV : Below W.heap.size W V := by rw [← hV]; exact (Below.refl _ _).alloc (Nat.le_refl _) _
  have bL : Boxed V W.heap.size 22 v := by rw [← hV, ← hv]; exact Boxed.new W _ _
  have aV := a.read hbV
  have c0 : (W.alloc (.cells #[.slice p0 L.length k0] 22)).cell? ⟨q, 0, none⟩ = some (.pointer (some ⟨g, 0, none⟩)) := by rw [hV]; exact aV.cells.1
  have oV := hown.kept (grownBy_below hbV none) (by cases h : v.ownBlock <;> simp)
  have hA : ∀ r, v.ownBlock = some r → base ≤ r ∧ r < W.heap.size := fun r e => hown.lt r e
  have HAA := Lib.hid hA
  have HAV := Lib.hid aV.ar
  have BL := Lib.hid bL
  have HV := Lib.hid hV
  have HBV := Lib.hid hbV
  have HO := Lib.hid oV
  have HLEN := Lib.hid (all_len S last)
  obtain ⟨xs, hxs⟩ : ∃ xs, S.all last = xs := ⟨_, rfl⟩
  have HXS := Lib.hid hxs
  rw [hxs] at HLEN ⊢
  have HVV := Lib.hid hv
  clear bL hbV hV hxs aV oV hA hown a hv
  refine calls_marks Try.func51 rfl ?_
  simp only [Try.ntmps51, List.size_toArray, List.length_cons, List.length_nil, Nat.reduceAdd, Nat.reduceSub, Array.replicate_succ, Array.replicate_zero, List.push_toArray, List.append_toArray, List.nil_append, List.cons_append]
  go_wp2_with (go_at_call 48; fail)
  rw [HV.out]
  refine (all_any last g V HAV.out).mono ?_
  rintro e V2 ⟨B, rfl, hq, hb2⟩
  have hs2 := hb2.size
  have bL2 : Boxed V2 W.heap.size 22 v := (hb2.block W.heap.size BL.out.lt).trans BL.out
  have oV2 := HO.out.kept (grownBy_below hb2 none) (by cases h : v.ownBlock <;> simp)
  have HB2 := Lib.hid (HBV.out.trans (hb2.mono (by omega)))
  have HQ := Lib.hid (hq base)
  rw [HXS.out] at HQ
  have C0 : CollR V2 W.heap.size base v.ownBlock L V2 v := ⟨bL2, oV2, fun r e => .inl e.symm, Tn.refl _ _⟩
  clear hq hb2 HBV HAV BL HO
  go_wp2
  refine wp_seqs rfl (enters_of Try.func58 (by kernel_rfl) rfl) HQ.out (by omega) (fun k hk => by omega) (Below.refl _ _) (fun _ => rfl)
    (fun pre W1 => ∃ v1, CollR V2 W.heap.size base v.ownBlock (withL L pre) W1 v1)
    (fun cd pre W1 => False)
    (Zone.collR (Nat.le_refl _) (fun pre => withL L pre))
    (fun cd => Zone.pure fun _ => False)
    ⟨v, C0⟩ ?round ?done ?stop
  case stop =>
    rintro cd pre W1 hpre hf hK
    exact hf.elim
  case round =>
    intro l2 pre i V0 hpre
    simp only [natV]
    gi_wp2
    refine ⟨by trivial, fun V1 hsz1 ⟨v1, hC⟩ => ?_⟩
    have hc1 := hC.box.cell
    have hf1 := hC.box.frozen
    obtain ⟨Ar, cp, rfl⟩ := owns_slice hC.row
    obtain ⟨Ao, co, ho, hio⟩ := owns_intsAt hC.row
    obtain ⟨rfl, rfl⟩ : Ar = Ao ∧ cp = co := by injection ho with h1 _ h3; exact ⟨h1, h3⟩
    have hpl := hpre.length_le
    rw [List.length_append] at hpl
    have hwl := withL_len L pre
    have hl := HLEN.out
    simp only [List.length_cons, List.length_nil] at hpl
    have hst := withL_snoc L pre i
    have HST := Lib.hid hst
    have HC := Lib.hid hC
    have HH := Lib.hid (contains_any Ar cp (withL L pre).length (withL L pre) rfl (by omega) i V1 hio)
    generalize hE : withL L pre = E at *
    have h1 : E.length + 1 ≤ maxLen := by unfold maxLen; omega
    have h2 : (E.length + 1) * 8 ≤ 140737488355328 := by omega
    have H1 := Lib.hid h1
    have H2 := Lib.hid h2
    clear ho hio hpl hwl hl hst hC h1 h2 C0 HQ
    by_cases hm : i ∈ E
    · have hEE := HST.out
      rw [if_pos hm] at hEE
      have HEE := Lib.hid hEE
      rw [decide_eq_true hm] at HH
      clear hEE HST hm
      gi_wp2_with (first | (refine ⟨trivial, ?_⟩; gi_at_call 59; refine (callsIn_wide.2 HH.out).mono ?_; rintro e w' ⟨rfl, rfl⟩))
      exact ⟨Kept.refl _, _, by rw [HEE.out]; exact HC.out⟩
    · have hEE := HST.out
      rw [if_neg hm] at hEE
      have HEE := Lib.hid hEE
      rw [decide_eq_false hm] at HH
      clear hEE HST hm
      gi_wp2_with (first
        | (refine ⟨trivial, ?_⟩; gi_at_call 59; refine (callsIn_wide.2 HH.out).mono ?_; rintro e w' ⟨rfl, rfl⟩)
        | (gi_at_builtin; refine wpListIn_append_at (v := .slice Ar E.length cp) rfl _ _ 22 rfl Try.underlying22 hi hz0 hz1 hz2 hz3 (by decide) rfl HC.out.row rfl rfl (int_one _) H1.out H2.out (by omega) ?_; intro g' cap' w1 hown1 hgr1 hlie; obtain ⟨hv1, hC2, hk2⟩ := HC.out.step (ys := E ++ [i]) (g := g') (cap := cap') (tmp := _) (fun e => by have := (HAA.out _ e.symm).2; omega) (by omega) (fun r e => by have := (HAA.out r e).2; omega) (by omega) (by rw [natInts_snoc, List.length_append]; exact hown1) hgr1 hlie; rw [List.length_append] at hC2 hk2; have hc2 := hv1.cell; have hf2 := hv1.frozen))
      exact ⟨hk2 _ _ _ _ (by omega) (by omega) (by rintro ⟨h1, h2⟩; omega) (fun r e => by have := (HAA.out r e).2; rintro ⟨h1, h2⟩; omega) (fun k hk => by rintro ⟨h1, h2⟩; omega) (by omega), _, by rw [HEE.out]; exact hC2⟩
  case done =>
    rintro W1 ⟨v1, hC⟩ hK
    have hc1 := hC.box.cell
    go_wp2
    refine ⟨by simp, .inl ⟨_, _, rfl, run_takeDeferred hK, ?_⟩⟩
    refine ⟨_, results_tmp rfl _ _ _, ?_⟩
    have hs3 := hC.tn.size
    have hB3 : Below base W W1 := ⟨hC.tn.os.trans HB2.out.os, hC.tn.tape.trans HB2.out.tape, hC.tn.output.trans HB2.out.output, Nat.le_trans HB2.out.size hs3, fun j hj => (hC.tn.block j (by have := HB2.out.size; omega) (fun h => by
      rcases h with h | h
      · omega
      · have := (HAA.out j h.symm).1; omega)).trans (HB2.out.block j (by omega))⟩
    exact ⟨_, rfl, ownsRow_putObj hC.row (.deferred none) hK rfl, below_putObj hB3 (by omega) _ (by omega)⟩
end Go.Proofs.Ytbidgpeeogoglaa
