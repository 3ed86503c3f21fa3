/-
  A range over a function, at the wide fence: an iterator's contract whose own cells lie in a zone of blocks, and the law of the statement over it.
-/
import Derived.RangeFuncNested
import Derived.RangeFuncBound
import Derived.RangeFuncCalls
import Derived.RangeFuncLeaves
import Derived.Shelf.Abstract
import Derived.WalkKit
import Derived.OwnWalkIn
import Derived.TacticsInMore
import Derived.LoopNIn
import Derived.LoopIn
import Derived.Maps.AppendAt
namespace Go.Proofs.YtahcedpfnechfaaDoor
set_option maxRecDepth 100000
open Go.RowKit Go.Shelf

/-- J minds neither new blocks, nor the turn of a block from B on that is no cells or lies from lo up to hi. -/
def Zone {β : Type} (B lo hi : Nat) (J : β → World → Prop) : Prop :=
  ∀ s W W' row, J s W → W.grownBy W' row → (∀ r, row = some r → B ≤ r ∧ ((lo ≤ r ∧ r < hi) ∨ ∃ o : Obj, W.heap[r]? = some o ∧ o.isCells = false)) → J s W'

section
variable {β : Type} {B lo hi : Nat}
theorem Zone.alloc {J : β → World → Prop} (h : Zone B lo hi J) {s : β} {W : World} (o : Obj) (hs : J s W) : J s (W.alloc o) :=
  h s W _ none hs (World.grownBy_alloc W o none) (fun r e => by cases e)
theorem Zone.putObj {J : β → World → Prop} (h : Zone B lo hi J) {s : β} {W : World} {l : Nat} {o : Obj} (o' : Obj) (hs : J s W) (hB : B ≤ l) (hl : W.heap[l]? = some o) (ho : o.isCells = false) : J s (W.putObj l o') :=
  h s W _ (some l) hs (grownBy_putObj' W l o') (fun r e => by cases e; exact ⟨hB, .inr ⟨o, hl, ho⟩⟩)
theorem Zone.set {J : β → World → Prop} (h : Zone B lo hi J) {s : β} {W : World} {b : Nat} (v : Value) (hs : J s W) (hB : B ≤ b) (h1 : lo ≤ b) (h2 : b < hi) : J s (W.setCell ⟨b, 0, none⟩ v) :=
  h s W _ (some b) hs (grownBy_setCell' W b v) (fun r e => by cases e; exact ⟨hB, .inl ⟨h1, h2⟩⟩)
theorem Zone.and {J K : β → World → Prop} (h : Zone B lo hi J) (k : Zone B lo hi K) : Zone B lo hi (fun s W => J s W ∧ K s W) :=
  fun s W W' row hs hg hr => ⟨h s W W' row hs.1 hg hr, k s W W' row hs.2 hg hr⟩
theorem Zone.ex {γ : Type} {J : γ → β → World → Prop} (h : ∀ c, Zone B lo hi (J c)) : Zone B lo hi (fun s W => ∃ c, J c s W) :=
  fun s W W' row hs hg hr => hs.elim fun c hc => ⟨c, h c s W W' row hc hg hr⟩
theorem Zone.pure (p : β → Prop) : Zone B lo hi (fun s (_ : World) => p s) := fun _ _ _ _ hs _ _ => hs
theorem Zone.none : Zone B lo hi (fun (_ : β) (_ : World) => False) := fun _ _ _ _ hs _ _ => hs
theorem Zone.mono {J : β → World → Prop} (h : Zone B lo hi J) {B' lo' hi' : Nat} (hB : B ≤ B') (hE : hi' ≤ lo' ∨ (lo ≤ lo' ∧ hi' ≤ hi)) : Zone B' lo' hi' J :=
  fun s W W' row hs hg hr => h s W W' row hs hg fun r e => ⟨Nat.le_trans hB (hr r e).1, (hr r e).2.imp (fun h => by omega) id⟩
theorem Zone.map {γ : Type} {J : β → World → Prop} (h : Zone B lo hi J) (f : γ → β) : Zone B lo hi (fun s W => J (f s) W) := fun s W W' row hs hg hr => h (f s) W W' row hs hg hr
theorem Zone.below {n₀ : Nat} {w : World} (hn : n₀ ≤ B) (hB : n₀ ≤ w.heap.size) : Zone B lo hi (fun (_ : β) W => Below n₀ w W) :=
  fun s W W' row hs hg hr => hs.grown hg (Nat.le_trans hB hs.size) (fun k e => Nat.le_trans hn (hr k e).1)
/-- What lay ahead of B. -/
theorem Zone.block {j : Nat} {o : Option Obj} (hj : j < B) : Zone B lo hi (fun (_ : β) W => j < W.heap.size ∧ W.heap[j]? = o) :=
  fun s W W' row hs hg hr => ⟨Nat.lt_of_lt_of_le hs.1 hg.size, (hg.block j hs.1 (fun e => by have := (hr j e.symm).1; omega)).trans hs.2⟩
theorem Zone.size {k : Nat} : Zone B lo hi (fun (_ : β) W => k ≤ W.heap.size) := fun s W W' row hs hg hr => Nat.le_trans hs hg.size
/-- A box out of the zone. -/
theorem Zone.box {b : Nat} {t : TypeId} (hb : b < lo ∨ hi ≤ b) (f : β → Value) : Zone B lo hi (fun s W => Boxed W b t (f s)) :=
  fun s W W' row hs hg hr => hs.kept hg (fun e => by
    rcases (hr b e.symm).2 with h | ⟨o, ho, hc⟩
    · omega
    · rw [show W.heap[b]? = _ from hs] at ho; cases ho; cases hc)
/-- A row of one's own, from hi on. -/
theorem Zone.owns {base : Nat} {t : TypeId} {size : Nat} (hb : hi ≤ base) (v : β → Value) (k : β → Nat) (f : β → List Value) : Zone B lo hi (fun s W => W.ownsRow base t size (v s) (k s) (f s)) := by
  intro s W W' row hs hg hr
  refine hs.kept hg ?_
  rcases hs.2 with ⟨h, _⟩ | ⟨g, cap, cur, h, hbg, hgb, _⟩
  · exact .inl (by rw [h]; rfl)
  · refine .inr fun e' => ?_
    rw [h] at e'
    have e2 : row = some g := by simpa [Value.ownBlock] using e'.symm
    obtain ⟨h1, h2 | ⟨o, ho, hc⟩⟩ := hr g e2
    · omega
    · rw [hgb] at ho; cases ho; cases hc
end

/-- What a round keeps: whatever from B on is no cells; whatever lies below n₀; the blocks x; the zone. -/
structure Kept (B n₀ : Nat) (x : Nat → Prop) (lo hi : Nat) (W W' : World) : Prop where
  others : KeepsFrom B W W'
  below : Below n₀ W W'
  extra : ∀ k, x k → k < W.heap.size → W'.heap[k]? = W.heap[k]?
  zone : ∀ k, lo ≤ k → k < hi → k < W.heap.size → W'.heap[k]? = W.heap[k]?
section
variable {B n₀ lo hi : Nat} {x : Nat → Prop}
theorem Kept.refl (W : World) : Kept B n₀ x lo hi W W := ⟨KeepsFrom.refl _ _, Below.refl _ _, fun _ _ _ => rfl, fun _ _ _ _ => rfl⟩
theorem Kept.trans {X Y Z : World} (h : Kept B n₀ x lo hi X Y) (k : Kept B n₀ x lo hi Y Z) : Kept B n₀ x lo hi X Z :=
  ⟨h.others.trans k.others, h.below.trans k.below, fun j hj h3 => (k.extra j hj (Nat.lt_of_lt_of_le h3 h.below.size)).trans (h.extra j hj h3), fun j h1 h2 h3 => (k.zone j h1 h2 (Nat.lt_of_lt_of_le h3 h.below.size)).trans (h.zone j h1 h2 h3)⟩
theorem Kept.alloc {X Y : World} (h : Kept B n₀ x lo hi X Y) (hn : n₀ ≤ X.heap.size) (o : Obj) : Kept B n₀ x lo hi X (Y.alloc o) :=
  h.trans ⟨(KeepsOthers.alloc _ _).from _, (Below.refl _ _).alloc (Nat.le_trans hn h.below.size) o, fun _ _ h3 => Below.heap_alloc _ _ _ h3, fun k _ _ h3 => Below.heap_alloc _ _ _ h3⟩
theorem Kept.setAt {X Y : World} (h : Kept B n₀ x lo hi X Y) (p : Addr) (hn : n₀ ≤ p.block) (hx : ¬ x p.block) (hz : p.block < lo ∨ hi ≤ p.block) (v : Value) : Kept B n₀ x lo hi X (Y.setCell p v) :=
  h.trans ⟨(KeepsOthers.setCell _ _ _).from _, (Below.refl _ _).setCell hn v, fun k hk _ => Below.heap_setCell _ _ _ k (fun e => hx (e ▸ hk)), fun k h1 h2 _ => Below.heap_setCell _ _ _ k (by omega)⟩
theorem Kept.set {X Y : World} (h : Kept B n₀ x lo hi X Y) {b : Nat} (hn : n₀ ≤ b) (hx : ¬ x b) (hz : b < lo ∨ hi ≤ b) (v : Value) : Kept B n₀ x lo hi X (Y.setCell ⟨b, 0, none⟩ v) := h.setAt ⟨b, 0, none⟩ hn hx hz v
/-- A step that lays blocks and turns one at most, of cells. -/
theorem Kept.grown {X Y Y' : World} {row : Option Nat} (h : Kept B n₀ x lo hi X Y) (hn : n₀ ≤ X.heap.size) (hg : Y.grownBy Y' row) (hr : ∀ r, row = some r → n₀ ≤ r ∧ (¬ x r ∧ (r < lo ∨ hi ≤ r)) ∧ ∀ o : Obj, Y.heap[r]? = some o → o.isCells = true) : Kept B n₀ x lo hi X Y' :=
  h.trans ⟨(KeepsOthers.of_grownBy hg (fun j o e ho => (hr j e).2.2 o ho)).from _, (Below.refl _ _).grown hg (Nat.le_trans hn h.below.size) (fun k e => (hr k e).1),
    fun k hk h3 => hg.block k h3 (fun e => (hr k e.symm).2.1.1 hk), fun k h1 h2 h3 => hg.block k h3 (fun e => by have := (hr k e.symm).2.1.2; omega)⟩
/-- Seen from a loop that began later, with no zone. -/
theorem Kept.far {B' lo' hi' : Nat} {X Y : World} (h : Kept B n₀ x lo hi X Y) (hB : B ≤ B') (hz : hi' ≤ lo') : Kept B' n₀ x lo' hi' X Y :=
  ⟨⟨h.others.size, fun k o hk h1 h2 => h.others.same k o (Nat.le_trans hB hk) h1 h2⟩, h.below, h.extra, fun k h1 h2 _ => by omega⟩
theorem Kept.drew {X Y : World} (h : Kept B n₀ x lo hi X Y) : Kept B n₀ x lo hi X Y.drew := h.trans ⟨(KeepsOthers.drew _).from _, (Below.refl _ _).drew, fun _ _ _ => rfl, fun _ _ _ _ => rfl⟩
/-- A callee that keeps all that lay. -/
theorem Kept.call {X Y Y' : World} (h : Kept B n₀ x lo hi X Y) (hn : n₀ ≤ X.heap.size) (hb : Below Y.heap.size Y Y') : Kept B n₀ x lo hi X Y' :=
  h.trans ⟨⟨hb.size, fun k o _ hk _ => (hb.block k (Array.getElem?_eq_some_iff.1 hk).1).trans hk⟩, hb.mono (Nat.le_trans hn h.below.size), fun k _ h3 => hb.block k h3, fun k _ _ h3 => hb.block k h3⟩
theorem Kept.box {X Y : World} {b : Nat} {t : TypeId} {v : Value} (h : Kept B n₀ x lo hi X Y) (hb : Boxed X b t v) (hz : b < n₀ ∨ x b ∨ (lo ≤ b ∧ b < hi)) : Boxed Y b t v := by
  rcases hz with hz | hz | hz
  · exact (h.below.block b hz).trans hb
  · exact (h.extra b hz hb.lt).trans hb
  · exact (h.zone b hz.1 hz.2 hb.lt).trans hb
end

theorem RoundIn.inRound {F : Fence} {n : Nat} {P : Program} {l : Nat} {f : FuncId} {tmps : Array Value} {assign body : Code} {w : World} {R : Ending → World → Prop} (l2 : Nat) (h : RoundIn F n P l f tmps assign body w R) : RoundIn (F.inRound l2) n P l f tmps assign body w R := h

/-- **AN ITERATOR's CONTRACT**: the function g with the captured values lb hands out just the elements xs, in their order, or a part of them from the first on where a round has said 'no more'. c: how many blocks it lays of its own ahead of the first round, which it may turn. A round keeps what lies below n₀, and the blocks z. -/
def Seqs {α : Type} (P : Program) (g : Nat) (lb : Array Value) (encs : α → Array Value) (n₀ : Nat) (z : Nat → Prop) (c : Nat) (xs : List α) (w : World) : Prop :=
  ∀ (l : Nat) (J Jx : List α → World → Prop) (W : World), Below w.heap.size w W → Zone W.heap.size W.heap.size (W.heap.size + c) J → Zone W.heap.size W.heap.size (W.heap.size + c) Jx →
    (∀ pre x W1, J pre W1 → W.heap.size + c ≤ W1.heap.size → pre ++ [x] <+: xs → YieldAt Fence.wide 5 P l (encs x) W1 fun e W' =>
      (e = .returned (.bool true) ∧ J (pre ++ [x]) W' ∧ Kept W.heap.size n₀ z W.heap.size (W.heap.size + c) W1 W') ∨ (e = .returned (.bool false) ∧ Jx (pre ++ [x]) W' ∧ Kept W.heap.size n₀ z W.heap.size (W.heap.size + c) W1 W')) →
    J [] W →
    Calls P g (#[.func (.yield l) #[] #[]] ++ lb) W fun e W' => (∃ v, e = .returned v) ∧ (J xs W' ∨ ∃ pre, pre <+: xs ∧ Jx pre W')
theorem Seqs.later {α : Type} {P : Program} {g : Nat} {lb : Array Value} {encs : α → Array Value} {n₀ c : Nat} {z : Nat → Prop} {xs : List α} {w w' : World} (h : Seqs P g lb encs n₀ z c xs w) (hb : Below w.heap.size w w') : Seqs P g lb encs n₀ z c xs w' :=
  fun l J Jx W hW hJ hJx hY h0 => h l J Jx W (hb.trans (hW.mono hb.size)) hJ hJx hY h0

/-- How a round may be left. -/
def roundEnd {α : Type} (B n₀ : Nat) (z : Nat → Prop) (c : Nat) (I : List α → World → Prop) (Ix : Code → List α → World → Prop) (ys : List α) (W : World) : Exit → Act → World → Prop
  | .normal, _, W' => Kept B n₀ z (B + 2) (B + 2 + c) W W' ∧ I ys W'
  | .ret, _, W' => Kept B n₀ z (B + 2) (B + 2 + c) W W' ∧ Ix .ret ys W'
  | .exit id, _, W' => Kept B n₀ z (B + 2) (B + 2 + c) W W' ∧ Ix (.exit id) ys W'
  | .goto t, _, W' => Kept B n₀ z (B + 2) (B + 2 + c) W W' ∧ Ix (.goto t) ys W'
  | .panic _, _, _ => False
  | .outgrown, _, _ => False

theorem below_putObj {n₀ : Nat} {W0 W : World} (h : Below n₀ W0 W) {l : Nat} (hl : n₀ ≤ l) (o : Obj) (hW : n₀ ≤ W.heap.size) : Below n₀ W0 (W.putObj l o) :=
  h.grown (grownBy_putObj' W l o) hW (fun k e => by cases e; exact hl)

/-- **THE STATEMENT 'for .. := range g { .. }'**, over an iterator that has its contract. -/
theorem wpIn_seqs {α : Type} {P : Program} {g : Operand} {ps : Array Tmp} {assign body : Code} {Q : Exit → Act → World → Prop} {a : Act} {w : World} {n : Nat}
    {gf : Nat} {lb : Array Value} (hg : a.eval g = .func (.func gf) #[] lb) (eg : ∀ args w, (callFunc gf args).run P w = .ok (.enter gf args) w)
    {encs : α → Array Value} {n₀ c : Nat} {z : Nat → Prop} {xs : List α} {w0 : World} (hseq : Seqs P gf lb encs n₀ z c xs w0) (hn₀ : n₀ ≤ w.heap.size) (hz0 : ∀ k, z k → k < w.heap.size) (hb0 : Below w0.heap.size w0 w) (hps : ∀ x, (encs x).size = ps.size)
    (I : List α → World → Prop) (Ix : Code → List α → World → Prop) (hI : Zone w.heap.size (w.heap.size + 2) (w.heap.size + 2 + c) I) (hIx : ∀ cd, Zone w.heap.size (w.heap.size + 2) (w.heap.size + 2 + c) (Ix cd)) (h0 : I [] w)
    (hround : ∀ (l : Nat) (pre : List α) (x : α) (W : World), pre ++ [x] <+: xs → assign.wpIn (Fence.wide.inRound l) 5 P
      (Exit.then (fun a' W' => W' = W ∧ ∀ V, w.heap.size + 2 + c ≤ V.heap.size → I pre V → body.wpIn (Fence.wide.inRound l) 5 P (roundEnd w.heap.size n₀ z c I Ix (pre ++ [x]) V) a' V) (fun _ _ _ => False))
      { tmps := (ps.zip (encs x)).foldl (fun t (p, v) => t.setIfInBounds p v) a.tmps, defers := [] } W)
    (hdone : ∀ W, I xs W → W.heap[w.heap.size]? = some (.deferred (some [])) → Q .normal { a with defers := { target := .collected w.heap.size, args := #[] } :: a.defers } W)
    (hstop : ∀ (cd : Code) (pre : List α) (W : World), pre <+: xs → Ix cd pre W → W.heap[w.heap.size]? = some (.deferred (some [])) → cd.wpIn Fence.wide n P Q { a with defers := { target := .collected w.heap.size, args := #[] } :: a.defers } W) :
    (Code.rangeFunc g ps assign body).wpIn Fence.wide n P Q a w := by
  refine wpIn_rangeFunc ?_
  intro fn _
  obtain ⟨mk, hmk⟩ : ∃ mk : LoopState → Option Code → Loop, mk = fun st pe => { state := st, pending := pe, fn, tmps := a.tmps, params := ps, assign, body, defers := w.heap.size } := ⟨_, rfl⟩
  obtain ⟨V, hV⟩ : ∃ V, (w.alloc (.deferred (some []))).alloc (.loop (mk .ready none)) = V := ⟨_, rfl⟩
  have hVs : V.heap.size = w.heap.size + 2 := by rw [← hV]; simp
  have hVL : V.heap[w.heap.size + 1]? = some (.loop (mk .ready none)) := by
    rw [← hV]; have := World.alloc_heap_new (w.alloc (.deferred (some []))) (.loop (mk .ready none)); rwa [World.size_alloc] at this
  have hVD : V.heap[w.heap.size]? = some (.deferred (some [])) := by
    rw [← hV]; exact (Below.heap_alloc _ _ _ (by simp)).trans (World.alloc_heap_new w _)
  have hVI : I [] V := by rw [← hV]; exact hI.alloc _ (hI.alloc _ h0)
  have hVb : Below w0.heap.size w0 V := by
    rw [← hV]; exact hb0.trans ((((Below.refl _ w).alloc (Nat.le_refl _) _).alloc (by simp) _).mono hb0.size)
  -- what the iterator may do leaves the two blocks as they are
  have far : ∀ {A A' : World} {row : Option Nat} {k : Nat} {o : Obj}, A.grownBy A' row → (∀ r, row = some r → V.heap.size ≤ r ∧ ((V.heap.size ≤ r ∧ r < V.heap.size + c) ∨ ∃ o : Obj, A.heap[r]? = some o ∧ o.isCells = false)) → k < w.heap.size + 2 → A.heap[k]? = some o → A'.heap[k]? = some o :=
    fun hg hr hk ho => (hg.block _ (Array.getElem?_eq_some_iff.1 ho).1 (fun e => by have := (hr _ e.symm).1; omega)).trans ho
  have wide : ∀ {A : World} {row : Option Nat}, (∀ r, row = some r → V.heap.size ≤ r ∧ ((V.heap.size ≤ r ∧ r < V.heap.size + c) ∨ ∃ o : Obj, A.heap[r]? = some o ∧ o.isCells = false)) → (∀ r, row = some r → w.heap.size ≤ r ∧ ((w.heap.size + 2 ≤ r ∧ r < w.heap.size + 2 + c) ∨ ∃ o : Obj, A.heap[r]? = some o ∧ o.isCells = false)) :=
    fun hr r e => ⟨by have := (hr r e).1; omega, (hr r e).2.imp (fun h => by omega) id⟩
  refine ⟨w.heap.size + 1, [{ target := .collected w.heap.size, args := #[] }], V, { target := .fn (.func gf) lb, args := #[.func (.yield (w.heap.size + 1)) #[] #[]] }, V, gf,
    #[.func (.yield (w.heap.size + 1)) #[] #[]] ++ lb, V, ?_, ?_, fun _ _ => trivial, ?_, (fun h => (by simp [Fence.wide] at h)), ?_⟩
  · rw [← hV, hmk]; exact run_enterLoop_outer _ _ _ _ _
  · simp only [resolve, hg]
    simp [go_sem]
  · simp [invoke, go_sem, eg]
  · refine callsIn_wide.2 ((hseq (w.heap.size + 1)
      (fun pre W => I pre W ∧ W.heap[w.heap.size + 1]? = some (.loop (mk .ready none)) ∧ W.heap[w.heap.size]? = some (.deferred (some [])))
      (fun pre W => ∃ cd, Ix cd pre W ∧ W.heap[w.heap.size + 1]? = some (.loop (mk .done (some cd))) ∧ W.heap[w.heap.size]? = some (.deferred (some [])))
      V hVb
      (fun s A A' row hs hg' hr => ⟨hI s A A' row hs.1 hg' (wide hr), far hg' hr (by omega) hs.2.1, far hg' hr (by omega) hs.2.2⟩)
      (fun s A A' row hs hg' hr => by
        obtain ⟨cd, hc, hl, hk⟩ := hs
        exact ⟨cd, hIx cd s A A' row hc hg' (wide hr), far hg' hr (by omega) hl, far hg' hr (by omega) hk⟩)
      ?_ ⟨hVI, hVL, hVD⟩).mono ?_)
    · rintro pre x W ⟨hi, hl, hk⟩ hsz hpre
      have hlt : w.heap.size + 1 < W.heap.size := (Array.getElem?_eq_some_iff.1 hl).1
      have hy := run_yield (P := P) (args := encs x) hl (by rw [hmk]; exact hps x)
      rw [hmk] at hy
      refine ⟨fn, _, assign, body, hy, roundIn_of_wpIn trivial (wpIn_mono (hround _ pre x W hpre) ?_)⟩
      intro e0 a0 W0 h0
      cases e0 <;> try exact h0
      obtain ⟨e1, hbody⟩ := h0
      rw [e1]
      refine ⟨_, run_beginRound hl (by rw [hmk]), ?_⟩
      have hl2 : (W.putObj (w.heap.size + 1) (.loop { mk .ready none with state := .busy })).heap[w.heap.size + 1]? = some (.loop { mk .ready none with state := .busy }) := World.putObj_heap_same hlt
      have hk2 : (W.putObj (w.heap.size + 1) (.loop { mk .ready none with state := .busy })).heap[w.heap.size]? = some (.deferred (some [])) := (World.putObj_heap_other (by omega)).trans hk
      have hw2 : Below n₀ W (W.putObj (w.heap.size + 1) (.loop { mk .ready none with state := .busy })) := below_putObj (Below.refl _ _) (by omega) _ (by omega)
      refine wpIn_mono (hbody _ (by rw [World.putObj_size]; omega) (hI.putObj _ hi (by omega) hl rfl)) ?_
      have fin : ∀ (jump : Option Code) (W3 : World), KeepsFrom w.heap.size (W.putObj (w.heap.size + 1) (.loop { mk .ready none with state := .busy })) W3 →
          (Instr.endRound (w.heap.size + 1) jump).run P W3 = .ok (.bool jump.isNone) (W3.putObj (w.heap.size + 1) (.loop (mk (if jump.isNone then .ready else .done) jump))) ∧
          W3.heap[w.heap.size + 1]? = some (.loop { mk .ready none with state := .busy }) ∧
          (W3.putObj (w.heap.size + 1) (.loop (mk (if jump.isNone then .ready else .done) jump))).heap[w.heap.size + 1]? = some (.loop (mk (if jump.isNone then .ready else .done) jump)) ∧
          (W3.putObj (w.heap.size + 1) (.loop (mk (if jump.isNone then .ready else .done) jump))).heap[w.heap.size]? = some (.deferred (some [])) := fun jump W3 hk3 => by
        have hl3 := hk3.same _ _ (by omega) hl2 rfl
        have := run_endRound (P := P) jump hl3
        rw [hmk] at this ⊢
        exact ⟨this, by rw [hmk] at hl3; exact hl3, World.putObj_heap_same (Array.getElem?_eq_some_iff.1 hl3).1, (World.putObj_heap_other (by omega)).trans (hk3.same _ _ (Nat.le_refl _) hk2 rfl)⟩
      have bel : ∀ (o : Obj) (W3 : World), Kept w.heap.size n₀ z (w.heap.size + 2) (w.heap.size + 2 + c) (W.putObj (w.heap.size + 1) (.loop { mk .ready none with state := .busy })) W3 → Kept V.heap.size n₀ z V.heap.size (V.heap.size + c) W (W3.putObj (w.heap.size + 1) o) :=
        fun o W3 hb3 => by
          have hsz3 := hb3.below.size
          rw [World.putObj_size] at hsz3
          refine ⟨⟨by rw [World.putObj_size]; exact hsz3, fun k o' hk1 hk2 hk3 => (World.putObj_heap_other (by omega)).trans (hb3.others.same k o' (by omega) ((World.putObj_heap_other (by omega)).trans hk2) hk3)⟩, below_putObj (hw2.trans hb3.below) (by omega) _ (by omega), fun k hk h3 => by have h4 := hz0 k hk; exact (World.putObj_heap_other (by omega)).trans ((hb3.extra k hk (by rw [World.putObj_size]; exact h3)).trans (World.putObj_heap_other (by omega))), fun k h1 h2 h3 => ?_⟩
          exact (World.putObj_heap_other (by omega)).trans ((hb3.zone k (by omega) (by omega) (by rw [World.putObj_size]; exact h3)).trans (World.putObj_heap_other (by omega)))
      rintro e a3 W3 hp
      cases e with
      | normal =>
        obtain ⟨hb3, hi3⟩ := hp
        have hk3 := hb3.others
        obtain ⟨hr, hl3, hl4, hk4⟩ := fin none W3 hk3
        exact ⟨_, _, hr, .inl ⟨rfl, ⟨hI.putObj _ hi3 (by omega) hl3 rfl, hl4, hk4⟩, bel _ _ hb3⟩⟩
      | ret =>
        obtain ⟨hb3, hi3⟩ := hp
        have hk3 := hb3.others
        obtain ⟨hr, hl3, hl4, hk4⟩ := fin (some .ret) W3 hk3
        exact ⟨_, _, hr, .inr ⟨rfl, ⟨.ret, (hIx _).putObj _ hi3 (by omega) hl3 rfl, hl4, hk4⟩, bel _ _ hb3⟩⟩
      | exit id =>
        obtain ⟨hb3, hi3⟩ := hp
        have hk3 := hb3.others
        obtain ⟨hr, hl3, hl4, hk4⟩ := fin (some (.exit id)) W3 hk3
        exact ⟨_, _, hr, .inr ⟨rfl, ⟨.exit id, (hIx _).putObj _ hi3 (by omega) hl3 rfl, hl4, hk4⟩, bel _ _ hb3⟩⟩
      | goto t =>
        obtain ⟨hb3, hi3⟩ := hp
        have hk3 := hb3.others
        obtain ⟨hr, hl3, hl4, hk4⟩ := fin (some (.goto t)) W3 hk3
        exact ⟨_, _, hr, .inr ⟨rfl, ⟨.goto t, (hIx _).putObj _ hi3 (by omega) hl3 rfl, hl4, hk4⟩, bel _ _ hb3⟩⟩
      | panic ch => exact hp.elim
      | outgrown => exact hp.elim
    · rintro e W2 ⟨⟨v, rfl⟩, (⟨hi, hl, hk⟩ | ⟨pre, hSp, cd, hi, hl, hk⟩)⟩
      · exact ⟨none, _, by have := run_endLoop (P := P) hl (by rw [hmk]; simp); rw [hmk] at this; exact this, hdone _ (hI.putObj _ hi (by omega) hl rfl) ((World.putObj_heap_other (by omega)).trans hk)⟩
      · exact ⟨some cd, _, by have := run_endLoop (P := P) hl (by rw [hmk]; simp); rw [hmk] at this; exact this, hstop cd pre _ hSp ((hIx cd).putObj _ hi (by omega) hl rfl) ((World.putObj_heap_other (by omega)).trans hk)⟩

/-- The marks of ranges over functions among a function's deferred calls, each block ready to be taken. -/
def marks (ds : List Nat) : List Deferred := ds.map fun D => { target := .collected D, args := #[] }
structure Marked (B : Nat) (ds : List Nat) (W : World) : Prop where
  at_ : ∀ D ∈ ds, B ≤ D ∧ W.heap[D]? = some (.deferred (some []))
  nodup : ds.Nodup
theorem Marked.nil (B : Nat) (W : World) : Marked B [] W := ⟨fun _ h => (by cases h), List.nodup_nil⟩
theorem leaves_marks {P : Program} {fn : Func} {tmps : Array Value} {R : Ending → World → Prop} {n : Nat} {B : Nat} : ∀ (ds : List Nat) (W : World), Marked B ds W →
    (∀ W', Below B W W' → (∀ (g : Nat) (cs : Array Value) t f, W.heap[g]? = some (.cells cs t f) → W'.heap[g]? = some (.cells cs t f)) → LeavesIn Fence.wide n P fn tmps R [] .returning W') → B ≤ W.heap.size →
    LeavesInM Fence.wide n P fn tmps R (marks ds) .returning W
  | [], W, _, h, _ => h W (Below.refl _ _) (fun _ _ _ _ h => h)
  | D :: ds, W, hm, h, hB => by
    obtain ⟨hD1, hD2⟩ := hm.at_ D (List.mem_cons_self ..)
    have hnd := List.nodup_cons.1 hm.nodup
    refine ⟨by simp, .inl ⟨D, _, rfl, run_takeDeferred hD2, leaves_marks ds _ ⟨fun D' hD' => ⟨(hm.at_ D' (List.mem_cons_of_mem _ hD')).1, (World.putObj_heap_other (fun e => hnd.1 (by rw [← e]; exact hD'))).trans (hm.at_ D' (List.mem_cons_of_mem _ hD')).2⟩, hnd.2⟩ ?_ (by rw [World.putObj_size]; exact hB)⟩⟩
    intro W' hb hc
    refine h W' ((below_putObj (Below.refl _ _) hD1 _ hB).trans hb) fun g cs t f hg => hc g cs t f ?_
    refine (World.putObj_heap_other ?_).trans hg
    rintro rfl
    rw [hD2] at hg; cases hg
end Go.Proofs.YtahcedpfnechfaaDoor
