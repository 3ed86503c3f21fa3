/-
  A range over a function whose iterator turns blocks that lay already (a captured variable): the contract and the law of the statement over it.
-/
import Derived.Test.YtdgdbcapojgnlaaCollS
import Derived.Test.YtdgdbcapojgnlaaArOps
namespace Go.Proofs.Ytdgdbcapojgnlaa
set_option maxRecDepth 100000
open Go.RowKit Go.Shelf

/-- J minds neither new blocks, nor the turn of a block of ζ, nor that of a block from B on that is no cells. -/
def ZoneP {β : Type} (B : Nat) (ζ : Nat → Prop) (J : β → World → Prop) : Prop :=
  ∀ s W W' row, J s W → W.grownBy W' row → (∀ r, row = some r → ζ r ∨ (B ≤ r ∧ ∃ o : Obj, W.heap[r]? = some o ∧ o.isCells = false)) → J s W'
section
variable {β : Type} {B : Nat} {ζ : Nat → Prop}
theorem ZoneP.alloc {J : β → World → Prop} (h : ZoneP B ζ J) {s : β} {W : World} (o : Obj) (hs : J s W) : J s (W.alloc o) :=
  h s W _ none hs (World.grownBy_alloc W o none) (fun r e => by cases e)
theorem ZoneP.call {J : β → World → Prop} (h : ZoneP B ζ J) {s : β} {W W' : World} (hb : Below W.heap.size W W') (hs : J s W) : J s W' :=
  h s W _ none hs (grownBy_below hb none) (fun r e => by cases e)
theorem ZoneP.putObj {J : β → World → Prop} (h : ZoneP B ζ J) {s : β} {W : World} {l : Nat} {o : Obj} (o' : Obj) (hs : J s W) (hB : B ≤ l) (hl : W.heap[l]? = some o) (ho : o.isCells = false) : J s (W.putObj l o') :=
  h s W _ (some l) hs (grownBy_putObj' W l o') (fun r e => by cases e; exact .inr ⟨hB, o, hl, ho⟩)
theorem ZoneP.set {J : β → World → Prop} (h : ZoneP B ζ J) {s : β} {W : World} {b : Nat} (v : Value) (hs : J s W) (hb : ζ b) : J s (W.setCell ⟨b, 0, none⟩ v) :=
  h s W _ (some b) hs (grownBy_setCell' W b v) (fun r e => by cases e; exact .inl hb)
theorem ZoneP.ex {γ : Type} {J : γ → β → World → Prop} (h : ∀ c, ZoneP B ζ (J c)) : ZoneP B ζ (fun s W => ∃ c, J c s W) :=
  fun s W W' row hs hg hr => hs.elim fun c hc => ⟨c, h c s W W' row hc hg hr⟩
theorem ZoneP.none : ZoneP B ζ (fun (_ : β) (_ : World) => False) := fun _ _ _ _ hs _ _ => hs
theorem ZoneP.and {J K : β → World → Prop} (h : ZoneP B ζ J) (k : ZoneP B ζ K) : ZoneP B ζ (fun s W => J s W ∧ K s W) :=
  fun s W W' row hs hg hr => ⟨h s W W' row hs.1 hg hr, k s W W' row hs.2 hg hr⟩
theorem ZoneP.mono {J : β → World → Prop} (h : ZoneP B ζ J) {B' : Nat} (hB : B ≤ B') : ZoneP B' ζ J :=
  fun s W W' row hs hg hr => h s W W' row hs hg fun r e => (hr r e).imp id (fun h => ⟨by omega, h.2⟩)
end
/-- **AN ITERATOR's CONTRACT**: the function g with the captured values lb hands out just the elements xs, in their order, or a part of them from the first on where a round has said 'no more'. ζ: the blocks that it turns. A round keeps what lies below n₀, and the blocks z. -/
def SeqP {α : Type} (P : Program) (g : Nat) (lb : Array Value) (encs : α → Array Value) (n₀ : Nat) (z ζ : Nat → Prop) (xs : List α) (w : World) : Prop :=
  ∀ (l : Nat) (J Jx : List α → World → Prop) (W : World), Below w.heap.size w W → ZoneP W.heap.size ζ J → ZoneP W.heap.size ζ Jx →
    (∀ pre x W1, J pre W1 → W.heap.size ≤ W1.heap.size → pre ++ [x] <+: xs → YieldAt Fence.wide 5 P l (encs x) W1 fun e W' =>
      (e = .returned (.bool true) ∧ J (pre ++ [x]) W' ∧ Kept W.heap.size n₀ z W.heap.size W.heap.size W1 W') ∨ (e = .returned (.bool false) ∧ Jx (pre ++ [x]) W' ∧ Kept W.heap.size n₀ z W.heap.size W.heap.size W1 W')) →
    J [] W →
    Calls P g (#[.func (.yield l) #[] #[]] ++ lb) W fun e W' => (∃ v, e = .returned v) ∧ (J xs W' ∨ ∃ pre, pre <+: xs ∧ Jx pre W')
/-- **THE STATEMENT 'for .. := range g { .. }'**, over an iterator that has its contract. -/
theorem wpIn_seqP {α : Type} {P : Program} {g : Operand} {ps : Array Tmp} {assign body : Code} {Q : Exit → Act → World → Prop} {a : Act} {w : World} {n : Nat}
    {gf : Nat} {lb : Array Value} (hg : a.eval g = .func (.func gf) #[] lb) (eg : ∀ args w, (callFunc gf args).run P w = .ok (.enter gf args) w)
    {encs : α → Array Value} {n₀ : Nat} {z ζ : Nat → Prop} {xs : List α} {w0 : World} (hseq : SeqP P gf lb encs n₀ z ζ xs w0) (hn₀ : n₀ ≤ w.heap.size) (hz0 : ∀ k, z k → k < w.heap.size) (hζ : ∀ k, ζ k → k < w.heap.size) (hb0 : Below w0.heap.size w0 w) (hps : ∀ x, (encs x).size = ps.size)
    (I : List α → World → Prop) (Ix : Code → List α → World → Prop) (hI : ZoneP w.heap.size ζ I) (hIx : ∀ cd, ZoneP w.heap.size ζ (Ix cd)) (h0 : I [] w)
    (hround : ∀ (l : Nat) (pre : List α) (x : α) (W : World), pre ++ [x] <+: xs → assign.wpIn (Fence.wide.inRound l) 5 P
      (Exit.then (fun a' W' => W' = W ∧ ∀ V, w.heap.size + 2 ≤ V.heap.size → I pre V → body.wpIn (Fence.wide.inRound l) 5 P (roundEnd w.heap.size n₀ z 0 I Ix (pre ++ [x]) V) a' V) (fun _ _ _ => False))
      { tmps := (ps.zip (encs x)).foldl (fun t (p, v) => t.setIfInBounds p v) a.tmps, defers := [] } W)
    (hdone : ∀ W, I xs W → W.heap[w.heap.size]? = some (.deferred (some [])) → Q .normal { a with defers := { target := .collected w.heap.size, args := #[] } :: a.defers } W)
    (hstop : ∀ (cd : Code) (pre : List α) (W : World), pre <+: xs → Ix cd pre W → W.heap[w.heap.size]? = some (.deferred (some [])) → cd.wpIn Fence.wide n P Q { a with defers := { target := .collected w.heap.size, args := #[] } :: a.defers } W) :
    (Code.rangeFunc g ps assign body).wpIn Fence.wide n P Q a w := by
  refine wpIn_rangeFunc ?_
  intro fn _
  obtain ⟨mk, hmk⟩ : ∃ mk : LoopState → Option Code → Loop, mk = fun st pe => { state := st, pending := pe, fn, tmps := a.tmps, params := ps, assign, body, defers := w.heap.size } := ⟨_, rfl⟩
  obtain ⟨V, hV⟩ : ∃ V, (w.alloc (.deferred (some []))).alloc (.loop (mk .ready none)) = V := ⟨_, rfl⟩
  have hVs : V.heap.size = w.heap.size + 2 := by rw [← hV]; simp
  have hVL : V.heap[w.heap.size + 1]? = some (.loop (mk .ready none)) := by
    rw [← hV]; have := World.alloc_heap_new (w.alloc (.deferred (some []))) (.loop (mk .ready none)); rwa [World.size_alloc] at this
  have hVD : V.heap[w.heap.size]? = some (.deferred (some [])) := by
    rw [← hV]; exact (Below.heap_alloc _ _ _ (by simp)).trans (World.alloc_heap_new w _)
  have hVI : I [] V := by rw [← hV]; exact hI.alloc _ (hI.alloc _ h0)
  have hVb : Below w0.heap.size w0 V := by
    rw [← hV]; exact hb0.trans ((((Below.refl _ w).alloc (Nat.le_refl _) _).alloc (by simp) _).mono hb0.size)
  -- what the iterator may do leaves the two blocks as they are
  have far : ∀ {A A' : World} {row : Option Nat} {k : Nat} {o : Obj}, A.grownBy A' row → (∀ r, row = some r → ζ r ∨ (V.heap.size ≤ r ∧ ∃ o : Obj, A.heap[r]? = some o ∧ o.isCells = false)) → w.heap.size ≤ k → k < w.heap.size + 2 → A.heap[k]? = some o → A'.heap[k]? = some o :=
    fun hg hr hk0 hk ho => (hg.block _ (Array.getElem?_eq_some_iff.1 ho).1 (fun e => by
      rcases hr _ e.symm with h | h
      · have := hζ _ h; omega
      · have := h.1; omega)).trans ho
  have wide : ∀ {A : World} {row : Option Nat}, (∀ r, row = some r → ζ r ∨ (V.heap.size ≤ r ∧ ∃ o : Obj, A.heap[r]? = some o ∧ o.isCells = false)) → (∀ r, row = some r → ζ r ∨ (w.heap.size ≤ r ∧ ∃ o : Obj, A.heap[r]? = some o ∧ o.isCells = false)) :=
    fun hr r e => (hr r e).imp id (fun h => ⟨by omega, h.2⟩)
  refine ⟨w.heap.size + 1, [{ target := .collected w.heap.size, args := #[] }], V, { target := .fn (.func gf) lb, args := #[.func (.yield (w.heap.size + 1)) #[] #[]] }, V, gf,
    #[.func (.yield (w.heap.size + 1)) #[] #[]] ++ lb, V, ?_, ?_, fun _ _ => trivial, ?_, (fun h => (by simp [Fence.wide] at h)), ?_⟩
  · rw [← hV, hmk]; exact run_enterLoop_outer _ _ _ _ _
  · simp only [resolve, hg]
    simp [go_sem]
  · simp [invoke, go_sem, eg]
  · refine callsIn_wide.2 ((hseq (w.heap.size + 1)
      (fun pre W => I pre W ∧ W.heap[w.heap.size + 1]? = some (.loop (mk .ready none)) ∧ W.heap[w.heap.size]? = some (.deferred (some [])))
      (fun pre W => ∃ cd, Ix cd pre W ∧ W.heap[w.heap.size + 1]? = some (.loop (mk .done (some cd))) ∧ W.heap[w.heap.size]? = some (.deferred (some [])))
      V hVb
      (fun s A A' row hs hg' hr => ⟨hI s A A' row hs.1 hg' (wide hr), far hg' hr (by omega) (by omega) hs.2.1, far hg' hr (by omega) (by omega) hs.2.2⟩)
      (fun s A A' row hs hg' hr => by
        obtain ⟨cd, hc, hl, hk⟩ := hs
        exact ⟨cd, hIx cd s A A' row hc hg' (wide hr), far hg' hr (by omega) (by omega) hl, far hg' hr (by omega) (by omega) hk⟩)
      ?_ ⟨hVI, hVL, hVD⟩).mono ?_)
    · rintro pre x W ⟨hi, hl, hk⟩ hsz hpre
      have hlt : w.heap.size + 1 < W.heap.size := (Array.getElem?_eq_some_iff.1 hl).1
      have hy := run_yield (P := P) (args := encs x) hl (by rw [hmk]; exact hps x)
      rw [hmk] at hy
      refine ⟨fn, _, assign, body, hy, roundIn_of_wpIn trivial (wpIn_mono (hround _ pre x W hpre) ?_)⟩
      intro e0 a0 W0 h0
      cases e0 <;> try exact h0
      obtain ⟨e1, hbody⟩ := h0
      rw [e1]
      refine ⟨_, run_beginRound hl (by rw [hmk]), ?_⟩
      have hl2 : (W.putObj (w.heap.size + 1) (.loop { mk .ready none with state := .busy })).heap[w.heap.size + 1]? = some (.loop { mk .ready none with state := .busy }) := World.putObj_heap_same hlt
      have hk2 : (W.putObj (w.heap.size + 1) (.loop { mk .ready none with state := .busy })).heap[w.heap.size]? = some (.deferred (some [])) := (World.putObj_heap_other (by omega)).trans hk
      have hw2 : Below n₀ W (W.putObj (w.heap.size + 1) (.loop { mk .ready none with state := .busy })) := below_putObj (Below.refl _ _) (by omega) _ (by omega)
      refine wpIn_mono (hbody _ (by rw [World.putObj_size]; omega) (hI.putObj _ hi (by omega) hl rfl)) ?_
      have fin : ∀ (jump : Option Code) (W3 : World), KeepsFrom w.heap.size (W.putObj (w.heap.size + 1) (.loop { mk .ready none with state := .busy })) W3 →
          (Instr.endRound (w.heap.size + 1) jump).run P W3 = .ok (.bool jump.isNone) (W3.putObj (w.heap.size + 1) (.loop (mk (if jump.isNone then .ready else .done) jump))) ∧
          W3.heap[w.heap.size + 1]? = some (.loop { mk .ready none with state := .busy }) ∧
          (W3.putObj (w.heap.size + 1) (.loop (mk (if jump.isNone then .ready else .done) jump))).heap[w.heap.size + 1]? = some (.loop (mk (if jump.isNone then .ready else .done) jump)) ∧
          (W3.putObj (w.heap.size + 1) (.loop (mk (if jump.isNone then .ready else .done) jump))).heap[w.heap.size]? = some (.deferred (some [])) := fun jump W3 hk3 => by
        have hl3 := hk3.same _ _ (by omega) hl2 rfl
        have := run_endRound (P := P) jump hl3
        rw [hmk] at this ⊢
        exact ⟨this, by rw [hmk] at hl3; exact hl3, World.putObj_heap_same (Array.getElem?_eq_some_iff.1 hl3).1, (World.putObj_heap_other (by omega)).trans (hk3.same _ _ (Nat.le_refl _) hk2 rfl)⟩
      have bel : ∀ (o : Obj) (W3 : World), Kept w.heap.size n₀ z (w.heap.size + 2) (w.heap.size + 2 + 0) (W.putObj (w.heap.size + 1) (.loop { mk .ready none with state := .busy })) W3 → Kept V.heap.size n₀ z V.heap.size V.heap.size W (W3.putObj (w.heap.size + 1) o) :=
        fun o W3 hb3 => by
          have hsz3 := hb3.below.size
          rw [World.putObj_size] at hsz3
          refine ⟨⟨by rw [World.putObj_size]; exact hsz3, fun k o' hk1 hk2 hk3 => (World.putObj_heap_other (by omega)).trans (hb3.others.same k o' (by omega) ((World.putObj_heap_other (by omega)).trans hk2) hk3)⟩, below_putObj (hw2.trans hb3.below) (by omega) _ (by omega), fun k hk h3 => by have h4 := hz0 k hk; exact (World.putObj_heap_other (by omega)).trans ((hb3.extra k hk (by rw [World.putObj_size]; exact h3)).trans (World.putObj_heap_other (by omega))), fun k h1 h2 h3 => ?_⟩
          exact (World.putObj_heap_other (by omega)).trans ((hb3.zone k (by omega) (by omega) (by rw [World.putObj_size]; exact h3)).trans (World.putObj_heap_other (by omega)))
      rintro e a3 W3 hp
      cases e with
      | normal =>
        obtain ⟨hb3, hi3⟩ := hp
        have hk3 := hb3.others
        obtain ⟨hr, hl3, hl4, hk4⟩ := fin none W3 hk3
        exact ⟨_, _, hr, .inl ⟨rfl, ⟨hI.putObj _ hi3 (by omega) hl3 rfl, hl4, hk4⟩, bel _ _ hb3⟩⟩
      | ret =>
        obtain ⟨hb3, hi3⟩ := hp
        have hk3 := hb3.others
        obtain ⟨hr, hl3, hl4, hk4⟩ := fin (some .ret) W3 hk3
        exact ⟨_, _, hr, .inr ⟨rfl, ⟨.ret, (hIx _).putObj _ hi3 (by omega) hl3 rfl, hl4, hk4⟩, bel _ _ hb3⟩⟩
      | exit id =>
        obtain ⟨hb3, hi3⟩ := hp
        have hk3 := hb3.others
        obtain ⟨hr, hl3, hl4, hk4⟩ := fin (some (.exit id)) W3 hk3
        exact ⟨_, _, hr, .inr ⟨rfl, ⟨.exit id, (hIx _).putObj _ hi3 (by omega) hl3 rfl, hl4, hk4⟩, bel _ _ hb3⟩⟩
      | goto t =>
        obtain ⟨hb3, hi3⟩ := hp
        have hk3 := hb3.others
        obtain ⟨hr, hl3, hl4, hk4⟩ := fin (some (.goto t)) W3 hk3
        exact ⟨_, _, hr, .inr ⟨rfl, ⟨.goto t, (hIx _).putObj _ hi3 (by omega) hl3 rfl, hl4, hk4⟩, bel _ _ hb3⟩⟩
      | panic ch => exact hp.elim
      | outgrown => exact hp.elim
    · rintro e W2 ⟨⟨v, rfl⟩, (⟨hi, hl, hk⟩ | ⟨pre, hSp, cd, hi, hl, hk⟩)⟩
      · exact ⟨none, _, by have := run_endLoop (P := P) hl (by rw [hmk]; simp); rw [hmk] at this; exact this, hdone _ (hI.putObj _ hi (by omega) hl rfl) ((World.putObj_heap_other (by omega)).trans hk)⟩
      · exact ⟨some cd, _, by have := run_endLoop (P := P) hl (by rw [hmk]; simp); rw [hmk] at this; exact this, hstop cd pre _ hSp ((hIx cd).putObj _ hi (by omega) hl rfl) ((World.putObj_heap_other (by omega)).trans hk)⟩

/-- .. at the plain fence: as the walk meets it. -/
theorem wp_seqP {α : Type} {P : Program} {g : Operand} {ps : Array Tmp} {assign body : Code} {Q : Exit → Act → World → Prop} {a : Act} {w : World}
    {gf : Nat} {lb : Array Value} (hg : a.eval g = .func (.func gf) #[] lb) (eg : ∀ args w, (callFunc gf args).run P w = .ok (.enter gf args) w)
    {encs : α → Array Value} {n₀ : Nat} {z ζ : Nat → Prop} {xs : List α} {w0 : World} (hseq : SeqP P gf lb encs n₀ z ζ xs w0) (hn₀ : n₀ ≤ w.heap.size) (hz0 : ∀ k, z k → k < w.heap.size) (hζ : ∀ k, ζ k → k < w.heap.size) (hb0 : Below w0.heap.size w0 w) (hps : ∀ x, (encs x).size = ps.size)
    (I : List α → World → Prop) (Ix : Code → List α → World → Prop) (hI : ZoneP w.heap.size ζ I) (hIx : ∀ cd, ZoneP w.heap.size ζ (Ix cd)) (h0 : I [] w)
    (hround : ∀ (l : Nat) (pre : List α) (x : α) (W : World), pre ++ [x] <+: xs → assign.wpIn (Fence.wide.inRound l) 5 P
      (Exit.then (fun a' W' => W' = W ∧ ∀ V, w.heap.size + 2 ≤ V.heap.size → I pre V → body.wpIn (Fence.wide.inRound l) 5 P (roundEnd w.heap.size n₀ z 0 I Ix (pre ++ [x]) V) a' V) (fun _ _ _ => False))
      { tmps := (ps.zip (encs x)).foldl (fun t (p, v) => t.setIfInBounds p v) a.tmps, defers := [] } W)
    (hdone : ∀ W, I xs W → W.heap[w.heap.size]? = some (.deferred (some [])) → Q .normal { a with defers := { target := .collected w.heap.size, args := #[] } :: a.defers } W)
    (hstop : ∀ (cd : Code) (pre : List α) (W : World), pre <+: xs → Ix cd pre W → W.heap[w.heap.size]? = some (.deferred (some [])) → cd.wp P Q { a with defers := { target := .collected w.heap.size, args := #[] } :: a.defers } W) :
    (Code.rangeFunc g ps assign body).wp P Q a w :=
  wpIn_wide.1 (wpIn_seqP (n := 5) hg eg hseq hn₀ hz0 hζ hb0 hps I Ix hI hIx h0 hround hdone (fun cd pre W h1 h2 h3 => wpIn_wide.2 (hstop cd pre W h1 h2 h3)))
end Go.Proofs.Ytdgdbcapojgnlaa
