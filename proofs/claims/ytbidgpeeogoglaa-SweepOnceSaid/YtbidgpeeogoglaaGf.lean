/-
  Merged texts: RangeP, RgAll.
-/
import Derived.Test.YtbidgpeeogoglaaGa
import Derived.Test.YtbidgpeeogoglaaGc
import Derived.Test.YtbidgpeeogoglaaGd
/-
  A range over a function whose iterator turns blocks that lay already (a captured variable): the contract and the law of the statement over it.
-/
namespace Go.Proofs.Ytbidgpeeogoglaa
set_option maxRecDepth 100000
open Go.RowKit Go.Shelf

/-- J minds neither new blocks, nor the turn of a block of ζ, nor that of a block from B on that is no cells. -/
def ZoneP {β : Type} (B : Nat) (ζ : Nat → Prop) (J : β → World → Prop) : Prop :=
  ∀ s W W' row, J s W → W.grownBy W' row → (∀ r, row = some r → ζ r ∨ (B ≤ r ∧ ∃ o : Obj, W.heap[r]? = some o ∧ o.isCells = false)) → J s W'
section
variable {β : Type} {B : Nat} {ζ : Nat → Prop}
theorem ZoneP.alloc {J : β → World → Prop} (h : ZoneP B ζ J) {s : β} {W : World} (o : Obj) (hs : J s W) : J s (W.alloc o) :=
  h s W _ none hs (World.grownBy_alloc W o none) (fun r e => by cases e)
theorem ZoneP.call {J : β → World → Prop} (h : ZoneP B ζ J) {s : β} {W W' : World} (hb : Below W.heap.size W W') (hs : J s W) : J s W' :=
  h s W _ none hs (grownBy_below hb none) (fun r e => by cases e)
theorem ZoneP.putObj {J : β → World → Prop} (h : ZoneP B ζ J) {s : β} {W : World} {l : Nat} {o : Obj} (o' : Obj) (hs : J s W) (hB : B ≤ l) (hl : W.heap[l]? = some o) (ho : o.isCells = false) : J s (W.putObj l o') :=
  h s W _ (some l) hs (grownBy_putObj' W l o') (fun r e => by cases e; exact .inr ⟨hB, o, hl, ho⟩)
theorem ZoneP.set {J : β → World → Prop} (h : ZoneP B ζ J) {s : β} {W : World} {b : Nat} (v : Value) (hs : J s W) (hb : ζ b) : J s (W.setCell ⟨b, 0, none⟩ v) :=
  h s W _ (some b) hs (grownBy_setCell' W b v) (fun r e => by cases e; exact .inl hb)
theorem ZoneP.ex {γ : Type} {J : γ → β → World → Prop} (h : ∀ c, ZoneP B ζ (J c)) : ZoneP B ζ (fun s W => ∃ c, J c s W) :=
  fun s W W' row hs hg hr => hs.elim fun c hc => ⟨c, h c s W W' row hc hg hr⟩
theorem ZoneP.none : ZoneP B ζ (fun (_ : β) (_ : World) => False) := fun _ _ _ _ hs _ _ => hs
theorem ZoneP.and {J K : β → World → Prop} (h : ZoneP B ζ J) (k : ZoneP B ζ K) : ZoneP B ζ (fun s W => J s W ∧ K s W) :=
  fun s W W' row hs hg hr => ⟨h s W W' row hs.1 hg hr, k s W W' row hs.2 hg hr⟩
theorem ZoneP.mono {J : β → World → Prop} (h : ZoneP B ζ J) {B' : Nat} (hB : B ≤ B') : ZoneP B' ζ J :=
  fun s W W' row hs hg hr => h s W W' row hs hg fun r e => (hr r e).imp id (fun h => ⟨by omega, h.2⟩)
end
/-- **AN ITERATOR's CONTRACT**: the function g with the captured values lb hands out just the elements xs, in their order, or a part of them from the first on where a round has said 'no more'. ζ: the blocks that it turns. A round keeps what lies below n₀, and the blocks z. -/
def SeqP {α : Type} (P : Program) (g : Nat) (lb : Array Value) (encs : α → Array Value) (n₀ : Nat) (z ζ : Nat → Prop) (xs : List α) (w : World) : Prop :=
  ∀ (l : Nat) (J Jx : List α → World → Prop) (W : World), Below w.heap.size w W → ZoneP W.heap.size ζ J → ZoneP W.heap.size ζ Jx →
    (∀ pre x W1, J pre W1 → W.heap.size ≤ W1.heap.size → pre ++ [x] <+: xs → YieldAt Fence.wide 5 P l (encs x) W1 fun e W' =>
      (e = .returned (.bool true) ∧ J (pre ++ [x]) W' ∧ Kept W.heap.size n₀ z W.heap.size W.heap.size W1 W') ∨ (e = .returned (.bool false) ∧ Jx (pre ++ [x]) W' ∧ Kept W.heap.size n₀ z W.heap.size W.heap.size W1 W')) →
    J [] W →
    Calls P g (#[.func (.yield l) #[] #[]] ++ lb) W fun e W' => (∃ v, e = .returned v) ∧ (J xs W' ∨ ∃ pre, pre <+: xs ∧ Jx pre W')
/-- **THE STATEMENT 'for .. := range g { .. }'**, over an iterator that has its contract. -/
theorem wpIn_seqP {α : Type} {P : Program} {g : Operand} {ps : Array Tmp} {assign body : Code} {Q : Exit → Act → World → Prop} {a : Act} {w : World} {n : Nat}
    {gf : Nat} {lb : Array Value} (hg : a.eval g = .func (.func gf) #[] lb) (eg : ∀ args w, (callFunc gf args).run P w = .ok (.enter gf args) w)
    {encs : α → Array Value} {n₀ : Nat} {z ζ : Nat → Prop} {xs : List α} {w0 : World} (hseq : SeqP P gf lb encs n₀ z ζ xs w0) (hn₀ : n₀ ≤ w.heap.size) (hz0 : ∀ k, z k → k < w.heap.size) (hζ : ∀ k, ζ k → k < w.heap.size) (hb0 : Below w0.heap.size w0 w) (hps : ∀ x, (encs x).size = ps.size)
    (I : List α → World → Prop) (Ix : Code → List α → World → Prop) (hI : ZoneP w.heap.size ζ I) (hIx : ∀ cd, ZoneP w.heap.size ζ (Ix cd)) (h0 : I [] w)
    (hround : ∀ (l : Nat) (pre : List α) (x : α) (W : World), pre ++ [x] <+: xs → assign.wpIn (Fence.wide.inRound l) 5 P
      (Exit.then (fun a' W' => W' = W ∧ ∀ V, w.heap.size + 2 ≤ V.heap.size → I pre V → body.wpIn (Fence.wide.inRound l) 5 P (roundEnd w.heap.size n₀ z 0 I Ix (pre ++ [x]) V) a' V) (fun _ _ _ => False))
      { tmps := (ps.zip (encs x)).foldl (fun t (p, v) => t.setIfInBounds p v) a.tmps, defers := [] } W)
    (hdone : ∀ W, I xs W → W.heap[w.heap.size]? = some (.deferred (some [])) → Q .normal { a with defers := { target := .collected w.heap.size, args := #[] } :: a.defers } W)
    (hstop : ∀ (cd : Code) (pre : List α) (W : World), pre <+: xs → Ix cd pre W → W.heap[w.heap.size]? = some (.deferred (some [])) → cd.wpIn Fence.wide n P Q { a with defers := { target := .collected w.heap.size, args := #[] } :: a.defers } W) :
    (Code.rangeFunc g ps assign body).wpIn Fence.wide n P Q a w := by
  refine wpIn_rangeFunc ?_
  intro fn _
  obtain ⟨mk, hmk⟩ : ∃ mk : LoopState → Option Code → Loop, mk = fun st pe => { state := st, pending := pe, fn, tmps := a.tmps, params := ps, assign, body, defers := w.heap.size } := ⟨_, rfl⟩
  obtain ⟨V, hV⟩ : ∃ V, (w.alloc (.deferred (some []))).alloc (.loop (mk .ready none)) = V := ⟨_, rfl⟩
  have hVs : V.heap.size = w.heap.size + 2 := by rw [← hV]; simp
  have hVL : V.heap[w.heap.size + 1]? = some (.loop (mk .ready none)) := by
    rw [← hV]; have := World.alloc_heap_new (w.alloc (.deferred (some []))) (.loop (mk .ready none)); rwa [World.size_alloc] at this
  have hVD : V.heap[w.heap.size]? = some (.deferred (some [])) := by
    rw [← hV]; exact (Below.heap_alloc _ _ _ (by simp)).trans (World.alloc_heap_new w _)
  have hVI : I [] V := by rw [← hV]; exact hI.alloc _ (hI.alloc _ h0)
  have hVb : Below w0.heap.size w0 V := by
    rw [← hV]; exact hb0.trans ((((Below.refl _ w).alloc (Nat.le_refl _) _).alloc (by simp) _).mono hb0.size)
  -- what the iterator may do leaves the two blocks as they are
  have far : ∀ {A A' : World} {row : Option Nat} {k : Nat} {o : Obj}, A.grownBy A' row → (∀ r, row = some r → ζ r ∨ (V.heap.size ≤ r ∧ ∃ o : Obj, A.heap[r]? = some o ∧ o.isCells = false)) → w.heap.size ≤ k → k < w.heap.size + 2 → A.heap[k]? = some o → A'.heap[k]? = some o :=
    fun hg hr hk0 hk ho => (hg.block _ (Array.getElem?_eq_some_iff.1 ho).1 (fun e => by
      rcases hr _ e.symm with h | h
      · have := hζ _ h; omega
      · have := h.1; omega)).trans ho
  have wide : ∀ {A : World} {row : Option Nat}, (∀ r, row = some r → ζ r ∨ (V.heap.size ≤ r ∧ ∃ o : Obj, A.heap[r]? = some o ∧ o.isCells = false)) → (∀ r, row = some r → ζ r ∨ (w.heap.size ≤ r ∧ ∃ o : Obj, A.heap[r]? = some o ∧ o.isCells = false)) :=
    fun hr r e => (hr r e).imp id (fun h => ⟨by omega, h.2⟩)
  refine ⟨w.heap.size + 1, [{ target := .collected w.heap.size, args := #[] }], V, { target := .fn (.func gf) lb, args := #[.func (.yield (w.heap.size + 1)) #[] #[]] }, V, gf,
    #[.func (.yield (w.heap.size + 1)) #[] #[]] ++ lb, V, ?_, ?_, fun _ _ => trivial, ?_, (fun h => (by simp [Fence.wide] at h)), ?_⟩
  · rw [← hV, hmk]; exact run_enterLoop_outer _ _ _ _ _
  · simp only [resolve, hg]
    simp [go_sem]
  · simp [invoke, go_sem, eg]
  · refine callsIn_wide.2 ((hseq (w.heap.size + 1)
      (fun pre W => I pre W ∧ W.heap[w.heap.size + 1]? = some (.loop (mk .ready none)) ∧ W.heap[w.heap.size]? = some (.deferred (some [])))
      (fun pre W => ∃ cd, Ix cd pre W ∧ W.heap[w.heap.size + 1]? = some (.loop (mk .done (some cd))) ∧ W.heap[w.heap.size]? = some (.deferred (some [])))
      V hVb
      (fun s A A' row hs hg' hr => ⟨hI s A A' row hs.1 hg' (wide hr), far hg' hr (by omega) (by omega) hs.2.1, far hg' hr (by omega) (by omega) hs.2.2⟩)
      (fun s A A' row hs hg' hr => by
        obtain ⟨cd, hc, hl, hk⟩ := hs
        exact ⟨cd, hIx cd s A A' row hc hg' (wide hr), far hg' hr (by omega) (by omega) hl, far hg' hr (by omega) (by omega) hk⟩)
      ?_ ⟨hVI, hVL, hVD⟩).mono ?_)
    · rintro pre x W ⟨hi, hl, hk⟩ hsz hpre
      have hlt : w.heap.size + 1 < W.heap.size := (Array.getElem?_eq_some_iff.1 hl).1
      have hy := run_yield (P := P) (args := encs x) hl (by rw [hmk]; exact hps x)
      rw [hmk] at hy
      refine ⟨fn, _, assign, body, hy, roundIn_of_wpIn trivial (wpIn_mono (hround _ pre x W hpre) ?_)⟩
      intro e0 a0 W0 h0
      cases e0 <;> try exact h0
      obtain ⟨e1, hbody⟩ := h0
      rw [e1]
      refine ⟨_, run_beginRound hl (by rw [hmk]), ?_⟩
      have hl2 : (W.putObj (w.heap.size + 1) (.loop { mk .ready none with state := .busy })).heap[w.heap.size + 1]? = some (.loop { mk .ready none with state := .busy }) := World.putObj_heap_same hlt
      have hk2 : (W.putObj (w.heap.size + 1) (.loop { mk .ready none with state := .busy })).heap[w.heap.size]? = some (.deferred (some [])) := (World.putObj_heap_other (by omega)).trans hk
      have hw2 : Below n₀ W (W.putObj (w.heap.size + 1) (.loop { mk .ready none with state := .busy })) := below_putObj (Below.refl _ _) (by omega) _ (by omega)
      refine wpIn_mono (hbody _ (by rw [World.putObj_size]; omega) (hI.putObj _ hi (by omega) hl rfl)) ?_
      have fin : ∀ (jump : Option Code) (W3 : World), KeepsFrom w.heap.size (W.putObj (w.heap.size + 1) (.loop { mk .ready none with state := .busy })) W3 →
          (Instr.endRound (w.heap.size + 1) jump).run P W3 = .ok (.bool jump.isNone) (W3.putObj (w.heap.size + 1) (.loop (mk (if jump.isNone then .ready else .done) jump))) ∧
          W3.heap[w.heap.size + 1]? = some (.loop { mk .ready none with state := .busy }) ∧
          (W3.putObj (w.heap.size + 1) (.loop (mk (if jump.isNone then .ready else .done) jump))).heap[w.heap.size + 1]? = some (.loop (mk (if jump.isNone then .ready else .done) jump)) ∧
          (W3.putObj (w.heap.size + 1) (.loop (mk (if jump.isNone then .ready else .done) jump))).heap[w.heap.size]? = some (.deferred (some [])) := fun jump W3 hk3 => by
        have hl3 := hk3.same _ _ (by omega) hl2 rfl
        have := run_endRound (P := P) jump hl3
        rw [hmk] at this ⊢
        exact ⟨this, by rw [hmk] at hl3; exact hl3, World.putObj_heap_same (Array.getElem?_eq_some_iff.1 hl3).1, (World.putObj_heap_other (by omega)).trans (hk3.same _ _ (Nat.le_refl _) hk2 rfl)⟩
      have bel : ∀ (o : Obj) (W3 : World), Kept w.heap.size n₀ z (w.heap.size + 2) (w.heap.size + 2 + 0) (W.putObj (w.heap.size + 1) (.loop { mk .ready none with state := .busy })) W3 → Kept V.heap.size n₀ z V.heap.size V.heap.size W (W3.putObj (w.heap.size + 1) o) :=
        fun o W3 hb3 => by
          have hsz3 := hb3.below.size
          rw [World.putObj_size] at hsz3
          refine ⟨⟨by rw [World.putObj_size]; exact hsz3, fun k o' hk1 hk2 hk3 => (World.putObj_heap_other (by omega)).trans (hb3.others.same k o' (by omega) ((World.putObj_heap_other (by omega)).trans hk2) hk3)⟩, below_putObj (hw2.trans hb3.below) (by omega) _ (by omega), fun k hk h3 => by have h4 := hz0 k hk; exact (World.putObj_heap_other (by omega)).trans ((hb3.extra k hk (by rw [World.putObj_size]; exact h3)).trans (World.putObj_heap_other (by omega))), fun k h1 h2 h3 => ?_⟩
          exact (World.putObj_heap_other (by omega)).trans ((hb3.zone k (by omega) (by omega) (by rw [World.putObj_size]; exact h3)).trans (World.putObj_heap_other (by omega)))
      rintro e a3 W3 hp
      cases e with
      | normal =>
        obtain ⟨hb3, hi3⟩ := hp
        have hk3 := hb3.others
        obtain ⟨hr, hl3, hl4, hk4⟩ := fin none W3 hk3
        exact ⟨_, _, hr, .inl ⟨rfl, ⟨hI.putObj _ hi3 (by omega) hl3 rfl, hl4, hk4⟩, bel _ _ hb3⟩⟩
      | ret =>
        obtain ⟨hb3, hi3⟩ := hp
        have hk3 := hb3.others
        obtain ⟨hr, hl3, hl4, hk4⟩ := fin (some .ret) W3 hk3
        exact ⟨_, _, hr, .inr ⟨rfl, ⟨.ret, (hIx _).putObj _ hi3 (by omega) hl3 rfl, hl4, hk4⟩, bel _ _ hb3⟩⟩
      | exit id =>
        obtain ⟨hb3, hi3⟩ := hp
        have hk3 := hb3.others
        obtain ⟨hr, hl3, hl4, hk4⟩ := fin (some (.exit id)) W3 hk3
        exact ⟨_, _, hr, .inr ⟨rfl, ⟨.exit id, (hIx _).putObj _ hi3 (by omega) hl3 rfl, hl4, hk4⟩, bel _ _ hb3⟩⟩
      | goto t =>
        obtain ⟨hb3, hi3⟩ := hp
        have hk3 := hb3.others
        obtain ⟨hr, hl3, hl4, hk4⟩ := fin (some (.goto t)) W3 hk3
        exact ⟨_, _, hr, .inr ⟨rfl, ⟨.goto t, (hIx _).putObj _ hi3 (by omega) hl3 rfl, hl4, hk4⟩, bel _ _ hb3⟩⟩
      | panic ch => exact hp.elim
      | outgrown => exact hp.elim
    · rintro e W2 ⟨⟨v, rfl⟩, (⟨hi, hl, hk⟩ | ⟨pre, hSp, cd, hi, hl, hk⟩)⟩
      · exact ⟨none, _, by have := run_endLoop (P := P) hl (by rw [hmk]; simp); rw [hmk] at this; exact this, hdone _ (hI.putObj _ hi (by omega) hl rfl) ((World.putObj_heap_other (by omega)).trans hk)⟩
      · exact ⟨some cd, _, by have := run_endLoop (P := P) hl (by rw [hmk]; simp); rw [hmk] at this; exact this, hstop cd pre _ hSp ((hIx cd).putObj _ hi (by omega) hl rfl) ((World.putObj_heap_other (by omega)).trans hk)⟩

/-- .. at the plain fence: as the walk meets it. -/
theorem wp_seqP {α : Type} {P : Program} {g : Operand} {ps : Array Tmp} {assign body : Code} {Q : Exit → Act → World → Prop} {a : Act} {w : World}
    {gf : Nat} {lb : Array Value} (hg : a.eval g = .func (.func gf) #[] lb) (eg : ∀ args w, (callFunc gf args).run P w = .ok (.enter gf args) w)
    {encs : α → Array Value} {n₀ : Nat} {z ζ : Nat → Prop} {xs : List α} {w0 : World} (hseq : SeqP P gf lb encs n₀ z ζ xs w0) (hn₀ : n₀ ≤ w.heap.size) (hz0 : ∀ k, z k → k < w.heap.size) (hζ : ∀ k, ζ k → k < w.heap.size) (hb0 : Below w0.heap.size w0 w) (hps : ∀ x, (encs x).size = ps.size)
    (I : List α → World → Prop) (Ix : Code → List α → World → Prop) (hI : ZoneP w.heap.size ζ I) (hIx : ∀ cd, ZoneP w.heap.size ζ (Ix cd)) (h0 : I [] w)
    (hround : ∀ (l : Nat) (pre : List α) (x : α) (W : World), pre ++ [x] <+: xs → assign.wpIn (Fence.wide.inRound l) 5 P
      (Exit.then (fun a' W' => W' = W ∧ ∀ V, w.heap.size + 2 ≤ V.heap.size → I pre V → body.wpIn (Fence.wide.inRound l) 5 P (roundEnd w.heap.size n₀ z 0 I Ix (pre ++ [x]) V) a' V) (fun _ _ _ => False))
      { tmps := (ps.zip (encs x)).foldl (fun t (p, v) => t.setIfInBounds p v) a.tmps, defers := [] } W)
    (hdone : ∀ W, I xs W → W.heap[w.heap.size]? = some (.deferred (some [])) → Q .normal { a with defers := { target := .collected w.heap.size, args := #[] } :: a.defers } W)
    (hstop : ∀ (cd : Code) (pre : List α) (W : World), pre <+: xs → Ix cd pre W → W.heap[w.heap.size]? = some (.deferred (some [])) → cd.wp P Q { a with defers := { target := .collected w.heap.size, args := #[] } :: a.defers } W) :
    (Code.rangeFunc g ps assign body).wp P Q a w :=
  wpIn_wide.1 (wpIn_seqP (n := 5) hg eg hseq hn₀ hz0 hζ hb0 hps I Ix hI hIx h0 hround hdone (fun cd pre W h1 h2 h3 => wpIn_wide.2 (hstop cd pre W h1 h2 h3)))
end Go.Proofs.Ytbidgpeeogoglaa
/-
  Package ring: from, All: a ring's slots handed out.
-/
namespace Go.Proofs.Ytbidgpeeogoglaa
set_option maxRecDepth 100000
open Go.RowKit Go.Shelf
attribute [local go_sem] Oper.semAt_some

theorem run_succ (S : St) (n : Nat) {x : Nat} (hx : x < 32) : S.run (n + 1) x = x :: S.run n (S.lk x).2 := by
  show (if inR (x : Int) = true then (x : Int).toNat :: S.run n (S.lk x).2 else []) = _
  rw [if_pos (inR_nat hx), Int.toNat_natCast]
theorem run_out (S : St) (n : Nat) {i : Int} (hi : inR i = false) : S.run n i = [] := by
  cases n with
  | zero => rfl
  | succ n => unfold St.run; rw [if_neg (by simp [hi])]
set_option maxHeartbeats 4000000 in
theorem from1_seqp {S : St} (i : Int) (g Bi Ba : Nat) (w : World) (n₀ : Nat) (z : Nat → Prop) (hzi : z Bi) (hza : z Ba) (hzg : z g) (hia : Bi ≠ Ba) (hig : Bi ≠ g)
    (hA : IsAr w g S) (hbi : Boxed w Bi 3 (.int .i64 i)) (hba : Boxed w Ba 24 (.pointer (some ⟨g, 0, none⟩))) :
    SeqP Try.prog 61 #[.pointer (some ⟨Bi, 0, none⟩), .pointer (some ⟨Ba, 0, none⟩)] natV n₀ z (fun r => r = Bi) (S.run 32 i) w := by
  intro l J Jx W hW hJ hJx hY h0
  have hbi0 : Boxed W Bi 3 (.int .i64 i) := (hW.block Bi hbi.lt).trans hbi
  have hba0 : Boxed W Ba 24 (.pointer (some ⟨g, 0, none⟩)) := (hW.block Ba hba.lt).trans hba
  have HA := Lib.hid (hA.below hW hA.lt)
  have HBI := Lib.hid hbi0
  have HBA := Lib.hid hba0
  clear hbi hba hA hbi0 hba0
  refine (callsIn_wide (n := 6)).1 ?_
  refine callsIn_of_wp Try.func61 rfl trivial ?_ rfl
  simp only [Try.ntmps61, List.size_toArray, List.length_cons, List.length_nil, Nat.reduceAdd, Nat.reduceSub, Array.replicate_succ, Array.replicate_zero, List.push_toArray, List.append_toArray, List.nil_append, List.cons_append]
  gi_wp2
  gi_loopw [4] (fun q wr => ∃ (k : Nat) (pre : List Nat) (cur : Int), k ≤ 32 ∧ q = .int .i64 k ∧ S.run 32 i = pre ++ S.run (32 - k) cur ∧ J pre wr ∧ (IsAr wr g S ∧ Boxed wr Bi 3 (.int .i64 cur) ∧ Boxed wr Ba 24 (.pointer (some ⟨g, 0, none⟩)) ∧ W.heap.size ≤ wr.heap.size))
    (fun q _ => 32 - (intOf q).toNat)
  case atStart => exact ⟨0, [], i, by omega, rfl, rfl, h0, HA.out, HBI.out, HBA.out, Nat.le_refl _⟩
  case round =>
    obtain ⟨k, pre, cur, hk, rfl, hpre, hJs, hA, hbi, hba, hsz⟩ := hrel
    have HP := Lib.hid hpre
    have HBA1 := Lib.hid hba
    have HBI1 := Lib.hid hbi
    have HA1 := Lib.hid hA
    have hci := hbi.cell
    clear HA HBI HBA hba hbi hA hpre
    rcases hin : inR cur with _ | _
    · gi_wp2_with (refine ⟨trivial, ?_⟩; gi_at_call 44; refine (callsIn_wide.2 (rthere_any _ _)).mono ?_; rintro e w' ⟨rfl, rfl⟩)
      all_goals (refine ⟨fun _ h => (by cases h), ?_⟩)
      all_goals gi_wp2
      all_goals go_end0
      all_goals
        have hP := HP.out
        rw [run_out S _ hin, List.append_nil] at hP
        exact ⟨⟨_, rfl⟩, .inl (by rw [hP]; exact hJs)⟩
    · obtain ⟨x, rfl⟩ : ∃ x : Nat, cur = (x : Int) := ⟨cur.toNat, by have := inR_iff.1 hin; omega⟩
      have hx : x < 32 := by have := inR_iff.1 hin; omega
      by_cases hlt : k < 32
      · have hlt' : (k : Int) < 32 := by omega
        have hP := HP.out
        rw [show 32 - k = (31 - k) + 1 by omega, run_succ S _ hx] at hP
        obtain ⟨fn, tmps, assign, body, hy, hR⟩ := hY pre x wr hJs hsz (by rw [hP]; exact ⟨S.run (31 - k) (S.lk x).2, by simp⟩)
        have HP2 := Lib.hid hP
        simp only [natV] at hy
        clear hP
        gi_wp2_with (refine ⟨trivial, ?_⟩; gi_at_call 44; refine (callsIn_wide.2 (rthere_any _ _)).mono ?_; rintro e w' ⟨rfl, rfl⟩)
        refine hR.mono ?_
        rintro e W3 (⟨rfl, hJ3, hk3⟩ | ⟨rfl, hJx3, hk3⟩)
        · have hA3 := HA1.out.block (hk3.extra g hzg HA1.out.lt)
          have hbi3 : Boxed W3 Bi 3 (.int .i64 x) := (hk3.extra Bi hzi HBI1.out.lt).trans HBI1.out
          have hba3 : Boxed W3 Ba 24 (.pointer (some ⟨g, 0, none⟩)) := (hk3.extra Ba hza HBA1.out.lt).trans HBA1.out
          have hsz3 := hk3.below.size
          have HA3 := Lib.hid hA3
          have HBI3 := Lib.hid hbi3
          have HBA3 := Lib.hid hba3
          have hci3 := hbi3.cell
          have hca3 := hba3.cell
          clear hA3 hbi3 hba3 hk3 HA1 HBI1 HBA1 hci
          gi_wp2_with (refine ⟨trivial, ?_⟩; gi_at_call 47; fail)
          refine ⟨trivial, ?_⟩
          refine (callsIn_wide.2 (of_any x g _ HA3.out)).mono ?_
          rintro e W4 ⟨rfl, hb4⟩
          have hbi4 : Boxed W4 Bi 3 (.int .i64 x) := (hb4.block Bi HBI3.out.lt).trans HBI3.out
          have hba4 : Boxed W4 Ba 24 (.pointer (some ⟨g, 0, none⟩)) := (hb4.block Ba HBA3.out.lt).trans HBA3.out
          have HA4 := Lib.hid (HA3.out.below hb4 HA3.out.lt)
          have hJ4 := hJ.call hb4 hJ3
          have hsz4 := hb4.size
          have HBI4 := Lib.hid hbi4
          have HBA4 := Lib.hid hba4
          have hci4 := hbi4.cell
          have hfi4 := hbi4.frozen
          have fl1 := field1
          clear hbi4 hba4 hb4 HA3 HBI3 HBA3 hci3 hca3 hJ3
          obtain ⟨y, hy4⟩ : ∃ y, S.lk (x : Int) = y := ⟨_, rfl⟩
          obtain ⟨y1, y2⟩ := y
          rw [hy4]
          unfold lkV
          have HY := Lib.hid hy4
          clear hy4
          gi_wp2
          go_roundw
          case rel =>
            refine ⟨k + 1, pre ++ [x], y2, by omega, by go_num, ?_, hJ.set _ hJ4 rfl, HA4.out.block (Below.heap_setCell _ _ _ g (fun e => hig e.symm)), HBI4.out.set _, (Below.heap_setCell _ _ _ Ba (fun e => hia e.symm)).trans HBA4.out, by simp; omega⟩
            rw [HP2.out, HY.out, show 32 - (k + 1) = 31 - k by omega]
            simp
          case measure => simp [intOf]; omega
        · gi_wp2
          go_end0
          exact ⟨⟨_, rfl⟩, .inr ⟨pre ++ [x], by rw [HP2.out]; exact ⟨S.run (31 - k) (S.lk x).2, by simp⟩, hJx3⟩⟩
      · obtain rfl : k = 32 := by omega
        gi_wp2_with (refine ⟨trivial, ?_⟩; gi_at_call 44; refine (callsIn_wide.2 (rthere_any _ _)).mono ?_; rintro e w' ⟨rfl, rfl⟩)
        all_goals (refine ⟨fun _ h => (by cases h), ?_⟩)
        all_goals gi_wp2
        all_goals go_end0
        all_goals
          have hP := HP.out
          rw [show S.run (32 - 32) (x : Int) = [] from rfl, List.append_nil] at hP
          exact ⟨⟨_, rfl⟩, .inl (by rw [hP]; exact hJs)⟩

theorem from_any (g : Nat) (i : Int) (w : World) : Calls Try.prog 57 #[.pointer (some ⟨g, 0, none⟩), .int .i64 i] w fun e w' =>
    e = .returned (.func (.func 61) #[] #[.pointer (some ⟨w.heap.size + 1, 0, none⟩), .pointer (some ⟨w.heap.size, 0, none⟩)]) ∧ w' = (w.alloc (.cells #[.pointer (some ⟨g, 0, none⟩)] 24)).alloc (.cells #[.int .i64 i] 3) := by
  go_enter Try.func57, Try.ntmps57
  go_wp2
  go_ret
  exact ⟨by simp, rfl⟩
theorem ZoneP.coll {β : Type} {B Bi : Nat} {w : World} {b : Nat} {tb : TypeId} {base : Nat} {te : TypeId} {size : Nat} (hb : b ≠ Bi) (hi : Bi < base) (hw : w.heap.size ≤ B) (hwi : w.heap.size ≤ Bi) (k : β → Nat) (f : β → List Value) :
    ZoneP B (fun r => r = Bi) (fun s W => ∃ v, Coll w b tb base te size (k s) (f s) W v) := by
  intro s W W' row hs hg hr
  obtain ⟨v, h1, h2, h3⟩ := hs
  refine ⟨v, h1.kept hg ?_, h2.kept hg ?_, ?_⟩
  · intro e
    rcases hr b e.symm with h | ⟨_, o, ho, hc⟩
    · exact hb h
    · rw [show W.heap[b]? = _ from h1] at ho; cases ho; cases hc
  · rcases h2.2 with ⟨h, _⟩ | ⟨g, cap, cur, h, hbg, hgb, _⟩
    · exact .inl (by rw [h]; rfl)
    · refine .inr fun e' => ?_
      rw [h] at e'
      have e2 : row = some g := by simpa [Value.ownBlock] using e'.symm
      rcases hr g e2 with h5 | ⟨_, o, ho, hc⟩
      · omega
      · rw [hgb] at ho; cases ho; cases hc
  · refine ⟨hg.os.trans h3.os, hg.tape.trans h3.tape, hg.output.trans h3.output, Nat.le_trans h3.size hg.size, fun j hj hne => ?_⟩
    refine (hg.block j (Nat.lt_of_lt_of_le hj h3.size) (fun e => ?_)).trans (h3.block j hj hne)
    rcases hr j e.symm with h | h
    · omega
    · have := h.1; omega
theorem ZoneP.pure {β : Type} {B : Nat} {ζ : Nat → Prop} (p : β → Prop) : ZoneP B ζ (fun s (_ : World) => p s) := fun _ _ _ _ hs _ _ => hs
/-- A box that does not turn. -/
theorem ZoneP.box {β : Type} {B b : Nat} {t : TypeId} {ζ : Nat → Prop} (hb : ¬ ζ b) (f : β → Value) : ZoneP B ζ (fun s W => Boxed W b t (f s)) :=
  fun s W W' row hs hg hr => hs.kept hg (fun e => by
    rcases hr b e.symm with h | ⟨_, o, ho, hc⟩
    · exact hb h
    · rw [show W.heap[b]? = _ from hs] at ho; cases ho; cases hc)
theorem upto_no {last : Int} : ∀ {L : List Nat}, (∀ y ∈ L, (y : Int) ≠ last) → upto last L = L
  | [], _ => rfl
  | x :: L, h => by
    unfold upto
    rw [if_neg (h x (by simp)), upto_no fun y hy => h y (List.mem_cons_of_mem _ hy)]
theorem upto_stop {last : Int} : ∀ {q xs : List Nat} {x : Nat}, q ++ [x] <+: xs → (∀ y ∈ q, (y : Int) ≠ last) → (x : Int) = last → upto last xs = q ++ [x]
  | [], xs, x, h, _, hx => by
    obtain ⟨t, rfl⟩ := h
    simp [upto, hx]
  | a :: q, xs, x, h, hq, hx => by
    obtain ⟨t, rfl⟩ := h
    simp only [List.cons_append, upto]
    rw [if_neg (hq a (by simp)), upto_stop (q := q) (xs := q ++ [x] ++ t) ⟨t, rfl⟩ (fun y hy => hq y (List.mem_cons_of_mem _ hy)) hx]
set_option maxHeartbeats 4000000 in
theorem all1_seqs (L : List Nat) (p : Option Addr) (cap : Nat) (w : World) (Bn n₀ : Nat) (z : Nat → Prop) (hz : z Bn) (hzp : ∀ a, p = some a → z a.block) (hc : Boxed w Bn 22 (.slice p L.length cap)) (hin : IntsAt w p (natInts L)) (hlen : L.length ≤ 1000000) :
    Seqs Try.prog 58 #[.pointer (some ⟨Bn, 0, none⟩)] natV n₀ z 0 L w := by
  intro l J Jx W hW hJ hJx hY h0
  have hcW : W.cell? ⟨Bn, 0, none⟩ = some (.slice p L.length cap) := (hW.cell (p := ⟨Bn, 0, none⟩) hc.lt).trans hc.cell
  have hIW := hin.below hW (Nat.le_refl _)
  have HI := Lib.hid hin
  have hsz := hW.size
  have HW := Lib.hid hIW
  have HZ := Lib.hid hzp
  clear hc hin hW hIW hzp hz
  refine (callsIn_wide (n := 6)).1 ?_
  refine callsIn_of_wp Try.func58 rfl trivial ?_ rfl
  simp only [Try.ntmps58, List.size_toArray, List.length_cons, List.length_nil, Nat.reduceAdd, Nat.reduceSub, Array.replicate_succ, Array.replicate_zero, List.push_toArray, List.append_toArray, List.nil_append, List.cons_append]
  gi_wp2
  gi_loopw [7] (fun q wr => ∃ k : Nat, k ≤ L.length ∧ q = .int .i64 k ∧ J (L.take k) wr ∧ IntsAt wr p (natInts L) ∧ W.heap.size ≤ wr.heap.size) (fun p _ => L.length - (intOf p).toNat)
  case atStart => exact ⟨0, Nat.zero_le _, rfl, h0, HW.out, Nat.le_refl _⟩
  case round =>
    obtain ⟨k, hk, rfl, hJs, hbw, hwz⟩ := hrel
    by_cases hlt : k < L.length
    · have hlt' : (k : Int) < (L.length : Int) := by omega
      obtain ⟨s, hs⟩ : ∃ s, L[k]? = some s := ⟨_, List.getElem?_eq_getElem hlt⟩
      have HB := Lib.hid hbw
      have hpos : 0 < (natInts L).length := by rw [natInts_len]; omega
      obtain ⟨b, off, rfl, hbl, hcs⟩ := hbw hpos
      clear hbl hpos
      have hcell := hcs k s (by simp [natInts, hs])
      have htk : L.take (k + 1) = L.take k ++ [s] := by rw [List.take_add_one, hs]; rfl
      obtain ⟨fn, tmps, assign, body, hy, hR⟩ := hY (L.take k) s wr hJs (by simpa using hwz) (by rw [← htk]; exact List.take_prefix _ _)
      simp only [natV] at hy
      have HT := Lib.hid htk
      clear hs hcs htk hbw
      gi_wp2
      refine hR.mono ?_
      rintro e W3 (⟨rfl, hJ3, hk3⟩ | ⟨rfl, hJx3, hk3⟩)
      · have hsz3 := hk3.below.size
        gi_wp2
        go_roundw
        case rel => exact ⟨k + 1, by omega, by go_num, by rw [HT.out]; exact hJ3, HB.out.kept hsz3 (fun a e hlt => hk3.extra _ (HZ.out a e) hlt), by omega⟩
        case measure => simp [intOf]; omega
      · gi_wp2
        refine bodyPost_ret (results_none rfl _ _ _) rfl ?_
        exact ⟨⟨_, rfl⟩, .inr ⟨L.take k ++ [s], by rw [← HT.out]; exact List.take_prefix _ _, hJx3⟩⟩
    · obtain rfl : k = L.length := by omega
      gi_wp2
      go_end0
      exact ⟨⟨_, rfl⟩, .inl (by rw [List.take_length] at hJs; exact hJs)⟩

set_option maxHeartbeats 8000000 in
theorem all_any {S : St} (last : Int) (g : Nat) (w : World) (h : IsAr w g S) : Calls Try.prog 48 #[.pointer (some ⟨g, 0, none⟩), .int .i64 last] w fun e w' =>
    ∃ B, e = .returned (.func (.func 58) #[] #[.pointer (some ⟨B, 0, none⟩)]) ∧ (∀ n₀, Seqs Try.prog 58 #[.pointer (some ⟨B, 0, none⟩)] natV n₀ (fun k => w.heap.size ≤ k ∧ k < w'.heap.size) 0 (S.all last) w') ∧ Below w.heap.size w w' := by
  obtain ⟨ii, iz, hi, hz0, hz1, hz2, hz3⟩ := intInfo
  have hgw := h.lt
  have HA := Lib.hid h
  clear h
  obtain ⟨V, hV⟩ : ∃ V, (w.alloc (.cells #[.int .i64 last] 3)).alloc (.cells #[.slice none 0 0] 22) = V := ⟨_, rfl⟩
  have hVs : V.heap.size ≤ w.heap.size + 2 ∧ w.heap.size + 2 ≤ V.heap.size := by rw [← hV]; simp
  have hbV : Below w.heap.size w V := by rw [← hV]; exact ((Below.refl _ _).alloc (Nat.le_refl _) _).alloc (by simp) _
  have bI : Boxed V w.heap.size 3 (.int .i64 last) := by rw [← hV]; exact (Boxed.new w _ _).alloc _
  have bL : Boxed V (w.heap.size + 1) 22 (.slice none 0 0) := by
    rw [← hV]
    have h := Boxed.new (w.alloc (.cells #[.int .i64 last] 3)) 22 (.slice none 0 0)
    rwa [World.size_alloc] at h
  have HAV := Lib.hid (HA.out.below hbV hgw)
  have ci := bI.cell
  have BI := Lib.hid bI
  have BL := Lib.hid bL
  have HV := Lib.hid hV
  have HBV := Lib.hid hbV
  refine calls_marks Try.func48 rfl ?_
  simp only [Try.ntmps48, List.size_toArray, List.length_cons, List.length_nil, Nat.reduceAdd, Nat.reduceSub, Array.replicate_succ, Array.replicate_zero, List.push_toArray, List.append_toArray, List.nil_append, List.cons_append]
  clear bI bL hbV hV
  rcases hin : inR last with _ | _
  · go_wp2_with (go_at_call 44; fail)
    rw [HV.out]
    refine (rthere_any _ _).mono ?_
    rintro e w1 ⟨rfl, rfl⟩
    go_wp2
    have he : S.all last = [] := by unfold St.all; rw [if_neg (by simp [hin])]
    refine ⟨_, results_tmp rfl _ _ _, w.heap.size + 1, rfl, fun n₀ => ?_, HBV.out⟩
    rw [he]
    exact all1_seqs [] none 0 V (w.heap.size + 1) n₀ _ ⟨by omega, by omega⟩ (fun a e => by cases e) BL.out (fun hn => by simp [natInts] at hn) (by simp)
  · go_wp2_with (go_at_call 44; fail)
    rw [HV.out]
    refine (rthere_any _ _).mono ?_
    rintro e w1 ⟨rfl, rfl⟩
    go_wp2_with (go_at_call 47; fail)
    refine (of_any last g V HAV.out).mono ?_
    rintro e V2 ⟨rfl, hb2⟩
    have bi2 : Boxed V2 w.heap.size 3 (.int .i64 last) := (hb2.block w.heap.size BI.out.lt).trans BI.out
    have bl2 : Boxed V2 (w.heap.size + 1) 22 (.slice none 0 0) := (hb2.block (w.heap.size + 1) BL.out.lt).trans BL.out
    have ci2 := bi2.cell
    have BI2 := Lib.hid bi2
    have BL2 := Lib.hid bl2
    clear bi2 bl2
    have HA2 := Lib.hid (HAV.out.below hb2 HAV.out.lt)
    have HB2 := Lib.hid (HBV.out.trans (hb2.mono HBV.out.size))
    have hs2 := hb2.size
    have fl1 := field1
    obtain ⟨x, hx⟩ : ∃ x, S.lk last = x := ⟨_, rfl⟩
    obtain ⟨x1, x2⟩ := x
    have HX := Lib.hid hx
    rw [hx]
    unfold lkV
    clear hx hb2 ci HAV HBV BI BL
    go_wp2_with (go_at_call 57; fail)
    refine (from_any g x2 V2).mono ?_
    rintro e V3 ⟨rfl, rfl⟩
    obtain ⟨V3, hV3⟩ : ∃ V3, (V2.alloc (.cells #[.pointer (some ⟨g, 0, none⟩)] 24)).alloc (.cells #[.int .i64 x2] 3) = V3 := ⟨_, rfl⟩
    have hs3 : V3.heap.size ≤ V2.heap.size + 2 ∧ V2.heap.size + 2 ≤ V3.heap.size := by rw [← hV3]; simp
    have hb3 : Below V2.heap.size V2 V3 := by rw [← hV3]; exact ((Below.refl _ _).alloc (Nat.le_refl _) _).alloc (by simp) _
    have bA3 : Boxed V3 V2.heap.size 24 (.pointer (some ⟨g, 0, none⟩)) := by rw [← hV3]; exact (Boxed.new V2 _ _).alloc _
    have bI3 : Boxed V3 (V2.heap.size + 1) 3 (.int .i64 x2) := by
      rw [← hV3]
      have h := Boxed.new (V2.alloc (.cells #[.pointer (some ⟨g, 0, none⟩)] 24)) 3 (.int .i64 x2)
      rwa [World.size_alloc] at h
    rw [hV3]
    clear hV3
    have bL3 : Boxed V3 (w.heap.size + 1) 22 (.slice none 0 0) := (hb3.block (w.heap.size + 1) BL2.out.lt).trans BL2.out
    have bO3 : Boxed V3 w.heap.size 3 (.int .i64 last) := (hb3.block w.heap.size BI2.out.lt).trans BI2.out
    have HA3 := HA2.out.below hb3 HA2.out.lt
    have HB3 := Lib.hid (HB2.out.trans (hb3.mono HB2.out.size))
    have hll := run_len S 32 x2
    have HLL := Lib.hid hll
    have HW0 := Lib.hid HV.out
    clear hll ci2
    go_wp2
    have fin : ∀ (W : World) (pre : List Nat) (v : Value), S.all last = pre → Coll V2 (w.heap.size + 1) 22 (V3.heap.size + 2) 3 1 pre.length (intVs (natInts pre)) W v → W.heap[V3.heap.size]? = some (.deferred (some [])) →
        ∃ B, (Ending.returned (.func (.func 58) #[] #[.pointer (some ⟨w.heap.size + 1, 0, none⟩)]) : Ending) = .returned (.func (.func 58) #[] #[.pointer (some ⟨B, 0, none⟩)]) ∧ (∀ n₀, Seqs Try.prog 58 #[.pointer (some ⟨B, 0, none⟩)] natV n₀ (fun k => w.heap.size ≤ k ∧ k < (W.putObj V3.heap.size (.deferred none)).heap.size) 0 (S.all last) (W.putObj V3.heap.size (.deferred none))) ∧ Below w.heap.size w (W.putObj V3.heap.size (.deferred none)) := by
      intro W pre v hall hC hK
      have hs := hC.grown.size
      have hkl := (Array.getElem?_eq_some_iff.1 hK).1
      have hbx : Boxed (W.putObj V3.heap.size (.deferred none)) (w.heap.size + 1) 22 v := (World.putObj_heap_other (by omega)).trans hC.box
      have hrw := ownsRow_putObj hC.row (.deferred none) hK rfl
      obtain ⟨p, cap, rfl, hin, hp⟩ := owns_intsFrom hrw
      have hlen := all_len S last
      rw [hall] at hlen ⊢
      refine ⟨_, rfl, fun n₀ => all1_seqs pre p cap _ (w.heap.size + 1) n₀ _ ⟨by omega, by rw [World.putObj_size]; omega⟩ (fun a e => ⟨by have := (hp a e).1; omega, (hp a e).2⟩) hbx hin (by omega), ?_⟩
      exact below_putObj (HB2.out.trans (hC.below (by omega) (by omega))) (by omega) _ (by omega)
    refine wp_seqP rfl (enters_of Try.func61 (by kernel_rfl) rfl) (from1_seqp x2 g (V2.heap.size + 1) V2.heap.size V3 w.heap.size (fun k => k = V2.heap.size + 1 ∨ k = V2.heap.size ∨ k = g) (.inl rfl) (.inr (.inl rfl)) (.inr (.inr rfl)) (by omega) (by omega) HA3 bI3 bA3) (by omega) (fun k hk => by rcases hk with rfl | rfl | rfl <;> omega) (fun k hk => by subst hk; omega) (Below.refl _ _) (fun _ => rfl)
      (fun pre W => (∀ y ∈ pre, (y : Int) ≠ last) ∧ Boxed W w.heap.size 3 (.int .i64 last) ∧ ∃ v, Coll V2 (w.heap.size + 1) 22 (V3.heap.size + 2) 3 1 pre.length (intVs (natInts pre)) W v)
      (fun cd pre W => cd = .exit 0 ∧ upto last (S.run 32 x2) = pre ∧ ∃ v, Coll V2 (w.heap.size + 1) 22 (V3.heap.size + 2) 3 1 pre.length (intVs (natInts pre)) W v)
      ((ZoneP.pure _).and ((ZoneP.box (by omega) (fun _ => .int .i64 last)).and (ZoneP.coll (by omega) (by omega) (by omega) (by omega) (fun pre => pre.length) (fun pre => intVs (natInts pre)))))
      (fun cd => (ZoneP.pure fun _ => cd = .exit 0).and ((ZoneP.pure _).and (ZoneP.coll (by omega) (by omega) (by omega) (by omega) (fun pre => pre.length) (fun pre => intVs (natInts pre)))))
      ⟨(fun y hy => by cases hy), bO3, _, bL3, World.ownsRow_nil _ _ _ _, grownBy_below hb3 _⟩ ?round ?done ?stop
    case stop =>
      rintro cd pre W hpre ⟨rfl, hup, v, hC⟩ hK
      have hall : S.all last = pre := by unfold St.all; rw [if_pos hin, HX.out]; exact hup
      go_wp2
      refine ⟨by simp, .inl ⟨_, _, rfl, run_takeDeferred hK, ?_⟩⟩
      refine ⟨_, results_tmp rfl _ _ _, ?_⟩
      exact fin W _ v hall hC hK
    case round =>
      intro l2 pre i V0 hpre
      simp only [natV]
      gi_wp2
      refine ⟨by trivial, fun V1 hsz1 ⟨hno, hbo, v, hC⟩ => ?_⟩
      have hc1 := hC.box.cell
      have hpl := hpre.length_le
      rw [List.length_append] at hpl
      have h1 : pre.length + (0 + 1) ≤ maxLen := by unfold maxLen; have := HLL.out; simp at hpl; omega
      have h2 : (pre.length + (0 + 1)) * 8 ≤ 140737488355328 := by have := HLL.out; simp at hpl; omega
      have H1 := Lib.hid h1
      have H2 := Lib.hid h2
      clear h1 h2
      have HBO := Lib.hid hbo
      clear hbo hpl
      by_cases heq : (i : Int) = last
      · have he : ((i : Int) == last) = true := by simp [heq]
        have HE := Lib.hid heq
        clear heq
        gi_wp2_with (gi_at_builtin; refine wpListIn_append_new (v := v) rfl _ _ 22 rfl Try.underlying22 hi hz0 hz1 hz2 hz3 (by decide) rfl hC.row 0 rfl rfl (int_one _) H1.out H2.out hsz1 ?_; intro g' cap' w1 hown1 hgr1; obtain ⟨hv1, hC2, hk2⟩ := hC.step (by omega) (by omega) hsz1 hown1 hgr1; have hc2 := hv1.cell; have hf2 := hv1.frozen; have ho2 : Boxed (w1.setCell ⟨w.heap.size + 1, 0, none⟩ (.slice (some ⟨g', 0, none⟩) (pre.length + (0 + 1)) cap')) w.heap.size 3 (.int .i64 last) := ((append_box hC.box hC.row (by omega) hsz1 hown1 hgr1).2.2.2.2.1 w.heap.size (by omega) (by omega)).trans HBO.out; have ho3 := ho2.cell)
        exact ⟨hk2 _ _ _ _ _ (by omega) (by rintro (h | h | h) <;> omega) (fun k hk => by rintro (h | h | h) <;> omega) (by omega) (by omega), rfl, upto_stop hpre hno HE.out, _, by rw [natInts_snoc, List.length_append]; exact hC2⟩
      · have he : ((i : Int) == last) = false := by simpa using heq
        gi_wp2_with (gi_at_builtin; refine wpListIn_append_new (v := v) rfl _ _ 22 rfl Try.underlying22 hi hz0 hz1 hz2 hz3 (by decide) rfl hC.row 0 rfl rfl (int_one _) H1.out H2.out hsz1 ?_; intro g' cap' w1 hown1 hgr1; obtain ⟨hv1, hC2, hk2⟩ := hC.step (by omega) (by omega) hsz1 hown1 hgr1; have hc2 := hv1.cell; have hf2 := hv1.frozen; have ho2 : Boxed (w1.setCell ⟨w.heap.size + 1, 0, none⟩ (.slice (some ⟨g', 0, none⟩) (pre.length + (0 + 1)) cap')) w.heap.size 3 (.int .i64 last) := ((append_box hC.box hC.row (by omega) hsz1 hown1 hgr1).2.2.2.2.1 w.heap.size (by omega) (by omega)).trans HBO.out; have ho3 := ho2.cell)
        exact ⟨hk2 _ _ _ _ _ (by omega) (by rintro (h | h | h) <;> omega) (fun k hk => by rintro (h | h | h) <;> omega) (by omega) (by omega), fun y hy => by
          rcases List.mem_append.1 hy with hy | hy
          · exact hno y hy
          · simp at hy; subst hy; exact heq, ho2, _, by rw [natInts_snoc, List.length_append]; exact hC2⟩
    case done =>
      rintro W ⟨hno, hbo, v, hC⟩ hK
      have hall : S.all last = S.run 32 x2 := by unfold St.all; rw [if_pos hin, HX.out]; exact upto_no hno
      go_wp2
      refine ⟨by simp, .inl ⟨_, _, rfl, run_takeDeferred hK, ?_⟩⟩
      refine ⟨_, results_tmp rfl _ _ _, ?_⟩
      exact fin W _ v hall hC hK
end Go.Proofs.Ytbidgpeeogoglaa
