/-
  A loop over an iterator that collects into a slice of its own: what the walk owes at an append; a function's body walked at the plain fence, with its marks.
-/
import Derived.Test.YtahcedpfnechfaaDoorMem
import Derived.Test.YtahcedpfnechfaaDoorRangeS
namespace Go.Proofs.YtahcedpfnechfaaDoor
set_option maxRecDepth 100000
open Go.RowKit Go.Shelf

/-- One or more new elements behind a row of one's own, in a round. -/
theorem wpListIn_append_new {F : Fence} {n : Nat} {P : Program} {w : World} {ops : Array Oper} {rest : List Oper} {o' : Oper} {a : Act} {Q : Exit → Act → World → Prop} {cs : Array Value} {e : TypeId} (hgd : o'.guard = none) (s x : Operand) (t : TypeId) (ho : o'.op = .call { callee := .builtin .append, args := #[s, x], argTypes := #[t, t] })
    {base : Nat} {i : TypeInfo} {z : Value} {size bytes : Nat} (ht : P.underlying t = some (.slice e)) (hi : P.info? e = some i) (hz : i.zero = some z)
    (hsize : i.size = size) (hby : i.bytes = bytes) (hzs : z.cells.size = size) (hsz : 0 < size)
    {v : Value} {k : Nat} {xs : List Value} (hs : a.eval s = v) (hown : w.ownsRow base e size v k xs) (m : Nat)
    (hx : a.eval x = .slice (some ⟨w.heap.size, 0, none⟩) (m + 1) (m + 1)) (hcs : cs.size = (m + 1) * size) (h1 : ∀ u ∈ cs.toList, u.oneCell' = true)
    (h63 : k + (m + 1) ≤ maxLen) (hbytes : (k + (m + 1)) * bytes ≤ 140737488355328) (hbase : base ≤ w.heap.size)
    (h : ∀ g cap w', w'.ownsRow base e size (.slice (some ⟨g, 0, none⟩) (k + (m + 1)) cap) (k + (m + 1)) (xs ++ cs.toList) → (w.alloc (.cells cs e)).grownBy w' v.ownBlock → wpListIn F n P ops Q rest (a.put o'.dst (.slice (some ⟨g, 0, none⟩) (k + (m + 1)) cap)) w') :
    wpListIn F n P ops Q (o' :: rest) a (w.alloc (.cells cs e)) := by
  refine wpListIn_append_own (w.alloc (.cells cs e)) hgd s x t ho base e i z size bytes ht hi hz hsize hby hzs hsz v k xs hs (hown.alloc _) ⟨w.heap.size, 0, none⟩ (m + 1) (m + 1) cs.toList hx (by simp [hcs]) ?_ h1 h63 hbytes (by simp; omega) ?_
  · intro j u hu
    rw [Addr.add_lit]
    exact (Blk.new w e cs).row.at_ j u (by simpa using hu)
  · intro v' w' hown' hgrow _
    obtain ⟨g', cap', rfl⟩ := ownsRow_succ hown'
    exact h g' cap' w' hown' hgrow

/-- Since w: the box b holds a row of one's own of the values xs (from base on); nothing else that lay in w has turned. -/
structure Coll (w : World) (b : Nat) (tb : TypeId) (base : Nat) (te : TypeId) (size k : Nat) (xs : List Value) (W : World) (v : Value) : Prop where
  box : Boxed W b tb v
  row : W.ownsRow base te size v k xs
  grown : w.grownBy W (some b)

theorem Zone.coll {β : Type} {B lo hi : Nat} {w : World} {b : Nat} {tb : TypeId} {base : Nat} {te : TypeId} {size : Nat} (hb : b < lo) (hbase : hi ≤ base) (hw : w.heap.size ≤ B) (k : β → Nat) (f : β → List Value) :
    Zone B lo hi (fun s W => ∃ v, Coll w b tb base te size (k s) (f s) W v) := by
  intro s W W' row hs hg hr
  obtain ⟨v, h1, h2, h3⟩ := hs
  refine ⟨v, Zone.box (β := Unit) (.inl hb) (fun _ => v) () W W' row h1 hg hr, Zone.owns (β := Unit) hbase (fun _ => v) (fun _ => k s) (fun _ => f s) () W W' row h2 hg hr, ?_⟩
  refine ⟨hg.os.trans h3.os, hg.tape.trans h3.tape, hg.output.trans h3.output, Nat.le_trans h3.size hg.size, fun j hj hne => ?_⟩
  exact (hg.block j (Nat.lt_of_lt_of_le hj h3.size) (fun e => by have := (hr j e.symm).1; omega)).trans (h3.block j hj hne)
theorem Zone.grownBy {β : Type} {B lo hi : Nat} {w : World} {b : Option Nat} (hw : w.heap.size ≤ B) : Zone B lo hi (fun (_ : β) W => w.grownBy W b) :=
  fun s W W' row h3 hg hr => ⟨hg.os.trans h3.os, hg.tape.trans h3.tape, hg.output.trans h3.output, Nat.le_trans h3.size hg.size, fun j hj hne => (hg.block j (Nat.lt_of_lt_of_le hj h3.size) (fun e => by have := (hr j e.symm).1; omega)).trans (h3.block j hj hne)⟩
theorem Zone.blk {β : Type} {B lo hi b : Nat} {t : TypeId} (hb : b < lo ∨ hi ≤ b) (f : β → Array Value) : Zone B lo hi (fun s W => Blk W b t (f s)) :=
  fun s W W' row hs hg hr => hs.grown hg (fun e => by
    rcases (hr b e.symm).2 with h | ⟨o, ho, hc⟩
    · omega
    · rw [hs.eq] at ho; cases ho; cases hc)
theorem Coll.start {w : World} {b : Nat} {tb : TypeId} (h : Boxed w b tb (.slice none 0 0)) (base : Nat) (te : TypeId) (size : Nat) : Coll w b tb base te size 0 [] w (.slice none 0 0) :=
  ⟨h, World.ownsRow_nil _ _ _ _, ⟨rfl, rfl, rfl, Nat.le_refl _, fun _ _ _ => rfl⟩⟩
/-- **'l = append(l, ..)' in a round**, the list in a box. -/
theorem append_box {V w1 : World} {b : Nat} {tb : TypeId} {base : Nat} {te : TypeId} {size k k' : Nat} {xs ys : List Value} {v v' : Value} {tmp : Obj} (hbox : Boxed V b tb v) (hrow : V.ownsRow base te size v k xs)
    (hb : b < base) (hV : base ≤ V.heap.size) (hown : w1.ownsRow base te size v' k' ys) (hgrow : (V.alloc tmp).grownBy w1 v.ownBlock) :
    Boxed w1 b tb v ∧ Boxed (w1.setCell ⟨b, 0, none⟩ v') b tb v' ∧ (w1.setCell ⟨b, 0, none⟩ v').ownsRow base te size v' k' ys ∧
    (∀ B n₀ (x : Nat → Prop) lo hi, n₀ ≤ b → ¬ x b → (∀ k, base ≤ k → ¬ x k) → b < lo → hi ≤ base → Kept B n₀ x lo hi V (w1.setCell ⟨b, 0, none⟩ v')) ∧ (∀ j, j < base → j ≠ b → (w1.setCell ⟨b, 0, none⟩ v').heap[j]? = V.heap[j]?) ∧
    (∀ w : World, w.heap.size ≤ base → w.grownBy V (some b) → w.grownBy (w1.setCell ⟨b, 0, none⟩ v') (some b)) := by
  have hob : ∀ r, v.ownBlock = some r → base ≤ r ∧ ∃ cs t f, V.heap[r]? = some (.cells cs t f) := fun r e => by
    rcases hrow.2 with ⟨e0, _⟩ | ⟨g, cap, cur, e0, hbg, hgb, _⟩
    · rw [e0] at e; cases e
    · rw [e0] at e
      obtain rfl : g = r := by simpa [Value.ownBlock] using e
      exact ⟨hbg, _, _, _, hgb⟩
  have hv1 : Boxed w1 b tb v := (hbox.alloc tmp).kept hgrow (fun e => by have := (hob b e.symm).1; omega)
  have hob' : v'.ownBlock = none ∨ some b ≠ v'.ownBlock := .inr fun e => by
    rcases hown.2 with ⟨e0, _⟩ | ⟨g, cap, cur, e0, hbg, _⟩
    · rw [e0] at e; cases e
    · rw [e0] at e
      obtain rfl : b = g := by simpa [Value.ownBlock] using e
      omega
  have hsame : ∀ j, j < base → j ≠ b → (w1.setCell ⟨b, 0, none⟩ v').heap[j]? = V.heap[j]? := fun j hj hne =>
    (Below.heap_setCell w1 ⟨b, 0, none⟩ v' j hne).trans ((hgrow.block j (by rw [World.size_alloc]; omega) (fun e => by have := (hob j e.symm).1; omega)).trans (Below.heap_alloc V tmp j (by omega)))
  refine ⟨hv1, hv1.set v', hown.kept (grownBy_setCell' w1 b v') (hob'.imp id Ne.symm), ?_, hsame, ?_⟩
  · intro B n₀ x lo hi hn hx hxb hlo hhi
    refine ((((Kept.refl V).alloc (by omega) tmp).grown (by omega) hgrow ?_).set hn hx (.inl hlo) v')
    intro r e
    obtain ⟨h1, cs, t, f, h2⟩ := hob r e
    refine ⟨by omega, ⟨hxb _ h1, .inr (by omega)⟩, fun o ho => ?_⟩
    have := (Below.heap_alloc V tmp r (Array.getElem?_eq_some_iff.1 h2).1).trans h2
    rw [this] at ho; cases ho; rfl
  · intro w hw hg
    have g1 := hgrow
    have g2 := grownBy_setCell' w1 b v'
    exact ⟨g2.os.trans (g1.os.trans hg.os), g2.tape.trans (g1.tape.trans hg.tape), g2.output.trans (g1.output.trans hg.output), by have := hg.size; have := g1.size; have := g2.size; rw [World.size_alloc] at *; omega,
      fun j hj hne => (hsame j (by omega) (fun e => hne (by rw [e]))).trans (hg.block j hj hne)⟩
theorem Coll.step {w V w1 : World} {b : Nat} {tb : TypeId} {base : Nat} {te : TypeId} {size k k' : Nat} {xs ys : List Value} {v v' : Value} {tmp : Obj} (h : Coll w b tb base te size k xs V v)
    (hb : b < base) (hw : w.heap.size ≤ base) (hV : base ≤ V.heap.size) (hown : w1.ownsRow base te size v' k' ys) (hgrow : (V.alloc tmp).grownBy w1 v.ownBlock) :
    Boxed w1 b tb v ∧ Coll w b tb base te size k' ys (w1.setCell ⟨b, 0, none⟩ v') v' ∧ ∀ B n₀ (x : Nat → Prop) lo hi, n₀ ≤ b → ¬ x b → (∀ k, base ≤ k → ¬ x k) → b < lo → hi ≤ base → Kept B n₀ x lo hi V (w1.setCell ⟨b, 0, none⟩ v') := by
  obtain ⟨h1, h2, h3, h4, _, h5⟩ := append_box h.box h.row hb hV hown hgrow
  exact ⟨h1, ⟨h2, h3, h5 w hw h.grown⟩, h4⟩
theorem owns_slice {w : World} {base : Nat} {e : TypeId} {size : Nat} {v : Value} {k : Nat} {xs : List Value} (h : w.ownsRow base e size v k xs) : ∃ p cap, v = .slice p k cap := by
  rcases h.2 with ⟨rfl, rfl⟩ | ⟨g, cap, _, rfl, _⟩
  · exact ⟨_, _, rfl⟩
  · exact ⟨_, _, rfl⟩

theorem owns_kept {w w' : World} {base : Nat} {e : TypeId} {size : Nat} {v : Value} {k b : Nat} {xs : List Value} (h : w.ownsRow base e size v k xs) (hg : w.grownBy w' (some b)) (hb : b < base) : w'.ownsRow base e size v k xs := by
  refine h.kept hg ?_
  rcases h.2 with ⟨rfl, _⟩ | ⟨g, cap, _, rfl, hbg, _⟩
  · exact .inl rfl
  · refine .inr fun e => ?_
    obtain rfl : g = b := by simpa [Value.ownBlock] using e
    omega
theorem owns_lower {w : World} {base base' : Nat} {e : TypeId} {size : Nat} {v : Value} {k : Nat} {xs : List Value} (h : w.ownsRow base e size v k xs) (hb : base' ≤ base) : w.ownsRow base' e size v k xs :=
  ⟨h.1, h.2.imp id fun ⟨g, cap, cur, a, b, c⟩ => ⟨g, cap, cur, a, Nat.le_trans hb b, c⟩⟩
theorem Coll.below {w W : World} {b : Nat} {tb : TypeId} {base : Nat} {te : TypeId} {size k : Nat} {xs : List Value} {v : Value} (h : Coll w b tb base te size k xs W v) {n : Nat} (hn : n ≤ b) (hw : n ≤ w.heap.size) : Below n w W :=
  (Below.refl n w).grown h.grown hw (fun k e => by cases e; exact hn)

/-! ### the plain fence -/
/-- The statement at the plain fence: as the walk meets it. -/
theorem wp_seqs {α : Type} {P : Program} {g : Operand} {ps : Array Tmp} {assign body : Code} {Q : Exit → Act → World → Prop} {a : Act} {w : World}
    {gf : Nat} {lb : Array Value} (hg : a.eval g = .func (.func gf) #[] lb) (eg : ∀ args w, (callFunc gf args).run P w = .ok (.enter gf args) w)
    {encs : α → Array Value} {n₀ c : Nat} {z : Nat → Prop} {xs : List α} {w0 : World} (hseq : Seqs P gf lb encs n₀ z c xs w0) (hn₀ : n₀ ≤ w.heap.size) (hz0 : ∀ k, z k → k < w.heap.size) (hb0 : Below w0.heap.size w0 w) (hps : ∀ x, (encs x).size = ps.size)
    (I : List α → World → Prop) (Ix : Code → List α → World → Prop) (hI : Zone w.heap.size (w.heap.size + 2) (w.heap.size + 2 + c) I) (hIx : ∀ cd, Zone w.heap.size (w.heap.size + 2) (w.heap.size + 2 + c) (Ix cd)) (h0 : I [] w)
    (hround : ∀ (l : Nat) (pre : List α) (x : α) (W : World), pre ++ [x] <+: xs → assign.wpIn (Fence.wide.inRound l) 5 P
      (Exit.then (fun a' W' => W' = W ∧ ∀ V, w.heap.size + 2 + c ≤ V.heap.size → I pre V → body.wpIn (Fence.wide.inRound l) 5 P (roundEnd w.heap.size n₀ z c I Ix (pre ++ [x]) V) a' V) (fun _ _ _ => False))
      { tmps := (ps.zip (encs x)).foldl (fun t (p, v) => t.setIfInBounds p v) a.tmps, defers := [] } W)
    (hdone : ∀ W, I xs W → W.heap[w.heap.size]? = some (.deferred (some [])) → Q .normal { a with defers := { target := .collected w.heap.size, args := #[] } :: a.defers } W)
    (hstop : ∀ (cd : Code) (pre : List α) (W : World), pre <+: xs → Ix cd pre W → W.heap[w.heap.size]? = some (.deferred (some [])) → cd.wp P Q { a with defers := { target := .collected w.heap.size, args := #[] } :: a.defers } W) :
    (Code.rangeFunc g ps assign body).wp P Q a w :=
  wpIn_wide.1 (wpIn_seqs (n := 5) hg eg hseq hn₀ hz0 hb0 hps I Ix hI hIx h0 hround hdone (fun cd pre W h1 h2 h3 => wpIn_wide.2 (hstop cd pre W h1 h2 h3)))
/-- A function's contract from its body, where the body holds ranges over functions. -/
theorem calls_marks {P : Program} {f : FuncId} {fn : Func} {c : Code} {args : Array Value} {w : World} {R : Ending → World → Prop} (hf : P.funcs[f]? = some fn) (hb : fn.body = some c)
    (h : c.wp P (bodyPostM Fence.wide 5 P fn R) { tmps := args ++ Array.replicate (fn.ntmps - args.size) undef, defers := [] } w) : Calls P f args w R :=
  (callsIn_wide (n := 5)).1 (callsIn_of_wp_marks hf hb trivial (wpIn_wide.2 h) rfl)

/-! ### a loop of few rounds, walked round by round -/
def Times (P : Program) (c : Code) (Q : Exit → Act → World → Prop) : Nat → Act → World → Prop
  | 0, _, _ => False
  | n + 1, a, w => c.wp P (Exit.then (Times P c Q n) Q) a w
theorem least {p : Nat → Prop} : ∀ n, p n → ∃ m, p m ∧ ∀ k, k < m → ¬ p k := fun n => by
  induction n using Nat.strongRecOn with
  | _ n ih =>
    intro hn
    rcases Classical.em (∃ k, k < n ∧ p k) with ⟨k, hk, hp⟩ | h
    · exact ih k hk hp
    · exact ⟨n, hn, fun k hk hp => h ⟨k, hk, hp⟩⟩
open Classical in
theorem wp_loop_times {P : Program} {c : Code} {Q : Exit → Act → World → Prop} {a : Act} {w : World} (n : Nat) (h : Times P c Q n a w) : (Code.loop c).wp P Q a w := by
  refine wp_loop (fun a w => ∃ n, Times P c Q n a w) (fun a w => if h : ∃ m, Times P c Q m a w ∧ ∀ k, k < m → ¬ Times P c Q k a w then Classical.choose h else 0) ⟨n, h⟩ ?_
  rintro a w ⟨n, hn⟩
  have hI := least (p := fun n => Times P c Q n a w) n hn
  have hs := Classical.choose_spec hI
  rw [dif_pos hI]
  generalize Classical.choose hI = m0 at hs
  cases m0 with
  | zero => exact hs.1.elim
  | succ m =>
    refine wp_mono hs.1 ?_
    intro e a' w' he
    cases e <;> try exact he
    have he' : Times P c Q m a' w' := he
    refine ⟨⟨m, he'⟩, ?_⟩
    have hI2 := least (p := fun n => Times P c Q n a' w') m he'
    have hs2 := Classical.choose_spec hI2
    rw [dif_pos hI2]
    rcases Nat.lt_or_ge m (Classical.choose hI2) with h1 | h1
    · exact absurd he' (hs2.2 m h1)
    · omega
end Go.Proofs.YtahcedpfnechfaaDoor
