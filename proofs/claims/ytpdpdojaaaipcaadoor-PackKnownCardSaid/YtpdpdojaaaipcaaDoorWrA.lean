/-
  Two writers and what is held beside them: all apart.
-/
import Derived.Test.YtpdpdojaaaipcaaDoorApt
import Derived.Test.YtpdpdojaaaipcaaDoorItem
namespace Go.Proofs.YtpdpdojaaaipcaaDoor
set_option maxRecDepth 100000
open Go.RowKit
set_option maxHeartbeats 1000000 in
/-- The writer's Text, with what it turns. -/
theorem text_w2 (g : Nat) (v : Value) (l : List UInt8) (s : ByteArray) (hl : l.length + 10 + s.size ≤ 140737488355328) (w : World) (h : IsW w g v l) :
    Calls Tryd.prog 44 #[.pointer (some ⟨g, 0, none⟩), .string s] w fun e w' => e = .returned (.tuple #[]) ∧ ∃ v', IsW w' g v' (l ++ (sevens s.size ++ s.data.toList)) ∧ Turned w w' g v v' := by
  obtain ⟨ii, iz, hi0, hz0, hz1, hz2, hz3⟩ := u8Info
  have hiz : iz = .int .u8 0 := by have := u8Zero; rw [hi0] at this; simpa [hz0] using this
  subst hiz
  have HW := Lib.hid h
  obtain ⟨x, hx⟩ : ∃ x : BitVec 64, x.toNat = s.size := ⟨BitVec.ofNat 64 s.size, by rw [BitVec.toNat_ofNat, Nat.mod_eq_of_lt (by omega)]⟩
  have hxw : IntKind.u64.wrap (s.size : Int) = wd x := by rw [IntKind.wrap_u64]; unfold wd; omega
  have HX := Lib.hid hx
  have HL := Lib.hid hl
  clear h hl hx
  go_enter Tryd.func44, Tryd.ntmps44
  go_wp2_with (go_at_call 46; fail)
  refine (num_w g v l x (by have := HL.out; omega) w HW.out).mono ?_
  rintro e w1 ⟨rfl, v1, hw1, ht1⟩
  rw [HX.out] at hw1
  obtain ⟨L, hLp⟩ : ∃ L, l ++ sevens s.size = L := ⟨_, rfl⟩
  have HLP := Lib.hid hLp
  have hLL : L.length + s.size ≤ maxLen ∧ L.length + s.size ≤ 140737488355328 := by
    have h1 := HL.out
    have h2 := sevens_ten x
    rw [HX.out] at h2
    unfold maxLen
    rw [← hLp, List.length_append]
    omega
  rw [hLp] at hw1
  have c0 := hw1.blk.cell 0
  simp only [List.getElem?_toArray, List.getElem?_cons_zero] at c0
  have hsz : g + 1 ≤ w1.heap.size := by have := hw1.blk.lt; omega
  obtain ⟨v2, w2, hr, ho2, hg2⟩ := run_append_string_gr (P := Tryd.prog) w1 (g + 1) 22 9 22 5 ii Tryd.underlying22 Tryd.underlying9 hi0 hz0 hz1 hz2 v1 L.length (byv L) hw1.own s hLL.1 hLL.2 hsz
  have b2 := hw1.blk.grown hg2.grown (own_ne hw1.own (by omega))
  have d0 := b2.cell 0
  simp only [List.getElem?_toArray, List.getElem?_cons_zero] at d0
  have z2 := b2.frozen 0
  obtain ⟨p', c', rfl⟩ := pk_slice ho2
  have HR := Lib.hid hr
  have HO2 := Lib.hid ho2
  have HG2 := Lib.hid hg2
  have HT1 := Lib.hid ht1
  have HW1 := Lib.hid hw1
  have B2 := Lib.hid b2
  clear hw1 ht1 hLp hxw hr ho2 hg2 b2 hLL
  go_wp2_with (at_builtin; refine wpList_append_run rfl rfl rfl rfl HR.out ?_)
  first | go_end0 | refine bodyPost_ret (results_none rfl _ _ _) rfl ?_
  have g2 := grownBy_setCell' w2 g (.slice p' (L.length + s.size) c')
  refine ⟨rfl, _, ⟨B2.out.set_ 0 _, ?_⟩, HT1.out.trans ⟨g2.os.trans HG2.out.grown.os, g2.tape.trans HG2.out.grown.tape, g2.output.trans HG2.out.grown.output, Nat.le_trans HG2.out.grown.size g2.size, fun k hk hne hno => ?_, HG2.out.grows.own⟩⟩
  · rw [← List.append_assoc, HLP.out, byv_append, ← strCells_byv, List.length_append, show s.data.toList.length = s.size by rw [Array.length_toList]; rfl]
    exact HO2.out.kept g2 (.inr fun e => by have := (HO2.out.lt g e).1; omega)
  · exact (g2.block k (Nat.lt_of_lt_of_le hk HG2.out.grown.size) (fun e => hne (Option.some.inj e))).trans (HG2.out.grown.block k hk hno)
/-! ### what is turned, by blocks -/
structure Ch (w w' : World) (R : List (Option Nat)) : Prop where
  os : w'.os = w.os
  tape : w'.tape = w.tape
  output : w'.output = w.output
  size : w.heap.size ≤ w'.heap.size
  block : ∀ k, k < w.heap.size → some k ∉ R → w'.heap[k]? = w.heap[k]?
theorem Turned.ch {w w' : World} {g : Nat} {v v' : Value} (h : Turned w w' g v v') : Ch w w' [some g, v.ownBlock] :=
  ⟨h.os, h.tape, h.output, h.size, fun k hk hn => h.block k hk (fun e => hn (by rw [e]; simp)) (fun e => hn (by rw [e]; simp))⟩
theorem Gr.ch {w w' : World} {v v' : Value} (h : Gr w w' v v') : Ch w w' [v.ownBlock] :=
  ⟨h.grown.os, h.grown.tape, h.grown.output, h.grown.size, fun k hk hn => h.grown.block k hk (fun e => hn (by rw [e]; simp))⟩
theorem Ch.ofBelow {w w' : World} (h : Below w.heap.size w w') : Ch w w' [] := ⟨h.os, h.tape, h.output, h.size, fun k hk _ => h.block k hk⟩
theorem own_ch {w w' : World} {B size n : Nat} {e : TypeId} {v : Value} {xs : List Value} {R : List (Option Nat)} (h : w.ownsRow B e size v n xs) (hc : Ch w w' R) (hn : ∀ q, v.ownBlock = some q → some q ∉ R) : w'.ownsRow B e size v n xs :=
  own_same h fun q hq => hc.block q (h.lt q hq).2 (hn q hq)
theorem IsW.ch {w w' : World} {g : Nat} {v : Value} {l : List UInt8} {R : List (Option Nat)} (h : IsW w g v l) (hc : Ch w w' R) (hg : some g ∉ R) (hn : ∀ q, v.ownBlock = some q → some q ∉ R) : IsW w' g v l :=
  ⟨⟨(hc.block g h.blk.lt hg).trans h.blk.eq⟩, own_ch h.own hc hn⟩
/-- No block stands twice. -/
def Once (D : List (Option Nat)) : Prop := ∀ (i j q : Nat), D[i]? = some (some q) → D[j]? = some (some q) → i = j
theorem Once.set {D : List (Option Nat)} (h : Once D) (i : Nat) {o o' : Option Nat} (ho : D[i]? = some o) (hf : o' = o ∨ ∀ q, o' = some q → some q ∉ D) : Once (D.set i o') := by
  rcases hf with rfl | hf
  · have e : D.set i o' = D := by
      apply List.ext_getElem?
      intro j
      rw [List.getElem?_set]
      split
      · rename_i e; subst e
        rw [ho, if_pos (List.getElem?_eq_some_iff.1 ho).1]
      · rfl
    rw [e]; exact h
  · intro a b q ha hb
    rw [List.getElem?_set] at ha hb
    by_cases h1 : i = a <;> by_cases h2 : i = b
    · omega
    · rw [if_pos h1] at ha
      rw [if_neg h2] at hb
      split at ha
      · injection ha with ha
        exact (hf q ha (List.mem_of_getElem? hb)).elim
      · cases ha
    · rw [if_neg h1] at ha
      rw [if_pos h2] at hb
      split at hb
      · injection hb with hb
        exact (hf q hb (List.mem_of_getElem? ha)).elim
      · cases hb
    · rw [if_neg h1] at ha
      rw [if_neg h2] at hb
      exact h a b q ha hb
theorem Once.snoc {D : List (Option Nat)} (h : Once D) {o : Option Nat} (hf : ∀ q, o = some q → some q ∉ D) : Once (D ++ [o]) := by
  intro a b q ha hb
  have key : ∀ a, (D ++ [o])[a]? = some (some q) → D[a]? = some (some q) ∨ (a = D.length ∧ o = some q) := fun a ha => by
    rcases Nat.lt_trichotomy a D.length with h1 | h1 | h1
    · rw [List.getElem?_append_left h1] at ha; exact .inl ha
    · subst h1; rw [List.getElem?_append_right (Nat.le_refl _), Nat.sub_self] at ha; simp at ha; exact .inr ⟨rfl, ha⟩
    · rw [List.getElem?_eq_none (by simp; omega)] at ha; cases ha
  rcases key a ha with h1 | ⟨h1, h2⟩ <;> rcases key b hb with h3 | ⟨h3, h4⟩
  · exact h a b q h1 h3
  · exact (hf q h4 (List.mem_of_getElem? h1)).elim
  · exact (hf q h2 (List.mem_of_getElem? h3)).elim
  · omega
/-- The blocks of what is held. -/
def DD (gx gy : Nat) (vx vy va vb vl : Value) (els : List (Value × Nat)) : List (Option Nat) := some gx :: some gy :: vx.ownBlock :: vy.ownBlock :: va.ownBlock :: vb.ownBlock :: vl.ownBlock :: els.map (·.1.ownBlock)
/-- Two writers, two lists of bytes, a list of lists. -/
structure PW (w0 : World) (gx gy : Nat) (vx vy va vb vl : Value) (lx ly la lb : List UInt8) (els : List (Value × Nat)) (f : Nat → List UInt8) (w : World) : Prop where
  x : IsW w gx vx lx
  y : IsW w gy vy ly
  a : w.ownsRow w0.heap.size 5 1 va la.length (byv la)
  b : w.ownsRow w0.heap.size 5 1 vb lb.length (byv lb)
  l : w.ownsRow w0.heap.size 22 1 vl els.length (els.map (·.1))
  el : Els w0.heap.size els w f
  once : Once (DD gx gy vx vy va vb vl els)
  bel : Below w0.heap.size w0 w
  gx0 : w0.heap.size ≤ gx
  gy0 : w0.heap.size ≤ gy
section
variable {w0 w w' : World} {gx gy : Nat} {vx vy va vb vl : Value} {lx ly la lb : List UInt8} {els : List (Value × Nat)} {f : Nat → List UInt8}
theorem PW.lt (h : PW w0 gx gy vx vy va vb vl lx ly la lb els f w) {q : Nat} (hq : some q ∈ DD gx gy vx vy va vb vl els) : w0.heap.size ≤ q ∧ q < w.heap.size := by
  unfold DD at hq
  simp only [List.mem_cons, List.mem_map] at hq
  rcases hq with e | e | e | e | e | e | e | ⟨e, he, e2⟩
  · cases e; exact ⟨h.gx0, h.x.blk.lt⟩
  · cases e; exact ⟨h.gy0, h.y.blk.lt⟩
  · have := h.x.own.lt q e.symm; have := h.gx0; omega
  · have := h.y.own.lt q e.symm; have := h.gy0; omega
  · exact h.a.lt q e.symm
  · exact h.b.lt q e.symm
  · exact h.l.lt q e.symm
  · obtain ⟨j, hj⟩ := List.getElem?_of_mem he
    exact (h.el.own j e hj).lt q e2
theorem PW.fresh (h : PW w0 gx gy vx vy va vb vl lx ly la lb els f w) {q : Nat} (hq : w.heap.size ≤ q) : some q ∉ DD gx gy vx vy va vb vl els := fun hm => by
  have := (h.lt hm).2; omega
theorem PW.el_at (h : PW w0 gx gy vx vy va vb vl lx ly la lb els f w) {j : Nat} {e : Value × Nat} (he : els[j]? = some e) : (DD gx gy vx vy va vb vl els)[7 + j]? = some e.1.ownBlock := by
  rw [show 7 + j = j + 7 by omega]
  show (els.map (·.1.ownBlock))[j]? = _
  rw [List.getElem?_map, he]
  rfl
theorem PW.bel' (h : PW w0 gx gy vx vy va vb vl lx ly la lb els f w) {R : List (Option Nat)} (hc : Ch w w' R) (hR : ∀ q, some q ∈ R → some q ∈ DD gx gy vx vy va vb vl els) : Below w0.heap.size w0 w' :=
  ⟨hc.os.trans h.bel.os, hc.tape.trans h.bel.tape, hc.output.trans h.bel.output, Nat.le_trans h.bel.size hc.size, fun k hk => (hc.block k (Nat.lt_of_lt_of_le hk h.bel.size) (fun hm => by have := (h.lt (hR k hm)).1; omega)).trans (h.bel.block k hk)⟩
theorem PW.below (h : PW w0 gx gy vx vy va vb vl lx ly la lb els f w) (hb : Below w.heap.size w w') : PW w0 gx gy vx vy va vb vl lx ly la lb els f w' := by
  have hc := Ch.ofBelow hb
  have hn : ∀ o : Option Nat, o ∉ ([] : List (Option Nat)) := fun o h => by cases h
  exact ⟨h.x.ch hc (hn _) (fun q _ => hn _), h.y.ch hc (hn _) (fun q _ => hn _), own_ch h.a hc (fun q _ => hn _), own_ch h.b hc (fun q _ => hn _), own_ch h.l hc (fun q _ => hn _), h.el.below hb, h.once, h.bel' hc (fun q hq => absurd hq (hn _)), h.gx0, h.gy0⟩
theorem PW.turnX {vx' : Value} {lx' : List UInt8} (h : PW w0 gx gy vx vy va vb vl lx ly la lb els f w) (hT : Turned w w' gx vx vx') (hW : IsW w' gx vx' lx') : PW w0 gx gy vx' vy va vb vl lx' ly la lb els f w' := by
  have hc := hT.ch
  have nx : ∀ (j : Nat) (o : Option Nat), j ≠ 0 → j ≠ 2 → (DD gx gy vx vy va vb vl els)[j]? = some o → ∀ q, o = some q → some q ∉ [some gx, vx.ownBlock] := fun j o h0 h2 hj q hq hm => by
    subst hq
    simp only [List.mem_cons, List.not_mem_nil, or_false] at hm
    rcases hm with e | e
    · injection e with e; subst e; exact h0 (h.once j 0 q hj rfl)
    · exact h2 (h.once j 2 q hj (by show some vx.ownBlock = _; rw [← e]))
  refine ⟨hW, h.y.ch hc (nx 1 _ (by decide) (by decide) rfl gy rfl) (nx 3 _ (by decide) (by decide) rfl), own_ch h.a hc (nx 4 _ (by decide) (by decide) rfl), own_ch h.b hc (nx 5 _ (by decide) (by decide) rfl), own_ch h.l hc (nx 6 _ (by decide) (by decide) rfl), ⟨fun j e he => own_ch (h.el.own j e he) hc (nx (7 + j) _ (by omega) (by omega) (h.el_at he))⟩, ?_, h.bel' hc (fun q hq => ?_), h.gx0, h.gy0⟩
  · exact h.once.set 2 (o := vx.ownBlock) rfl (hT.own.imp_right fun ⟨b, e, hb⟩ q hq => by rw [e] at hq; injection hq with hq; subst hq; exact h.fresh hb)
  · simp only [List.mem_cons, List.not_mem_nil, or_false] at hq
    rcases hq with e | e
    · rw [e]; simp [DD]
    · rw [e]; simp [DD]
theorem PW.turnY {vy' : Value} {ly' : List UInt8} (h : PW w0 gx gy vx vy va vb vl lx ly la lb els f w) (hT : Turned w w' gy vy vy') (hW : IsW w' gy vy' ly') : PW w0 gx gy vx vy' va vb vl lx ly' la lb els f w' := by
  have hc := hT.ch
  have nx : ∀ (j : Nat) (o : Option Nat), j ≠ 1 → j ≠ 3 → (DD gx gy vx vy va vb vl els)[j]? = some o → ∀ q, o = some q → some q ∉ [some gy, vy.ownBlock] := fun j o h0 h2 hj q hq hm => by
    subst hq
    simp only [List.mem_cons, List.not_mem_nil, or_false] at hm
    rcases hm with e | e
    · injection e with e; subst e; exact h0 (h.once j 1 q hj rfl)
    · exact h2 (h.once j 3 q hj (by show some vy.ownBlock = _; rw [← e]))
  refine ⟨h.x.ch hc (nx 0 _ (by decide) (by decide) rfl gx rfl) (nx 2 _ (by decide) (by decide) rfl), hW, own_ch h.a hc (nx 4 _ (by decide) (by decide) rfl), own_ch h.b hc (nx 5 _ (by decide) (by decide) rfl), own_ch h.l hc (nx 6 _ (by decide) (by decide) rfl), ⟨fun j e he => own_ch (h.el.own j e he) hc (nx (7 + j) _ (by omega) (by omega) (h.el_at he))⟩, ?_, h.bel' hc (fun q hq => ?_), h.gx0, h.gy0⟩
  · exact h.once.set 3 (o := vy.ownBlock) rfl (hT.own.imp_right fun ⟨b, e, hb⟩ q hq => by rw [e] at hq; injection hq with hq; subst hq; exact h.fresh hb)
  · simp only [List.mem_cons, List.not_mem_nil, or_false] at hq
    rcases hq with e | e
    · rw [e]; simp [DD]
    · rw [e]; simp [DD]
theorem Gr.free {v v' : Value} (hG : Gr w w' v v') {D : List (Option Nat)} (hf : ∀ q, w.heap.size ≤ q → some q ∉ D) : v'.ownBlock = v.ownBlock ∨ ∀ q, v'.ownBlock = some q → some q ∉ D :=
  hG.own.imp_right fun ⟨⟨b, e, hb⟩, _⟩ q hq => by rw [e] at hq; injection hq with hq; subst hq; exact hf _ hb
theorem PW.turnA {va' : Value} {la' : List UInt8} (h : PW w0 gx gy vx vy va vb vl lx ly la lb els f w) (hG : Gr w w' va va') (ho : w'.ownsRow w0.heap.size 5 1 va' la'.length (byv la')) : PW w0 gx gy vx vy va' vb vl lx ly la' lb els f w' := by
  have hc := hG.ch
  have nx : ∀ (j : Nat) (o : Option Nat), j ≠ 4 → (DD gx gy vx vy va vb vl els)[j]? = some o → ∀ q, o = some q → some q ∉ [va.ownBlock] := fun j o h0 hj q hq hm => by
    subst hq
    simp only [List.mem_cons, List.not_mem_nil, or_false] at hm
    exact h0 (h.once j 4 q hj (by show some va.ownBlock = _; rw [← hm]))
  exact ⟨h.x.ch hc (nx 0 _ (by decide) rfl gx rfl) (nx 2 _ (by decide) rfl), h.y.ch hc (nx 1 _ (by decide) rfl gy rfl) (nx 3 _ (by decide) rfl), ho, own_ch h.b hc (nx 5 _ (by decide) rfl), own_ch h.l hc (nx 6 _ (by decide) rfl), ⟨fun j e he => own_ch (h.el.own j e he) hc (nx (7 + j) _ (by omega) (h.el_at he))⟩, h.once.set 4 (o := va.ownBlock) rfl (hG.free fun q hq => h.fresh hq), h.bel' hc (fun q hq => by simp only [List.mem_cons, List.not_mem_nil, or_false] at hq; rw [hq]; simp [DD]), h.gx0, h.gy0⟩
theorem PW.turnB {vb' : Value} {lb' : List UInt8} (h : PW w0 gx gy vx vy va vb vl lx ly la lb els f w) (hG : Gr w w' vb vb') (ho : w'.ownsRow w0.heap.size 5 1 vb' lb'.length (byv lb')) : PW w0 gx gy vx vy va vb' vl lx ly la lb' els f w' := by
  have hc := hG.ch
  have nx : ∀ (j : Nat) (o : Option Nat), j ≠ 5 → (DD gx gy vx vy va vb vl els)[j]? = some o → ∀ q, o = some q → some q ∉ [vb.ownBlock] := fun j o h0 hj q hq hm => by
    subst hq
    simp only [List.mem_cons, List.not_mem_nil, or_false] at hm
    exact h0 (h.once j 5 q hj (by show some vb.ownBlock = _; rw [← hm]))
  exact ⟨h.x.ch hc (nx 0 _ (by decide) rfl gx rfl) (nx 2 _ (by decide) rfl), h.y.ch hc (nx 1 _ (by decide) rfl gy rfl) (nx 3 _ (by decide) rfl), own_ch h.a hc (nx 4 _ (by decide) rfl), ho, own_ch h.l hc (nx 6 _ (by decide) rfl), ⟨fun j e he => own_ch (h.el.own j e he) hc (nx (7 + j) _ (by omega) (h.el_at he))⟩, h.once.set 5 (o := vb.ownBlock) rfl (hG.free fun q hq => h.fresh hq), h.bel' hc (fun q hq => by simp only [List.mem_cons, List.not_mem_nil, or_false] at hq; rw [hq]; simp [DD]), h.gx0, h.gy0⟩
/-- A row beside all that is held. -/
structure Beside (B : Nat) (D : List (Option Nat)) (w : World) (v : Value) (n : Nat) (l : List UInt8) : Prop where
  own : w.ownsRow B 5 1 v n (byv l)
  free : ∀ q, v.ownBlock = some q → some q ∉ D
/-- The list of lists gets one more. -/
theorem PW.push {vl' ve : Value} {n : Nat} {l : List UInt8} (h : PW w0 gx gy vx vy va vb vl lx ly la lb els f w) (hG : Gr w w' vl vl') (ho : w'.ownsRow w0.heap.size 22 1 vl' (els.length + 1) (els.map (·.1) ++ [ve])) (hv : Beside w0.heap.size (DD gx gy vx vy va vb vl els) w ve n l) :
    PW w0 gx gy vx vy va vb vl' lx ly la lb (els ++ [(ve, n)]) (fun j => if j = els.length then l else f j) w' := by
  have hc := hG.ch
  have nx : ∀ (j : Nat) (o : Option Nat), j ≠ 6 → (DD gx gy vx vy va vb vl els)[j]? = some o → ∀ q, o = some q → some q ∉ [vl.ownBlock] := fun j o h0 hj q hq hm => by
    subst hq
    simp only [List.mem_cons, List.not_mem_nil, or_false] at hm
    exact h0 (h.once j 6 q hj (by show some vl.ownBlock = _; rw [← hm]))
  have hev := own_ch hv.own hc (fun q hq hm => by
    simp only [List.mem_cons, List.not_mem_nil, or_false] at hm
    exact hv.free q hq (by rw [hm]; simp [DD]))
  refine ⟨h.x.ch hc (nx 0 _ (by decide) rfl gx rfl) (nx 2 _ (by decide) rfl), h.y.ch hc (nx 1 _ (by decide) rfl gy rfl) (nx 3 _ (by decide) rfl), own_ch h.a hc (nx 4 _ (by decide) rfl), own_ch h.b hc (nx 5 _ (by decide) rfl), by rw [List.length_append, List.map_append]; exact ho, ⟨fun j e he => ?_⟩, ?_, h.bel' hc (fun q hq => by simp only [List.mem_cons, List.not_mem_nil, or_false] at hq; rw [hq]; simp [DD]), h.gx0, h.gy0⟩
  · rcases Nat.lt_trichotomy j els.length with h1 | h1 | h1
    · rw [List.getElem?_append_left h1] at he
      simp only [if_neg (show ¬ j = els.length by omega)]
      exact own_ch (h.el.own j e he) hc (nx (7 + j) _ (by omega) (h.el_at he))
    · subst h1
      rw [List.getElem?_append_right (Nat.le_refl _), Nat.sub_self] at he
      simp at he
      subst he
      simp only [if_true]
      exact hev
    · rw [List.getElem?_eq_none (by simp; omega)] at he
      cases he
  · have e : DD gx gy vx vy va vb vl' (els ++ [(ve, n)]) = (DD gx gy vx vy va vb vl els).set 6 vl'.ownBlock ++ [ve.ownBlock] := by simp [DD]
    rw [e]
    refine (h.once.set 6 (o := vl.ownBlock) rfl (hG.free fun q hq => h.fresh hq)).snoc fun q hq hm => ?_
    rcases List.mem_or_eq_of_mem_set hm with h1 | h1
    · exact hv.free q hq h1
    · rcases hG.own with e2 | ⟨⟨b, e2, hb⟩, _⟩
      · rw [e2] at h1; exact hv.free q hq (by rw [h1]; simp [DD])
      · rw [e2] at h1; injection h1 with h1
        have := (hv.own.lt q hq).2
        omega
/-- The list of lists gets two more. -/
theorem PW.push2 {vl' ve vf : Value} {n m : Nat} {l k : List UInt8} (h : PW w0 gx gy vx vy va vb vl lx ly la lb els f w) (hG : Gr w w' vl vl') (ho : w'.ownsRow w0.heap.size 22 1 vl' (els.length + 2) (els.map (·.1) ++ [ve, vf])) (hv : Beside w0.heap.size (DD gx gy vx vy va vb vl els) w ve n l) (hu : Beside w0.heap.size (DD gx gy vx vy va vb vl els) w vf m k) (hne : ∀ q, ve.ownBlock = some q → vf.ownBlock ≠ some q) :
    PW w0 gx gy vx vy va vb vl' lx ly la lb (els ++ [(ve, n), (vf, m)]) (fun j => if j = els.length then l else if j = els.length + 1 then k else f j) w' := by
  have hc := hG.ch
  have nx : ∀ (j : Nat) (o : Option Nat), j ≠ 6 → (DD gx gy vx vy va vb vl els)[j]? = some o → ∀ q, o = some q → some q ∉ [vl.ownBlock] := fun j o h0 hj q hq hm => by
    subst hq
    simp only [List.mem_cons, List.not_mem_nil, or_false] at hm
    exact h0 (h.once j 6 q hj (by show some vl.ownBlock = _; rw [← hm]))
  have hev : ∀ {v : Value} {n : Nat} {l : List UInt8}, Beside w0.heap.size (DD gx gy vx vy va vb vl els) w v n l → w'.ownsRow w0.heap.size 5 1 v n (byv l) := fun hv => own_ch hv.own hc (fun q hq hm => by
    simp only [List.mem_cons, List.not_mem_nil, or_false] at hm
    exact hv.free q hq (by rw [hm]; simp [DD]))
  have hnl : ∀ {v : Value} {n : Nat} {l : List UInt8}, Beside w0.heap.size (DD gx gy vx vy va vb vl els) w v n l → ∀ q, v.ownBlock = some q → vl'.ownBlock ≠ some q := fun hv q hq e => by
    rcases hG.own with e2 | ⟨⟨b, e2, hb⟩, _⟩
    · rw [e2] at e; exact hv.free q hq (by rw [← e]; simp [DD])
    · rw [e2] at e; injection e with e
      have := (hv.own.lt q hq).2
      omega
  refine ⟨h.x.ch hc (nx 0 _ (by decide) rfl gx rfl) (nx 2 _ (by decide) rfl), h.y.ch hc (nx 1 _ (by decide) rfl gy rfl) (nx 3 _ (by decide) rfl), own_ch h.a hc (nx 4 _ (by decide) rfl), own_ch h.b hc (nx 5 _ (by decide) rfl), by rw [List.length_append, List.map_append]; exact ho, ⟨fun j e he => ?_⟩, ?_, h.bel' hc (fun q hq => by simp only [List.mem_cons, List.not_mem_nil, or_false] at hq; rw [hq]; simp [DD]), h.gx0, h.gy0⟩
  · rcases Nat.lt_or_ge j els.length with h1 | h1
    · rw [List.getElem?_append_left h1] at he
      simp only [if_neg (show ¬ j = els.length by omega), if_neg (show ¬ j = els.length + 1 by omega)]
      exact own_ch (h.el.own j e he) hc (nx (7 + j) _ (by omega) (h.el_at he))
    · rw [List.getElem?_append_right h1] at he
      obtain ⟨d, hd⟩ : ∃ d, j - els.length = d := ⟨_, rfl⟩
      rw [hd] at he
      match d, he with
      | 0, he =>
        cases he
        simp only [if_pos (show j = els.length by omega)]
        exact hev hv
      | 1, he =>
        cases he
        simp only [if_neg (show ¬ j = els.length by omega), if_pos (show j = els.length + 1 by omega)]
        exact hev hu
      | d + 2, he => simp at he
  · have e : DD gx gy vx vy va vb vl' (els ++ [(ve, n), (vf, m)]) = ((DD gx gy vx vy va vb vl els).set 6 vl'.ownBlock ++ [ve.ownBlock]) ++ [vf.ownBlock] := by simp [DD]
    rw [e]
    refine ((h.once.set 6 (o := vl.ownBlock) rfl (hG.free fun q hq => h.fresh hq)).snoc fun q hq hm => ?_).snoc fun q hq hm => ?_
    · rcases List.mem_or_eq_of_mem_set hm with h1 | h1
      · exact hv.free q hq h1
      · exact hnl hv q hq h1.symm
    · rcases List.mem_append.1 hm with hm | hm
      · rcases List.mem_or_eq_of_mem_set hm with h1 | h1
        · exact hu.free q hq h1
        · exact hnl hu q hq h1.symm
      · simp only [List.mem_singleton] at hm
        exact hne q hm.symm hq
/-- What the lists' rows leave as it was. -/
theorem PW.afterE (h : PW w0 gx gy vx vy va vb vl lx ly la lb els f w) (hc : ChgE els w w') : IsW w' gx vx lx ∧ IsW w' gy vy ly ∧ w'.ownsRow w0.heap.size 5 1 va la.length (byv la) ∧ w'.ownsRow w0.heap.size 5 1 vb lb.length (byv lb) ∧ Below w0.heap.size w0 w' := by
  have nx : ∀ (i : Nat) (q : Nat), i < 7 → (DD gx gy vx vy va vb vl els)[i]? = some (some q) → ∀ e ∈ els, e.1.ownBlock ≠ some q := fun i q hi hq e he hb => by
    obtain ⟨j, hj⟩ := List.getElem?_of_mem he
    have := h.once i (7 + j) q hq (by rw [h.el_at hj, hb])
    omega
  refine ⟨⟨⟨(hc.block gx h.x.blk.lt (nx 0 gx (by decide) rfl)).trans h.x.blk.eq⟩, own_same h.x.own fun q hq => hc.block q (h.x.own.lt q hq).2 (nx 2 q (by decide) (by show some vx.ownBlock = _; rw [hq]))⟩,
    ⟨⟨(hc.block gy h.y.blk.lt (nx 1 gy (by decide) rfl)).trans h.y.blk.eq⟩, own_same h.y.own fun q hq => hc.block q (h.y.own.lt q hq).2 (nx 3 q (by decide) (by show some vy.ownBlock = _; rw [hq]))⟩,
    own_same h.a fun q hq => hc.block q (h.a.lt q hq).2 (nx 4 q (by decide) (by show some va.ownBlock = _; rw [hq])),
    own_same h.b fun q hq => hc.block q (h.b.lt q hq).2 (nx 5 q (by decide) (by show some vb.ownBlock = _; rw [hq])),
    ⟨hc.os.trans h.bel.os, hc.tape.trans h.bel.tape, hc.output.trans h.bel.output, Nat.le_trans h.bel.size hc.size, fun k hk => (hc.block k (Nat.lt_of_lt_of_le hk h.bel.size) (fun e he hb => ?_)).trans (h.bel.block k hk)⟩⟩
  obtain ⟨j, hj⟩ := List.getElem?_of_mem he
  have := (h.el.own j e hj).lt k hb
  omega
end
end Go.Proofs.YtpdpdojaaaipcaaDoor
