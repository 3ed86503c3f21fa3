/-
  ApartBytes: lists that grow, each in memory of its own: the law of its second loop.
-/
import Derived.Test.YtpdpdojaaaipcaaDoorAptA
namespace Go.Proofs.YtpdpdojaaaipcaaDoor
set_option maxRecDepth 100000
open Go.RowKit
/-- The lists cs came from els, one by one: the j-th has len j marks; gl are those that stand in the row gsv. -/
structure HH (B : Nat) (els : List (Value × Nat)) (w2 : World) (cs : List Value) (len : Nat → Nat) (gsv : Value) (gl : List Value) (wr : World) : Prop where
  own : ∀ (j : Nat) (g : Value), cs[j]? = some g → wr.ownsRow B 5 1 g (len j) (byv (mkB j (len j)))
  loc : ∀ (j : Nat) (g : Value) (e : Value × Nat), cs[j]? = some g → els[j]? = some e → g.ownBlock = e.1.ownBlock ∨ ∀ b, g.ownBlock = some b → w2.heap.size ≤ b
  two : ∀ (i j : Nat) (a b : Value) (q : Nat), cs[i]? = some a → cs[j]? = some b → a.ownBlock = some q → b.ownBlock = some q → i = j
  lst : ∀ (j : Nat) (a : Value) (q : Nat), cs[j]? = some a → a.ownBlock = some q → gsv.ownBlock ≠ some q
  row : wr.ownsRow w2.heap.size 22 1 gsv gl.length gl
  old : ∀ (j : Nat) (e : Value × Nat), els[j]? = some e → ∀ q, e.1.ownBlock = some q → ∀ i x, (mkB j e.2)[i]? = some x → wr.cell? ⟨q, i, none⟩ = some (.int .u8 (x.toNat : Int))
  rest : ∀ (j : Nat) (e : Value × Nat), cs.length ≤ j → els[j]? = some e → wr.ownsRow B 5 1 e.1 e.2 (byv (mkB j e.2))
  chg : ChgE els w2 wr
  B2 : B ≤ w2.heap.size
/-- That the lists of els lie in old memory. -/
def OldEls (els : List (Value × Nat)) (w2 : World) : Prop := ∀ (j : Nat) (e : Value × Nat) (q : Nat), els[j]? = some e → e.1.ownBlock = some q → q < w2.heap.size
section
variable {B : Nat} {els : List (Value × Nat)} {w2 wr w' : World} {cs gl : List Value} {len : Nat → Nat} {gsv : Value}
theorem own_cells {w : World} {B n : Nat} {v : Value} {l : List UInt8} {q : Nat} (h : w.ownsRow B 5 1 v n (byv l)) (hq : v.ownBlock = some q) {i : Nat} {x : UInt8} (hx : l[i]? = some x) : w.cell? ⟨q, i, none⟩ = some (.int .u8 (x.toNat : Int)) := by
  have := h.cells hq i (.int .u8 (x.toNat : Int)) (by unfold byv u8v; rw [List.getElem?_map, List.getElem?_map, hx]; rfl)
  rwa [Addr.add_lit, Nat.zero_add] at this
theorem HH.below (h : HH B els w2 cs len gsv gl wr) (hb : Below wr.heap.size wr w') : HH B els w2 cs len gsv gl w' :=
  ⟨fun j g hg => own_below (h.own j g hg) hb, h.loc, h.two, h.lst, own_below h.row hb, fun j e he q hq i x hx => by
    have h1 := h.old j e he q hq i x hx
    exact (hb.cell (p := ⟨q, i, none⟩) (World.block_lt_of_cell? wr _ h1)).trans h1, fun j e hj he => own_below (h.rest j e hj he) hb, h.chg.trans (ChgE.ofBelow hb), h.B2⟩
theorem HH.congr {len' : Nat → Nat} (h : HH B els w2 cs len gsv gl wr) (hl : ∀ j, j < cs.length → len j = len' j) : HH B els w2 cs len' gsv gl wr :=
  ⟨fun j g hg => by rw [← hl j (List.getElem?_eq_some_iff.1 hg).1]; exact h.own j g hg, h.loc, h.two, h.lst, h.row, h.old, h.rest, h.chg, h.B2⟩
theorem HH.start (h : HH B els w2 cs len gsv gl wr) (hA : ∀ (i j : Nat) (a b : Value × Nat) (g : Nat), els[i]? = some a → els[j]? = some b → a.1.ownBlock = some g → b.1.ownBlock = some g → i = j) (ho : OldEls els w2) {e : Value × Nat} (he : els[cs.length]? = some e) :
    HH B els w2 (cs ++ [e.1]) (fun j => if j = cs.length then e.2 else len j) gsv gl wr := by
  have hnew : ∀ (j : Nat) (g : Value), (cs ++ [e.1])[j]? = some g → (j < cs.length ∧ cs[j]? = some g) ∨ (j = cs.length ∧ g = e.1) := fun j g hg => by
    rcases Nat.lt_trichotomy j cs.length with h1 | h1 | h1
    · rw [List.getElem?_append_left h1] at hg; exact .inl ⟨h1, hg⟩
    · subst h1; rw [List.getElem?_append_right (Nat.le_refl _), Nat.sub_self] at hg; simp at hg; exact .inr ⟨rfl, hg.symm⟩
    · rw [List.getElem?_eq_none (by simp; omega)] at hg; cases hg
  have key : ∀ (j : Nat) (a : Value) (q : Nat), j < cs.length → cs[j]? = some a → a.ownBlock = some q → e.1.ownBlock = some q → False := fun j a q hj hc hq hq2 => by
    obtain ⟨ej, hej⟩ : ∃ ej, els[j]? = some ej := ⟨_, List.getElem?_eq_getElem (Nat.lt_trans hj (List.getElem?_eq_some_iff.1 he).1)⟩
    rcases h.loc j a ej hc hej with h1 | h1
    · have := hA j cs.length ej e q hej he (by rw [← h1]; exact hq) hq2
      omega
    · have h2 := h1 q hq
      have h3 := ho _ _ q he hq2
      omega
  refine ⟨fun j g hg => ?_, fun j g e' hg he' => ?_, fun i j a b q ha' hb' hqa hqb => ?_, fun j a q hg hq => ?_, h.row, h.old, fun j e' hj he' => h.rest j e' (by simp at hj; omega) he', h.chg, h.B2⟩
  · rcases hnew j g hg with ⟨h1, h2⟩ | ⟨h1, h2⟩
    · simp only [if_neg (show ¬ j = cs.length by omega)]; exact h.own j g h2
    · subst h1 h2; simp only [if_true]; exact h.rest _ e (Nat.le_refl _) he
  · rcases hnew j g hg with ⟨h1, h2⟩ | ⟨h1, h2⟩
    · exact h.loc j g e' h2 he'
    · subst h1 h2; rw [he] at he'; cases he'; exact .inl rfl
  · rcases hnew i a ha' with ⟨h1, h2⟩ | ⟨h1, h2⟩ <;> rcases hnew j b hb' with ⟨h3, h4⟩ | ⟨h3, h4⟩
    · exact h.two i j a b q h2 h4 hqa hqb
    · subst h4; exact (key i a q h1 h2 hqa hqb).elim
    · subst h2; exact (key j b q h3 h4 hqb hqa).elim
    · omega
  · rcases hnew j a hg with ⟨h1, h2⟩ | ⟨h1, h2⟩
    · exact h.lst j a q h2 hq
    · subst h2
      intro hl
      have h2 := (h.row.lt q hl).1
      have h3 := ho _ _ q he hq
      omega
/-- The last list grows. -/
theorem HH.turn {gv gv' : Value} {m : Nat} (h : HH B els w2 (cs ++ [gv]) len gsv gl wr) (hA : ∀ (i j : Nat) (a b : Value × Nat) (g : Nat), els[i]? = some a → els[j]? = some b → a.1.ownBlock = some g → b.1.ownBlock = some g → i = j) (ho : OldEls els w2) (hlt : cs.length < els.length)
    (hm : ∀ e, els[cs.length]? = some e → e.2 ≤ m) (hown : w'.ownsRow B 5 1 gv' m (byv (mkB cs.length m))) (hG : Gr wr w' gv gv') : HH B els w2 (cs ++ [gv']) (fun j => if j = cs.length then m else len j) gsv gl w' := by
  have hk : ∀ x : Value, (cs ++ [x])[cs.length]? = some x := fun x => by rw [List.getElem?_append_right (Nat.le_refl _), Nat.sub_self]; rfl
  have hnew : ∀ (x : Value) (j : Nat) (g : Value), (cs ++ [x])[j]? = some g → (j < cs.length ∧ cs[j]? = some g) ∨ (j = cs.length ∧ g = x) := fun x j g hg => by
    rcases Nat.lt_trichotomy j cs.length with h1 | h1 | h1
    · rw [List.getElem?_append_left h1] at hg; exact .inl ⟨h1, hg⟩
    · subst h1; rw [hk] at hg; cases hg; exact .inr ⟨rfl, rfl⟩
    · rw [List.getElem?_eq_none (by simp; omega)] at hg; cases hg
  have hup : ∀ (x : Value) (j : Nat) (g : Value), j < cs.length → cs[j]? = some g → (cs ++ [x])[j]? = some g := fun x j g h1 h2 => by rw [List.getElem?_append_left h1]; exact h2
  obtain ⟨ek, hek⟩ : ∃ ek, els[cs.length]? = some ek := ⟨_, List.getElem?_eq_getElem hlt⟩
  have hgl : ∀ q, gv.ownBlock = some q → ek.1.ownBlock = some q ∨ w2.heap.size ≤ q := fun q hq => by
    rcases h.loc _ gv ek (hk gv) hek with h1 | h1
    · exact .inl (by rw [← h1]; exact hq)
    · exact .inr (h1 q hq)
  have hne : ∀ (j : Nat) (e : Value × Nat) (q : Nat), j ≠ cs.length → els[j]? = some e → e.1.ownBlock = some q → gv.ownBlock ≠ some q := fun j e q hj he hq hg => by
    rcases hgl q hg with h1 | h1
    · exact hj (hA j _ e ek q he hek hq h1)
    · have := ho j e q he hq; omega
  have hoth : ∀ (j : Nat) (g : Value) (q : Nat), j < cs.length → cs[j]? = some g → g.ownBlock = some q → gv.ownBlock ≠ some q := fun j g q hj hg hq hgq => by
    have := h.two j cs.length g gv q (hup gv j g hj hg) (hk gv) hq hgq
    omega
  have hsame : ∀ q, q < wr.heap.size → gv.ownBlock ≠ some q → w'.heap[q]? = wr.heap[q]? := fun q hq hn => hG.grown.block q hq (fun e => hn e.symm)
  refine ⟨fun j g hg => ?_, fun j g e' hg he' => ?_, fun i j a b q ha' hb' hqa hqb => ?_, fun j a q hg hq hl => ?_, own_same h.row fun q hq => hsame q (h.row.lt q hq).2 (fun e => h.lst _ gv q (hk gv) e hq), fun j e he q hq i x hx => ?_, fun j e hj he => ?_, ?_, h.B2⟩
  · rcases hnew gv' j g hg with ⟨h1, h2⟩ | ⟨h1, h2⟩
    · simp only [if_neg (show ¬ j = cs.length by omega)]
      have h3 := h.own j g (hup gv j g h1 h2)
      exact own_same h3 fun q hq => hsame q (h3.lt q hq).2 (hoth j g q h1 h2 hq)
    · subst h1 h2; simp only [if_true]; exact hown
  · rcases hnew gv' j g hg with ⟨h1, h2⟩ | ⟨h1, h2⟩
    · exact h.loc j g e' (hup gv j g h1 h2) he'
    · subst h1 h2
      rcases hG.own with e | ⟨⟨q, e, hq⟩, _⟩
      · rw [e]; exact h.loc _ gv e' (hk gv) he'
      · exact .inr (fun b hb => by rw [e] at hb; cases hb; exact Nat.le_trans h.chg.size hq)
  · have hfr : ∀ (i : Nat) (a : Value), i < cs.length → cs[i]? = some a → a.ownBlock = some q → gv'.ownBlock = some q → False := fun i a hi ha hqa hqg => by
      rcases hG.own with e | ⟨⟨g, e, hge⟩, _⟩
      · exact hoth i a q hi ha hqa (by rw [← e]; exact hqg)
      · rw [e] at hqg
        injection hqg with hqg
        have := ((h.own i a (hup gv i a hi ha)).lt q hqa).2
        omega
    rcases hnew gv' i a ha' with ⟨h1, h2⟩ | ⟨h1, h2⟩ <;> rcases hnew gv' j b hb' with ⟨h3, h4⟩ | ⟨h3, h4⟩
    · exact h.two i j a b q (hup gv i a h1 h2) (hup gv j b h3 h4) hqa hqb
    · subst h4; exact (hfr i a h1 h2 hqa hqb).elim
    · subst h2; exact (hfr j b h3 h4 hqb hqa).elim
    · omega
  · rcases hnew gv' j a hg with ⟨h1, h2⟩ | ⟨h1, h2⟩
    · exact h.lst j a q (hup gv j a h1 h2) hq hl
    · subst h2
      rcases hG.own with e | ⟨⟨g, e, hge⟩, _⟩
      · exact h.lst _ gv q (hk gv) (by rw [← e]; exact hq) hl
      · rw [e] at hq
        injection hq with hq
        have := (h.row.lt q hl).2
        omega
  · have h1 := h.old j e he q hq i x hx
    have hb := World.block_lt_of_cell? wr _ h1
    by_cases hg : gv.ownBlock = some q
    · have hj : j = cs.length := Classical.byContradiction fun hj => hne j e q hj he hq hg
      subst hj
      rcases hG.own with e1 | ⟨_, hn⟩
      · refine own_cells hown (by rw [e1]; exact hg) ?_
        rw [← hx]
        have hi : i < e.2 := by have := (List.getElem?_eq_some_iff.1 hx).1; rwa [mkB_len] at this
        have := hm e he
        rw [mkB_get hi, mkB_get (by omega)]
      · rw [← h1]
        have hblk := hn.block q hb (by simp)
        simp only [World.cell?, hblk]
    · rw [← h1]
      have hblk := hsame q hb hg
      simp only [World.cell?, hblk]
  · have hj' : cs.length + 1 ≤ j := by simpa using hj
    have h3 := h.rest j e (by simpa using hj) he
    exact own_same h3 fun q hq => hsame q (h3.lt q hq).2 (hne j e q (by omega) he hq)
  · refine ⟨hG.grown.os.trans h.chg.os, hG.grown.tape.trans h.chg.tape, hG.grown.output.trans h.chg.output, Nat.le_trans h.chg.size hG.grown.size, fun b hb hn => (hsame b (Nat.lt_of_lt_of_le hb h.chg.size) (fun e => ?_)).trans (h.chg.block b hb hn)⟩
    rcases hgl b e with h1 | h1
    · exact hn ek (List.mem_of_getElem? hek) h1
    · omega
/-- The last list is put into the row. -/
theorem HH.push (h : HH B els w2 cs len gsv gl wr) {gsv' : Value} {gv : Value} (hrow : w'.ownsRow w2.heap.size 22 1 gsv' (gl.length + 1) (gl ++ [gv])) (hG : Gr wr w' gsv gsv') (ho : OldEls els w2) : HH B els w2 cs len gsv' (gl ++ [gv]) w' := by
  have hlt := fun q hq => (h.row.lt q hq).1
  refine ⟨fun j g hg => own_same (h.own j g hg) fun q hq => hG.grown.block q ((h.own j g hg).lt q hq).2 (fun e => h.lst j g q hg hq e.symm), h.loc, h.two, fun j a q hg hq hl => ?_, by rw [List.length_append]; exact hrow, fun j e he q hq i x hx => ?_, fun j e hj he => own_same (h.rest j e hj he) fun q hq => hG.grown.block q ((h.rest j e hj he).lt q hq).2 (fun e2 => by have h1 := hlt q e2.symm; have h2 := ho j e q he hq; omega), ?_, h.B2⟩
  · rcases hG.own with e | ⟨⟨g, e, hge⟩, _⟩
    · exact h.lst j a q hg hq (e ▸ hl)
    · rw [e] at hl
      injection hl with hl
      have := ((h.own j a hg).lt q hq).2
      omega
  · have h1 := h.old j e he q hq i x hx
    rw [← h1]
    have hblk := hG.grown.block q (World.block_lt_of_cell? wr _ h1) (fun e2 => by have h2 := hlt q e2.symm; have h3 := ho j e q he hq; omega)
    simp only [World.cell?, hblk]
  · exact ⟨hG.grown.os.trans h.chg.os, hG.grown.tape.trans h.chg.tape, hG.grown.output.trans h.chg.output, Nat.le_trans h.chg.size hG.grown.size, fun k hk hn => (hG.grown.block k (Nat.lt_of_lt_of_le hk h.chg.size) (fun e => by have := hlt k e.symm; omega)).trans (h.chg.block k hk hn)⟩
end
end Go.Proofs.YtpdpdojaaaipcaaDoor
