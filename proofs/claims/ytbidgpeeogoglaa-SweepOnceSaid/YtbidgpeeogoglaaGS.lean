/-
  A tree and a garbage over one arena.
-/
import Derived.Test.YtbidgpeeogoglaaHp
import Derived.Test.YtbidgpeeogoglaaSwA
import Derived.Test.YtbidgpeeogoglaaSwH
namespace Go.Proofs.Ytbidgpeeogoglaa
set_option maxRecDepth 100000
open Go.RowKit Go.Sort

theorem gs_all_congr {S T : St} (h : S.slots = T.slots) (x : Int) : S.all x = T.all x := by
  have hr : ∀ (n : Nat) (i : Int), S.run n i = T.run n i := by
    intro n
    induction n with
    | zero => intro i; rfl
    | succ n ih => intro i; unfold St.run; rw [lk_congr h, ih]
  unfold St.all
  rw [lk_congr h, hr]
theorem gs_swIt_congr {S T : St} (h : S.slots = T.slots) (x : Int) : ∀ k, S.swIt x k = T.swIt x k
  | 0 => by unfold St.swIt; rw [gs_all_congr h]
  | k + 1 => by
    unfold St.swIt St.swStep
    rw [gs_swIt_congr h x k]
    split
    · rw [slotAt_congr h, gs_all_congr h]
    · rfl
theorem gs_swAll_congr {S T : St} (h : S.slots = T.slots) (x : Int) : S.swAll x = T.swAll x := gs_swIt_congr h x 32
theorem gs_last_any {S : St} {q g : Nat} {l : Int} (w W : World) (a : Ga w q g S l W) : Calls Try.prog 24 #[.pointer (some ⟨q, 0, none⟩)] W (RetSame (.int .i64 l) W) := by
  obtain ⟨c0, c1, _⟩ := a.cells
  clear a
  go_enter Try.func24, Try.ntmps24
  go_wp2
  go_ret
  exact ⟨rfl, rfl⟩
/-- At g an arena, at q a tree over it, at q3 a garbage over it; at most c has been written; since w nothing else has turned. -/
structure GSx (w : World) (q3 q g : Nat) (S : St) (l3 l : Int) (W : World) : Prop where
  gb : Blk W q3 72 #[.pointer (some ⟨g, 0, none⟩), .int .i64 l3]
  tb : Blk W q 67 #[.pointer (some ⟨g, 0, none⟩), .int .i64 l]
  ar : IsAr W g S
  ne : q3 ≠ g ∧ q ≠ g ∧ q3 ≠ q
  tn : Tn (fun k => k = q3 ∨ k = q ∨ k = g) w W
def GS (c : Nat) (w : World) (q3 q g : Nat) (R : St) (l3 l : Int) (W : World) : Prop := ∃ S, GSx w q3 q g S l3 l W ∧ Agree S R ∧ 0 ≤ S.writes ∧ S.writes ≤ c
section
variable {c : Nat} {w w0 W W' : World} {q3 q g : Nat} {S S' R : St} {l3 l l' : Int}
theorem GSx.lts (t : GSx w q3 q g S l3 l W) : q3 < W.heap.size ∧ q < W.heap.size ∧ g < W.heap.size ∧ w.heap.size ≤ W.heap.size := ⟨t.gb.lt, t.tb.lt, t.ar.lt, t.tn.size⟩
theorem GSx.read (t : GSx w q3 q g S l3 l W) (hb : Below W.heap.size W W') : GSx w q3 q g S l3 l W' := ⟨t.gb.below hb t.gb.lt, t.tb.below hb t.tb.lt, t.ar.below hb t.ar.lt, t.ne, t.tn.call hb⟩
theorem GSx.ga (t : GSx w q3 q g S l3 l W) : Ga W q3 g S l3 W := Ga.start t.gb t.ar t.ne.1
theorem GSx.ta (t : GSx w q3 q g S l3 l W) : Ta W q g S l W := Ta.start t.tb t.ar t.ne.2.1
theorem GSx.gas (t : GSx w q3 q g S l3 l W) (a : Ga W q3 g S' l' W') : GSx w q3 q g S' l' l W' := by
  have hne := t.ne
  exact ⟨a.blk, ⟨(a.tn.block q t.tb.lt (by omega)).trans t.tb.eq⟩, a.ar, t.ne, t.tn.trans (a.tn.mono fun k hk => by omega)⟩
theorem GSx.tas (t : GSx w q3 q g S l3 l W) (a : Ta W q g S' l' W') : GSx w q3 q g S' l3 l' W' := by
  have hne := t.ne
  exact ⟨⟨(a.tn.block q3 t.gb.lt (by omega)).trans t.gb.eq⟩, a.blk, a.ar, t.ne, t.tn.trans (a.tn.mono fun k hk => by omega)⟩
theorem GS.lts (t : GS c w q3 q g R l3 l W) : q3 < W.heap.size ∧ q < W.heap.size ∧ g < W.heap.size ∧ w.heap.size ≤ W.heap.size := by
  obtain ⟨S, h, _⟩ := t
  exact h.lts
theorem GS.read (t : GS c w q3 q g R l3 l W) (hb : Below W.heap.size W W') : GS c w q3 q g R l3 l W' := by
  obtain ⟨S, h1, h2⟩ := t
  exact ⟨S, h1.read hb, h2⟩
theorem GS.here (t : GS c w q3 q g R l3 l W) : GS c W q3 q g R l3 l W := by
  obtain ⟨S, h1, h2⟩ := t
  exact ⟨S, ⟨h1.gb, h1.tb, h1.ar, h1.ne, Tn.refl _ _⟩, h2⟩
theorem GS.grown {r : Option Nat} (t : GS c w q3 q g R l3 l W) (hg : W.grownBy W' r) (hne : ∀ j, some j = r → j ≠ q3 ∧ j ≠ q ∧ j ≠ g) : GS c W' q3 q g R l3 l W' := by
  obtain ⟨S, h1, h2⟩ := t
  exact ⟨S, ⟨h1.gb.grown hg (fun e => (hne q3 e).1 rfl), h1.tb.grown hg (fun e => (hne q e).2.1 rfl), h1.ar.block (hg.block g h1.ar.lt (fun e => (hne g e).2.2 rfl)), h1.ne, Tn.refl _ _⟩, h2⟩
theorem GS.tn (t : GS c w q3 q g R l3 l W) : Tn (fun k => k = q3 ∨ k = q ∨ k = g) w W := by
  obtain ⟨S, h1, _⟩ := t
  exact h1.tn
theorem GS.below (t : GS c w q3 q g R l3 l W) {n : Nat} (hb : Below n w0 w) (hq : n ≤ q3 ∧ n ≤ q ∧ n ≤ g) (hn : n ≤ w0.heap.size) : Below n w0 W :=
  hb.trans (t.tn.below (fun k hk => by omega) (Nat.le_trans hn hb.size))
theorem GS.mono {d : Nat} (t : GS c w q3 q g R l3 l W) (h : c ≤ d) : GS d w q3 q g R l3 l W := by
  obtain ⟨S, h1, h2, h3, h4⟩ := t
  exact ⟨S, h1, h2, h3, by omega⟩
theorem GS.cut (t : GS c w q3 q g R l3 l W) {i no at_ l' : Int} {R' : St} (hr : R.tcut l i = ((no, at_), R', l')) (hc : c < 1000) :
    Calls Try.prog 11 #[.pointer (some ⟨q, 0, none⟩), .int .i64 i] W (fun e W' => e = .returned (errP no at_) ∧ GS (c + 5) w q3 q g R' l3 l' W') := by
  obtain ⟨S, h1, h2, h3, h4⟩ := t
  refine (tCut_any h2 i W W h1.ta h3 (by omega)).mono fun e W' ⟨h5, S', h6, h7, h8, h9⟩ => ?_
  rw [hr] at h5 h6 h7 h9
  dsimp only at h5 h6 h7 h9
  exact ⟨h5, S', h1.tas h6, h7, by omega, by split at h9 <;> omega⟩
theorem GS.add (t : GS c w q3 q g R l3 l W) {i no at_ l' : Int} {R' : St} (hr : R.gadd l3 i = ((no, at_), R', l')) (hc : c < 1000) :
    Calls Try.prog 18 #[.pointer (some ⟨q3, 0, none⟩), .int .i64 i] W (fun e W' => e = .returned (errP no at_) ∧ GS (c + 5) w q3 q g R' l' l W') := by
  obtain ⟨S, h1, h2, h3, h4⟩ := t
  refine (gAdd_any h2 W W h1.ga h3 (by omega)).mono fun e W' ⟨h5, S', h6, h7, h8, h9⟩ => ?_
  rw [hr] at h5 h6 h7 h9
  dsimp only at h5 h6 h7 h9
  exact ⟨h5, S', h1.gas h6, h7, by omega, by split at h9 <;> omega⟩
theorem GS.cut0 (t : GS c w q3 q g R l3 l W) {i at_ l' : Int} {R' : St} (hr : R.tcut l i = ((0, at_), R', l')) (hc : c < 1000) :
    Calls Try.prog 11 #[.pointer (some ⟨q, 0, none⟩), .int .i64 i] W (fun e W' => e = .returned .nilIface ∧ GS (c + 5) w q3 q g R' l3 l' W') :=
  (t.cut hr hc).mono fun e W' ⟨h1, h2⟩ => ⟨by rw [h1, errP_ok], h2⟩
theorem GS.add0 (t : GS c w q3 q g R l3 l W) {i at_ l' : Int} {R' : St} (hr : R.gadd l3 i = ((0, at_), R', l')) (hc : c < 1000) :
    Calls Try.prog 18 #[.pointer (some ⟨q3, 0, none⟩), .int .i64 i] W (fun e W' => e = .returned .nilIface ∧ GS (c + 5) w q3 q g R' l' l W') :=
  (t.add hr hc).mono fun e W' ⟨h1, h2⟩ => ⟨by rw [h1, errP_ok], h2⟩
theorem GS.unit (t : GS c w q3 q g R l3 l W) {i l' : Int} {b : Bool} {R' : St} (hr : R.gunit l3 = ((i, b), R', l')) (hc : c < 1000) :
    Calls Try.prog 21 #[.pointer (some ⟨q3, 0, none⟩)] W (fun e W' => e = .returned (.tuple #[.int .i64 i, .bool b]) ∧ GS (c + 8) w q3 q g R' l' l W') := by
  obtain ⟨S, h1, h2, h3, h4⟩ := t
  refine (gUnit_any h2 W W h1.ga h3 (by omega)).mono fun e W' ⟨h5, S', h6, h7, h8, h9⟩ => ?_
  rw [hr] at h5 h6 h7
  dsimp only at h5 h6 h7
  exact ⟨h5, S', h1.gas h6, h7, by omega, by omega⟩
theorem GS.last (t : GS c w q3 q g R l3 l W) : Calls Try.prog 24 #[.pointer (some ⟨q3, 0, none⟩)] W (RetSame (.int .i64 l3) W) := by
  obtain ⟨S, h1, _⟩ := t
  exact gs_last_any W W h1.ga
theorem GS.all (t : GS c w q3 q g R l3 l W) : Calls Try.prog 20 #[.pointer (some ⟨q3, 0, none⟩)] W (RetInts (natInts (R.swAll l3)) W) := by
  obtain ⟨S, h1, h2, _⟩ := t
  rw [show R.swAll l3 = S.swAll l3 from (gs_swAll_congr h2.slots l3).symm]
  exact sall_any W h1.ga
theorem TS.gs (t : TS c w q g R l W) (hB : Blk W' W.heap.size 72 #[.pointer (some ⟨g, 0, none⟩), .int .i64 (-1)]) (hb : Below W.heap.size W W') : GS c W' W.heap.size q g R (-1) l W' := by
  obtain ⟨S, h1, h2⟩ := t
  have hl := h1.qlt
  exact ⟨S, ⟨hB, h1.blk.below hb h1.blk.lt, h1.ar.below hb h1.ar.lt, ⟨by omega, h1.ne, by omega⟩, Tn.refl _ _⟩, h2⟩
end
end Go.Proofs.Ytbidgpeeogoglaa
