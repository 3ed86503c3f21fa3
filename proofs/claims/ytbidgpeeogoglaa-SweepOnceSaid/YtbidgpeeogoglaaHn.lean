/-
  Merged texts: TrU, TrI, TrB, TrUn, TrG.
-/
import Derived.Test.YtbidgpeeogoglaaHl
import Derived.Test.YtbidgpeeogoglaaHk
import Derived.Test.YtbidgpeeogoglaaGf
import Derived.WalkMore
import Derived.Test.YtbidgpeeogoglaaGg
/-
  What is under a slot (pure); rows that are handed on and grow.
-/
namespace Go.Proofs.Ytbidgpeeogoglaa
set_option maxRecDepth 100000
open Go.RowKit Go.Sort

def St.kidsOf (R : St) (i : Int) : List Nat := if inR i = true then R.all (R.slotAt i).kids else []
/-- A slot and what is below it, behind what was seen already. -/
def St.undr (R : St) : Nat → Nat → List Nat → List Nat
  | 0, _, seen => seen
  | f + 1, i, seen => if i ∈ seen then seen else (R.kidsOf (i : Int)).foldl (fun s k => R.undr f k s) (seen ++ [i])
def St.underOf (R : St) (i : Int) : List Nat := if inR i = true then R.undr 33 i.toNat [] else []
def RowOk (l : List Nat) : Prop := l.Nodup ∧ ∀ x ∈ l, x < 32
theorem RowOk.len {l : List Nat} (h : RowOk l) : l.length ≤ 32 := nodup_len 32 _ h.1 h.2
theorem RowOk.nil : RowOk [] := ⟨List.nodup_nil, fun x hx => by cases hx⟩
theorem RowOk.snoc {l : List Nat} (h : RowOk l) {i : Nat} (hi : i < 32) (hn : i ∉ l) : RowOk (l ++ [i]) := by
  refine ⟨?_, fun x hx => ?_⟩
  · rw [List.nodup_append]
    refine ⟨h.1, by simp, fun a ha b hb => ?_⟩
    simp at hb
    subst hb
    exact fun e => hn (e ▸ ha)
  · rcases List.mem_append.1 hx with hx | hx
    · exact h.2 x hx
    · simp at hx; subst hx; exact hi
theorem kidsOf_lt (R : St) (i : Int) : ∀ x ∈ R.kidsOf i, x < 32 := by
  unfold St.kidsOf
  split
  · exact all_lt R _
  · intro x hx; cases hx
theorem kidsOf_len (R : St) (i : Int) : (R.kidsOf i).length ≤ 32 := by
  unfold St.kidsOf
  split
  · exact all_len R _
  · simp
theorem undr_row (R : St) : ∀ (f i : Nat) (seen : List Nat), i < 32 → RowOk seen → RowOk (R.undr f i seen) ∧ seen.length ≤ (R.undr f i seen).length := by
  intro f
  induction f with
  | zero => intro i seen _ h; exact ⟨h, Nat.le_refl _⟩
  | succ f ih =>
    intro i seen hi h
    unfold St.undr
    split
    · exact ⟨h, Nat.le_refl _⟩
    · rename_i hn
      have hf : ∀ (l : List Nat) (s : List Nat), (∀ x ∈ l, x < 32) → RowOk s → RowOk (l.foldl (fun s k => R.undr f k s) s) ∧ s.length ≤ (l.foldl (fun s k => R.undr f k s) s).length := by
        intro l
        induction l with
        | nil => intro s _ hs; exact ⟨hs, Nat.le_refl _⟩
        | cons x l ihl =>
          intro s hl hs
          have h1 := ih x s (hl x (List.mem_cons_self ..)) hs
          have h2 := ihl (R.undr f x s) (fun y hy => hl y (List.mem_cons_of_mem _ hy)) h1.1
          exact ⟨h2.1, Nat.le_trans h1.2 h2.2⟩
      have h3 := hf (R.kidsOf (i : Int)) (seen ++ [i]) (kidsOf_lt R _) (h.snoc hi hn)
      exact ⟨h3.1, by have := h3.2; rw [List.length_append] at this; omega⟩
theorem fold_row (R : St) (f : Nat) : ∀ (l : List Nat) (s : List Nat), (∀ x ∈ l, x < 32) → RowOk s → RowOk (l.foldl (fun s k => R.undr f k s) s) ∧ s.length ≤ (l.foldl (fun s k => R.undr f k s) s).length := by
  intro l
  induction l with
  | nil => intro s _ hs; exact ⟨hs, Nat.le_refl _⟩
  | cons x l ihl =>
    intro s hl hs
    have h1 := undr_row R f x s (hl x (List.mem_cons_self ..)) hs
    have h2 := ihl (R.undr f x s) (fun y hy => hl y (List.mem_cons_of_mem _ hy)) h1.1
    exact ⟨h2.1, Nat.le_trans h1.2 h2.2⟩
theorem fold_snoc (R : St) (f : Nat) (l : List Nat) (x : Nat) (s : List Nat) : (l ++ [x]).foldl (fun s k => R.undr f k s) s = R.undr f x (l.foldl (fun s k => R.undr f k s) s) := by rw [List.foldl_append]; rfl
theorem undr_in {R : St} {f i : Nat} {seen : List Nat} (h : i ∈ seen) : R.undr (f + 1) i seen = seen := by unfold St.undr; rw [if_pos h]
theorem undr_new {R : St} {f i : Nat} {seen : List Nat} (h : i ∉ seen) : R.undr (f + 1) i seen = (R.kidsOf (i : Int)).foldl (fun s k => R.undr f k s) (seen ++ [i]) := by
  conv => lhs; unfold St.undr
  rw [if_neg h]
theorem all_congr' {S T : St} (h : S.slots = T.slots) (x : Int) : S.all x = T.all x := by
  have hr : ∀ (n : Nat) (i : Int), S.run n i = T.run n i := by
    intro n
    induction n with
    | zero => intro i; rfl
    | succ n ih => intro i; unfold St.run; rw [lk_congr h, ih]
  unfold St.all
  rw [lk_congr h, hr]
theorem kidsOf_congr {S R : St} (h : S.slots = R.slots) (i : Int) : S.kidsOf i = R.kidsOf i := by unfold St.kidsOf; rw [slotAt_congr h, all_congr' h]
theorem undr_congr {S R : St} (h : S.slots = R.slots) : ∀ (f i : Nat) (seen : List Nat), S.undr f i seen = R.undr f i seen := by
  intro f
  induction f with
  | zero => intro i seen; rfl
  | succ f ih =>
    intro i seen
    unfold St.undr
    rw [kidsOf_congr h, show (fun (s : List Nat) (k : Nat) => S.undr f k s) = fun s k => R.undr f k s from funext fun s => funext fun k => ih k s]
theorem underOf_congr {S R : St} (h : S.slots = R.slots) (i : Int) : S.underOf i = R.underOf i := by unfold St.underOf; rw [undr_congr h]
/-- A row is handed on: it lies where it lay, or in new memory. -/
def LiesFrom (n : Nat) (o o' : Option Nat) : Prop := o' = o ∨ ∀ r, o' = some r → n ≤ r
theorem LiesFrom.refl (n : Nat) (o : Option Nat) : LiesFrom n o o := .inl rfl
theorem LiesFrom.trans {n m : Nat} {o o' o'' : Option Nat} (h : LiesFrom n o o') (hm : n ≤ m) (k : LiesFrom m o' o'') : LiesFrom n o o'' := by
  rcases k with k | k
  · rw [k]; exact h
  · exact .inr fun r e => Nat.le_trans hm (k r e)
theorem grown_chain {W V V' : World} {o o' : Option Nat} (h1 : W.grownBy V o) (h2 : V.grownBy V' o') (hl : LiesFrom W.heap.size o o') : W.grownBy V' o := by
  refine ⟨h2.os.trans h1.os, h2.tape.trans h1.tape, h2.output.trans h1.output, Nat.le_trans h1.size h2.size, fun k hk hne => ?_⟩
  refine (h2.block k (Nat.lt_of_lt_of_le hk h1.size) (fun e => ?_)).trans (h1.block k hk hne)
  rcases hl with hl | hl
  · exact hne (hl ▸ e)
  · have := hl k e.symm; omega
structure Handed (W : World) (base : Nat) (v : Value) (L : List Nat) (W' : World) (v' : Value) : Prop where
  row : W'.ownsRow base 3 1 v' L.length (intVs (natInts L))
  gr : W.grownBy W' v.ownBlock
  lie : LiesFrom W.heap.size v.ownBlock v'.ownBlock
theorem Handed.below {W W' : World} {base : Nat} {v v' : Value} {L : List Nat} (h : Handed W base v L W' v') (hv : ∀ r, v.ownBlock = some r → base ≤ r) (hb : base ≤ W.heap.size) : Below base W W' :=
  ⟨h.gr.os, h.gr.tape, h.gr.output, h.gr.size, fun k hk => h.gr.block k (by omega) (fun e => by have := hv k e.symm; omega)⟩
end Go.Proofs.Ytbidgpeeogoglaa
/-
  Package tree: Roots, Kids: iterators.
-/
namespace Go.Proofs.Ytbidgpeeogoglaa
set_option maxRecDepth 100000
open Go.RowKit Go.Sort

/-- A call gives an iterator over these, that lies in new memory. -/
def RetIt (f : FuncId) (L : List Nat) (W : World) (e : Ending) (w' : World) : Prop :=
  ∃ B, e = .returned (.func (.func f) #[] #[.pointer (some ⟨B, 0, none⟩)]) ∧ (∀ n₀, Go.Proofs.Ytbidgpeeogoglaa.Seqs Try.prog f #[.pointer (some ⟨B, 0, none⟩)] natV n₀ (fun k => W.heap.size ≤ k ∧ k < w'.heap.size) 0 L w') ∧ Below W.heap.size W w'
theorem Seqs.wide {f : FuncId} {lb : Array Value} {n₀ : Nat} {z z' : Nat → Prop} {L : List Nat} {w : World} (h : Go.Proofs.Ytbidgpeeogoglaa.Seqs Try.prog f lb natV n₀ z 0 L w) (hz : ∀ k, z k → z' k) : Go.Proofs.Ytbidgpeeogoglaa.Seqs Try.prog f lb natV n₀ z' 0 L w := by
  intro l J Jx W hW hJ hJx hY h0
  refine h l J Jx W hW hJ hJx (fun pre x W1 h1 h2 h3 => ?_) h0
  refine (hY pre x W1 h1 h2 h3).mono fun e W' hh => ?_
  rcases hh with ⟨h4, h5, h6⟩ | ⟨h4, h5, h6⟩
  · exact .inl ⟨h4, h5, ⟨h6.others, h6.below, fun k hk => h6.extra k (hz k hk), h6.zone⟩⟩
  · exact .inr ⟨h4, h5, ⟨h6.others, h6.below, fun k hk => h6.extra k (hz k hk), h6.zone⟩⟩
theorem RetIt.from {f : FuncId} {L : List Nat} {W V : World} {e : Ending} {w' : World} (h : RetIt f L V e w') (hb : Below W.heap.size W V) : RetIt f L W e w' := by
  obtain ⟨B, h1, h2, h3⟩ := h
  exact ⟨B, h1, fun n₀ => (h2 n₀).wide (fun k hk => ⟨Nat.le_trans hb.size hk.1, hk.2⟩), hb.trans (h3.mono hb.size)⟩
section
variable {S : St} {q g : Nat} {l : Int}
theorem allIt_any (last : Int) (g : Nat) (w : World) (h : IsAr w g S) : Calls Try.prog 48 #[.pointer (some ⟨g, 0, none⟩), .int .i64 last] w (RetIt 58 (S.all last) w) := all_any last g w h
theorem all_none (S : St) : S.all (-1) = [] := by unfold St.all; rw [if_neg (by decide)]
set_option maxHeartbeats 4000000 in
theorem troots_any (w W : World) (a : Ta w q g S l W) : Calls Try.prog 33 #[.pointer (some ⟨q, 0, none⟩)] W (RetIt 58 (S.all l) W) := by
  have HA := Lib.hid a
  obtain ⟨c0, c1, _⟩ := a.cells
  clear a
  go_enter Try.func33, Try.ntmps33
  go_upto_region 1 with fail
  refine wp_region_held_tail (S := fun W' => W'.cell? ⟨q, 0, none⟩ = some (.pointer (some ⟨g, 0, none⟩)) ∧ W'.cell? ⟨q, 1, none⟩ = some (.int .i64 l)) 8 (by kernel_rfl) (by kernel_rfl) rfl ⟨c0, c1⟩ ?_
  simp only [List.take_succ_cons, List.take_zero, List.drop_succ_cons, List.drop_zero]
  iterate 8 (refine wpHeld_cons (fun _ _ _ h => h) (Or.inl ⟨by rfl, by intro w hSw; (try dsimp only at hSw); go_simp; try with_reducible rfl⟩) ?_; try simp only [put_laws])
  intro K' hK
  have HA3 := Lib.hid (HA.out.read (Below.refl _ W).drew)
  have HB3 := Lib.hid ((Below.refl W.heap.size W).drew)
  generalize hv3 : W.drew = v3 at *
  go_simp
  go_at_call 48
  refine (allIt_any l g v3 HA3.out.ar).mono ?_
  rintro e w4 ⟨B, rfl, hq, hb4⟩
  have HR := Lib.hid ((show RetIt _ _ v3 _ w4 from ⟨B, rfl, hq, hb4⟩).from HB3.out)
  have a4 := HA3.out.read hb4
  refine hK.out _ _ ⟨a4.cells.1, a4.cells.2.1⟩ (fun _ => ?_)
  clear c0 c1 hK hv3 hq hb4 a4
  try simp only [put_laws]
  go_wp2
  go_ret
  exact HR.out
set_option maxHeartbeats 4000000 in
theorem tkids_out {i : Int} (hi : inR i = false) (w W : World) (a : Ta w q g S l W) : Calls Try.prog 34 #[.pointer (some ⟨q, 0, none⟩), .int .i64 i] W (RetIt 58 [] W) := by
  have HG := get_gen i g W a.ar
  rw [show errAt i = errno 1 from if_neg (by simp [hi])] at HG
  have HGA := Lib.hid HG
  have HA := Lib.hid a
  obtain ⟨c0, _, _⟩ := a.cells
  have hneq := errno_neq 1
  have hgrd : ∀ x y w, (eqGuard .neq 32 x y (errno 1) .nilIface).run Try.prog w = .ok () w := fun x y w => by unfold errno; kernel_rfl
  generalize S.slotAt i = s at *
  clear HG a hi
  go_enter Try.func34, Try.ntmps34
  go_wp2_with (go_at_call 23; fail)
  refine HGA.out.mono ?_
  rintro e w2 ⟨rfl, hb2⟩
  obtain ⟨V2, hV2⟩ : ∃ V2, w2.alloc (.cells s.cells 57) = V2 := ⟨_, rfl⟩
  have hb3 : Below W.heap.size W V2 := by rw [← hV2]; exact hb2.alloc hb2.size _
  have HA2 := Lib.hid (HA.out.read hb3)
  have HB2 := Lib.hid hb3
  have HV2 := Lib.hid hV2
  obtain ⟨d0, _, _⟩ := HA2.out.cells
  clear hV2 hb2 hb3 HGA c0
  go_wp2_with (first
    | ((with_reducible show wpList _ _ _ _ _ (World.alloc _ _)); refine wpList_store_new (ty := 57) rfl rfl rfl rfl rfl (SlotV.one _) slotInfo ?_; rw [HV2.out])
    | (go_at_call 48; fail))
  have HC := allIt_any (-1) g V2 HA2.out.ar
  rw [all_none] at HC
  refine HC.mono ?_
  rintro e w4 ⟨B, rfl, hq, hb4⟩
  have HR := Lib.hid ((show RetIt _ _ V2 _ w4 from ⟨B, rfl, hq, hb4⟩).from HB2.out)
  clear HC hq hb4 d0
  go_wp2
  go_ret
  exact HR.out
set_option maxHeartbeats 4000000 in
theorem tkids_in {i : Int} (hi : inR i = true) (w W : World) (a : Ta w q g S l W) : Calls Try.prog 34 #[.pointer (some ⟨q, 0, none⟩), .int .i64 i] W (RetIt 58 (S.all (S.slotAt i).kids) W) := by
  have HG := get_gen i g W a.ar
  rw [show errAt i = .nilIface from if_pos hi] at HG
  have HGA := Lib.hid HG
  have HA := Lib.hid a
  obtain ⟨c0, _, _⟩ := a.cells
  have hneq := nil_neq
  generalize S.slotAt i = s at *
  clear HG a hi
  go_enter Try.func34, Try.ntmps34
  go_wp2_with (go_at_call 23; fail)
  refine HGA.out.mono ?_
  rintro e w2 ⟨rfl, hb2⟩
  obtain ⟨bb, hbb⟩ : ∃ bb, w2.heap.size = bb := ⟨_, rfl⟩
  obtain ⟨V2, hV2⟩ : ∃ V2, w2.alloc (.cells s.cells 57) = V2 := ⟨_, rfl⟩
  have hb3 : Below W.heap.size W V2 := by rw [← hV2]; exact hb2.alloc hb2.size _
  have HK2 := Lib.hid (show Blk V2 bb 57 s.cells by rw [← hV2, ← hbb]; exact Blk.new _ _ _)
  have HA2 := Lib.hid (HA.out.read hb3)
  have HB2 := Lib.hid hb3
  have HV2 := Lib.hid hV2
  have HBB := Lib.hid hbb
  clear hV2 hb2 hb3 HGA c0 hbb
  go_upto_region 4 with (first
    | ((with_reducible show wpList _ _ _ _ _ (World.alloc _ _)); refine wpList_store_new (ty := 57) rfl rfl rfl rfl rfl (SlotV.one _) slotInfo ?_; rw [HV2.out, HBB.out]))
  refine wp_region_held_tail (S := fun W' => W'.cell? ⟨q, 0, none⟩ = some (.pointer (some ⟨g, 0, none⟩)) ∧ W'.cell? ⟨bb, 2, none⟩ = some (.int .i64 s.kids)) 6 (by kernel_rfl) (by kernel_rfl) rfl ⟨HA2.out.cells.1, (HK2.out.cell 2).trans rfl⟩ ?_
  simp only [List.take_succ_cons, List.take_zero, List.drop_succ_cons, List.drop_zero]
  iterate 6 (refine wpHeld_cons (fun _ _ _ h => h) (Or.inl ⟨by rfl, by intro w hSw; (try dsimp only at hSw); go_simp; try with_reducible rfl⟩) ?_; try simp only [put_laws])
  intro K' hK
  have HA3 := Lib.hid (HA2.out.read (Below.refl _ V2).drew)
  have HK3 := Lib.hid (HK2.out.below (Below.refl V2.heap.size V2).drew HK2.out.lt)
  have HB3 := Lib.hid (HB2.out.trans ((Below.refl V2.heap.size V2).drew.mono HB2.out.size))
  generalize hv3 : V2.drew = v3 at *
  go_simp
  go_at_call 48
  refine (allIt_any s.kids g v3 HA3.out.ar).mono ?_
  rintro e w4 ⟨B, rfl, hq, hb4⟩
  have HR := Lib.hid ((show RetIt _ _ v3 _ w4 from ⟨B, rfl, hq, hb4⟩).from HB3.out)
  have a4 := HA3.out.read hb4
  refine hK.out _ _ ⟨a4.cells.1, ((HK3.out.below hb4 HK3.out.lt).cell 2).trans rfl⟩ (fun _ => ?_)
  clear hK hv3 hq hb4 a4
  try simp only [put_laws]
  go_wp2
  go_ret
  exact HR.out
theorem tkids_any (i : Int) (w W : World) (a : Ta w q g S l W) : Calls Try.prog 34 #[.pointer (some ⟨q, 0, none⟩), .int .i64 i] W (RetIt 58 (S.kidsOf i) W) := by
  unfold St.kidsOf
  rcases inR_cases i with hi | hi
  · rw [if_pos hi]
    exact tkids_in hi w W a
  · rw [if_neg (by simp [hi])]
    exact tkids_out hi w W a
end
end Go.Proofs.Ytbidgpeeogoglaa
/-
  Package tree: below: walked (it calls itself in a range over a function).
-/
namespace Go.Proofs.Ytbidgpeeogoglaa
set_option maxRecDepth 100000
open Go.RowKit Go.Shelf
attribute [local go_sem] Oper.semAt_some

/-- 'list = f(list)' in a round: the list is handed on. -/
theorem CollR.hand {w V V1 : World} {b base : Nat} {A : Option Nat} {xs ys : List Nat} {v v' : Value} (h : CollR w b base A xs V v) (hh : Handed V base v ys V1 v') (hbA : some b ≠ A) (hb : b < w.heap.size) (hA : ∀ r, A = some r → r < w.heap.size) (hsz : w.heap.size + 2 ≤ V.heap.size) :
    Boxed V1 b 22 v ∧ CollR w b base A ys (V1.setCell ⟨b, 0, none⟩ v') v' ∧
    ∀ B n₀ (x : Nat → Prop) lo, n₀ ≤ b → n₀ ≤ base → n₀ ≤ V.heap.size → ¬ x b → (∀ r, A = some r → ¬ x r) → (∀ r, w.heap.size + 2 ≤ r → ¬ x r) → Kept B n₀ x lo lo V (V1.setCell ⟨b, 0, none⟩ v') := by
  have hob : ∀ r, v.ownBlock = some r → base ≤ r ∧ r ≠ b ∧ ∃ cs t f, V.heap[r]? = some (.cells cs t f) := fun r e => by
    rcases h.row.2 with ⟨e0, _⟩ | ⟨g, cap, cur, e0, hbg, hgb, _⟩
    · rw [e0] at e; cases e
    · have e1 := e
      rw [e0] at e
      obtain rfl : g = r := by simpa [Value.ownBlock] using e
      refine ⟨hbg, fun e2 => ?_, _, _, _, hgb⟩
      subst e2
      rcases h.own _ e1 with h1 | h1
      · exact hbA h1
      · omega
  have hv1 : Boxed V1 b 22 v := h.box.kept hh.gr (fun e => (hob b e.symm).2.1 rfl)
  have hown' : ∀ r, v'.ownBlock = some r → some r = A ∨ w.heap.size + 2 ≤ r := fun r e => by
    rcases hh.lie with h1 | h1
    · exact h.own r (h1 ▸ e)
    · exact .inr (by have := h1 r e; omega)
  have hne' : v'.ownBlock ≠ some b := fun e => by
    rcases hown' b e with h1 | h1
    · exact hbA h1
    · omega
  have g2 := grownBy_setCell' V1 b v'
  refine ⟨hv1, ⟨hv1.set _, hh.row.kept g2 (.inr hne'), hown', ?_⟩, ?_⟩
  · refine ⟨g2.os.trans (hh.gr.os.trans h.tn.os), g2.tape.trans (hh.gr.tape.trans h.tn.tape), g2.output.trans (hh.gr.output.trans h.tn.output), Nat.le_trans h.tn.size (Nat.le_trans hh.gr.size g2.size), fun j hj hne => ?_⟩
    refine (Below.heap_setCell V1 ⟨b, 0, none⟩ _ j (fun e => hne (.inl e))).trans ((hh.gr.block j (Nat.lt_of_lt_of_le hj h.tn.size) (fun e => ?_)).trans (h.tn.block j hj hne))
    rcases h.own j e.symm with h1 | h1
    · exact hne (.inr h1)
    · omega
  · intro B n₀ x lo hn hnb hnV hx hxA hxn
    refine ((Kept.refl V).grown hnV hh.gr ?_).set hn hx (by omega) _
    intro r e
    obtain ⟨h1, _, cs, t, f, h2⟩ := hob r e
    refine ⟨by omega, ⟨?_, by omega⟩, fun o ho => ?_⟩
    · rcases h.own r e with h3 | h3
      · exact hxA r h3.symm
      · exact hxn r h3
    · rw [h2] at ho; cases ho; rfl
section
variable {S : St} {q g : Nat} {l : Int}
set_option maxHeartbeats 16000000 in
theorem tbelow_any (W0 : World) (a0 : Ta W0 q g S l W0) : ∀ (f i : Nat) (seen : List Nat) (v : Value) (W : World), i < 32 → 33 ≤ f + seen.length → RowOk seen → W.ownsRow W0.heap.size 3 1 v seen.length (intVs (natInts seen)) → Below W0.heap.size W0 W →
    Calls Try.prog 49 #[.pointer (some ⟨q, 0, none⟩), .int .i64 i, v] W (fun e W' => ∃ v', e = .returned v' ∧ Handed W W0.heap.size v (S.undr f i seen) W' v') := by
  intro f
  induction f with
  | zero => intro i seen v W hi hf hr; have := hr.len; omega
  | succ f ih =>
    intro i seen v W hi hf hr hown hbel
    obtain ⟨ii, iz, hi0, hz0, hz1, hz2, hz3⟩ := intInfo
    obtain ⟨p0, c0, rfl⟩ := owns_slice hown
    obtain ⟨V, hV⟩ : ∃ V, (W.alloc (.cells #[.pointer (some ⟨q, 0, none⟩)] 25)).alloc (.cells #[.slice p0 seen.length c0] 22) = V := ⟨_, rfl⟩
    have hVs : V.heap.size ≤ W.heap.size + 2 ∧ W.heap.size + 2 ≤ V.heap.size := by rw [← hV]; simp
    have hbV : Below W.heap.size W V := by rw [← hV]; exact ((Below.refl _ _).alloc (Nat.le_refl _) _).alloc (by simp) _
    have bT : Boxed V W.heap.size 25 (.pointer (some ⟨q, 0, none⟩)) := by rw [← hV]; exact (Boxed.new W _ _).alloc _
    have bL : Boxed V (W.heap.size + 1) 22 (.slice p0 seen.length c0) := by
      rw [← hV]
      have h := Boxed.new (W.alloc (.cells #[.pointer (some ⟨q, 0, none⟩)] 25)) 22 (.slice p0 seen.length c0)
      rwa [World.size_alloc] at h
    have hownV := hown.kept (grownBy_below hbV none) (by cases p0 <;> simp [Value.ownBlock])
    obtain ⟨Ao, co, ho, hio⟩ := owns_intsAt hownV
    obtain ⟨rfl, rfl⟩ : p0 = Ao ∧ c0 = co := by injection ho with h1 _ h3; exact ⟨h1, h3⟩
    have hl := hr.len
    have HAS := Lib.hid (contains_any p0 c0 seen.length seen rfl (by omega) i V hio)
    have hA : ∀ r, (Value.slice p0 seen.length c0).ownBlock = some r → W0.heap.size ≤ r ∧ r < W.heap.size := fun r e => hown.lt r e
    have hc5 : ((W.alloc (.cells #[.pointer (some ⟨q, 0, none⟩)] 25)).alloc (.cells #[.slice p0 seen.length c0] 22)).cell? ⟨W.heap.size + 1, 0, none⟩ = some (.slice p0 seen.length c0) := by rw [hV]; exact bL.cell
    have HAA := Lib.hid hA
    have HO := Lib.hid hownV
    have HW := Lib.hid hown
    have HB := Lib.hid hbel
    have HBV := Lib.hid hbV
    have hs0 := hbel.size
    have HVV := Lib.hid hV
    have BT := Lib.hid bT
    have BL := Lib.hid bL
    clear ho hio hown hbel hA hbV bT bL hownV hV
    by_cases hm : i ∈ seen
    · rw [undr_in hm]
      rw [decide_eq_true hm] at HAS
      have hcV := BL.out.cell
      clear hm
      refine calls_marks Try.func49 rfl ?_
      simp only [Try.ntmps49, List.size_toArray, List.length_cons, List.length_nil, Nat.reduceAdd, Nat.reduceSub, Array.replicate_succ, Array.replicate_zero, List.push_toArray, List.append_toArray, List.nil_append, List.cons_append]
      go_wp2_with (first | (go_at_call 59; fail))
      rw [HVV.out]
      refine HAS.out.mono ?_
      rintro e w' ⟨rfl, rfl⟩
      go_wp2
      refine ⟨_, results_tmp rfl _ _ _, ?_⟩
      exact ⟨_, rfl, HO.out, grownBy_below HBV.out _, LiesFrom.refl _ _⟩
    · have hfin := undr_new (R := S) (f := f) hm
      have hrow := hr.snoc hi hm
      rw [decide_eq_false hm] at HAS
      have HF := Lib.hid hfin
      have h1 : seen.length + 1 ≤ maxLen := by unfold maxLen; omega
      have h2 : (seen.length + 1) * 8 ≤ 140737488355328 := by omega
      have H1 := Lib.hid h1
      have H2 := Lib.hid h2
      have hlen1 : (seen ++ [i]).length = seen.length + 1 := by simp
      have hcV := BL.out.cell
      clear hm hfin h1 h2
      have HIH := Lib.hid ih
      clear ih
      obtain ⟨v, hv⟩ : ∃ v, Value.slice p0 seen.length c0 = v := ⟨_, rfl⟩
      have HV := Lib.hid hv
      rw [hv] at HAA HO BL
      clear hv
      refine calls_marks Try.func49 rfl ?_
      simp only [Try.ntmps49, List.size_toArray, List.length_cons, List.length_nil, Nat.reduceAdd, Nat.reduceSub, Array.replicate_succ, Array.replicate_zero, List.push_toArray, List.append_toArray, List.nil_append, List.cons_append]
      go_wp2_with (first | (go_at_call 59; fail))
      rw [HVV.out]
      refine HAS.out.mono ?_
      rintro e w' ⟨rfl, rfl⟩
      clear hc5
      go_wp2_with (first
        | (refine wpList_append_one_lies rfl _ _ 22 rfl Try.underlying22 hi0 hz0 hz1 hz2 hz3 (by decide) (v := v) HV.out HO.out rfl rfl (int_one _) H1.out H2.out (by omega) ?_; intro g1 cap1 w1 hown1 hgr1 hlie1; have hb5 := BL.out.kept hgr1 (fun e => by have := HAA.out _ e.symm; omega); have hc5 := hb5.cell; have hf5 := hb5.frozen; have hb3 := BT.out.kept hgr1 (fun e => by have := HAA.out _ e.symm; omega); have hc3 := hb3.cell; have hc6 : (w1.setCell ⟨W.heap.size + 1, 0, none⟩ (.slice (some ⟨g1, 0, none⟩) (seen.length + 1) cap1)).cell? ⟨W.heap.size, 0, none⟩ = some (.pointer (some ⟨q, 0, none⟩)) := (World.cell?_of_block (a := ⟨W.heap.size, 0, none⟩) (Below.heap_setCell w1 ⟨W.heap.size + 1, 0, none⟩ _ W.heap.size (by show W.heap.size ≠ W.heap.size + 1; omega))).trans hc3)
        | (go_at_call 34; fail))
      have hs1 := hgr1.size
      obtain ⟨v1, hv1⟩ : ∃ v1, Value.slice (some ⟨g1, 0, none⟩) (seen.length + 1) cap1 = v1 := ⟨_, rfl⟩
      have hb5s := hb5.set v1
      have hset := grownBy_setCell' w1 (W.heap.size + 1) v1
      have hlie : LiesFrom W.heap.size v.ownBlock v1.ownBlock := by
        rw [← hv1]
        rcases hlie1 with h | h
        · exact .inl h.symm
        · exact .inr (fun r e => by (have : g1 = r := by simpa [Value.ownBlock] using e); omega)
      have ho1 : v1.ownBlock = some g1 := by rw [← hv1]; rfl
      have hg1 : W0.heap.size ≤ g1 ∧ g1 ≠ W.heap.size + 1 ∧ g1 < w1.heap.size ∧ g1 ≠ W.heap.size := by
        have h3 := hown1.lt g1 rfl
        rcases hlie1 with h | h
        · have := HAA.out g1 h; omega
        · omega
      have hrow1 : (w1.setCell ⟨W.heap.size + 1, 0, none⟩ v1).ownsRow W0.heap.size 3 1 v1 (seen ++ [i]).length (intVs (natInts (seen ++ [i]))) := by
        have h3 : w1.ownsRow W0.heap.size 3 1 v1 (seen ++ [i]).length (intVs (natInts (seen ++ [i]))) := by rw [natInts_snoc, hlen1, ← hv1]; exact hown1
        exact h3.kept hset (.inr (fun e => by rw [ho1] at e; cases e; omega))
      have hG1 : W.grownBy (w1.setCell ⟨W.heap.size + 1, 0, none⟩ v1) v.ownBlock := grown_chain (grown_chain (grownBy_below HBV.out v.ownBlock) hgr1 (LiesFrom.refl _ _)) hset (.inr (fun r e => by cases e; omega))
      rw [hv1]
      have hb3s : Boxed (w1.setCell ⟨W.heap.size + 1, 0, none⟩ v1) W.heap.size 25 (.pointer (some ⟨q, 0, none⟩)) := (Below.heap_setCell w1 ⟨W.heap.size + 1, 0, none⟩ v1 W.heap.size (by show W.heap.size ≠ W.heap.size + 1; omega)).trans hb3
      have hss := hset.size
      generalize w1.setCell ⟨W.heap.size + 1, 0, none⟩ v1 = V2 at *
      have HLIE := Lib.hid hlie
      have HO1 := Lib.hid ho1
      have HG1 := Lib.hid hG1
      have hb2W : Below W0.heap.size W0 V2 := HB.out.trans ⟨hG1.os, hG1.tape, hG1.output, hG1.size, fun k hk => hG1.block k (by omega) (fun e => by have := (HAA.out k e.symm).1; omega)⟩
      have HB2 := Lib.hid hb2W
      have HR1 := Lib.hid hrow1
      have HB5 := Lib.hid hb5s
      have HB3 := Lib.hid hb3s
      clear hown1 hgr1 hlie1 hrow1 hb5 hb3 hb5s hb3s hc5 hf5 hc3 hc6 hset hlie ho1 hG1 hb2W hv1 hcV
      refine (tkids_any (i : Int) W0 V2 (a0.read HB2.out)).mono ?_
      rintro e V3 ⟨B, rfl, hq, hb3'⟩
      have hs3 := hb3'.size
      have C0 : CollR V3 (W.heap.size + 1) W0.heap.size v1.ownBlock (seen ++ [i]) V3 v1 := ⟨(hb3'.block _ HB5.out.lt).trans HB5.out, HR1.out.kept (grownBy_below hb3' none) (by rw [HO1.out]; exact .inr (fun e => by cases e)), fun r e => .inl e.symm, Tn.refl _ _⟩
      have HBT := Lib.hid (show Boxed V3 W.heap.size 25 (.pointer (some ⟨q, 0, none⟩)) from (hb3'.block _ HB3.out.lt).trans HB3.out)
      have HG3 := Lib.hid (grown_chain HG1.out (grownBy_below hb3' v.ownBlock) (LiesFrom.refl _ _))
      have HBW := Lib.hid (HB2.out.trans (hb3'.mono (by omega)))
      have HQ := Lib.hid (hq W0.heap.size)
      have HLT := Lib.hid (kidsOf_lt S (i : Int))
      obtain ⟨L, hL⟩ : ∃ L, S.kidsOf (i : Int) = L := ⟨_, rfl⟩
      rw [hL] at HQ HF HLT
      clear hq hb3' HR1 HB5 HB3 HG1 HB2 hL
      go_wp2
      refine wp_seqs rfl (enters_of Try.func58 (by kernel_rfl) rfl) HQ.out (by omega) (fun k hk => by omega) (Below.refl _ _) (fun _ => rfl)
        (fun (pre : List Nat) (W1 : World) => ∃ v', CollR V3 (W.heap.size + 1) W0.heap.size v1.ownBlock (pre.foldl (fun s k => S.undr f k s) (seen ++ [i])) W1 v')
        (fun (cd : Code) (pre : List Nat) (W1 : World) => False)
        (Zone.collR (Nat.le_refl _) (fun (pre : List Nat) => pre.foldl (fun s k => S.undr f k s) (seen ++ [i])))
        (fun cd => Zone.none)
        ⟨v1, C0⟩ ?round ?done ?stop
      case stop =>
        rintro cd pre W1 hpre hf hK
        exact hf.elim
      case round =>
        intro l2 pre x V0 hpre
        simp only [natV]
        gi_wp2
        refine ⟨by trivial, fun V1 hsz1 ⟨v', hC⟩ => ?_⟩
        have hx32 : x < 32 := HLT.out x (hpre.subset (by simp))
        have hsub : ∀ y ∈ pre, y < 32 := fun y hy => HLT.out y (hpre.subset (List.mem_append_left _ hy))
        have hfr := fold_row S f pre (seen ++ [i]) hsub hrow
        have hst := fold_snoc S f pre x (seen ++ [i])
        have HST := Lib.hid hst
        have hbr : Below W0.heap.size W0 V1 := HBW.out.trans (hC.tn.below (fun k hk => by
          rcases hk with h | h
          · omega
          · rw [HO1.out] at h; cases h; exact hg1.1) (by omega))
        have hc3 : V1.cell? ⟨W.heap.size, 0, none⟩ = some (.pointer (some ⟨q, 0, none⟩)) := Boxed.cell (show Boxed V1 W.heap.size 25 (.pointer (some ⟨q, 0, none⟩)) from (hC.tn.block W.heap.size HBT.out.lt (fun h => by
          rcases h with h | h
          · omega
          · rw [HO1.out] at h; cases h; omega)).trans HBT.out)
        have hc5 := hC.box.cell
        have HCC := Lib.hid (HIH.out x _ v' V1 hx32 (by have := hfr.2; rw [hlen1] at this; omega) hfr.1 hC.row hbr)
        obtain ⟨Ar, cp, rfl⟩ := owns_slice hC.row
        have HC := Lib.hid hC
        generalize pre.foldl (fun s k => S.undr f k s) (seen ++ [i]) = E at *
        clear hfr hst hbr hC hsub
        gi_wp2_with (first
          | (refine ⟨trivial, ?_⟩; gi_at_call 49; refine (callsIn_wide.2 HCC.out).mono ?_; rintro e V5 ⟨v5, rfl, hh5⟩; obtain ⟨A5, c5, rfl⟩ := owns_slice hh5.row; obtain ⟨hbx, hC2, hk2⟩ := HC.out.hand hh5 (by rw [HO1.out]; intro e; cases e; omega) (by omega) (fun r e => by rw [HO1.out] at e; cases e; omega) (by omega); have hf5 := hbx.frozen; have hc6 := hbx.cell))
        exact ⟨hk2 _ _ _ _ (by omega) (by omega) (by omega) (by rintro ⟨h1, h2⟩; omega) (fun r e => by rw [HO1.out] at e; cases e; rintro ⟨h1, h2⟩; omega) (fun k hk => by rintro ⟨h1, h2⟩; omega), _, by rw [HST.out]; exact hC2⟩
      case done =>
        rintro W1 ⟨v', hC⟩ hK
        have hc1 := hC.box.cell
        have hs4 := hC.tn.size
        obtain ⟨Ar, cp, rfl⟩ := owns_slice hC.row
        have HC := Lib.hid hC
        have HK := Lib.hid hK
        clear hC hK
        go_wp2
        refine ⟨by simp, .inl ⟨_, _, rfl, run_takeDeferred HK.out, ?_⟩⟩
        refine ⟨_, results_tmp rfl _ _ _, ?_⟩
        refine ⟨_, rfl, ?_⟩
        rw [HV.out]
        refine ⟨by rw [HF.out]; exact ownsRow_putObj HC.out.row (.deferred none) HK.out rfl, ?_, ?_⟩
        · have hT := HC.out.tn
          have hG := HG3.out
          refine ⟨hT.os.trans hG.os, hT.tape.trans hG.tape, hT.output.trans hG.output, by rw [World.putObj_size]; omega, fun k hk hne => ?_⟩
          refine (World.putObj_heap_other (by omega)).trans ((hT.block k (by omega) (fun h => ?_)).trans (hG.block k hk hne))
          rcases h with h | h
          · omega
          · rcases HLIE.out with h5 | h5
            · exact hne (h.trans h5)
            · have := h5 k h.symm; omega
        · show LiesFrom W.heap.size v.ownBlock (Value.slice Ar (List.foldl (fun s k => S.undr f k s) (seen ++ [i]) L).length cp).ownBlock
          rcases Classical.em ((Value.slice Ar (List.foldl (fun s k => S.undr f k s) (seen ++ [i]) L).length cp).ownBlock = v1.ownBlock) with h5 | h5
          · rw [h5]; exact HLIE.out
          · refine .inr (fun r e => ?_)
            rcases HC.out.own r e with h6 | h6
            · exact absurd (e.trans h6) h5
            · omega
end
end Go.Proofs.Ytbidgpeeogoglaa
/-
  Package tree: Under, and its iterator.
-/
namespace Go.Proofs.Ytbidgpeeogoglaa
set_option maxRecDepth 100000
open Go.RowKit Go.Shelf
attribute [local go_sem] Oper.semAt_some

set_option maxHeartbeats 4000000 in
theorem under1_seqs (L : List Nat) (p : Option Addr) (cap : Nat) (w : World) (Bn n₀ : Nat) (z : Nat → Prop) (hz : z Bn) (hzp : ∀ a, p = some a → z a.block) (hc : Boxed w Bn 22 (.slice p L.length cap)) (hin : IntsAt w p (natInts L)) (hlen : L.length ≤ 1000000) :
    Seqs Try.prog 50 #[.pointer (some ⟨Bn, 0, none⟩)] natV n₀ z 0 L w := by
  intro l J Jx W hW hJ hJx hY h0
  have hcW : W.cell? ⟨Bn, 0, none⟩ = some (.slice p L.length cap) := (hW.cell (p := ⟨Bn, 0, none⟩) hc.lt).trans hc.cell
  have hIW := hin.below hW (Nat.le_refl _)
  have HI := Lib.hid hin
  have hsz := hW.size
  have HW := Lib.hid hIW
  have HZ := Lib.hid hzp
  clear hc hin hW hIW hzp hz
  refine (callsIn_wide (n := 6)).1 ?_
  refine callsIn_of_wp Try.func50 rfl trivial ?_ rfl
  simp only [Try.ntmps50, List.size_toArray, List.length_cons, List.length_nil, Nat.reduceAdd, Nat.reduceSub, Array.replicate_succ, Array.replicate_zero, List.push_toArray, List.append_toArray, List.nil_append, List.cons_append]
  gi_wp2
  refine wpIn_wide.2 (wp_scope_straight ((wpIn_wide (n := 6)).1 (wpIn_seq (wpIn_label ?_))))
  show Code.wpIn _ _ _ _ _ _ _
  gi_wp2
  gi_loopw [7] (fun q wr => ∃ k : Nat, k ≤ L.length ∧ q = .int .i64 k ∧ J (L.take k) wr ∧ IntsAt wr p (natInts L) ∧ W.heap.size ≤ wr.heap.size) (fun p _ => L.length - (intOf p).toNat)
  case atStart => exact ⟨0, Nat.zero_le _, rfl, h0, HW.out, Nat.le_refl _⟩
  case round =>
    obtain ⟨k, hk, rfl, hJs, hbw, hwz⟩ := hrel
    by_cases hlt : k < L.length
    · have hlt' : (k : Int) < (L.length : Int) := by omega
      obtain ⟨s, hs⟩ : ∃ s, L[k]? = some s := ⟨_, List.getElem?_eq_getElem hlt⟩
      have HB := Lib.hid hbw
      have hpos : 0 < (natInts L).length := by rw [natInts_len]; omega
      obtain ⟨b, off, rfl, hbl, hcs⟩ := hbw hpos
      clear hbl hpos
      have hcell := hcs k s (by simp [natInts, hs])
      have htk : L.take (k + 1) = L.take k ++ [s] := by rw [List.take_add_one, hs]; rfl
      obtain ⟨fn, tmps, assign, body, hy, hR⟩ := hY (L.take k) s wr hJs (by simpa using hwz) (by rw [← htk]; exact List.take_prefix _ _)
      simp only [natV] at hy
      have HT := Lib.hid htk
      clear hs hcs htk hbw
      gi_wp2
      refine hR.mono ?_
      rintro e W3 (⟨rfl, hJ3, hk3⟩ | ⟨rfl, hJx3, hk3⟩)
      · have hsz3 := hk3.below.size
        gi_wp2
        go_roundw
        case rel => exact ⟨k + 1, by omega, by go_num, by rw [HT.out]; exact hJ3, HB.out.kept hsz3 (fun a e hlt => hk3.extra _ (HZ.out a e) hlt), by omega⟩
        case measure => simp [intOf]; omega
      · gi_wp2
        rw [Exit.noGoto_normal]
        gi_wp2
        go_end0
        exact ⟨⟨_, rfl⟩, .inr ⟨L.take k ++ [s], by rw [← HT.out]; exact List.take_prefix _ _, hJx3⟩⟩
    · obtain rfl : k = L.length := by omega
      gi_wp2
      rw [Exit.noGoto_normal]
      gi_wp2
      go_end0
      exact ⟨⟨_, rfl⟩, .inl (by rw [List.take_length] at hJs; exact hJs)⟩

section
variable {S : St} {q g : Nat} {l : Int}
set_option maxHeartbeats 8000000 in
theorem tunder_in {k : Nat} (hk : k < 32) (W : World) (a : Ta W q g S l W) : Calls Try.prog 35 #[.pointer (some ⟨q, 0, none⟩), .int .i64 k] W (RetIt 50 (S.undr 33 k []) W) := by
  have hi := inR_nat hk
  obtain ⟨bl, hbl⟩ : ∃ bl, W.heap.size = bl := ⟨_, rfl⟩
  obtain ⟨V, hV⟩ : ∃ V, W.alloc (.cells #[.slice none 0 0] 22) = V := ⟨_, rfl⟩
  have hVs : V.heap.size ≤ W.heap.size + 1 ∧ W.heap.size + 1 ≤ V.heap.size := by rw [← hV]; simp
  have hbV : Below W.heap.size W V := by rw [← hV]; exact (Below.refl _ _).alloc (Nat.le_refl _) _
  have bL : Boxed V bl 22 (.slice none 0 0) := by rw [← hV, ← hbl]; exact Boxed.new W _ _
  have HA := Lib.hid (a.read hbV)
  have HG := get_gen (k : Int) g V HA.out.ar
  rw [show errAt (k : Int) = .nilIface from if_pos hi] at HG
  have HGA := Lib.hid HG
  have hc0 : (W.alloc (.cells #[.slice none 0 0] 22)).cell? ⟨q, 0, none⟩ = some (.pointer (some ⟨g, 0, none⟩)) := by rw [hV]; exact HA.out.cells.1
  have hneq : (binOp .eql 32 .nilIface .nilIface).run Try.prog W = .ok (.bool true) W := by kernel_rfl
  have HW := Lib.hid (fun V2 (hb : Below W.heap.size W V2) => tbelow_any W a 33 k [] (.slice none 0 0) V2 hk (by simp) RowOk.nil (World.ownsRow_nil _ _ _ _) hb)
  have hrow := (undr_row S 33 k [] hk RowOk.nil).1.len
  generalize S.undr 33 k [] = L at *
  generalize S.slotAt (k : Int) = s at *
  have HB := Lib.hid hbV
  have HV := Lib.hid hV
  have HBL := Lib.hid hbl
  have BL := Lib.hid bL
  clear HG a hi hbl hV hbV bL
  go_enter Try.func35, Try.ntmps35
  go_wp2_with (go_at_call 23; fail)
  rw [HV.out]
  refine HGA.out.mono ?_
  rintro e w2 ⟨rfl, hb2⟩
  obtain ⟨V2, hV2⟩ : ∃ V2, w2.alloc (.cells s.cells 57) = V2 := ⟨_, rfl⟩
  have hb3 : Below V.heap.size V V2 := by rw [← hV2]; exact hb2.alloc hb2.size _
  have hs3 := hb3.size
  have HB2 := Lib.hid (HB.out.trans (hb3.mono (by omega)))
  have HV2 := Lib.hid hV2
  have BL2 := Lib.hid (show Boxed V2 bl 22 (.slice none 0 0) from (hb3.block bl BL.out.lt).trans BL.out)
  clear hV2 hb2 hb3 HGA hc0
  go_wp2_with (first
    | ((with_reducible show wpList _ _ _ _ _ (World.alloc _ _)); refine wpList_store_new (ty := 57) rfl rfl rfl rfl rfl (SlotV.one _) slotInfo ?_; rw [HV2.out])
    | (go_at_call 49; fail))
  refine (HW.out V2 HB2.out).mono ?_
  rintro e V5 ⟨v5, rfl, hh5⟩
  have hs5 := hh5.gr.size
  have bL5 : Boxed V5 bl 22 (.slice none 0 0) := BL2.out.kept hh5.gr (fun e => by cases e)
  have hbl0 := HBL.out
  have hbw : Below W.heap.size W V5 := HB2.out.trans (hh5.below (fun r e => by cases e) HB2.out.size)
  have hne : ∀ r, v5.ownBlock = some r → r ≠ bl := fun r e => by
    rcases hh5.lie with h | h
    · rw [h] at e; cases e
    · have := h r e; omega
  obtain ⟨A, c, rfl, hin, ha⟩ := owns_intsFrom hh5.row
  have hg := grownBy_setCell' V5 bl (.slice A L.length c)
  have hgs := hg.size
  have HIN := Lib.hid (hin.apart hg (fun a e => fun e2 => by cases e2; exact hne a.block (by rw [e]; rfl) rfl))
  have HAA := Lib.hid ha
  have HBX := Lib.hid (bL5.set (.slice A L.length c))
  have HB6 := Lib.hid (hbw.grown hg hbw.size (fun k e => by cases e; omega))
  have hc5 := bL5.cell
  have hf5 := bL5.frozen
  clear hh5 hbw hne hin ha hg bL5 HW
  go_wp2
  go_ret
  exact ⟨bl, rfl, fun n₀ => under1_seqs L A c _ bl n₀ _ ⟨by omega, by omega⟩ (fun a e => by have := HAA.out a e; exact ⟨by omega, by omega⟩) HBX.out HIN.out (by omega), HB6.out⟩
set_option maxHeartbeats 8000000 in
theorem tunder_out {i : Int} (hi : inR i = false) (W : World) (a : Ta W q g S l W) : Calls Try.prog 35 #[.pointer (some ⟨q, 0, none⟩), .int .i64 i] W (RetIt 50 [] W) := by
  obtain ⟨bl, hbl⟩ : ∃ bl, W.heap.size = bl := ⟨_, rfl⟩
  obtain ⟨V, hV⟩ : ∃ V, W.alloc (.cells #[.slice none 0 0] 22) = V := ⟨_, rfl⟩
  have hVs : V.heap.size ≤ W.heap.size + 1 ∧ W.heap.size + 1 ≤ V.heap.size := by rw [← hV]; simp
  have hbV : Below W.heap.size W V := by rw [← hV]; exact (Below.refl _ _).alloc (Nat.le_refl _) _
  have bL : Boxed V bl 22 (.slice none 0 0) := by rw [← hV, ← hbl]; exact Boxed.new W _ _
  have HA := Lib.hid (a.read hbV)
  have HG := get_gen i g V HA.out.ar
  rw [show errAt i = errno 1 from if_neg (by simp [hi])] at HG
  have HGA := Lib.hid HG
  have hc0 : (W.alloc (.cells #[.slice none 0 0] 22)).cell? ⟨q, 0, none⟩ = some (.pointer (some ⟨g, 0, none⟩)) := by rw [hV]; exact HA.out.cells.1
  have hneq : ∀ w, (binOp .eql 32 (errno 1) .nilIface).run Try.prog w = .ok (.bool false) w := fun w => by unfold errno; kernel_rfl
  have hgrd : ∀ x y w, (eqGuard .eql 32 x y (errno 1) .nilIface).run Try.prog w = .ok () w := fun x y w => by unfold errno; kernel_rfl
  generalize S.slotAt i = s at *
  have HB := Lib.hid hbV
  have HV := Lib.hid hV
  have HBL := Lib.hid hbl
  have BL := Lib.hid bL
  clear HG a hi hbl hV hbV bL
  go_enter Try.func35, Try.ntmps35
  go_wp2_with (go_at_call 23; fail)
  rw [HV.out]
  refine HGA.out.mono ?_
  rintro e w2 ⟨rfl, hb2⟩
  obtain ⟨V2, hV2⟩ : ∃ V2, w2.alloc (.cells s.cells 57) = V2 := ⟨_, rfl⟩
  have hb3 : Below V.heap.size V V2 := by rw [← hV2]; exact hb2.alloc hb2.size _
  have hs3 := hb3.size
  have HB2 := Lib.hid (HB.out.trans (hb3.mono (by omega)))
  have HV2 := Lib.hid hV2
  have BL2 := Lib.hid (show Boxed V2 bl 22 (.slice none 0 0) from (hb3.block bl BL.out.lt).trans BL.out)
  have hbl0 := HBL.out
  clear hV2 hb2 hb3 HGA hc0
  go_wp2_with (first
    | ((with_reducible show wpList _ _ _ _ _ (World.alloc _ _)); refine wpList_store_new (ty := 57) rfl rfl rfl rfl rfl (SlotV.one _) slotInfo ?_; rw [HV2.out]))
  go_ret
  exact ⟨bl, rfl, fun n₀ => under1_seqs [] none 0 V2 bl n₀ _ ⟨by omega, by omega⟩ (fun a e => by cases e) BL2.out (fun hn => by simp [natInts] at hn) (by simp), HB2.out⟩
theorem tunder_any (i : Int) (w W : World) (a : Ta w q g S l W) : Calls Try.prog 35 #[.pointer (some ⟨q, 0, none⟩), .int .i64 i] W (RetIt 50 (S.underOf i) W) := by
  unfold St.underOf
  rcases inR_cases i with hi | hi
  · rw [if_pos hi]
    have hir := inR_iff.1 hi
    obtain ⟨k, rfl⟩ : ∃ k : Nat, i = (k : Int) := ⟨i.toNat, by omega⟩
    rw [Int.toNat_natCast]
    exact tunder_in (by omega) W a.here
  · rw [if_neg (by simp [hi])]
    exact tunder_out hi W a.here
theorem underOf_len (R : St) (i : Int) : (R.underOf i).length ≤ 32 := by
  unfold St.underOf
  split
  · rename_i h
    have hir := inR_iff.1 h
    exact (undr_row R 33 i.toNat [] (by omega) RowOk.nil).1.len
  · simp
end
end Go.Proofs.Ytbidgpeeogoglaa
/-
  lineagelaw17.gone: an iterator hands out these, twice, and its first one.
-/
namespace Go.Proofs.Ytbidgpeeogoglaa
set_option maxRecDepth 100000
open Go.RowKit Go.Shelf
attribute [local go_sem] Oper.semAt_some

end Go.Proofs.Ytbidgpeeogoglaa
