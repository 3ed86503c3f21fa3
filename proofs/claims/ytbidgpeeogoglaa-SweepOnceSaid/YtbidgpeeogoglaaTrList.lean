/-
  lineagelaw17.list: what an iterator of a tree hands out.
-/
import Derived.Test.YtbidgpeeogoglaaHn
import Derived.Test.YtbidgpeeogoglaaGg
namespace Go.Proofs.Ytbidgpeeogoglaa
set_option maxRecDepth 100000
open Go.RowKit Go.Shelf
attribute [local go_sem] Oper.semAt_some

theorem lall1_eql (b : Option Addr) (w : World) : (binOp .eql 50 (.func (.func 58) #[] #[.pointer b]) .nilFunc).run Try.prog w = .ok (.bool false) w := by kernel_rfl
theorem lunder1_eql (b : Option Addr) (w : World) : (binOp .eql 50 (.func (.func 50) #[] #[.pointer b]) .nilFunc).run Try.prog w = .ok (.bool false) w := by kernel_rfl
set_option maxHeartbeats 8000000 in
theorem tlist0_any {S : St} {q g : Nat} {l : Int} (i : Int) (w : World) (a : Ta w q g S l w) : Calls Try.prog 9 #[.pointer (some ⟨q, 0, none⟩), .int .i64 0, .int .i64 i] w (RetInts (natInts (S.all l)) w) := by
  obtain ⟨ii, iz, hi, hz0, hz1, hz2, hz3⟩ := intInfo
  obtain ⟨V0, hV⟩ : ∃ V, (w.alloc (.cells #[.slice none 0 0] 22)).alloc (.cells #[.slice none 0 0] 22) = V := ⟨_, rfl⟩
  have hVs : V0.heap.size ≤ w.heap.size + 2 ∧ w.heap.size + 2 ≤ V0.heap.size := by rw [← hV]; simp
  have hbV : Below w.heap.size w V0 := by rw [← hV]; exact ((Below.refl _ _).alloc (Nat.le_refl _) _).alloc (by simp) _
  have BR0 := Lib.hid (show Boxed V0 w.heap.size 22 (.slice none 0 0) by rw [← hV]; exact (Boxed.new w _ _).alloc _)
  have BL0 := Lib.hid (show Boxed V0 (w.heap.size + 1) 22 (.slice none 0 0) by
    rw [← hV]
    have h := Boxed.new (w.alloc (.cells #[.slice none 0 0] 22)) 22 (.slice none 0 0)
    rwa [World.size_alloc] at h)
  have HA0 := Lib.hid ((a.read hbV).here)
  have HV := Lib.hid hV
  have HB0 := Lib.hid hbV
  have R1 := Lib.hid (fun W (a : Ta W q g S l W) => troots_any W W a)
  have R2 := Lib.hid (fun W (a : Ta W q g S l W) => tkids_any i W W a)
  have R3 := Lib.hid (fun W (a : Ta W q g S l W) => tunder_any i W W a)
  have hE1 := lall1_eql
  have hE2 := lunder1_eql
  have HLN := Lib.hid (show (S.all l).length ≤ 32 from all_len S l)
  generalize S.all l = xs at *
  clear hbV hV a
  refine calls_marks Try.func9 rfl ?_
  simp only [Try.ntmps9, List.size_toArray, List.length_cons, List.length_nil, Nat.reduceAdd, Nat.reduceSub, Array.replicate_succ, Array.replicate_zero, List.push_toArray, List.append_toArray, List.nil_append, List.cons_append]
  go_wp2_with (go_at_call 33; fail)
  rw [HV.out]
  refine (R1.out V0 HA0.out).mono ?_
  rintro e V1 ⟨B1, rfl, _, hb1⟩
  have hs1 := hb1.size
  have BL1 := Lib.hid (show Boxed V1 (w.heap.size + 1) 22 (.slice none 0 0) from (hb1.block (w.heap.size + 1) BL0.out.lt).trans BL0.out)
  have BR1 := Lib.hid (show Boxed V1 w.heap.size 22 (.slice none 0 0) from (hb1.block w.heap.size BR0.out.lt).trans BR0.out)
  have HA1 := Lib.hid ((HA0.out.read hb1).here)
  have HB1 := Lib.hid (HB0.out.trans (hb1.mono (by omega)))
  clear hb1 HA0 HB0 BL0 BR0
  go_wp2_with (go_at_call 34; fail)
  refine (R2.out V1 HA1.out).mono ?_
  rintro e V2 ⟨B2, rfl, _, hb2⟩
  have hs2 := hb2.size
  have BL2 := Lib.hid (show Boxed V2 (w.heap.size + 1) 22 (.slice none 0 0) from (hb2.block (w.heap.size + 1) BL1.out.lt).trans BL1.out)
  have BR2 := Lib.hid (show Boxed V2 w.heap.size 22 (.slice none 0 0) from (hb2.block w.heap.size BR1.out.lt).trans BR1.out)
  have HA2 := Lib.hid ((HA1.out.read hb2).here)
  have HB2 := Lib.hid (HB1.out.trans (hb2.mono (by omega)))
  clear hb2 HA1 HB1 BL1 BR1
  go_wp2_with (go_at_call 35; fail)
  refine (R3.out V2 HA2.out).mono ?_
  rintro e V3 ⟨B3, rfl, _, hb3⟩
  have hs3 := hb3.size
  have BL3 := Lib.hid (show Boxed V3 (w.heap.size + 1) 22 (.slice none 0 0) from (hb3.block (w.heap.size + 1) BL2.out.lt).trans BL2.out)
  have BR3 := Lib.hid (show Boxed V3 w.heap.size 22 (.slice none 0 0) from (hb3.block w.heap.size BR2.out.lt).trans BR2.out)
  have HA3 := Lib.hid ((HA2.out.read hb3).here)
  have HB3 := Lib.hid (HB2.out.trans (hb3.mono (by omega)))
  clear hb3 HA2 HB2 BL2 BR2
  go_wp2_with (go_at_call 33; fail)
  refine (R1.out V3 HA3.out).mono ?_
  rintro e V4 ⟨B4, rfl, hq, hb4⟩
  have hs4 := hb4.size
  have BL4 := Lib.hid (show Boxed V4 (w.heap.size + 1) 22 (.slice none 0 0) from (hb4.block (w.heap.size + 1) BL3.out.lt).trans BL3.out)
  have BR4 := Lib.hid (show Boxed V4 w.heap.size 22 (.slice none 0 0) from (hb4.block w.heap.size BR3.out.lt).trans BR3.out)
  have HA4 := Lib.hid ((HA3.out.read hb4).here)
  have HB4 := Lib.hid (HB3.out.trans (hb4.mono (by omega)))
  have HQ := Lib.hid (hq w.heap.size)
  clear hb4 hq HA3 HB3 BL3 BR3
  go_wp2
  have bL2 := BL4.out
  have fin : ∀ (W : World) (v : Value), Coll V4 (w.heap.size + 1) 22 (V4.heap.size + 2) 3 1 xs.length (intVs (natInts xs)) W v → W.heap[V4.heap.size]? = some (.deferred (some [])) →
      RetInts (natInts xs) w (.returned v) ((W.setCell ⟨w.heap.size, 0, none⟩ v).putObj V4.heap.size (.deferred none)) := by
    intro W v hC hK
    have hs := hC.grown.size
    have hg := grownBy_setCell' W w.heap.size v
    have hs2 := hg.size
    have hK2 := (Below.heap_setCell W ⟨w.heap.size, 0, none⟩ v V4.heap.size (by show V4.heap.size ≠ w.heap.size; omega)).trans hK
    have hr : (W.setCell ⟨w.heap.size, 0, none⟩ v).ownsRow (V4.heap.size + 2) 3 1 v xs.length (intVs (natInts xs)) := hC.row.kept hg (by
      rcases Classical.em (v.ownBlock = none) with e | e
      · exact .inl e
      · exact .inr fun e2 => by have := (hC.row.lt _ e2).1; omega)
    refine ⟨v, rfl, ?_, below_putObj ((HB4.out.trans (hC.below (by omega) (by omega))).grown hg (by omega) (fun k e => by cases e; exact Nat.le_refl _)) (by omega) _ (by omega)⟩
    rw [natInts_len]
    exact owns_lower (ownsRow_putObj hr (.deferred none) hK2 rfl) (by omega)
  refine wp_seqs rfl (enters_of Try.func58 (by kernel_rfl) rfl) HQ.out (by omega) (fun k hk => by omega) (Below.refl _ _) (fun _ => rfl)
    (fun pre W => ∃ v, Coll V4 (w.heap.size + 1) 22 (V4.heap.size + 2) 3 1 pre.length (intVs (natInts pre)) W v)
    (fun cd pre W => False)
    (Zone.coll (by omega) (by omega) (Nat.le_refl _) (fun pre => pre.length) (fun pre => intVs (natInts pre)))
    (fun cd => Zone.none)
    ⟨_, Coll.start bL2 _ _ _⟩ ?round ?done ?stop
  case stop =>
    rintro cd pre W hpre hf hK
    exact hf.elim
  case round =>
    intro l2 pre i V0 hpre
    simp only [natV]
    gi_wp2
    refine ⟨by trivial, fun W1 hsz1 ⟨v, hC⟩ => ?_⟩
    have hc1 := hC.box.cell
    obtain ⟨Av, cp, rfl⟩ := owns_slice hC.row
    have hpl := hpre.length_le
    rw [List.length_append] at hpl
    have h1 : pre.length + (0 + 1) ≤ maxLen := by unfold maxLen; have := HLN.out; simp at hpl; omega
    have h2 : (pre.length + (0 + 1)) * 8 ≤ 140737488355328 := by have := HLN.out; simp at hpl; omega
    have h3 : ¬ (64 : Int) < ((pre.length : Int) + 1) := by have := HLN.out; simp at hpl; omega
    have H1 := Lib.hid h1
    have H2 := Lib.hid h2
    clear h1 h2 hpl
    gi_wp2_with (gi_at_builtin; refine wpListIn_append_new (v := .slice Av pre.length cp) rfl _ _ 22 rfl Try.underlying22 hi hz0 hz1 hz2 hz3 (by decide) rfl hC.row 0 rfl rfl (int_one _) H1.out H2.out hsz1 ?_; intro g' cap' w1 hown1 hgr1; obtain ⟨hv1, hC2, hk2⟩ := hC.step (by omega) (by omega) hsz1 hown1 hgr1; have hc2 := hv1.cell; have hf2 := hv1.frozen; have hc3 := hC2.box.cell)
    exact ⟨hk2 _ _ _ _ _ (by omega) (by rintro ⟨h1, h2⟩; omega) (fun k hk => by rintro ⟨h1, h2⟩; omega) (by omega) (by omega), _, by rw [natInts_snoc, List.length_append]; exact hC2⟩
  case done =>
    rintro W ⟨v, hC⟩ hK
    have hc1 := hC.box.cell
    have hgs := hC.grown.size
    have b0 : Boxed W w.heap.size 22 (.slice none 0 0) := (hC.grown.block w.heap.size (by omega) (by simp)).trans BR4.out
    have f0 := b0.frozen
    have d0 := b0.cell
    have hK2 := (Below.heap_setCell W ⟨w.heap.size, 0, none⟩ v V4.heap.size (by show V4.heap.size ≠ w.heap.size; omega)).trans hK
    have h2 := ((b0.set v).cell)
    obtain ⟨Av, cp, hv⟩ := owns_slice hC.row
    subst hv
    go_wp2
    refine ⟨by simp, .inl ⟨_, _, rfl, run_takeDeferred hK2, ?_⟩⟩
    have h3 := (World.cell?_of_block (a := ⟨w.heap.size, 0, none⟩) (show ((W.setCell ⟨w.heap.size, 0, none⟩ (.slice Av xs.length cp)).putObj V4.heap.size (.deferred none)).heap[w.heap.size]? = _ from World.putObj_heap_other (by omega))).trans h2
    refine ⟨_, by simp [results, Try.results9, go_sem, h3]; rfl, ?_⟩
    exact fin W _ hC hK
set_option maxHeartbeats 8000000 in
theorem tlist1_any {S : St} {q g : Nat} {l : Int} (i : Int) (w : World) (a : Ta w q g S l w) : Calls Try.prog 9 #[.pointer (some ⟨q, 0, none⟩), .int .i64 1, .int .i64 i] w (RetInts (natInts (S.kidsOf i)) w) := by
  obtain ⟨ii, iz, hi, hz0, hz1, hz2, hz3⟩ := intInfo
  obtain ⟨V0, hV⟩ : ∃ V, (w.alloc (.cells #[.slice none 0 0] 22)).alloc (.cells #[.slice none 0 0] 22) = V := ⟨_, rfl⟩
  have hVs : V0.heap.size ≤ w.heap.size + 2 ∧ w.heap.size + 2 ≤ V0.heap.size := by rw [← hV]; simp
  have hbV : Below w.heap.size w V0 := by rw [← hV]; exact ((Below.refl _ _).alloc (Nat.le_refl _) _).alloc (by simp) _
  have BR0 := Lib.hid (show Boxed V0 w.heap.size 22 (.slice none 0 0) by rw [← hV]; exact (Boxed.new w _ _).alloc _)
  have BL0 := Lib.hid (show Boxed V0 (w.heap.size + 1) 22 (.slice none 0 0) by
    rw [← hV]
    have h := Boxed.new (w.alloc (.cells #[.slice none 0 0] 22)) 22 (.slice none 0 0)
    rwa [World.size_alloc] at h)
  have HA0 := Lib.hid ((a.read hbV).here)
  have HV := Lib.hid hV
  have HB0 := Lib.hid hbV
  have R1 := Lib.hid (fun W (a : Ta W q g S l W) => troots_any W W a)
  have R2 := Lib.hid (fun W (a : Ta W q g S l W) => tkids_any i W W a)
  have R3 := Lib.hid (fun W (a : Ta W q g S l W) => tunder_any i W W a)
  have hE1 := lall1_eql
  have hE2 := lunder1_eql
  have HLN := Lib.hid (show (S.kidsOf i).length ≤ 32 from kidsOf_len S i)
  generalize S.kidsOf i = xs at *
  clear hbV hV a
  refine calls_marks Try.func9 rfl ?_
  simp only [Try.ntmps9, List.size_toArray, List.length_cons, List.length_nil, Nat.reduceAdd, Nat.reduceSub, Array.replicate_succ, Array.replicate_zero, List.push_toArray, List.append_toArray, List.nil_append, List.cons_append]
  go_wp2_with (go_at_call 33; fail)
  rw [HV.out]
  refine (R1.out V0 HA0.out).mono ?_
  rintro e V1 ⟨B1, rfl, _, hb1⟩
  have hs1 := hb1.size
  have BL1 := Lib.hid (show Boxed V1 (w.heap.size + 1) 22 (.slice none 0 0) from (hb1.block (w.heap.size + 1) BL0.out.lt).trans BL0.out)
  have BR1 := Lib.hid (show Boxed V1 w.heap.size 22 (.slice none 0 0) from (hb1.block w.heap.size BR0.out.lt).trans BR0.out)
  have HA1 := Lib.hid ((HA0.out.read hb1).here)
  have HB1 := Lib.hid (HB0.out.trans (hb1.mono (by omega)))
  clear hb1 HA0 HB0 BL0 BR0
  go_wp2_with (go_at_call 34; fail)
  refine (R2.out V1 HA1.out).mono ?_
  rintro e V2 ⟨B2, rfl, _, hb2⟩
  have hs2 := hb2.size
  have BL2 := Lib.hid (show Boxed V2 (w.heap.size + 1) 22 (.slice none 0 0) from (hb2.block (w.heap.size + 1) BL1.out.lt).trans BL1.out)
  have BR2 := Lib.hid (show Boxed V2 w.heap.size 22 (.slice none 0 0) from (hb2.block w.heap.size BR1.out.lt).trans BR1.out)
  have HA2 := Lib.hid ((HA1.out.read hb2).here)
  have HB2 := Lib.hid (HB1.out.trans (hb2.mono (by omega)))
  clear hb2 HA1 HB1 BL1 BR1
  go_wp2_with (go_at_call 35; fail)
  refine (R3.out V2 HA2.out).mono ?_
  rintro e V3 ⟨B3, rfl, _, hb3⟩
  have hs3 := hb3.size
  have BL3 := Lib.hid (show Boxed V3 (w.heap.size + 1) 22 (.slice none 0 0) from (hb3.block (w.heap.size + 1) BL2.out.lt).trans BL2.out)
  have BR3 := Lib.hid (show Boxed V3 w.heap.size 22 (.slice none 0 0) from (hb3.block w.heap.size BR2.out.lt).trans BR2.out)
  have HA3 := Lib.hid ((HA2.out.read hb3).here)
  have HB3 := Lib.hid (HB2.out.trans (hb3.mono (by omega)))
  clear hb3 HA2 HB2 BL2 BR2
  go_wp2_with (go_at_call 34; fail)
  refine (R2.out V3 HA3.out).mono ?_
  rintro e V4 ⟨B4, rfl, hq, hb4⟩
  have hs4 := hb4.size
  have BL4 := Lib.hid (show Boxed V4 (w.heap.size + 1) 22 (.slice none 0 0) from (hb4.block (w.heap.size + 1) BL3.out.lt).trans BL3.out)
  have BR4 := Lib.hid (show Boxed V4 w.heap.size 22 (.slice none 0 0) from (hb4.block w.heap.size BR3.out.lt).trans BR3.out)
  have HA4 := Lib.hid ((HA3.out.read hb4).here)
  have HB4 := Lib.hid (HB3.out.trans (hb4.mono (by omega)))
  have HQ := Lib.hid (hq w.heap.size)
  clear hb4 hq HA3 HB3 BL3 BR3
  go_wp2
  have bL2 := BL4.out
  have fin : ∀ (W : World) (v : Value), Coll V4 (w.heap.size + 1) 22 (V4.heap.size + 2) 3 1 xs.length (intVs (natInts xs)) W v → W.heap[V4.heap.size]? = some (.deferred (some [])) →
      RetInts (natInts xs) w (.returned v) ((W.setCell ⟨w.heap.size, 0, none⟩ v).putObj V4.heap.size (.deferred none)) := by
    intro W v hC hK
    have hs := hC.grown.size
    have hg := grownBy_setCell' W w.heap.size v
    have hs2 := hg.size
    have hK2 := (Below.heap_setCell W ⟨w.heap.size, 0, none⟩ v V4.heap.size (by show V4.heap.size ≠ w.heap.size; omega)).trans hK
    have hr : (W.setCell ⟨w.heap.size, 0, none⟩ v).ownsRow (V4.heap.size + 2) 3 1 v xs.length (intVs (natInts xs)) := hC.row.kept hg (by
      rcases Classical.em (v.ownBlock = none) with e | e
      · exact .inl e
      · exact .inr fun e2 => by have := (hC.row.lt _ e2).1; omega)
    refine ⟨v, rfl, ?_, below_putObj ((HB4.out.trans (hC.below (by omega) (by omega))).grown hg (by omega) (fun k e => by cases e; exact Nat.le_refl _)) (by omega) _ (by omega)⟩
    rw [natInts_len]
    exact owns_lower (ownsRow_putObj hr (.deferred none) hK2 rfl) (by omega)
  refine wp_seqs rfl (enters_of Try.func58 (by kernel_rfl) rfl) HQ.out (by omega) (fun k hk => by omega) (Below.refl _ _) (fun _ => rfl)
    (fun pre W => ∃ v, Coll V4 (w.heap.size + 1) 22 (V4.heap.size + 2) 3 1 pre.length (intVs (natInts pre)) W v)
    (fun cd pre W => False)
    (Zone.coll (by omega) (by omega) (Nat.le_refl _) (fun pre => pre.length) (fun pre => intVs (natInts pre)))
    (fun cd => Zone.none)
    ⟨_, Coll.start bL2 _ _ _⟩ ?round ?done ?stop
  case stop =>
    rintro cd pre W hpre hf hK
    exact hf.elim
  case round =>
    intro l2 pre i V0 hpre
    simp only [natV]
    gi_wp2
    refine ⟨by trivial, fun W1 hsz1 ⟨v, hC⟩ => ?_⟩
    have hc1 := hC.box.cell
    obtain ⟨Av, cp, rfl⟩ := owns_slice hC.row
    have hpl := hpre.length_le
    rw [List.length_append] at hpl
    have h1 : pre.length + (0 + 1) ≤ maxLen := by unfold maxLen; have := HLN.out; simp at hpl; omega
    have h2 : (pre.length + (0 + 1)) * 8 ≤ 140737488355328 := by have := HLN.out; simp at hpl; omega
    have h3 : ¬ (64 : Int) < ((pre.length : Int) + 1) := by have := HLN.out; simp at hpl; omega
    have H1 := Lib.hid h1
    have H2 := Lib.hid h2
    clear h1 h2 hpl
    gi_wp2_with (gi_at_builtin; refine wpListIn_append_new (v := .slice Av pre.length cp) rfl _ _ 22 rfl Try.underlying22 hi hz0 hz1 hz2 hz3 (by decide) rfl hC.row 0 rfl rfl (int_one _) H1.out H2.out hsz1 ?_; intro g' cap' w1 hown1 hgr1; obtain ⟨hv1, hC2, hk2⟩ := hC.step (by omega) (by omega) hsz1 hown1 hgr1; have hc2 := hv1.cell; have hf2 := hv1.frozen; have hc3 := hC2.box.cell)
    exact ⟨hk2 _ _ _ _ _ (by omega) (by rintro ⟨h1, h2⟩; omega) (fun k hk => by rintro ⟨h1, h2⟩; omega) (by omega) (by omega), _, by rw [natInts_snoc, List.length_append]; exact hC2⟩
  case done =>
    rintro W ⟨v, hC⟩ hK
    have hc1 := hC.box.cell
    have hgs := hC.grown.size
    have b0 : Boxed W w.heap.size 22 (.slice none 0 0) := (hC.grown.block w.heap.size (by omega) (by simp)).trans BR4.out
    have f0 := b0.frozen
    have d0 := b0.cell
    have hK2 := (Below.heap_setCell W ⟨w.heap.size, 0, none⟩ v V4.heap.size (by show V4.heap.size ≠ w.heap.size; omega)).trans hK
    have h2 := ((b0.set v).cell)
    obtain ⟨Av, cp, hv⟩ := owns_slice hC.row
    subst hv
    go_wp2
    refine ⟨by simp, .inl ⟨_, _, rfl, run_takeDeferred hK2, ?_⟩⟩
    have h3 := (World.cell?_of_block (a := ⟨w.heap.size, 0, none⟩) (show ((W.setCell ⟨w.heap.size, 0, none⟩ (.slice Av xs.length cp)).putObj V4.heap.size (.deferred none)).heap[w.heap.size]? = _ from World.putObj_heap_other (by omega))).trans h2
    refine ⟨_, by simp [results, Try.results9, go_sem, h3]; rfl, ?_⟩
    exact fin W _ hC hK
set_option maxHeartbeats 8000000 in
theorem tlist2_any {S : St} {q g : Nat} {l : Int} (i : Int) (w : World) (a : Ta w q g S l w) : Calls Try.prog 9 #[.pointer (some ⟨q, 0, none⟩), .int .i64 2, .int .i64 i] w (RetInts (natInts (S.underOf i)) w) := by
  obtain ⟨ii, iz, hi, hz0, hz1, hz2, hz3⟩ := intInfo
  obtain ⟨V0, hV⟩ : ∃ V, (w.alloc (.cells #[.slice none 0 0] 22)).alloc (.cells #[.slice none 0 0] 22) = V := ⟨_, rfl⟩
  have hVs : V0.heap.size ≤ w.heap.size + 2 ∧ w.heap.size + 2 ≤ V0.heap.size := by rw [← hV]; simp
  have hbV : Below w.heap.size w V0 := by rw [← hV]; exact ((Below.refl _ _).alloc (Nat.le_refl _) _).alloc (by simp) _
  have BR0 := Lib.hid (show Boxed V0 w.heap.size 22 (.slice none 0 0) by rw [← hV]; exact (Boxed.new w _ _).alloc _)
  have BL0 := Lib.hid (show Boxed V0 (w.heap.size + 1) 22 (.slice none 0 0) by
    rw [← hV]
    have h := Boxed.new (w.alloc (.cells #[.slice none 0 0] 22)) 22 (.slice none 0 0)
    rwa [World.size_alloc] at h)
  have HA0 := Lib.hid ((a.read hbV).here)
  have HV := Lib.hid hV
  have HB0 := Lib.hid hbV
  have R1 := Lib.hid (fun W (a : Ta W q g S l W) => troots_any W W a)
  have R2 := Lib.hid (fun W (a : Ta W q g S l W) => tkids_any i W W a)
  have R3 := Lib.hid (fun W (a : Ta W q g S l W) => tunder_any i W W a)
  have hE1 := lall1_eql
  have hE2 := lunder1_eql
  have HLN := Lib.hid (show (S.underOf i).length ≤ 32 from underOf_len S i)
  generalize S.underOf i = xs at *
  clear hbV hV a
  refine calls_marks Try.func9 rfl ?_
  simp only [Try.ntmps9, List.size_toArray, List.length_cons, List.length_nil, Nat.reduceAdd, Nat.reduceSub, Array.replicate_succ, Array.replicate_zero, List.push_toArray, List.append_toArray, List.nil_append, List.cons_append]
  go_wp2_with (go_at_call 33; fail)
  rw [HV.out]
  refine (R1.out V0 HA0.out).mono ?_
  rintro e V1 ⟨B1, rfl, _, hb1⟩
  have hs1 := hb1.size
  have BL1 := Lib.hid (show Boxed V1 (w.heap.size + 1) 22 (.slice none 0 0) from (hb1.block (w.heap.size + 1) BL0.out.lt).trans BL0.out)
  have BR1 := Lib.hid (show Boxed V1 w.heap.size 22 (.slice none 0 0) from (hb1.block w.heap.size BR0.out.lt).trans BR0.out)
  have HA1 := Lib.hid ((HA0.out.read hb1).here)
  have HB1 := Lib.hid (HB0.out.trans (hb1.mono (by omega)))
  clear hb1 HA0 HB0 BL0 BR0
  go_wp2_with (go_at_call 34; fail)
  refine (R2.out V1 HA1.out).mono ?_
  rintro e V2 ⟨B2, rfl, _, hb2⟩
  have hs2 := hb2.size
  have BL2 := Lib.hid (show Boxed V2 (w.heap.size + 1) 22 (.slice none 0 0) from (hb2.block (w.heap.size + 1) BL1.out.lt).trans BL1.out)
  have BR2 := Lib.hid (show Boxed V2 w.heap.size 22 (.slice none 0 0) from (hb2.block w.heap.size BR1.out.lt).trans BR1.out)
  have HA2 := Lib.hid ((HA1.out.read hb2).here)
  have HB2 := Lib.hid (HB1.out.trans (hb2.mono (by omega)))
  clear hb2 HA1 HB1 BL1 BR1
  go_wp2_with (go_at_call 35; fail)
  refine (R3.out V2 HA2.out).mono ?_
  rintro e V3 ⟨B3, rfl, _, hb3⟩
  have hs3 := hb3.size
  have BL3 := Lib.hid (show Boxed V3 (w.heap.size + 1) 22 (.slice none 0 0) from (hb3.block (w.heap.size + 1) BL2.out.lt).trans BL2.out)
  have BR3 := Lib.hid (show Boxed V3 w.heap.size 22 (.slice none 0 0) from (hb3.block w.heap.size BR2.out.lt).trans BR2.out)
  have HA3 := Lib.hid ((HA2.out.read hb3).here)
  have HB3 := Lib.hid (HB2.out.trans (hb3.mono (by omega)))
  clear hb3 HA2 HB2 BL2 BR2
  go_wp2_with (go_at_call 35; fail)
  refine (R3.out V3 HA3.out).mono ?_
  rintro e V4 ⟨B4, rfl, hq, hb4⟩
  have hs4 := hb4.size
  have BL4 := Lib.hid (show Boxed V4 (w.heap.size + 1) 22 (.slice none 0 0) from (hb4.block (w.heap.size + 1) BL3.out.lt).trans BL3.out)
  have BR4 := Lib.hid (show Boxed V4 w.heap.size 22 (.slice none 0 0) from (hb4.block w.heap.size BR3.out.lt).trans BR3.out)
  have HA4 := Lib.hid ((HA3.out.read hb4).here)
  have HB4 := Lib.hid (HB3.out.trans (hb4.mono (by omega)))
  have HQ := Lib.hid (hq w.heap.size)
  clear hb4 hq HA3 HB3 BL3 BR3
  go_wp2
  have bL2 := BL4.out
  have fin : ∀ (W : World) (v : Value), Coll V4 (w.heap.size + 1) 22 (V4.heap.size + 2) 3 1 xs.length (intVs (natInts xs)) W v → W.heap[V4.heap.size]? = some (.deferred (some [])) →
      RetInts (natInts xs) w (.returned v) ((W.setCell ⟨w.heap.size, 0, none⟩ v).putObj V4.heap.size (.deferred none)) := by
    intro W v hC hK
    have hs := hC.grown.size
    have hg := grownBy_setCell' W w.heap.size v
    have hs2 := hg.size
    have hK2 := (Below.heap_setCell W ⟨w.heap.size, 0, none⟩ v V4.heap.size (by show V4.heap.size ≠ w.heap.size; omega)).trans hK
    have hr : (W.setCell ⟨w.heap.size, 0, none⟩ v).ownsRow (V4.heap.size + 2) 3 1 v xs.length (intVs (natInts xs)) := hC.row.kept hg (by
      rcases Classical.em (v.ownBlock = none) with e | e
      · exact .inl e
      · exact .inr fun e2 => by have := (hC.row.lt _ e2).1; omega)
    refine ⟨v, rfl, ?_, below_putObj ((HB4.out.trans (hC.below (by omega) (by omega))).grown hg (by omega) (fun k e => by cases e; exact Nat.le_refl _)) (by omega) _ (by omega)⟩
    rw [natInts_len]
    exact owns_lower (ownsRow_putObj hr (.deferred none) hK2 rfl) (by omega)
  refine wp_seqs rfl (enters_of Try.func50 (by kernel_rfl) rfl) HQ.out (by omega) (fun k hk => by omega) (Below.refl _ _) (fun _ => rfl)
    (fun pre W => ∃ v, Coll V4 (w.heap.size + 1) 22 (V4.heap.size + 2) 3 1 pre.length (intVs (natInts pre)) W v)
    (fun cd pre W => False)
    (Zone.coll (by omega) (by omega) (Nat.le_refl _) (fun pre => pre.length) (fun pre => intVs (natInts pre)))
    (fun cd => Zone.none)
    ⟨_, Coll.start bL2 _ _ _⟩ ?round ?done ?stop
  case stop =>
    rintro cd pre W hpre hf hK
    exact hf.elim
  case round =>
    intro l2 pre i V0 hpre
    simp only [natV]
    gi_wp2
    refine ⟨by trivial, fun W1 hsz1 ⟨v, hC⟩ => ?_⟩
    have hc1 := hC.box.cell
    obtain ⟨Av, cp, rfl⟩ := owns_slice hC.row
    have hpl := hpre.length_le
    rw [List.length_append] at hpl
    have h1 : pre.length + (0 + 1) ≤ maxLen := by unfold maxLen; have := HLN.out; simp at hpl; omega
    have h2 : (pre.length + (0 + 1)) * 8 ≤ 140737488355328 := by have := HLN.out; simp at hpl; omega
    have h3 : ¬ (64 : Int) < ((pre.length : Int) + 1) := by have := HLN.out; simp at hpl; omega
    have H1 := Lib.hid h1
    have H2 := Lib.hid h2
    clear h1 h2 hpl
    gi_wp2_with (gi_at_builtin; refine wpListIn_append_new (v := .slice Av pre.length cp) rfl _ _ 22 rfl Try.underlying22 hi hz0 hz1 hz2 hz3 (by decide) rfl hC.row 0 rfl rfl (int_one _) H1.out H2.out hsz1 ?_; intro g' cap' w1 hown1 hgr1; obtain ⟨hv1, hC2, hk2⟩ := hC.step (by omega) (by omega) hsz1 hown1 hgr1; have hc2 := hv1.cell; have hf2 := hv1.frozen; have hc3 := hC2.box.cell)
    exact ⟨hk2 _ _ _ _ _ (by omega) (by rintro ⟨h1, h2⟩; omega) (fun k hk => by rintro ⟨h1, h2⟩; omega) (by omega) (by omega), _, by rw [natInts_snoc, List.length_append]; exact hC2⟩
  case done =>
    rintro W ⟨v, hC⟩ hK
    have hc1 := hC.box.cell
    have hgs := hC.grown.size
    have b0 : Boxed W w.heap.size 22 (.slice none 0 0) := (hC.grown.block w.heap.size (by omega) (by simp)).trans BR4.out
    have f0 := b0.frozen
    have d0 := b0.cell
    have hK2 := (Below.heap_setCell W ⟨w.heap.size, 0, none⟩ v V4.heap.size (by show V4.heap.size ≠ w.heap.size; omega)).trans hK
    have h2 := ((b0.set v).cell)
    obtain ⟨Av, cp, hv⟩ := owns_slice hC.row
    subst hv
    go_wp2
    refine ⟨by simp, .inl ⟨_, _, rfl, run_takeDeferred hK2, ?_⟩⟩
    have h3 := (World.cell?_of_block (a := ⟨w.heap.size, 0, none⟩) (show ((W.setCell ⟨w.heap.size, 0, none⟩ (.slice Av xs.length cp)).putObj V4.heap.size (.deferred none)).heap[w.heap.size]? = _ from World.putObj_heap_other (by omega))).trans h2
    refine ⟨_, by simp [results, Try.results9, go_sem, h3]; rfl, ?_⟩
    exact fin W _ hC hK
end Go.Proofs.Ytbidgpeeogoglaa
