/-
  lineagelaw19: all, same.
-/
import Derived.Test.YtbidgpeeogoglaaDoorSwAll
import Derived.Test.YtbidgpeeogoglaaDoorGg
import Derived.Test.YtbidgpeeogoglaaDoorGb
namespace Go.Proofs.YtbidgpeeogoglaaDoor
set_option maxRecDepth 100000
open Go.RowKit Go.Shelf Go.Sort
attribute [local go_sem] Oper.semAt_some

theorem vals_eql (b : Option Addr) (w : World) : (binOp .eql 43 (.func (.func 116) #[] #[.pointer b]) .nilFunc).run Tryd.prog w = .ok (.bool false) w := by kernel_rfl
set_option maxHeartbeats 8000000 in
theorem sall_any {S : St} {q g : Nat} {l : Int} (w : World) (a : Ga w q g S l w) : Calls Tryd.prog 39 #[.pointer (some ⟨q, 0, none⟩)] w (RetInts (natInts (S.swAll l)) w) := by
  obtain ⟨ii, iz, hi, hz0, hz1, hz2, hz3⟩ := intInfo
  obtain ⟨V, hV⟩ : ∃ V, (w.alloc (.cells #[.slice none 0 0] 46)).alloc (.cells #[.slice none 0 0] 46) = V := ⟨_, rfl⟩
  have hVs : V.heap.size ≤ w.heap.size + 2 ∧ w.heap.size + 2 ≤ V.heap.size := by rw [← hV]; simp
  have hbV : Below w.heap.size w V := by rw [← hV]; exact ((Below.refl _ _).alloc (Nat.le_refl _) _).alloc (by simp) _
  have bL0 : Boxed V w.heap.size 46 (.slice none 0 0) := by rw [← hV]; exact (Boxed.new w _ _).alloc _
  have bL : Boxed V (w.heap.size + 1) 46 (.slice none 0 0) := by
    rw [← hV]
    have h := Boxed.new (w.alloc (.cells #[.slice none 0 0] 46)) 46 (.slice none 0 0)
    rwa [World.size_alloc] at h
  have BL0 := Lib.hid bL0
  have HAV := Lib.hid (a.read hbV)
  have BL := Lib.hid bL
  have HV := Lib.hid hV
  have HBV := Lib.hid hbV
  have HLEN := Lib.hid (swIt_len S l 32)
  have hE := vals_eql
  have hlen32 : (S.swAll l).length ≤ 32 := swIt_len S l 32
  obtain ⟨xs, hxs⟩ : ∃ xs, S.swAll l = xs := ⟨_, rfl⟩
  have HXS := Lib.hid hxs
  rw [hxs] at hlen32 ⊢
  have HLN := Lib.hid hlen32
  clear bL bL0 hbV hV hxs a HLEN hlen32
  refine calls_marks Tryd.func39 rfl ?_
  simp only [Tryd.ntmps39, List.size_toArray, List.length_cons, List.length_nil, Nat.reduceAdd, Nat.reduceSub, Array.replicate_succ, Array.replicate_zero, List.push_toArray, List.append_toArray, List.nil_append, List.cons_append]
  go_wp2_with (go_at_call 72; fail)
  rw [HV.out]
  refine (gall_any _ V HAV.out).mono ?_
  rintro e V1 ⟨B1, rfl, _, hb1⟩
  have hs1 := hb1.size
  have BL1 := Lib.hid (show Boxed V1 (w.heap.size + 1) 46 (.slice none 0 0) from (hb1.block (w.heap.size + 1) BL.out.lt).trans BL.out)
  have BL01 := Lib.hid (show Boxed V1 w.heap.size 46 (.slice none 0 0) from (hb1.block w.heap.size BL0.out.lt).trans BL0.out)
  have HA1 := Lib.hid (HAV.out.read hb1)
  have HB1 := Lib.hid (HBV.out.trans (hb1.mono (by omega)))
  clear hb1 HAV HBV BL BL0
  go_wp2_with (go_at_call 72; fail)
  refine (gall_any _ V1 HA1.out).mono ?_
  rintro e V2 ⟨B, rfl, hq, hb2⟩
  have hs2 := hb2.size
  have bL2 : Boxed V2 (w.heap.size + 1) 46 (.slice none 0 0) := (hb2.block (w.heap.size + 1) BL1.out.lt).trans BL1.out
  have BL02 := Lib.hid (show Boxed V2 w.heap.size 46 (.slice none 0 0) from (hb2.block w.heap.size BL01.out.lt).trans BL01.out)
  have HB2 := Lib.hid (HB1.out.trans (hb2.mono (by omega)))
  have HQ := Lib.hid (hq w.heap.size)
  rw [HXS.out] at HQ
  clear hq hb2 HB1 HA1 BL1 BL01
  go_wp2
  have fin : ∀ (W : World) (v : Value), Coll V2 (w.heap.size + 1) 46 (V2.heap.size + 2) 3 1 xs.length (intVs (natInts xs)) W v → W.heap[V2.heap.size]? = some (.deferred (some [])) →
      RetInts (natInts xs) w (.returned v) ((W.setCell ⟨w.heap.size, 0, none⟩ v).putObj V2.heap.size (.deferred none)) := by
    intro W v hC hK
    have hs := hC.grown.size
    have hg := grownBy_setCell' W w.heap.size v
    have hs2 := hg.size
    have hK2 := (Below.heap_setCell W ⟨w.heap.size, 0, none⟩ v V2.heap.size (by show V2.heap.size ≠ w.heap.size; omega)).trans hK
    have hr : (W.setCell ⟨w.heap.size, 0, none⟩ v).ownsRow (V2.heap.size + 2) 3 1 v xs.length (intVs (natInts xs)) := hC.row.kept hg (by
      rcases Classical.em (v.ownBlock = none) with e | e
      · exact .inl e
      · exact .inr fun e2 => by have := (hC.row.lt _ e2).1; omega)
    refine ⟨v, rfl, ?_, below_putObj ((HB2.out.trans (hC.below (by omega) (by omega))).grown hg (by omega) (fun k e => by cases e; exact Nat.le_refl _)) (by omega) _ (by omega)⟩
    rw [natInts_len]
    exact owns_lower (ownsRow_putObj hr (.deferred none) hK2 rfl) (by omega)
  refine wp_seqs rfl (enters_of Tryd.func116 (by kernel_rfl) rfl) HQ.out (by omega) (fun k hk => by omega) (Below.refl _ _) (fun _ => rfl)
    (fun pre W => ∃ v, Coll V2 (w.heap.size + 1) 46 (V2.heap.size + 2) 3 1 pre.length (intVs (natInts pre)) W v)
    (fun cd pre W => False)
    (Zone.coll (by omega) (by omega) (Nat.le_refl _) (fun pre => pre.length) (fun pre => intVs (natInts pre)))
    (fun cd => Zone.none)
    ⟨_, Coll.start bL2 _ _ _⟩ ?round ?done ?stop
  case stop =>
    rintro cd pre W hpre hf hK
    exact hf.elim
  case round =>
    intro l2 pre i V0 hpre
    simp only [natV]
    gi_wp2
    refine ⟨by trivial, fun W1 hsz1 ⟨v, hC⟩ => ?_⟩
    have hc1 := hC.box.cell
    obtain ⟨Av, cp, rfl⟩ := owns_slice hC.row
    have hpl := hpre.length_le
    rw [List.length_append] at hpl
    have h1 : pre.length + (0 + 1) ≤ maxLen := by unfold maxLen; have := HLN.out; simp at hpl; omega
    have h2 : (pre.length + (0 + 1)) * 8 ≤ 140737488355328 := by have := HLN.out; simp at hpl; omega
    have h3 : ¬ (64 : Int) < ((pre.length : Int) + 1) := by have := HLN.out; simp at hpl; omega
    have H1 := Lib.hid h1
    have H2 := Lib.hid h2
    clear h1 h2 hpl
    gi_wp2_with (gi_at_builtin; refine wpListIn_append_new (v := .slice Av pre.length cp) rfl _ _ 46 rfl Tryd.underlying46 hi hz0 hz1 hz2 hz3 (by decide) rfl hC.row 0 rfl rfl (int_one _) H1.out H2.out hsz1 ?_; intro g' cap' w1 hown1 hgr1; obtain ⟨hv1, hC2, hk2⟩ := hC.step (by omega) (by omega) hsz1 hown1 hgr1; have hc2 := hv1.cell; have hf2 := hv1.frozen; have hc3 := hC2.box.cell)
    exact ⟨hk2 _ _ _ _ _ (by omega) (by rintro ⟨h1, h2⟩; omega) (fun k hk => by rintro ⟨h1, h2⟩; omega) (by omega) (by omega), _, by rw [natInts_snoc, List.length_append]; exact hC2⟩
  case done =>
    rintro W ⟨v, hC⟩ hK
    have hc1 := hC.box.cell
    have hgs := hC.grown.size
    have b0 : Boxed W w.heap.size 46 (.slice none 0 0) := (hC.grown.block w.heap.size (by omega) (by simp)).trans BL02.out
    have f0 := b0.frozen
    have d0 := b0.cell
    have hK2 := (Below.heap_setCell W ⟨w.heap.size, 0, none⟩ v V2.heap.size (by show V2.heap.size ≠ w.heap.size; omega)).trans hK
    have h2 := ((b0.set v).cell)
    obtain ⟨Av, cp, hv⟩ := owns_slice hC.row
    subst hv
    go_wp2
    refine ⟨by simp, .inl ⟨_, _, rfl, run_takeDeferred hK2, ?_⟩⟩
    have h3 := (World.cell?_of_block (a := ⟨w.heap.size, 0, none⟩) (show ((W.setCell ⟨w.heap.size, 0, none⟩ (.slice Av xs.length cp)).putObj V2.heap.size (.deferred none)).heap[w.heap.size]? = _ from World.putObj_heap_other (by omega))).trans h2
    refine ⟨_, by simp [results, Tryd.results39, go_sem, h3]; rfl, ?_⟩
    exact fin W _ hC hK
theorem frees_eql19 (b : Option Addr) (w : World) : (binOp .eql 43 (.func (.func 76) #[] #[.pointer b]) .nilFunc).run Tryd.prog w = .ok (.bool false) w := by kernel_rfl
set_option maxHeartbeats 8000000 in
theorem same19_any {S R : St} {lo h b g : Nat} (w : World) (hA : IsAr w g S) (hR : IsRB lo h b R w) (hag : Agree S R) : Calls Tryd.prog 38 #[.pointer (some ⟨g, 0, none⟩), .pointer (some ⟨h, 0, none⟩)] w (RetB (.bool true) w) := by
  obtain ⟨ii, iz, hi, hz0, hz1, hz2, hz3⟩ := intInfo
  have HU := Lib.hid Tryd.underlying39
  have hfl : S.free.length ≤ 32 := nodup_len 32 _ hA.nodup hA.free_lt
  have HFL := Lib.hid hfl
  have HA := Lib.hid hA
  have HR := Lib.hid hR
  have HG := Lib.hid hag
  have hgw := hA.lt
  have hnil : (binOp .neq 55 .nilIface .nilIface).run Tryd.prog w = .ok (.bool false) w := by kernel_rfl
  clear hA hR hag hfl
  refine calls_marks Tryd.func38 rfl ?_
  simp only [Tryd.ntmps38, List.size_toArray, List.length_cons, List.length_nil, Nat.reduceAdd, Nat.reduceSub, Array.replicate_succ, Array.replicate_zero, List.push_toArray, List.append_toArray, List.nil_append, List.cons_append]
  go_wp2
  go_loopw [5] (fun i wr => ∃ k : Nat, k ≤ 32 ∧ i = .int .i64 k ∧ Below w.heap.size w wr) (fun i _ => 32 - (intOf i).toNat)
  case atStart => exact ⟨0, by omega, rfl, Below.refl _ _⟩
  case round =>
    obtain ⟨k, hk, rfl, hb⟩ := hrel
    have HB := Lib.hid hb
    by_cases hlt : k < 32
    · have hki : (k : Int) < 32 := by omega
      have hk0 : (0 : Int) ≤ (k : Int) := by omega
      obtain ⟨s, hs⟩ := slot_of HG.out.len hlt
      have hsR : R.slots[k]? = some s := by rw [← HG.out.slots]; exact hs
      have HGA := Lib.hid (get_st hlt hs g wr (HA.out.below hb HA.out.lt))
      have hneq := neq_slot s
      obtain ⟨cap, junk, vF, r⟩ := HR.out.call hb
      have HRR := Lib.hid (And.intro (r.row hsR) r.slots.lt)
      have hhl := r.head.lt
      have c0 := r.head.cell 0
      simp only [List.getElem?_toArray, List.getElem?_cons_zero] at c0
      clear hs hsR hb r
      go_wp2_with (first
        | (go_at_call 54; fail))
      refine HGA.out.mono ?_
      rintro e w2 ⟨rfl, hb2⟩
      have hs2 := hb2.size
      have HB3 := Lib.hid (hb2.alloc hb2.size (.cells s.cells 39))
      have e0 : (w2.alloc (.cells s.cells 39)).cell? ⟨h, 0, none⟩ = some (.slice (some ⟨b, 0, none⟩) 32 cap) := (HB3.out.cell (p := ⟨h, 0, none⟩) hhl).trans c0
      have d0 := cell_regrown e0
      have HR1 := Lib.hid ((Blk.new w2 39 s.cells).row.class_ (by simp))
      have HR2 := Lib.hid ((HRR.out.1.below HB3.out HRR.out.2).class_ (Nat.lt_of_lt_of_le HRR.out.2 HB3.out.size))
      clear hb2 HGA c0
      go_wp2_with (first
        | (refine wpList_store_new (ty := 39) rfl rfl rfl rfl rfl (SlotV.one _) slotInfo ?_))
      refine wp_region_quiet_below (by kernel_rfl) (by kernel_rfl) ?_
      repeat (first
        | go_big_quiet_skip
        | (refine wpQuiet_load_at rfl rfl rfl HR1.out HU.out rfl slotInfo ?_; simp only [Act.put, List.setIfInBounds_toArray, List.set_cons_zero, List.set_cons_succ])
        | (refine wpQuiet_load_at rfl rfl rfl HR2.out HU.out rfl slotInfo ?_; simp only [Act.put, List.setIfInBounds_toArray, List.set_cons_zero, List.set_cons_succ])
        | (go_big_quiet_want; go_big_quiet_op; first | go_big_quiet_on))
      refine wpQuiet_nil ?_
      intro v0 hC
      have HB4 := Lib.hid (HB.out.trans ((HB3.out.trans ((below_class hC).mono HB3.out.size)).mono HB.out.size))
      clear hC HB3 HR1 HR2 e0 d0
      go_wp2
      go_roundw
      case rel => exact ⟨k + 1, by omega, by go_num, HB4.out⟩
      case measure => simp [intOf] <;> omega
    · obtain rfl : k = 32 := by omega
      have hszr := hb.size
      have hfr := frees_eql19
      have ARr := Lib.hid (HA.out.below hb HA.out.lt)
      obtain ⟨cap, junk, vF, r⟩ := HR.out.call hb
      obtain ⟨AF, cF, hvF, hIF0, _, hc1, _⟩ := r.view
      have hhl := r.head.lt
      rw [← HG.out.free] at hIF0 hc1
      have CH := Lib.hid (And.intro hc1 hhl)
      have IF0 := Lib.hid hIF0
      clear hb hIF0 hc1 hvF r
      obtain ⟨V, hV⟩ : ∃ V, wr.alloc (.cells #[.slice none 0 0] 46) = V := ⟨_, rfl⟩
      have hVs : V.heap.size ≤ wr.heap.size + 1 ∧ wr.heap.size + 1 ≤ V.heap.size := by rw [← hV]; simp
      have hbV : Below wr.heap.size wr V := by rw [← hV]; exact (Below.refl _ _).alloc (Nat.le_refl _) _
      have bL : Boxed V wr.heap.size 46 (.slice none 0 0) := by rw [← hV]; exact Boxed.new wr _ _
      have AV := Lib.hid (ARr.out.below hbV ARr.out.lt)
      have BL := Lib.hid bL
      have HV := Lib.hid hV
      have HBV := Lib.hid hbV
      clear hV hbV bL ARr
      go_wp2_with (go_at_call 46; fail)
      rw [HV.out]
      refine (frees_st g V AV.out).mono ?_
      rintro e V1 ⟨B1, rfl, _, hb1⟩
      have hs1 := hb1.size
      have bL1 : Boxed V1 wr.heap.size 46 (.slice none 0 0) := (hb1.block wr.heap.size BL.out.lt).trans BL.out
      have BL1 := Lib.hid bL1
      have A1 := Lib.hid (AV.out.below hb1 AV.out.lt)
      have HB1 := Lib.hid (HBV.out.trans (hb1.mono (by omega)))
      clear bL1 hb1 AV HBV BL HV
      go_wp2_with (go_at_call 46; fail)
      refine (frees_st g V1 A1.out).mono ?_
      rintro e V2 ⟨B, rfl, hq, hb2⟩
      have hs2 := hb2.size
      have bL2 : Boxed V2 wr.heap.size 46 (.slice none 0 0) := (hb2.block wr.heap.size BL1.out.lt).trans BL1.out
      have HB2 := Lib.hid (HB1.out.trans (hb2.mono (by omega)))
      have HQ := Lib.hid (hq wr.heap.size)
      clear hq hb2 HB1 A1 BL1
      go_wp2
      refine wp_seqs rfl (enters_of Tryd.func76 (by kernel_rfl) rfl) HQ.out (by omega) (fun k hk => by omega) (Below.refl _ _) (fun _ => rfl)
        (fun pre W => ∃ v, Coll V2 wr.heap.size 46 (V2.heap.size + 2) 3 1 pre.length (intVs (natInts pre)) W v)
        (fun cd pre W => False)
        (Zone.coll (by omega) (by omega) (Nat.le_refl _) (fun pre => pre.length) (fun pre => intVs (natInts pre)))
        (fun cd => Zone.none)
        ⟨_, Coll.start bL2 _ _ _⟩ ?round2 ?done2 ?stop2
      case stop2 =>
        rintro cd pre W hpre hf hK
        exact hf.elim
      case round2 =>
        intro l2 pre i V0 hpre
        simp only [natV]
        gi_wp2
        refine ⟨by trivial, fun W1 hsz1 ⟨v, hC⟩ => ?_⟩
        have hc1 := hC.box.cell
        obtain ⟨Av, cp, rfl⟩ := owns_slice hC.row
        have hpl := hpre.length_le
        rw [List.length_append] at hpl
        have h1 : pre.length + (0 + 1) ≤ maxLen := by unfold maxLen; have := HFL.out; simp at hpl; omega
        have h2 : (pre.length + (0 + 1)) * 8 ≤ 140737488355328 := by have := HFL.out; simp at hpl; omega
        have H1 := Lib.hid h1
        have H2 := Lib.hid h2
        clear h1 h2 hpl
        gi_wp2_with (gi_at_builtin; refine wpListIn_append_new (v := .slice Av pre.length cp) rfl _ _ 46 rfl Tryd.underlying46 hi hz0 hz1 hz2 hz3 (by decide) rfl hC.row 0 rfl rfl (int_one _) H1.out H2.out hsz1 ?_; intro g' cap' w1 hown1 hgr1; obtain ⟨hv1, hC2, hk2⟩ := hC.step (by omega) (by omega) hsz1 hown1 hgr1; have hc2 := hv1.cell; have hf2 := hv1.frozen)
        exact ⟨hk2 _ _ _ _ _ (by omega) (by rintro ⟨h1, h2⟩; omega) (fun k hk => by rintro ⟨h1, h2⟩; omega) (by omega) (by omega), _, by rw [natInts_snoc, List.length_append]; exact hC2⟩
      case done2 =>
        rintro W1 ⟨v, hC⟩ hK1
        have hsz1 := hC.grown.size
        have hbW1 : Below wr.heap.size wr W1 := HB2.out.trans (hC.below (by omega) (by omega))
        obtain ⟨Al, cl, rfl, hIl⟩ := owns_intsAt hC.row
        have c12 := cell_regrown hC.box.cell
        have hIF : IntsAt W1 AF (natInts S.free) := IF0.out.below hbW1 (Nat.le_refl _)
        have c1 : W1.cell? ⟨h, 1, none⟩ = some (.slice AF S.free.length cF) := (hbW1.cell (p := ⟨h, 1, none⟩) CH.out.2).trans CH.out.1
        have d1 := cell_regrown c1
        have HQ2 := Lib.hid (fun (d : Nat) (os : Array Obj) => Calls.regrown_of (sameI_eq Al AF cl cF S.free.length (natInts S.free) (natInts_len _) (by have := HFL.out; omega) (grow (redrawn W1 d) os) (hIl.below (below_regrown W1 d os) (Nat.le_refl _)) (hIF.below (below_regrown W1 d os) (Nat.le_refl _))))
        have BW1 := Lib.hid (HB.out.trans (hbW1.mono hszr))
        have hDlt := (Array.getElem?_eq_some_iff.1 hK1).1
        have HK1 := Lib.hid hK1
        clear hIl hIF hK1 hC
        go_wp2
        refine wp_region_quiet_below (by kernel_rfl) (by kernel_rfl) ?_
        repeat (first | go_big_quiet_skip | (go_big_quiet_want; go_big_quiet_op; first | go_big_quiet_on | go_big_quiet_call (with_reducible exact HQ2.out _ _)))
        refine wpQuiet_nil ?_
        intro w5 hC5
        have HB5 := Lib.hid (below_class hC5)
        have hK5 := (HB5.out.block _ hDlt).trans HK1.out
        have hs5 := HB5.out.size
        clear hC5 c12 c1 d1 HQ2
        go_wp2
        refine ⟨by simp, .inl ⟨_, _, rfl, run_takeDeferred hK5, ?_⟩⟩
        refine ⟨_, results_tmp rfl _ _ _, ?_⟩
        exact ⟨rfl, below_putObj (BW1.out.trans (HB5.out.mono BW1.out.size)) (by omega) _ (by omega)⟩
end Go.Proofs.YtbidgpeeogoglaaDoor
