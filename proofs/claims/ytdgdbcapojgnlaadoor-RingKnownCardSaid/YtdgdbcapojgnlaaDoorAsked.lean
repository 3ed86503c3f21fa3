/-
  lineagelaw15.asked: an arena and the document's, of one state: all that is asked is the same.
-/
import Derived.Test.YtdgdbcapojgnlaaDoorGg
import Derived.Test.YtdgdbcapojgnlaaDoorGb
import Derived.Deep.RegionHeld3
namespace Go.Proofs.YtdgdbcapojgnlaaDoor
set_option maxRecDepth 100000
open Go.RowKit Go.Shelf Go.Sort
attribute [local go_sem] Oper.semAt_some

theorem IsRB.ref {lo h b : Nat} {S : St} {W : World} (r : IsRB lo h b S W) : IsRef lo h S W := by obtain ⟨c, j, v, r⟩ := r; exact ⟨b, c, j, v, r⟩
theorem frees_eql (b : Option Addr) (w : World) : (binOp .eql 42 (.func (.func 39) #[] #[.pointer b]) .nilFunc).run Tryd.prog w = .ok (.bool false) w := by kernel_rfl
theorem plain_at (j : Int) (w : World) (hg : Laid w) : Calls Tryd.prog 28 #[errAt j, noAt j] w (RetB (.bool true) w) := by
  rcases h : inR j with _ | _
  · rw [show errAt j = errno 1 from if_neg (by simp [h]), show noAt j = .int .i64 1 from by unfold noAt; rw [if_neg (by simp [h])]]
    exact plain_same 1 (by decide) (by decide) w hg
  · rw [show errAt j = .nilIface from if_pos h, show noAt j = .int .i64 0 from by unfold noAt; rw [if_pos h]]
    exact plain_same 0 (by decide) (by decide) w hg
set_option maxHeartbeats 4000000 in
theorem asked_any {S : St} {lo h b g : Nat} (w : World) (hA : IsAr w g S) (hR : IsRB lo h b S w) (hL : Laid w) : Calls Tryd.prog 11 #[.pointer (some ⟨g, 0, none⟩), .pointer (some ⟨h, 0, none⟩)] w (RetB (.bool true) w) := by
  obtain ⟨ii, iz, hi, hz0, hz1, hz2, hz3⟩ := intInfo
  have hgw := hA.lt
  have hGE := hL.pos
  have hfl : S.free.length ≤ 32 := nodup_len 32 _ hA.nodup hA.free_lt
  obtain ⟨V, hV⟩ : ∃ V, (w.alloc (.cells #[.pointer (some ⟨h, 0, none⟩)] 25)).alloc (.cells #[.bool false] 4) = V := ⟨_, rfl⟩
  have hVs : V.heap.size ≤ w.heap.size + 2 ∧ w.heap.size + 2 ≤ V.heap.size := by rw [← hV]; simp
  have hbV : Below w.heap.size w V := by rw [← hV]; exact ((Below.refl _ w).alloc (Nat.le_refl _) _).alloc (by simp) _
  have bP : Boxed V w.heap.size 25 (.pointer (some ⟨h, 0, none⟩)) := by rw [← hV]; exact (Boxed.new w _ _).alloc _
  have bR : Boxed V (w.heap.size + 1) 4 (.bool false) := by
    rw [← hV]
    have h1 := Boxed.new (w.alloc (.cells #[.pointer (some ⟨h, 0, none⟩)] 25)) 4 (.bool false)
    rwa [World.size_alloc] at h1
  have HV := Lib.hid hV
  have AV := Lib.hid (hA.below hbV hgw)
  have RV := Lib.hid (hR.call hbV)
  have LV := Lib.hid (hL.below hbV hGE)
  have BV := Lib.hid hbV
  have BP := Lib.hid bP
  have BR := Lib.hid bR
  have HW := Lib.hid (fun w' (hb : Below V.heap.size V w') => writes_st g w' ((hA.below hbV hgw).below hb (by omega)))
  have HU := Lib.hid Tryd.underlying36
  have cP := cell_regrown bP.cell
  obtain ⟨h2c, h2e⟩ : ∃ c, V.cell? ⟨h, 2, none⟩ = some (.int .i64 c) ∧ c = S.writes := by
    obtain ⟨cap, junk, vF, r⟩ := RV.out
    obtain ⟨_, _, _, _, _, _, c2⟩ := r.view
    exact ⟨_, c2, rfl⟩
  have c2d := cell_regrown h2e.1
  have HQ := Lib.hid (fun (d : Nat) (os : Array Obj) => Calls.regrown_of (same_b (writes_st g (grow (redrawn V d) os) ((hA.below hbV hgw).below (below_regrown V d os) (by omega)))))
  obtain ⟨_, rfl⟩ := h2e
  clear hV hA hR hL bP bR hbV
  refine calls_marks Tryd.func11 rfl ?_
  simp only [Tryd.ntmps11, List.size_toArray, List.length_cons, List.length_nil, Nat.reduceAdd, Nat.reduceSub, Array.replicate_succ, Array.replicate_zero, List.push_toArray, List.append_toArray, List.nil_append, List.cons_append]
  go_wp2
  rw [HV.out]
  refine wp_region_quiet_below (by kernel_rfl) (by kernel_rfl) ?_
  repeat (first | go_big_quiet_skip | (go_big_quiet_want; go_big_quiet_op; first | go_big_quiet_on | go_big_quiet_call (with_reducible exact HQ.out _ _)))
  refine wpQuiet_nil ?_
  intro w1 hC
  have hb1 := below_class hC
  have HB1 := Lib.hid hb1
  clear hC hb1 cP c2d HQ HW
  go_wp2
  go_loopw [5] (fun i wr => ∃ j : Int, -1 ≤ j ∧ j ≤ 33 ∧ i = .int .i64 j ∧ Below V.heap.size V wr) (fun i _ => (33 - intOf i).toNat)
  case atStart => exact ⟨-1, by omega, by omega, rfl, HB1.out⟩
  case round =>
    obtain ⟨j, hj0, hj1, rfl, hb⟩ := hrel
    have HB := Lib.hid hb
    have hsz := hb.size
    by_cases hlt : j ≤ 32
    · have hP := (show Boxed wr _ _ _ from (hb.block _ BP.out.lt).trans BP.out).cell
      obtain ⟨s, hs⟩ : ∃ s, S.slotAt j = s := ⟨_, rfl⟩
      obtain ⟨eV, heV⟩ : ∃ eV, errAt j = eV := ⟨_, rfl⟩
      obtain ⟨nV, hnV⟩ : ∃ nV, noAt j = nV := ⟨_, rfl⟩
      have HPL := Lib.hid (fun W hg => plain_at j W hg)
      have HGA := Lib.hid (fun (W : World) (hA : IsAr W g S) => get_gen j g W hA)
      have hG := rget_any j wr (RV.out.call hb).ref
      rw [hs, hnV] at hG
      rw [hs, heV] at HGA
      rw [heV, hnV] at HPL
      have HG := Lib.hid hG
      have hneq := neq_slot s
      clear hb HB1 hG hs heV hnV
      go_wp2_with (go_at_call 26; fail)
      refine HG.out.mono ?_
      rintro e w2 ⟨rfl, hb2⟩
      have hb2V : Below V.heap.size V (w2.alloc (.cells s.cells 36)) := (HB.out.trans (hb2.mono HB.out.size)).alloc (Nat.le_trans HB.out.size hb2.size) _
      have H2 := Lib.hid hb2V
      have A2 := Lib.hid (AV.out.below hb2V AV.out.lt)
      clear hb2 hb2V HG HB hP
      go_wp2_with (first
        | (refine wpList_store_new (ty := 36) rfl rfl rfl rfl rfl (SlotV.one _) slotInfo ?_)
        | (go_at_call 27; fail))
      refine (HGA.out _ A2.out).mono ?_
      rintro e w3 ⟨rfl, hb3⟩
      have hs3 := hb3.size
      rw [World.size_alloc] at hs3
      have hb3V : Below V.heap.size V (w3.alloc (.cells s.cells 36)) := (H2.out.trans (hb3.mono H2.out.size)).alloc (by have := H2.out.size; rw [World.size_alloc] at this; omega) _
      have H3 := Lib.hid hb3V
      have L3 := Lib.hid (LV.out.below hb3V (by omega))
      have R2 := Lib.hid (((Blk.new w2 36 s.cells).below hb3 (by simp)).alloc (.cells s.cells 36))
      have R3 := Lib.hid (Blk.new w3 36 s.cells)
      clear hb3 hb3V A2 HGA H2
      go_wp2_with (first
        | (refine wpList_store_new (ty := 36) rfl rfl rfl rfl rfl (SlotV.one _) slotInfo ?_)
        | (go_at_call 28; fail))
      refine (HPL.out _ L3.out).mono ?_
      rintro e w4 ⟨rfl, hb4⟩
      have hs4 := hb4.size
      rw [World.size_alloc] at hs4
      have H4 := Lib.hid (H3.out.trans (hb4.mono H3.out.size))
      have R2' := Lib.hid ((R2.out.below hb4 R2.out.lt).row)
      have R3' := Lib.hid ((R3.out.below hb4 R3.out.lt).row)
      clear hb4 L3 R2 R3 H3 HPL
      go_wp2_with (first
        | (refine wpList_load_at (ty := 36) rfl rfl rfl R3'.out HU.out rfl slotInfo ?_)
        | (refine wpList_load_at (ty := 36) rfl rfl rfl R2'.out HU.out rfl slotInfo ?_))
      go_roundw
      case rel => exact ⟨j + 1, by omega, by omega, by go_num, H4.out⟩
      case measure => simp [intOf]; omega
    · obtain rfl : j = 33 := by omega
      obtain ⟨cap, junk, vF, r⟩ := RV.out.call hb
      obtain ⟨AF, cF, hvF, hIF0, _, hc1, _⟩ := r.view
      have hhl := r.head.lt
      have HFR := Lib.hid (frees_st g wr (AV.out.below hb AV.out.lt))
      have hE := frees_eql
      clear HB1 r
      go_wp2_with (go_at_call 12; fail)
      refine HFR.out.mono ?_
      rintro e V2 ⟨Bf, rfl, hsq, hb2⟩
      have hsz2 := hb2.size
      have HSQ := Lib.hid hsq
      have hbV2 : Below V.heap.size V V2 := HB.out.trans (hb2.mono HB.out.size)
      have CP := Lib.hid ((hbV2.cell (p := ⟨w.heap.size, 0, none⟩) BP.out.lt).trans BP.out.cell)
      have BRW := Lib.hid (show Boxed V2 (w.heap.size + 1) 4 (.bool false) from (hbV2.block _ BR.out.lt).trans BR.out)
      have CH := Lib.hid (And.intro ((hb2.cell (p := ⟨h, 1, none⟩) hhl).trans hc1) (show h < V2.heap.size by omega))
      have IF := Lib.hid (hIF0.below hb2 (Nat.le_refl _))
      have HBV2 := Lib.hid (BV.out.trans (hbV2.mono BV.out.size))
      have hVw : w.heap.size + 2 ≤ wr.heap.size := by omega
      clear hb2 hbV2 hsq hIF0 hc1 HFR HB hb AV RV LV BP BR BV HU HV
      go_wp2
      --LOOP2
      refine wp_loop (fun a' W => ∃ (k : Nat) (ds : List Nat) (q12 q13 q51 q52 q53 q54 q55 q56 q57 q58 q59 q60 q61 q62 q63 q64 q65 q66 q67 : Value), a' = { tmps := #[.pointer (some ⟨g, 0, none⟩), .pointer (some ⟨h, 0, none⟩), undef, .pointer (some ⟨w.heap.size, 0, none⟩), .pointer (some ⟨w.heap.size + 1, 0, none⟩), .int .i64 33, u6, u7, u8, u9, .func (.func 39) #[] #[.pointer (some ⟨Bf, 0, none⟩)], .int .i64 k, q12, q13, undef, .pointer (some ⟨g, 0, none⟩), .int .i64 S.writes, .pointer (some ⟨h, 0, none⟩), .pointer (some ⟨h, 0, none⟩), .pointer (some ⟨h, 2, none⟩), .int .i64 S.writes, .bool false, .int .i64 33, .bool false, u24, u25, u26, u27, u28, u29, u30, u31, u32, u33, u34, u35, u36, u37, u38, u39, u40, u41, u42, u43, u44, u45, u46, .pointer (some ⟨g, 0, none⟩), .func (.func 39) #[] #[.pointer (some ⟨Bf, 0, none⟩)], .func (.func 39) #[] #[.pointer (some ⟨Bf, 0, none⟩)], .bool false, q51, q52, q53, q54, q55, q56, q57, q58, q59, q60, q61, q62, q63, q64, q65, q66, q67, undef, undef, undef, undef, undef, undef, undef, undef, undef, undef, undef, undef, undef, undef, undef, undef, undef, undef, undef, undef, undef, undef, undef, undef], defers := marks ds } ∧ k ≤ 2 ∧ Below V2.heap.size V2 W ∧ Marked V2.heap.size ds W) (fun a' _ => 2 - (intOf (a'.tmps.getD 11 undef)).toNat) ⟨0, [], _, _, _, _, _, _, _, _, _, _, _, _, _, _, _, _, _, _, _, rfl, by omega, Below.refl _ _, Marked.nil _ _⟩ ?_
      rintro a' W ⟨k, ds, q12, q13, q51, q52, q53, q54, q55, q56, q57, q58, q59, q60, q61, q62, q63, q64, q65, q66, q67, rfl, hk, hbW, hmW⟩
      have hszW := hbW.size
      by_cases hk2 : k < 2
      · have hkt : (k : Int) < 2 := by omega
        go_wp2
        obtain ⟨Va, hVa⟩ : ∃ Va, W.alloc (.cells #[.slice none 0 0] 44) = Va := ⟨_, rfl⟩
        have hVas : Va.heap.size ≤ W.heap.size + 1 ∧ W.heap.size + 1 ≤ Va.heap.size := by rw [← hVa]; simp
        have bL : Boxed Va W.heap.size 44 (.slice none 0 0) := by rw [← hVa]; exact Boxed.new W _ _
        have hbWa : Below W.heap.size W Va := by rw [← hVa]; exact (Below.refl _ _).alloc (Nat.le_refl _) _
        have hbVa : Below V2.heap.size V2 Va := hbW.trans (hbWa.mono hszW)
        rw [hVa]
        clear hVa
        refine wp_seqs rfl (enters_of Tryd.func39 (by kernel_rfl) rfl) ((HSQ.out V2.heap.size).later hbVa) (by omega) (fun k hk => by omega) (Below.refl _ _) (fun _ => rfl)
          (fun pre W' => ∃ v, Coll Va W.heap.size 44 (Va.heap.size + 2) 3 1 pre.length (intVs (natInts pre)) W' v)
          (fun _ _ _ => False)
          (Zone.coll (by omega) (by omega) (Nat.le_refl _) (fun pre => pre.length) (fun pre => intVs (natInts pre)))
          (fun cd => Zone.none)
          ⟨_, Coll.start bL _ _ _⟩ ?round ?done ?stop
        case stop => rintro cd pre W' _ h _; exact h.elim
        case round =>
          intro l2 pre i V0 hpre
          simp only [natV]
          gi_wp2
          refine ⟨by trivial, fun V1 hsz1 ⟨v, hC⟩ => ?_⟩
          obtain ⟨p, cap, rfl⟩ := owns_slice hC.row
          have hc1 := hC.box.cell
          have hpl := hpre.length_le
          rw [List.length_append] at hpl
          have h1 : pre.length + (0 + 1) ≤ maxLen := by unfold maxLen; simp at hpl; omega
          have h2 : (pre.length + (0 + 1)) * 8 ≤ 140737488355328 := by simp at hpl; omega
          have H1 := Lib.hid h1
          have H2 := Lib.hid h2
          clear h1 h2
          gi_wp2_with (gi_at_builtin; refine wpListIn_append_new (v := .slice p pre.length cap) rfl _ _ 44 rfl Tryd.underlying44 hi hz0 hz1 hz2 hz3 (by decide) rfl hC.row 0 rfl rfl (int_one _) H1.out H2.out hsz1 ?_; intro g' cap' w1' hown1 hgr1; obtain ⟨hv1, hC2, hk2'⟩ := hC.step (by omega) (by omega) hsz1 hown1 hgr1; have hc2 := hv1.cell; have hf2 := hv1.frozen)
          exact ⟨hk2' _ _ _ _ _ (by omega) (by rintro ⟨h1, h2⟩; omega) (fun k hk => by rintro ⟨h1, h2⟩; omega) (by omega) (by omega), ⟨_, by rw [natInts_snoc, List.length_append]; exact hC2⟩⟩
        case done =>
          rintro W1 ⟨v, hC⟩ hK1
          dsimp only
          rw [marks_cons]
          have gA := hC.grown
          have hsz1 := gA.size
          have hbV1 : Below V2.heap.size V2 W1 := hbVa.trans (hC.below (by omega) (by omega))
          have hWW1 : Below W.heap.size W W1 := hbWa.trans (hC.below (Nat.le_refl _) (by omega))
          obtain ⟨Al, cl, rfl, hIl⟩ := owns_intsAt hC.row
          have c12 := cell_regrown hC.box.cell
          have c3 := cell_regrown ((hbV1.cell (p := ⟨w.heap.size, 0, none⟩) (by show w.heap.size < V2.heap.size; omega)).trans CP.out)
          have c1 := cell_regrown ((hbV1.cell (p := ⟨h, 1, none⟩) CH.out.2).trans CH.out.1)
          have hIF := IF.out.below hbV1 (Nat.le_refl _)
          have HQ := Lib.hid (fun (d : Nat) (os : Array Obj) => Calls.regrown_of (sameI_eq Al AF cl cF S.free.length (natInts S.free) (natInts_len _) (by omega) (grow (redrawn W1 d) os) (hIl.below (below_regrown W1 d os) (Nat.le_refl _)) (hIF.below (below_regrown W1 d os) (Nat.le_refl _))))
          have hDlt := (Array.getElem?_eq_some_iff.1 hK1).1
          have MW := Lib.hid (show Marked V2.heap.size (Va.heap.size :: ds) W1 from by
            refine ⟨fun D hD => ?_, ?_⟩
            · rcases List.mem_cons.1 hD with rfl | hD
              · exact ⟨by omega, hK1⟩
              · obtain ⟨h1, h2⟩ := hmW.at_ D hD
                exact ⟨h1, (hWW1.block D (Array.getElem?_eq_some_iff.1 h2).1).trans h2⟩
            · refine List.nodup_cons.2 ⟨fun hh => ?_, hmW.nodup⟩
              have := (Array.getElem?_eq_some_iff.1 (hmW.at_ _ hh).2).1
              omega)
          have BV1 := Lib.hid hbV1
          clear hC hIl hIF gA hbV1 hWW1 hbVa hbWa bL hK1 hDlt
          go_wp2
          refine wp_region_quiet_below (by kernel_rfl) (by kernel_rfl) ?_
          repeat (first | go_big_quiet_skip | (go_big_quiet_want; go_big_quiet_op; first | go_big_quiet_on | go_big_quiet_call (with_reducible exact HQ.out _ _)))
          refine wpQuiet_nil ?_
          intro w5 hC5
          have HB5 := Lib.hid (below_class hC5)
          clear hC5 c12 c3 c1 HQ
          go_wp2
          refine ⟨⟨k + 1, Va.heap.size :: ds, _, _, _, _, _, _, _, _, _, _, _, _, _, _, _, _, _, _, _, rfl, by omega, BV1.out.trans (HB5.out.mono BV1.out.size), ⟨fun D hD => ?_, MW.out.nodup⟩⟩, by simp [intOf]; omega⟩
          obtain ⟨h1, h2⟩ := MW.out.at_ D hD
          exact ⟨h1, (HB5.out.block D (Array.getElem?_eq_some_iff.1 h2).1).trans h2⟩
      · obtain rfl : k = 2 := by omega
        clear hk2 hk
        have bR2 : Boxed W (w.heap.size + 1) 4 (.bool false) := (hbW.block _ (by omega)).trans BRW.out
        have hWb := hbW.size
        have hIW := IF.out.below hbW (Nat.le_refl _)
        have c3 : W.cell? ⟨w.heap.size, 0, none⟩ = some (.pointer (some ⟨h, 0, none⟩)) := (hbW.cell (p := ⟨w.heap.size, 0, none⟩) (by show w.heap.size < V2.heap.size; omega)).trans CP.out
        have c1 : W.cell? ⟨h, 1, none⟩ = some (.slice AF S.free.length cF) := (hbW.cell (p := ⟨h, 1, none⟩) CH.out.2).trans CH.out.1
        have C3 := Lib.hid c3
        have C1 := Lib.hid c1
        have HIW := Lib.hid hIW
        have HHW := Lib.hid (show h < W.heap.size by have := CH.out.2; omega)
        have BR2 := Lib.hid bR2
        have BWW := Lib.hid (HBV2.out.trans (hbW.mono HBV2.out.size))
        have HSW := Lib.hid ((HSQ.out w.heap.size).later hbW)
        have MW := Lib.hid hmW
        clear c3 c1 hIW bR2 hbW hmW HSQ IF CH CP BRW
        have hbw : ∀ W', W.grownBy W' (some (w.heap.size + 1)) → Below w.heap.size w W' := fun W' hG => BWW.out.grown hG (by omega) (fun k e => by cases e; omega)
        have fin : ∀ (W' : World) (tmps : Array Value), W.heap.size ≤ W'.heap.size → (∀ k, k < W.heap.size → k ≠ w.heap.size + 1 → W'.heap[k]? = W.heap[k]?) → Below w.heap.size w W' → Boxed W' (w.heap.size + 1) 4 (.bool true) → W'.heap[W.heap.size]? = some (.deferred (some [])) → (∀ W2 : World, W2.cell? ⟨w.heap.size + 1, 0, none⟩ = some (.bool true) → (results Tryd.f11 tmps).run Tryd.prog W2 = .ok (.bool true) W2) →
            LeavesInM Fence.wide 5 Tryd.prog Tryd.f11 tmps (RetB (.bool true) w) (marks (W.heap.size :: ds)) .returning W' := by
          intro W' tmps hsz' hkeep hbel hbox hK ht
          refine leaves_marks (B := V2.heap.size) _ _ ⟨fun D hD => ?_, ?_⟩ ?_ (by omega)
          · rcases List.mem_cons.1 hD with rfl | hD
            · exact ⟨by omega, hK⟩
            · obtain ⟨h1, h2⟩ := MW.out.at_ D hD
              exact ⟨h1, (hkeep D (Array.getElem?_eq_some_iff.1 h2).1 (by omega)).trans h2⟩
          · refine List.nodup_cons.2 ⟨fun hh => ?_, MW.out.nodup⟩
            have := (Array.getElem?_eq_some_iff.1 (MW.out.at_ _ hh).2).1
            omega
          · intro W2 hb2 hc2
            exact ⟨_, ht W2 ((World.cell?_of_block (a := ⟨w.heap.size + 1, 0, none⟩) ((hc2 _ _ _ _ hbox).trans hbox.symm)).trans hbox.cell), rfl, hbel.trans (hb2.mono (by have := HBV2.out.size; omega))⟩
        go_wp2
        refine wp_seqs rfl (enters_of Tryd.func39 (by kernel_rfl) rfl) HSW.out (by omega) (fun k hk => by omega) (Below.refl _ _) (fun _ => rfl)
          (fun pre W' => pre = [] ∧ Below W.heap.size W W')
          (fun cd _ W' => cd = .ret ∧ W.grownBy W' (some (w.heap.size + 1)) ∧ Boxed W' (w.heap.size + 1) 4 (.bool true))
          ((Zone.pure _).and (Zone.below (Nat.le_refl _) (by omega)))
          (fun cd => (Zone.pure fun _ => cd = .ret).and ((Zone.grownBy (by omega)).and (Zone.box (.inl (by omega)) (fun _ => .bool true))))
          ⟨rfl, Below.refl _ _⟩ ?round3 ?done3 ?stop3
        case stop3 =>
          rintro cd pre W' hpre ⟨rfl, hG, hB⟩ hK
          have hgs := hG.size
          go_wp2
          exact fin W' _ hG.size (fun k hk1 hk2 => hG.block k hk1 (fun e => hk2 (by cases e; rfl))) (hbw W' hG) hB hK (fun W2 h2 => by simp [results, Tryd.results11, go_sem, h2])
        case round3 =>
          intro l2 pre i V0 hpre
          simp only [natV]
          gi_wp2
          refine ⟨by trivial, fun V1 hsz1 ⟨hpn, hC⟩ => ?_⟩
          subst hpn
          obtain ⟨AFb, AFo, rfl, hgl, hAF⟩ := (HIW.out.below hC (Nat.le_refl _)) (by rw [natInts_len]; have := hpre.length_le; simp at this; omega)
          have hi0 : S.free[0]? = some i := by obtain ⟨t, ht⟩ := hpre; rw [← ht]; simp
          have d0 := hAF 0 (i : Int) (by simp [natInts, hi0])
          have hn1 : (0 : Int) < (S.free.length : Int) := by have := hpre.length_le; simp at this; omega
          have c3 : V1.cell? ⟨w.heap.size, 0, none⟩ = some (.pointer (some ⟨h, 0, none⟩)) := (hC.cell (p := ⟨w.heap.size, 0, none⟩) (by show w.heap.size < W.heap.size; omega)).trans C3.out
          have c1 : V1.cell? ⟨h, 1, none⟩ = some (.slice (some ⟨AFb, AFo, none⟩) S.free.length cF) := (hC.cell (p := ⟨h, 1, none⟩) HHW.out).trans C1.out
          simp only [Nat.add_zero] at d0
          have hn2 : 0 < S.free.length := by omega
          have bRV : Boxed V1 (w.heap.size + 1) 4 (.bool false) := (hC.block _ BR2.out.lt).trans BR2.out
          have c4 := bRV.cell
          have f4 := bRV.frozen
          have HHC := Lib.hid hC
          have HRV := Lib.hid bRV
          clear hC hgl hAF bRV hi0 hpre
          gi_wp2
          exact ⟨(Kept.refl _).set (by omega) (by rintro ⟨h1, h2⟩; omega) (.inl (by omega)) _, rfl, grownBy_trans (grownBy_below HHC.out _) (grownBy_setCell' _ _ _), HRV.out.set _⟩
        case done3 =>
          rintro W' ⟨hnil, hC⟩ hK
          have c3 : W'.cell? ⟨w.heap.size, 0, none⟩ = some (.pointer (some ⟨h, 0, none⟩)) := (hC.cell (p := ⟨w.heap.size, 0, none⟩) (by show w.heap.size < W.heap.size; omega)).trans C3.out
          have c1 : W'.cell? ⟨h, 1, none⟩ = some (.slice AF 0 cF) := by
            have := (hC.cell (p := ⟨h, 1, none⟩) HHW.out).trans C1.out
            rw [hnil] at this
            exact this
          have bRV : Boxed W' (w.heap.size + 1) 4 (.bool false) := (hC.block _ BR2.out.lt).trans BR2.out
          have c4 := bRV.cell
          have f4 := bRV.frozen
          have HHC := Lib.hid hC
          have HRV := Lib.hid bRV
          have HK := Lib.hid hK
          clear hC bRV hnil hK
          go_wp2
          have hbs := HHC.out.size
          have hG : W.grownBy (W'.setCell ⟨w.heap.size + 1, 0, none⟩ (.bool true)) (some (w.heap.size + 1)) := grownBy_trans (grownBy_below HHC.out _) (grownBy_setCell' _ _ _)
          exact fin _ _ hG.size (fun k hk1 hk2 => hG.block k hk1 (fun e => hk2 (by cases e; rfl))) (hbw _ hG) (HRV.out.set _) ((Below.heap_setCell _ _ _ W.heap.size (by show W.heap.size ≠ w.heap.size + 1; omega)).trans HK.out) (fun W2 h2 => by simp [results, Tryd.results11, go_sem, h2])
end Go.Proofs.YtdgdbcapojgnlaaDoor
