/-
  lineagelaw02.BitsAll: the whole walk.
-/
import Derived.Test.YtfdhkalallcfgaaDoorLAllHelp
import Derived.Test.YtfdhkalallcfgaaDoorSameI
import Derived.Test.YtfdhkalallcfgaaDoorKeptI
import Derived.Deep.RegionHeld3
namespace Go.Proofs.YtfdhkalallcfgaaDoor
set_option maxRecDepth 100000
open Go.RowKit Go.Shelf
attribute [local go_sem] Oper.semAt_some

theorem owns_intsAt {w : World} {base n : Nat} {v : Value} {l : List Int} (h : w.ownsRow base 3 1 v n (intVs l)) : ∃ A cap, v = .slice A n cap ∧ IntsAt w A l := by
  rcases h.2 with ⟨rfl, rfl⟩ | ⟨g, cap, cur, rfl, _⟩
  · refine ⟨_, _, rfl, fun hp => ?_⟩
    have h1 := h.1
    rw [show (intVs l).length = l.length from List.length_map _] at h1
    omega
  · exact ⟨_, _, rfl, own_ints h⟩

theorem marks_cons (D : Nat) (ds : List Nat) : ({ target := .collected D, args := #[] } :: marks ds : List Deferred) = marks (D :: ds) := rfl
theorem int_two (i j : Int) : ∀ u ∈ (#[Value.int .i64 i, .int .i64 j] : Array Value).toList, u.oneCell' = true := by
  intro u hu; simp at hu; rcases hu with rfl | rfl <;> rfl
theorem intVs_app (l m : List Int) : intVs (l ++ m) = intVs l ++ intVs m := List.map_append
theorem owns_intsCap {w : World} {base n : Nat} {v : Value} {l : List Int} (h : w.ownsRow base 3 1 v n (intVs l)) : ∃ A cap, v = .slice A n cap ∧ n ≤ cap ∧ IntsAt w A l := by
  rcases h.2 with ⟨rfl, rfl⟩ | ⟨g, cap, cur, rfl, _, _, hc, _⟩
  · refine ⟨_, _, rfl, Nat.le_refl _, fun hp => ?_⟩
    have h1 := h.1
    rw [show (intVs l).length = l.length from List.length_map _] at h1
    omega
  · exact ⟨_, _, rfl, hc, own_ints h⟩
theorem IntsAt.take {w : World} {A : Option Addr} {l : List Int} (h : IntsAt w A l) (m : Nat) : IntsAt w A (l.take m) := fun hp => by
  rw [List.length_take] at hp
  obtain ⟨b, off, e, hb, hc⟩ := h (by omega)
  refine ⟨b, off, e, hb, fun k i hk => hc k i ?_⟩
  rw [List.getElem?_take] at hk
  split at hk
  · exact hk
  · cases hk
theorem take_min {α : Type} (l : List α) (n : Nat) : l.take n = l.take (min n l.length) := by
  rw [List.take_eq_take_iff]; omega
theorem natInts_take (l : List Nat) (n : Nat) : natInts (l.take n) = (natInts l).take n := List.map_take
theorem flatP_take : ∀ (l : List (Nat × Nat)) (n : Nat), flatP (l.take n) = (flatP l).take (2 * n)
  | l, 0 => by simp [flatP]
  | [], n + 1 => by simp [flatP]
  | p :: l, n + 1 => by
    have ih := flatP_take l n
    have e : 2 * (n + 1) = 2 * n + 1 + 1 := by omega
    rw [e]
    simp [flatP] at ih ⊢
    exact ih
theorem seq_nil (b : Option Addr) (w : World) : (binOp .eql 28 (.func (.func 28) #[] #[.pointer b]) .nilFunc).run Tryd.prog w = .ok (.bool false) w := by kernel_rfl
theorem seq2_nil (b : Option Addr) (w : World) : (binOp .eql 31 (.func (.func 30) #[] #[.pointer b]) .nilFunc).run Tryd.prog w = .ok (.bool false) w := by kernel_rfl
set_option maxHeartbeats 4000000 in
theorem bitsAll_any (x : BitVec 64) (most : Int) (w : World) (hT : Tab w) : Calls Tryd.prog 3 #[.int .u64 (wd x), .int .i64 most] w (RetB (.bool true) w) := by
  obtain ⟨ii, iz, hi, hz0, hz1, hz2, hz3⟩ := intInfo
  obtain ⟨N, hN, hN66⟩ : ∃ N : Nat, pickZ most 66 = (N : Int) ∧ N < 66 := ⟨(pickZ most 66).toNat, by unfold pickZ; omega, by unfold pickZ; omega⟩
  have HP := Lib.hid (fun w => show Calls Tryd.prog 8 #[.int .i64 most, .int .i64 66] w (RetSame (.int .i64 (N : Int)) w) from by
    have h := pick_any most 66 (by decide) (by decide) w
    rw [show pickZ most ((66 : Nat) : Int) = (N : Int) from hN] at h
    exact h)
  have HT := Lib.hid hT
  clear hT
  have hq1 := seq_nil
  have hq2 := seq2_nil
  refine calls_marks Tryd.func3 rfl ?_
  simp only [Tryd.ntmps3, List.size_toArray, List.length_cons, List.length_nil, Nat.reduceAdd, Nat.reduceSub, Array.replicate_succ, Array.replicate_zero, List.push_toArray, List.append_toArray, List.nil_append, List.cons_append]
  go_wp2_with (first
    | (go_at_call 7; fail))
  refine (rall_any x _).mono ?_
  rintro e w1 ⟨v1, rfl, hr1, hb1⟩
  obtain ⟨A1, cap1, rfl, hcap1, hA1⟩ := owns_intsCap hr1
  rw [numsB_bitsL, List.length_map] at *
  have B1 := Lib.hid hb1
  have I1 := Lib.hid hA1
  clear hr1 hb1 hA1
  go_wp2_with (first
    | (go_at_call 8; refine (HP.out _).mono ?_; rintro e w' ⟨rfl, rfl⟩)
    | (go_at_call 9; refine (all_any x _).mono ?_; rintro e w' ⟨rfl, rfl⟩)
    | (go_at_call 10; refine (runs_any x _).mono ?_; rintro e w' ⟨rfl, rfl⟩))
  obtain ⟨V, hV⟩ : ∃ V, ((w1.alloc (.cells #[.int .i64 N] 3)).alloc (.cells #[.int .u64 (wd x)] 23)).alloc (.cells #[.int .u64 (wd x)] 23) = V := ⟨_, rfl⟩
  have hVs : V.heap.size ≤ w1.heap.size + 3 ∧ w1.heap.size + 3 ≤ V.heap.size := by rw [← hV]; simp
  have bN : Boxed V w1.heap.size 3 (.int .i64 N) := by rw [← hV]; exact ((Boxed.new w1 _ _).alloc _).alloc _
  have bS1 : Boxed V (w1.heap.size + 1) 23 (.int .u64 (wd x)) := by
    rw [← hV]
    have h := Boxed.new (w1.alloc (.cells #[.int .i64 N] 3)) 23 (.int .u64 (wd x))
    rw [World.size_alloc] at h
    exact h.alloc _
  have bS2 : Boxed V (w1.heap.size + 1 + 1) 23 (.int .u64 (wd x)) := by
    rw [← hV]
    have h := Boxed.new ((w1.alloc (.cells #[.int .i64 N] 3)).alloc (.cells #[.int .u64 (wd x)] 23)) 23 (.int .u64 (wd x))
    rwa [World.size_alloc, World.size_alloc] at h
  have hb1V : Below w1.heap.size w1 V := by rw [← hV]; exact (((Below.refl _ _).alloc (Nat.le_refl _) _).alloc (by simp) _).alloc (by simp; omega) _
  have hw1 := B1.out.size
  have hpos := HT.out.pos
  have HTV := Lib.hid ((HT.out.below B1.out hpos).below hb1V (by omega))
  have BV := Lib.hid (B1.out.trans (hb1V.mono hw1))
  have IV := Lib.hid (I1.out.below hb1V (Nat.le_refl _))
  rw [hV]
  clear hV hb1V HT
  have HL := Lib.hid (bitsL_len x)
  have HR := Lib.hid (rowsL_len x)
  refine wp_loop (fun a' W => ∃ (k : Nat) (ds : List Nat) (u10 u11 u12 u13 u14 u33 u34 u35 u36 u37 u38 u39 u40 u41 u42 u43 u44 u45 u46 u47 u48 u49 u50 u51 u52 u53 u54 u55 u56 u57 u58 u59 u60 u61 : Value), a' = { tmps := #[.int .u64 (wd x), .int .i64 most, undef, undef, .bool false, .slice A1 (bitsL x).length cap1, .pointer (some ⟨w1.heap.size, 0, none⟩), .func (.func 28) #[] #[.pointer (some ⟨w1.heap.size + 1, 0, none⟩)], .func (.func 30) #[] #[.pointer (some ⟨w1.heap.size + 1 + 1, 0, none⟩)], .int .i64 k, u10, u11, u12, u13, u14, undef, undef, undef, undef, .int .u64 (wd x), .slice A1 (bitsL x).length cap1, .int .i64 most, .int .i64 N, .int .u64 (wd x), .func (.func 28) #[] #[.pointer (some ⟨w1.heap.size + 1, 0, none⟩)], .int .u64 (wd x), .func (.func 30) #[] #[.pointer (some ⟨w1.heap.size + 1 + 1, 0, none⟩)], .func (.func 28) #[] #[.pointer (some ⟨w1.heap.size + 1, 0, none⟩)], .bool false, .bool false, .func (.func 30) #[] #[.pointer (some ⟨w1.heap.size + 1 + 1, 0, none⟩)], .bool false, .bool false, u33, u34, u35, u36, u37, u38, u39, u40, u41, u42, u43, u44, u45, u46, u47, u48, u49, u50, u51, u52, u53, u54, u55, u56, u57, u58, u59, u60, u61, undef, undef, undef, undef, undef, undef, undef, undef, undef, undef, undef, undef, undef, undef, undef, undef, undef, undef, undef, undef, undef, undef, undef, undef, undef, undef, undef, undef, undef, undef, undef, undef, undef, undef, undef, undef], defers := marks ds } ∧ k ≤ 2 ∧ Below V.heap.size V W ∧ Marked V.heap.size ds W) (fun a' _ => 2 - (intOf (a'.tmps.getD 9 undef)).toNat) ⟨0, [], undef, undef, undef, undef, undef, undef, undef, undef, undef, undef, undef, undef, undef, undef, undef, undef, undef, undef, undef, undef, undef, undef, undef, undef, undef, undef, undef, undef, undef, undef, undef, undef, undef, undef, rfl, by omega, Below.refl _ _, Marked.nil _ _⟩ ?_
  rintro a' W ⟨k, ds, u10, u11, u12, u13, u14, u33, u34, u35, u36, u37, u38, u39, u40, u41, u42, u43, u44, u45, u46, u47, u48, u49, u50, u51, u52, u53, u54, u55, u56, u57, u58, u59, u60, u61, rfl, hk, hbW, hmW⟩
  have hszW := hbW.size
  by_cases hk2 : k < 2
  · have hkt : (k : Int) < 2 := by omega
    go_wp2
    obtain ⟨Va, hVa⟩ : ∃ Va, (W.alloc (.cells #[.slice none 0 0] 24)).alloc (.cells #[.slice none 0 0] 24) = Va := ⟨_, rfl⟩
    have hVas : Va.heap.size ≤ W.heap.size + 2 ∧ W.heap.size + 2 ≤ Va.heap.size := by rw [← hVa]; simp
    have bL : Boxed Va W.heap.size 24 (.slice none 0 0) := by rw [← hVa]; exact (Boxed.new W _ _).alloc _
    have bM : Boxed Va (W.heap.size + 1) 24 (.slice none 0 0) := by
      rw [← hVa]
      have h := Boxed.new (W.alloc (.cells #[.slice none 0 0] 24)) 24 (.slice none 0 0)
      rwa [World.size_alloc] at h
    have hbWa : Below W.heap.size W Va := by rw [← hVa]; exact ((Below.refl _ _).alloc (Nat.le_refl _) _).alloc (by simp) _
    have hbVa : Below V.heap.size V Va := hbW.trans (hbWa.mono hszW)
    have hTa : Tab Va := HTV.out.below hbVa (by omega)
    rw [hVa]
    clear hVa
    refine wp_seqs rfl (enters_of Tryd.func28 (by kernel_rfl) rfl) (all1_seqs x Va (w1.heap.size + 1) V.heap.size 0 (by omega) ((hbVa.cell (p := ⟨w1.heap.size + 1, 0, none⟩) (by show w1.heap.size + 1 < V.heap.size; omega)).trans bS1.cell) hTa (by omega)) (by omega) (by omega) (Below.refl _ _) (fun _ => rfl)
      (fun pre W' => ∃ v, Coll Va W.heap.size 24 (Va.heap.size + 2) 3 1 pre.length (intVs (natInts pre)) W' v)
      (fun _ _ _ => False)
      (Zone.coll (by omega) (by omega) (Nat.le_refl _) (fun pre => pre.length) (fun pre => intVs (natInts pre)))
      (fun cd => Zone.none)
      ⟨_, Coll.start bL _ _ _⟩ ?round ?done ?stop
    case stop => rintro cd pre W' _ h _; exact h.elim
    case round =>
      intro l2 pre i V0 hpre
      gi_wp2
      refine ⟨by trivial, fun V1 hsz1 ⟨v, hC⟩ => ?_⟩
      obtain ⟨p, cap, rfl⟩ := owns_slice hC.row
      have hc1 := hC.box.cell
      have hpl := hpre.length_le
      rw [List.length_append] at hpl
      have h1 : pre.length + (0 + 1) ≤ maxLen := by unfold maxLen; have := HL.out; simp at hpl; omega
      have h2 : (pre.length + (0 + 1)) * 8 ≤ 140737488355328 := by have := HL.out; simp at hpl; omega
      have H1 := Lib.hid h1
      have H2 := Lib.hid h2
      clear h1 h2
      gi_wp2_with (gi_at_builtin; refine wpListIn_append_new rfl _ _ 24 rfl Tryd.underlying24 hi hz0 hz1 hz2 hz3 (by decide) rfl hC.row 0 rfl rfl (int_one _) H1.out H2.out hsz1 ?_; intro g' cap' w1' hown1 hgr1; obtain ⟨hv1, hC2, hk2'⟩ := hC.step (by omega) (by omega) hsz1 hown1 hgr1; have hc2 := hv1.cell; have hf2 := hv1.frozen)
      exact ⟨hk2' _ _ _ _ _ (by omega) (by omega) (by omega) (by omega) (by omega), ⟨_, by rw [natInts_snoc, List.length_append]; exact hC2⟩⟩
    case done =>
      rintro W1 ⟨v, hC⟩ hK1
      dsimp only
      rw [marks_cons]
      have gA := hC.grown
      have bL1 := hC.box
      have rL1 := hC.row
      have bM1 : Boxed W1 (W.heap.size + 1) 24 (.slice none 0 0) := bM.kept gA (by simp)
      have hbV1 : Below V.heap.size V W1 := hbVa.trans (hC.below (by omega) (by omega))
      have hT1 : Tab W1 := HTV.out.below hbV1 (by omega)
      have hsz1 := gA.size
      have hCA := hC
      clear hC
      go_wp2
      refine wp_seqs rfl (enters_of Tryd.func30 (by kernel_rfl) rfl) (runs1_seqs x W1 (w1.heap.size + 1 + 1) V.heap.size (by omega) (by omega) ((hbV1.cell (p := ⟨w1.heap.size + 1 + 1, 0, none⟩) (by show w1.heap.size + 1 + 1 < V.heap.size; omega)).trans bS2.cell) hT1 (by omega)) (by omega) (by omega) (Below.refl _ _) (fun _ => rfl)
        (fun pre W' => ∃ v, Coll W1 (W.heap.size + 1) 24 (W1.heap.size + 2 + 2) 3 1 (flatP pre).length (intVs (flatP pre)) W' v)
        (fun _ _ _ => False)
        (Zone.coll (by omega) (by omega) (Nat.le_refl _) (fun pre => (flatP pre).length) (fun pre => intVs (flatP pre)))
        (fun cd => Zone.none)
        ⟨_, Coll.start bM1 _ _ _⟩ ?round ?done ?stop
      case stop => rintro cd pre W' _ h _; exact h.elim
      case round =>
        intro l2 pre i V0 hpre
        gi_wp2
        refine ⟨by trivial, fun V1 hsz1' ⟨v, hC⟩ => ?_⟩
        obtain ⟨p, cap, rfl⟩ := owns_slice hC.row
        have hc1 := hC.box.cell
        have hpl := hpre.length_le
        rw [List.length_append] at hpl
        have hfl := flatP_len pre
        have h1 : (flatP pre).length + (1 + 1) ≤ maxLen := by unfold maxLen; have := HR.out; simp at hpl; omega
        have h2 : ((flatP pre).length + (1 + 1)) * 8 ≤ 140737488355328 := by have := HR.out; simp at hpl; omega
        have H1 := Lib.hid h1
        have H2 := Lib.hid h2
        clear h1 h2 hfl
        gi_wp2_with (gi_at_builtin; refine wpListIn_append_new rfl _ _ 24 rfl Tryd.underlying24 hi hz0 hz1 hz2 hz3 (by decide) rfl hC.row 1 rfl rfl (int_two _ _) H1.out H2.out hsz1' ?_; intro g' cap' w1' hown1 hgr1; obtain ⟨hv1, hC2, hk2'⟩ := hC.step (by omega) (by omega) hsz1' hown1 hgr1; have hc2 := hv1.cell; have hf2 := hv1.frozen)
        exact ⟨hk2' _ _ _ _ _ (by omega) (by omega) (by omega) (by omega) (by omega), ⟨_, by rw [flatP_snoc, List.length_append, intVs_app]; exact hC2⟩⟩
      case done =>
        rintro W2 ⟨v2, hC⟩ hK2
        dsimp only
        rw [marks_cons]
        have gB := hC.grown
        obtain ⟨Al, cl, rfl, hIl⟩ := owns_intsAt (l := natInts (bitsL x)) (owns_kept rL1 gB (by omega))
        obtain ⟨Am, cm, rfl, hIm⟩ := owns_intsAt hC.row
        have hcl := (bL1.kept gB (by simp)).cell
        have hcm := hC.box.cell
        have hbV2 : Below V.heap.size V W2 := hbV1.trans (hC.below (by omega) (by omega))
        have hI1 := IV.out.below hbV2 (Nat.le_refl _)
        have hWW2 : Below W.heap.size W W2 := (hbWa.trans (hCA.below (by omega) (by omega))).trans (hC.below (by omega) (by omega))
        have hK1' : W2.heap[Va.heap.size]? = some (.deferred (some [])) := (gB.block _ (Array.getElem?_eq_some_iff.1 hK1).1 (by simp; omega)).trans hK1
        have hszB := gB.size
        have hVaW1 := (Array.getElem?_eq_some_iff.1 hK1).1
        have MW : Marked V.heap.size (W1.heap.size :: Va.heap.size :: ds) W2 := by
          refine ⟨fun D hD => ?_, ?_⟩
          · rcases List.mem_cons.1 hD with rfl | hD
            · exact ⟨by omega, hK2⟩
            · rcases List.mem_cons.1 hD with rfl | hD
              · exact ⟨by omega, hK1'⟩
              · obtain ⟨h1, h2⟩ := hmW.at_ D hD
                exact ⟨h1, (hWW2.block D (Array.getElem?_eq_some_iff.1 h2).1).trans h2⟩
          · have hds : ∀ D, D ∈ ds → D < W.heap.size := fun D hD => (Array.getElem?_eq_some_iff.1 (hmW.at_ D hD).2).1
            refine List.nodup_cons.2 ⟨fun h => ?_, List.nodup_cons.2 ⟨fun h => ?_, hmW.nodup⟩⟩
            · rcases List.mem_cons.1 h with h | h
              · omega
              · have := hds _ h; omega
            · have := hds _ h; omega
        have MW := Lib.hid MW
        have KL := Lib.hid hIl
        have KM := Lib.hid hIm
        have K1 := Lib.hid hI1
        have M1 := Lib.hid hK1'
        have M2 := Lib.hid hK2
        have BV2 := Lib.hid hbV2
        have HLl := Lib.hid (natInts_len (bitsL x))
        clear hC hCA hWW2 hVaW1 gA gB bL1 rL1 bM1 hIl hIm hI1 hK1' hK2 hK1 hbV2 hbV1 hT1 hTa hbVa hbWa bL bM
        have hfr : flatP (rowsL x) = edgesB x 65 := flatP_rowsL x
        rw [hfr] at hcm KM
        have hlm : W.heap.size + 1 < W2.heap.size := by omega
        have KS := Lib.hid (fun W' (h : Below W2.heap.size W2 W') => show Below W2.heap.size W2 W' ∧ W'.cell? ⟨W.heap.size, 0, none⟩ = some (.slice Al (bitsL x).length cl) ∧ W'.cell? ⟨W.heap.size + 1, 0, none⟩ = some (.slice Am (edgesB x 65).length cm) from
          ⟨h, (h.cell (p := ⟨W.heap.size, 0, none⟩) (by show W.heap.size < W2.heap.size; omega)).trans hcl, (h.cell (p := ⟨W.heap.size + 1, 0, none⟩) hlm).trans hcm⟩)
        have SL := Lib.hid (fun W' (h : Below W2.heap.size W2 W' ∧ W'.cell? ⟨W.heap.size, 0, none⟩ = some (.slice Al (bitsL x).length cl) ∧ W'.cell? ⟨W.heap.size + 1, 0, none⟩ = some (.slice Am (edgesB x 65).length cm)) =>
          (sameI_eq Al A1 cl cap1 (bitsL x).length (natInts (bitsL x)) HLl.out (by have := HL.out; omega) W' (KL.out.below h.1 (Nat.le_refl _)) (K1.out.below h.1 (Nat.le_refl _))).mono fun e w'' h2 => (⟨h2.1, KS.out _ (h.1.trans (h2.2.mono h.1.size))⟩ : e = .returned (.bool true) ∧ Below W2.heap.size W2 w'' ∧ w''.cell? ⟨W.heap.size, 0, none⟩ = some (.slice Al (bitsL x).length cl) ∧ w''.cell? ⟨W.heap.size + 1, 0, none⟩ = some (.slice Am (edgesB x 65).length cm)))
        have SR := Lib.hid (fun W' (h : Below W2.heap.size W2 W' ∧ W'.cell? ⟨W.heap.size, 0, none⟩ = some (.slice Al (bitsL x).length cl) ∧ W'.cell? ⟨W.heap.size + 1, 0, none⟩ = some (.slice Am (edgesB x 65).length cm)) =>
          (rruns_any x W').mono fun e w'' h2 => show ∃ A c, e = .returned (.slice A (edgesB x 65).length c) ∧ IntsAt w'' A (edgesB x 65) ∧ Below W2.heap.size W2 w'' ∧ w''.cell? ⟨W.heap.size, 0, none⟩ = some (.slice Al (bitsL x).length cl) ∧ w''.cell? ⟨W.heap.size + 1, 0, none⟩ = some (.slice Am (edgesB x 65).length cm) from by
            obtain ⟨v, rfl, hr, hb⟩ := h2
            obtain ⟨A, c, rfl, hi⟩ := owns_intsAt hr
            exact ⟨A, c, rfl, hi, KS.out _ (h.1.trans (hb.mono h.1.size))⟩)
        have SM := Lib.hid (fun W' Av cv (hi : IntsAt W' Av (edgesB x 65)) (h : Below W2.heap.size W2 W' ∧ W'.cell? ⟨W.heap.size, 0, none⟩ = some (.slice Al (bitsL x).length cl) ∧ W'.cell? ⟨W.heap.size + 1, 0, none⟩ = some (.slice Am (edgesB x 65).length cm)) =>
          (sameI_eq Am Av cm cv (edgesB x 65).length (edgesB x 65) rfl (by have := edgesB_len x 65; omega) W' (KM.out.below h.1 (Nat.le_refl _)) hi).mono fun e w'' h2 => (⟨h2.1, KS.out _ (h.1.trans (h2.2.mono h.1.size))⟩ : e = .returned (.bool true) ∧ Below W2.heap.size W2 w'' ∧ w''.cell? ⟨W.heap.size, 0, none⟩ = some (.slice Al (bitsL x).length cl) ∧ w''.cell? ⟨W.heap.size + 1, 0, none⟩ = some (.slice Am (edgesB x 65).length cm)))
        clear hfr
        go_wp2
        refine wp_region_noPanic ?_
        go_region_held3 (fun W' => Below W2.heap.size W2 W' ∧ W'.cell? ⟨W.heap.size, 0, none⟩ = some (.slice Al (bitsL x).length cl) ∧ W'.cell? ⟨W.heap.size + 1, 0, none⟩ = some (.slice Am (edgesB x 65).length cm))
          (first | assumption | exact KS.out _ (Below.refl _ _).drew)
          (first
            | (go_at_call_of 11 (Value.slice A1 (bitsL x).length cap1); refine (SL.out _ (by assumption)).mono ?_; rintro e wA ⟨rfl, hA⟩)
            | (go_at_call 12; refine (SR.out _ (by assumption)).mono ?_; rintro e wB ⟨AB, cB, rfl, hIB, hBB⟩)
            | (go_at_call_of 11 (Value.slice Am (edgesB x 65).length cm); refine (SM.out _ _ _ (by assumption) (by assumption)).mono ?_; rintro e wC ⟨rfl, hC⟩))
        refine NoPanic.normal ?_
        have hCB := hC.1
        clear SL SR SM KS hC hA hBB hIB
        have HCB := Lib.hid hCB
        clear hCB
        go_wp2
        refine ⟨⟨k + 1, W1.heap.size :: Va.heap.size :: ds, _, _, _, _, _, _, _, _, _, _, _, _, _, _, _, _, _, _, _, _, _, _, _, _, _, _, _, _, _, _, _, _, _, _, rfl, by omega, BV2.out.trans (HCB.out.mono BV2.out.size), ⟨fun D hD => ?_, MW.out.nodup⟩⟩, by simp [intOf]; omega⟩
        obtain ⟨h1, h2⟩ := MW.out.at_ D hD
        exact ⟨h1, (HCB.out.block D (Array.getElem?_eq_some_iff.1 h2).1).trans h2⟩
  · obtain rfl : k = 2 := by omega
    clear hk2 hk
    have hNi : (N : Int) < 66 := by omega
    have bNW : Boxed W w1.heap.size 3 (.int .i64 N) := (hbW.block _ (by omega)).trans bN
    go_wp2
    obtain ⟨Va, hVa⟩ : ∃ Va, W.alloc (.cells #[.slice none 0 0] 24) = Va := ⟨_, rfl⟩
    have hVas : Va.heap.size ≤ W.heap.size + 1 ∧ W.heap.size + 1 ≤ Va.heap.size := by rw [← hVa]; simp
    have bM : Boxed Va W.heap.size 24 (.slice none 0 0) := by rw [← hVa]; exact Boxed.new W _ _
    have hbWa : Below W.heap.size W Va := by rw [← hVa]; exact (Below.refl _ _).alloc (Nat.le_refl _) _
    have hbVa : Below V.heap.size V Va := hbW.trans (hbWa.mono hszW)
    have hTa : Tab Va := HTV.out.below hbVa (by omega)
    have bNa : Boxed Va w1.heap.size 3 (.int .i64 N) := (hbWa.block _ (by omega)).trans bNW
    rw [hVa]
    clear hVa
    refine wp_seqs rfl (enters_of Tryd.func30 (by kernel_rfl) rfl) (runs1_seqs x Va (w1.heap.size + 1 + 1) V.heap.size (by omega) (by omega) ((hbVa.cell (p := ⟨w1.heap.size + 1 + 1, 0, none⟩) (by show w1.heap.size + 1 + 1 < V.heap.size; omega)).trans bS2.cell) hTa (by omega)) (by omega) (by omega) (Below.refl _ _) (fun _ => rfl)
      (fun pre W' => (∃ v, Coll Va W.heap.size 24 (Va.heap.size + 2 + 2) 3 1 (flatP pre).length (intVs (flatP pre)) W' v) ∧ pre.length ≤ N)
      (fun c _ W' => c = .exit 6 ∧ ∃ v, Coll Va W.heap.size 24 (Va.heap.size + 2 + 2) 3 1 (flatP ((rowsL x).take N)).length (intVs (flatP ((rowsL x).take N))) W' v)
      ((Zone.coll (by omega) (by omega) (Nat.le_refl _) (fun pre => (flatP pre).length) (fun pre => intVs (flatP pre))).and (Zone.pure fun (pre : List (Nat × Nat)) => pre.length ≤ N))
      (fun cd => (Zone.pure fun _ => cd = .exit 6).and (Zone.coll (by omega) (by omega) (Nat.le_refl _) (fun _ => (flatP ((rowsL x).take N)).length) (fun _ => intVs (flatP ((rowsL x).take N)))))
      ⟨⟨_, Coll.start bM _ _ _⟩, Nat.zero_le _⟩ ?round ?done ?stop
    case round =>
      intro l2 pre i V0 hpre
      gi_wp2
      refine ⟨by trivial, fun V1 hsz1' ⟨⟨v, hC⟩, hlen⟩ => ?_⟩
      obtain ⟨p, cap, rfl⟩ := owns_slice hC.row
      have hm1 := (bNa.kept hC.grown (by simp; omega)).cell
      have hc1 := hC.box.cell
      have hpl := hpre.length_le
      rw [List.length_append] at hpl
      have hfl := flatP_len pre
      by_cases hlm : pre.length = N
      · have ht : (((flatP pre).length : Int) == 2 * (N : Int)) = true := by simp; omega
        have HE := Lib.hid hlm
        clear hlm hfl
        gi_wp2
        refine ⟨Kept.refl _, rfl, .slice p (flatP pre).length cap, ?_⟩
        rw [← HE.out, take_of_prefix ((List.prefix_append _ _).trans hpre)]
        exact hC
      · have ht : (((flatP pre).length : Int) == 2 * (N : Int)) = false := by simp; omega
        have HN := Lib.hid hlm
        have h1 : (flatP pre).length + (1 + 1) ≤ maxLen := by unfold maxLen; have := HR.out; simp at hpl; omega
        have h2 : ((flatP pre).length + (1 + 1)) * 8 ≤ 140737488355328 := by have := HR.out; simp at hpl; omega
        have H1 := Lib.hid h1
        have H2 := Lib.hid h2
        clear h1 h2 hfl hlm
        gi_wp2_with (gi_at_builtin; refine wpListIn_append_new rfl _ _ 24 rfl Tryd.underlying24 hi hz0 hz1 hz2 hz3 (by decide) rfl hC.row 1 rfl rfl (int_two _ _) H1.out H2.out hsz1' ?_; intro g' cap' w1' hown1 hgr1; obtain ⟨hv1, hC2, hk2'⟩ := hC.step (by omega) (by omega) hsz1' hown1 hgr1; have hc2 := hv1.cell; have hf2 := hv1.frozen)
        exact ⟨hk2' _ _ _ _ _ (by omega) (by omega) (by omega) (by omega) (by omega), ⟨_, by rw [flatP_snoc, List.length_append, intVs_app]; exact hC2⟩, by have := HN.out; simp; omega⟩
    case done =>
      rintro W1 ⟨⟨v, hC0⟩, hlen⟩ hK
      have hC := hC0
      rw [← take_of_all hlen] at hC
      clear hC0
      go_wp2_with (go_at_call 12; fail)
      refine (rruns_any x _).mono ?_
      rintro e Wb ⟨v2, rfl, hr2, hb2⟩
      obtain ⟨A2, cap2, rfl, hcap2, hI2⟩ := owns_intsCap hr2
      have gA := hC.grown
      obtain ⟨Af, cf, rfl, hcapf, hIf⟩ := owns_intsCap hC.row
      have hbV1 : Below V.heap.size V W1 := hbVa.trans (hC.below (by omega) (by omega))
      have hbVb : Below V.heap.size V Wb := hbV1.trans (hb2.mono hbV1.size)
      have hIf := hIf.below hb2 (Nat.le_refl _)
      have hI1 := IV.out.below hbVb (Nat.le_refl _)
      have hTb : Tab Wb := HTV.out.below hbVb (by omega)
      have hszb := hbVb.size
      have hWWb : Below W.heap.size W Wb := (hbWa.trans (hC.below (Nat.le_refl _) (by omega))).trans (hb2.mono (by have := gA.size; omega))
      have hlf : W.heap.size < Wb.heap.size := by have := gA.size; have := hb2.size; omega
      have hcf : Wb.cell? ⟨W.heap.size, 0, none⟩ = some (.slice Af (flatP ((rowsL x).take N)).length cf) := (hb2.cell (p := ⟨W.heap.size, 0, none⟩) (by show W.heap.size < W1.heap.size; have := gA.size; omega)).trans hC.box.cell
      have hcn : Wb.cell? ⟨w1.heap.size, 0, none⟩ = some (.int .i64 N) := (hbVb.cell (p := ⟨w1.heap.size, 0, none⟩) (by show w1.heap.size < V.heap.size; omega)).trans bN.cell
      have hKD : Wb.heap[Va.heap.size]? = some (.deferred (some [])) := (hb2.block _ (Array.getElem?_eq_some_iff.1 hK).1).trans hK
      have hM1 := take_min (bitsL x) N
      obtain ⟨M1, hM⟩ : ∃ M1, min N (bitsL x).length = M1 := ⟨_, rfl⟩
      rw [hM] at hM1
      obtain ⟨M2, hM2⟩ : ∃ M2, min (2 * N) (edgesB x 65).length = M2 := ⟨_, rfl⟩
      have hmi1 : (if (bitsL x).length < N then ((bitsL x).length : Int) else (N : Int)) = (M1 : Int) := by rw [← hM]; split <;> omega
      have hmi2 : (if ((edgesB x 65).length : Int) < 2 * (N : Int) then ((edgesB x 65).length : Int) else 2 * (N : Int)) = (M2 : Int) := by rw [← hM2]; split <;> omega
      have hmi3 : (if (edgesB x 65).length < 2 * N then ((edgesB x 65).length : Int) else 2 * (N : Int)) = (M2 : Int) := by rw [← hM2]; split <;> omega
      have hmc1 : (M1 : Int) ≤ (cap1 : Int) := by omega
      have hmc2 : (M2 : Int) ≤ (cap2 : Int) := by omega
      have hmn1 : M1 ≤ cap1 := by omega
      have hmn2 : M2 ≤ cap2 := by omega
      have hff : flatP ((rowsL x).take N) = (edgesB x 65).take M2 := by rw [flatP_take, flatP_rowsL, take_min (edgesB x 65) (2 * N), hM2]
      have hlf2 : (flatP ((rowsL x).take N)).length = M2 := by rw [hff, List.length_take]; omega
      have hn1 : (natInts ((bitsL x).take M1)).length = M1 := by rw [natInts_len, List.length_take]; omega
      rw [hlf2] at hcf
      rw [hff] at hIf
      have hIw : IntsAt Wb A1 (natInts ((bitsL x).take M1)) := by rw [natInts_take]; exact IntsAt.take hI1 M1
      have hIe := hI2.take M2
      have hM64 : M1 * 8 ≤ 140737488355328 ∧ M2 * 8 ≤ 140737488355328 := by have := HL.out; have := edgesB_len x 65; omega
      have KW := Lib.hid hIw
      have KE := Lib.hid hIe
      have KF := Lib.hid hIf
      have KT := Lib.hid hTb
      have KD := Lib.hid hKD
      have KN1 := Lib.hid hn1
      have K64 := Lib.hid hM64
      have hn2 : ((edgesB x 65).take M2).length = M2 := by rw [List.length_take]; omega
      have KN2 := Lib.hid hn2
      have KM1 := Lib.hid hM1
      have KS := Lib.hid (fun W' (h : Below Wb.heap.size Wb W') => show Below Wb.heap.size Wb W' ∧ W'.cell? ⟨W.heap.size, 0, none⟩ = some (.slice Af M2 cf) ∧ W'.cell? ⟨w1.heap.size, 0, none⟩ = some (.int .i64 N) from
        ⟨h, (h.cell (p := ⟨W.heap.size, 0, none⟩) hlf).trans hcf, (h.cell (p := ⟨w1.heap.size, 0, none⟩) (by show w1.heap.size < Wb.heap.size; omega)).trans hcn⟩)
      have SA := Lib.hid (fun W' (h : Below Wb.heap.size Wb W' ∧ W'.cell? ⟨W.heap.size, 0, none⟩ = some (.slice Af M2 cf) ∧ W'.cell? ⟨w1.heap.size, 0, none⟩ = some (.int .i64 N)) => (allH_any x N W' (KT.out.below h.1 (by omega))).mono fun e w'' h2 => show ∃ A c, e = .returned (.slice A M1 c) ∧ IntsAt w'' A (natInts ((bitsL x).take M1)) ∧ Below Wb.heap.size Wb w'' ∧ w''.cell? ⟨W.heap.size, 0, none⟩ = some (.slice Af M2 cf) ∧ w''.cell? ⟨w1.heap.size, 0, none⟩ = some (.int .i64 N) from by
        obtain ⟨v, rfl, hr, hb⟩ := h2
        rw [KM1.out, KN1.out] at hr
        obtain ⟨A, c, rfl, hi⟩ := owns_intsAt hr
        exact ⟨A, c, rfl, hi, KS.out _ (h.1.trans (hb.mono h.1.size))⟩)
      have SL := Lib.hid (fun W' Av cv (hi : IntsAt W' Av (natInts ((bitsL x).take M1))) (h : Below Wb.heap.size Wb W' ∧ W'.cell? ⟨W.heap.size, 0, none⟩ = some (.slice Af M2 cf) ∧ W'.cell? ⟨w1.heap.size, 0, none⟩ = some (.int .i64 N)) =>
        (sameI_eq Av A1 cv cap1 M1 (natInts ((bitsL x).take M1)) KN1.out K64.out.1 W' hi (KW.out.below h.1 (Nat.le_refl _))).mono fun e w'' h2 => (⟨h2.1, KS.out _ (h.1.trans (h2.2.mono h.1.size))⟩ : e = .returned (.bool true) ∧ Below Wb.heap.size Wb w'' ∧ w''.cell? ⟨W.heap.size, 0, none⟩ = some (.slice Af M2 cf) ∧ w''.cell? ⟨w1.heap.size, 0, none⟩ = some (.int .i64 N)))
      have SM := Lib.hid (fun W' (h : Below Wb.heap.size Wb W' ∧ W'.cell? ⟨W.heap.size, 0, none⟩ = some (.slice Af M2 cf) ∧ W'.cell? ⟨w1.heap.size, 0, none⟩ = some (.int .i64 N)) =>
        (sameI_eq Af A2 cf cap2 M2 ((edgesB x 65).take M2) KN2.out K64.out.2 W' (KF.out.below h.1 (Nat.le_refl _)) (KE.out.below h.1 (Nat.le_refl _))).mono fun e w'' h2 => (⟨h2.1, KS.out _ (h.1.trans (h2.2.mono h.1.size))⟩ : e = .returned (.bool true) ∧ Below Wb.heap.size Wb w'' ∧ w''.cell? ⟨W.heap.size, 0, none⟩ = some (.slice Af M2 cf) ∧ w''.cell? ⟨w1.heap.size, 0, none⟩ = some (.int .i64 N)))
      clear hIf hI1 hIw hIe hTb hKD hn1 hn2 hM1 hM64 hff hlf2 hI2 hM hM2
      have hwr : IntKind.i64.wrap (2 * (N : Int)) = 2 * (N : Int) := IntWalk.i64_in _ (by omega)
      go_wp2
      refine wp_region_noPanic ?_
      go_region_held3 (fun W' => Below Wb.heap.size Wb W' ∧ W'.cell? ⟨W.heap.size, 0, none⟩ = some (.slice Af M2 cf) ∧ W'.cell? ⟨w1.heap.size, 0, none⟩ = some (.int .i64 N))
        (first | assumption | exact KS.out _ (Below.refl _ _).drew)
        (first
          | (go_at_call 13; refine (SA.out _ (by assumption)).mono ?_; rintro e wA ⟨AL, cL, rfl, hIA, hA⟩)
          | (go_at_call_of 11 (Value.slice A1 M1 cap1); refine (SL.out _ _ _ (by assumption) (by assumption)).mono ?_; rintro e wB ⟨rfl, hB⟩)
          | (go_at_call_of 11 (Value.slice A2 M2 cap2); refine (SM.out _ (by assumption)).mono ?_; rintro e wC ⟨rfl, hC⟩))
      all_goals refine NoPanic.normal ?_
      all_goals (have HC := Lib.hid hC.1; clear SL SM SA KS hC hB hA hIA)
      all_goals go_wp2
      all_goals rw [marks_cons]
      all_goals refine leaves_marks (B := V.heap.size) _ _ ⟨fun D hD => ?_, ?_⟩ ?_ (by have := HC.out.size; omega)
      all_goals first
        | (rcases List.mem_cons.1 hD with rfl | hD
           · exact ⟨by omega, (HC.out.block _ (Array.getElem?_eq_some_iff.1 KD.out).1).trans KD.out⟩
           · obtain ⟨h1, h2⟩ := hmW.at_ D hD
             exact ⟨h1, (HC.out.block D (Nat.lt_of_lt_of_le (Array.getElem?_eq_some_iff.1 h2).1 hWWb.size)).trans ((hWWb.block D (Array.getElem?_eq_some_iff.1 h2).1).trans h2)⟩)
        | (refine List.nodup_cons.2 ⟨fun h => ?_, hmW.nodup⟩
           have := (Array.getElem?_eq_some_iff.1 (hmW.at_ _ h).2).1
           omega)
        | (intro W' hbW' _
           exact ⟨_, results_tmp rfl _ _ _, rfl, ((BV.out.trans (hbVb.mono BV.out.size)).trans (HC.out.mono (by omega))).trans (hbW'.mono BV.out.size)⟩)
    case stop =>
      rintro cd pre W1 hpre ⟨rfl, v, hC⟩ hK
      go_wp2_with (go_at_call 12; fail)
      refine (rruns_any x _).mono ?_
      rintro e Wb ⟨v2, rfl, hr2, hb2⟩
      obtain ⟨A2, cap2, rfl, hcap2, hI2⟩ := owns_intsCap hr2
      have gA := hC.grown
      obtain ⟨Af, cf, rfl, hcapf, hIf⟩ := owns_intsCap hC.row
      have hbV1 : Below V.heap.size V W1 := hbVa.trans (hC.below (by omega) (by omega))
      have hbVb : Below V.heap.size V Wb := hbV1.trans (hb2.mono hbV1.size)
      have hIf := hIf.below hb2 (Nat.le_refl _)
      have hI1 := IV.out.below hbVb (Nat.le_refl _)
      have hTb : Tab Wb := HTV.out.below hbVb (by omega)
      have hszb := hbVb.size
      have hWWb : Below W.heap.size W Wb := (hbWa.trans (hC.below (Nat.le_refl _) (by omega))).trans (hb2.mono (by have := gA.size; omega))
      have hlf : W.heap.size < Wb.heap.size := by have := gA.size; have := hb2.size; omega
      have hcf : Wb.cell? ⟨W.heap.size, 0, none⟩ = some (.slice Af (flatP ((rowsL x).take N)).length cf) := (hb2.cell (p := ⟨W.heap.size, 0, none⟩) (by show W.heap.size < W1.heap.size; have := gA.size; omega)).trans hC.box.cell
      have hcn : Wb.cell? ⟨w1.heap.size, 0, none⟩ = some (.int .i64 N) := (hbVb.cell (p := ⟨w1.heap.size, 0, none⟩) (by show w1.heap.size < V.heap.size; omega)).trans bN.cell
      have hKD : Wb.heap[Va.heap.size]? = some (.deferred (some [])) := (hb2.block _ (Array.getElem?_eq_some_iff.1 hK).1).trans hK
      have hM1 := take_min (bitsL x) N
      obtain ⟨M1, hM⟩ : ∃ M1, min N (bitsL x).length = M1 := ⟨_, rfl⟩
      rw [hM] at hM1
      obtain ⟨M2, hM2⟩ : ∃ M2, min (2 * N) (edgesB x 65).length = M2 := ⟨_, rfl⟩
      have hmi1 : (if (bitsL x).length < N then ((bitsL x).length : Int) else (N : Int)) = (M1 : Int) := by rw [← hM]; split <;> omega
      have hmi2 : (if ((edgesB x 65).length : Int) < 2 * (N : Int) then ((edgesB x 65).length : Int) else 2 * (N : Int)) = (M2 : Int) := by rw [← hM2]; split <;> omega
      have hmi3 : (if (edgesB x 65).length < 2 * N then ((edgesB x 65).length : Int) else 2 * (N : Int)) = (M2 : Int) := by rw [← hM2]; split <;> omega
      have hmc1 : (M1 : Int) ≤ (cap1 : Int) := by omega
      have hmc2 : (M2 : Int) ≤ (cap2 : Int) := by omega
      have hmn1 : M1 ≤ cap1 := by omega
      have hmn2 : M2 ≤ cap2 := by omega
      have hff : flatP ((rowsL x).take N) = (edgesB x 65).take M2 := by rw [flatP_take, flatP_rowsL, take_min (edgesB x 65) (2 * N), hM2]
      have hlf2 : (flatP ((rowsL x).take N)).length = M2 := by rw [hff, List.length_take]; omega
      have hn1 : (natInts ((bitsL x).take M1)).length = M1 := by rw [natInts_len, List.length_take]; omega
      rw [hlf2] at hcf
      rw [hff] at hIf
      have hIw : IntsAt Wb A1 (natInts ((bitsL x).take M1)) := by rw [natInts_take]; exact IntsAt.take hI1 M1
      have hIe := hI2.take M2
      have hM64 : M1 * 8 ≤ 140737488355328 ∧ M2 * 8 ≤ 140737488355328 := by have := HL.out; have := edgesB_len x 65; omega
      have KW := Lib.hid hIw
      have KE := Lib.hid hIe
      have KF := Lib.hid hIf
      have KT := Lib.hid hTb
      have KD := Lib.hid hKD
      have KN1 := Lib.hid hn1
      have K64 := Lib.hid hM64
      have hn2 : ((edgesB x 65).take M2).length = M2 := by rw [List.length_take]; omega
      have KN2 := Lib.hid hn2
      have KM1 := Lib.hid hM1
      have KS := Lib.hid (fun W' (h : Below Wb.heap.size Wb W') => show Below Wb.heap.size Wb W' ∧ W'.cell? ⟨W.heap.size, 0, none⟩ = some (.slice Af M2 cf) ∧ W'.cell? ⟨w1.heap.size, 0, none⟩ = some (.int .i64 N) from
        ⟨h, (h.cell (p := ⟨W.heap.size, 0, none⟩) hlf).trans hcf, (h.cell (p := ⟨w1.heap.size, 0, none⟩) (by show w1.heap.size < Wb.heap.size; omega)).trans hcn⟩)
      have SA := Lib.hid (fun W' (h : Below Wb.heap.size Wb W' ∧ W'.cell? ⟨W.heap.size, 0, none⟩ = some (.slice Af M2 cf) ∧ W'.cell? ⟨w1.heap.size, 0, none⟩ = some (.int .i64 N)) => (allH_any x N W' (KT.out.below h.1 (by omega))).mono fun e w'' h2 => show ∃ A c, e = .returned (.slice A M1 c) ∧ IntsAt w'' A (natInts ((bitsL x).take M1)) ∧ Below Wb.heap.size Wb w'' ∧ w''.cell? ⟨W.heap.size, 0, none⟩ = some (.slice Af M2 cf) ∧ w''.cell? ⟨w1.heap.size, 0, none⟩ = some (.int .i64 N) from by
        obtain ⟨v, rfl, hr, hb⟩ := h2
        rw [KM1.out, KN1.out] at hr
        obtain ⟨A, c, rfl, hi⟩ := owns_intsAt hr
        exact ⟨A, c, rfl, hi, KS.out _ (h.1.trans (hb.mono h.1.size))⟩)
      have SL := Lib.hid (fun W' Av cv (hi : IntsAt W' Av (natInts ((bitsL x).take M1))) (h : Below Wb.heap.size Wb W' ∧ W'.cell? ⟨W.heap.size, 0, none⟩ = some (.slice Af M2 cf) ∧ W'.cell? ⟨w1.heap.size, 0, none⟩ = some (.int .i64 N)) =>
        (sameI_eq Av A1 cv cap1 M1 (natInts ((bitsL x).take M1)) KN1.out K64.out.1 W' hi (KW.out.below h.1 (Nat.le_refl _))).mono fun e w'' h2 => (⟨h2.1, KS.out _ (h.1.trans (h2.2.mono h.1.size))⟩ : e = .returned (.bool true) ∧ Below Wb.heap.size Wb w'' ∧ w''.cell? ⟨W.heap.size, 0, none⟩ = some (.slice Af M2 cf) ∧ w''.cell? ⟨w1.heap.size, 0, none⟩ = some (.int .i64 N)))
      have SM := Lib.hid (fun W' (h : Below Wb.heap.size Wb W' ∧ W'.cell? ⟨W.heap.size, 0, none⟩ = some (.slice Af M2 cf) ∧ W'.cell? ⟨w1.heap.size, 0, none⟩ = some (.int .i64 N)) =>
        (sameI_eq Af A2 cf cap2 M2 ((edgesB x 65).take M2) KN2.out K64.out.2 W' (KF.out.below h.1 (Nat.le_refl _)) (KE.out.below h.1 (Nat.le_refl _))).mono fun e w'' h2 => (⟨h2.1, KS.out _ (h.1.trans (h2.2.mono h.1.size))⟩ : e = .returned (.bool true) ∧ Below Wb.heap.size Wb w'' ∧ w''.cell? ⟨W.heap.size, 0, none⟩ = some (.slice Af M2 cf) ∧ w''.cell? ⟨w1.heap.size, 0, none⟩ = some (.int .i64 N)))
      clear hIf hI1 hIw hIe hTb hKD hn1 hn2 hM1 hM64 hff hlf2 hI2 hM hM2
      have hwr : IntKind.i64.wrap (2 * (N : Int)) = 2 * (N : Int) := IntWalk.i64_in _ (by omega)
      go_wp2
      refine wp_region_noPanic ?_
      go_region_held3 (fun W' => Below Wb.heap.size Wb W' ∧ W'.cell? ⟨W.heap.size, 0, none⟩ = some (.slice Af M2 cf) ∧ W'.cell? ⟨w1.heap.size, 0, none⟩ = some (.int .i64 N))
        (first | assumption | exact KS.out _ (Below.refl _ _).drew)
        (first
          | (go_at_call 13; refine (SA.out _ (by assumption)).mono ?_; rintro e wA ⟨AL, cL, rfl, hIA, hA⟩)
          | (go_at_call_of 11 (Value.slice A1 M1 cap1); refine (SL.out _ _ _ (by assumption) (by assumption)).mono ?_; rintro e wB ⟨rfl, hB⟩)
          | (go_at_call_of 11 (Value.slice A2 M2 cap2); refine (SM.out _ (by assumption)).mono ?_; rintro e wC ⟨rfl, hC⟩))
      all_goals refine NoPanic.normal ?_
      all_goals (have HC := Lib.hid hC.1; clear SL SM SA KS hC hB hA hIA)
      all_goals go_wp2
      all_goals rw [marks_cons]
      all_goals refine leaves_marks (B := V.heap.size) _ _ ⟨fun D hD => ?_, ?_⟩ ?_ (by have := HC.out.size; omega)
      all_goals first
        | (rcases List.mem_cons.1 hD with rfl | hD
           · exact ⟨by omega, (HC.out.block _ (Array.getElem?_eq_some_iff.1 KD.out).1).trans KD.out⟩
           · obtain ⟨h1, h2⟩ := hmW.at_ D hD
             exact ⟨h1, (HC.out.block D (Nat.lt_of_lt_of_le (Array.getElem?_eq_some_iff.1 h2).1 hWWb.size)).trans ((hWWb.block D (Array.getElem?_eq_some_iff.1 h2).1).trans h2)⟩)
        | (refine List.nodup_cons.2 ⟨fun h => ?_, hmW.nodup⟩
           have := (Array.getElem?_eq_some_iff.1 (hmW.at_ _ h).2).1
           omega)
        | (intro W' hbW' _
           exact ⟨_, results_tmp rfl _ _ _, rfl, ((BV.out.trans (hbVb.mono BV.out.size)).trans (HC.out.mono (by omega))).trans (hbW'.mono BV.out.size)⟩)
end Go.Proofs.YtfdhkalallcfgaaDoor
