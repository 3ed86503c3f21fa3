/-
  lineagelaw02.BitsBack: the whole walk.
-/
import Derived.Test.YtfdhkalallcfgaaDoorLAll
import Derived.Test.YtfdhkalallcfgaaDoorBackL
namespace Go.Proofs.YtfdhkalallcfgaaDoor
set_option maxRecDepth 100000
open Go.RowKit Go.Shelf
attribute [local go_sem] Oper.semAt_some

/-- A list in a box, and a number in the box behind it. -/
structure Two (b : Nat) (base : Nat) (l : List Int) (n : Int) (W : World) (v : Value) : Prop where
  box : Boxed W b 24 v
  row : W.ownsRow base 3 1 v l.length (intVs l)
  num : Boxed W (b + 1) 3 (.int .i64 n)
theorem Zone.two {β : Type} {B lo hi b base : Nat} (hb : b + 1 < lo) (hbase : hi ≤ base) (l : β → List Int) (n : β → Int) : Zone B lo hi (fun s W => ∃ v, Two b base (l s) (n s) W v) := by
  intro s W W' row hs hg hr
  obtain ⟨v, h1, h2, h3⟩ := hs
  exact ⟨v, Zone.box (β := Unit) (.inl (by omega)) (fun _ => v) () W W' row h1 hg hr, Zone.owns (β := Unit) hbase (fun _ => v) (fun _ => (l s).length) (fun _ => intVs (l s)) () W W' row h2 hg hr, Zone.box (β := Unit) (.inl hb) (fun _ => .int .i64 (n s)) () W W' row h3 hg hr⟩

set_option maxHeartbeats 4000000 in
theorem bitsBack_any (x : BitVec 64) (w : World) (hT : Tab w) : Calls Tryd.prog 4 #[.int .u64 (wd x)] w (RetB (.bool true) w) := by
  obtain ⟨ii, iz, hi, hz0, hz1, hz2, hz3⟩ := intInfo
  have hpos := hT.pos
  have HT := Lib.hid hT
  have HL := Lib.hid (bitsL_len x)
  have hq1 := seq_nil
  have hq2 := seq2_nil
  clear hT
  refine calls_marks Tryd.func4 rfl ?_
  simp only [Tryd.ntmps4, List.size_toArray, List.length_cons, List.length_nil, Nat.reduceAdd, Nat.reduceSub, Array.replicate_succ, Array.replicate_zero, List.push_toArray, List.append_toArray, List.nil_append, List.cons_append]
  go_wp2_with (go_at_call 14; fail)
  refine (works_any _).mono ?_
  rintro e w1 ⟨rfl, hb1⟩
  go_wp2_with (first
    | (go_at_call 9; refine (all_any x _).mono ?_; rintro e w' ⟨rfl, rfl⟩)
    | (go_at_call 10; refine (runs_any x _).mono ?_; rintro e w' ⟨rfl, rfl⟩)
    | (go_at_call 13; fail))
  obtain ⟨V1, hV1⟩ : ∃ V1, (w1.alloc (.cells #[.int .u64 (wd x)] 23)).alloc (.cells #[.int .u64 (wd x)] 23) = V1 := ⟨_, rfl⟩
  have b0 : Below (w.alloc (.cells #[.bool false] 4)).heap.size (w.alloc (.cells #[.bool false] 4)) V1 := by
    rw [← hV1]; exact hb1.trans ((((Below.refl _ w1).alloc (Nat.le_refl _) _).alloc (by simp) _).mono hb1.size)
  have hs0 := b0.size
  rw [World.size_alloc] at hs0
  have bR : Boxed V1 w.heap.size 4 (.bool false) := (b0.block _ (by simp)).trans (Boxed.new w _ _)
  have hbV1 : Below w.heap.size w V1 := ((Below.refl _ w).alloc (Nat.le_refl _) _).trans (b0.mono (by simp))
  have hT1 : Tab V1 := HT.out.below hbV1 hpos
  have HK := Lib.hid (allH_any x 100 V1 hT1)
  rw [hV1]
  clear hV1 hb1 b0
  refine HK.out.mono ?_
  rintro e V2 ⟨v2, rfl, hr2, hb2⟩
  rw [List.take_of_length_le (by have := HL.out; omega)] at hr2
  obtain ⟨Al, cl, rfl, hIl⟩ := owns_intsAt hr2
  have hlen : (natInts (bitsL x)).length = (bitsL x).length := natInts_len _
  have HLE := Lib.hid hlen
  have HOF := Lib.hid (of_list Al cl (natInts (bitsL x)) V2 hIl (by have := HL.out; omega))
  have hob : ofL (natInts (bitsL x)) = (x, none) := of_bits x
  rw [hob] at HOF
  simp only [ofV, ofErr] at HOF
  have bR2 : Boxed V2 w.heap.size 4 (.bool false) := (hb2.block _ (by omega)).trans bR
  have hbV2 : Below w.heap.size w V2 := hbV1.trans (hb2.mono hbV1.size)
  have hs2 := hb2.size
  have KL := Lib.hid hIl
  clear hr2 hb2 hob hlen hIl hT1 HK bR hbV1
  go_wp2_with (go_at_call 15; fail)
  refine HOF.out.mono ?_
  rintro e w' ⟨rfl, rfl⟩
  go_wp2_with (first
    | (go_at_call 10; refine (runs_any x _).mono ?_; rintro e w' ⟨rfl, rfl⟩))
  obtain ⟨V3, hV3⟩ : ∃ V3, ((V2.alloc (.cells #[.slice none 0 0] 24)).alloc (.cells #[.int .i64 (-1)] 3)).alloc (.cells #[.int .u64 (wd x)] 23) = V3 := ⟨_, rfl⟩
  have hV3s : V3.heap.size ≤ V2.heap.size + 3 ∧ V2.heap.size + 3 ≤ V3.heap.size := by rw [← hV3]; simp
  have bM : Boxed V3 V2.heap.size 24 (.slice none 0 0) := by rw [← hV3]; exact ((Boxed.new V2 _ _).alloc _).alloc _
  have bN : Boxed V3 (V2.heap.size + 1) 3 (.int .i64 (-1)) := by
    rw [← hV3]
    have h := Boxed.new (V2.alloc (.cells #[.slice none 0 0] 24)) 3 (.int .i64 (-1))
    rw [World.size_alloc] at h
    exact h.alloc _
  have bS : Boxed V3 (V2.heap.size + 1 + 1) 23 (.int .u64 (wd x)) := by
    rw [← hV3]
    have h := Boxed.new ((V2.alloc (.cells #[.slice none 0 0] 24)).alloc (.cells #[.int .i64 (-1)] 3)) 23 (.int .u64 (wd x))
    rwa [World.size_alloc, World.size_alloc] at h
  have hb3 : Below V2.heap.size V2 V3 := by rw [← hV3]; exact (((Below.refl _ _).alloc (Nat.le_refl _) _).alloc (by simp) _).alloc (by simp; omega) _
  have hbV3 : Below w.heap.size w V3 := hbV2.trans (hb3.mono hbV2.size)
  have hT3 : Tab V3 := HT.out.below hbV3 hpos
  have bR3 : Boxed V3 w.heap.size 4 (.bool false) := (hb3.block _ (by omega)).trans bR2
  have hs02 : w.heap.size < V2.heap.size := by omega
  rw [hV3]
  clear hV3 HOF hq1 hq2
  refine wp_seqs rfl (enters_of Tryd.func30 (by kernel_rfl) rfl) (runs1_seqs x V3 (V2.heap.size + 1 + 1) 1 (by omega) (by omega) bS.cell hT3 (by omega)) (by omega) (by omega) (Below.refl _ _) (fun _ => rfl)
    (fun pre W' => (∃ v, Two V2.heap.size (V3.heap.size + 2 + 2) (natInts (expand pre)) (lastOf pre) W' v) ∧ Below V2.heap.size V3 W')
    (fun _ _ _ => False)
    ((Zone.two (by omega) (by omega) (fun pre => natInts (expand pre)) (fun pre => lastOf pre)).and (Zone.below (by omega) (by omega)))
    (fun cd => Zone.none)
    ⟨⟨_, bM, World.ownsRow_nil _ _ _ _, bN⟩, Below.refl _ _⟩ ?round ?done ?stop
  case stop => rintro cd pre W' _ h _; exact h.elim
  case round =>
    rintro l2 pre ⟨a, b⟩ V0 hpre
    obtain ⟨ha1, ha2, ha3⟩ := rows_next hpre
    simp only at ha1 ha2 ha3
    have hexp : (expand pre).length + (b - a) ≤ 64 := by
      obtain ⟨t, ht⟩ := hpre
      have h := expand_rowsL x
      rw [← ht, show expand (pre ++ [(a, b)] ++ t) = expand (pre ++ [(a, b)]) ++ expand t from List.flatMap_append] at h
      have h2 := congrArg List.length h
      rw [List.length_append, expand_snoc, List.length_append, List.length_range'] at h2
      have h4 := HL.out
      simp only at h2
      omega
    have HE := Lib.hid hexp
    have hab : (a : Int) < (b : Int) := by omega
    have hb64 : (b : Int) ≤ 64 := by omega
    clear hexp
    gi_wp2
    refine ⟨by trivial, fun V1' hsz1 ⟨⟨v, hM⟩, hB⟩ => ?_⟩
    have hn1 := hM.num.cell
    have hf1 := hM.num.frozen
    gi_wp2
    gi_loopw [10] (fun i wr => ∃ j : Nat, a ≤ j ∧ j ≤ b ∧ i = .int .i64 j ∧ (∃ v, Two V2.heap.size (V3.heap.size + 2 + 2) (natInts (expand pre ++ List.range' a (j - a))) (lastOf pre) wr v) ∧ Kept V3.heap.size 1 (V2.heap.size + 1 + 1) (V3.heap.size + 2) (V3.heap.size + 2 + 2) V1' wr ∧ Below V2.heap.size V3 wr ∧ V3.heap.size + 2 + 2 ≤ wr.heap.size) (fun i _ => b - (intOf i).toNat)
    case atStart => exact ⟨a, Nat.le_refl _, by omega, rfl, ⟨v, by rw [Nat.sub_self]; simpa using hM⟩, Kept.refl _, hB, hsz1⟩
    case round =>
      obtain ⟨j, hj1, hj2, rfl, ⟨v', hM'⟩, hK', hB', hsz'⟩ := hrel
      have hk1 := (hM'.box).cell
      by_cases hlt : j < b
      · have hlt' : (j : Int) < (b : Int) := by omega
        have e1 : j + 1 - a = (j - a) + 1 := by omega
        have e2 : a + (j - a) = j := by omega
        have e3 : natInts (expand pre ++ List.range' a (j + 1 - a)) = natInts (expand pre ++ List.range' a (j - a)) ++ [(j : Int)] := by
          rw [e1, range'_last, e2, ← List.append_assoc]; simp [natInts]
        have hl : (natInts (expand pre ++ List.range' a (j - a))).length ≤ 64 := by
          rw [natInts_len, List.length_append, List.length_range']; have := HE.out; omega
        have h1 : (natInts (expand pre ++ List.range' a (j - a))).length + (0 + 1) ≤ maxLen := by unfold maxLen; omega
        have h2 : ((natInts (expand pre ++ List.range' a (j - a))).length + (0 + 1)) * 8 ≤ 140737488355328 := by omega
        have H1 := Lib.hid h1
        have H2 := Lib.hid h2
        have E3 := Lib.hid e3
        clear h1 h2 e1 e2 e3 hl hlt hn1 hf1
        gi_wp2_with (gi_at_builtin; refine wpListIn_append_new (v := v') rfl _ _ 24 rfl Tryd.underlying24 hi hz0 hz1 hz2 hz3 (by decide) rfl hM'.row 0 rfl rfl (int_one _) H1.out H2.out hsz' ?_; intro g' cap' w1' hown1 hgr1; obtain ⟨hv1, hv2, hr2, hk2, hsm, _⟩ := append_box hM'.box hM'.row (by omega) hsz' hown1 hgr1; have hc2 := hv1.cell; have hf2 := hv1.frozen)
        have hkk := hk2 V3.heap.size 1 (V2.heap.size + 1 + 1) (V3.heap.size + 2) (V3.heap.size + 2 + 2) (by omega) (by omega) (by omega) (by omega) (by omega)
        have hkb := (hk2 V3.heap.size V2.heap.size (V2.heap.size + 1 + 1) (V3.heap.size + 2) (V3.heap.size + 2 + 2) (by omega) (by omega) (by omega) (by omega) (by omega)).below
        go_roundw
        case rel => exact ⟨j + 1, by omega, by omega, by go_num, ⟨_, hv2, by rw [E3.out, List.length_append, intVs_app]; exact hr2, (hsm _ (by omega) (by omega)).trans hM'.num⟩, hK'.trans hkk, hB'.trans hkb, by have := hkk.below.size; simp at this; omega⟩
        case measure => simp [intOf]; omega
      · obtain rfl : j = b := by omega
        have hlt' : ¬ (j : Int) < (j : Int) := by omega
        have hn2 := hM'.num.cell
        have hf2 := hM'.num.frozen
        clear hlt hn1 hf1
        gi_wp2
        refine ⟨hK'.set (by omega) (by omega) (.inl (by omega)) _, ⟨v', hM'.box.other (by omega) _, ?_, ?_⟩, hB'.setCell (p := ⟨V2.heap.size + 1, 0, none⟩) (by show V2.heap.size ≤ V2.heap.size + 1; omega) _⟩
        · rw [expand_snoc]
          exact owns_kept hM'.row (grownBy_setCell' _ _ _) (by omega)
        · rw [lastOf_snoc]
          exact hM'.num.set _
  case done =>
    rintro W1 ⟨⟨v, hM⟩, hB⟩ hK
    have hrow := hM.row
    rw [expand_rowsL] at hrow
    obtain ⟨Am, cm, rfl, hIm⟩ := owns_intsAt hrow
    have hcm := hM.box.cell
    have hs1 := hB.size
    have hb21 : Below V2.heap.size V2 W1 := hb3.trans hB
    have hbR1 : Boxed W1 w.heap.size 4 (.bool false) := (hB.block _ (by omega)).trans bR3
    go_wp2_with (go_at_call 14; fail)
    refine (works_any _).mono ?_
    rintro e W2 ⟨rfl, hbw⟩
    have hcm2 : W2.cell? ⟨V2.heap.size, 0, none⟩ = some (.slice Am (natInts (bitsL x)).length cm) := (hbw.cell (p := ⟨V2.heap.size, 0, none⟩) (by show V2.heap.size < W1.heap.size; omega)).trans hcm
    have hIm2 := hIm.below hbw (Nat.le_refl _)
    have hIl2 : IntsAt W2 Al (natInts (bitsL x)) := KL.out.below (hb21.trans (hbw.mono (by omega))) (Nat.le_refl _)
    have hS := Lib.hid (sameI_eq Al Am cl cm (natInts (bitsL x)).length (natInts (bitsL x)) rfl (by have := HL.out; have := HLE.out; omega) W2 hIl2 hIm2)
    have heq : (wd x == wd x) = true := by simp
    have hcnt : ((cntB x : Int) == ((natInts (bitsL x)).length : Int)) = true := by simp [cntB, numsB_bitsL, natInts]
    clear hM hrow hIm hIm2 hIl2 hcm
    go_wp2_with (go_at_call 11; fail)
    refine hS.out.mono ?_
    rintro e W3 ⟨rfl, hbs⟩
    have hb13 : Below W1.heap.size W1 W3 := hbw.trans (hbs.mono hbw.size)
    have bR : Boxed W3 w.heap.size 4 (.bool false) := (hb13.block _ (by omega)).trans hbR1
    have hcR := bR.cell
    have hfR := bR.frozen
    go_wp2_with (go_at_call 16; refine (count_any x _).mono ?_; rintro e w' ⟨rfl, rfl⟩)
    have hK3 : W3.heap[V3.heap.size]? = some (.deferred (some [])) := (hb13.block _ (Array.getElem?_eq_some_iff.1 hK).1).trans hK
    have hK4 := (KeepsOthers.setCell W3 ⟨w.heap.size, 0, none⟩ (.bool true)).same _ _ hK3 rfl
    have bF := bR.set (.bool true)
    have hcF : ((W3.setCell ⟨w.heap.size, 0, none⟩ (.bool true)).putObj V3.heap.size (.deferred none)).cell? ⟨w.heap.size, 0, none⟩ = some (.bool true) :=
      (World.cell?_of_block (a := ⟨w.heap.size, 0, none⟩) (World.putObj_heap_other (by show w.heap.size ≠ V3.heap.size; omega))).trans bF.cell
    have hbW3 : Below w.heap.size w W3 := (hbV3.trans (hB.mono (by omega))).trans (hb13.mono (by omega))
    refine ⟨by simp, .inl ⟨_, _, rfl, run_takeDeferred hK4, ?_⟩⟩
    exact ⟨.bool true, by simp [results, Tryd.results4, go_sem, hcF], rfl,
      below_putObj (hbW3.setCell (p := ⟨w.heap.size, 0, none⟩) (Nat.le_refl _) _) (by omega) _ (by have := hbW3.size; have := (KeepsWalks.setCell W3 ⟨w.heap.size, 0, none⟩ (.bool true)).size; omega)⟩
end Go.Proofs.YtfdhkalallcfgaaDoor
