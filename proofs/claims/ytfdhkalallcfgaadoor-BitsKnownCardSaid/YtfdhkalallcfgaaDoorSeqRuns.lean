/-
  bits.Runs: what it hands back is an iterator over a set's rows of numbers.
-/
import Derived.Test.YtfdhkalallcfgaaDoorSeqAll
import Derived.Test.YtfdhkalallcfgaaDoorRunL
namespace Go.Proofs.YtfdhkalallcfgaaDoor
set_option maxRecDepth 100000
open Go.RowKit Go.Shelf
attribute [local go_sem] Oper.semAt_some

/-- 'Has(s, i-1)': has the number ahead. -/
theorem hasZ_pred {x : BitVec 64} {i : Nat} : hasZ x ((i : Int) - 1) = (match i with | 0 => false | j + 1 => hb x j) := by
  cases i with
  | zero => simp [hasZ]
  | succ j => rw [show ((j + 1 : Nat) : Int) - 1 = (j : Int) by omega, hasZ_nat]
theorem hasZ_succ {x : BitVec 64} {i : Nat} : hasZ x ((i : Int) + 1) = hb x (i + 1) := by
  rw [show (i : Int) + 1 = ((i + 1 : Nat) : Int) by omega, hasZ_nat]

set_option maxHeartbeats 2000000 in
theorem runs1_seqs (x : BitVec 64) (w : World) (Bn n₀ : Nat) (hBn : Bn < w.heap.size) (hn1 : n₀ ≤ w.heap.size) (hc : w.cell? ⟨Bn, 0, none⟩ = some (.int .u64 (wd x))) (hT : Tab w) (hn : 0 < n₀) :
    Seqs Tryd.prog 30 #[.pointer (some ⟨Bn, 0, none⟩)] (fun p : Nat × Nat => #[Value.int .i64 p.1, .int .i64 p.2]) n₀ Bn 2 (rowsL x) w := by
  intro l J Jx W hW hJ hJx hY h0
  have hcW : W.cell? ⟨Bn, 0, none⟩ = some (.int .u64 (wd x)) := (hW.cell (p := ⟨Bn, 0, none⟩) hBn).trans hc
  have hTW : Tab W := hT.below hW hT.pos
  have hsz := hW.size
  clear hc hT
  have hc2 : ∀ o1 o2, ((W.alloc o1).alloc o2).cell? ⟨Bn, 0, none⟩ = some (.int .u64 (wd x)) := fun o1 o2 =>
    ((((Below.refl W.heap.size W).alloc (Nat.le_refl _) o1).alloc (by simp) o2).cell (p := ⟨Bn, 0, none⟩) (by show Bn < W.heap.size; omega)).trans hcW
  refine (callsIn_wide (n := 7)).1 ?_
  refine callsIn_of_wp_marks Tryd.func30 rfl trivial ?_ rfl
  simp only [Tryd.ntmps30, List.size_toArray, List.length_cons, List.length_nil, Nat.reduceAdd, Nat.reduceSub, Array.replicate_succ, Array.replicate_zero, List.push_toArray, List.append_toArray, List.nil_append, List.cons_append]
  gi_wp2_with (refine ⟨trivial, ?_⟩; gi_at_call 9; refine (callsIn_wide.2 (all_any x _)).mono ?_; rintro e w' ⟨rfl, rfl⟩)
  obtain ⟨V, hV⟩ : ∃ V, ((W.alloc (.cells #[.func (.yield l) #[] #[]] 54)).alloc (.cells #[.int .i64 (-1)] 3)).alloc (.cells #[.int .u64 (wd x)] 23) = V := ⟨_, rfl⟩
  have hVs : V.heap.size = W.heap.size + 3 := by rw [← hV]; simp
  have bY : Boxed V W.heap.size 54 (.func (.yield l) #[] #[]) := by rw [← hV]; exact ((Boxed.new W _ _).alloc _).alloc _
  have bF : Boxed V (W.heap.size + 1) 3 (.int .i64 (-1)) := by
    rw [← hV]
    have h := Boxed.new (W.alloc (.cells #[.func (.yield l) #[] #[]] 54)) 3 (.int .i64 (-1))
    rw [World.size_alloc] at h
    exact h.alloc _
  have bS : Boxed V (W.heap.size + 2) 23 (.int .u64 (wd x)) := by
    rw [← hV]
    have h := Boxed.new ((W.alloc (.cells #[.func (.yield l) #[] #[]] 54)).alloc (.cells #[.int .i64 (-1)] 3)) 23 (.int .u64 (wd x))
    rwa [World.size_alloc, World.size_alloc] at h
  have hbV : Below W.heap.size W V := by rw [← hV]; exact (((Below.refl _ _).alloc (Nat.le_refl _) _).alloc (by simp) _).alloc (by simp; omega) _
  have hJV : J [] V := by rw [← hV]; exact hJ.alloc _ (hJ.alloc _ (hJ.alloc _ h0))
  have hcV : V.cell? ⟨Bn, 0, none⟩ = some (.int .u64 (wd x)) := (hbV.cell (p := ⟨Bn, 0, none⟩) (by show Bn < W.heap.size; omega)).trans hcW
  have hTV : Tab V := hTW.below hbV (by omega)
  have HS := Lib.hid hVs
  rw [hV]
  clear hV hc2 hcW hTW h0 hbV
  refine wpIn_seqs rfl (enters_of Tryd.func28 (by kernel_rfl) rfl) (all1_seqs x V (W.heap.size + 2) n₀ Bn (by omega) bS.cell hTV hn) (by omega) (by omega) (Below.refl _ _) (fun _ => rfl)
    (fun pre V' => (J (rowsPre x pre) V' ∧ Boxed V' W.heap.size 54 (.func (.yield l) #[] #[])) ∧ Boxed V' (W.heap.size + 1) 3 (.int .i64 (fromOf x pre)) ∧ (Bn < V'.heap.size ∧ V'.heap[Bn]? = V.heap[Bn]?))
    (fun c pre V' => c = .ret ∧ ∃ q, q <+: rowsL x ∧ Jx q V')
    (((((hJ.mono (by omega) (.inl (by omega))).map (rowsPre x)).and (Zone.box (.inl (by omega)) (fun _ => _))).and ((Zone.box (.inl (by omega)) (fun pre => _)).and (Zone.block (by omega)))))
    (fun cd => (Zone.pure (fun _ => cd = .ret)).and (Zone.ex fun q => (Zone.pure (fun _ => q <+: rowsL x)).and ((hJx.mono (by omega) (.inl (by omega))).map (fun _ => q))))
    ⟨⟨hJV, bY⟩, bF, ⟨by omega, rfl⟩⟩ ?round ?done ?stop
  case round =>
    intro l2 pre i V0 hpre
    obtain ⟨hp1, hp2, hp3⟩ := pre_bits hpre
    gi_wp2
    refine ⟨by trivial, fun V1 hsz1 ⟨⟨hJ1, bY1⟩, bF1, hb1⟩ => ?_⟩
    have hc1 : V1.cell? ⟨Bn, 0, none⟩ = some (.int .u64 (wd x)) := (World.cell?_of_block hb1.2).trans hcV
    have hy1 := bY1.cell
    have hf1 := bF1.cell
    have hg1 := bF1.frozen
    have HF : fromOf x (pre ++ [i]) = startOf x i := fromOf_snoc x pre i
    have hsu0 : hasZ x ((i : Int) + 1) = hb x (i + 1) := hasZ_succ
    by_cases hpr : hasZ x ((i : Int) - 1) = true
    · have hfr : fromOf x pre = startOf x i := by
        cases i with
        | zero => rw [hasZ_pred] at hpr; cases hpr
        | succ j => rw [hasZ_pred] at hpr; exact fromOf_on hpre hpr
      rw [hfr] at hf1 bF1
      clear hfr
      by_cases hsu : hb x (i + 1) = true
      · rw [hsu] at hsu0
        have HU := Lib.hid hsu
        clear hsu
        gi_wp2_with (refine ⟨trivial, ?_⟩; gi_at_call 24; refine (CallsIn.inRound _ (callsIn_wide.2 (has_any x _ _))).mono ?_; rintro e w' ⟨rfl, rfl⟩)
        all_goals (refine ⟨fun _ h => (by cases h), ?_⟩)
        all_goals gi_wp2
        all_goals exact ⟨Kept.refl _, ⟨by rw [rowsPre_on HU.out]; exact hJ1, bY1⟩, by rw [HF]; exact bF1, hb1⟩
      · rw [Bool.not_eq_true] at hsu
        rw [hsu] at hsu0
        have HU := Lib.hid hsu
        clear hsu
        obtain ⟨fn, tmps, assign, body, hy, hR⟩ := YieldAt.deep (m := 4) (hY (rowsPre x pre) (startOf x i, i + 1) V1 hJ1 (by omega) (by rw [← rowsPre_end HU.out]; exact rowsPre_prefix hpre))
        have hy' : (Instr.yield l #[Value.int .i64 (startOf x i : Int), .int .i64 ((i : Int) + 1)]).run Tryd.prog V1 = .ok (.round l fn tmps assign body) V1 := hy
        clear hy
        gi_wp2_with (refine ⟨trivial, ?_⟩; gi_at_call 24; refine (CallsIn.inRound _ (callsIn_wide.2 (has_any x _ _))).mono ?_; rintro e w' ⟨rfl, rfl⟩)
        refine (RoundIn.inRound _ hR).mono ?_
        rintro e V3 (⟨rfl, hJ3, hk3⟩ | ⟨rfl, hJ3, hk3⟩)
        · gi_wp2
          exact ⟨(Kept.refl _).trans (hk3.far (by omega) (by omega)), ⟨by rw [rowsPre_end HU.out]; exact hJ3, hk3.box bY1 (.inr (.inr ⟨by omega, by omega⟩))⟩, by rw [HF]; exact hk3.box bF1 (.inr (.inr ⟨by omega, by omega⟩)), ⟨Nat.lt_of_lt_of_le hb1.1 hk3.below.size, (hk3.extra hb1.1).trans hb1.2⟩⟩
        · gi_wp2
          exact ⟨(Kept.refl _).trans (hk3.far (by omega) (by omega)), rfl, _, rowsPre_prefix hpre, by rw [rowsPre_end HU.out]; exact hJ3⟩
    · rw [Bool.not_eq_true] at hpr
      have hst : startOf x i = i := startOf_new fun j e => by
        subst e; rw [hasZ_pred] at hpr; exact hpr
      rw [hst] at HF
      have bF2 := bF1.set (.int .i64 (i : Int))
      have bY2 : Boxed (V1.setCell ⟨W.heap.size + 1, 0, none⟩ (.int .i64 (i : Int))) W.heap.size 54 (.func (.yield l) #[] #[]) := bY1.other (by omega) _
      have hJ2 : J (rowsPre x pre) (V1.setCell ⟨W.heap.size + 1, 0, none⟩ (.int .i64 (i : Int))) := hJ.set _ hJ1 (by omega) (by omega) (by omega)
      have hb2 : Bn < (V1.setCell ⟨W.heap.size + 1, 0, none⟩ (.int .i64 (i : Int))).heap.size ∧ (V1.setCell ⟨W.heap.size + 1, 0, none⟩ (.int .i64 (i : Int))).heap[Bn]? = V.heap[Bn]? := ⟨Nat.lt_of_lt_of_le hb1.1 (KeepsWalks.setCell _ _ _).size, (Below.heap_setCell _ _ _ Bn (by show Bn ≠ W.heap.size + 1; omega)).trans hb1.2⟩
      have hk2 : Kept V.heap.size n₀ Bn (V.heap.size + 2) (V.heap.size + 2 + 0) V1 (V1.setCell ⟨W.heap.size + 1, 0, none⟩ (.int .i64 (i : Int))) := (Kept.refl V1).set (by omega) (by omega) (.inl (by omega)) _
      have hc2 : (V1.setCell ⟨W.heap.size + 1, 0, none⟩ (.int .i64 (i : Int))).cell? ⟨Bn, 0, none⟩ = some (.int .u64 (wd x)) := (World.cell?_of_block hb2.2).trans hcV
      have hy2 := bY2.cell
      have hf2 := bF2.cell
      by_cases hsu : hb x (i + 1) = true
      · rw [hsu] at hsu0
        have HU := Lib.hid hsu
        clear hsu
        gi_wp2_with (refine ⟨trivial, ?_⟩; gi_at_call 24; refine (CallsIn.inRound _ (callsIn_wide.2 (has_any x _ _))).mono ?_; rintro e w' ⟨rfl, rfl⟩)
        all_goals (refine ⟨fun _ h => (by cases h), ?_⟩)
        all_goals gi_wp2
        all_goals exact ⟨hk2, ⟨by rw [rowsPre_on HU.out]; exact hJ2, bY2⟩, by rw [HF]; exact bF2, hb2⟩
      · rw [Bool.not_eq_true] at hsu
        rw [hsu] at hsu0
        have HU := Lib.hid hsu
        clear hsu
        have hpf : rowsPre x pre ++ [(i, i + 1)] <+: rowsL x := by have h9 := rowsPre_prefix hpre; rw [rowsPre_end HU.out, hst] at h9; exact h9
        obtain ⟨fn, tmps, assign, body, hy, hR⟩ := YieldAt.deep (m := 4) (hY (rowsPre x pre) (i, i + 1) _ hJ2 (by have := (KeepsWalks.setCell V1 ⟨W.heap.size + 1, 0, none⟩ (.int .i64 (i : Int))).size; omega) hpf)
        have HE : rowsPre x (pre ++ [i]) = rowsPre x pre ++ [(i, i + 1)] := by rw [rowsPre_end HU.out, hst]
        have hy' : (Instr.yield l #[Value.int .i64 (i : Int), .int .i64 ((i : Int) + 1)]).run Tryd.prog (V1.setCell ⟨W.heap.size + 1, 0, none⟩ (.int .i64 (i : Int))) = .ok (.round l fn tmps assign body) (V1.setCell ⟨W.heap.size + 1, 0, none⟩ (.int .i64 (i : Int))) := hy
        clear hy
        gi_wp2_with (refine ⟨trivial, ?_⟩; gi_at_call 24; refine (CallsIn.inRound _ (callsIn_wide.2 (has_any x _ _))).mono ?_; rintro e w' ⟨rfl, rfl⟩)
        refine (RoundIn.inRound _ hR).mono ?_
        rintro e V3 (⟨rfl, hJ3, hk3⟩ | ⟨rfl, hJ3, hk3⟩)
        · gi_wp2
          exact ⟨hk2.trans (hk3.far (by omega) (by omega)), ⟨by rw [HE]; exact hJ3, hk3.box bY2 (.inr (.inr ⟨by omega, by omega⟩))⟩, by rw [HF]; exact hk3.box bF2 (.inr (.inr ⟨by omega, by omega⟩)), ⟨Nat.lt_of_lt_of_le hb2.1 hk3.below.size, (hk3.extra hb2.1).trans hb2.2⟩⟩
        · gi_wp2
          exact ⟨hk2.trans (hk3.far (by omega) (by omega)), rfl, _, rowsPre_prefix hpre, by rw [HE]; exact hJ3⟩
  case done =>
    rintro V1 ⟨⟨hJ1, _⟩, _, hb1⟩ hK
    gi_wp2
    refine ⟨by simp, .inl ⟨_, _, rfl, run_takeDeferred hK, ?_⟩⟩
    exact ⟨_, results_none rfl _ _ _, ⟨_, rfl⟩, .inl (hJ.putObj _ hJ1 (by omega) hK rfl)⟩
  case stop =>
    rintro cd pre V1 hpre ⟨rfl, q, hq, hJ1⟩ hK
    gi_wp2
    refine ⟨by simp, .inl ⟨_, _, rfl, run_takeDeferred hK, ?_⟩⟩
    exact ⟨_, results_none rfl _ _ _, ⟨_, rfl⟩, .inr ⟨q, hq, hJx.putObj _ hJ1 (by omega) hK rfl⟩⟩
end Go.Proofs.YtfdhkalallcfgaaDoor
