import Derived.Test.YtnofnolkdijocaaBest
namespace Go.Proofs.Ytnofnolkdijocaa
open Go.RowKit Go.Sort

set_option maxHeartbeats 400000 in
theorem rbetter_any (s t : Sess) (w : World) : Calls Try.prog 18 #[.agg s.cells, .agg t.cells] w (RetBelow (.bool (s.better t)) w) := by
  go_enter Try.func18, Try.ntmps18
  go_wp2
  all_goals
    go_ret
    refine ⟨?_, by go_grown⟩
    simp [Sess.better, *]

/-- Where the best one so far stands: -1 where there is none. -/
def AtBest (xs : List Sess) (bb : Sess × Bool) (at_ : Int) : Prop := (bb.2 = false ∧ at_ = -1 ∧ bb.1 = Sess.zero) ∨ (bb.2 = true ∧ ∃ j : Nat, at_ = (j : Int) ∧ xs[j]? = some bb.1)
def RBestRel (w : World) (now : Int) (xs : List Sess) (a i : Value) (wr : World) : Prop :=
  ∃ (k : Nat) (at_ : Int), k ≤ xs.length ∧ i = .int .i64 k ∧ a = .int .i64 at_ ∧ AtBest xs (bestOf now (xs.take k)) at_ ∧ Blk wr w.heap.size 28 Sess.zero.cells ∧ Below w.heap.size w wr
theorem RBestRel.next {w w' : World} {now : Int} {xs : List Sess} {k : Nat} {a i : Value} {s : Sess} {at_ : Int} (hk : k < xs.length) (hs : xs[k]? = some s) (hi : i = .int .i64 (k + 1 : Int))
    (ha : a = .int .i64 at_) (h1 : AtBest xs (bestStep now (bestOf now (xs.take k)) s) at_) (h0 : Blk w' w.heap.size 28 Sess.zero.cells) (hb : Below w.heap.size w w') : RBestRel w now xs a i w' := by
  have hbo : bestOf now (xs.take (k + 1)) = bestStep now (bestOf now (xs.take k)) s := by
    rw [← bestOf_snoc, List.take_add_one, hs]; rfl
  exact ⟨k + 1, at_, by omega, by rw [hi]; rfl, ha, by rw [hbo]; exact h1, h0, hb⟩

theorem bestStep_late {now : Int} {b : Sess × Bool} {s : Sess} (h : ¬ now < s.deadline) : bestStep now b s = b := by simp [bestStep, h]
theorem bestStep_first {now : Int} {b s : Sess} (h : now < s.deadline) : bestStep now (b, false) s = (s, true) := by simp [bestStep, h]
theorem bestStep_yes {now : Int} {b s : Sess} (h : now < s.deadline) (h2 : s.better b = true) : bestStep now (b, true) s = (s, true) := by simp [bestStep, h, h2]
theorem bestStep_not {now : Int} {b s : Sess} (h2 : s.better b = false) : bestStep now (b, true) s = (b, true) := by simp [bestStep, h2]

set_option maxHeartbeats 1000000 in
theorem rbest_any (A : Option Addr) (cap : Nat) (xs : List Sess) (now : Int) (w : World) (hr : SessIn w A xs) (hl : xs.length ≤ 9223372036854775807) :
    Calls Try.prog 7 #[.slice A xs.length cap, .int .i64 now] w (RetBelow (.tuple #[.agg (bestOf now xs).1.cells, .bool (bestOf now xs).2]) w) := by
  have HR := Lib.hid hr; clear hr
  go_enter Try.func7, Try.ntmps7
  go_wp2
  go_loopw [6, 7] (RBestRel w now xs) (fun _ i _ => xs.length - (intOf i).toNat)
  case atStart => exact ⟨0, -1, Nat.zero_le _, rfl, rfl, .inl ⟨rfl, rfl, rfl⟩, Blk.new w 28 Sess.zero.cells, by go_grown⟩
  case round =>
    obtain ⟨k, at_, hk, rfl, rfl, hA, hB0, hbel⟩ := hrel
    by_cases hlt : k < xs.length
    · obtain ⟨s, hs⟩ : ∃ s, xs[k]? = some s := ⟨_, List.getElem?_eq_getElem hlt⟩
      obtain ⟨b, off, rfl, hb, hrow⟩ := HR.out (by omega)
      have hat := (hrow k s hs).below hbel hb
      have HN0 := fun w' a i at' => @RBestRel.next w w' now xs k a i s at' hlt hs
      generalize bestOf now (xs.take k) = bb at HN0 hA
      have HN := Lib.hid HN0
      have h9 : wr.cell? ⟨b, off + k * 12 + 10, none⟩ = some (.int .i64 s.deadline) := hat.at_ 10 _ rfl
      obtain ⟨best, found⟩ := bb
      have hbw : b < wr.heap.size := Nat.lt_of_lt_of_le hb hbel.size
      have hcr := cells_regrown wr
      have HB0 := Lib.hid hB0
      have HAT := Lib.hid (hat.class_ hbw)
      clear hB0 hat HN0
      rcases hA with ⟨hf, rfl, hz⟩ | ⟨hf, j, rfl, hj⟩
      · simp only at hf hz
        subst hf
        have HZ := Lib.hid hz
        have HS := Lib.hid hs
        clear hs HR hz hrow
        by_cases hd : now < s.deadline
        · go_wp2
          refine wp_region_quiet_below (by kernel_rfl) (by kernel_rfl) ?_
          repeat (first
            | go_big_quiet_skip
            | (go_big_quiet_want; go_big_quiet_op; go_big_quiet_on))
          refine wpQuiet_nil ?_
          intro w1 hC1
          have hb1 := below_class hC1
          clear hC1 hcr h9 HAT
          go_wp2
          go_roundw
          case rel => exact HN.out _ _ _ k rfl rfl (by rw [bestStep_first hd]; exact .inr ⟨rfl, k, rfl, HS.out⟩) (HB0.out.below hb1 HB0.out.lt) (hbel.trans (hb1.mono hbel.size))
          case measure => simp [intOf]; omega
        · have hd' : decide (now < s.deadline) = false := by simpa using hd
          have E := Lib.hid (fun b => @bestStep_late now b s hd)
          clear hd
          go_wp2
          refine wp_region_quiet_below (by kernel_rfl) (by kernel_rfl) ?_
          repeat (first
            | go_big_quiet_skip
            | (go_big_quiet_want; go_big_quiet_op; go_big_quiet_on))
          refine wpQuiet_nil ?_
          intro w1 hC1
          have hb1 := below_class hC1
          clear hC1 hcr h9 HAT
          go_wp2
          go_roundw
          case rel => exact HN.out _ _ _ (-1) rfl rfl (by rw [E.out]; exact .inl ⟨rfl, rfl, HZ.out⟩) (HB0.out.below hb1 HB0.out.lt) (hbel.trans (hb1.mono hbel.size))
          case measure => simp [intOf]; omega
      · simp only at hf hj
        subst hf
        have hjl : j < xs.length := (List.getElem?_eq_some_iff.1 hj).1
        have hj0 : decide ((j : Int) < 0) = false := by simp
        have HJ := Lib.hid (((hrow j best hj).below hbel hb).class_ hbw)
        have HS := Lib.hid hs
        have HJJ := Lib.hid hj
        clear hs HR hj hrow
        by_cases hd : now < s.deadline
        · go_wp2
          refine wp_region_quiet_below (by kernel_rfl) (by kernel_rfl) ?_
          repeat (first
            | go_big_quiet_skip
            | (refine wpQuiet_load_at rfl rfl rfl HAT.out rfl rfl info28 ?_; simp only [Act.put, List.setIfInBounds_toArray, List.set_cons_zero, List.set_cons_succ])
            | (refine wpQuiet_load_at rfl rfl rfl HJ.out rfl rfl info28 ?_; simp only [Act.put, List.setIfInBounds_toArray, List.set_cons_zero, List.set_cons_succ])
            | (go_big_quiet_want; go_big_quiet_op; first | go_big_quiet_on | go_big_quiet_call (exact Calls.regrown_of (rbetter_any s best _))))
          refine wpQuiet_nil ?_
          intro w1 hC1
          have hb1 := below_class hC1
          clear hC1 hcr h9 HAT HJ
          go_wp2
          · have hbt : s.better best = true := by assumption
            go_roundw
            case rel => exact HN.out _ _ _ k rfl rfl (by rw [bestStep_yes hd hbt]; exact .inr ⟨rfl, k, rfl, HS.out⟩) (HB0.out.below hb1 HB0.out.lt) (hbel.trans (hb1.mono hbel.size))
            case measure => simp [intOf]; omega
          · have hbt : s.better best = false := by assumption
            go_roundw
            case rel => exact HN.out _ _ _ j rfl rfl (by rw [bestStep_not hbt]; exact .inr ⟨rfl, j, rfl, HJJ.out⟩) (HB0.out.below hb1 HB0.out.lt) (hbel.trans (hb1.mono hbel.size))
            case measure => simp [intOf]; omega
        · have hd' : decide (now < s.deadline) = false := by simpa using hd
          have E := Lib.hid (fun b => @bestStep_late now b s hd)
          clear hd
          go_wp2
          refine wp_region_quiet_below (by kernel_rfl) (by kernel_rfl) ?_
          repeat (first
            | go_big_quiet_skip
            | (go_big_quiet_want; go_big_quiet_op; go_big_quiet_on))
          refine wpQuiet_nil ?_
          intro w1 hC1
          have hb1 := below_class hC1
          clear hC1 hcr h9 HAT HJ
          go_wp2
          go_roundw
          case rel => exact HN.out _ _ _ j rfl rfl (by rw [E.out]; exact .inr ⟨rfl, j, rfl, HJJ.out⟩) (HB0.out.below hb1 HB0.out.lt) (hbel.trans (hb1.mono hbel.size))
          case measure => simp [intOf]; omega
    · have ht : xs.take k = xs := List.take_of_length_le (by omega)
      rw [ht] at hA
      rcases hA with ⟨hf, rfl, hz⟩ | ⟨hf, j, rfl, hj⟩
      · have HF := Lib.hid (And.intro hf hz)
        clear hf hz
        go_wp2_with (first
            | (refine wpList_store_all (vs := Sess.zero.cells) rfl rfl rfl rfl hB0 rfl (Sess.one _) info28 ?_))
        refine bodyPost_ret (results_at_tmp rfl rfl (hB0.setRow_same _).row rfl rfl info28) rfl ⟨?_, bel_setRow hbel (Nat.le_refl _) _⟩
        simp [HF.out.1, HF.out.2]
      · have hjl : j < xs.length := (List.getElem?_eq_some_iff.1 hj).1
        have hj0 : decide ((j : Int) < 0) = false := by simp
        obtain ⟨b, off, rfl, hb, hrow⟩ := HR.out (by omega)
        have HJ := Lib.hid ((hrow j _ hj).below hbel hb)
        clear hrow
        have HF := Lib.hid hf
        clear hj hf
        go_wp2_with (first
            | (refine wpList_load_at rfl rfl rfl HJ.out rfl rfl info28 ?_)
            | (refine wpList_store_all rfl rfl rfl rfl hB0 rfl (Sess.one _) info28 ?_))
        refine bodyPost_ret (results_at_tmp rfl rfl (hB0.setRow_same _).row rfl rfl info28) rfl ⟨?_, bel_setRow hbel (Nat.le_refl _) _⟩
        simp [HF.out]
end Go.Proofs.Ytnofnolkdijocaa
