/-
  Package grant: what refuses a birth, rule by rule; the first rule that is broken.
-/
import Derived.Test.YthoibafhbacfiaaDoorGPure
import Derived.Test.YthoibafhbacfiaaDoorErrno
namespace Go.Proofs.YthoibafhbacfiaaDoor
set_option maxRecDepth 100000
open Go.RowKit

/-- The error with this number; none for 0. -/
def errK (k : Int) : Value := if k = 0 then .nilIface else errno k
theorem errK_zero : errK 0 = .nilIface := rfl
theorem errK_pos {k : Int} (h : k ≠ 0) : errK k = errno k := if_neg h

theorem time_any (n : Int) (w : World) : Calls Tryd.prog 56 #[.int .i64 n] w (RetSame (.bool (decide (0 ≤ n) && decide (n ≤ 1099511627776))) w) := by
  by_cases h0 : 0 ≤ n
  · by_cases h1 : n ≤ 1099511627776
    · go_enter Tryd.func56, Tryd.ntmps56
      go_wp2
      go_ret
      exact ⟨by simp [h0, h1], rfl⟩
    · go_enter Tryd.func56, Tryd.ntmps56
      go_wp2
      go_ret
      exact ⟨by simp [h0, h1], rfl⟩
  · go_enter Tryd.func56, Tryd.ntmps56
    go_wp2
    go_ret
    exact ⟨by rw [show decide (0 ≤ n) = false from decide_eq_false (by omega)]; rfl, rfl⟩
/-- What Until answers: the deadline, or ErrTime. -/
def untilV (d : Int) : Value := .tuple #[.int .i64 d, if d = 0 then errno 12 else .nilIface]
set_option maxHeartbeats 1000000 in
theorem until_any (now life most : Int) (w : World) : Calls Tryd.prog 43 #[.int .i64 now, .int .i64 life, .int .i64 most] w (RetSame (untilV (tillZ now life most)) w) := by
  have T := Lib.hid time_any
  by_cases hc : 0 ≤ now ∧ now ≤ 1099511627776 ∧ 0 ≤ most ∧ most ≤ 1099511627776 ∧ 1 ≤ life ∧ life ≤ 1073741824 ∧ now < most
  · have e : tillZ now life most = min (now + life) most := if_pos hc
    have hne : min (now + life) most ≠ 0 := by omega
    have hV : untilV (min (now + life) most) = .tuple #[.int .i64 (min (now + life) most), .nilIface] := by unfold untilV; rw [if_neg hne]
    rw [e, hV]
    obtain ⟨a1, a2, a3, a4, a5, a6, a7⟩ := hc
    have b1 : (decide (0 ≤ now) && decide (now ≤ 1099511627776)) = true := by simp [a1, a2]
    have b2 : (decide (0 ≤ most) && decide (most ≤ 1099511627776)) = true := by simp [a3, a4]
    have b3 : ¬ life < 1 := by omega
    have b4 : ¬ 1073741824 < life := by omega
    have b5 : ¬ most ≤ now := by omega
    have b6 : IntKind.i64.wrap (now + life) = now + life := IntWalk.i64_in _ (by omega)
    clear e hne hV
    go_enter Tryd.func43, Tryd.ntmps43
    go_wp2_with (go_at_call 56; refine (T.out _ _).mono ?_; rintro e w' ⟨rfl, rfl⟩)
    all_goals (go_ret2; refine ⟨?_, rfl⟩; first | (rw [show min (now + life) most = most from by omega]; rfl) | (rw [show min (now + life) most = now + life from by omega]; rfl))
  · have e : tillZ now life most = 0 := if_neg hc
    have hV : untilV 0 = .tuple #[.int .i64 0, errno 12] := rfl
    rw [e, hV]
    clear e hV
    rcases h1 : (decide (0 ≤ now) && decide (now ≤ 1099511627776)) with _ | _
    · clear hc
      go_enter Tryd.func43, Tryd.ntmps43
      go_wp2_with (go_at_call 56; refine (T.out _ _).mono ?_; rintro e w' ⟨rfl, rfl⟩)
      go_ret2
      exact ⟨rfl, rfl⟩
    · rcases h2 : (decide (0 ≤ most) && decide (most ≤ 1099511627776)) with _ | _
      · clear hc
        go_enter Tryd.func43, Tryd.ntmps43
        go_wp2_with (go_at_call 56; refine (T.out _ _).mono ?_; rintro e w' ⟨rfl, rfl⟩)
        go_ret2
        exact ⟨rfl, rfl⟩
      · have h3 : life < 1 ∨ 1073741824 < life ∨ most ≤ now := by simp at h1 h2; omega
        clear hc
        by_cases g1 : life < 1
        · clear h3
          go_enter Tryd.func43, Tryd.ntmps43
          go_wp2_with (go_at_call 56; refine (T.out _ _).mono ?_; rintro e w' ⟨rfl, rfl⟩)
          go_ret2
          exact ⟨rfl, rfl⟩
        · by_cases g2 : 1073741824 < life
          · clear h3
            go_enter Tryd.func43, Tryd.ntmps43
            go_wp2_with (go_at_call 56; refine (T.out _ _).mono ?_; rintro e w' ⟨rfl, rfl⟩)
            go_ret2
            exact ⟨rfl, rfl⟩
          · have g3 : most ≤ now := by omega
            clear h3
            go_enter Tryd.func43, Tryd.ntmps43
            go_wp2_with (go_at_call 56; refine (T.out _ _).mono ?_; rintro e w' ⟨rfl, rfl⟩)
            go_ret2
            exact ⟨rfl, rfl⟩

/-! ### rules -/
section
variable {b : Nat} {B : Bir} {w : World}
theorem noUser_any (h : Blk w b 70 B.cells) : Calls Tryd.prog 19 #[.pointer (some ⟨b, 0, none⟩)] w (RetB (.bool (!nameB B.r.user)) w) := by
  have c := (h.cell 12).trans B.c12
  clear h
  go_enter Tryd.func19, Tryd.ntmps19
  go_wp2_with (go_at_call 44; refine (name_walk _ _).mono ?_; rintro e w' ⟨rfl, hb⟩)
  go_ret
  exact ⟨rfl, hb⟩
theorem noLabel_any (h : Blk w b 70 B.cells) : Calls Tryd.prog 31 #[.pointer (some ⟨b, 0, none⟩)] w (RetB (.bool (!nameB B.r.label)) w) := by
  have c := (h.cell 13).trans B.c13
  clear h
  go_enter Tryd.func31, Tryd.ntmps31
  go_wp2_with (go_at_call 44; refine (name_walk _ _).mono ?_; rintro e w' ⟨rfl, hb⟩)
  go_ret
  exact ⟨rfl, hb⟩
theorem noLevel_any (h : Blk w b 70 B.cells) : Calls Tryd.prog 20 #[.pointer (some ⟨b, 0, none⟩)] w (RetB (.bool (!isLev B.r.level)) w) := by
  have c := (h.cell 15).trans B.c15
  have he : enoughB B.r.level 0 = isLev B.r.level := by unfold enoughB isLev; by_cases h0 : 0 ≤ B.r.level <;> simp [h0]
  clear h
  go_enter Tryd.func20, Tryd.ntmps20
  go_wp2_with (go_at_call 45; refine (enough_any _ _ _).mono ?_; rintro e w' ⟨rfl, rfl⟩)
  go_ret
  exact ⟨rfl, Below.refl _ _⟩
theorem noTime_any (h : Blk w b 70 B.cells) : Calls Tryd.prog 21 #[.pointer (some ⟨b, 0, none⟩)] w (RetB (.bool (decide (B.till = 0))) w) := by
  have c := (h.cell 20).trans B.c20
  clear h
  go_enter Tryd.func21, Tryd.ntmps21
  go_wp2
  go_ret
  exact ⟨by simp [Bool.beq_eq_decide_eq], Below.refl _ _⟩
theorem tooLong_any (h : Blk w b 70 B.cells) : Calls Tryd.prog 36 #[.pointer (some ⟨b, 0, none⟩)] w (RetB (.bool (decide (300 < B.r.life))) w) := by
  have c := (h.cell 16).trans B.c16
  clear h
  go_enter Tryd.func36, Tryd.ntmps36
  go_wp2
  go_ret
  exact ⟨rfl, Below.refl _ _⟩
theorem tooDeep_any (h : Blk w b 70 B.cells) : Calls Tryd.prog 32 #[.pointer (some ⟨b, 0, none⟩)] w (RetB (.bool (decide (B.p.depth < 0) || decide (6 ≤ B.p.depth))) w) := by
  have c := (h.cell 11).trans B.c11
  clear h
  by_cases h0 : B.p.depth < 0
  · go_enter Tryd.func32, Tryd.ntmps32
    go_wp2
    go_ret
    exact ⟨by simp [h0], Below.refl _ _⟩
  · go_enter Tryd.func32, Tryd.ntmps32
    go_wp2
    go_ret
    exact ⟨by rw [show decide (B.p.depth < 0) = false from decide_eq_false (by omega)]; rfl, Below.refl _ _⟩
theorem noBirths_any (h : Blk w b 70 B.cells) : Calls Tryd.prog 22 #[.pointer (some ⟨b, 0, none⟩)] w (RetB (.bool (decide (B.births < 0) || decide (1048576 ≤ B.births))) w) := by
  have c := (h.cell 18).trans B.c18
  clear h
  by_cases h0 : B.births < 0
  · go_enter Tryd.func22, Tryd.ntmps22
    go_wp2
    go_ret
    exact ⟨by simp [h0], Below.refl _ _⟩
  · go_enter Tryd.func22, Tryd.ntmps22
    go_wp2
    go_ret
    exact ⟨by rw [show decide (B.births < 0) = false from decide_eq_false (by omega)]; rfl, Below.refl _ _⟩
theorem noRoom_any (h : Blk w b 70 B.cells) : Calls Tryd.prog 23 #[.pointer (some ⟨b, 0, none⟩)] w (RetB (.bool B.full) w) := by
  have c := (h.cell 19).trans B.c19
  clear h
  go_enter Tryd.func23, Tryd.ntmps23
  go_wp2
  go_ret
  exact ⟨rfl, Below.refl _ _⟩
theorem tooWide_any (h : Blk w b 70 B.cells) : Calls Tryd.prog 33 #[.pointer (some ⟨b, 0, none⟩)] w (RetB (.bool (!inB B.r.scopes B.p.scopes)) w) := by
  have c := (h.cell 14).trans B.c14
  have d := (h.cell 7).trans B.c7
  have hlt := h.lt
  have hcr := cells_regrown w
  clear h
  go_enter Tryd.func33, Tryd.ntmps33
  go_wp2
  refine wp_region_quiet_below (by kernel_rfl) (by kernel_rfl) ?_
  repeat (first
    | go_big_quiet_skip
    | (go_big_quiet_want; go_big_quiet_op; first
      | go_big_quiet_on
      | go_big_quiet_call (exact Calls.regrown_of (same_b (within_any _ _ _)))))
  refine wpQuiet_nil ?_
  intro w1 hC
  have hb1 := below_class hC
  clear hC c d hcr
  go_wp2
  go_ret
  exact ⟨rfl, hb1⟩
/-- What level.Raise answers, here. -/
theorem raise_step (a c : Int) : raiseV a c 1 = if stepB a c = true then .nilIface else errno 13 := by unfold raiseV stepB; simp
theorem noRaise_any (h : Blk w b 70 B.cells) : Calls Tryd.prog 37 #[.pointer (some ⟨b, 0, none⟩)] w (RetB (.bool (!stepB B.p.level B.r.level)) w) := by
  have c := (h.cell 15).trans B.c15
  have d := (h.cell 8).trans B.c8
  have hlt := h.lt
  have hcr := cells_regrown w
  clear h
  have hr := raise_step B.p.level B.r.level
  cases hs : stepB B.p.level B.r.level
  · rw [hs, if_neg (by simp)] at hr
    have H := Lib.hid (fun w => hr ▸ lraise_any B.p.level B.r.level 1 w)
    unfold errno at H
    clear hr hs
    go_enter Tryd.func37, Tryd.ntmps37
    go_wp2
    refine wp_region_quiet_below (by kernel_rfl) (by kernel_rfl) ?_
    repeat (first
      | go_big_quiet_skip
      | (go_big_quiet_want; go_big_quiet_op; first
        | go_big_quiet_on
        | go_big_quiet_call (exact Calls.regrown_of (H.out _))))
    refine wpQuiet_nil ?_
    intro w1 hC
    have hb1 := below_class hC
    clear hC c d hcr
    go_wp2
    go_ret
    exact ⟨rfl, hb1⟩
  · rw [hs, if_pos rfl] at hr
    have H := Lib.hid (fun w => hr ▸ lraise_any B.p.level B.r.level 1 w)
    clear hr hs
    go_enter Tryd.func37, Tryd.ntmps37
    go_wp2
    refine wp_region_quiet_below (by kernel_rfl) (by kernel_rfl) ?_
    repeat (first
      | go_big_quiet_skip
      | (go_big_quiet_want; go_big_quiet_op; first
        | go_big_quiet_on
        | go_big_quiet_call (exact Calls.regrown_of (H.out _))))
    refine wpQuiet_nil ?_
    intro w1 hC
    have hb1 := below_class hC
    clear hC c d hcr
    go_wp2
    go_ret
    exact ⟨rfl, hb1⟩
end
end Go.Proofs.YthoibafhbacfiaaDoor
