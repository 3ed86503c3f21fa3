/-
  Package lineageref05: Is, Name, Parse, Enough, Raise; the walks of LevelNames and LevelRaises.
-/
import Derived.Test.YtnofnolkdijocaaDoorLev
import Derived.Test.YtnofnolkdijocaaDoorPlain
namespace Go.Proofs.YtnofnolkdijocaaDoor
set_option maxRecDepth 100000
open Go.RowKit

theorem ris_any (l : Int) (w : World) : Calls Tryd.prog 18 #[.int .i64 l] w (RetSame (.bool (isLev l)) w) := by
  by_cases h1 : 0 ≤ l
  · by_cases h2 : l ≤ 2
    · go_enter Tryd.func18, Tryd.ntmps18
      go_wp2
      go_ret
      exact ⟨by simp [isLev, h1, h2], rfl⟩
    · go_enter Tryd.func18, Tryd.ntmps18
      go_wp2
      go_ret
      exact ⟨by simp [isLev, h1]; omega, rfl⟩
  · go_enter Tryd.func18, Tryd.ntmps18
    go_wp2
    go_ret
    exact ⟨by simp [isLev]; omega, rfl⟩
def levNo (l : Int) : Int := if isLev l then 0 else 13
theorem levErr_of (l : Int) : levErr l = errOf (levNo l) := by
  unfold levErr levNo errOf
  cases isLev l <;> rfl
theorem rname_any (l : Int) (w : World) : Calls Tryd.prog 5 #[.int .i64 l] w (RetSame (.tuple #[.string (levName l), .int .i64 (levNo l)]) w) := by
  rcases lev_cases l with rfl | rfl | rfl | ⟨h, hl⟩
  · go_enter Tryd.func5, Tryd.ntmps5
    go_wp2
    go_ret2
    exact ⟨rfl, rfl⟩
  · go_enter Tryd.func5, Tryd.ntmps5
    go_wp2
    go_ret2
    exact ⟨rfl, rfl⟩
  · go_enter Tryd.func5, Tryd.ntmps5
    go_wp2
    go_ret2
    exact ⟨rfl, rfl⟩
  · have h0 : l ≠ 0 := by omega
    have h1 : l ≠ 1 := by omega
    have h2 : l ≠ 2 := by omega
    have hv : levName l = ⟨#[]⟩ := by simp [levName, h0, h1, h2]
    have hn : levNo l = 13 := by simp [levNo, hl]
    rw [hv, hn]
    have b0 : (l == 0) = false := by simpa using h0
    have b1 : (l == 1) = false := by simpa using h1
    have b2 : (l == 2) = false := by simpa using h2
    clear hv hn hl h
    go_enter Tryd.func5, Tryd.ntmps5
    go_wp2
    go_ret2
    exact ⟨rfl, rfl⟩
def levPNo (s : ByteArray) : Int := if lowS.toList = s.toList then 0 else if midS.toList = s.toList then 0 else if highS.toList = s.toList then 0 else 4
theorem levParse_of (s : ByteArray) : (levParse s).2 = errOf (levPNo s) := by
  unfold levParse levPNo errOf
  by_cases h1 : lowS.toList = s.toList
  · simp [h1]
  · by_cases h2 : midS.toList = s.toList
    · simp [h1, h2]
    · by_cases h3 : highS.toList = s.toList
      · simp [h1, h2, h3]
      · simp [h1, h2, h3]
theorem renough_any (a b : Int) (w : World) : Calls Tryd.prog 11 #[.int .i64 a, .int .i64 b] w (RetSame (.bool (enoughB a b)) w) := by
  cases ha : isLev a
  · go_enter Tryd.func11, Tryd.ntmps11
    go_wp2_with (go_at_call 18; refine (ris_any _ _).mono ?_; rintro e w' ⟨rfl, rfl⟩)
    go_ret
    exact ⟨by simp [enoughB, ha], rfl⟩
  · cases hb : isLev b
    · go_enter Tryd.func11, Tryd.ntmps11
      go_wp2_with (go_at_call 18; refine (ris_any _ _).mono ?_; rintro e w' ⟨rfl, rfl⟩)
      go_ret
      exact ⟨by simp [enoughB, hb], rfl⟩
    · go_enter Tryd.func11, Tryd.ntmps11
      go_wp2_with (go_at_call 18; refine (ris_any _ _).mono ?_; rintro e w' ⟨rfl, rfl⟩)
      go_ret
      exact ⟨by simp [enoughB, ha, hb], rfl⟩
def raiseNo (a b c : Int) : Int := if isLev a && isLev b && decide (a < b) then (if c < 1 ∨ 300 < c then 12 else 0) else 13
theorem raiseV_of (a b c : Int) : raiseV a b c = errOf (raiseNo a b c) := by
  unfold raiseV raiseNo errOf
  by_cases h : (isLev a && isLev b && decide (a < b)) = true
  · rw [if_pos h, if_pos h]
    by_cases h2 : c < 1 ∨ 300 < c
    · rw [if_pos h2, if_pos h2]; rfl
    · rw [if_neg h2, if_neg h2]; rfl
  · rw [if_neg h, if_neg h]; rfl
theorem raiseNo_le (a b c : Int) : 0 ≤ raiseNo a b c ∧ raiseNo a b c ≤ 24 := by
  unfold raiseNo
  split
  · split <;> decide
  · decide
set_option maxHeartbeats 1000000 in
theorem rraise_any (a b c : Int) (w : World) : Calls Tryd.prog 13 #[.int .i64 a, .int .i64 b, .int .i64 c] w (RetSame (.int .i64 (raiseNo a b c)) w) := by
  go_enter Tryd.func13, Tryd.ntmps13
  go_wp2_with (go_at_call 18; refine (ris_any _ _).mono ?_; rintro e w' ⟨rfl, rfl⟩)
  all_goals
    go_ret
    refine ⟨?_, rfl⟩
    simp_all [raiseNo]
    try omega
set_option maxHeartbeats 1000000 in
theorem rparse_any (s : ByteArray) (w : World) : Calls Tryd.prog 6 #[.string s] w (RetSame (.tuple #[.int .i64 (levParse s).1, .int .i64 (levPNo s)]) w) := by
  have n0 : ∀ w, Calls Tryd.prog 5 #[.int .i64 0] w (RetSame (.tuple #[.string lowS, .int .i64 0]) w) := fun w => rname_any 0 w
  have n1 : ∀ w, Calls Tryd.prog 5 #[.int .i64 1] w (RetSame (.tuple #[.string midS, .int .i64 0]) w) := fun w => rname_any 1 w
  have n2 : ∀ w, Calls Tryd.prog 5 #[.int .i64 2] w (RetSame (.tuple #[.string highS, .int .i64 0]) w) := fun w => rname_any 2 w
  have H0 := Lib.hid n0
  have H1 := Lib.hid n1
  have H2 := Lib.hid n2
  clear n0 n1 n2
  by_cases e0 : lowS.toList = s.toList
  · have b0 : (lowS.toList == s.toList) = true := by simpa using e0
    have hv : (levParse s).1 = 0 ∧ levPNo s = 0 := by simp [levParse, levPNo, e0]
    rw [hv.1, hv.2]
    clear hv e0
    go_enter Tryd.func6, Tryd.ntmps6
    go_wp2
    refine wp_loop_rounds 4 ?_
    rw [rounds_succ]
    go_wp2_with (go_at_call 5; refine (H0.out _).mono ?_; rintro e w' ⟨rfl, rfl⟩)
    go_ret2
    exact ⟨rfl, rfl⟩
  · have b0 : (lowS.toList == s.toList) = false := by simpa using e0
    by_cases e1 : midS.toList = s.toList
    · have b1 : (midS.toList == s.toList) = true := by simpa using e1
      have hv : (levParse s).1 = 1 ∧ levPNo s = 0 := by simp [levParse, levPNo, e0, e1]
      rw [hv.1, hv.2]
      clear hv e0 e1
      go_enter Tryd.func6, Tryd.ntmps6
      go_wp2
      refine wp_loop_rounds 4 ?_
      rw [rounds_succ]
      go_wp2_with (go_at_call 5; refine (H0.out _).mono ?_; rintro e w' ⟨rfl, rfl⟩)
      rw [rounds_succ]
      go_wp2_with (go_at_call 5; refine (H1.out _).mono ?_; rintro e w' ⟨rfl, rfl⟩)
      go_ret2
      exact ⟨rfl, rfl⟩
    · have b1 : (midS.toList == s.toList) = false := by simpa using e1
      by_cases e2 : highS.toList = s.toList
      · have b2 : (highS.toList == s.toList) = true := by simpa using e2
        have hv : (levParse s).1 = 2 ∧ levPNo s = 0 := by simp [levParse, levPNo, e0, e1, e2]
        rw [hv.1, hv.2]
        clear hv e0 e1 e2
        go_enter Tryd.func6, Tryd.ntmps6
        go_wp2
        refine wp_loop_rounds 4 ?_
        rw [rounds_succ]
        go_wp2_with (go_at_call 5; refine (H0.out _).mono ?_; rintro e w' ⟨rfl, rfl⟩)
        rw [rounds_succ]
        go_wp2_with (go_at_call 5; refine (H1.out _).mono ?_; rintro e w' ⟨rfl, rfl⟩)
        rw [rounds_succ]
        go_wp2_with (go_at_call 5; refine (H2.out _).mono ?_; rintro e w' ⟨rfl, rfl⟩)
        go_ret2
        exact ⟨rfl, rfl⟩
      · have b2 : (highS.toList == s.toList) = false := by simpa using e2
        have hv : (levParse s).1 = 0 ∧ levPNo s = 4 := by simp [levParse, levPNo, e0, e1, e2]
        rw [hv.1, hv.2]
        clear hv e0 e1 e2
        go_enter Tryd.func6, Tryd.ntmps6
        go_wp2
        refine wp_loop_rounds 4 ?_
        rw [rounds_succ]
        go_wp2_with (go_at_call 5; refine (H0.out _).mono ?_; rintro e w' ⟨rfl, rfl⟩)
        rw [rounds_succ]
        go_wp2_with (go_at_call 5; refine (H1.out _).mono ?_; rintro e w' ⟨rfl, rfl⟩)
        rw [rounds_succ]
        go_wp2_with (go_at_call 5; refine (H2.out _).mono ?_; rintro e w' ⟨rfl, rfl⟩)
        rw [rounds_succ]
        go_wp2
        go_ret2
        exact ⟨rfl, rfl⟩

set_option maxHeartbeats 1000000 in
theorem levelNames_any (l : Int) (s : ByteArray) (w : World) (hg : Laid w) : Calls Tryd.prog 3 #[.int .i64 l, .string s] w (RetB (.bool true) w) := by
  have HG := Lib.hid hg
  have hpos := hg.pos
  have hn : ∀ w, Calls Tryd.prog 7 #[.int .i64 l] w (RetB (.tuple #[.string (levName l), errOf (levNo l)]) w) := fun w => by rw [← levErr_of]; exact name_any l w
  have hp : ∀ w, Calls Tryd.prog 8 #[.string s] w (RetB (.tuple #[.int .i64 (levParse s).1, errOf (levPNo s)]) w) := fun w => by rw [← levParse_of]; exact lparse_any s w
  have k1 : 0 ≤ levNo l ∧ levNo l ≤ 24 := by unfold levNo; split <;> decide
  have k2 : 0 ≤ levPNo s ∧ levPNo s ≤ 24 := by unfold levPNo; split <;> (try split) <;> (try split) <;> decide
  have HN := Lib.hid hn
  have HP := Lib.hid hp
  have HK1 := Lib.hid k1
  have HK2 := Lib.hid k2
  have hq : ((levName l).toList == (levName l).toList) = true := by simp
  clear hg hn hp k1 k2
  go_enter Tryd.func3, Tryd.ntmps3
  go_wp2_with (first
    | (go_at_call 5; refine (rname_any l _).mono ?_; rintro e w' ⟨rfl, rfl⟩)
    | (go_at_call 6; refine (rparse_any s _).mono ?_; rintro e w' ⟨rfl, rfl⟩)
    | (go_at_call 7; fail))
  refine (HN.out _).mono ?_
  rintro e w1 ⟨rfl, h1⟩
  have HB1 := Lib.hid h1
  have hs1 := h1.size
  clear h1
  go_wp2_with (first
    | (go_at_call 8; fail))
  refine (HP.out _).mono ?_
  rintro e w2 ⟨rfl, h2⟩
  have HB2 := Lib.hid (HB1.out.trans (h2.mono hs1))
  have hs2 := HB2.out.size
  clear h2 HB1 hs1
  go_wp2_with (first
    | (go_at_call 9; fail))
  refine (plain_same _ HK1.out.1 HK1.out.2 _ (HG.out.below HB2.out hpos)).mono ?_
  rintro e w3 ⟨rfl, h3⟩
  have HB3 := Lib.hid (HB2.out.trans (h3.mono hs2))
  have hs3 := HB3.out.size
  clear h3 HB2 hs2
  go_wp2_with (first
    | (go_at_call 9; fail))
  refine (plain_same _ HK2.out.1 HK2.out.2 _ (HG.out.below HB3.out hpos)).mono ?_
  rintro e w4 ⟨rfl, h4⟩
  have HB4 := HB3.out.trans (h4.mono hs3)
  clear h4 HB3 hs3
  go_wp2
  go_ret
  exact ⟨rfl, HB4⟩
set_option maxHeartbeats 1000000 in
theorem levelRaises_any (a b c : Int) (w : World) (hg : Laid w) : Calls Tryd.prog 4 #[.int .i64 a, .int .i64 b, .int .i64 c] w (RetB (.bool true) w) := by
  have HG := Lib.hid hg
  have hpos := hg.pos
  have hr : ∀ w, Calls Tryd.prog 12 #[.int .i64 a, .int .i64 b, .int .i64 c] w (RetB (errOf (raiseNo a b c)) w) := fun w => by rw [← raiseV_of]; exact lraise_any a b c w
  have HR := Lib.hid hr
  have hq : (enoughB a b == enoughB a b) = true := by simp
  clear hg hr
  go_enter Tryd.func4, Tryd.ntmps4
  go_wp2_with (first
    | (go_at_call 10; refine (enough_any a b _).mono ?_; rintro e w' ⟨rfl, rfl⟩)
    | (go_at_call 11; refine (renough_any a b _).mono ?_; rintro e w' ⟨rfl, rfl⟩)
    | (go_at_call 12; fail))
  refine (HR.out _).mono ?_
  rintro e w1 ⟨rfl, h1⟩
  have HB1 := Lib.hid h1
  have hs1 := h1.size
  clear h1
  go_wp2_with (first
    | (go_at_call 13; refine (rraise_any a b c _).mono ?_; rintro e w' ⟨rfl, rfl⟩)
    | (go_at_call 9; fail))
  refine (plain_same _ (raiseNo_le a b c).1 (raiseNo_le a b c).2 _ (HG.out.below HB1.out hpos)).mono ?_
  rintro e w2 ⟨rfl, h2⟩
  have HB2 := HB1.out.trans (h2.mono hs1)
  clear h2 HB1 hs1
  go_wp2
  go_ret
  exact ⟨rfl, HB2⟩
end Go.Proofs.YtnofnolkdijocaaDoor
