import Derived.Test.YtnofnolkdijocaaLev
namespace Go.Proofs.Ytnofnolkdijocaa
open Go.RowKit

set_option maxHeartbeats 400000 in
theorem works_any (w : World) : Calls Try.prog 11 #[] w (RetB (.bool true) w) := by
  have e1 : levErr 1 = .nilIface := rfl
  have e2 : enoughB 2 1 = true := rfl
  have e3 : enoughB 0 1 = false := rfl
  have e4 : levName 1 = midS := rfl
  have e5 : midS.toList = [109, 105, 100] := by decide +kernel
  go_enter Try.func11, Try.ntmps11
  go_wp2_with (first
    | (go_at_call 13; refine (name_any _ _).mono ?_; rintro e w1 ⟨rfl, hb⟩)
    | (go_at_call 16; refine (enough_any _ _ _).mono ?_; rintro e w' ⟨rfl, rfl⟩))
  go_ret
  exact ⟨rfl, hb⟩

theorem back_have {a : Int} (h : isLev a = true) : levErr a = .nilIface ∧ (levParse (levName a)).1 = a ∧ (levParse (levName a)).2 = .nilIface := by
  rcases lev_cases a with rfl | rfl | rfl | ⟨_, hl⟩
  · exact ⟨rfl, by decide +kernel, by kernel_rfl⟩
  · exact ⟨rfl, by decide +kernel, by kernel_rfl⟩
  · exact ⟨rfl, by decide +kernel, by kernel_rfl⟩
  · rw [hl] at h; cases h

theorem back_parse (s : ByteArray) : (∃ l, (levParse s).1 = l ∧ (levParse s).2 = .nilIface ∧ levErr l = .nilIface ∧ (levName l).toList = s.toList) ∨ (levParse s).2 = errno 4 := by
  unfold levParse
  by_cases h1 : lowS.toList = s.toList
  · exact .inl ⟨0, by simp [h1], by simp [h1], rfl, by rw [← h1]; rfl⟩
  by_cases h2 : midS.toList = s.toList
  · exact .inl ⟨1, by simp [h1, h2], by simp [h1, h2], rfl, by rw [← h2]; rfl⟩
  by_cases h3 : highS.toList = s.toList
  · exact .inl ⟨2, by simp [h1, h2, h3], by simp [h1, h2, h3], rfl, by rw [← h3]; rfl⟩
  · exact .inr (by simp [h1, h2, h3])

theorem back_raise (a b c : Int) : (raiseV a b c = .nilIface ∧ enoughB b a = true ∧ enoughB a b = false ∧ a ≠ 2 ∧ 0 < c ∧ c ≤ 300) ∨ ∃ k, raiseV a b c = errno k := by
  unfold raiseV
  by_cases h : (isLev a && isLev b && decide (a < b)) = true
  · rw [if_pos h]
    by_cases hc : c < 1 ∨ 300 < c
    · rw [if_pos hc]; exact .inr ⟨_, rfl⟩
    · rw [if_neg hc]
      refine .inl ⟨rfl, ?_, ?_, ?_, by omega, by omega⟩ <;> simp [isLev, enoughB] at h ⊢ <;> omega
  · rw [if_neg h]; exact .inr ⟨_, rfl⟩

set_option maxHeartbeats 2000000 in
theorem levelBack_any (a b c : Int) (s : ByteArray) (w : World) : Calls Try.prog 5 #[.int .i64 a, .int .i64 b, .int .i64 c, .string s] w (RetB (.bool true) w) := by
  go_enter Try.func5, Try.ntmps5
  go_wp2_with (go_at_call 11; refine (works_any _).mono ?_; rintro e w1 ⟨rfl, hb1⟩)
  refine (name_any _ _).mono ?_
  rintro e w2 ⟨rfl, hb2⟩
  have hbel2 := hb1.trans (hb2.mono hb1.size)
  clear hb1 hb2
  cases ha : isLev a
  · have e1 : levErr a = .iface 49 (.int .i64 13) := by simp [levErr, ha, errno]
    clear ha
    go_wp2_with fail
    refine (parse_any _ _).mono ?_
    rintro e w4 ⟨rfl, hb4⟩
    have hbel4 := hbel2.trans (hb4.mono hbel2.size)
    clear hbel2 hb4 e1
    rcases back_parse s with ⟨l, f1, f2, f3, f4⟩ | f2
    · subst f1
      go_wp2_with fail
      refine (name_any _ _).mono ?_
      rintro e w5 ⟨rfl, hb5⟩
      have hbel5 := hbel4.trans (hb5.mono hbel4.size)
      clear hbel4 hb5 f2
      go_wp2_with fail
      refine (raise_any _ _ _ _).mono ?_
      rintro e w6 ⟨rfl, hb6⟩
      have hbel6 := hbel5.trans (hb6.mono hbel5.size)
      clear hbel5 hb6 f3 f4
      rcases back_raise a b c with ⟨g1, g2, g3, g4, g5, g6⟩ | ⟨k, g1⟩
      · have g4' : (a != 2) = true := by simpa using g4
        clear g4
        go_wp2_with (go_at_call 16; refine (enough_any _ _ _).mono ?_; rintro e w' ⟨rfl, rfl⟩)
        go_ret
        exact ⟨rfl, hbel6⟩
      · unfold errno at g1
        go_wp2_with fail
        go_ret
        exact ⟨rfl, hbel6⟩
    · unfold errno at f2
      go_wp2_with fail
      refine (raise_any _ _ _ _).mono ?_
      rintro e w6 ⟨rfl, hb6⟩
      have hbel6 := hbel4.trans (hb6.mono hbel4.size)
      clear hbel4 hb6 f2
      rcases back_raise a b c with ⟨g1, g2, g3, g4, g5, g6⟩ | ⟨k, g1⟩
      · have g4' : (a != 2) = true := by simpa using g4
        clear g4
        go_wp2_with (go_at_call 16; refine (enough_any _ _ _).mono ?_; rintro e w' ⟨rfl, rfl⟩)
        go_ret
        exact ⟨rfl, hbel6⟩
      · unfold errno at g1
        go_wp2_with fail
        go_ret
        exact ⟨rfl, hbel6⟩
  · obtain ⟨e1, e2, e3⟩ := back_have ha
    clear ha
    go_wp2_with fail
    refine (parse_any _ _).mono ?_
    rintro e w3 ⟨rfl, hb3⟩
    have hbel3 := hbel2.trans (hb3.mono hbel2.size)
    clear hbel2 hb3 e1
    go_wp2_with fail
    refine (parse_any _ _).mono ?_
    rintro e w4 ⟨rfl, hb4⟩
    have hbel4 := hbel3.trans (hb4.mono hbel3.size)
    clear hbel3 hb4 e2 e3
    rcases back_parse s with ⟨l, f1, f2, f3, f4⟩ | f2
    · subst f1
      go_wp2_with fail
      refine (name_any _ _).mono ?_
      rintro e w5 ⟨rfl, hb5⟩
      have hbel5 := hbel4.trans (hb5.mono hbel4.size)
      clear hbel4 hb5 f2
      go_wp2_with fail
      refine (raise_any _ _ _ _).mono ?_
      rintro e w6 ⟨rfl, hb6⟩
      have hbel6 := hbel5.trans (hb6.mono hbel5.size)
      clear hbel5 hb6 f3 f4
      rcases back_raise a b c with ⟨g1, g2, g3, g4, g5, g6⟩ | ⟨k, g1⟩
      · have g4' : (a != 2) = true := by simpa using g4
        clear g4
        go_wp2_with (go_at_call 16; refine (enough_any _ _ _).mono ?_; rintro e w' ⟨rfl, rfl⟩)
        go_ret
        exact ⟨rfl, hbel6⟩
      · unfold errno at g1
        go_wp2_with fail
        go_ret
        exact ⟨rfl, hbel6⟩
    · unfold errno at f2
      go_wp2_with fail
      refine (raise_any _ _ _ _).mono ?_
      rintro e w6 ⟨rfl, hb6⟩
      have hbel6 := hbel4.trans (hb6.mono hbel4.size)
      clear hbel4 hb6 f2
      rcases back_raise a b c with ⟨g1, g2, g3, g4, g5, g6⟩ | ⟨k, g1⟩
      · have g4' : (a != 2) = true := by simpa using g4
        clear g4
        go_wp2_with (go_at_call 16; refine (enough_any _ _ _).mono ?_; rintro e w' ⟨rfl, rfl⟩)
        go_ret
        exact ⟨rfl, hbel6⟩
      · unfold errno at g1
        go_wp2_with fail
        go_ret
        exact ⟨rfl, hbel6⟩
end Go.Proofs.Ytnofnolkdijocaa
