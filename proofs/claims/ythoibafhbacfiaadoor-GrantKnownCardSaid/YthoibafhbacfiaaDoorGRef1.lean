/-
  The document's answer: names, deadlines, levels, room.
-/
import Derived.Test.YthoibafhbacfiaaDoorGRules
namespace Go.Proofs.YthoibafhbacfiaaDoor
set_option maxRecDepth 100000
open Go.RowKit

theorem run_index_str (P : Program) (s : ByteArray) (k : Nat) (hk : k < s.size) {t : TypeId} (ht : P.underlying t = some .string) (w : World) : (Instr.index t (.string s) (.int .i64 k)).run P w = .ok (.int .u8 ((s[k]'hk).toNat : Int)) w := by
  rw [run_index_string w _ _ _ _ ht, dif_pos ⟨by omega, by omega⟩]
  simp only [Int.toNat_natCast]
set_option maxHeartbeats 2000000 in
theorem rname_any (s : ByteArray) (w : World) : Calls Tryd.prog 26 #[.string s] w (RetSame (.bool (nameB s)) w) := by
  by_cases hs0 : (s.size : Int) < 1
  · have e : nameB s = false := by unfold nameB; rw [decide_eq_false (p := 1 ≤ s.size) (by omega)]; simp
    rw [e]
    clear e
    go_enter Tryd.func26, Tryd.ntmps26
    go_wp2
    go_ret
    exact ⟨rfl, rfl⟩
  by_cases hs2 : (32 : Int) < (s.size : Int)
  · have e : nameB s = false := by unfold nameB; rw [decide_eq_false (p := s.size ≤ 32) (by omega)]; simp
    rw [e]
    clear e
    go_enter Tryd.func26, Tryd.ntmps26
    go_wp2
    go_ret
    exact ⟨rfl, rfl⟩
  have e : nameB s = okFrom s 0 := by unfold nameB; rw [decide_eq_true (p := s.size ≤ 32) (by omega), decide_eq_true (p := 1 ≤ s.size) (by omega)]; simp
  rw [e]
  clear e
  have HSZ := Lib.hid (show s.size ≤ 32 from by omega)
  go_enter Tryd.func26, Tryd.ntmps26
  go_wp2
  clear hs0 hs2
  go_loopw [3] (fun i wr => w = wr ∧ ∃ k : Nat, i = .int .i64 k ∧ k ≤ s.size ∧ okFrom s k = okFrom s 0) (fun i _ => s.size - (intOf i).toNat)
  case atStart => exact ⟨rfl, 0, rfl, Nat.zero_le _, rfl⟩
  case round =>
    obtain ⟨rfl, k, rfl, hk, hok⟩ := hrel
    have HOK := Lib.hid hok
    have HK0 := Lib.hid (show (k : Nat) ≤ 32 from by have := HSZ.out; omega)
    clear hok
    by_cases hp : k < s.size
    · obtain ⟨c, hc⟩ : ∃ c, (s[k]'hp).toNat = c := ⟨_, rfl⟩
      have hat := okFrom_at hp
      have hix : ∀ w, (Instr.index 9 (.string s) (.int .i64 k)).run Tryd.prog w = .ok (.int .u8 (c : Int)) w := fun w => hc ▸ run_index_str Tryd.prog s k hp rfl w
      rw [hc] at hat
      have HAT := Lib.hid hat
      have HP := Lib.hid hp
      have hlt : (k : Int) < (s.size : Int) := by omega
      have hwr : IntKind.i64.wrap ((k : Int) + 1) = (k : Int) + 1 := IntWalk.i64_in _ (by have := HK0.out; omega)
      clear hat hc hk hp
      by_cases hl : 97 ≤ c ∧ c ≤ 122
      · have HN := Lib.hid (show okFrom s (k + 1) = okFrom s 0 from by rw [← HOK.out, HAT.out]; simp [okB, ltB, hl])
        have h1 : (97 : Int) ≤ (c : Int) := by omega
        have h2 : (c : Int) ≤ 122 := by omega
        clear hl
        go_wp2
        go_roundw
        case rel => exact ⟨by trivial, k + 1, by first | rfl | simp, HP.out, HN.out⟩
        case measure => have := HP.out; simp [intOf]; omega
      · have hlb : ltB c = false := by unfold ltB; by_cases h : 97 ≤ c <;> simp [h]; omega
        by_cases h0 : k = 0
        · have HN := Lib.hid (show okFrom s 0 = false from by rw [← HOK.out, HAT.out]; simp [okB, hlb, h0])
          have h00 : ((k : Int) == 0) = true := by simp [h0]
          clear h0 hlb
          by_cases h1 : (97 : Int) ≤ (c : Int)
          · have h2 : ¬ (c : Int) ≤ 122 := by omega
            clear hl
            go_wp2
            go_ret
            exact ⟨by rw [HN.out]; rfl, rfl⟩
          · clear hl
            go_wp2
            go_ret
            exact ⟨by rw [HN.out]; rfl, rfl⟩
        · have h00 : ((k : Int) == 0) = false := by rw [beq_eq_false_iff_ne]; omega
          have hokb : okB k c = dgB c := by simp [okB, hlb, h0]
          rw [hokb] at HAT
          clear h0 hlb hokb
          have hdg : (dgB c = true ∧ (48 ≤ c ∧ c ≤ 57 ∨ c = 45 ∨ c = 95)) ∨ (dgB c = false ∧ (c < 48 ∨ 57 < c) ∧ c ≠ 45 ∧ c ≠ 95) := by
            by_cases h : 48 ≤ c ∧ c ≤ 57 ∨ c = 45 ∨ c = 95
            · exact .inl ⟨by unfold dgB; rcases h with h | h | h <;> simp [h], h⟩
            · refine .inr ⟨?_, by omega, by omega, by omega⟩
              unfold dgB
              rw [decide_eq_false (p := c = 45) (by omega), decide_eq_false (p := c = 95) (by omega)]
              by_cases h1 : 48 ≤ c
              · rw [decide_eq_false (p := c ≤ 57) (by omega)]; simp
              · rw [decide_eq_false h1]; simp
          have hx : (97 ≤ (c : Int) ∧ ¬ (c : Int) ≤ 122) ∨ ¬ 97 ≤ (c : Int) := by omega
          rcases hdg with ⟨hd, hcase⟩ | ⟨hd, hr, hn1, hn2⟩
          · have HN := Lib.hid (show okFrom s (k + 1) = okFrom s 0 from by rw [← HOK.out, HAT.out, hd, Bool.true_and])
            have hcs : (¬ (c : Int) < 48 ∧ ¬ (57 : Int) < c) ∨ (((c : Int) < 48 ∨ (57 : Int) < c) ∧ ((c : Int) = 45 ∨ (c : Int) = 95)) := by omega
            clear hl hcase hd
            rcases hx with ⟨h1, h2⟩ | h1
            all_goals
              rcases hcs with ⟨g1, g2⟩ | ⟨g1 | g1, g2 | g2⟩
              all_goals first
                | (exfalso; omega)
                | (have g3 : ((c : Int) != 45) = false := by simp [g2]
                   go_wp2
                   go_roundw
                   case rel => exact ⟨by trivial, k + 1, by first | rfl | simp, HP.out, HN.out⟩
                   case measure => have := HP.out; simp [intOf]; omega)
                | (have g3 : ((c : Int) != 95) = false := by simp [g2]
                   have g4 : ((c : Int) != 45) = true := by simp [g2]
                   go_wp2
                   go_roundw
                   case rel => exact ⟨by trivial, k + 1, by first | rfl | simp, HP.out, HN.out⟩
                   case measure => have := HP.out; simp [intOf]; omega)
                | (go_wp2
                   go_roundw
                   case rel => exact ⟨by trivial, k + 1, by first | rfl | simp, HP.out, HN.out⟩
                   case measure => have := HP.out; simp [intOf]; omega)
          · have HN := Lib.hid (show okFrom s 0 = false from by rw [← HOK.out, HAT.out, hd, Bool.false_and])
            have g3 : ((c : Int) != 45) = true := by simp; omega
            have g4 : ((c : Int) != 95) = true := by simp; omega
            clear hl hd hn1 hn2
            rcases hx with ⟨h1, h2⟩ | h1
            all_goals
              by_cases g1 : (c : Int) < 48
              · clear hr
                go_wp2
                go_ret
                exact ⟨by rw [HN.out]; rfl, rfl⟩
              · have g2 : (57 : Int) < c := by omega
                clear hr
                go_wp2
                go_ret
                exact ⟨by rw [HN.out]; rfl, rfl⟩
    · have HE := Lib.hid (okFrom_end hp)
      have hlt : ¬ (k : Int) < (s.size : Int) := by omega
      clear hp hk
      go_wp2
      go_ret
      exact ⟨by rw [← HOK.out, HE.out]; rfl, rfl⟩
theorem rtime_any (n : Int) (w : World) : Calls Tryd.prog 46 #[.int .i64 n] w (RetSame (.bool (decide (0 ≤ n) && decide (n ≤ 1099511627776))) w) := by
  by_cases h0 : 0 ≤ n
  · go_enter Tryd.func46, Tryd.ntmps46
    go_wp2
    go_ret
    exact ⟨by simp [h0], rfl⟩
  · go_enter Tryd.func46, Tryd.ntmps46
    go_wp2
    go_ret
    exact ⟨by rw [show decide (0 ≤ n) = false from decide_eq_false (by omega)]; rfl, rfl⟩
def untilR (d : Int) : Value := .tuple #[.int .i64 d, .int .i64 (if d = 0 then 12 else 0)]
set_option maxHeartbeats 1000000 in
theorem runtil_any (now life most : Int) (w : World) : Calls Tryd.prog 25 #[.int .i64 now, .int .i64 life, .int .i64 most] w (RetSame (untilR (tillZ now life most)) w) := by
  have T := Lib.hid rtime_any
  by_cases hc : 0 ≤ now ∧ now ≤ 1099511627776 ∧ 0 ≤ most ∧ most ≤ 1099511627776 ∧ 1 ≤ life ∧ life ≤ 1073741824
  · obtain ⟨a1, a2, a3, a4, a5, a6⟩ := hc
    have b1 : (decide (0 ≤ now) && decide (now ≤ 1099511627776)) = true := by simp [a1, a2]
    have b2 : (decide (0 ≤ most) && decide (most ≤ 1099511627776)) = true := by simp [a3, a4]
    have b3 : ¬ life < 1 := by omega
    have b4 : ¬ 1073741824 < life := by omega
    have b6 : IntKind.i64.wrap (now + life) = now + life := IntWalk.i64_in _ (by omega)
    have hmin : min (now + life) most = now + life ∨ min (now + life) most = most := by omega
    by_cases hm : now < most
    · have e : tillZ now life most = min (now + life) most := if_pos ⟨a1, a2, a3, a4, a5, a6, hm⟩
      have hne : min (now + life) most ≠ 0 := by omega
      have hV : untilR (min (now + life) most) = .tuple #[.int .i64 (min (now + life) most), .int .i64 0] := by unfold untilR; rw [if_neg hne]
      rw [e, hV]
      have b5 : ¬ most ≤ now := by omega
      have b7 : ¬ now + life ≤ now := by omega
      clear e hne hV hmin
      go_enter Tryd.func25, Tryd.ntmps25
      go_wp2_with (go_at_call 46; refine (T.out _ _).mono ?_; rintro e w' ⟨rfl, rfl⟩)
      all_goals (go_ret2; refine ⟨?_, rfl⟩; first | (rw [show min (now + life) most = most from by omega]; rfl) | (rw [show min (now + life) most = now + life from by omega]; rfl))
    · have e : tillZ now life most = 0 := if_neg (fun h => hm h.2.2.2.2.2.2)
      have hV : untilR 0 = .tuple #[.int .i64 0, .int .i64 12] := rfl
      rw [e, hV]
      have b5 : most ≤ now := by omega
      have b8 : ¬ now + life ≤ most := by omega
      have b9 : most < now + life := by omega
      clear e hV hmin hm
      go_enter Tryd.func25, Tryd.ntmps25
      go_wp2_with (go_at_call 46; refine (T.out _ _).mono ?_; rintro e w' ⟨rfl, rfl⟩)
      all_goals (go_ret2; exact ⟨rfl, rfl⟩)
  · have e : tillZ now life most = 0 := if_neg (fun h => hc ⟨h.1, h.2.1, h.2.2.1, h.2.2.2.1, h.2.2.2.2.1, h.2.2.2.2.2.1⟩)
    have hV : untilR 0 = .tuple #[.int .i64 0, .int .i64 12] := rfl
    rw [e, hV]
    clear e hV
    rcases h1 : (decide (0 ≤ now) && decide (now ≤ 1099511627776)) with _ | _
    · clear hc
      go_enter Tryd.func25, Tryd.ntmps25
      go_wp2_with (go_at_call 46; refine (T.out _ _).mono ?_; rintro e w' ⟨rfl, rfl⟩)
      go_ret2
      exact ⟨rfl, rfl⟩
    · rcases h2 : (decide (0 ≤ most) && decide (most ≤ 1099511627776)) with _ | _
      · clear hc
        go_enter Tryd.func25, Tryd.ntmps25
        go_wp2_with (go_at_call 46; refine (T.out _ _).mono ?_; rintro e w' ⟨rfl, rfl⟩)
        go_ret2
        exact ⟨rfl, rfl⟩
      · have h3 : life < 1 ∨ 1073741824 < life := by simp at h1 h2; omega
        clear hc
        by_cases g1 : life < 1
        · clear h3
          go_enter Tryd.func25, Tryd.ntmps25
          go_wp2_with (go_at_call 46; refine (T.out _ _).mono ?_; rintro e w' ⟨rfl, rfl⟩)
          go_ret2
          exact ⟨rfl, rfl⟩
        · have g2 : 1073741824 < life := by omega
          clear h3
          go_enter Tryd.func25, Tryd.ntmps25
          go_wp2_with (go_at_call 46; refine (T.out _ _).mono ?_; rintro e w' ⟨rfl, rfl⟩)
          go_ret2
          exact ⟨rfl, rfl⟩
theorem risL_any (l : Int) (w : World) : Calls Tryd.prog 27 #[.int .i64 l] w (RetSame (.bool (isLev l)) w) := by
  by_cases h1 : 0 ≤ l
  · go_enter Tryd.func27, Tryd.ntmps27
    go_wp2
    go_ret
    exact ⟨by simp [isLev, h1], rfl⟩
  · go_enter Tryd.func27, Tryd.ntmps27
    go_wp2
    go_ret
    exact ⟨by unfold isLev; rw [show decide (0 ≤ l) = false from decide_eq_false (by omega)]; rfl, rfl⟩
theorem rroom_any (b : Int) (f : Bool) (w : World) : Calls Tryd.prog 28 #[.int .i64 b, .bool f] w (RetSame (.int .i64 (roomNo b f)) w) := by
  by_cases h0 : b < 0
  · have e : roomNo b f = 18 := if_pos (.inl h0)
    rw [e]
    clear e
    go_enter Tryd.func28, Tryd.ntmps28
    go_wp2
    go_ret
    exact ⟨rfl, rfl⟩
  · by_cases h1 : 1048576 ≤ b
    · have e : roomNo b f = 18 := if_pos (.inr h1)
      rw [e]
      clear e
      go_enter Tryd.func28, Tryd.ntmps28
      go_wp2
      go_ret
      exact ⟨rfl, rfl⟩
    · have e : roomNo b f = if f = true then 19 else 0 := if_neg (by omega)
      rw [e]
      clear e
      cases f
      all_goals
        go_enter Tryd.func28, Tryd.ntmps28
        go_wp2
        go_ret
        exact ⟨rfl, rfl⟩
end Go.Proofs.YthoibafhbacfiaaDoor
