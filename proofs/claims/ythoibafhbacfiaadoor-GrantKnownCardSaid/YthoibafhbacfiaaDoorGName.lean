/-
  strings.IndexByte, IndexRune, ContainsRune (of the digits, '-' and '_'), names.Name.
-/
import Derived.Test.YthoibafhbacfiaaDoorProg
import Derived.Test.YthoibafhbacfiaaDoorMem
import Derived.Lib.Bytealg
namespace Go.Proofs.YthoibafhbacfiaaDoor
set_option maxRecDepth 100000
open Go.RowKit

/-- A name's letter, at the first place and behind. -/
def ltB (c : Nat) : Bool := decide (97 ≤ c) && decide (c ≤ 122)
def dgB (c : Nat) : Bool := (decide (48 ≤ c) && decide (c ≤ 57)) || decide (c = 45) || decide (c = 95)
def okB (i c : Nat) : Bool := ltB c || (decide (i ≠ 0) && dgB c)
def okFrom (s : ByteArray) (i : Nat) : Bool := if h : i < s.size then okB i (s[i]'h).toNat && okFrom s (i + 1) else true
termination_by s.size - i
/-- Is a text a name? -/
def nameB (s : ByteArray) : Bool := decide (1 ≤ s.size) && decide (s.size ≤ 32) && okFrom s 0
theorem okFrom_at {s : ByteArray} {i : Nat} (h : i < s.size) : okFrom s i = (okB i (s[i]'h).toNat && okFrom s (i + 1)) := by rw [okFrom, dif_pos h]
theorem okFrom_end {s : ByteArray} {i : Nat} (h : ¬ i < s.size) : okFrom s i = true := by rw [okFrom, dif_neg h]

theorem bel_drewN (w : World) (n : Nat) : Below w.heap.size w (w.drewN n) := ⟨rfl, rfl, rfl, Nat.le_refl _, fun _ _ => rfl⟩
theorem run_ibs (s : ByteArray) (c : Int) (w : World) : (callFunc 70 #[.string s, .int .u8 c]).run Tryd.prog w = .ok (.value (.int .i64 (firstIdx s c.toNat.toUInt8))) w := by
  refine (run_callFunc_extern Tryd.func70 (e := Extern.BytealgIndexByte.indexByte) rfl rfl rfl rfl _ w).trans ?_
  rw [run_indexByte_string]
  rfl
theorem sl_ib (s : ByteArray) (c : Int) (w : World) : Calls Tryd.prog 69 #[.string s, .int .u8 c] w (RetSame (.int .i64 (firstIdx s c.toNat.toUInt8)) w) := by
  have H := run_ibs
  go_enter Tryd.func69, Tryd.ntmps69
  go_wp2
  go_ret
  exact ⟨rfl, rfl⟩
theorem str_ib (s : ByteArray) (c : Int) (w : World) : Calls Tryd.prog 65 #[.string s, .int .u8 c] w (RetSame (.int .i64 (firstIdx s c.toNat.toUInt8)) w) := by
  go_enter Tryd.func65, Tryd.ntmps65
  go_wp2_with (go_at_call 69; refine (sl_ib _ _ _).mono ?_; rintro e w' ⟨rfl, rfl⟩)
  go_ret
  exact ⟨rfl, rfl⟩
theorem valid_rune (r : Int) (w : World) : Calls Tryd.prog 66 #[.int .i32 r] w (RetSame (.bool (validRune r)) w) := by
  go_enter Tryd.func66, Tryd.ntmps66
  go_wp2
  all_goals (go_ret; exact ⟨by simp_all [validRune]; try omega, rfl⟩)

theorem ir_low (s : ByteArray) (r : Int) (h0 : 0 ≤ r) (h1 : r < 128) (w : World) : Calls Tryd.prog 64 #[.string s, .int .i32 r] w (RetSame (.int .i64 (firstIdx s r.toNat.toUInt8)) w) := by
  have hw : IntKind.u8.wrap r = r := by unfold IntKind.wrap; simp [IntKind.bits, IntKind.signed]; omega
  go_enter Tryd.func64, Tryd.ntmps64
  go_wp2_with (go_at_call 65; refine (str_ib _ _ _).mono ?_; rintro e w' ⟨rfl, rfl⟩)
  go_ret
  exact ⟨rfl, rfl⟩

theorem ir_high (s : ByteArray) (r : Int) (w : World) (hs : s.size = 12) (ha : ∀ b ∈ s.data.toList, b.toNat < 128) (h128 : 128 ≤ r) : Calls Tryd.prog 64 #[.string s, .int .i32 r] w (RetB (.int .i64 (-1)) w) := by
  have hlow : ∀ j (h : j < s.size), (s[j]'h).toNat < 128 := fun j h => ha _ (by
    have : s.data[j]'h ∈ s.data.toList := Array.getElem_mem_toList (xs := s.data) h
    exact this)
  by_cases h3 : r = 65533
  · subst h3
    clear h128
    go_enter Tryd.func64, Tryd.ntmps64
    go_wp2
    go_loopw [] (fun w' => ∃ pos : Nat, w' = w.iter s pos) (fun w' => s.size - w'.iterPos w.heap.size)
    case atStart => exact ⟨0, rfl⟩
    case round =>
      obtain ⟨pos, rfl⟩ := hrel
      by_cases hp : pos < s.size
      · have hb := hlow pos hp
        have hnx : ∀ ty, (Instr.next (.pointer (some ⟨w.heap.size, 0, none⟩)) true ty).run Tryd.prog (w.iter s pos) = _ := fun ty => run_next_ascii w s pos ty hp hb
        have hne : ((((s[pos]'hp).toNat : Nat) : Int) == 65533) = false := by rw [beq_eq_false_iff_ne]; omega
        go_wp2
        go_roundw
        case rel => exact ⟨pos + 1, rfl⟩
        case measure => simp; omega
      · have hnx : ∀ ty, (Instr.next (.pointer (some ⟨w.heap.size, 0, none⟩)) true ty).run Tryd.prog (w.iter s pos) = _ := fun ty => run_next_end w s pos ty hp
        go_wp2
        go_ret
        exact ⟨rfl, (Below.refl _ _).alloc (Nat.le_refl _) _⟩
  · rcases hv : validRune r with _ | _
    · have hv' : (r == 65533) = false := by rw [beq_eq_false_iff_ne]; exact h3
      go_enter Tryd.func64, Tryd.ntmps64
      go_wp2_with (go_at_call 66; refine (valid_rune _ _).mono ?_; rintro e w' ⟨rfl, rfl⟩)
      go_ret
      exact ⟨rfl, Below.refl _ _⟩
    · obtain ⟨e1, e2, e3⟩ := encode_facts r (by rw [validRune_eq]; exact hv) h128
      have hv' : (r == 65533) = false := by rw [beq_eq_false_iff_ne]; exact h3
      generalize hE : Utf8.encode r = E at e1 e2 e3
      have hcv : ∀ w, (convert 21 9 (.int .i32 r)).run Tryd.prog w = .ok (.string E) w := fun w => by rw [← hE]; exact run_convert_int_string w _ _ _ _ rfl rfl
      obtain ⟨L, hL⟩ : ∃ L, E.size = L + 1 := ⟨E.size - 1, by omega⟩
      have hb : 128 ≤ (E[L]'(by omega)).toNat := by
        have := e3 (by omega)
        simp only [hL, Nat.add_sub_cancel] at this
        exact this
      have hd := hlow L (by omega)
      have hT : firstIdx (s.extract (L + 1) s.size) (E[L]'(by omega)) = -1 := firstIdx_ascii _ _ _ _ ha hb
      obtain ⟨S', hS⟩ : ∃ S', s.extract (L + 1) s.size = S' := ⟨_, rfl⟩
      obtain ⟨c, hc⟩ : ∃ c : UInt8, E[L]'(by omega) = c := ⟨_, rfl⟩
      obtain ⟨d, hdd⟩ : ∃ d : UInt8, s[L]'(by omega) = d := ⟨_, rfl⟩
      rw [hc] at hb hT
      rw [hdd] at hd
      have hcd : (((d.toNat : Nat) : Int) == ((c.toNat : Nat) : Int)) = false := by rw [beq_eq_false_iff_ne]; omega
      have i1 : ∀ w, (Instr.index 9 (.string E) (.int .i64 L)).run Tryd.prog w = .ok (.int .u8 (c.toNat : Int)) w := fun w => by
        rw [run_index_string w _ _ _ _ rfl, dif_pos ⟨by omega, by omega⟩]
        simp only [Int.toNat_natCast, hc]
      have i2 : ∀ w, (Instr.index 9 (.string s) (.int .i64 L)).run Tryd.prog w = .ok (.int .u8 (d.toNat : Int)) w := fun w => by
        rw [run_index_string w _ _ _ _ rfl, dif_pos ⟨by omega, by omega⟩]
        simp only [Int.toNat_natCast, hdd]
      have i3 : ∀ w, (Instr.slice 9 (.string s) (some (.int .i64 ((L : Int) + 1))) none none).run Tryd.prog w = .ok (.string S') w := fun w => by
        rw [run_slice_string_from_if w _ _ _ _ rfl, if_pos ⟨by omega, by omega⟩, show ((L : Int) + 1).toNat = L + 1 from by omega, hS]
      have hz : (s.size : Int) = 12 := by omega
      have hl1 : ((L + 1 : Nat) : Int) - 1 = (L : Int) := by omega
      have hl2 : IntKind.i64.wrap (((L + 1 : Nat) : Int) - 1) = (L : Int) := by rw [hl1]; exact IntWalk.i64_in _ (by omega)
      have hl3 : IntKind.i64.wrap ((L : Int) + 1) = (L : Int) + 1 := IntWalk.i64_in _ (by omega)
      have hlt : (L : Int) < 12 := by omega
      have hR := Lib.hid (fun w => str_ib S' (c.toNat : Int) w)
      rw [show ((c.toNat : Int)).toNat.toUInt8 = c from by simp, show firstIdx S' c = -1 from by rw [← hS]; exact hT] at hR
      clear e3 hE hc hdd hS hT ha hlow e1 e2 hb hd
      go_enter Tryd.func64, Tryd.ntmps64
      go_wp2_with (go_at_call 66; refine (valid_rune _ _).mono ?_; rintro e w' ⟨rfl, rfl⟩)
      go_step3
      go_wp2
      refine wp_loop_rounds 1 ?_
      rw [rounds_succ]
      go_wp2
      go_step3
      go_wp2
      go_quiet (fail)
      go_wp2
      refine wp_region_quiet_below (by kernel_rfl) (by kernel_rfl) ?_
      repeat (first
        | go_big_quiet_skip
        | (go_big_quiet_want; go_big_quiet_op; first
          | go_big_quiet_on
          | go_big_quiet_call (exact Calls.regrown_of (same_b (hR.out _)))))
      refine wpQuiet_nil ?_
      intro w1 hC
      have hb1 := below_class hC
      clear hC
      go_wp2
      rw [Exit.noGoto_ret]
      go_ret
      exact ⟨rfl, (bel_drewN w nq).trans (hb1.mono (bel_drewN w nq).size)⟩
theorem dg_any : ∀ n : Nat, n < 128 → ((⟨#[48, 49, 50, 51, 52, 53, 54, 55, 56, 57, 45, 95]⟩ : ByteArray).data.toList.any (· == n.toUInt8)) = dgB n := by decide
theorem cr_low (r : Int) (h0 : 0 ≤ r) (h1 : r < 128) (w : World) : Calls Tryd.prog 57 #[.string ⟨#[48, 49, 50, 51, 52, 53, 54, 55, 56, 57, 45, 95]⟩, .int .i32 r] w (RetSame (.bool (dgB r.toNat)) w) := by
  have hd : decide (0 ≤ firstIdx ⟨#[48, 49, 50, 51, 52, 53, 54, 55, 56, 57, 45, 95]⟩ r.toNat.toUInt8) = dgB r.toNat := (firstIdx_nonneg _ _).trans (dg_any _ (by omega))
  have H := Lib.hid (ir_low ⟨#[48, 49, 50, 51, 52, 53, 54, 55, 56, 57, 45, 95]⟩ r h0 h1)
  generalize firstIdx ⟨#[48, 49, 50, 51, 52, 53, 54, 55, 56, 57, 45, 95]⟩ r.toNat.toUInt8 = F at hd H
  rw [← hd]
  clear hd
  go_enter Tryd.func57, Tryd.ntmps57
  go_wp2_with (go_at_call 64; refine (H.out _).mono ?_; rintro e w' ⟨rfl, rfl⟩)
  go_ret
  exact ⟨rfl, rfl⟩
theorem cr_high (r : Int) (h0 : 128 ≤ r) (w : World) : Calls Tryd.prog 57 #[.string ⟨#[48, 49, 50, 51, 52, 53, 54, 55, 56, 57, 45, 95]⟩, .int .i32 r] w (RetB (.bool false) w) := by
  have H := Lib.hid (ir_high ⟨#[48, 49, 50, 51, 52, 53, 54, 55, 56, 57, 45, 95]⟩ r w rfl (by decide) h0)
  go_enter Tryd.func57, Tryd.ntmps57
  go_wp2_with (go_at_call 64; refine H.out.mono ?_; rintro e w' ⟨rfl, hb⟩)
  go_ret
  exact ⟨rfl, hb⟩
theorem w_iter_below (w : World) (s : ByteArray) (pos : Nat) : Below w.heap.size w (w.iter s pos) := (Below.refl _ _).alloc (Nat.le_refl _) _
set_option maxHeartbeats 1000000 in
theorem name_walk (s : ByteArray) (w : World) : Calls Tryd.prog 44 #[.string s] w (RetB (.bool (nameB s)) w) := by
  by_cases hs0 : s.size = 0
  · have e : nameB s = false := by simp [nameB, hs0]
    obtain rfl : s = ⟨#[]⟩ := by
      cases s with | mk d => congr; exact Array.eq_empty_of_size_eq_zero hs0
    rw [e]
    clear e hs0
    go_enter Tryd.func44, Tryd.ntmps44
    go_wp2
    go_ret
    exact ⟨rfl, Below.refl _ _⟩
  have hs1 : ¬ s.toList = [] := by
    intro h
    rw [Go.ByteArray.toList_eq] at h
    exact hs0 (by show s.data.size = 0; rw [← Array.length_toList, h]; rfl)
  have hs1' : s.toList.isEmpty = false := by simpa using hs1
  by_cases hs2 : (32 : Int) < (s.size : Int)
  · have e : nameB s = false := by unfold nameB; rw [decide_eq_false (p := s.size ≤ 32) (by omega)]; simp
    rw [e]
    clear e hs0
    go_enter Tryd.func44, Tryd.ntmps44
    go_wp2
    go_ret
    exact ⟨rfl, Below.refl _ _⟩
  have e : nameB s = okFrom s 0 := by unfold nameB; rw [decide_eq_true (p := s.size ≤ 32) (by omega), decide_eq_true (p := 1 ≤ s.size) (by omega)]; simp
  rw [e]
  clear e
  go_enter Tryd.func44, Tryd.ntmps44
  go_wp2
  clear hs0 hs1 hs1' hs2
  go_loopw [] (fun w' => ∃ pos : Nat, w' = w.iter s pos ∧ okFrom s pos = okFrom s 0) (fun w' => s.size - w'.iterPos w.heap.size)
  case atStart => exact ⟨0, rfl, rfl⟩
  case round =>
    obtain ⟨pos, rfl, hok⟩ := hrel
    have HOK := Lib.hid hok
    clear hok
    by_cases hp : pos < s.size
    · obtain ⟨c, hc⟩ : ∃ c, (s[pos]'hp).toNat = c := ⟨_, rfl⟩
      have hat := okFrom_at hp
      rw [hc] at hat
      have HAT := Lib.hid hat
      have HP := Lib.hid hp
      by_cases ha : c < 128
      · have hnx : ∀ ty, (Instr.next (.pointer (some ⟨w.heap.size, 0, none⟩)) true ty).run Tryd.prog (w.iter s pos) = .ok (.tuple #[.bool true, .int .i64 pos, .int .i32 (c : Int)]) (w.iter s (pos + 1)) := fun ty => by
          rw [run_next_ascii w s pos ty hp (by omega), hc]
        have H := Lib.hid (cr_low (c : Int) (by omega) (by omega))
        have hcn : ((c : Int).toNat) = c := Int.toNat_natCast c
        rw [hcn] at H
        clear hat hc hcn
        by_cases hl : 97 ≤ c ∧ c ≤ 122
        · have hk : okB pos c = true := by simp [okB, ltB, hl]
          have HK := Lib.hid hk
          have h1 : (97 : Int) ≤ (c : Int) := by omega
          have h2 : (c : Int) ≤ 122 := by omega
          clear hk hl ha hp
          go_wp2
          go_roundw
          case rel => exact ⟨pos + 1, rfl, by rw [← HOK.out, HAT.out, HK.out, Bool.true_and]⟩
          case measure => have := HP.out; simp; omega
        · have hlt : ltB c = false := by unfold ltB; by_cases h : 97 ≤ c <;> simp [h]; omega
          have hl2 : (decide ((97 : Int) ≤ c) && decide ((c : Int) ≤ 122)) = false := by by_cases h : 97 ≤ c <;> simp <;> omega
          by_cases h0 : pos = 0
          · have hk : okB pos c = false := by simp [okB, hlt, h0]
            have HK := Lib.hid (HAT.out.trans (by rw [hk, Bool.false_and]))
            have h00 : ((pos : Int) == 0) = true := by simp [h0]
            clear hk hp ha
            by_cases h1 : (97 : Int) ≤ (c : Int)
            · have h2 : ¬ (c : Int) ≤ 122 := by omega
              clear hl hlt hl2 h0
              go_wp2
              go_ret
              exact ⟨by rw [← HOK.out, HK.out]; rfl, w_iter_below _ _ _⟩
            · clear hl hlt hl2 h0
              go_wp2
              go_ret
              exact ⟨by rw [← HOK.out, HK.out]; rfl, w_iter_below _ _ _⟩
          · have h00 : ((pos : Int) == 0) = false := by rw [beq_eq_false_iff_ne]; omega
            have hk : okB pos c = dgB c := by simp [okB, hlt, h0]
            have HK := Lib.hid (HAT.out.trans (by rw [hk]))
            clear hk hp ha
            rcases hd : dgB c with _ | _
            · rw [hd] at HK H
              by_cases h1 : (97 : Int) ≤ (c : Int)
              · have h2 : ¬ (c : Int) ≤ 122 := by omega
                clear hl hlt hl2 h0 hd
                go_wp2_with (go_at_call 57; refine (H.out _).mono ?_; rintro e w' ⟨rfl, rfl⟩)
                go_ret
                exact ⟨by rw [← HOK.out, HK.out]; rfl, w_iter_below _ _ _⟩
              · clear hl hlt hl2 h0 hd
                go_wp2_with (go_at_call 57; refine (H.out _).mono ?_; rintro e w' ⟨rfl, rfl⟩)
                go_ret
                exact ⟨by rw [← HOK.out, HK.out]; rfl, w_iter_below _ _ _⟩
            · rw [hd] at HK H
              by_cases h1 : (97 : Int) ≤ (c : Int)
              · have h2 : ¬ (c : Int) ≤ 122 := by omega
                clear hl hlt hl2 h0 hd
                go_wp2_with (go_at_call 57; refine (H.out _).mono ?_; rintro e w' ⟨rfl, rfl⟩)
                go_roundw
                case rel => exact ⟨pos + 1, rfl, by rw [← HOK.out, HK.out, Bool.true_and]⟩
                case measure => have := HP.out; simp; omega
              · clear hl hlt hl2 h0 hd
                go_wp2_with (go_at_call 57; refine (H.out _).mono ?_; rintro e w' ⟨rfl, rfl⟩)
                go_roundw
                case rel => exact ⟨pos + 1, rfl, by rw [← HOK.out, HK.out, Bool.true_and]⟩
                case measure => have := HP.out; simp; omega
      · obtain ⟨r, hr⟩ : ∃ r : Int, (Utf8.decode s pos).1 = r := ⟨_, rfl⟩
        obtain ⟨d, hd⟩ : ∃ d : Nat, (Utf8.decode s pos).2 = d := ⟨_, rfl⟩
        have h128 : 128 ≤ r := by rw [← hr]; exact (by exact_mod_cast (decode_high s pos hp (by omega)).1)
        have hnx : ∀ ty, (Instr.next (.pointer (some ⟨w.heap.size, 0, none⟩)) true ty).run Tryd.prog (w.iter s pos) = .ok (.tuple #[.bool true, .int .i64 pos, .int .i32 r]) (w.iter s (pos + d)) := fun ty => by
          rw [run_next_any w s pos ty hp, ← hr, hd]
        have hk : okB pos c = false := by
          have h1 : ltB c = false := by simp [ltB]; omega
          have h2 : dgB c = false := by simp [dgB]; omega
          simp [okB, h1, h2]
        have HK := Lib.hid (HAT.out.trans (by rw [hk, Bool.false_and]))
        have h1 : (97 : Int) ≤ r := by omega
        have h2 : ¬ r ≤ 122 := by omega
        have H := Lib.hid (cr_high r h128)
        clear hk hat hc ha hr hd hp h128
        by_cases h0 : pos = 0
        · have h00 : ((pos : Int) == 0) = true := by simp [h0]
          clear h0
          go_wp2
          go_ret
          exact ⟨by rw [← HOK.out, HK.out]; rfl, w_iter_below _ _ _⟩
        · have h00 : ((pos : Int) == 0) = false := by rw [beq_eq_false_iff_ne]; omega
          clear h0
          go_wp2_with (go_at_call 57; refine (H.out _).mono ?_; rintro e w' ⟨rfl, hb⟩)
          go_ret
          exact ⟨by rw [← HOK.out, HK.out]; rfl, (w_iter_below _ _ _).trans (hb.mono (w_iter_below w s _).size)⟩
    · have hnx : ∀ ty, (Instr.next (.pointer (some ⟨w.heap.size, 0, none⟩)) true ty).run Tryd.prog (w.iter s pos) = _ := fun ty => run_next_end w s pos ty hp
      have he := okFrom_end hp
      have HE := Lib.hid he
      clear he hp
      go_wp2
      go_ret
      exact ⟨by rw [← HOK.out, HE.out]; rfl, w_iter_below _ _ _⟩
end Go.Proofs.YthoibafhbacfiaaDoor
