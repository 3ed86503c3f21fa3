/-
  lineagelaw08.TokenKnown: the examples, the bits, the texts.
-/
import Derived.Test.YtjhfidccpaidmaaDoorTokRef2
namespace Go.Proofs.YtjhfidccpaidmaaDoor
set_option maxRecDepth 100000
open Go.RowKit

theorem text_a : (⟨(textL (tokT 31 1048576 18446744073709551615)).toArray⟩ : ByteArray) = ⟨#[116, 100, 52, 105, 97, 97, 97, 104, 55, 55, 55, 55, 55, 55, 55, 55, 55, 55, 55, 55, 113]⟩ := by decide +kernel
theorem text_b : (⟨(textL (tokT 3 77 81985529216486895)).toArray⟩ : ByteArray) = ⟨#[116, 97, 109, 97, 97, 97, 116, 105, 98, 101, 110, 99, 119, 112, 99, 110, 108, 122, 120, 120, 113]⟩ := by decide +kernel
theorem parse_c : parseL [116, 97, 97, 97, 97, 97, 97, 97, 97, 97, 97, 97, 97, 97, 97, 97, 97, 97, 97, 97, 97] = .error 1 := by kernel_rfl
theorem parse_d : parseL [116, 101, 97, 97, 97, 97, 97, 105, 97, 97, 97, 97, 97, 97, 97, 97, 97, 97, 97, 97, 97] = .error 1 := by kernel_rfl
theorem parse_e : parseL [116, 97, 97, 97, 97, 97, 97, 105, 97, 97, 97, 97, 97, 97, 97, 97, 97, 97, 97, 97, 97, 98] = .error 3 := by kernel_rfl
set_option maxHeartbeats 4000000 in
theorem knownSaid_any (w : World) (hg : Laid w) : Calls Tryd.prog 11 #[] w (RetB (.bool true) w) := by
  have HG := Lib.hid hg
  have hpos := hg.pos
  have ha : ∀ w, Calls Tryd.prog 6 #[.agg #[.int .i64 31, .int .i64 1048576, .int .u64 18446744073709551615]] w (RetB (.tuple #[.string ⟨#[116, 100, 52, 105, 97, 97, 97, 104, 55, 55, 55, 55, 55, 55, 55, 55, 55, 55, 55, 55, 113]⟩, .nilIface]) w) := fun w => by
    have h := print_right 31 1048576 18446744073709551615#64 (by decide) (by decide) (by decide) w
    rw [show (18446744073709551615#64).toNat = 18446744073709551615 from rfl, text_a] at h
    exact h
  have hb : ∀ w, Calls Tryd.prog 6 #[.agg #[.int .i64 3, .int .i64 77, .int .u64 81985529216486895]] w (RetB (.tuple #[.string ⟨#[116, 97, 109, 97, 97, 97, 116, 105, 98, 101, 110, 99, 119, 112, 99, 110, 108, 122, 120, 120, 113]⟩, .nilIface]) w) := fun w => by
    have h := print_right 3 77 81985529216486895#64 (by decide) (by decide) (by decide) w
    rw [show (81985529216486895#64).toNat = 81985529216486895 from rfl, text_b] at h
    exact h
  have hc : ∀ w, Calls Tryd.prog 9 #[.string ⟨#[116, 97, 97, 97, 97, 97, 97, 97, 97, 97, 97, 97, 97, 97, 97, 97, 97, 97, 97, 97, 97]⟩] w (RetB (.tuple #[.agg Tok.zero.cells, .iface 39 (.int .i64 1)]) w) := fun w => by
    have h := parse_any ⟨#[116, 97, 97, 97, 97, 97, 97, 97, 97, 97, 97, 97, 97, 97, 97, 97, 97, 97, 97, 97, 97]⟩ w
    rw [show (ByteArray.mk #[116, 97, 97, 97, 97, 97, 97, 97, 97, 97, 97, 97, 97, 97, 97, 97, 97, 97, 97, 97, 97]).data.toList = [116, 97, 97, 97, 97, 97, 97, 97, 97, 97, 97, 97, 97, 97, 97, 97, 97, 97, 97, 97, 97] from rfl, parse_c] at h
    exact h
  have hd : ∀ w, Calls Tryd.prog 9 #[.string ⟨#[116, 101, 97, 97, 97, 97, 97, 105, 97, 97, 97, 97, 97, 97, 97, 97, 97, 97, 97, 97, 97]⟩] w (RetB (.tuple #[.agg Tok.zero.cells, .iface 39 (.int .i64 1)]) w) := fun w => by
    have h := parse_any ⟨#[116, 101, 97, 97, 97, 97, 97, 105, 97, 97, 97, 97, 97, 97, 97, 97, 97, 97, 97, 97, 97]⟩ w
    rw [show (ByteArray.mk #[116, 101, 97, 97, 97, 97, 97, 105, 97, 97, 97, 97, 97, 97, 97, 97, 97, 97, 97, 97, 97]).data.toList = [116, 101, 97, 97, 97, 97, 97, 105, 97, 97, 97, 97, 97, 97, 97, 97, 97, 97, 97, 97, 97] from rfl, parse_d] at h
    exact h
  have he : ∀ w, Calls Tryd.prog 9 #[.string ⟨#[116, 97, 97, 97, 97, 97, 97, 105, 97, 97, 97, 97, 97, 97, 97, 97, 97, 97, 97, 97, 97, 98]⟩] w (RetB (.tuple #[.agg Tok.zero.cells, .iface 39 (.int .i64 3)]) w) := fun w => by
    have h := parse_any ⟨#[116, 97, 97, 97, 97, 97, 97, 105, 97, 97, 97, 97, 97, 97, 97, 97, 97, 97, 97, 97, 97, 98]⟩ w
    rw [show (ByteArray.mk #[116, 97, 97, 97, 97, 97, 97, 105, 97, 97, 97, 97, 97, 97, 97, 97, 97, 97, 97, 97, 97, 98]).data.toList = [116, 97, 97, 97, 97, 97, 97, 105, 97, 97, 97, 97, 97, 97, 97, 97, 97, 97, 97, 97, 97, 98] from rfl, parse_e] at h
    exact h
  have p1 : ∀ w, Laid w → Calls Tryd.prog 8 #[.iface 39 (.int .i64 1), .int .i64 1] w (RetB (.bool true) w) := fun w hg => plain_same 1 (by decide) (by decide) w hg
  have p3 : ∀ w, Laid w → Calls Tryd.prog 8 #[.iface 39 (.int .i64 3), .int .i64 3] w (RetB (.bool true) w) := fun w hg => plain_same 3 (by decide) (by decide) w hg
  have HA := Lib.hid ha
  have HB := Lib.hid hb
  have HC := Lib.hid hc
  have HD := Lib.hid hd
  have HE := Lib.hid he
  have P1 := Lib.hid p1
  have P3 := Lib.hid p3
  clear hg ha hb hc hd he p1 p3
  go_enter Tryd.func11, Tryd.ntmps11
  go_wp2_with (first | (go_at_call 6; fail))
  refine (HA.out _).mono ?_
  rintro e w1 ⟨rfl, h1⟩
  have B1 := Lib.hid h1
  have s1 := h1.size
  clear h1
  go_wp2_with (first | (go_at_call 6; fail))
  refine (HB.out _).mono ?_
  rintro e w2 ⟨rfl, h2⟩
  have B2 := Lib.hid (B1.out.trans (h2.mono s1))
  have s2 := B2.out.size
  clear h2 B1 s1
  go_wp2_with (first | (go_at_call 9; fail))
  refine (HC.out _).mono ?_
  rintro e w3 ⟨rfl, h3⟩
  have B3 := Lib.hid ((B2.out.trans (h3.mono s2)).alloc (Nat.le_trans s2 h3.size) (.cells Tok.zero.cells 24))
  have s3 := B3.out.size
  clear h3 B2 s2
  go_wp2_with (first
    | (refine wpList_store_new rfl rfl rfl rfl rfl (Tok.one _) tokInfo ?_)
    | (go_at_call 9; fail))
  refine (HD.out _).mono ?_
  rintro e w4 ⟨rfl, h4⟩
  have B4 := Lib.hid ((B3.out.trans (h4.mono s3)).alloc (Nat.le_trans s3 h4.size) (.cells Tok.zero.cells 24))
  have s4 := B4.out.size
  clear h4 B3 s3
  go_wp2_with (first
    | (refine wpList_store_new rfl rfl rfl rfl rfl (Tok.one _) tokInfo ?_)
    | (go_at_call 9; fail))
  refine (HE.out _).mono ?_
  rintro e w5 ⟨rfl, h5⟩
  have B5 := Lib.hid ((B4.out.trans (h5.mono s4)).alloc (Nat.le_trans s4 h5.size) (.cells Tok.zero.cells 24))
  have s5 := B5.out.size
  clear h5 B4 s4
  go_wp2_with (first
    | (refine wpList_store_new rfl rfl rfl rfl rfl (Tok.one _) tokInfo ?_)
    | (go_at_call 25; fail))
  refine (works_any _).mono ?_
  rintro e w6 ⟨rfl, h6⟩
  have B6 := Lib.hid (B5.out.trans (h6.mono s5))
  have s6 := B6.out.size
  clear h6 B5 s5
  go_wp2_with (first | (go_at_call 8; fail))
  refine (P1.out _ (HG.out.below B6.out hpos)).mono ?_
  rintro e w7 ⟨rfl, h7⟩
  have B7 := Lib.hid (B6.out.trans (h7.mono s6))
  have s7 := B7.out.size
  clear h7 B6 s6
  go_wp2_with (first | (go_at_call 8; fail))
  refine (P1.out _ (HG.out.below B7.out hpos)).mono ?_
  rintro e w8 ⟨rfl, h8⟩
  have B8 := Lib.hid (B7.out.trans (h8.mono s7))
  have s8 := B8.out.size
  clear h8 B7 s7
  go_wp2_with (first | (go_at_call 8; fail))
  refine (P3.out _ (HG.out.below B8.out hpos)).mono ?_
  rintro e w9 ⟨rfl, h9⟩
  have B9 := B8.out.trans (h9.mono s8)
  clear h9 B8 s8
  go_wp2
  go_ret
  exact ⟨rfl, B9⟩

/-! ### the bits -/
/-- A row of ints that is known to hold ints. -/
theorem ints_at {w : World} {g n : Nat} {t : TypeId} {cs : Array Value} (h : Blk w g t cs) (hi : ∀ k : Fin n, ∃ i, cs[k.val]? = some (.int .i64 i)) (k : Nat) (hk : k < n) : ∃ i : Int, w.cell? ⟨g, k, none⟩ = some (.int .i64 i) := by
  obtain ⟨i, hi⟩ := hi ⟨k, hk⟩
  exact ⟨i, by rw [h.cell]; exact hi⟩
def I10 : Array Value := #[.int .i64 (-9223372036854775808), .int .i64 (-1), .int .i64 0, .int .i64 1, .int .i64 16, .int .i64 31, .int .i64 32, .int .i64 255, .int .i64 256, .int .i64 9223372036854775807]
def I11 : Array Value := #[.int .i64 (-9223372036854775808), .int .i64 (-1), .int .i64 0, .int .i64 1, .int .i64 2, .int .i64 524288, .int .i64 1048575, .int .i64 1048576, .int .i64 1048577, .int .i64 16777216, .int .i64 16777217]
theorem I10_int : ∀ k : Fin 10, ∃ i, I10[k.val]? = some (.int .i64 i) := by
  intro ⟨k, hk⟩
  match k, hk with
  | 0, _ | 1, _ | 2, _ | 3, _ | 4, _ | 5, _ | 6, _ | 7, _ | 8, _ | 9, _ => exact ⟨_, rfl⟩
theorem I11_int : ∀ k : Fin 11, ∃ i, I11[k.val]? = some (.int .i64 i) := by
  intro ⟨k, hk⟩
  match k, hk with
  | 0, _ | 1, _ | 2, _ | 3, _ | 4, _ | 5, _ | 6, _ | 7, _ | 8, _ | 9, _ | 10, _ => exact ⟨_, rfl⟩
structure BitsRel (w : World) (n : Nat) (i : Value) (wr : World) : Prop where
  ex : ∃ k : Nat, k ≤ n ∧ i = .int .i64 k ∧ Blk wr w.heap.size 3 I10 ∧ Blk wr (w.heap.size + 1) 3 I11 ∧ Below w.heap.size w wr
structure KRel (w : World) (n : Nat) (i : Value) (wr : World) : Prop where
  ex : ∃ k : Nat, k ≤ n ∧ i = .int .i64 k ∧ Below w.heap.size w wr
set_option maxHeartbeats 4000000 in
theorem knownBits_any (w : World) (hg : Laid w) : Calls Tryd.prog 12 #[] w (RetB (.bool true) w) := by
  have HG := Lib.hid hg
  have hpos := hg.pos
  have hp : ∀ (a b c : Int), 0 ≤ c → c < 18446744073709551616 → ∀ w, Laid w → Calls Tryd.prog 3 #[.agg #[.int .i64 a, .int .i64 b, .int .u64 c]] w (RetB (.bool true) w) := fun a b c h0 h1 w hg => by
    obtain ⟨x, rfl⟩ := word_of h0 h1
    exact tokenPrints_any ⟨a, b, x⟩ w hg
  have ht : ∀ (a b c : Int), 0 ≤ c → c < 18446744073709551616 → ∀ w, Calls Tryd.prog 26 #[.agg #[.int .i64 a, .int .i64 b, .int .u64 c]] w (RetB (.bool true) w) := fun a b c h0 h1 w => by
    obtain ⟨x, rfl⟩ := word_of h0 h1
    exact tokenThere_any ⟨a, b, x⟩ w
  have HP := Lib.hid hp
  have HT := Lib.hid ht
  have B10 := Lib.hid ((Blk.new w 3 I10).alloc (.cells I11 3))
  have B11 := Lib.hid (Blk.new_at (w := w.alloc (.cells I10 3)) (t := 3) (cs := I11) (g := w.heap.size + 1) (by simp))
  clear hg hp ht
  go_enter Tryd.func12, Tryd.ntmps12
  go_wp2
  go_loopw [3] (BitsRel w 10) (fun i _ => 10 - (intOf i).toNat)
  case atStart => exact ⟨⟨0, Nat.zero_le _, rfl, B10.out, B11.out, ((Below.refl _ _).alloc (Nat.le_refl _) _).alloc (by simp) _⟩⟩
  case round =>
    clear B10 B11
    obtain ⟨⟨i, hi, rfl, hb10, hb11, hbel⟩⟩ := hrel
    by_cases hlt : i < 10
    · have hi10 : (i : Int) < 10 := by omega
      have H10 := Lib.hid hb10
      have H11 := Lib.hid hb11
      have HBEL := Lib.hid hbel
      clear hb10 hb11 hbel
      go_wp2
      go_loopw [4] (BitsRel w 11) (fun i _ => 11 - (intOf i).toNat)
      case atStart => exact ⟨⟨0, Nat.zero_le _, rfl, H10.out, H11.out, HBEL.out⟩⟩
      case round =>
        clear H10 H11 HBEL
        obtain ⟨⟨k, hk, rfl, hb10, hb11, hbel⟩⟩ := hrel
        have H10 := Lib.hid hb10
        have H11 := Lib.hid hb11
        have HBEL := Lib.hid hbel
        clear hb10 hb11 hbel
        by_cases hlt2 : k < 11
        · have hk11 : (k : Int) < 11 := by omega
          obtain ⟨a, ha⟩ := ints_at H10.out I10_int i hlt
          obtain ⟨b, hb⟩ := ints_at H11.out I11_int k hlt2
          have c0 := cell_regrown ha
          have c1 := cell_regrown hb
          obtain ⟨q, hq⟩ : ∃ q : Nat, i * k = q := ⟨_, rfl⟩
          have hq1 : (i : Int) * (k : Int) = (q : Int) := by rw [← hq]; simp
          have hq2 : q ≤ 110 := by rw [← hq]; exact Nat.mul_le_mul (show i ≤ 10 by omega) (show k ≤ 11 by omega)
          have hL := HG.out.below HBEL.out hpos
          have hqp : ∀ d os, Calls Tryd.prog 3 #[.agg #[.int .i64 a, .int .i64 b, .int .u64 (q : Int)]] (Go.Sort.grow (redrawn wr d) os) fun e w'' => e = .returned (.bool true) ∧ ∃ p : Regrown, w'' = Go.Sort.grow (redrawn wr p.d) p.os := fun d os =>
            Calls.regrown_of (HP.out _ _ _ (by omega) (by omega) _ (hL.below (below_regrown wr d os) (by have := HBEL.out.size; omega)))
          have hqt : ∀ d os, Calls Tryd.prog 26 #[.agg #[.int .i64 a, .int .i64 b, .int .u64 0]] (Go.Sort.grow (redrawn wr d) os) fun e w'' => e = .returned (.bool true) ∧ ∃ p : Regrown, w'' = Go.Sort.grow (redrawn wr p.d) p.os := fun d os =>
            Calls.regrown_of (HT.out _ _ _ (by decide) (by decide) _)
          have HQP := Lib.hid hqp
          have HQT := Lib.hid hqt
          clear hL ha hb hqp hqt hq
          go_wp2
          refine wp_region_quiet_below (by kernel_rfl) (by kernel_rfl) ?_
          repeat (first
            | go_big_quiet_skip
            | (go_big_quiet_want; go_big_quiet_op; first
              | go_big_quiet_on
              | go_big_quiet_call (with_reducible exact HQP.out _ _)
              | go_big_quiet_call (with_reducible exact HQT.out _ _)))
          refine wpQuiet_nil ?_
          intro w2 hC2
          have hb2 := below_class hC2
          have s2 := HBEL.out.size
          have H10' := Lib.hid (H10.out.below hb2 H10.out.lt)
          have H11' := Lib.hid (H11.out.below hb2 H11.out.lt)
          have HBEL' := Lib.hid (HBEL.out.trans (hb2.mono s2))
          clear hC2 hb2 H10 H11 HBEL c0 c1
          go_wp2
          go_roundw
          case rel => exact ⟨⟨k + 1, by omega, by go_num, H10'.out, H11'.out, HBEL'.out⟩⟩
          case measure => simp [intOf]; omega
        · go_wp2
          go_roundw
          case rel => exact ⟨⟨i + 1, by omega, by go_num, H10.out, H11.out, HBEL.out⟩⟩
          case measure => simp [intOf]; omega
    · have HBEL := Lib.hid hbel
      clear hb10 hb11 hbel
      go_wp2
      go_loopw [5] (KRel w 64) (fun i _ => 64 - (intOf i).toNat)
      case atStart => exact ⟨⟨0, Nat.zero_le _, rfl, HBEL.out⟩⟩
      case round =>
        clear HBEL
        obtain ⟨⟨k, hk, rfl, hbel⟩⟩ := hrel
        have HBEL := Lib.hid hbel
        clear hbel
        by_cases hlt2 : k < 64
        · have hk64 : (k : Int) < 64 := by omega
          have s1 := HBEL.out.size
          go_wp2_with (first | (go_at_call 3; fail))
          refine (tokenPrints_any ⟨k, 1 + k, BitVec.twoPow 64 k⟩ _ (HG.out.below HBEL.out hpos)).mono ?_
          rintro e w2 ⟨rfl, h2⟩
          have HB2 := Lib.hid (HBEL.out.trans (h2.mono s1))
          have s2 := HB2.out.size
          clear h2 HBEL s1
          go_wp2_with (first | (go_at_call 26; fail))
          refine (tokenThere_any ⟨0, 0, BitVec.twoPow 64 k⟩ _).mono ?_
          rintro e w3 ⟨rfl, h3⟩
          have HB3 := Lib.hid (HB2.out.trans (h3.mono s2))
          clear h3 HB2 s2
          go_wp2
          go_roundw
          case rel => exact ⟨⟨k + 1, by omega, by go_num, HB3.out⟩⟩
          case measure => simp [intOf]; omega
        · go_wp2
          go_ret
          exact ⟨rfl, HBEL.out⟩

/-! ### the texts -/
def L16 : Array Value := #[.int .u8 97, .int .u8 98, .int .u8 113, .int .u8 122, .int .u8 50, .int .u8 55, .int .u8 49, .int .u8 56, .int .u8 65, .int .u8 84, .int .u8 116, .int .u8 32, .int .u8 61, .int .u8 45, .int .u8 0, .int .u8 255]
def isU8 : Option Value → Bool
  | some (.int .u8 _) => true
  | _ => false
theorem L16_u8 (k : Nat) (hk : k < 16) : ∃ i, L16[k]? = some (.int .u8 i) := by
  have h : ∀ k : Fin 16, isU8 L16[k.val]? = true := by decide +kernel
  have h1 := h ⟨k, hk⟩
  unfold isU8 at h1
  split at h1
  · rename_i i e; exact ⟨i, e⟩
  · cases h1
structure TextsRel (w : World) (n : Nat) (i : Value) (wr : World) : Prop where
  ex : ∃ k : Nat, k ≤ n ∧ i = .int .i64 k ∧ Blk wr w.heap.size 5 L16 ∧ Below w.heap.size w wr
set_option maxHeartbeats 4000000 in
theorem knownTexts_any (w : World) (hg : Laid w) : Calls Tryd.prog 13 #[] w (RetB (.bool true) w) := by
  have HG := Lib.hid hg
  have hpos := hg.pos
  have B16 := Lib.hid (Blk.new w 5 L16)
  have hp : ∀ s w, Laid w → Calls Tryd.prog 4 #[.string s] w (RetB (.bool true) w) := fun s w hg => tokenParses_any s w hg
  have HP := Lib.hid hp
  clear hg hp
  go_enter Tryd.func13, Tryd.ntmps13
  go_wp2
  go_loopw [3] (TextsRel w 21) (fun i _ => 21 - (intOf i).toNat)
  case atStart => exact ⟨⟨0, Nat.zero_le _, rfl, B16.out, (Below.refl _ _).alloc (Nat.le_refl _) _⟩⟩
  case round =>
    clear B16
    obtain ⟨⟨i, hi, rfl, hb16, hbel⟩⟩ := hrel
    by_cases hlt : i < 21
    · have hi21 : (i : Int) < 21 := by omega
      have H16 := Lib.hid hb16
      have HBEL := Lib.hid hbel
      have s1 := hbel.size
      clear hb16 hbel
      go_wp2_with (first | (go_at_call 4; fail))
      refine (HP.out _ _ (HG.out.below HBEL.out hpos)).mono ?_
      rintro e w2 ⟨rfl, h2⟩
      have H16a := Lib.hid (H16.out.below h2 H16.out.lt)
      have HB2 := Lib.hid (HBEL.out.trans (h2.mono s1))
      have s2 := HB2.out.size
      clear h2 HBEL s1 H16
      go_wp2_with (first | (go_at_call 4; fail))
      refine (HP.out _ _ (HG.out.below HB2.out hpos)).mono ?_
      rintro e w3 ⟨rfl, h3⟩
      have H16b := Lib.hid (H16a.out.below h3 H16a.out.lt)
      have HB3 := Lib.hid (HB2.out.trans (h3.mono s2))
      clear h3 HB2 s2 H16a
      go_wp2
      go_loopw [4] (TextsRel w 16) (fun i _ => 16 - (intOf i).toNat)
      case atStart => exact ⟨⟨0, Nat.zero_le _, rfl, H16b.out, HB3.out⟩⟩
      case round =>
        clear H16b HB3
        obtain ⟨⟨k, hk, rfl, hb16, hbel⟩⟩ := hrel
        by_cases hlt2 : k < 16
        · have hk16 : (k : Int) < 16 := by omega
          have H16 := Lib.hid hb16
          have HBEL := Lib.hid hbel
          have s1 := hbel.size
          obtain ⟨c, hc⟩ := L16_u8 k hlt2
          have hcell := (hb16.cell k).trans hc
          have hcv : (convert 40 9 (.slice (some ⟨wr.heap.size, 0, none⟩) 1 1)).run Tryd.prog (wr.alloc (.cells #[.int .u8 c] 5)).drew = .ok (.string (strOfNums [c])) (wr.alloc (.cells #[.int .u8 c] 5)).drew :=
            run_convert_bytes_arg (P := Tryd.prog) _ 40 5 Tryd.underlying40 Tryd.underlying5 wr.heap.size 0 1 1 [c] rfl (fun j hj => by
              obtain rfl : j = 0 := by omega
              rw [Nat.zero_add, (Blk.new wr 5 #[.int .u8 c]).drew.cell]; rfl) 9 Tryd.underlying9
          have hz1 : (strOfNums [c]).size = 1 := rfl
          have hi2 : i + 1 + (21 - (i + 1)) ≤ 21 := by omega
          have hi21' : (i : Int) ≤ 21 := by omega
          have hi1 : (i : Int) + 1 ≤ 21 := by omega
          clear hb16 hbel hc
          go_wp2
          go_region
          have H16a := Lib.hid ((H16.out.alloc (.cells #[.int .u8 c] 5)).drew)
          have HB1 := Lib.hid ((HBEL.out.alloc s1 (.cells #[.int .u8 c] 5)).drew)
          have hlt0 := H16.out.lt
          clear H16 HBEL hcv hcell hz1
          generalize (wr.alloc (.cells #[.int .u8 c] 5)).drew = wz at *
          have s2 := HB1.out.size
          go_wp2_with (first | (go_at_call 4; fail))
          refine (HP.out _ _ (HG.out.below HB1.out hpos)).mono ?_
          rintro e w4 ⟨rfl, h4⟩
          have H16b := Lib.hid (H16a.out.below h4 H16a.out.lt)
          have HB2 := Lib.hid (HB1.out.trans (h4.mono s2))
          have s3 := HB2.out.size
          clear h4 HB1 s2 H16a
          go_wp2_with (first | (go_at_call 27; fail))
          refine (tokenBack_any _ _).mono ?_
          rintro e w5 ⟨rfl, h5⟩
          have H16c := Lib.hid (H16b.out.below h5 H16b.out.lt)
          have HB3 := Lib.hid (HB2.out.trans (h5.mono s3))
          clear h5 HB2 s3 H16b
          go_wp2
          go_roundw
          case rel => exact ⟨⟨k + 1, by omega, by go_num, H16c.out, HB3.out⟩⟩
          case measure => simp [intOf]; omega
        · go_wp2
          go_roundw
          case rel => exact ⟨⟨i + 1, by omega, by go_num, hb16, hbel⟩⟩
          case measure => simp [intOf]; omega
    · go_wp2
      go_ret
      exact ⟨rfl, hbel⟩

set_option maxHeartbeats 1000000 in
theorem tokenKnown_any (w : World) (hg : Laid w) : Calls Tryd.prog 5 #[] w (RetB (.bool true) w) := by
  have HG := Lib.hid hg
  have hpos := hg.pos
  clear hg
  go_enter Tryd.func5, Tryd.ntmps5
  go_wp2_with (first | (go_at_call 11; fail))
  refine (knownSaid_any _ HG.out).mono ?_
  rintro e w1 ⟨rfl, h1⟩
  have HB1 := Lib.hid h1
  have s1 := h1.size
  clear h1
  go_wp2_with (first | (go_at_call 12; fail))
  refine (knownBits_any _ (HG.out.below HB1.out hpos)).mono ?_
  rintro e w2 ⟨rfl, h2⟩
  have HB2 := Lib.hid (HB1.out.trans (h2.mono s1))
  have s2 := HB2.out.size
  clear h2 HB1 s1
  go_wp2_with (first | (go_at_call 13; fail))
  refine (knownTexts_any _ (HG.out.below HB2.out hpos)).mono ?_
  rintro e w3 ⟨rfl, h3⟩
  have HB3 := HB2.out.trans (h3.mono s2)
  clear h3 HB2 s2
  go_wp2
  go_ret
  exact ⟨rfl, HB3⟩
end Go.Proofs.YtjhfidccpaidmaaDoor
