/-
  Package lineageref08 (token bit by bit): May, put, take, index, Print, Parse.
-/
import Derived.Test.YtjhfidccpaidmaaDoorParse
namespace Go.Proofs.YtjhfidccpaidmaaDoor
set_option maxRecDepth 100000
open Go.RowKit

/-! ### bits, plain -/
def bitN (v i : Nat) : Bool := v / 2 ^ i % 2 == 1
/-- The lowest n bits of v, the highest first. -/
def bitsV (v n : Nat) : List Bool := (List.range n).map fun j => bitN v (n - 1 - j)
theorem bitsV_len (v n : Nat) : (bitsV v n).length = n := by simp [bitsV]
theorem bitsV_get (v n j : Nat) (h : j < n) : (bitsV v n)[j]? = some (bitN v (n - 1 - j)) := by simp [bitsV, h]
/-- What is handed over when the bits from place i on (the highest n - i) are laid. -/
def bitsTop (v n i : Nat) : List Bool := (List.range i).map fun j => bitN v (n - 1 - j)
theorem bitsTop_succ (v n i : Nat) : bitsTop v n (i + 1) = bitsTop v n i ++ [bitN v (n - 1 - i)] := by simp [bitsTop, List.range_succ]
def takeN (l : List Bool) (at_ n : Nat) : Nat := (List.range n).foldl (fun a j => a * 2 + (if l.getD (at_ + j) false then 1 else 0)) 0
theorem takeN_succ (l : List Bool) (at_ n : Nat) : takeN l at_ (n + 1) = takeN l at_ n * 2 + (if l.getD (at_ + n) false then 1 else 0) := by
  unfold takeN; rw [List.range_succ, List.foldl_append]; rfl
theorem takeN_lt (l : List Bool) (at_ : Nat) : ∀ n, takeN l at_ n < 2 ^ n
  | 0 => by simp [takeN]
  | n + 1 => by
    have ih := takeN_lt l at_ n
    rw [takeN_succ, Nat.pow_succ]
    split <;> omega
/-- Of a number's bits, the number. -/
theorem takeN_bits (l : List Bool) (V N at_ : Nat) (hl : ∀ j, j < N → l[j]? = some (bitN V (N - 1 - j))) : ∀ n, at_ + n ≤ N → takeN l at_ n = V / 2 ^ (N - at_ - n) % 2 ^ n
  | 0, _ => by simp [takeN, Nat.mod_one]
  | n + 1, h => by
    rw [takeN_succ, takeN_bits l V N at_ hl n (by omega)]
    have e : N - at_ - n = (N - at_ - (n + 1)) + 1 := by omega
    have hg : l.getD (at_ + n) false = bitN V (N - at_ - (n + 1)) := by
      rw [List.getD_eq_getElem?_getD, hl _ (by omega), show N - 1 - (at_ + n) = N - at_ - (n + 1) from by omega]; rfl
    rw [hg, e, Nat.pow_succ, ← Nat.div_div_eq_div_mul]
    unfold bitN
    generalize V / 2 ^ (N - at_ - (n + 1)) = W
    rw [Nat.pow_succ, Nat.mul_comm (2 ^ n) 2, Nat.mod_mul]
    have h2 : W % 2 = 0 ∨ W % 2 = 1 := by omega
    rcases h2 with h2 | h2 <;> simp [h2] <;> omega
def bools (l : List Bool) : List Value := l.map .bool
theorem boolInfo : ∃ i z, Tryd.prog.info? 4 = some i ∧ i.zero = some z ∧ i.size = 1 ∧ i.bytes = 1 ∧ z.cells.size = 1 := by
  have h : (match Tryd.prog.info? 4 with | some i => (match i.zero with | some z => i.size == 1 && i.bytes == 1 && z.cells.size == 1 | none => false) | none => false) = true := by decide +kernel
  cases hi : Tryd.prog.info? 4 with
  | none => rw [hi] at h; cases h
  | some i =>
    rw [hi] at h
    cases hz : i.zero with
    | none => simp only [hz] at h; cases h
    | some z =>
      simp only [hz, Bool.and_eq_true, beq_iff_eq] at h
      exact ⟨i, z, rfl, hz, h.1.1, h.1.2, h.2⟩
theorem bool_one (b : Bool) : ∀ u ∈ (#[Value.bool b] : Array Value).toList, u.oneCell' = true := by intro u hu; simp at hu; subst hu; rfl

/-! ### put -/
theorem put_bit (v i : Nat) (hv : v < 18446744073709551616) : (bits .and .u64 ((v : Int) / 2 ^ i) 1 == 1) = bitN v i := by
  have e5 : ((v : Int) / 2 ^ i) = ((v / 2 ^ i : Nat) : Int) := by rw [Int.natCast_ediv]; simp
  have h6 := Nat.div_le_self v (2 ^ i)
  have e7 := u64_and_nat (v / 2 ^ i) 1 (by omega) (by omega)
  rw [show ((1 : Nat) : Int) = 1 from rfl] at e7
  rw [e5, e7, Nat.and_one_is_mod]
  unfold bitN
  have h2 : v / 2 ^ i % 2 = 0 ∨ v / 2 ^ i % 2 = 1 := by omega
  rcases h2 with h2 | h2 <;> simp [h2]
structure PutRel (w : World) (base v n N : Nat) (l : Value) (bs : List Bool) (x i : Value) (wr : World) : Prop where
  ex : ∃ k m, k + m = n ∧ i = .int .i64 ((m : Int) - 1) ∧ wr.ownsRow base 4 1 x (N + k) (bools (bs ++ bitsTop v n k)) ∧ Grows w wr l x ∧ w.heap.size ≤ wr.heap.size
set_option maxHeartbeats 1000000 in
theorem rput_any (base v n N : Nat) (hv : v < 18446744073709551616) (hn : n ≤ 64) (hN : N ≤ 1000) (l : Value) (bs : List Bool) (w : World) (hown : w.ownsRow base 4 1 l N (bools bs)) (hbase : base ≤ w.heap.size) :
    Calls Tryd.prog 18 #[l, .int .u64 (v : Int), .int .i64 (n : Int)] w (fun e w' => ∃ l', e = .returned l' ∧ w'.ownsRow base 4 1 l' (N + n) (bools (bs ++ bitsV v n)) ∧ Grows w w' l l') := by
  have HO := Lib.hid hown
  clear hown
  obtain ⟨ii, iz, hi0, hz0, hz1, hz2, hz3⟩ := boolInfo
  go_enter Tryd.func18, Tryd.ntmps18
  go_wp2
  go_loopw [0, 7] (PutRel w base v n N l bs) (fun _ i _ => (intOf i + 1).toNat)
  case atStart => exact ⟨⟨0, n, by omega, rfl, by simpa [bitsTop] using HO.out, Grows.refl _ _, Nat.le_refl _⟩⟩
  case round =>
    clear HO
    obtain ⟨⟨k, m, hkm, rfl, hown, hgr, hsz⟩⟩ := hrel
    cases m with
    | zero =>
      have HO := Lib.hid hown
      have HG := Lib.hid hgr
      have hm1 : ((0 : Nat) : Int) - 1 = -1 := rfl
      have HK : Hid (k = n) := Lib.hid (by omega)
      clear hown hkm hgr
      go_wp2
      go_ret
      exact ⟨_, rfl, by have h := HO.out; rw [HK.out] at h; exact h, HG.out⟩
    | succ m =>
      have hm1 : ((m + 1 : Nat) : Int) - 1 = (m : Int) := by omega
      have hm0 : (0 : Int) ≤ m := by omega
      have hm64 : (m : Int) < 64 := by omega
      have hb := put_bit v m hv
      have HX1 := Lib.hid (show N + k + 1 ≤ maxLen by unfold maxLen; omega)
      have HX2 := Lib.hid (show (N + k + 1) * 1 ≤ 140737488355328 by omega)
      have HG := Lib.hid hgr
      have HK : Hid (m = n - 1 - k) := Lib.hid (by omega)
      have HKM := Lib.hid hkm
      have hbw : base ≤ wr.heap.size := by omega
      rw [hm1]
      clear hgr hkm hm1
      go_wp2_with (first
        | (at_builtin; refine wpList_append_grows (v := u0) rfl _ _ _ rfl Tryd.underlying45 hi0 hz0 hz1 hz2 hz3 (by decide) rfl hown rfl rfl (bool_one _) HX1.out HX2.out hbw ?_; intro g' cap' w1 hown1 hgr1))
      go_roundw
      case rel =>
        refine ⟨⟨k + 1, m, by have := HKM.out; omega, by go_num, ?_, HG.out.trans hgr1, Nat.le_trans hsz hgr1.grown.size⟩⟩
        have e : bools (bs ++ bitsTop v n k) ++ #[Value.bool (bitN v m)].toList = bools (bs ++ bitsTop v n (k + 1)) := by
          rw [bitsTop_succ, ← HK.out]; simp [bools]
        rw [← e]
        exact hown1
      case measure => simp [intOf]

/-! ### take -/
theorem or_one (V : Nat) (h : V < 9223372036854775808) : bits .or .u64 ((V : Int) * 2) 1 = ((V * 2 + 1 : Nat) : Int) := by
  have e7 := u64_or_nat (V * 2) 1 (by omega) (by omega)
  rw [show ((1 : Nat) : Int) = 1 from rfl, show ((V * 2 : Nat) : Int) = (V : Int) * 2 from by omega] at e7
  rw [e7]
  have := Nat.two_pow_add_eq_or_of_lt (i := 1) (b := 1) (by decide) V
  rw [show (2 : Nat) ^ 1 = 2 from rfl, Nat.mul_comm] at this
  rw [this]
structure TakeRel (w : World) (bs : List Bool) (at_ n : Nat) (v i : Value) (wr : World) : Prop where
  ex : ∃ k V m, k ≤ n ∧ V = takeN bs at_ k ∧ m = at_ + k ∧ i = .int .i64 (m : Nat) ∧ v = .int .u64 (V : Nat) ∧ w = wr
set_option maxHeartbeats 1000000 in
theorem rtake_any (base g cap N at_ n : Nat) (bs : List Bool) (w : World) (hown : w.ownsRow base 4 1 (.slice (some ⟨g, 0, none⟩) N cap) N (bools bs)) (hn : at_ + n ≤ N) (hn64 : n ≤ 64) (hN : N ≤ 1000) :
    Calls Tryd.prog 19 #[.slice (some ⟨g, 0, none⟩) N cap, .int .i64 (at_ : Int), .int .i64 (n : Int)] w (RetSame (.int .u64 ((takeN bs at_ n : Nat) : Int)) w) := by
  have HC : Hid (∀ j, j < N → w.cell? ⟨g, j, none⟩ = some (.bool (bs.getD j false))) := Lib.hid fun j hj => by
    have hl : bs.length = N := by have := hown.1; simpa [bools] using this
    have := hown.cells rfl j (.bool (bs.getD j false)) (by unfold bools; rw [List.getElem?_map, List.getD_eq_getElem?_getD, List.getElem?_eq_getElem (by omega)]; rfl)
    rwa [Addr.add_lit, Nat.zero_add] at this
  clear hown
  have HN := Lib.hid hn
  have ha : (at_ : Int) ≤ 1000 := by omega
  have hna : (n : Int) ≤ 64 := by omega
  clear hn
  go_enter Tryd.func19, Tryd.ntmps19
  go_wp2
  go_loopw [7, 8] (TakeRel w bs at_ n) (fun _ i _ => at_ + n - (intOf i).toNat)
  case atStart => exact ⟨⟨0, 0, at_, Nat.zero_le _, rfl, rfl, rfl, rfl, rfl⟩⟩
  case round =>
    obtain ⟨⟨k, V, m, hk, hV, hm, rfl, rfl, rfl⟩⟩ := hrel
    by_cases hlt : k < n
    · have hV63 : V < 9223372036854775808 := by
        have h1 := takeN_lt bs at_ k
        have h2 := Nat.pow_le_pow_right (n := 2) (by decide) (show k ≤ 63 by omega)
        omega
      have hmN : m < N := by have := HN.out; omega
      have hcell := HC.out m hmN
      have hlt' : (m : Int) < (at_ : Int) + (n : Int) := by omega
      have hmN' : (m : Int) < (N : Int) := by omega
      have hstep := takeN_succ bs at_ k
      rw [← hm, ← hV] at hstep
      have HS := Lib.hid hstep
      have HM := Lib.hid hm
      have hor := or_one V hV63
      cases hb : bs.getD m false with
      | true =>
        rw [hb] at hcell HS
        clear hstep hm hV hb hk
        go_wp2
        go_roundw
        case rel => exact ⟨⟨k + 1, V * 2 + 1, m + 1, by omega, by rw [HS.out]; rfl, by rw [HM.out]; omega, by go_num, by go_num, rfl⟩⟩
        case measure => simp [intOf]; omega
      | false =>
        rw [hb] at hcell HS
        clear hstep hm hV hb hk
        go_wp2
        go_roundw
        case rel => exact ⟨⟨k + 1, V * 2, m + 1, by omega, by rw [HS.out]; rfl, by rw [HM.out]; omega, by go_num, by go_num, rfl⟩⟩
        case measure => simp [intOf]; omega
    · have hkn : k = n := by omega
      have hlt' : ¬ (m : Int) < (at_ : Int) + (n : Int) := by omega
      have HV := Lib.hid hV
      have HK := Lib.hid hkn
      clear hV hm hkn hk hlt
      go_wp2
      go_ret
      exact ⟨by rw [HV.out, HK.out]; rfl, rfl⟩

/-! ### index -/
structure IdxRel (w : World) (c : UInt8) (i : Value) (wr : World) : Prop where
  ex : ∃ k : Nat, k ≤ 32 ∧ i = .int .i64 k ∧ (∀ j, j < k → letterN j ≠ c.toNat) ∧ w = wr
theorem idx_hit {c : UInt8} {k : Nat} (hk : k < 32) (h : letterN k = c.toNat) : idxZ c = (k : Int) := by
  have e : UInt8.ofNat (letterN k) = c := by rw [h]; simp
  have := numOf_letter hk
  rw [e] at this
  simp [idxZ, this]
theorem idx_none {c : UInt8} (h : ∀ j, j < 32 → letterN j ≠ c.toNat) : idxZ c = -1 := by
  cases hn : numOf c with
  | none => simp [idxZ, hn]
  | some d =>
    have hd := numOf_lt hn
    have e := letter_numOf hn
    exact absurd (by rw [← e, UInt8.toNat_ofNat', Nat.mod_eq_of_lt (letterN_lt hd)]) (h d hd)
set_option maxHeartbeats 1000000 in
theorem rindex_any (c : UInt8) (w : World) : Calls Tryd.prog 24 #[.int .u8 (c.toNat : Int)] w (RetSame (.int .i64 (idxZ c)) w) := by
  go_enter Tryd.func24, Tryd.ntmps24
  go_wp2
  go_loopw [3] (IdxRel w c) (fun i _ => 32 - (intOf i).toNat)
  case atStart => exact ⟨⟨0, Nat.zero_le _, rfl, fun j hj => absurd hj (by omega), rfl⟩⟩
  case round =>
    obtain ⟨⟨k, hk, rfl, hno, rfl⟩⟩ := hrel
    have HNO := Lib.hid hno
    clear hno
    by_cases hlt : k < 32
    · have hl := letters_get k hlt
      have HL := Lib.hid hl
      have hk32 : (k : Int) < 32 := by omega
      by_cases he : letterN k = c.toNat
      · have hc : (((⟨#[97, 98, 99, 100, 101, 102, 103, 104, 105, 106, 107, 108, 109, 110, 111, 112, 113, 114, 115, 116, 117, 118, 119, 120, 121, 122, 50, 51, 52, 53, 54, 55]⟩ : ByteArray)[k].toNat : Int) == (c.toNat : Int)) = true := by
          have h1 : lettersB[k].toNat = c.toNat := by rw [hl, he]
          have h2 : ((lettersB[k].toNat : Int) == (c.toNat : Int)) = true := by rw [h1]; simp
          exact h2
        have HE := Lib.hid he
        clear hl he
        go_wp2
        go_ret
        exact ⟨by rw [idx_hit hlt HE.out]; rfl, rfl⟩
      · have hc : (((⟨#[97, 98, 99, 100, 101, 102, 103, 104, 105, 106, 107, 108, 109, 110, 111, 112, 113, 114, 115, 116, 117, 118, 119, 120, 121, 122, 50, 51, 52, 53, 54, 55]⟩ : ByteArray)[k].toNat : Int) == (c.toNat : Int)) = false := by
          have h1 : lettersB[k].toNat ≠ c.toNat := by rw [hl]; exact he
          have h2 : ((lettersB[k].toNat : Int) == (c.toNat : Int)) = false := by simp; omega
          exact h2
        have HE := Lib.hid he
        clear hl he
        go_wp2
        go_roundw
        case rel => exact ⟨⟨k + 1, by omega, by go_num, fun j hj => by
          by_cases e : j = k
          · subst e; exact HE.out
          · exact HNO.out j (by omega), rfl⟩⟩
        case measure => simp [intOf]; omega
    · obtain rfl : k = 32 := by omega
      have hz := idx_none HNO.out
      have HZ := Lib.hid hz
      clear hz hk hlt
      go_wp2
      go_ret
      exact ⟨by rw [HZ.out]; rfl, rfl⟩

/-! ### Print -/
theorem rmay_any (t : Tok) (w : World) : Calls Tryd.prog 17 #[.agg t.cells] w (RetB (.bool (mayB t)) w) := by
  by_cases h1 : 0 ≤ t.slot
  · by_cases h2 : t.slot < 32
    · by_cases h3 : 1 ≤ t.birth
      · by_cases h4 : t.birth ≤ 1048576
        · have e : mayB t = true := by simp [mayB, *]
          go_enter Tryd.func17, Tryd.ntmps17
          go_wp2
          go_ret
          exact ⟨by first | rfl | (rw [e]; rfl), (Below.refl _ _).alloc (Nat.le_refl _) _⟩
        · have e : mayB t = false := by simp [mayB, *]
          go_enter Tryd.func17, Tryd.ntmps17
          go_wp2
          go_ret
          exact ⟨by first | rfl | (rw [e]; rfl), (Below.refl _ _).alloc (Nat.le_refl _) _⟩
      · have e : mayB t = false := by simp [mayB, *]
        go_enter Tryd.func17, Tryd.ntmps17
        go_wp2
        go_ret
        exact ⟨by first | rfl | (rw [e]; rfl), (Below.refl _ _).alloc (Nat.le_refl _) _⟩
    · have e : mayB t = false := by simp [mayB, *]
      go_enter Tryd.func17, Tryd.ntmps17
      go_wp2
      go_ret
      exact ⟨by first | rfl | (rw [e]; rfl), (Below.refl _ _).alloc (Nat.le_refl _) _⟩
  · have e : mayB t = false := by simp [mayB, *]
    go_enter Tryd.func17, Tryd.ntmps17
    go_wp2
    go_ret
    exact ⟨by first | rfl | (rw [e]; rfl), (Below.refl _ _).alloc (Nat.le_refl _) _⟩
theorem rprint_wrong (t : Tok) (hm : mayB t = false) (w : World) : Calls Tryd.prog 7 #[.agg t.cells] w (RetB (.tuple #[.string ByteArray.empty, .int .i64 1]) w) := by
  go_enter Tryd.func7, Tryd.ntmps7
  go_wp2_with (first
    | (refine wpList_load_at rfl rfl rfl (Blk.new w 24 t.cells).row rfl rfl tokInfo ?_)
    | (go_at_call 17; fail))
  refine (rmay_any _ _).mono ?_
  rintro e w1 ⟨rfl, h1⟩
  rw [hm]
  have hbel1 := ((Below.refl w.heap.size w).alloc (Nat.le_refl _) (.cells t.cells 24)).trans (h1.mono (by rw [World.size_alloc]; omega))
  go_wp2
  go_ret2
  exact ⟨rfl, hbel1⟩
/-- The 100 bits of a token's text. -/
def tokBits (s b x : Nat) : List Bool := ((([] ++ bitsV s 8) ++ bitsV b 24) ++ bitsV x 64) ++ bitsV 0 4
theorem bitN_high (a v i k : Nat) (hv : v < 2 ^ k) (hi : i < k) : bitN (a * 2 ^ k + v) i = bitN v i := by
  unfold bitN
  have e : (a * 2 ^ k + v) / 2 ^ i % 2 = v / 2 ^ i % 2 := by
    obtain ⟨d, rfl⟩ : ∃ d, k = i + 1 + d := ⟨k - i - 1, by omega⟩
    have : a * 2 ^ (i + 1 + d) + v = v + 2 ^ i * (2 * (2 ^ d * a)) := by
      rw [Nat.pow_add, Nat.pow_succ, Nat.add_comm, Nat.mul_comm a, Nat.mul_assoc, Nat.mul_assoc]
    rw [this, Nat.add_mul_div_left _ _ (Nat.pow_pos (by decide))]
    omega
  rw [e]
theorem bitN_low (a v i k : Nat) (hv : v < 2 ^ k) : bitN (a * 2 ^ k + v) (k + i) = bitN a i := by
  unfold bitN
  rw [Nat.pow_add, ← Nat.div_div_eq_div_mul, Nat.mul_comm a, Nat.mul_add_div (Nat.pow_pos (by decide)), Nat.div_eq_of_lt hv, Nat.add_zero]
/-- Rows of bits behind each other are the bits of the number. -/
theorem bits_join (l : List Bool) (a v n k : Nat) (hl : ∀ j, j < n → l[j]? = some (bitN a (n - 1 - j))) (hn : l.length = n) (hv : v < 2 ^ k) : ∀ j, j < n + k → (l ++ bitsV v k)[j]? = some (bitN (a * 2 ^ k + v) (n + k - 1 - j)) := by
  intro j hj
  by_cases h : j < n
  · rw [List.getElem?_append_left (by omega), hl j h, show n + k - 1 - j = k + (n - 1 - j) from by omega, bitN_low _ _ _ _ hv]
  · rw [List.getElem?_append_right (by omega), hn, bitsV_get _ _ _ (by omega), show n + k - 1 - j = k - 1 - (j - n) from by omega, bitN_high _ _ _ _ hv (by omega)]
theorem tokT_join (s b x : Nat) : (((0 * 2 ^ 8 + s) * 2 ^ 24 + b) * 2 ^ 64 + x) * 2 ^ 4 + 0 = tokT s b x * 16 := by
  unfold tokT; omega
theorem tokBits_len (s b x : Nat) : (tokBits s b x).length = 100 := by simp [tokBits, bitsV_len]
theorem tokBits_get (s b x : Nat) (hs : s < 2 ^ 8) (hb : b < 2 ^ 24) (hx : x < 2 ^ 64) : ∀ j, j < 100 → (tokBits s b x)[j]? = some (bitN (tokT s b x * 16) (100 - 1 - j)) := by
  have h0 := bits_join [] 0 s 0 8 (fun j hj => absurd hj (by omega)) rfl hs
  have h1 := bits_join _ _ b _ 24 h0 (by simp only [List.length_append, bitsV_len, List.length_nil]) hb
  have h2 := bits_join _ _ x _ 64 h1 (by simp only [List.length_append, bitsV_len, List.length_nil]) hx
  have h3 := bits_join _ _ 0 _ 4 h2 (by simp only [List.length_append, bitsV_len, List.length_nil]) (Nat.pow_pos (by decide))
  intro j hj
  have h4 := h3 j hj
  rw [tokT_join] at h4
  exact h4
theorem take_dig (s b x : Nat) (hs : s < 2 ^ 8) (hb : b < 2 ^ 24) (hx : x < 2 ^ 64) (k : Nat) (hk : k < 20) : takeN (tokBits s b x) (5 * k) 5 = dig (tokT s b x) k := by
  have h := tokBits_get s b x hs hb hx
  rw [takeN_bits _ _ 100 (5 * k) h 5 (by omega)]
  unfold dig
  rw [show 100 - 5 * k - 5 = 5 * (19 - k) from by omega, Nat.pow_mul]
theorem own_ne {w : World} {base : Nat} {e : TypeId} {size n g : Nat} {v : Value} {xs : List Value} (h : w.ownsRow base e size v n xs) (hg : g < base) : some g ≠ v.ownBlock := fun e' => by
  have := (h.lt _ e'.symm).1; omega
theorem own_one {w : World} {g base : Nat} {t : TypeId} {v : Value} (h : Blk w g t #[v]) (hb : base ≤ g) : w.ownsRow base t 1 (.slice (some ⟨g, 0, none⟩) 1 1) 1 [v] :=
  ⟨rfl, .inr ⟨g, 1, #[v], rfl, hb, h.eq, Nat.le_refl _, by decide, rfl, rfl⟩⟩
/-- A row of bytes of one's own as a text. -/
theorem str_own (w : World) (base g n cap : Nat) (l : List Nat) (h : w.ownsRow base 5 1 (.slice (some ⟨g, 0, none⟩) n cap) n (u8v l)) : (convert 40 9 (.slice (some ⟨g, 0, none⟩) n cap)).run Tryd.prog w = .ok (.string ⟨(l.map UInt8.ofNat).toArray⟩) w := by
  have hl : l.length = n := by have := h.1; simpa [u8v] using this
  have hc := run_convert_bytes_arg (P := Tryd.prog) w 40 5 Tryd.underlying40 Tryd.underlying5 g 0 n cap (l.map fun (n : Nat) => (n : Int)) (by simpa using hl) (fun i hi => by
    have := h.cells rfl i (.int .u8 (((l.map fun (n : Nat) => (n : Int)).getD i 0))) (by
      unfold u8v
      rw [List.getElem?_map, List.getElem?_eq_getElem (by omega)]
      simp [List.getD_eq_getElem?_getD, List.getElem?_eq_getElem (show i < l.length by omega)])
    rwa [Addr.add_lit] at this) 9 Tryd.underlying9
  have e : strOfNums (l.map fun (n : Nat) => (n : Int)) = ⟨(l.map UInt8.ofNat).toArray⟩ := by
    unfold strOfNums
    simp [Function.comp_def]
  rw [hc, e]
structure RPrintRel (w : World) (base base2 g cap T : Nat) (bs : List Bool) (b i : Value) (wr : World) : Prop where
  ex : ∃ k m, k ≤ 20 ∧ m = 5 * k ∧ i = .int .i64 (m : Nat) ∧ wr.ownsRow base2 5 1 b (k + 1) (u8v ((List.range (k + 1)).map (textF T))) ∧ wr.ownsRow base 4 1 (.slice (some ⟨g, 0, none⟩) 100 cap) 100 (bools bs) ∧ Below w.heap.size w wr ∧ base2 ≤ wr.heap.size
set_option maxHeartbeats 2000000 in
theorem rprint_right (s b : Nat) (x : BitVec 64) (hs : s < 32) (hb0 : 1 ≤ b) (hb1 : b ≤ 1048576) (w : World) : Calls Tryd.prog 7 #[.agg (Tok.mk s b x).cells] w (RetB (.tuple #[.string ⟨(textL (tokT s b x.toNat)).toArray⟩, .int .i64 0]) w) := by
  have hm : mayB ⟨s, b, x⟩ = true := by simp [mayB]; omega
  have hxw : wd x = ((x.toNat : Nat) : Int) := rfl
  have hx64 := x.isLt
  obtain ⟨bs, hbs⟩ : ∃ bs, tokBits s b x.toNat = bs := ⟨_, rfl⟩
  have HBS := Lib.hid hbs
  go_enter Tryd.func7, Tryd.ntmps7
  go_wp2_with (first
    | (refine wpList_load_at rfl rfl rfl (Blk.new w 24 (Tok.mk s b x).cells).row rfl rfl tokInfo ?_)
    | (go_at_call 17; fail))
  refine (rmay_any _ _).mono ?_
  rintro e w1 ⟨rfl, h1⟩
  rw [hm]
  have hsz1 := h1.size
  rw [World.size_alloc] at hsz1
  have HB1 := Lib.hid ((Blk.new w 24 (Tok.mk s b x).cells).below h1 (by rw [World.size_alloc]; omega))
  have hbel1 := Lib.hid (((Below.refl w.heap.size w).alloc (Nat.le_refl _) (.cells (Tok.mk s b x).cells 24)).trans (h1.mono (by rw [World.size_alloc]; omega)))
  have HO1 : Hid (w1.ownsRow (w.heap.size + 1) 4 1 (.slice none 0 0) 0 (bools [])) := Lib.hid ⟨rfl, .inl ⟨rfl, rfl⟩⟩
  have c0 := (HB1.out.cell 0).trans (Tok.cell0 _)
  clear h1
  go_wp2_with (first
    | (go_at_call 18; fail))
  refine (rput_any (w.heap.size + 1) s 8 0 (by omega) (by decide) (by decide) _ [] w1 HO1.out (by omega)).mono ?_
  rintro e w2 ⟨l2, rfl, hO2, hg2⟩
  have hsz2 := hg2.grown.size
  have HB2 := Lib.hid (HB1.out.grows hg2 (own_ne HO1.out (by omega)))
  have hbel2 := Lib.hid (bel_grows hbel1.out hg2 HO1.out (by omega) (by omega))
  have HO2 := Lib.hid hO2
  clear hO2 hg2 HO1 HB1 hbel1 c0
  have c1 := (HB2.out.cell 1).trans (Tok.cell1 _)
  go_wp2_with (first
    | (go_at_call 18; fail))
  refine (rput_any (w.heap.size + 1) b 24 (0 + 8) (by omega) (by decide) (by decide) _ _ w2 HO2.out (by omega)).mono ?_
  rintro e w3 ⟨l3, rfl, hO3, hg3⟩
  have hsz3 := hg3.grown.size
  have HB3 := Lib.hid (HB2.out.grows hg3 (own_ne HO2.out (by omega)))
  have hbel3 := Lib.hid (bel_grows hbel2.out hg3 HO2.out (by omega) (by omega))
  have HO3 := Lib.hid hO3
  clear hO3 hg3 HO2 HB2 hbel2 c1
  have c2 := (HB3.out.cell 2).trans (Tok.cell2 _)
  rw [hxw] at c2
  go_wp2_with (first
    | (go_at_call 18; fail))
  refine (rput_any (w.heap.size + 1) x.toNat 64 (0 + 8 + 24) (by omega) (by decide) (by decide) _ _ w3 HO3.out (by omega)).mono ?_
  rintro e w4 ⟨l4, rfl, hO4, hg4⟩
  have hsz4 := hg4.grown.size
  have hbel4 := Lib.hid (bel_grows hbel3.out hg4 HO3.out (by omega) (by omega))
  have HO4 := Lib.hid hO4
  clear hO4 hg4 HO3 HB3 hbel3 c2
  go_wp2_with (first
    | (go_at_call 18; fail))
  refine (rput_any (w.heap.size + 1) 0 4 (0 + 8 + 24 + 64) (by decide) (by decide) (by decide) _ _ w4 HO4.out (by omega)).mono ?_
  rintro e w5 ⟨l5, rfl, hO5, hg5⟩
  have hsz5 := hg5.grown.size
  have hbel5 := Lib.hid (bel_grows hbel4.out hg5 HO4.out (by omega) (by omega))
  have HO5 : Hid (w5.ownsRow (w.heap.size + 1) 4 1 l5 100 (bools bs)) := Lib.hid (by rw [← HBS.out]; exact hO5)
  clear hO5 hg5 HO4 hbel4
  obtain ⟨g, cap, rfl⟩ := own_form HO5.out (by decide)
  have hw5 : w.heap.size + 1 ≤ w5.heap.size := by omega
  obtain ⟨T, hT⟩ : ∃ T, tokT s b x.toNat = T := ⟨_, rfl⟩
  have HT := Lib.hid hT
  have HD : Hid (∀ k, k < 20 → takeN bs (5 * k) 5 = dig T k) := Lib.hid fun k hk => by rw [← HBS.out, ← HT.out]; exact take_dig s b x.toNat (by omega) (by omega) hx64 k hk
  have HOB : Hid ((w5.alloc (.cells #[.int .u8 116] 5)).ownsRow w5.heap.size 5 1 (.slice (some ⟨w5.heap.size, 0, none⟩) 1 1) 1 (u8v ((List.range 1).map (textF T)))) := Lib.hid (own_one (Blk.new _ _ _) (Nat.le_refl _))
  have HO6 := Lib.hid (HO5.out.alloc (.cells #[.int .u8 116] 5))
  have hbel6 := Lib.hid (hbel5.out.alloc (by omega) (.cells #[.int .u8 116] 5))
  have hgl := (HO5.out.lt _ rfl).2
  obtain ⟨ii, iz, hi0, hz0, hz1, hz2, hz3⟩ := u8Info
  obtain ⟨B2, hB2⟩ : ∃ B2, w5.heap.size = B2 := ⟨_, rfl⟩
  rw [hB2] at HOB hgl hw5
  have HB2 := Lib.hid hB2
  clear hT HBS HO5 hbel5 hxw hx64 hsz1 hsz2 hsz3 hsz4 hsz5 hB2
  go_wp2
  rw [HB2.out]
  go_loopw [5, 6] (RPrintRel w (w.heap.size + 1) B2 g cap T bs) (fun _ i _ => 100 - (intOf i).toNat)
  case atStart => exact ⟨⟨0, 0, by omega, rfl, rfl, HOB.out, HO6.out, hbel6.out, by rw [World.size_alloc, HB2.out]; omega⟩⟩
  case round =>
    clear HOB HO6 hbel6 HB2
    obtain ⟨⟨k, m, hk, hmk, rfl, hob, hol, hbel, hsz⟩⟩ := hrel
    have HM := Lib.hid hmk
    have HOL := Lib.hid hol
    have HBEL := Lib.hid hbel
    have hm100 : (m : Int) ≤ 100 := by omega
    clear hmk hol hbel
    by_cases hlt : k < 20
    · have hmlt : (m : Int) < 100 := by have := HM.out; omega
      have hdk := HD.out k hlt
      rw [← HM.out] at hdk
      have hd0 : 0 ≤ ((dig T k : Nat) : Int) := by omega
      have hd32 : ((dig T k : Nat) : Int) < 32 := by have := dig_lt T k; omega
      have HX1 := Lib.hid (show k + 1 + 1 ≤ maxLen by unfold maxLen; omega)
      have HX2 := Lib.hid (show (k + 1 + 1) * 1 ≤ 140737488355328 by omega)
      have HDK := Lib.hid hdk
      clear hdk
      go_wp2_with (first
        | (go_at_call 19; fail))
      refine (rtake_any _ g cap 100 m 5 bs wr HOL.out (by have := HM.out; omega) (by decide) (by decide)).mono ?_
      rintro e w' ⟨rfl, rfl⟩
      rw [HDK.out]
      go_wp2_with (first
        | (at_builtin; refine wpList_append_grows (v := u5) rfl _ _ _ rfl Tryd.underlying40 hi0 hz0 hz1 hz2 hz3 (by decide) rfl hob rfl rfl (byte_one _) HX1.out HX2.out hsz ?_; intro g' cap' w1 hown1 hgr1))
      go_roundw
      case rel =>
        refine ⟨⟨k + 1, m + 5, by omega, by rw [HM.out]; omega, by go_num, ?_, HOL.out.kept hgr1.grown (.inr (fun e => by have h1 : B2 ≤ g := (hob.lt _ e.symm).1; omega)), bel_grows HBEL.out hgr1 hob (by omega) (by omega), Nat.le_trans hsz hgr1.grown.size⟩⟩
        have e : u8v ((List.range (k + 1 + 1)).map (textF T)) = u8v ((List.range (k + 1)).map (textF T)) ++ #[Value.int .u8 ((letterN (dig T k) : Nat) : Int)].toList := by
          rw [List.range_succ (n := k + 1)]
          simp [u8v, textF]
        rw [e, ← letters_get (dig T k) (dig_lt T k)]
        exact hown1
      case measure => simp [intOf]; omega
    · obtain rfl : k = 20 := by omega
      obtain rfl : m = 100 := by have := HM.out; omega
      obtain ⟨g2, cap2, rfl⟩ := own_form hob (by decide)
      have hs := str_own wr B2 g2 21 cap2 _ hob
      have e : (((List.range 21).map (textF T)).map UInt8.ofNat) = textL T := by unfold textL; simp [Function.comp_def]
      rw [e] at hs
      clear e hob hk hlt
      go_wp2
      go_ret2
      exact ⟨by rw [HT.out]; rfl, HBEL.out⟩
end Go.Proofs.YtjhfidccpaidmaaDoor
