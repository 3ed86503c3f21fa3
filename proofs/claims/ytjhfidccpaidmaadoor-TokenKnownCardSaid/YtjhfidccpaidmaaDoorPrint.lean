/-
  token.may, token.fields, token.Print, and works.
-/
import Derived.Test.YtjhfidccpaidmaaDoorNumber
import Derived.Test.YtjhfidccpaidmaaDoorTokPure
import Derived.Test.YtjhfidccpaidmaaDoorErrno
import Derived.Laws.IdiomStrings
import Derived.Laws.BytesArg
import Derived.Lib.BufferWrite
import Derived.Lib.SlBuf
namespace Go.Proofs.YtjhfidccpaidmaaDoor
set_option maxRecDepth 100000
open Go.RowKit

/-- A token: slot, birth number, tag. -/
structure Tok where
  slot : Int
  birth : Int
  tag : BitVec 64
def Tok.cells (t : Tok) : Array Value := #[.int .i64 t.slot, .int .i64 t.birth, .int .u64 (wd t.tag)]
@[go_sem] theorem Tok.cells_size (t : Tok) : t.cells.size = 3 := rfl
@[go_sem] theorem Tok.cell0 (t : Tok) : t.cells[0]? = some (.int .i64 t.slot) := rfl
@[go_sem] theorem Tok.cell1 (t : Tok) : t.cells[1]? = some (.int .i64 t.birth) := rfl
@[go_sem] theorem Tok.cell2 (t : Tok) : t.cells[2]? = some (.int .u64 (wd t.tag)) := rfl
theorem Tok.one (t : Tok) : ∀ u ∈ t.cells.toList, u.oneCell' = true := by intro u hu; simp [Tok.cells] at hu; rcases hu with rfl | rfl | rfl <;> rfl
def mayB (t : Tok) : Bool := decide (0 ≤ t.slot) && decide (t.slot < 32) && decide (1 ≤ t.birth) && decide (t.birth ≤ 1048576)

theorem may_any (t : Tok) (w : World) : Calls Tryd.prog 14 #[.agg t.cells] w (RetB (.bool (mayB t)) w) := by
  by_cases h1 : 0 ≤ t.slot
  · by_cases h2 : t.slot < 32
    · by_cases h3 : 1 ≤ t.birth
      · by_cases h4 : t.birth ≤ 1048576
        · have e : mayB t = true := by simp [mayB, *]
          go_enter Tryd.func14, Tryd.ntmps14
          go_wp2
          go_ret
          exact ⟨by first | rfl | (rw [e]; rfl), (Below.refl _ _).alloc (Nat.le_refl _) _⟩
        · have e : mayB t = false := by simp [mayB, *]
          go_enter Tryd.func14, Tryd.ntmps14
          go_wp2
          go_ret
          exact ⟨by first | rfl | (rw [e]; rfl), (Below.refl _ _).alloc (Nat.le_refl _) _⟩
      · have e : mayB t = false := by simp [mayB, *]
        go_enter Tryd.func14, Tryd.ntmps14
        go_wp2
        go_ret
        exact ⟨by first | rfl | (rw [e]; rfl), (Below.refl _ _).alloc (Nat.le_refl _) _⟩
    · have e : mayB t = false := by simp [mayB, *]
      go_enter Tryd.func14, Tryd.ntmps14
      go_wp2
      go_ret
      exact ⟨by first | rfl | (rw [e]; rfl), (Below.refl _ _).alloc (Nat.le_refl _) _⟩
  · have e : mayB t = false := by simp [mayB, *]
    go_enter Tryd.func14, Tryd.ntmps14
    go_wp2
    go_ret
    exact ⟨by first | rfl | (rw [e]; rfl), (Below.refl _ _).alloc (Nat.le_refl _) _⟩
theorem fields_any (g n cap : Nat) (hc : 12 ≤ cap) (hm : cap ≤ 9223372036854775807) (w : World) : Calls Tryd.prog 15 #[.slice (some ⟨g, 0, none⟩) n cap] w (RetB (.tuple #[.slice (some ⟨g, 0, none⟩) 1 1, .slice (some ⟨g, 1, none⟩) 3 3, .slice (some ⟨g, 4, none⟩) 8 8]) w) := by
  have h1 : (1 : Int) ≤ (cap : Int) := by omega
  have h4 : (4 : Int) ≤ (cap : Int) := by omega
  have h12 : (12 : Int) ≤ (cap : Int) := by omega
  have hm' : (cap : Int) ≤ 9223372036854775807 := by omega
  clear hc hm
  go_enter Tryd.func15, Tryd.ntmps15
  go_wp2
  go_region
  all_goals (try go_wp2)
  all_goals go_ret3
  all_goals exact ⟨rfl, (Below.refl _ _).drew⟩
theorem tokInfo : (Tryd.prog.info? 24).map (·.size) = some 3 := by kernel_rfl

theorem make13 (w : World) : (Instr.makeSlice 40 (.int .i64 13) (.int .i64 13)).run Tryd.prog w = .ok (.slice (some ⟨w.heap.size, 0, none⟩) 13 13) (w.alloc (.cells (rowU8 13 fun _ => 0) 5)) := by kernel_rfl
theorem make21 (w : World) : (Instr.makeSlice 40 (.int .i64 21) (.int .i64 21)).run Tryd.prog w = .ok (.slice (some ⟨w.heap.size, 0, none⟩) 21 21) (w.alloc (.cells (rowU8 21 fun _ => 0) 5)) := by kernel_rfl

theorem u64_nat (s : Nat) (h : s < 18446744073709551616) : IntKind.u64.wrap (s : Int) = wd (BitVec.ofNat 64 s) := by
  rw [IntKind.wrap_u64]; unfold wd; rw [BitVec.toNat_ofNat]; omega
/-- The bytes of a token: slot, birth, tag, and a nought. -/
def tokF (s b x : Nat) : Nat → Nat := putF (putF (putF (fun _ => 0) 0 1 s 0) 1 3 b 0) 4 8 x 0

theorem rowU8_toList (n : Nat) (F : Nat → Nat) : (rowU8 n F).toList = (List.range n).map fun i => Value.int .u8 (F i : Int) := by simp [rowU8]
theorem copy_t (w : World) : (Builtin.copy_ #[40, 9] 3 #[.slice (some ⟨w.heap.size, 0, none⟩) 21 21, .string ⟨#[116]⟩]).run Tryd.prog (w.alloc (.cells (rowU8 21 fun _ => 0) 5)) = .ok (.int .i64 1) (w.alloc (.cells (rowU8 21 fun j => if j ≤ 0 then 116 else 0) 5)) := by
  rw [Lib.run_copy_row_string (w.alloc (.cells (rowU8 21 fun _ => 0) 5)) 40 9 3 5 w.heap.size 0 21 21 ⟨#[116]⟩ (rowU8 21 fun _ => 0) 5 Tryd.underlying40 (by kernel_rfl) (Blk.new _ _ _).eq (by decide) (by rw [rowU8_size]; decide)]
  rw [setRow_alloc_new]
  rfl
/-- What holds at the head of a round of Print: the letters below place k are laid. -/
structure PrintRel (w : World) (g H T : Nat) (F : Nat → Nat) (i : Value) (wr : World) : Prop where
  ex : ∃ k : Nat, k ≤ 20 ∧ i = .int .i64 k ∧ Blk wr H 5 (rowU8 21 fun j => if j ≤ k then textF T j else 0) ∧ Blk wr g 5 (rowU8 13 F) ∧ Below w.heap.size w wr

theorem tokF_byte (s b x : Nat) (hs : s < 32) (hb : b ≤ 1048576) (hx : x < 2 ^ 64) (j : Nat) (hj : j < 13) : tokF s b x j = byteT (tokT s b x) j := by
  have h : j = 0 ∨ j = 1 ∨ j = 2 ∨ j = 3 ∨ j = 4 ∨ j = 5 ∨ j = 6 ∨ j = 7 ∨ j = 8 ∨ j = 9 ∨ j = 10 ∨ j = 11 ∨ j = 12 := by omega
  unfold tokF putF byteT tokT
  rcases h with rfl | rfl | rfl | rfl | rfl | rfl | rfl | rfl | rfl | rfl | rfl | rfl | rfl <;> simp <;> omega
theorem letter_idx (A B r : Nat) (hA : A < 256) (hB : B < 256) : bits .and .u64 (bits .or .u64 (IntKind.u64.wrap (IntKind.u64.wrap (A : Int) * 256)) (IntKind.u64.wrap (B : Int)) / 2 ^ (11 - r)) 31 = (((A * 256 + B) / 2 ^ (11 - r) % 32 : Nat) : Int) := by
  have e1 : IntKind.u64.wrap (A : Int) = (A : Int) := by rw [IntKind.wrap_u64]; omega
  have e2 : IntKind.u64.wrap (B : Int) = (B : Int) := by rw [IntKind.wrap_u64]; omega
  have e3 : IntKind.u64.wrap ((A : Int) * 256) = ((A * 256 : Nat) : Int) := by rw [IntKind.wrap_u64]; omega
  rw [e1, e2, e3, u64_or_nat _ _ (by omega) (by omega)]
  have e4 : A * 256 ||| B = A * 256 + B := by
    have := Nat.two_pow_add_eq_or_of_lt (i := 8) (b := B) (by omega) A
    rw [show (2 : Nat) ^ 8 = 256 from rfl, Nat.mul_comm] at this
    exact this.symm
  rw [e4]
  have e5 : (((A * 256 + B : Nat) : Int) / 2 ^ (11 - r)) = (((A * 256 + B) / 2 ^ (11 - r) : Nat) : Int) := by
    rw [Int.natCast_ediv]; simp
  rw [e5]
  have h6 := Nat.div_le_self (A * 256 + B) (2 ^ (11 - r))
  have e7 := u64_and_nat ((A * 256 + B) / 2 ^ (11 - r)) 31 (by omega) (by omega)
  rw [show ((31 : Nat) : Int) = 31 from rfl] at e7
  rw [e7]
  congr 1
  exact Nat.and_two_pow_sub_one_eq_mod _ 5
def lettersB : ByteArray := ⟨#[97, 98, 99, 100, 101, 102, 103, 104, 105, 106, 107, 108, 109, 110, 111, 112, 113, 114, 115, 116, 117, 118, 119, 120, 121, 122, 50, 51, 52, 53, 54, 55]⟩
theorem letters_get (d : Nat) (h : d < lettersB.size) : lettersB[d].toNat = letterN d := by
  have : ∀ e : Fin 32, (lettersB[e.val]'e.isLt).toNat = letterN e.val := by decide +kernel
  exact this ⟨d, h⟩
/-- A row of bytes as a text. -/
theorem str_row (w : World) (H N cap : Nat) (F : Nat → Nat) (hB : Blk w H 5 (rowU8 N F)) : (convert 40 9 (.slice (some ⟨H, 0, none⟩) N cap)).run Tryd.prog w = .ok (.string ⟨((List.range N).map fun j => UInt8.ofNat (F j)).toArray⟩) w := by
  have h := run_convert_bytes_arg (P := Tryd.prog) w 40 5 Tryd.underlying40 Tryd.underlying5 H 0 N cap ((List.range N).map fun j => (F j : Int)) (by simp) (fun i hi => by
    rw [Nat.zero_add, hB.cell, rowU8_get hi]
    simp [List.getD_eq_getElem?_getD, hi]) 9 Tryd.underlying9
  have e : strOfNums ((List.range N).map fun j => (F j : Int)) = ⟨((List.range N).map fun j => UInt8.ofNat (F j)).toArray⟩ := by
    unfold strOfNums
    simp [Function.comp_def]
  rw [h, e]
set_option maxHeartbeats 1000000 in
theorem print_right (s b : Nat) (x : BitVec 64) (hs : s < 32) (hb0 : 1 ≤ b) (hb1 : b ≤ 1048576) (w : World) : Calls Tryd.prog 6 #[.agg (Tok.mk s b x).cells] w (RetB (.tuple #[.string ⟨(textL (tokT s b x.toNat)).toArray⟩, .nilIface]) w) := by
  have mk13 := make13
  have mk21 := make21
  have hm : mayB ⟨s, b, x⟩ = true := by simp [mayB]; omega
  have us := u64_nat s (by omega)
  have ub := u64_nat b (by omega)
  go_enter Tryd.func6, Tryd.ntmps6
  go_wp2_with (first
    | (refine wpList_load_at rfl rfl rfl (Blk.new w 24 (Tok.mk s b x).cells).row rfl rfl tokInfo ?_)
    | (go_at_call 14; fail))
  refine (may_any _ _).mono ?_
  rintro e w1 ⟨rfl, h1⟩
  rw [hm]
  have hsz1 := h1.size
  rw [World.size_alloc] at hsz1
  have HB1 := Lib.hid ((Blk.new w 24 (Tok.mk s b x).cells).below h1 (by rw [World.size_alloc]; omega))
  have hbel1 := ((Below.refl w.heap.size w).alloc (Nat.le_refl _) (.cells (Tok.mk s b x).cells 24)).trans (h1.mono (by rw [World.size_alloc]; omega))
  clear h1
  go_wp2_with (first
    | (go_at_call 15; fail))
  refine (fields_any _ 13 13 (by decide) (by decide) _).mono ?_
  rintro e w2 ⟨rfl, h2⟩
  have hsz2 := h2.size
  rw [World.size_alloc] at hsz2
  have HB2 := Lib.hid (((HB1.out).alloc (.cells (rowU8 13 fun _ => 0) 5)).below h2 (by rw [World.size_alloc]; omega))
  have HF2 := Lib.hid ((Blk.new w1 5 (rowU8 13 fun _ => 0)).below h2 (by rw [World.size_alloc]; omega))
  have hbel2 := (hbel1.alloc hbel1.size (.cells (rowU8 13 fun _ => 0) 5)).trans (h2.mono (by rw [World.size_alloc]; omega))
  obtain ⟨g, hg⟩ : ∃ g, w1.heap.size = g := ⟨_, rfl⟩
  rw [hg] at hsz2 HF2 hsz1
  clear h2 HB1 hbel1
  simp only [hg]
  clear hg w1
  have c0 := HB2.out.cell 0
  have c1 := HB2.out.cell 1
  have c2 := HB2.out.cell 2
  rw [Tok.cell0] at c0; rw [Tok.cell1] at c1; rw [Tok.cell2] at c2
  go_wp2_with (first
    | (go_at_call 16; fail))
  refine (number_any w2 g 13 _ 0 1 1 _ (by omega) (by omega) HF2.out).mono ?_
  rintro e w3 ⟨rfl, hB3, hb3, hz3⟩
  have HF3 := Lib.hid hB3
  have HB3 := Lib.hid (HB2.out.below hb3 (by omega))
  have hbel3 := hbel2.trans (hb3.mono (by omega))
  clear hB3 hb3 HB2 HF2 c0 c1 c2 hbel2
  have c0 := HB3.out.cell 0
  have c1 := HB3.out.cell 1
  have c2 := HB3.out.cell 2
  rw [Tok.cell0] at c0; rw [Tok.cell1] at c1; rw [Tok.cell2] at c2
  go_wp2_with (first
    | (go_at_call 16; fail))
  refine (number_any w3 g 13 _ 1 3 3 _ (by omega) (by omega) HF3.out).mono ?_
  rintro e w4 ⟨rfl, hB4, hb4, hz4⟩
  have HF4 := Lib.hid hB4
  have HB4 := Lib.hid (HB3.out.below hb4 (by omega))
  have hbel4 := hbel3.trans (hb4.mono (by omega))
  clear hB4 hb4 HB3 HF3 c0 c1 c2 hbel3
  have c0 := HB4.out.cell 0
  have c1 := HB4.out.cell 1
  have c2 := HB4.out.cell 2
  rw [Tok.cell0] at c0; rw [Tok.cell1] at c1; rw [Tok.cell2] at c2
  go_wp2_with (first
    | (go_at_call 16; fail))
  refine (number_any w4 g 13 _ 4 8 8 _ (by omega) (by omega) HF4.out).mono ?_
  rintro e w5 ⟨rfl, hB5, hb5, hz5⟩
  have HF5 := Lib.hid hB5
  have hbel5 := hbel4.trans (hb5.mono (by omega))
  have hg5 : g < w5.heap.size := by omega
  have hsz5 := hbel5.size
  clear hB5 hb5 HB4 HF4 c0 c1 c2 hbel4 hz3 hz4 hz5 hsz1 hsz2
  have HC := Lib.hid (copy_t w5)
  go_wp2_with (first
    | (refine Lib.wpList_copy_run _ rfl (.tmp 38) (.const (.string ⟨#[116]⟩)) 40 9 rfl _ _ rfl rfl HC.out ?_))
  clear HC
  obtain ⟨F, hF⟩ : ∃ F, tokF s b x.toNat = F := ⟨_, rfl⟩
  have HF6 : Hid (Blk (w5.alloc (.cells (rowU8 21 fun j => if j ≤ 0 then 116 else 0) 5)) g 5 (rowU8 13 F)) := by
    apply Lib.hid
    rw [← hF, tokF]
    have := HF5.out.alloc (.cells (rowU8 21 fun j => if j ≤ 0 then 116 else 0) 5)
    simpa only [BitVec.toNat_ofNat, show s % 2 ^ 64 = s from by omega, show b % 2 ^ 64 = b from by omega] using this
  have HFB : Hid (∀ j, j < 13 → F j = byteT (tokT s b x.toNat) j) := Lib.hid fun j hj => by rw [← hF]; exact tokF_byte s b x.toNat hs hb1 x.isLt j hj
  clear HF5 hF us ub
  obtain ⟨T, hT⟩ : ∃ T, tokT s b x.toNat = T := ⟨_, rfl⟩
  rw [hT] at HFB
  have HT := Lib.hid hT
  clear hT
  obtain ⟨H, hH⟩ : ∃ H, w5.heap.size = H := ⟨_, rfl⟩
  have HBO : Hid (Blk (w5.alloc (.cells (rowU8 21 fun j => if j ≤ 0 then 116 else 0) 5)) H 5 (rowU8 21 fun j => if j ≤ 0 then textF T j else 0)) := by
    apply Lib.hid
    rw [← hH]
    have := Blk.new w5 5 (rowU8 21 fun j => if j ≤ 0 then 116 else 0)
    rwa [rowU8_congr (G := fun j => if j ≤ 0 then textF T j else 0) (fun j _ => by
      by_cases h : j ≤ 0
      · rw [if_pos h, if_pos h, show j = 0 from by omega]; rfl
      · rw [if_neg h, if_neg h])] at this
  have hbel6 := hbel5.alloc hsz5 (.cells (rowU8 21 fun j => if j ≤ 0 then 116 else 0) 5)
  simp only [hH]
  rw [hH] at hg5 hsz5
  clear hbel5 hH
  go_loopw [40] (PrintRel w g H T F) (fun i _ => 20 - (intOf i).toNat)
  case atStart => exact ⟨0, by omega, rfl, HBO.out, HF6.out, hbel6⟩
  case round =>
    clear HBO HF6 hbel6
    obtain ⟨⟨k, hk, rfl, hBO, hBF, hbel⟩⟩ := hrel
    have HBO := Lib.hid hBO
    have HBF := Lib.hid hBF
    have HBEL := Lib.hid hbel
    clear hBO hBF hbel
    by_cases hlt : k < 20
    · obtain ⟨q, hq⟩ : ∃ q, 5 * k / 8 = q := ⟨_, rfl⟩
      obtain ⟨r, hr⟩ : ∃ r, 5 * k % 8 = r := ⟨_, rfl⟩
      have hqr : 5 * k = 8 * q + r := by omega
      have hd := HFB.out q (by omega)
      have hd1 := HFB.out (q + 1) (by omega)
      have hq1 : 5 * (k : Int) / 8 = (q : Int) := by omega
      have hr1 : 5 * (k : Int) % 8 = (r : Int) := by omega
      have hq11 : (q : Int) ≤ 11 := by omega
      have hr7 : (r : Int) ≤ 7 := by omega
      have hq12 : (q : Int) < 12 := by omega
      have hk0 : (k : Int) < 20 := by omega
      have c0 := HBF.out.cell q
      rw [rowU8_get (by omega)] at c0
      have c1 := HBF.out.cell (q + 1)
      rw [rowU8_get (by omega)] at c1
      have c2 := HBO.out.cell (k + 1)
      rw [rowU8_get (by omega)] at c2
      have f2 := HBO.out.frozen (k + 1)
      have hE := letter_idx (F q) (F (q + 1)) r (by rw [hd]; exact Nat.mod_lt _ (by decide)) (by rw [hd1]; exact Nat.mod_lt _ (by decide))
      rw [show (F q * 256 + F (q + 1)) / 2 ^ (11 - r) % 32 = dig T k from by rw [hd, hd1]; exact dig_bytes T k q r hlt hqr (by omega)] at hE
      have hd0 : 0 ≤ ((dig T k : Nat) : Int) := by omega
      have hd32 : ((dig T k : Nat) : Int) < 32 := by have := dig_lt T k; omega
      clear hq hr hqr hd hd1
      go_wp2
      go_roundw
      case rel =>
        refine ⟨⟨k + 1, by omega, by go_num, ?_, HBF.out.far (p := ⟨H, k + 1, none⟩) (by simp; omega) _, HBEL.out.setCell (p := ⟨H, k + 1, none⟩) hsz5 _⟩⟩
        have h := HBO.out.set_ (k + 1) (.int .u8 ((letterN (dig T k) : Nat) : Int))
        rw [rowU8_set, rowU8_congr (G := fun j => if j ≤ k + 1 then textF T j else 0)] at h
        · have hl := letters_get (dig T k) (dig_lt T k)
          rw [← hl] at h
          exact h
        · intro j hj
          by_cases e : j = k + 1
          · subst e; rw [if_pos rfl, if_pos (Nat.le_refl _)]; rfl
          · rw [if_neg e]
            by_cases e2 : j ≤ k
            · rw [if_pos e2, if_pos (by omega)]
            · rw [if_neg e2, if_neg (by omega)]
      case measure => simp [intOf]; omega
    · obtain rfl : k = 20 := by omega
      have hs := str_row wr H 21 21 _ HBO.out
      have e : ((List.range 21).map fun j => UInt8.ofNat (if j ≤ 20 then textF T j else 0)) = textL T := by
        unfold textL
        apply List.map_congr_left
        intro j hj
        rw [if_pos (by have := List.mem_range.1 hj; omega)]
      rw [e] at hs
      clear e hk hlt
      go_wp2
      go_ret2
      exact ⟨by rw [HT.out]; rfl, HBEL.out⟩

theorem print_wrong (t : Tok) (hm : mayB t = false) (w : World) : Calls Tryd.prog 6 #[.agg t.cells] w (RetB (.tuple #[.string ByteArray.empty, errno 1]) w) := by
  go_enter Tryd.func6, Tryd.ntmps6
  go_wp2_with (first
    | (refine wpList_load_at rfl rfl rfl (Blk.new w 24 t.cells).row rfl rfl tokInfo ?_)
    | (go_at_call 14; fail))
  refine (may_any _ _).mono ?_
  rintro e w1 ⟨rfl, h1⟩
  rw [hm]
  have hbel1 := ((Below.refl w.heap.size w).alloc (Nat.le_refl _) (.cells t.cells 24)).trans (h1.mono (by rw [World.size_alloc]; omega))
  go_wp2
  go_ret2
  exact ⟨rfl, hbel1⟩
end Go.Proofs.YtjhfidccpaidmaaDoor
