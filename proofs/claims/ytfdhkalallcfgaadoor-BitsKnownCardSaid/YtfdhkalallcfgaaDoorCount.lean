/-
  How many: math/bits.OnesCount64, bits.Count and the document's Count; the document's Meet, Join, Less, Within.
-/
import Derived.Test.YtfdhkalallcfgaaDoorAllNums
import Derived.Test.YtfdhkalallcfgaaDoorPop
namespace Go.Proofs.YtfdhkalallcfgaaDoor
set_option maxRecDepth 100000
open Go.RowKit

theorem hb_nat (x : BitVec 64) (k : Nat) : hb x k = decide (x.toNat / 2 ^ k % 2 = 1) := by
  show x.toNat.testBit k = _
  rw [Nat.testBit_eq_decide_div_mod_eq]
theorem numsB_pop (x : BitVec 64) : ∀ k, (numsB x k).length = popN k x.toNat
  | 0 => rfl
  | k + 1 => by
    rw [popN_top, ← numsB_pop x k]
    have h := hb_nat x k
    have h2 : x.toNat / 2 ^ k % 2 = 0 ∨ x.toNat / 2 ^ k % 2 = 1 := by omega
    rcases h2 with h2 | h2
    · rw [h2] at h ⊢; rw [numsB_f (by simpa using h)]; rfl
    · rw [h2] at h ⊢; rw [numsB_t (by simpa using h)]; simp
/-- How many. -/
def cntB (x : BitVec 64) : Nat := (numsB x 64).length
theorem cntB_le (x : BitVec 64) : cntB x ≤ 64 := numsB_len x 64
theorem cnt_word (x : BitVec 64) : (pc6 (pc5 (pc4 (pc3 (pc2 (pc1 x)))))).toNat % 128 = cntB x := by
  rw [(pop_word x).1, cntB, numsB_pop]
@[go_sem] theorem shr1 (x : BitVec 64) : wd x / (2 : Int) = wd (x >>> 1) := u64_shr_bv x 1
@[go_sem] theorem shr2 (x : BitVec 64) : wd x / (4 : Int) = wd (x >>> 2) := u64_shr_bv x 2
@[go_sem] theorem shr4 (x : BitVec 64) : wd x / (16 : Int) = wd (x >>> 4) := u64_shr_bv x 4
@[go_sem] theorem shr8 (x : BitVec 64) : wd x / (256 : Int) = wd (x >>> 8) := u64_shr_bv x 8
@[go_sem] theorem shr16 (x : BitVec 64) : wd x / (65536 : Int) = wd (x >>> 16) := u64_shr_bv x 16
@[go_sem] theorem shr32 (x : BitVec 64) : wd x / (4294967296 : Int) = wd (x >>> 32) := u64_shr_bv x 32
theorem and127 (x : BitVec 64) : bits .and .i64 (IntKind.i64.wrap (wd x)) 127 = ((x.toNat % 128 : Nat) : Int) := by
  have h : BitVec.ofInt 64 (IntKind.i64.wrap (wd x)) = x := by
    unfold wd
    rw [IntKind.wrap_i64]
    apply BitVec.eq_of_toNat_eq
    rw [BitVec.toNat_ofInt]
    have := x.isLt
    omega
  have hm : x.toNat &&& 127 = x.toNat % 128 := Nat.and_two_pow_sub_one_eq_mod x.toNat 7
  show IntKind.i64.wrap ((BitVec.ofInt 64 (IntKind.i64.wrap (wd x)) &&& BitVec.ofInt 64 127).toNat : Int) = _
  rw [h, BitVec.toNat_and, show (BitVec.ofInt 64 127).toNat = 127 from rfl, hm, IntKind.wrap_i64]
  omega
@[go_sem] theorem pc_g1 (y : BitVec 64) : (y >>> 1 &&& 6148914691236517205#64) + (y &&& 6148914691236517205#64) = pc1 y := rfl
@[go_sem] theorem pc_g2 (y : BitVec 64) : (y >>> 2 &&& 3689348814741910323#64) + (y &&& 3689348814741910323#64) = pc2 y := rfl
@[go_sem] theorem pc_g3 (y : BitVec 64) : (y >>> 4 + y) &&& 1085102592571150095#64 = pc3 y := rfl
@[go_sem] theorem pc_g4 (y : BitVec 64) : y + y >>> 8 = pc4 y := rfl
@[go_sem] theorem pc_g5 (y : BitVec 64) : y + y >>> 16 = pc5 y := rfl
@[go_sem] theorem pc_g6 (y : BitVec 64) : y + y >>> 32 = pc6 y := rfl
set_option maxHeartbeats 1000000 in
theorem ones_any (x : BitVec 64) (w : World) : Calls Tryd.prog 31 #[.int .u64 (wd x)] w (RetSame (.int .i64 (cntB x : Int)) w) := by
  go_enter Tryd.func31, Tryd.ntmps31
  go_wp2
  go_ret
  refine ⟨?_, rfl⟩
  rw [← cnt_word x, ← and127, IntWalk.i64_left]
  rfl
theorem count_any (x : BitVec 64) (w : World) : Calls Tryd.prog 16 #[.int .u64 (wd x)] w (RetSame (.int .i64 (cntB x : Int)) w) := by
  go_enter Tryd.func16, Tryd.ntmps16
  go_wp2_with (go_at_call 31; refine (ones_any _ _).mono ?_; rintro e w' ⟨rfl, rfl⟩)
  go_ret
  exact ⟨rfl, rfl⟩

theorem rcount_any (x : BitVec 64) (w : World) : Calls Tryd.prog 53 #[.int .u64 (wd x)] w (RetB (.int .i64 (cntB x : Int)) w) := by
  go_enter Tryd.func53, Tryd.ntmps53
  go_wp2_with (go_at_call 7; fail)
  refine (rall_any x w).mono ?_
  rintro e w1 ⟨v, rfl, hown, hb1⟩
  rcases hown.2 with ⟨rfl, hn⟩ | ⟨g, cap, cur, rfl, _⟩
  · have hc : cntB x = 0 := hn
    clear hown hn
    go_wp2
    go_ret
    exact ⟨by rw [hc]; rfl, hb1⟩
  · have HO := Lib.hid hown
    clear hown
    go_wp2
    go_ret
    exact ⟨rfl, hb1⟩
theorem rmeet_any (x y : BitVec 64) (w : World) : Calls Tryd.prog 46 #[.int .u64 (wd x), .int .u64 (wd y)] w (RetSame (.int .u64 (wd (x &&& y))) w) := by
  go_enter Tryd.func46, Tryd.ntmps46
  go_wp2_with (go_at_call 58; refine (of_any x y true false false (by simp) _).mono ?_; rintro e w' ⟨rfl, rfl⟩)
  go_ret
  exact ⟨by rw [← accB_all (ofF x y true false false) (x &&& y) (fun j hj => by simp [ofF, hb])]; rfl, rfl⟩
theorem rjoin_any (x y : BitVec 64) (w : World) : Calls Tryd.prog 48 #[.int .u64 (wd x), .int .u64 (wd y)] w (RetSame (.int .u64 (wd (x ||| y))) w) := by
  go_enter Tryd.func48, Tryd.ntmps48
  go_wp2_with (go_at_call 58; refine (of_any x y false true false (by simp) _).mono ?_; rintro e w' ⟨rfl, rfl⟩)
  go_ret
  exact ⟨by rw [← accB_all (ofF x y false true false) (x ||| y) (fun j hj => by simp [ofF, hb])]; rfl, rfl⟩
theorem rless_any (x y : BitVec 64) (w : World) : Calls Tryd.prog 50 #[.int .u64 (wd x), .int .u64 (wd y)] w (RetSame (.int .u64 (wd (x &&& ~~~y))) w) := by
  go_enter Tryd.func50, Tryd.ntmps50
  go_wp2_with (go_at_call 58; refine (of_any x y false false true (by simp) _).mono ?_; rintro e w' ⟨rfl, rfl⟩)
  go_ret
  exact ⟨by rw [← accB_all (ofF x y false false true) (x &&& ~~~y) (fun j hj => by simp [ofF, hb, hj])]; rfl, rfl⟩

/-- All of x is in y. -/
def inB (x y : BitVec 64) : Bool := x &&& ~~~y == 0#64
def InRel (w : World) (x y : BitVec 64) (i : Value) (wr : World) : Prop := w = wr ∧ ∃ k : Nat, k ≤ 64 ∧ i = .int .i64 k ∧ ∀ j, j < k → hb x j = true → hb y j = true
theorem inB_all {x y : BitVec 64} (h : ∀ j, j < 64 → hb x j = true → hb y j = true) : inB x y = true := by
  have : x &&& ~~~y = 0#64 := by
    apply BitVec.eq_of_getLsbD_eq
    intro j hj
    have := h j hj
    simp only [hb] at this
    cases h1 : x.getLsbD j
    · simp [h1]
    · simp [h1, this h1]
  simp [inB, this]
theorem inB_not {x y : BitVec 64} {j : Nat} (hj : j < 64) (h1 : hb x j = true) (h2 : hb y j = false) : inB x y = false := by
  have : x &&& ~~~y ≠ 0#64 := fun e => by
    have := congrArg (fun v => v.getLsbD j) e
    simp only [hb] at h1 h2
    simp [h1, hj] at this
    rw [BitVec.getLsbD_eq_getElem hj, this] at h2
    cases h2
  simp [inB, this]
set_option maxHeartbeats 1000000 in
theorem rwithin_any (x y : BitVec 64) (w : World) : Calls Tryd.prog 52 #[.int .u64 (wd x), .int .u64 (wd y)] w (RetSame (.bool (inB x y)) w) := by
  go_enter Tryd.func52, Tryd.ntmps52
  go_wp2
  go_loopw [5] (InRel w x y) (fun i _ => 64 - (intOf i).toNat)
  case atStart => exact ⟨rfl, 0, by omega, rfl, fun j hj => absurd hj (by omega)⟩
  case round =>
    obtain ⟨rfl, k, hk, rfl, hin⟩ := hrel
    have HI := Lib.hid hin
    clear hin
    by_cases hlt : k < 64
    · cases hx : hb x k <;> cases hy : hb y k
      case true.false =>
        have hn := inB_not hlt hx hy
        go_wp2_with (go_at_call 25; refine (rhas_nat _ k hlt _).mono ?_; rintro e w' ⟨rfl, rfl⟩)
        go_ret
        exact ⟨by rw [hn]; rfl, rfl⟩
      all_goals
        go_wp2_with (go_at_call 25; refine (rhas_nat _ k hlt _).mono ?_; rintro e w' ⟨rfl, rfl⟩)
        go_roundw
        case rel =>
          refine ⟨rfl, k + 1, by omega, by go_num, fun j hj h => ?_⟩
          by_cases e : j = k
          · subst e; simp_all
          · exact HI.out j (by omega) h
        case measure => simp [intOf]; omega
    · have hk' : k = 64 := by omega
      subst hk'
      have ha := inB_all HI.out
      clear hk hlt
      go_wp2
      go_ret
      exact ⟨by rw [ha]; rfl, rfl⟩
end Go.Proofs.YtfdhkalallcfgaaDoor
