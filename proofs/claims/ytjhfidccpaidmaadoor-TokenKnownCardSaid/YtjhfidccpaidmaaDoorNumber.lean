/-
  token.fields, token.number: a block of 13 bytes, and a number that is written into some of them, the highest byte first.
-/
import Derived.Test.YtjhfidccpaidmaaDoorProg
import Derived.Test.YtjhfidccpaidmaaDoorRow
import Derived.Test.YtjhfidccpaidmaaDoorWord
namespace Go.Proofs.YtjhfidccpaidmaaDoor
set_option maxRecDepth 100000
open Go.RowKit


/-- The lowest byte of a word. -/
def lowB (x : BitVec 64) : Int := ((x.toNat % 256 : Nat) : Int)
@[go_sem] theorem u8_low (x : BitVec 64) : IntKind.u8.wrap (wd x) = lowB x := by
  rw [IntKind.wrap_u8]
  unfold wd lowB
  omega
@[go_sem] theorem shr8 (x : BitVec 64) : wd x / (256 : Int) = wd (x >>> 8) := u64_shr_bv x 8

/-- The bytes, n of them from off on being the number X's, the highest first; of these only the last ones, from place off + k on. -/
def putF (F : Nat → Nat) (off n X k : Nat) (j : Nat) : Nat := if off + k ≤ j ∧ j < off + n then X / 256 ^ (off + n - 1 - j) % 256 else F j
structure NumbRel (w : World) (g N : Nat) (F : Nat → Nat) (off n X : Nat) (v i : Value) (wr : World) : Prop where
  ex : ∃ k y, k ≤ n ∧ i = .int .i64 ((k : Int) - 1) ∧ v = .int .u64 (wd y) ∧ y.toNat = X / 256 ^ (n - k) ∧ Blk wr g 5 (rowU8 N (putF F off n X k)) ∧ Below g w wr ∧ wr.heap.size = w.heap.size
set_option maxHeartbeats 1000000 in
theorem number_any (w : World) (g N : Nat) (F : Nat → Nat) (off n cap : Nat) (x : BitVec 64) (hn : off + n ≤ N) (hN : N ≤ 100) (hB : Blk w g 5 (rowU8 N F)) :
    Calls Tryd.prog 16 #[.slice (some ⟨g, off, none⟩) n cap, .int .u64 (wd x)] w (fun e w' => e = .returned (.tuple #[]) ∧ Blk w' g 5 (rowU8 N (putF F off n x.toNat 0)) ∧ Below g w w' ∧ w'.heap.size = w.heap.size) := by
  have HB := Lib.hid hB
  have hn1 : n ≤ 100 := by omega
  have HN := Lib.hid hn
  clear hB hn
  go_enter Tryd.func16, Tryd.ntmps16
  go_wp2
  go_loopw [1, 4] (NumbRel w g N F off n x.toNat) (fun _ i _ => (intOf i + 1).toNat)
  case atStart =>
    refine ⟨n, x, Nat.le_refl _, rfl, rfl, by simp, ?_, Below.refl _ _, rfl⟩
    rw [rowU8_congr (G := F) (fun j _ => by unfold putF; rw [if_neg (by omega)])]
    exact HB.out
  case round =>
    obtain ⟨⟨k, y, hk, rfl, rfl, hy, hblk, hbel, hsz⟩⟩ := hrel
    cases k with
    | zero =>
      have HBL := Lib.hid hblk
      have hm1 : ((0 : Nat) : Int) - 1 = -1 := rfl
      clear hblk hy
      go_wp2
      refine bodyPost_end (v := .tuple #[]) (results_none rfl _ _ _) rfl ⟨rfl, HBL.out, hbel, hsz⟩
    | succ m =>
      have hm1 : ((m + 1 : Nat) : Int) - 1 = (m : Int) := by omega
      have hm0 : (0 : Int) ≤ m := by omega
      have hle : off + m < N := by have := HN.out; omega
      have hc : wr.cell? ⟨g, off + m, none⟩ = some (.int .u8 (putF F off n x.toNat (m + 1) (off + m) : Int)) := by rw [hblk.cell, rowU8_get hle]
      have hf : wr.frozen? ⟨g, off + m, none⟩ = false := hblk.frozen _
      have HBL := Lib.hid hblk
      have HY := Lib.hid hy
      have hmn : (m : Int) < n := by omega
      rw [hm1]
      clear hblk hy
      go_wp2
      go_roundw
      case rel =>
        refine ⟨m, y >>> 8, by omega, by go_num, rfl, ?_, ?_, hbel.setCell (Nat.le_refl _) _, by simp [hsz]⟩
        · rw [BitVec.toNat_ushiftRight, Nat.shiftRight_eq_div_pow, HY.out, Nat.div_div_eq_div_mul]
          have e : n - m = n - (m + 1) + 1 := by omega
          rw [e]
          rfl
        · have h := HBL.out.set_ (off + m) (.int .u8 (lowB y))
          have e : lowB y = ((y.toNat % 256 : Nat) : Int) := rfl
          rw [e, rowU8_set] at h
          rw [rowU8_congr (G := putF F off n x.toNat m)] at h
          · exact h
          · intro j hj
            unfold putF
            by_cases ej : j = off + m
            · subst ej
              rw [if_pos rfl, if_pos (by omega), HY.out]
              have : n - (m + 1) = off + n - 1 - (off + m) := by omega
              rw [this]
            · rw [if_neg ej]
              by_cases e2 : off + (m + 1) ≤ j ∧ j < off + n
              · rw [if_pos e2, if_pos (by omega)]
              · rw [if_neg e2, if_neg (by omega)]
      case measure => simp [intOf]
end Go.Proofs.YtjhfidccpaidmaaDoor
