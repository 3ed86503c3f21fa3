/-
  Package lineageref07: Turned, Low, Round.
-/
import Derived.Test.YtclcmdpampimkaaDoorTag3
import Derived.Test.YtclcmdpampimkaaDoorU8
namespace Go.Proofs.YtclcmdpampimkaaDoor
set_option maxRecDepth 100000
open Go.RowKit

theorem turned_any (x : BitVec 64) (k : Nat) (h1 : 1 ≤ k) (h2 : k ≤ 63) (w : World) : Calls Tryd.prog 33 #[.int .u64 (wd x), .int .i64 (k : Int)] w (RetSame (.int .u64 (wd (rot x k))) w) := by
  have e1 : IntKind.u64.wrap (k : Int) = (k : Int) := by rw [IntKind.wrap_u64]; omega
  have e2 : IntKind.u64.wrap (64 - (k : Int)) = 64 - (k : Int) := by rw [IntKind.wrap_u64]; omega
  have k1 : (1 : Int) ≤ k := by omega
  have k2 : (k : Int) ≤ 63 := by omega
  go_enter Tryd.func33, Tryd.ntmps33
  go_wp2
  go_ret
  exact ⟨rfl, rfl⟩
structure RLowRel (w : World) (l : List UInt8) (v i : Value) (wr : World) : Prop where
  ex : ∃ k V s, k ≤ l.length ∧ V = lowN (l.take k) ∧ s = 8 * k ∧ i = .int .i64 (k : Nat) ∧ v = .int .u64 (V : Nat) ∧ w = wr
set_option maxHeartbeats 1000000 in
theorem rlow_any (A : Option Addr) (n cap : Nat) (l : List UInt8) (hl : l.length = n) (h8 : n ≤ 8) (w : World) (hb : BytesAt w A l) : Calls Tryd.prog 22 #[.slice A n cap] w (RetSame (.int .u64 (wd (lowW l))) w) := by
  have HB := Lib.hid hb
  have HL := Lib.hid hl
  have h8' : (n : Int) ≤ 8 := by omega
  clear hb hl
  go_enter Tryd.func22, Tryd.ntmps22
  go_wp2
  go_loopw [3, 4] (RLowRel w l) (fun _ i _ => n - (intOf i).toNat)
  case atStart => exact ⟨⟨0, 0, 0, Nat.zero_le _, rfl, rfl, rfl, rfl, rfl⟩⟩
  case round =>
    obtain ⟨⟨k, V, s, hk, hV, hs, rfl, rfl, rfl⟩⟩ := hrel
    by_cases hlt : k < n
    · have hkl : k < l.length := by rw [HL.out]; exact hlt
      have hk8 : (k : Int) < 8 := by omega
      obtain ⟨x, hx⟩ : ∃ x, l[k]? = some x := ⟨_, List.getElem?_eq_getElem hkl⟩
      obtain ⟨b, off, rfl, hlt2, hc⟩ := HB.out (by omega)
      have hcell := hc k x hx
      have hVs : V < 2 ^ s := by
        have := lowN_lt (l.take k)
        rw [List.length_take, Nat.min_eq_left (by omega), show (256 : Nat) = 2 ^ 8 from rfl, ← Nat.pow_mul, ← hs, ← hV] at this
        exact this
      have hx8 := x.toNat_lt
      have hor := or_high V x.toNat s hVs hx8 (by omega)
      have hsi : 8 * (k : Int) = (s : Int) := by omega
      have hstep : V + x.toNat * 2 ^ s = lowN (l.take (k + 1)) := by
        rw [List.take_add_one, hx]
        simp only [Option.toList_some]
        rw [lowN_snoc, ← hV, List.length_take, Nat.min_eq_left (by omega), hs, show (256 : Nat) = 2 ^ 8 from rfl, ← Nat.pow_mul]
      obtain ⟨V', hV'⟩ : ∃ V', V + x.toNat * 2 ^ s = V' := ⟨_, rfl⟩
      rw [hV'] at hor hstep
      have HS := Lib.hid hstep
      have hx0 : (0 : Int) ≤ (x.toNat : Int) := by omega
      have hx256 : (x.toNat : Int) < 256 := by omega
      have hs56 : (s : Int) ≤ 56 := by omega
      clear hc hx hV hVs hs hV' hstep HB
      go_wp2
      go_roundw
      case rel => exact ⟨⟨k + 1, V', 8 * (k + 1), by omega, HS.out, rfl, by go_num, by go_num, rfl⟩⟩
      case measure => simp [intOf]; omega
    · have hkn : k = n := by have := HL.out; omega
      have hVn : (V : Int) = wd (lowW l) := by
        have hlen := HL.out
        rw [hkn, ← hlen, List.take_length] at hV
        have hlt3 := lowN_lt l
        have h256 : 256 ^ l.length ≤ 256 ^ 8 := Nat.pow_le_pow_right (by decide) (by omega)
        unfold wd lowW
        rw [BitVec.toNat_ofNat, hV, Nat.mod_eq_of_lt (by omega)]
      have HV := Lib.hid hVn
      subst hkn
      clear hV hVn hk hs
      go_wp2
      go_ret
      exact ⟨by rw [← HV.out]; rfl, rfl⟩
def stV (s : St) : Value := .tuple #[.int .u64 (wd s.a), .int .u64 (wd s.b), .int .u64 (wd s.c), .int .u64 (wd s.d)]
set_option maxHeartbeats 2000000 in
theorem rround_any (s : St) (w : World) : Calls Tryd.prog 23 #[.int .u64 (wd s.a), .int .u64 (wd s.b), .int .u64 (wd s.c), .int .u64 (wd s.d)] w (RetSame (stV (rnd s)) w) := by
  have T13 : Hid (∀ x w, Calls Tryd.prog 33 #[.int .u64 (wd x), .int .i64 13] w (RetSame (.int .u64 (wd (rot x 13))) w)) := Lib.hid fun x w => turned_any x 13 (by decide) (by decide) w
  have T32 : Hid (∀ x w, Calls Tryd.prog 33 #[.int .u64 (wd x), .int .i64 32] w (RetSame (.int .u64 (wd (rot x 32))) w)) := Lib.hid fun x w => turned_any x 32 (by decide) (by decide) w
  have T16 : Hid (∀ x w, Calls Tryd.prog 33 #[.int .u64 (wd x), .int .i64 16] w (RetSame (.int .u64 (wd (rot x 16))) w)) := Lib.hid fun x w => turned_any x 16 (by decide) (by decide) w
  have T21 : Hid (∀ x w, Calls Tryd.prog 33 #[.int .u64 (wd x), .int .i64 21] w (RetSame (.int .u64 (wd (rot x 21))) w)) := Lib.hid fun x w => turned_any x 21 (by decide) (by decide) w
  have T17 : Hid (∀ x w, Calls Tryd.prog 33 #[.int .u64 (wd x), .int .i64 17] w (RetSame (.int .u64 (wd (rot x 17))) w)) := Lib.hid fun x w => turned_any x 17 (by decide) (by decide) w
  go_enter Tryd.func23, Tryd.ntmps23
  go_wp2_with (first
    | (go_at_call 33; ((with_reducible refine (T13.out _ _).mono ?_); rintro e w' ⟨rfl, rfl⟩))
    | (go_at_call 33; ((with_reducible refine (T32.out _ _).mono ?_); rintro e w' ⟨rfl, rfl⟩))
    | (go_at_call 33; ((with_reducible refine (T16.out _ _).mono ?_); rintro e w' ⟨rfl, rfl⟩))
    | (go_at_call 33; ((with_reducible refine (T21.out _ _).mono ?_); rintro e w' ⟨rfl, rfl⟩))
    | (go_at_call 33; ((with_reducible refine (T17.out _ _).mono ?_); rintro e w' ⟨rfl, rfl⟩)))
  exact bodyPost_ret (v := stV (rnd s)) (by simp [results, Tryd.results23, go_sem]; rfl) rfl ⟨rfl, rfl⟩
end Go.Proofs.YtclcmdpampimkaaDoor
