/-
  pack's reader: sevens.
-/
import Derived.Test.YtpdpdojaaaipcaaDoorPkR
namespace Go.Proofs.YtpdpdojaaaipcaaDoor
set_option maxRecDepth 100000
open Go.RowKit
theorem grown_trans {w w1 w2 : World} {r : Option Nat} (h : w.grownBy w1 r) (h2 : w1.grownBy w2 r) : w.grownBy w2 r :=
  ⟨h2.os.trans h.os, h2.tape.trans h.tape, h2.output.trans h.output, Nat.le_trans h.size h2.size, fun k hk hne => (h2.block k (Nat.lt_of_lt_of_le hk h.size) hne).trans (h.block k hk hne)⟩
/-- How a number is taken: it, or a panic with the error's number. -/
def afterS (w : World) (g : Nat) (v : Value) (b : List UInt8) (k : Nat) (r : Except Int (Nat × Nat)) (e : Ending) (w' : World) : Prop :=
  match r with
  | .ok (V, n) => e = .returned (.int .u64 (V : Int)) ∧ IsR w' g v b (k + n) ∧ w.grownBy w' (some g)
  | .error c => e = pnk c ∧ (∃ j, IsR w' g v b j) ∧ w.grownBy w' (some g)
structure VRel (w : World) (g : Nat) (vv : Value) (b : List UInt8) (k : Nat) (v i : Value) (wr : World) : Prop where
  ex : ∃ (n acc : Nat) (x : BitVec 64), v = .int .u64 (wd x) ∧ x.toNat = acc ∧ i = .int .i64 (n : Int) ∧ n ≤ 9 ∧ acc < 128 ^ n ∧ readN n acc (b.drop (k + n)) = readN 0 0 (b.drop k) ∧ IsR wr g vv b (k + n) ∧ w.grownBy wr (some g)
def acc_lt_ (a m n : Nat) : Prop := a + m % 128 * 128 ^ n < 18446744073709551616
theorem and127 : ∀ m : Nat, m < 256 → bits BinOp.and IntKind.u8 (m : Int) 127 = ((m % 128 : Nat) : Int) := by decide +kernel
/-- Seven bits more, above those that are there. -/
theorem or_seven (x : BitVec 64) (acc n m : Nat) (hx : x.toNat = acc) (hacc : acc < 128 ^ n) (hm : m < 256) (hn : n < 9 ∨ (n = 9 ∧ m % 128 < 2)) :
    bits BinOp.or IntKind.u64 (wd x) (IntKind.u64.wrap (IntKind.u64.wrap (bits BinOp.and IntKind.u8 (m : Int) 127) * 2 ^ (7 * n))) = wd (BitVec.ofNat 64 (acc + m % 128 * 128 ^ n)) ∧ (BitVec.ofNat 64 (acc + m % 128 * 128 ^ n)).toNat = acc + m % 128 * 128 ^ n := by
  subst hx
  have hP : acc_lt_ x.toNat m n := by
    unfold acc_lt_
    rcases hn with hn | ⟨rfl, h2⟩
    · have e : 128 ^ n ≤ 128 ^ 8 := Nat.pow_le_pow_right (by decide) (by omega)
      have h1 : m % 128 * 128 ^ n ≤ 127 * 128 ^ n := Nat.mul_le_mul_right _ (by omega)
      have e8 : (128 : Nat) ^ 8 = 72057594037927936 := by decide
      rw [e8] at e
      generalize 128 ^ n = P at *
      omega
    · have e8 : (128 : Nat) ^ 9 = 9223372036854775808 := by decide
      rw [e8] at hacc ⊢
      omega
  unfold acc_lt_ at hP
  have hq : m % 128 * 128 ^ n < 18446744073709551616 := by omega
  have hN : (BitVec.ofNat 64 (x.toNat + m % 128 * 128 ^ n)).toNat = x.toNat + m % 128 * 128 ^ n := by rw [BitVec.toNat_ofNat]; exact Nat.mod_eq_of_lt hP
  refine ⟨?_, hN⟩
  rw [and127 m hm]
  have w1 : IntKind.u64.wrap ((m % 128 : Nat) : Int) = ((m % 128 : Nat) : Int) := by
    rw [IntKind.wrap_u64]; omega
  have w2 : IntKind.u64.wrap (((m % 128 : Nat) : Int) * 2 ^ (7 * n)) = ((m % 128 * 128 ^ n : Nat) : Int) := by
    have e : ((m % 128 : Nat) : Int) * 2 ^ (7 * n) = ((m % 128 * 128 ^ n : Nat) : Int) := by rw [pow128, Int.natCast_mul, Int.natCast_pow]; rfl
    rw [e, IntKind.wrap_u64]; omega
  rw [w1, w2]
  unfold wd
  rw [u64_or_nat _ _ x.isLt hq, hN]
  congr 1
  rw [Nat.or_comm, pow128, ← Nat.shiftLeft_eq, ← Nat.shiftLeft_add_eq_or_of_lt (by rw [← pow128]; exact hacc), Nat.add_comm]
set_option maxHeartbeats 2000000 in
theorem sevens_r (g : Nat) (v : Value) (b : List UInt8) (k : Nat) (hl : b.length < 9223372036854775807) (w : World) (h : IsR w g v b k) :
    Calls Tryd.prog 26 #[.pointer (some ⟨g, 0, none⟩)] w (afterS w g v b k (readN 0 0 (b.drop k))) := by
  have HL := Lib.hid hl
  have HR := Lib.hid h
  clear hl h
  go_enter Tryd.func26, Tryd.ntmps26
  go_wp2
  go_loopw [3, 4] (VRel w g v b k) (fun _ i _ => 10 - (intOf i).toNat)
  case atStart => exact ⟨⟨0, 0, 0#64, rfl, rfl, rfl, by omega, by decide, rfl, HR.out, grownBy_refl w _⟩⟩
  case round =>
    obtain ⟨⟨n, acc, x, rfl, hx, rfl, hn, hacc, hrd, hr, hg⟩⟩ := hrel
    have HRD := Lib.hid hrd
    have HR1 := Lib.hid hr
    have HG1 := Lib.hid hg
    have HA := Lib.hid hacc
    have HX := Lib.hid hx
    clear hx hacc hrd hr hg
    cases hc : b[k + n]? with
    | none =>
      have hlen : b.length ≤ k + n := List.getElem?_eq_none_iff.1 hc
      have hd : b.drop (k + n) = [] := List.drop_eq_nil_of_le hlen
      have HE := Lib.hid (show readN 0 0 (b.drop k) = .error 2 by rw [← HRD.out, hd]; rfl)
      clear hc hd
      go_wp2_with (go_at_call 40; fail)
      refine (one_none g v b (k + n) HL.out hlen wr HR1.out).mono ?_
      rintro e w1 ⟨rfl, h1, h2⟩
      have H1 := Lib.hid h1
      have H2 := Lib.hid h2
      clear h1 h2
      refine ⟨rfl, ?_⟩
      show afterS w g v b k _ (pnk 2) w1
      rw [HE.out]
      exact ⟨rfl, ⟨_, H1.out⟩, grown_trans HG1.out H2.out⟩
    | some c =>
      have hd : b.drop (k + n) = c :: b.drop (k + n + 1) := by
        obtain ⟨h1, h2⟩ := List.getElem?_eq_some_iff.1 hc
        rw [← h2]; exact List.drop_eq_getElem_cons h1
      have hr := HRD.out
      rw [hd, readN] at hr
      obtain ⟨m, hm⟩ : ∃ m : Nat, c.toNat = m := ⟨_, rfl⟩
      have hm256 : m < 256 := by rw [← hm]; exact c.toNat_lt
      have HC := Lib.hid (fun wr h => hm ▸ one_some g v b (k + n) c HL.out hc wr h)
      rw [hm] at hr
      have HE := Lib.hid hr
      clear hd hr hm hc
      go_wp2_with (go_at_call 40; fail)
      refine (HC.out wr HR1.out).mono ?_
      rintro e w1 ⟨rfl, h1, h2⟩
      have H1 := Lib.hid h1
      have H2 := Lib.hid h2
      clear h1 h2 HC
      by_cases hn9 : n = 9
      · subst hn9
        by_cases hm1 : 1 < m
        · have hm1' : (1 : Int) < (m : Int) := by omega
          have e4 : readN 0 0 (b.drop k) = .error 4 := by rw [← HE.out, if_pos (.inl ⟨rfl, hm1⟩)]
          clear HE
          go_wp2
          refine ⟨rfl, ?_⟩
          show afterS w g v b k _ (pnk 4) w1
          rw [e4]
          exact ⟨rfl, ⟨_, H1.out⟩, grown_trans HG1.out H2.out⟩
        · by_cases hm0 : m = 0
          · subst hm0
            have e4 : readN 0 0 (b.drop k) = .error 4 := by rw [← HE.out, if_pos (.inr ⟨by decide, rfl⟩)]
            clear HE
            go_wp2
            refine ⟨rfl, ?_⟩
            show afterS w g v b k _ (pnk 4) w1
            rw [e4]
            exact ⟨rfl, ⟨_, H1.out⟩, grown_trans HG1.out H2.out⟩
          · have hm1 : m = 1 := by omega
            subst hm1
            obtain ⟨ho, hv⟩ := or_seven x acc 9 1 HX.out HA.out (by decide) (.inr ⟨rfl, by decide⟩)
            have hr := HE.out
            rw [if_neg (by omega), if_pos (by decide)] at hr
            have HE' := Lib.hid hr
            have HO := Lib.hid ho
            have HV := Lib.hid hv
            clear hr HE ho hv
            go_wp2
            all_goals
              go_ret
              show afterS w g v b k _ (.returned (.int .u64 _)) w1
              rw [← HE'.out]
              refine ⟨?_, H1.out, grown_trans HG1.out H2.out⟩
              refine congrArg Ending.returned (congrArg (Value.int .u64) ?_)
              refine Eq.trans ?_ (HO.out.trans (congrArg (fun t : Nat => (t : Int)) HV.out))
              rfl
      · have hn9' : ((n : Int) == 9) = false := by simp; omega
        by_cases hz : 0 < n ∧ m = 0
        · obtain ⟨hn0, rfl⟩ := hz
          have hn0' : (0 : Int) < (n : Int) := by omega
          have e4 : readN 0 0 (b.drop k) = .error 4 := by rw [← HE.out, if_pos (.inr ⟨hn0, rfl⟩)]
          clear HE
          go_wp2
          refine ⟨rfl, ?_⟩
          show afterS w g v b k _ (pnk 4) w1
          rw [e4]
          exact ⟨rfl, ⟨_, H1.out⟩, grown_trans HG1.out H2.out⟩
        · by_cases hm : m < 128
          · have hm' : (m : Int) < 128 := by omega
            obtain ⟨ho, hv⟩ := or_seven x acc n m HX.out HA.out hm256 (.inl (by omega))
            have hr := HE.out
            rw [if_neg (by omega), if_pos hm] at hr
            rw [Nat.mod_eq_of_lt hm] at ho hv
            have HE' := Lib.hid hr
            have HO := Lib.hid ho
            have HV := Lib.hid hv
            clear hr HE ho hv
            go_wp2
            all_goals
              go_ret
              show afterS w g v b k _ (.returned (.int .u64 _)) w1
              rw [← HE'.out]
              refine ⟨?_, H1.out, grown_trans HG1.out H2.out⟩
              refine congrArg Ending.returned (congrArg (Value.int .u64) ?_)
              refine Eq.trans ?_ (HO.out.trans (congrArg (fun t : Nat => (t : Int)) HV.out))
              rfl
          · have hm' : ¬ (m : Int) < 128 := by omega
            obtain ⟨ho, hv⟩ := or_seven x acc n m HX.out HA.out hm256 (.inl (by omega))
            have hr := HE.out
            rw [if_neg (by omega), if_neg hm] at hr
            rw [show m % 128 = m - 128 by omega] at ho hv
            have HE' := Lib.hid hr
            have HO := Lib.hid ho
            have HV := Lib.hid hv
            clear hr HE ho hv
            go_wp2
            all_goals
              go_roundw
              case rel =>
                refine ⟨⟨n + 1, _, BitVec.ofNat 64 (acc + (m - 128) * 128 ^ n), congrArg (Value.int .u64) HO.out, HV.out, rfl, by omega, ?_, HE'.out, H1.out, grown_trans HG1.out H2.out⟩⟩
                have h1 : (m - 128) * 128 ^ n ≤ 127 * 128 ^ n := Nat.mul_le_mul_right _ (by omega)
                have h2 := HA.out
                rw [Nat.pow_succ]
                generalize 128 ^ n = P at *
                omega
              case measure => simp only [intOf]; omega
end Go.Proofs.YtpdpdojaaaipcaaDoor
