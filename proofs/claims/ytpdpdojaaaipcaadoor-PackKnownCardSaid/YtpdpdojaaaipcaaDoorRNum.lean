/-
  lineageref10.Number, Taken.
-/
import Derived.Test.YtpdpdojaaaipcaaDoorPkX2
namespace Go.Proofs.YtpdpdojaaaipcaaDoor
set_option maxRecDepth 100000
open Go.RowKit
/-- How the document takes a number. -/
def rnumV (r : Except Int (Nat × Nat)) : Value :=
  match r with
  | .ok (V, n) => .tuple #[.int .u64 (V : Int), .int .i64 (n : Int), .int .i64 0]
  | .error c => .tuple #[.int .u64 0, .int .i64 0, .int .i64 c]
structure RNRel (w : World) (l : List UInt8) (v i : Value) (wr : World) : Prop where
  ex : ∃ (n acc : Nat) (x : BitVec 64), v = .int .u64 (wd x) ∧ x.toNat = acc ∧ i = .int .i64 (n : Int) ∧ n ≤ 9 ∧ acc < 128 ^ n ∧ readN n acc (l.drop n) = readN 0 0 l ∧ Below w.heap.size w wr
set_option maxHeartbeats 4000000 in
theorem rnum_any (A : Option Addr) (cap N : Nat) (l : List UInt8) (hN : l.length = N) (hl : N < 4611686018427387904) (w : World) (hb : BytesAt w A l) :
    Calls Tryd.prog 15 #[.slice A N cap] w (RetB (rnumV (readN 0 0 l)) w) := by
  have HB := Lib.hid hb
  have HN := Lib.hid hN
  clear hb hN hl
  go_enter Tryd.func15, Tryd.ntmps15
  go_wp2
  go_loopw [5, 6] (RNRel w l) (fun _ i _ => 10 - (intOf i).toNat)
  case atStart => exact ⟨⟨0, 0, 0#64, rfl, rfl, rfl, by omega, by decide, rfl, Below.refl _ _⟩⟩
  case round =>
    obtain ⟨⟨n, acc, x, rfl, hx, rfl, hn, hacc, hrd, hbel⟩⟩ := hrel
    have HRD := Lib.hid hrd
    have HG1 := Lib.hid hbel
    have HA := Lib.hid hacc
    have HX := Lib.hid hx
    have hn10 : (n : Int) < 10 := by omega
    clear hx hacc hrd hbel
    cases hc : l[n]? with
    | none =>
      have hlen : l.length ≤ n := List.getElem?_eq_none_iff.1 hc
      have hd : l.drop n = [] := List.drop_eq_nil_of_le hlen
      have HE := Lib.hid (show readN 0 0 l = .error 2 by rw [← HRD.out, hd]; rfl)
      rw [HN.out] at hlen
      have hlen' : (N : Int) ≤ (n : Int) := by omega
      clear hc hd hlen
      go_wp2
      go_ret3
      rw [HE.out]
      exact ⟨rfl, HG1.out⟩
    | some c =>
      have hlt : n < l.length := (List.getElem?_eq_some_iff.1 hc).1
      have hd : l.drop n = c :: l.drop (n + 1) := by
        obtain ⟨h1, h2⟩ := List.getElem?_eq_some_iff.1 hc
        rw [← h2]; exact List.drop_eq_getElem_cons h1
      have hr := HRD.out
      rw [hd, readN] at hr
      obtain ⟨bb, off, rfl, hbl, hcells⟩ := (HB.out.below HG1.out (Nat.le_refl _)) (by omega)
      have hcell := hcells n c hc
      rw [HN.out] at hlt
      have hlt' : ¬ (N : Int) ≤ (n : Int) := by omega
      obtain ⟨m, hm⟩ : ∃ m : Nat, c.toNat = m := ⟨_, rfl⟩
      have hm256 : m < 256 := by rw [← hm]; exact c.toNat_lt
      rw [hm] at hr hcell
      have HE := Lib.hid hr
      clear hd hr hm hc hcells hlt
      by_cases hn9 : n = 9
      · have hn9t : ((n : Int) == 9) = true := by simp; omega
        have hn0' : (0 : Int) < (n : Int) := by omega
        by_cases hm1 : 1 < m
        · have hm1' : (1 : Int) < (m : Int) := by omega
          have e4 : readN 0 0 l = .error 4 := by rw [← HE.out, if_pos (.inl ⟨hn9, hm1⟩)]
          clear HE hn9
          go_wp2
          go_ret3
          exact ⟨rfl, HG1.out⟩
        · by_cases hm0 : m = 0
          · subst hm0
            have e4 : readN 0 0 l = .error 4 := by rw [← HE.out, if_pos (.inr ⟨by omega, rfl⟩)]
            clear HE hn9
            go_wp2
            go_ret3
            exact ⟨rfl, HG1.out⟩
          · have hm1e : m = 1 := by omega
            have hm1' : ¬ (1 : Int) < (m : Int) := by omega
            have hm0' : ((m : Int) == 0) = false := by simp; omega
            have hm : m < 128 := by omega
            have hm' : (m : Int) < 128 := by omega
            obtain ⟨ho, hv⟩ := or_seven x acc n m HX.out HA.out (by omega) (.inr ⟨hn9, by omega⟩)
            have hr := HE.out
            rw [if_neg (by omega), if_pos hm] at hr
            rw [Nat.mod_eq_of_lt hm] at ho hv
            have HE' := Lib.hid hr
            have HO := Lib.hid ho
            have HV := Lib.hid hv
            clear hr HE ho hv hn9 hm1e
            go_wp2
            all_goals
              go_ret3
              rw [← HE'.out]
              refine ⟨?_, HG1.out⟩
              show _ = Ending.returned (.tuple #[.int .u64 _, .int .i64 _, .int .i64 0])
              rw [← HV.out]
              exact congrArg (fun t => Ending.returned (.tuple #[.int .u64 t, .int .i64 _, .int .i64 0])) HO.out
      · have hn9' : ((n : Int) == 9) = false := by simp; omega
        by_cases hz : 0 < n ∧ m = 0
        · obtain ⟨hn0, rfl⟩ := hz
          have hn0' : (0 : Int) < (n : Int) := by omega
          have e4 : readN 0 0 l = .error 4 := by rw [← HE.out, if_pos (.inr ⟨hn0, rfl⟩)]
          clear HE
          go_wp2
          go_ret3
          exact ⟨rfl, HG1.out⟩
        · by_cases hm : m < 128
          · have hm' : (m : Int) < 128 := by omega
            obtain ⟨ho, hv⟩ := or_seven x acc n m HX.out HA.out hm256 (.inl (by omega))
            have hr := HE.out
            rw [if_neg (by omega), if_pos hm] at hr
            rw [Nat.mod_eq_of_lt hm] at ho hv
            have HE' := Lib.hid hr
            have HO := Lib.hid ho
            have HV := Lib.hid hv
            clear hr HE ho hv
            go_wp2
            all_goals
              go_ret3
              rw [← HE'.out]
              refine ⟨?_, HG1.out⟩
              show _ = Ending.returned (.tuple #[.int .u64 _, .int .i64 _, .int .i64 0])
              rw [← HV.out]
              exact congrArg (fun t => Ending.returned (.tuple #[.int .u64 t, .int .i64 _, .int .i64 0])) HO.out
          · have hm' : ¬ (m : Int) < 128 := by omega
            obtain ⟨ho, hv⟩ := or_seven x acc n m HX.out HA.out hm256 (.inl (by omega))
            have hr := HE.out
            rw [if_neg (by omega), if_neg hm] at hr
            rw [show m % 128 = m - 128 by omega] at ho hv
            have HE' := Lib.hid hr
            have HO := Lib.hid ho
            have HV := Lib.hid hv
            clear hr HE ho hv
            go_wp2
            all_goals
              go_roundw
              case rel =>
                refine ⟨⟨n + 1, _, BitVec.ofNat 64 (acc + (m - 128) * 128 ^ n), congrArg (Value.int .u64) HO.out, HV.out, rfl, by omega, ?_, HE'.out, HG1.out⟩⟩
                have h1 : (m - 128) * 128 ^ n ≤ 127 * 128 ^ n := Nat.mul_le_mul_right _ (by omega)
                have h2 := HA.out
                rw [Nat.pow_succ]
                generalize 128 ^ n = P at *
                omega
              case measure => simp only [intOf]; omega
end Go.Proofs.YtpdpdojaaaipcaaDoor
