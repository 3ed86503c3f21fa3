/-
  lineageref10: Sevens, Text; the writer's Text, with what it turns.
-/
import Derived.Test.YtpdpdojaaaipcaaDoorAppR
namespace Go.Proofs.YtpdpdojaaaipcaaDoor
set_option maxRecDepth 100000
open Go.RowKit
/-- What is still to come. -/
def sevTail (n y : Nat) : List UInt8 := if 0 < n ∧ y = 0 then [] else sevens y
theorem and127w (y : BitVec 64) : wd (y &&& 127#64) = ((y.toNat % 128 : Nat) : Int) := by
  unfold wd
  rw [BitVec.toNat_and]
  have h : y.toNat &&& 127 = y.toNat % 2 ^ 7 := Nat.and_two_pow_sub_one_eq_mod y.toNat 7
  exact congrArg (fun t : Nat => (t : Int)) h
structure SvRel (w : World) (x : BitVec 64) (v l i : Value) (wr : World) : Prop where
  ex : ∃ (y : BitVec 64) (pre : List UInt8) (n : Nat), v = .int .u64 (wd y) ∧ i = .int .i64 (n : Int) ∧ pre.length = n ∧ sevens x.toNat = pre ++ sevTail n y.toNat ∧ wr.ownsRow w.heap.size 5 1 l n (byv pre) ∧ Below w.heap.size w wr
set_option maxHeartbeats 4000000 in
theorem rsev_any (x : BitVec 64) (w : World) : Calls Tryd.prog 43 #[.int .u64 (wd x)] w fun e w' => ∃ v, e = .returned v ∧ w'.ownsRow w.heap.size 5 1 v (sevens x.toNat).length (byv (sevens x.toNat)) ∧ Below w.heap.size w w' := by
  obtain ⟨ii, iz, hi0, hz0, hz1, hz2, hz3⟩ := u8Info
  have HT := Lib.hid (sevens_ten x)
  go_enter Tryd.func43, Tryd.ntmps43
  go_wp2
  go_loopw [0, 3, 4] (SvRel w x) (fun _ _ i _ => 10 - (intOf i).toNat)
  case atStart => exact ⟨⟨x, [], 0, rfl, rfl, rfl, rfl, ⟨rfl, .inl ⟨rfl, rfl⟩⟩, Below.refl _ _⟩⟩
  case round =>
    obtain ⟨⟨y, pre, n, rfl, rfl, hn, hs, hown, hbel⟩⟩ := hrel
    have HS := Lib.hid hs
    have HBEL := Lib.hid hbel
    by_cases hgo : n = 0 ∨ 0 < y.toNat
    · have htl : sevTail n y.toNat = sevens y.toNat := by unfold sevTail; rw [if_neg (by omega)]
      have hl := congrArg List.length hs
      rw [htl, List.length_append, hn] at hl
      have hp := sevens_pos y.toNat
      have h10 := HT.out
      have hn10 : (n : Int) < 10 := by omega
      have HN10 := Lib.hid (show n + 1 ≤ 10 by omega)
      have HX1 := Lib.hid (show n + 1 ≤ maxLen by unfold maxLen; omega)
      have HX2 := Lib.hid (show (n + 1) * 1 ≤ 140737488355328 by omega)
      have hsz : w.heap.size ≤ wr.heap.size := hbel.size
      have HSV := Lib.hid (htl ▸ hs)
      have HN := Lib.hid hn
      have ha := and127w y
      have HOWN := Lib.hid hown
      have hm256 : (((y.toNat % 128 : Nat) : Int)) % 256 = ((y.toNat % 128 : Nat) : Int) := by omega
      have hguard : n = 0 ∨ (¬ ((n : Int) == 0) = true ∧ (0 : Int) < wd y) := by
        rcases Nat.eq_zero_or_pos n with h | h
        · exact .inl h
        · exact .inr ⟨by simp; omega, by unfold wd; omega⟩
      by_cases hlt : y.toNat < 128
      · have hsh : ¬ (0 : Int) < wd y / 128 := by unfold wd; omega
        have hy0 : (y >>> 7).toNat = 0 := by rw [shr7]; omega
        obtain ⟨m, hm⟩ : ∃ m : Nat, y.toNat % 128 = m := ⟨_, rfl⟩
        rw [hm] at ha hm256
        have hsev : sevens y.toNat = [UInt8.ofNat m] := by rw [sevens_lt hlt]; congr 2; omega
        have HM := Lib.hid (And.intro hsev (And.intro hy0 (show m < 256 by omega)))
        clear hs hbel hn hl htl hp h10 hown hm hsev hy0 hgo hlt
        rcases hguard with h0 | ⟨h0, h1⟩
        · have hz : ((n : Int) == 0) = true := by simp; omega
          clear h0
          go_wp2_with (first
            | (at_builtin; refine wpList_append_grows (v := u3) rfl _ _ _ rfl Tryd.underlying22 hi0 hz0 hz1 hz2 hz3 (by decide) rfl HOWN.out rfl rfl (byte_one _) HX1.out HX2.out hsz ?_; intro g' cap' w4 hown1 hgr1))
          all_goals
            go_roundw
            case rel =>
              refine ⟨⟨y >>> 7, pre ++ [UInt8.ofNat m], n + 1, congrArg (Value.int .u64) (wd_shr7 y).symm, rfl, by rw [List.length_append, HN.out]; rfl, ?_, by rw [byv_snoc _ _ HM.out.2.2]; exact hown1, bel_grows HBEL.out hgr1 HOWN.out (Nat.le_refl _) hsz⟩⟩
              rw [HSV.out, HM.out.1, List.append_assoc]
              congr 1
              unfold sevTail
              rw [if_pos ⟨by omega, HM.out.2.1⟩]; rfl
            case measure => have := HN10.out; simp only [intOf]; omega
        · have hz : ((n : Int) == 0) = false := by simpa using h0
          clear h0
          go_wp2_with (first
            | (at_builtin; refine wpList_append_grows (v := u3) rfl _ _ _ rfl Tryd.underlying22 hi0 hz0 hz1 hz2 hz3 (by decide) rfl HOWN.out rfl rfl (byte_one _) HX1.out HX2.out hsz ?_; intro g' cap' w4 hown1 hgr1))
          all_goals
            go_roundw
            case rel =>
              refine ⟨⟨y >>> 7, pre ++ [UInt8.ofNat m], n + 1, congrArg (Value.int .u64) (wd_shr7 y).symm, rfl, by rw [List.length_append, HN.out]; rfl, ?_, by rw [byv_snoc _ _ HM.out.2.2]; exact hown1, bel_grows HBEL.out hgr1 HOWN.out (Nat.le_refl _) hsz⟩⟩
              rw [HSV.out, HM.out.1, List.append_assoc]
              congr 1
              unfold sevTail
              rw [if_pos ⟨by omega, HM.out.2.1⟩]; rfl
            case measure => have := HN10.out; simp only [intOf]; omega
      · have hsh : (0 : Int) < wd y / 128 := by unfold wd; omega
        have hy0 : 0 < (y >>> 7).toNat := by rw [shr7]; omega
        obtain ⟨m, hm⟩ : ∃ m : Nat, y.toNat % 128 = m := ⟨_, rfl⟩
        rw [hm] at ha hm256
        obtain ⟨q, hq⟩ : ∃ q : Nat, m + 128 = q := ⟨_, rfl⟩
        have hor : bits BinOp.or IntKind.u8 ((m : Nat) : Int) 128 = (q : Int) := by rw [or128 m (by omega)]; omega
        have hsev : sevens y.toNat = UInt8.ofNat q :: sevens (y >>> 7).toNat := by rw [sevens_ge hlt, hm, hq, shr7]
        have HM := Lib.hid (And.intro hsev (And.intro hy0 (show q < 256 by omega)))
        clear hs hbel hn hl htl hp h10 hown hm hsev hy0 hgo hlt hq
        rcases hguard with h0 | ⟨h0, h1⟩
        · have hz : ((n : Int) == 0) = true := by simp; omega
          clear h0
          go_wp2_with (first
            | (at_builtin; refine wpList_append_grows (v := u3) rfl _ _ _ rfl Tryd.underlying22 hi0 hz0 hz1 hz2 hz3 (by decide) rfl HOWN.out rfl rfl (byte_one _) HX1.out HX2.out hsz ?_; intro g' cap' w4 hown1 hgr1))
          all_goals
            go_roundw
            case rel =>
              refine ⟨⟨y >>> 7, pre ++ [UInt8.ofNat q], n + 1, congrArg (Value.int .u64) (wd_shr7 y).symm, rfl, by rw [List.length_append, HN.out]; rfl, ?_, by rw [byv_snoc _ _ HM.out.2.2]; exact hown1, bel_grows HBEL.out hgr1 HOWN.out (Nat.le_refl _) hsz⟩⟩
              rw [HSV.out, HM.out.1, List.append_assoc]
              congr 1
              unfold sevTail
              rw [if_neg (by have := HM.out.2.1; omega)]; rfl
            case measure => have := HN10.out; simp only [intOf]; omega
        · have hz : ((n : Int) == 0) = false := by simpa using h0
          clear h0
          go_wp2_with (first
            | (at_builtin; refine wpList_append_grows (v := u3) rfl _ _ _ rfl Tryd.underlying22 hi0 hz0 hz1 hz2 hz3 (by decide) rfl HOWN.out rfl rfl (byte_one _) HX1.out HX2.out hsz ?_; intro g' cap' w4 hown1 hgr1))
          all_goals
            go_roundw
            case rel =>
              refine ⟨⟨y >>> 7, pre ++ [UInt8.ofNat q], n + 1, congrArg (Value.int .u64) (wd_shr7 y).symm, rfl, by rw [List.length_append, HN.out]; rfl, ?_, by rw [byv_snoc _ _ HM.out.2.2]; exact hown1, bel_grows HBEL.out hgr1 HOWN.out (Nat.le_refl _) hsz⟩⟩
              rw [HSV.out, HM.out.1, List.append_assoc]
              congr 1
              unfold sevTail
              rw [if_neg (by have := HM.out.2.1; omega)]; rfl
            case measure => have := HN10.out; simp only [intOf]; omega
    · have htl : sevTail n y.toNat = [] := by unfold sevTail; rw [if_pos (by omega)]
      rw [htl, List.append_nil] at hs
      have hz : ((n : Int) == 0) = false := by simp; omega
      have hw0 : ¬ (0 : Int) < wd y := by unfold wd; omega
      have HE := Lib.hid (show wr.ownsRow w.heap.size 5 1 u3 (sevens x.toNat).length (byv (sevens x.toNat)) by rw [hs, hn]; exact hown)
      clear hs hbel hn htl hown hgo
      go_wp2
      all_goals
        go_ret
        exact ⟨u3, rfl, HE.out, HBEL.out⟩
set_option maxHeartbeats 2000000 in
theorem rtext_any (s : ByteArray) (hsz : s.size + 10 ≤ 140737488355328) (w : World) : Calls Tryd.prog 45 #[.string s] w fun e w' => ∃ v, e = .returned v ∧ w'.ownsRow w.heap.size 5 1 v (sevens s.size ++ s.data.toList).length (byv (sevens s.size ++ s.data.toList)) ∧ Below w.heap.size w w' := by
  obtain ⟨ii, iz, hi0, hz0, hz1, hz2, hz3⟩ := u8Info
  have hiz : iz = .int .u8 0 := by have := u8Zero; rw [hi0] at this; simpa [hz0] using this
  subst hiz
  obtain ⟨x, hx⟩ : ∃ x : BitVec 64, x.toNat = s.size := ⟨BitVec.ofNat 64 s.size, by rw [BitVec.toNat_ofNat, Nat.mod_eq_of_lt (by omega)]⟩
  have hxw : IntKind.u64.wrap (s.size : Int) = wd x := by rw [IntKind.wrap_u64]; unfold wd; omega
  have HX := Lib.hid hx
  have HL := Lib.hid hsz
  clear hsz hx
  go_enter Tryd.func45, Tryd.ntmps45
  go_wp2_with (go_at_call 43; fail)
  refine (rsev_any x w).mono ?_
  rintro e w1 ⟨v1, rfl, ho, hb⟩
  rw [HX.out] at ho
  have h10 := sevens_ten x
  rw [HX.out] at h10
  have hs1 := hb.size
  obtain ⟨v2, w2, hr, ho2, hg2⟩ := run_append_string_gr (P := Tryd.prog) w1 w.heap.size 22 9 22 5 ii Tryd.underlying22 Tryd.underlying9 hi0 hz0 hz1 hz2 v1 _ _ ho s (by have := HL.out; unfold maxLen; omega) (by have := HL.out; omega) hs1
  have HR := Lib.hid hr
  have HO2 := Lib.hid ho2
  have HB2 := Lib.hid (bel_grows hb hg2.grows ho (Nat.le_refl _) hs1)
  clear hr ho2 hg2 ho hb h10 hxw
  go_wp2_with (at_builtin; refine wpList_append_run rfl rfl rfl rfl HR.out ?_)
  go_ret
  refine ⟨v2, rfl, ?_, HB2.out⟩
  rw [byv_append, ← strCells_byv, List.length_append, show s.data.toList.length = s.size by rw [Array.length_toList]; rfl]
  exact HO2.out
end Go.Proofs.YtpdpdojaaaipcaaDoor
