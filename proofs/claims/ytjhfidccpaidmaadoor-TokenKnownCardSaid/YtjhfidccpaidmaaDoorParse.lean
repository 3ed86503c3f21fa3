/-
  strings.IndexByte at token's letters, token.value, token.Parse.
-/
import Derived.Test.YtjhfidccpaidmaaDoorPrint
import Derived.Lib.Bytealg
namespace Go.Proofs.YtjhfidccpaidmaaDoor
set_option maxRecDepth 100000
open Go.RowKit

/-- A letter's number; -1: it is none. -/
def idxZ (c : UInt8) : Int := match numOf c with | some d => d | none => -1
theorem idx_eq (c : UInt8) : Lib.indexByte lettersB.data.toList c = idxZ c := by
  have : ∀ n : Fin 256, Lib.indexByte lettersB.data.toList (UInt8.ofNat n.val) = idxZ (UInt8.ofNat n.val) := by decide +kernel
  have h := this ⟨c.toNat, c.toNat_lt⟩
  simpa using h
theorem idx_byte (c : UInt8) : ((c.toNat : Int).toNat).toUInt8 = c := by simp
theorem index0_any (c : UInt8) (w : World) : Calls Tryd.prog 33 #[.string lettersB, .int .u8 (c.toNat : Int)] w (RetSame (.int .i64 (idxZ c)) w) := by
  have h1 := @run_callFunc_extern Tryd.prog 39 _ Extern.BytealgIndexByte.indexByte Tryd.func39 (by kernel_rfl) (by kernel_rfl) (by kernel_rfl) (by kernel_rfl)
  have h2 : ∀ w, (Extern.BytealgIndexByte.indexByte #[.string lettersB, .int .u8 (c.toNat : Int)]).run Tryd.prog w = .ok (.int .i64 (idxZ c)) w := fun w => by
    rw [Lib.run_indexByteString, idx_byte, idx_eq]
  go_enter Tryd.func33, Tryd.ntmps33
  go_wp2
  go_ret
  exact ⟨rfl, rfl⟩
theorem index_any (c : UInt8) (w : World) : Calls Tryd.prog 22 #[.string lettersB, .int .u8 (c.toNat : Int)] w (RetSame (.int .i64 (idxZ c)) w) := by
  go_enter Tryd.func22, Tryd.ntmps22
  go_wp2_with (go_at_call 33; refine (index0_any c _).mono ?_; rintro e w' ⟨rfl, rfl⟩)
  go_ret
  exact ⟨rfl, rfl⟩

/-! ### value -/
def valN (F : Nat → Nat) (off n : Nat) : Nat := (List.range n).foldl (fun a j => a * 256 + F (off + j)) 0
theorem valN_succ (F : Nat → Nat) (off n : Nat) : valN F off (n + 1) = valN F off n * 256 + F (off + n) := by
  unfold valN; rw [List.range_succ, List.foldl_append]; rfl
theorem valN_lt {F : Nat → Nat} (hF : ∀ j, F j < 256) (off : Nat) : ∀ n, valN F off n < 256 ^ n
  | 0 => by simp [valN]
  | n + 1 => by
    have ih := valN_lt hF off n
    have h := hF (off + n)
    rw [valN_succ, Nat.pow_succ]; omega
theorem or_byte (A B : Nat) (hA : A < 72057594037927936) (hB : B < 256) : bits .or .u64 (IntKind.u64.wrap ((A : Int) * 256)) (IntKind.u64.wrap (B : Int)) = ((A * 256 + B : Nat) : Int) := by
  have e2 : IntKind.u64.wrap (B : Int) = (B : Int) := by rw [IntKind.wrap_u64]; omega
  have e3 : IntKind.u64.wrap ((A : Int) * 256) = ((A * 256 : Nat) : Int) := by rw [IntKind.wrap_u64]; omega
  rw [e2, e3, u64_or_nat _ _ (by omega) (by omega)]
  have := Nat.two_pow_add_eq_or_of_lt (i := 8) (b := B) (by omega) A
  rw [show (2 : Nat) ^ 8 = 256 from rfl, Nat.mul_comm] at this
  rw [this]
structure ValRel (w : World) (F : Nat → Nat) (off n : Nat) (v i : Value) (wr : World) : Prop where
  ex : ∃ k : Nat, k ≤ n ∧ i = .int .i64 k ∧ v = .int .u64 ((valN F off k : Nat) : Int) ∧ w = wr
set_option maxHeartbeats 1000000 in
theorem value_any (F : Nat → Nat) (hF : ∀ j, F j < 256) (g off n cap : Nat) (hn : n ≤ 8) (w : World) (hc : ∀ j, j < n → w.cell? ⟨g, off + j, none⟩ = some (.int .u8 (F (off + j) : Int))) :
    Calls Tryd.prog 23 #[.slice (some ⟨g, off, none⟩) n cap] w (RetSame (.int .u64 ((valN F off n : Nat) : Int)) w) := by
  have HC := Lib.hid hc
  have HF := Lib.hid hF
  clear hc hF
  go_enter Tryd.func23, Tryd.ntmps23
  go_wp2
  go_loopw [3, 8] (ValRel w F off n) (fun _ i _ => n - (intOf i).toNat)
  case atStart => exact ⟨⟨0, Nat.zero_le _, rfl, rfl, rfl⟩⟩
  case round =>
    obtain ⟨⟨k, hk, rfl, rfl, rfl⟩⟩ := hrel
    by_cases hlt : k < n
    · have hcell := HC.out k hlt
      have hE := or_byte (valN F off k) (F (off + k)) (by have := valN_lt HF.out off k; have := Nat.pow_le_pow_right (n := 256) (by decide) (show k ≤ 7 by omega); omega) (HF.out _)
      rw [← valN_succ] at hE
      go_wp2
      go_roundw
      case rel => exact ⟨⟨k + 1, by omega, by go_num, rfl, rfl⟩⟩
      case measure => simp [intOf]; omega
    · obtain rfl : k = n := by omega
      clear hk hlt
      go_wp2
      go_ret
      exact ⟨rfl, rfl⟩

/-! ### Parse -/
def Tok.zero : Tok := ⟨0, 0, 0⟩
def parseV (r : Except Nat (Nat × Nat × Nat)) : Value := match r with
  | .ok (s, b, x) => .tuple #[.agg (Tok.mk s b (BitVec.ofNat 64 x)).cells, .nilIface]
  | .error k => .tuple #[.agg Tok.zero.cells, errno k]
theorem u8Info : ∃ i z, Tryd.prog.info? 5 = some i ∧ i.zero = some z ∧ i.size = 1 ∧ i.bytes = 1 ∧ z.cells.size = 1 := by
  have h : (match Tryd.prog.info? 5 with | some i => (match i.zero with | some z => i.size == 1 && i.bytes == 1 && z.cells.size == 1 | none => false) | none => false) = true := by decide +kernel
  cases hi : Tryd.prog.info? 5 with
  | none => rw [hi] at h; cases h
  | some i =>
    rw [hi] at h
    cases hz : i.zero with
    | none => simp only [hz] at h; cases h
    | some z =>
      simp only [hz, Bool.and_eq_true, beq_iff_eq] at h
      exact ⟨i, z, rfl, hz, h.1.1, h.1.2, h.2⟩
theorem make12 (w : World) : (Instr.makeSlice 40 (.int .i64 0) (.int .i64 12)).run Tryd.prog w = .ok (.slice (some ⟨w.heap.size, 0, none⟩) 0 12) (w.alloc (.cells (rowU8 12 fun _ => 0) 5)) := by kernel_rfl
theorem own12 (w : World) : (w.alloc (.cells (rowU8 12 fun _ => 0) 5)).ownsRow w.heap.size 5 1 (.slice (some ⟨w.heap.size, 0, none⟩) 0 12) 0 [] :=
  ⟨rfl, .inr ⟨w.heap.size, 12, rowU8 12 (fun _ => 0), rfl, Nat.le_refl _, (Blk.new _ _ _).eq, by decide, by decide, by rw [rowU8_size], by simp⟩⟩
theorem byte_of (s : ByteArray) (j : Nat) (h : j < s.size) : s.data.toList[j]? = some s[j] := by
  rw [List.getElem?_eq_getElem (by simpa using h)]; rfl

set_option maxHeartbeats 1000000 in
theorem parse_short (s : ByteArray) (h : s.size < 21) (w : World) : Calls Tryd.prog 9 #[.string s] w (RetB (parseV (.error 2)) w) := by
  have h1 : (s.size : Int) < 21 := by omega
  clear h
  go_enter Tryd.func9, Tryd.ntmps9
  go_wp2
  exact bodyPost_ret (results_at_tmp rfl rfl (Blk.new w 24 Tok.zero.cells).row rfl rfl tokInfo) rfl ⟨rfl, (Below.refl _ _).alloc (Nat.le_refl _) _⟩
def u8v (l : List Nat) : List Value := l.map fun (n : Nat) => Value.int .u8 (n : Int)
theorem or_five (R d : Nat) (hR : R < 256) (hd : d < 32) : bits .or .u64 ((R : Int) * 32) (d : Int) = ((R * 32 + d : Nat) : Int) := by
  rw [show (R : Int) * 32 = ((R * 32 : Nat) : Int) from by omega, u64_or_nat _ _ (by omega) (by omega)]
  have := Nat.two_pow_add_eq_or_of_lt (i := 5) (b := d) (by omega) R
  rw [show (2 : Nat) ^ 5 = 32 from rfl, Nat.mul_comm] at this
  rw [this]
theorem and_low (R c : Nat) (hR : R < 65536) (hc : c ≤ 8) : bits .and .u64 (R : Int) (IntKind.u64.wrap (wd (BitVec.twoPow 64 c) - 1)) = ((R % 2 ^ c : Nat) : Int) := by
  have hp : 2 ^ c ≤ 2 ^ 8 := Nat.pow_le_pow_right (by decide) hc
  have hp0 : 0 < 2 ^ c := Nat.pow_pos (by decide)
  have e1 : wd (BitVec.twoPow 64 c) = ((2 ^ c : Nat) : Int) := by
    unfold wd; rw [BitVec.toNat_twoPow, Nat.mod_eq_of_lt (by omega)]
  have e2 : IntKind.u64.wrap (((2 ^ c : Nat) : Int) - 1) = ((2 ^ c - 1 : Nat) : Int) := by rw [IntKind.wrap_u64]; omega
  rw [e1, e2, u64_and_nat _ _ (by omega) (by omega), Nat.and_two_pow_sub_one_eq_mod]
theorem byte_one (i : Int) : ∀ u ∈ (#[Value.int .u8 i] : Array Value).toList, u.oneCell' = true := by intro u hu; simp at hu; subst hu; rfl
structure ParseRel (w : World) (l : List UInt8) (b x t i : Value) (wr : World) : Prop where
  ex : ∃ k m ds R r, k = m + 1 ∧ m ≤ 20 ∧ i = .int .i64 (k : Nat) ∧ numsOf (l.tail.take m) = some ds ∧ accL ds % 2 ^ (5 * m % 8) = R ∧ 5 * m % 8 = r ∧ x = .int .u64 (R : Nat) ∧ t = .int .i64 (r : Nat) ∧
    wr.ownsRow (w.heap.size + 1) 5 1 b (5 * m / 8) (u8v (bytesN (accL ds) m)) ∧ Below w.heap.size w wr ∧ w.heap.size + 1 ≤ wr.heap.size ∧ Blk wr w.heap.size 24 Tok.zero.cells

set_option maxHeartbeats 2000000 in
theorem parse_main (s : ByteArray) (h : s.size = 21) (h0 : s.data.toList.head? = some 116) (w : World) : Calls Tryd.prog 9 #[.string s] w (RetB (parseV (parseL s.data.toList)) w) := by
  have h1 : (s.size : Int) = 21 := by omega
  have hlt : 0 < s.size := by omega
  have hb0 : s[0] = 116 := by
    have := byte_of s 0 hlt
    rw [← List.head?_eq_getElem?, h0] at this
    exact (Option.some.inj this).symm
  have mk := make12
  have H21 := Lib.hid h
  have H0 := Lib.hid h0
  obtain ⟨l, hl⟩ : ∃ l, s.data.toList = l := ⟨_, rfl⟩
  have HL := Lib.hid hl
  have HP : Hid (parseL s.data.toList = match numsOf l.tail with | none => .error 4 | some ds => parseA (accL ds)) := by
    apply Lib.hid
    unfold parseL
    have e : s.data.toList.length = 21 := by simpa using h
    rw [e, if_neg (by decide), if_neg (by decide), h0, if_neg (by simp), hl]
    cases numsOf l.tail <;> rfl
  have HZ := Lib.hid ((Blk.new w 24 Tok.zero.cells).alloc (.cells (rowU8 12 fun _ => 0) 5))
  have HO := Lib.hid (own12 (w.alloc (.cells Tok.zero.cells 24)))
  clear h h0 hl
  go_enter Tryd.func9, Tryd.ntmps9
  go_wp2
  go_loopw [4, 5, 6, 7] (ParseRel w l) (fun _ _ _ i _ => 21 - (intOf i).toNat)
  case atStart =>
    refine ⟨⟨1, 0, [], 0, 0, rfl, by omega, rfl, rfl, rfl, rfl, rfl, rfl, ?_, ?_, by simp, HZ.out⟩⟩
    · have := HO.out; rw [World.size_alloc] at this; exact this
    · exact ((Below.refl _ _).alloc (Nat.le_refl _) _).alloc (by simp) _
  case round =>
    clear HZ HO
    obtain ⟨⟨k, m, ds, R, r, hkm, hm, rfl, hds, hR, hr, rfl, rfl, hown, hbel, hsz, hblk⟩⟩ := hrel
    have HK := Lib.hid hkm
    have HDS := Lib.hid hds
    have HBEL := Lib.hid hbel
    have HBLK := Lib.hid hblk
    have HRR := Lib.hid hR
    have HR := Lib.hid hr
    have hr8 : r < 8 := by omega
    have hR8 : R < 256 := by
      have h1 : R < 2 ^ (5 * m % 8) := by rw [← hR]; exact Nat.mod_lt _ (Nat.pow_pos (by decide))
      have h2 : 2 ^ (5 * m % 8) ≤ 2 ^ 8 := Nat.pow_le_pow_right (by decide) (by omega)
      omega
    have hk1 : 1 ≤ k := by omega
    have hk21 : k ≤ 21 := by omega
    clear hkm hds hbel hblk hR hr
    by_cases hlt : k < 21
    · have hks : k < s.size := by have := H21.out; omega
      have hi : (k : Int) < 21 := by omega
      obtain ⟨c, hc⟩ : ∃ c, s[k] = c := ⟨_, rfl⟩
      have HC : Hid (l.tail[m]? = some c) := by
        apply Lib.hid
        rw [List.getElem?_tail, ← HL.out, ← HK.out, byte_of s k hks, hc]
      have HT : Hid (l.tail.take (m + 1) = l.tail.take m ++ [c]) := by
        apply Lib.hid
        rw [List.take_add_one, HC.out]; rfl
      cases hn : numOf c with
      | none =>
        have hz : idxZ c = -1 := by simp [idxZ, hn]
        have HN := Lib.hid hn
        have HO := Lib.hid hown
        clear hn hown
        go_wp2_with (first
          | (go_at_call 22; refine (index_any c _).mono ?_; rintro e w' ⟨rfl, rfl⟩)
          | (refine wpList_store_all rfl rfl rfl rfl HBLK.out rfl (Tok.one Tok.zero) tokInfo ?_))
        refine bodyPost_ret (results_at_tmp rfl rfl (HBLK.out.setRow_same _).row rfl rfl tokInfo) rfl ⟨?_, bel_setRow HBEL.out (Nat.le_refl _) _⟩
        have hnone : numsOf l.tail = none := by
          have e : l.tail = l.tail.take m ++ c :: l.tail.drop (m + 1) := by
            have := List.take_append_drop (m + 1) l.tail
            rw [HT.out] at this
            simpa using this.symm
          rw [e]; exact numsOf_bad _ _ _ HN.out
        rw [HP.out, hnone]
        rfl
      | some d =>
        have hz : idxZ c = (d : Int) := by simp [idxZ, hn]
        have hd := numOf_lt hn
        have HN := Lib.hid (numsOf_snoc HDS.out hn)
        rw [← HT.out] at HN
        have hE := or_five R d hR8 hd
        obtain ⟨W, hW⟩ : ∃ W, R * 32 + d = W := ⟨_, rfl⟩
        rw [hW] at hE
        have hWl : W < 65536 := by omega
        have HW := Lib.hid hW
        clear hn hW
        by_cases h8 : r + 5 < 8
        · have h8' : (r : Int) + 5 < 8 := by omega
          have HO := Lib.hid hown
          have H8 := Lib.hid h8
          clear hown h8
          go_wp2_with (first
            | (go_at_call 22; refine (index_any c _).mono ?_; rintro e w' ⟨rfl, rfl⟩))
          go_roundw
          case rel =>
            have e8 := H8.out
            have er := HR.out
            refine ⟨⟨k + 1, m + 1, ds ++ [d], W, r + 5, by rw [HK.out], by have := HK.out; omega, by go_num, HN.out, ?_, by omega, by go_num, by go_num, ?_, HBEL.out, hsz, HBLK.out⟩⟩
            · rw [accL_snoc, show 5 * (m + 1) % 8 = 5 * m % 8 + 5 from by omega, rest_step _ _ _ hd, HRR.out, HW.out]
            · rw [accL_snoc, bytesN_less _ _ _ hd (by omega), show 5 * (m + 1) / 8 = 5 * m / 8 from by omega]
              exact HO.out
          case measure => simp [intOf]; omega
        · obtain ⟨q, hq⟩ : ∃ q, r + 5 = 8 + q := ⟨r - 3, by omega⟩
          have h8' : ¬ (r : Int) + 5 < 8 := by omega
          have h8'' : (8 : Int) ≤ (r : Int) + 5 := by omega
          have hq' : (r : Int) + 5 - 8 = (q : Int) := by omega
          have hq8 : (q : Int) ≤ 7 := by omega
          have hA := and_low W q hWl (by omega)
          have HQ := Lib.hid hq
          have HX1 := Lib.hid (show 5 * m / 8 + 1 ≤ maxLen by unfold maxLen; have := HK.out; omega)
          have HX2 := Lib.hid (show (5 * m / 8 + 1) * 1 ≤ 140737488355328 by have := HK.out; omega)
          obtain ⟨ii, iz, hi0, hz0, hz1, hz2, hz3⟩ := u8Info
          clear h8 hq
          go_wp2_with (first
            | (go_at_call 22; refine (index_any c _).mono ?_; rintro e w' ⟨rfl, rfl⟩)
            | (at_builtin; refine wpList_append_one (v := u4) rfl _ _ _ rfl Tryd.underlying40 hi0 hz0 hz1 hz2 hz3 (by decide) rfl hown rfl rfl (byte_one _) HX1.out HX2.out hsz ?_; intro g' cap' w1 hown1 hgr1))
          go_roundw
          case rel =>
            have eq8 := HQ.out
            have er := HR.out
            refine ⟨⟨k + 1, m + 1, ds ++ [d], W % 2 ^ q, q, by rw [HK.out], by have := HK.out; omega, by go_num, HN.out, ?_, by omega, by go_num, by go_num, ?_, ?_, Nat.le_trans hsz hgr1.size, ?_⟩⟩
            · rw [accL_snoc, show 5 * (m + 1) % 8 = q from by omega, ← HW.out, ← HRR.out, ← rest_step _ _ _ hd, Nat.mod_mod_of_dvd]
              exact Nat.pow_dvd_pow 2 (by omega)
            · rw [accL_snoc, bytesN_more _ _ _ q hd (by omega), show 5 * (m + 1) / 8 = 5 * m / 8 + 1 from by omega, HRR.out, HW.out]
              simpa [u8v] using hown1
            · exact bel_grown HBEL.out hgr1 hown (by omega) (by omega)
            · refine HBLK.out.grown hgr1 fun e => ?_
              have := (hown.lt _ e.symm).1
              omega
          case measure => simp [intOf]; omega
    · obtain ⟨g, cap, rfl⟩ := own_form hown (by have := HK.out; omega)
      have hc := own_cap hown
      have hk' : k = 21 := by omega
      have hm' : m = 20 := by have := HK.out; omega
      subst hk' hm'
      have hc12 : 12 ≤ cap := hc.1
      have hcm : cap ≤ 9223372036854775807 := hc.2.1
      have hgb := hc.2.2.1
      have hnum : numsOf l.tail = some ds := by
        have e : l.tail.take 20 = l.tail := List.take_of_length_le (by rw [← HL.out]; simp; have := H21.out; omega)
        rw [← e]; exact HDS.out
      have hA : accL ds < 2 ^ 100 := by
        have := accL_lt hnum
        have e : l.tail.length = 20 := by rw [← HL.out]; simp; have := H21.out; omega
        rw [e] at this
        exact this
      have HPA : Hid (parseL s.data.toList = parseA (accL ds)) := Lib.hid (by rw [HP.out, hnum])
      have HO := Lib.hid hown
      have HA := Lib.hid hA
      clear hc hown hnum hA HDS hlt hm hk1 hk21
      by_cases hR0 : R = 0
      · subst hR0
        go_wp2_with (first
          | (go_at_call 15; fail))
        refine (fields_any g 12 cap hc12 hcm _).mono ?_
        rintro e w1 ⟨rfl, h1⟩
        have hbel1 := Lib.hid (HBEL.out.trans (h1.mono (by omega)))
        have HBLK1 := Lib.hid (HBLK.out.below h1 (by omega))
        have hcell : ∀ j, j < 12 → w1.cell? ⟨g, j, none⟩ = some (.int .u8 (byteT (accL ds / 16) j : Int)) := fun j hj => by
          have hlt : g < wr.heap.size := (own_cap HO.out).2.2.2
          rw [h1.cell (p := ⟨g, j, none⟩) hlt]
          have := HO.out.cells rfl j (.int .u8 (byteT (accL ds / 16) j : Int)) (by unfold u8v; rw [List.getElem?_map, bytesN_last _ _ hj]; rfl)
          rwa [Addr.add_lit, Nat.zero_add] at this
        have HCELL := Lib.hid hcell
        clear hcell h1 HO HBEL HBLK
        go_wp2_with (first
          | (go_at_call 23; fail))
        have hBT : ∀ j, byteT (accL ds / 16) j < 256 := fun j => Nat.mod_lt _ (by decide)
        have HBT := Lib.hid hBT
        clear hBT
        refine (value_any _ HBT.out g 0 1 1 (by decide) w1 (fun j hj => by rw [Nat.zero_add]; exact HCELL.out j (by omega))).mono ?_
        rintro e w' ⟨rfl, rfl⟩
        obtain ⟨V0, hV0⟩ : ∃ V, valN (byteT (accL ds / 16)) 0 1 = V := ⟨_, rfl⟩
        rw [hV0]
        have hv0 : V0 < 256 := by rw [← hV0]; exact valN_lt HBT.out 0 1
        have HV0 := Lib.hid hV0
        clear hV0
        go_wp2_with (first
          | (go_at_call 23; fail))
        refine (value_any _ HBT.out g 1 3 3 (by decide) w1 (fun j hj => HCELL.out (1 + j) (by omega))).mono ?_
        rintro e w' ⟨rfl, rfl⟩
        obtain ⟨V1, hV1⟩ : ∃ V, valN (byteT (accL ds / 16)) 1 3 = V := ⟨_, rfl⟩
        rw [hV1]
        have hv1 : V1 < 16777216 := by rw [← hV1]; exact valN_lt HBT.out 1 3
        have HV1 := Lib.hid hV1
        clear hV1
        go_wp2_with (first
          | (go_at_call 23; fail))
        refine (value_any _ HBT.out g 4 8 8 (by decide) w1 (fun j hj => HCELL.out (4 + j) (by omega))).mono ?_
        rintro e w' ⟨rfl, rfl⟩
        obtain ⟨V2, hV2⟩ : ∃ V, valN (byteT (accL ds / 16)) 4 8 = V := ⟨_, rfl⟩
        rw [hV2]
        have hv2 : (V2 : Int) = wd (BitVec.ofNat 64 V2) := by
          have : V2 < 256 ^ 8 := by rw [← hV2]; exact valN_lt HBT.out 4 8
          unfold wd
          rw [BitVec.toNat_ofNat, Nat.mod_eq_of_lt (by omega)]
        have HV2 := Lib.hid hV2
        rw [hv2]
        clear hV2 hv2
        obtain ⟨y, hy⟩ : ∃ y, BitVec.ofNat 64 V2 = y := ⟨_, rfl⟩
        rw [hy]
        have HY := Lib.hid hy
        clear hy
        go_wp2_with (first
          | (go_at_call 14; fail))
        refine (may_any ⟨V0, V1, y⟩ _).mono ?_
        rintro e w2 ⟨rfl, h2⟩
        have hs1 := hbel1.out.size
        have hbel2 := Lib.hid ((hbel1.out.alloc hs1 (.cells (Tok.mk V0 V1 y).cells 24)).trans (h2.mono (by rw [World.size_alloc]; omega)))
        have HBLK2 := Lib.hid ((HBLK1.out.alloc (.cells (Tok.mk V0 V1 y).cells 24)).below h2 (by rw [World.size_alloc]; have := HBLK1.out.lt; omega))
        have HT2 := Lib.hid ((Blk.new w1 24 (Tok.mk V0 V1 y).cells).below h2 (by rw [World.size_alloc]; omega))
        have HRES : Hid (parseL s.data.toList = if mayB ⟨V0, V1, y⟩ then .ok (V0, V1, V2) else .error 1) := by
          apply Lib.hid
          obtain ⟨p1, p2, p3⟩ := parse_bytes (accL ds) HA.out
          have e1 : V0 = accL ds / 16 / 2 ^ 88 := by rw [← HV0.out]; exact p1
          have e2 : V1 = accL ds / 16 / 2 ^ 64 % 2 ^ 24 := by rw [← HV1.out]; exact p2
          have e3 : V2 = accL ds / 16 % 2 ^ 64 := by rw [← HV2.out]; exact p3
          rw [HPA.out]
          unfold parseA
          have h16 : accL ds % 16 = 0 := HRR.out
          have hz : ¬ (accL ds % 16 ≠ 0) := by rw [h16]; simp
          rw [if_neg hz, ← e1, ← e2, ← e3]
          congr 1
          simp [mayB, mayN]
          omega
        clear h2 HCELL hbel1 HBLK1
        cases hm : mayB ⟨V0, V1, y⟩ with
        | true =>
          rw [hm] at HRES
          go_wp2_with (first
            | (refine wpList_load_at rfl rfl rfl HT2.out.row rfl rfl tokInfo ?_)
            | (refine wpList_store_all rfl rfl rfl rfl HBLK2.out rfl (Tok.one _) tokInfo ?_))
          refine bodyPost_ret (results_at_tmp rfl rfl (HBLK2.out.setRow_same _).row rfl rfl tokInfo) rfl ⟨?_, bel_setRow hbel2.out (Nat.le_refl _) _⟩
          rw [HRES.out, ← HY.out]
          rfl
        | false =>
          rw [hm] at HRES
          go_wp2_with (first
            | (refine wpList_store_all rfl rfl rfl rfl HBLK2.out rfl (Tok.one Tok.zero) tokInfo ?_))
          refine bodyPost_ret (results_at_tmp rfl rfl (HBLK2.out.setRow_same _).row rfl rfl tokInfo) rfl ⟨?_, bel_setRow hbel2.out (Nat.le_refl _) _⟩
          rw [HRES.out]
          rfl
      · have hR0' : (R : Int) ≠ 0 := by omega
        have hR1 : ((R : Int) != 0) = true := by simpa using hR0
        go_wp2_with (first
          | (refine wpList_store_all rfl rfl rfl rfl HBLK.out rfl (Tok.one Tok.zero) tokInfo ?_))
        refine bodyPost_ret (results_at_tmp rfl rfl (HBLK.out.setRow_same _).row rfl rfl tokInfo) rfl ⟨?_, bel_setRow HBEL.out (Nat.le_refl _) _⟩
        rw [HPA.out]
        unfold parseA
        rw [if_pos (by have := HRR.out; simpa [this] using hR0)]
        rfl

set_option maxHeartbeats 1000000 in
theorem parse_long (s : ByteArray) (h : 21 < s.size) (w : World) : Calls Tryd.prog 9 #[.string s] w (RetB (parseV (.error 3)) w) := by
  have h1 : ¬ (s.size : Int) < 21 := by omega
  have h2 : (21 : Int) < s.size := by omega
  clear h
  go_enter Tryd.func9, Tryd.ntmps9
  go_wp2
  exact bodyPost_ret (results_at_tmp rfl rfl (Blk.new w 24 Tok.zero.cells).row rfl rfl tokInfo) rfl ⟨rfl, (Below.refl _ _).alloc (Nat.le_refl _) _⟩
set_option maxHeartbeats 1000000 in
theorem parse_head (s : ByteArray) (h : s.size = 21) (h0 : s.data.toList.head? ≠ some 116) (w : World) : Calls Tryd.prog 9 #[.string s] w (RetB (parseV (.error 4)) w) := by
  have h1 : (s.size : Int) = 21 := by omega
  have hlt : 0 < s.size := by omega
  have hb0 : ((s[0].toNat : Int) != 116) = true := by
    have := byte_of s 0 hlt
    rw [← List.head?_eq_getElem?] at this
    rw [this] at h0
    have h2 : s[0] ≠ 116 := fun e => h0 (by rw [e])
    have h3 : s[0].toNat ≠ 116 := fun e => h2 (UInt8.toNat_inj.1 e)
    simp; omega
  have H21 := Lib.hid h
  clear h h0
  go_enter Tryd.func9, Tryd.ntmps9
  go_wp2
  exact bodyPost_ret (results_at_tmp rfl rfl (Blk.new w 24 Tok.zero.cells).row rfl rfl tokInfo) rfl ⟨rfl, (Below.refl _ _).alloc (Nat.le_refl _) _⟩
/-- Parse, of every text. -/
theorem parse_any (s : ByteArray) (w : World) : Calls Tryd.prog 9 #[.string s] w (RetB (parseV (parseL s.data.toList)) w) := by
  have e : s.data.toList.length = s.size := by simp
  by_cases h1 : s.size < 21
  · have hp : parseL s.data.toList = .error 2 := by unfold parseL; rw [e, if_pos h1]
    rw [hp]; exact parse_short s h1 w
  · by_cases h2 : 21 < s.size
    · have hp : parseL s.data.toList = .error 3 := by unfold parseL; rw [e, if_neg h1, if_pos h2]
      rw [hp]; exact parse_long s h2 w
    · have h3 : s.size = 21 := by omega
      by_cases h4 : s.data.toList.head? = some 116
      · exact parse_main s h3 h4 w
      · have hp : parseL s.data.toList = .error 4 := by unfold parseL; rw [e, if_neg h1, if_neg h2, if_pos h4]
        rw [hp]; exact parse_head s h3 h4 w
end Go.Proofs.YtjhfidccpaidmaaDoor
