/-
  lineagelaw02.knownPairs: each number alone, each two, all rows.
-/
import Derived.Test.YtfdhkalallcfgaaDoorKSaid
import Derived.Test.YtfdhkalallcfgaaDoorLBack
import Derived.Test.YtfdhkalallcfgaaDoorLTwo
import Derived.Test.YtfdhkalallcfgaaDoorLSame
import Derived.Deep.QuietTactic
import Derived.BigQuiet
namespace Go.Proofs.YtfdhkalallcfgaaDoor
set_option maxRecDepth 100000
open Go.RowKit

def ends : List Int := [-9223372036854775808, -1, 0, 1, 31, 32, 62, 63, 64, 65, 9223372036854775807]
theorem ends_at {i : Nat} (h : i < 11) : ∃ e : Int, ends[i]? = some e := ⟨_, List.getElem?_eq_getElem h⟩
@[go_sem] theorem u64_shl_bv (x : BitVec 64) (i : Nat) : IntKind.u64.wrap (wd x * 2 ^ i) = wd (x <<< i) := by
  unfold wd
  rw [IntKind.wrap_u64, BitVec.toNat_shiftLeft, Nat.shiftLeft_eq]
  simp
@[go_sem] theorem u64_shl_one (x : BitVec 64) : IntKind.u64.wrap (wd x * 2) = wd (x <<< 1) := by
  have := u64_shl_bv x 1
  simpa using this

theorem xor_max (x : BitVec 64) : bits .xor .u64 IntKind.u64.max (wd x) = wd (BitVec.allOnes 64 ^^^ x) := by
  rw [show IntKind.u64.max = wd (BitVec.allOnes 64) from by decide, u64_xor_bv]
theorem below_drewN (n : Nat) (w : World) : Below w.heap.size w (w.drewN n) := ⟨rfl, rfl, rfl, Nat.le_refl _, fun _ _ => rfl⟩
set_option maxHeartbeats 4000000 in
theorem knownPairs_any (w : World) (hT : Tab w) (hg : Laid w) : Calls Tryd.prog 27 #[] w (RetB (.bool true) w) := by
  have HG := Lib.hid hg
  have HT := Lib.hid hT
  have hpos := hg.pos
  have hpos0 := hT.pos
  clear hg hT
  go_enter Tryd.func27, Tryd.ntmps27
  go_wp2
  obtain ⟨V, hV⟩ : ∃ V, w.alloc (.cells #[.int .i64 (-9223372036854775808), .int .i64 (-1), .int .i64 0, .int .i64 1, .int .i64 31, .int .i64 32, .int .i64 62, .int .i64 63, .int .i64 64, .int .i64 65, .int .i64 9223372036854775807] 3) = V := ⟨_, rfl⟩
  have hIn := intsNew w ends #[.int .i64 (-9223372036854775808), .int .i64 (-1), .int .i64 0, .int .i64 1, .int .i64 31, .int .i64 32, .int .i64 62, .int .i64 63, .int .i64 64, .int .i64 65, .int .i64 9223372036854775807] rfl
  rw [hV] at hIn ⊢
  have hbV : Below w.heap.size w V := by rw [← hV]; exact (Below.refl _ _).alloc (Nat.le_refl _) _
  have hVs : w.heap.size < V.heap.size := by rw [← hV]; simp
  have hcell : ∀ k e, ends[k]? = some e → V.cell? ⟨w.heap.size, k, none⟩ = some (.int .i64 e) := fun k e hk => by
    obtain ⟨b, off, he, _, hc⟩ := hIn (by decide)
    injection he with he
    injection he with e1 e2
    subst e1 e2
    have := hc k e hk
    rwa [Nat.zero_add] at this
  have HC := Lib.hid hcell
  have HB := Lib.hid hbV
  clear hIn hV hcell hbV
  go_loopw [2] (fun i wr => ∃ k : Nat, k ≤ 11 ∧ i = .int .i64 k ∧ Below V.heap.size V wr) (fun i _ => 11 - (intOf i).toNat)
  case atStart => exact ⟨0, by omega, rfl, Below.refl _ _⟩
  case round =>
    obtain ⟨k, hk, rfl, hbel⟩ := hrel
    by_cases hlt : k < 11
    · have hki : (k : Int) < 11 := by omega
      go_wp2
      go_loopw [3] (fun i wr => ∃ m : Nat, m ≤ 11 ∧ i = .int .i64 m ∧ Below V.heap.size V wr) (fun i _ => 11 - (intOf i).toNat)
      case atStart => exact ⟨0, by omega, rfl, hbel⟩
      case round =>
        obtain ⟨m, hm, rfl, hbm⟩ := hrel
        by_cases hlm : m < 11
        · have hmi : (m : Int) < 11 := by omega
          obtain ⟨ek, hek⟩ := ends_at hlt
          obtain ⟨em, hem⟩ := ends_at hlm
          have c1 := HC.out k ek hek
          have c2 := HC.out m em hem
          have KS := Lib.hid (fun W' (h : Below V.heap.size V W') => show Below V.heap.size V W' ∧ W'.cell? ⟨w.heap.size, k, none⟩ = some (.int .i64 ek) ∧ W'.cell? ⟨w.heap.size, m, none⟩ = some (.int .i64 em) from ⟨h, (h.cell (p := ⟨w.heap.size, k, none⟩) hVs).trans c1, (h.cell (p := ⟨w.heap.size, m, none⟩) hVs).trans c2⟩)
          have KA := Lib.hid (fun W' (h : Below V.heap.size V W' ∧ W'.cell? ⟨w.heap.size, k, none⟩ = some (.int .i64 ek) ∧ W'.cell? ⟨w.heap.size, m, none⟩ = some (.int .i64 em)) o => KS.out (W'.alloc o) (h.1.alloc h.1.size o))
          have SB := Lib.hid (fun (W' : World) g on (hI : IntsAt W' (some ⟨g, 0, none⟩) [ek, em]) (h : Below V.heap.size V W' ∧ W'.cell? ⟨w.heap.size, k, none⟩ = some (.int .i64 ek) ∧ W'.cell? ⟨w.heap.size, m, none⟩ = some (.int .i64 em)) =>
            (show Calls Tryd.prog 5 #[.slice (some ⟨g, 0, none⟩) 2 2, .int .i64 em, .bool on] W' _ from bitsOf_any (some ⟨g, 0, none⟩) 2 [ek, em] em on W' hI (by simp) ((HG.out.below HB.out hpos).below h.1 (by omega))).mono fun e w'' h2 => (⟨h2.1, KS.out _ (h.1.trans (h2.2.mono h.1.size))⟩ : e = .returned (.bool true) ∧ Below V.heap.size V w'' ∧ w''.cell? ⟨w.heap.size, k, none⟩ = some (.int .i64 ek) ∧ w''.cell? ⟨w.heap.size, m, none⟩ = some (.int .i64 em)))
          have SC := Lib.hid (fun (W' : World) (h : Below V.heap.size V W' ∧ W'.cell? ⟨w.heap.size, k, none⟩ = some (.int .i64 ek) ∧ W'.cell? ⟨w.heap.size, m, none⟩ = some (.int .i64 em)) =>
            (show Calls Tryd.prog 5 #[.slice none 0 0, .int .i64 ek, .bool true] W' _ from bitsOf_any none 0 [] ek true W' (fun h => absurd h (by simp)) (by simp) ((HG.out.below HB.out hpos).below h.1 (by omega))).mono fun e w'' h2 => (⟨h2.1, KS.out _ (h.1.trans (h2.2.mono h.1.size))⟩ : e = .returned (.bool true) ∧ Below V.heap.size V w'' ∧ w''.cell? ⟨w.heap.size, k, none⟩ = some (.int .i64 ek) ∧ w''.cell? ⟨w.heap.size, m, none⟩ = some (.int .i64 em)))
          have hk0 : (0 : Int) ≤ (k : Int) := by omega
          have hm0 : (0 : Int) ≤ (m : Int) := by omega
          have KW := Lib.hid (KS.out wr hbm)
          clear hek hem c1 c2 hbel
          go_wp2
          refine wp_region_noPanic ?_
          go_region_held3 (fun W' => Below V.heap.size V W' ∧ W'.cell? ⟨w.heap.size, k, none⟩ = some (.int .i64 ek) ∧ W'.cell? ⟨w.heap.size, m, none⟩ = some (.int .i64 em))
            (first | assumption | exact KS.out _ hbm.drew | exact KA.out _ (by assumption) _)
            (first
              | (go_at_call_of 5 (Value.slice none 0 0); refine (SC.out _ (by assumption)).mono ?_; rintro e wA ⟨rfl, hA⟩)
              | (go_at_call 5; refine (SB.out _ _ _ (show IntsAt (wr.alloc (.cells #[.int .i64 ek, .int .i64 em] 3)).drew _ _ from intsNew wr [ek, em] _ rfl) (by assumption)).mono ?_; rintro e wB ⟨rfl, hB⟩))
          refine NoPanic.normal ?_
          have hA1 := hA.1
          clear SB SC KS KA hA hB KW
          go_wp2
          go_roundw
          case rel => exact ⟨m + 1, by omega, by go_num, hA1⟩
          case measure => simp [intOf]; omega
        · have hmi : ¬ (m : Int) < 11 := by omega
          go_wp2
          go_roundw
          case rel => exact ⟨k + 1, by omega, by go_num, hbm⟩
          case measure => simp [intOf]; omega
    · have hki : ¬ (k : Int) < 11 := by omega
      have HW := Lib.hid hbel
      clear HC hbel hlt hk
      go_wp2
      have H0 := Lib.hid (HB.out.trans (HW.out.mono HB.out.size))
      clear HW HB
      go_loopw [4] (fun i wr' => ∃ k : Nat, k ≤ 64 ∧ i = .int .i64 k ∧ Below w.heap.size w wr') (fun i _ => 64 - (intOf i).toNat)
      case atStart => exact ⟨0, by omega, rfl, H0.out⟩
      case round =>
        obtain ⟨k, hk, rfl, hbel⟩ := hrel
        by_cases hlt : k < 64
        · have hki : (k : Int) < 64 := by omega
          go_wp2
          go_loopw [5] (fun i wr' => ∃ m : Nat, k ≤ m ∧ m ≤ 64 ∧ i = .int .i64 m ∧ Below w.heap.size w wr') (fun i _ => 64 - (intOf i).toNat)
          case atStart => exact ⟨k, Nat.le_refl _, by omega, rfl, hbel⟩
          case round =>
            obtain ⟨m, hkm, hm, rfl, hbm⟩ := hrel
            by_cases hlm : m < 64
            · have hmi : (m : Int) < 64 := by omega
              have hk0 : (0 : Int) ≤ (k : Int) := by omega
              have hm0 : (0 : Int) ≤ (m : Int) := by omega
              have HM := Lib.hid hbm
              clear hbm hbel
              go_wp2
              go_quiet (fail)
              go_wp2_with (go_at_call 3; fail)
              have D0 := Lib.hid (HM.out.trans ((below_drewN nq wr).mono HM.out.size))
              clear HM
              generalize BitVec.twoPow 64 k ||| BitVec.twoPow 64 m = xs
              generalize ((BitVec.twoPow 64 m - 1#64) <<< 1 >>> k <<< k) = ys
              refine (bitsAll_any xs k _ (HT.out.below D0.out hpos0)).mono ?_
              rintro e w1 ⟨rfl, h1⟩
              have D1 := Lib.hid (D0.out.trans (h1.mono D0.out.size))
              clear h1 D0
              go_wp2_with (go_at_call 3; fail)
              refine (bitsAll_any ys 1 _ (HT.out.below D1.out hpos0)).mono ?_
              rintro e w2 ⟨rfl, h1⟩
              have D2 := Lib.hid (D1.out.trans (h1.mono D1.out.size))
              clear h1 D1
              go_wp2_with (go_at_call 37; fail)
              refine (bitsTwo_any xs ys _).mono ?_
              rintro e w3 ⟨rfl, h1⟩
              have D3 := Lib.hid (D2.out.trans (h1.mono D2.out.size))
              clear h1 D2
              go_wp2_with (go_at_call 4; fail)
              refine (bitsBack_any ys _ (HT.out.below D3.out hpos0)).mono ?_
              rintro e w4 ⟨rfl, h1⟩
              have D4 := Lib.hid (D3.out.trans (h1.mono D3.out.size))
              clear h1 D3
              go_wp2_with (go_at_call 38; fail)
              refine (bitsSame_any xs ys _).mono ?_
              rintro e w5 ⟨rfl, h1⟩
              have D5 := Lib.hid (D4.out.trans (h1.mono D4.out.size))
              clear h1 D4
              go_wp2_with (go_at_call 3; fail)
              rw [xor_max]
              refine (bitsAll_any (BitVec.allOnes 64 ^^^ ys) 2 _ (HT.out.below D5.out hpos0)).mono ?_
              rintro e w6 ⟨rfl, h1⟩
              have D6 := Lib.hid (D5.out.trans (h1.mono D5.out.size))
              clear h1 D5
              go_wp2
              go_roundw
              case rel => exact ⟨m + 1, by omega, by omega, by go_num, D6.out⟩
              case measure => simp [intOf]; omega
            · have hmi : ¬ (m : Int) < 64 := by omega
              go_wp2
              go_roundw
              case rel => exact ⟨k + 1, by omega, by go_num, hbm⟩
              case measure => simp [intOf]; omega
        · have hki : ¬ (k : Int) < 64 := by omega
          have D0 := Lib.hid hbel
          clear hbel H0 hlt hk
          go_wp2_with (go_at_call 3; fail)
          refine (bitsAll_any 0#64 0 _ (HT.out.below D0.out hpos0)).mono ?_
          rintro e w1 ⟨rfl, h1⟩
          have D1 := Lib.hid (D0.out.trans (h1.mono D0.out.size))
          clear h1 D0
          go_wp2_with (go_at_call 3; fail)
          refine (bitsAll_any (BitVec.allOnes 64) 1 _ (HT.out.below D1.out hpos0)).mono ?_
          rintro e w2 ⟨rfl, h1⟩
          have D2 := Lib.hid (D1.out.trans (h1.mono D1.out.size))
          clear h1 D1
          go_wp2_with (go_at_call 37; fail)
          refine (bitsTwo_any (BitVec.allOnes 64) 0#64 _).mono ?_
          rintro e w3 ⟨rfl, h1⟩
          have D3 := Lib.hid (D2.out.trans (h1.mono D2.out.size))
          clear h1 D2
          go_wp2
          go_ret
          exact ⟨rfl, D3.out⟩
end Go.Proofs.YtfdhkalallcfgaaDoor
