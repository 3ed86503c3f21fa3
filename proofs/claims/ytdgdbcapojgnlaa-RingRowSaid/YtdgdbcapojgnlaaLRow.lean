/-
  lineagelaw16.RingRow: the whole walk.
-/
import Derived.Test.YtdgdbcapojgnlaaRgHelp3
import Derived.Test.YtdgdbcapojgnlaaIntArg
namespace Go.Proofs.Ytdgdbcapojgnlaa
set_option maxRecDepth 100000
open Go.RowKit Go.Shelf
attribute [local go_sem] Oper.semAt_some

set_option maxHeartbeats 4000000 in
theorem ringRow_any (P0 : Option Addr) (cap : Nat) (l : List Int) (w : World) (hin : IntsAt w P0 l) (hlen : l.length * 8 ≤ 140737488351232) :
    Calls Try.prog 6 #[.slice P0 l.length cap] w (RetB (.bool true) w) := by
  have HI := Lib.hid hin
  clear hin
  go_enter Try.func6, Try.ntmps6
  go_wp2_with (go_at_call 10; fail)
  refine (new_st w).mono ?_
  rintro e w1 ⟨g, rfl, hg, h1, b1⟩
  have B1 := Lib.hid b1
  have K1 := Lib.hid h1
  have hs1 := b1.size
  have hg1 := h1.lt
  clear b1 h1
  go_wp2_with (go_at_call 21; fail)
  refine (row_any P0 cap l w1 (HI.out.below B1.out (Nat.le_refl _)) hlen).mono ?_
  have hrow := rowL_row l
  have HROW := Lib.hid hrow
  obtain ⟨L, hL⟩ : ∃ L, rowL l = L := ⟨_, rfl⟩
  rw [hL] at HROW ⊢
  clear hrow hL
  rintro e w2 ⟨v, rfl, hown, b2⟩
  obtain ⟨A2, c2, rfl, hin2, hfr2⟩ := owns_intsFrom hown
  rw [natInts_len]
  have hs2 := b2.size
  have HI2 := Lib.hid hin2
  have HF2 := Lib.hid hfr2
  have B2 := Lib.hid (B1.out.trans (b2.mono hs1))
  have K2 := Lib.hid (K1.out.below b2 hg1)
  have hne2 : ∀ a, A2 = some a → a.block ≠ g := fun a e => by have := hfr2 a e; omega
  have HN := Lib.hid hne2
  clear hown hin2 hfr2 b2 hne2 K1 B1
  go_wp2_with (go_at_call 22; fail)
  refine (laid_any A2 c2 L g w2 K2.out HROW.out HI2.out HN.out (by decide) (by decide)).mono ?_
  rintro e w3 ⟨rfl, S', hA3, hR3, hM3⟩
  have A3 := Lib.hid hA3
  have R3 := Lib.hid hR3
  have B3 := Lib.hid (B2.out.grown hA3.grown B2.out.size (fun k e => by cases e; exact hg))
  have HI3 := Lib.hid (HI2.out.keep HN.out hA3.grown)
  have hs3 := hA3.grown.size
  obtain ⟨last, hlast⟩ : ∃ last, lsI (-1) L = last := ⟨_, rfl⟩
  have HLAST := Lib.hid hlast
  rw [hlast]
  clear hA3 hR3 hM3 B2 K2 HI2 hlast
  go_wp2_with (go_at_call 23; fail)
  refine (rworks_any w3).mono ?_
  rintro e w4 ⟨rfl, b4⟩
  have A4 := Lib.hid (A3.out.ar.below b4 A3.out.ar.lt)
  have HI4 := Lib.hid (HI3.out.below b4 (Nat.le_refl _))
  have B4 := Lib.hid (B3.out.trans (b4.mono B3.out.size))
  clear b4 A3 HI3 B3
  go_wp2_with (go_at_call 24; fail)
  refine (rall_any last 99 g w4 A4.out).mono ?_
  have hls : (S'.all last).take (99 : Int).toNat = L := by rw [← HLAST.out]; exact ring_list R3.out (by decide)
  rw [hls]
  clear hls
  rintro e w5 ⟨v, rfl, hown, b5⟩
  obtain ⟨P5, c5, rfl, hin5⟩ := owns_intsAt hown
  rw [natInts_len]
  have hll := HROW.out.len
  have HI5 := Lib.hid hin5
  have HI5b := Lib.hid (HI4.out.below b5 (Nat.le_refl _))
  have B5 := Lib.hid (B4.out.trans (b5.mono B4.out.size))
  have A5 := Lib.hid (A4.out.below b5 A4.out.lt)
  clear hown hin5 b5 A4 HI4 B4
  go_wp2_with (go_at_call 20; fail)
  refine (sameI_eq P5 A2 c5 c2 L.length (natInts L) (natInts_len L) (by omega) _ HI5.out HI5b.out).mono ?_
  rintro e w6 ⟨rfl, b6⟩
  have HI6 := Lib.hid (HI5b.out.below b6 (Nat.le_refl _))
  have B6 := Lib.hid (B5.out.trans (b6.mono B5.out.size))
  have A6 := Lib.hid (A5.out.below b6 A5.out.lt)
  clear b6 A5 HI5 HI5b B5
  go_wp2
  go_loopw [7] (fun i wr => ∃ k : Nat, k ≤ L.length ∧ i = .int .i64 k ∧ IsAr wr g S' ∧ IntsAt wr A2 (natInts L) ∧ Below w.heap.size w wr) (fun i _ => L.length - (intOf i).toNat)
  case atStart => exact ⟨0, Nat.zero_le _, rfl, A6.out, HI6.out, B6.out⟩
  case round =>
    obtain ⟨k, hk, rfl, hA, hI, hB⟩ := hrel
    have HA := Lib.hid hA
    have HIr := Lib.hid hI
    have HB := Lib.hid hB
    clear A6 HI6 B6
    by_cases hlt : k < L.length
    · have hlt1 : (k : Int) < (L.length : Int) := by omega
      obtain ⟨x, hx⟩ : ∃ x, L[k]? = some x := ⟨_, List.getElem?_eq_getElem hlt⟩
      have hm := List.mem_of_getElem? hx
      have HX := Lib.hid hm
      have hx32 := HROW.out.lt x hm
      obtain ⟨b, off, rfl, hbl, hcs⟩ := hI (by rw [natInts_len]; omega)
      have hcell := hcs k x (by simp [natInts, hx])
      have hw := R3.out.wellm hm
      have HW := Lib.hid hw
      have HLT := Lib.hid hlt
      clear hcs hx hbl hm hlt hw hI hA hB
      go_wp2_with (go_at_call 25; fail)
      refine (lwell_any x hx32 g wr HA.out).mono ?_
      rw [HW.out]
      rintro e w7 ⟨rfl, b7⟩
      have HA7 := Lib.hid (HA.out.below b7 HA.out.lt)
      have HI7 := Lib.hid (HIr.out.below b7 (Nat.le_refl _))
      have HB7 := Lib.hid (HB.out.trans (b7.mono HB.out.size))
      clear b7 HA HIr HB
      go_wp2
      go_roundw
      case rel => exact ⟨k + 1, by have := HLT.out; omega, by go_num, HA7.out, HI7.out, HB7.out⟩
      case measure => have := HLT.out; simp [intOf]; omega
    · have hlt1 : ¬ (k : Int) < (L.length : Int) := by omega
      clear hA hI hB
      go_wp2
      go_ret
      exact ⟨rfl, HB.out⟩
theorem ringRow_rows (A : Option Addr) (cap : Nat) (l : List Int) (w : World) (h : 0 < l.length → ∃ b off, A = some ⟨b, off, none⟩ ∧ b < w.heap.size ∧ ∀ k y, l[k]? = some y → RowAt w b (off + k * 1) (i64c y)) (hlen : l.length * 8 ≤ 140737488351232) :
    Calls Try.prog 6 #[.slice A l.length cap] w (RetB (.bool true) w) :=
  ringRow_any A cap l w (intsAt_rows h) hlen
end Go.Proofs.Ytdgdbcapojgnlaa
