/-
  lineagelaw10.PackThere: the whole walk.
-/
import Derived.Test.YtpdpdojaaaipcaaDoorPut
import Derived.Test.YtpdpdojaaaipcaaDoorPkX2
namespace Go.Proofs.YtpdpdojaaaipcaaDoor
set_option maxRecDepth 100000
open Go.RowKit
theorem strB_back (s : ByteArray) : strB s.data.toList = s := rfl
theorem rd_text (y : BitVec 64) (s : ByteArray) (rest : List UInt8) (hs : s.size < 2 ^ 63) : readT (encI ⟨true, y, s⟩ ++ rest) (s.size : Int) = .ok (s.data.toList, (encI ⟨true, y, s⟩).length) := by
  have hl : s.data.toList.length = s.size := by rw [Array.length_toList]; rfl
  rw [encI_text, readT_enc s rest s.size hs (Int.le_refl _), List.length_append, hl]
theorem rd_num (y : BitVec 64) (s : ByteArray) (rest : List UInt8) : readN 0 0 (encI ⟨false, y, s⟩ ++ rest) = .ok (y.toNat, (encI ⟨false, y, s⟩).length) := by
  rw [encI_num, readN_sevens y.toNat y.toNat 0 0 rest (Nat.le_refl _) (by omega) y.isLt (fun h => absurd h (by decide))]
  rw [Nat.zero_add, Nat.zero_add, Nat.pow_zero, Nat.mul_one]
set_option maxHeartbeats 4000000 in
theorem there_w (P0 : Option Addr) (cap : Nat) (xs : List ItemV) (w : World) (hin : ItemsAt w P0 xs) (hlen : xs.length * 32 ≤ 140737488351232) (hsz : (encs xs).length + 20 ≤ 140737488355328) (hss : ∀ x ∈ xs, x.s.size < 4611686018427387904) :
    Calls Tryd.prog 30 #[.slice P0 xs.length cap] w (RetB (.bool true) w) := by
  have HI := Lib.hid hin
  have HSZ := Lib.hid hsz
  have HLN := Lib.hid hlen
  have HSS := Lib.hid hss
  have HPUT := Lib.hid (fun w1 (hb : Below w.heap.size w w1) => put_w P0 cap xs w1 (hin.below hb (Nat.le_refl _)) hlen hsz)
  obtain ⟨N, hN⟩ : ∃ N, xs.length = N := ⟨_, rfl⟩
  rw [hN] at HLN HPUT ⊢
  have HN := Lib.hid hN
  clear hin hsz hN hlen hss
  go_enter Tryd.func30, Tryd.ntmps30
  go_wp2_with (go_at_call 32; fail)
  refine (works_w w).mono ?_
  rintro e w1 ⟨rfl, h1⟩
  have H1 := Lib.hid h1
  clear h1
  go_wp2_with (go_at_call 49; fail)
  refine (HPUT.out w1 H1.out).mono ?_
  rintro e w2 ⟨v2, rfl, h2, h3⟩
  obtain ⟨A, cap2, rfl, hb, hnil⟩ := own_by h2
  have HB := Lib.hid hb
  have HNIL := Lib.hid hnil
  have H3 := Lib.hid (H1.out.trans (h3.mono H1.out.size))
  clear h2 h3 hb hnil
  go_wp2_with (go_at_call 6; fail)
  refine (open_r A cap2 (encs xs) (by have := HSZ.out; omega) HNIL.out w2 HB.out).mono ?_
  rintro e w3 ⟨g, v, rfl, hg, hr, h4⟩
  have HR := Lib.hid hr
  have H4 := Lib.hid (H3.out.trans (h4.mono H3.out.size))
  have HG := Lib.hid (show w.heap.size ≤ g by have := H3.out.size; omega)
  clear hg hr h4
  have HBL := Lib.hid (show (encs xs).length < 9223372036854775807 by have := HSZ.out; omega)
  go_wp2
  go_loopw [4] (fun i wr => ∃ (k : Nat), k ≤ N ∧ i = .int .i64 (k : Int) ∧ IsR wr g v (encs xs) (encs (xs.take k)).length ∧ Below w.heap.size w wr) (fun i _ => N - (intOf i).toNat)
  case atStart => exact ⟨0, Nat.zero_le _, rfl, HR.out, H4.out⟩
  case round =>
    obtain ⟨k, hk, rfl, hr, hbel⟩ := hrel
    have HR1 := Lib.hid hr
    have HBEL := Lib.hid hbel
    clear hr hbel HR H4
    by_cases hlt : k < N
    · have hki : (k : Int) < (N : Int) := by omega
      obtain ⟨b, off, rfl, hbl, hrow0⟩ := (HI.out.below HBEL.out (Nat.le_refl _)) (by rw [HN.out]; omega)
      obtain ⟨x, hx⟩ : ∃ x, xs[k]? = some x := ⟨_, List.getElem?_eq_getElem (by rw [HN.out]; exact hlt)⟩
      have hrow := hrow0 k x hx
      have x0 : wr.cell? ⟨b, off + k * 3, none⟩ = some (.bool x.isText) := hrow.at_ 0 _ rfl
      have x1 : wr.cell? ⟨b, off + k * 3 + 1, none⟩ = some (.int .u64 (wd x.v)) := hrow.at_ 1 _ rfl
      have x2 : wr.cell? ⟨b, off + k * 3 + 2, none⟩ = some (.string x.s) := hrow.at_ 2 _ rfl
      have hxs : x.s.size < 4611686018427387904 := HSS.out x (List.mem_of_getElem? hx)
      have HXS := Lib.hid hxs
      obtain ⟨rest, hrest⟩ : ∃ rest, encs (xs.drop (k + 1)) = rest := ⟨_, rfl⟩
      have HE := Lib.hid (congrArg List.length (encs_take hx))
      have hdr : (encs xs).drop (encs (xs.take k)).length = encI x ++ rest := by rw [encs_split hx, List.drop_left' rfl, hrest]
      have HDR := Lib.hid hdr
      have hk1 : k + 1 ≤ N := hlt
      have hkb : (k : Int) + 1 ≤ 4611686018427387904 := by have := HLN.out; omega
      have HX := Lib.hid hx
      clear hrow0 hrow hx hxs hrest hdr
      obtain ⟨bt, y, s⟩ := x
      dsimp only at x0 x1 x2 HXS
      cases bt with
      | true =>
        go_wp2_with (go_at_call 12; fail)
        have hc := text_ok g v (encs xs) _ _ s.data.toList (s.size : Int) (by have := HXS.out; omega) HBL.out wr HR1.out (by rw [HDR.out]; exact rd_text y s rest (Nat.lt_trans HXS.out (by decide)))
        rw [strB_back] at hc
        refine hc.mono ?_
        rintro e w4 ⟨rfl, h5, h6⟩
        have K1 := Lib.hid h5
        have hb4 := HBEL.out.grown h6 HBEL.out.size (fun j e => by cases e; exact HG.out)
        obtain ⟨b', off', e', _, hrow4⟩ := (HI.out.below hb4 (Nat.le_refl _)) (by rw [HN.out]; omega)
        have hrow4 := hrow4 k _ HX.out
        injection e' with e'
        injection e' with e1 e2
        rw [← e1, ← e2] at hrow4
        have y1 : w4.cell? ⟨b, off + k * 3 + 1, none⟩ = some (.int .u64 (wd y)) := hrow4.at_ 1 _ rfl
        have y2 : w4.cell? ⟨b, off + k * 3 + 2, none⟩ = some (.string s) := hrow4.at_ 2 _ rfl
        have HB4 := Lib.hid hb4
        clear h5 h6 hb4 hrow4 e1 e2 hc
        go_wp2
        go_roundw
        case rel => exact ⟨k + 1, hk1, rfl, by rw [HE.out, List.length_append]; exact K1.out, HB4.out⟩
        case measure => simp only [intOf]; omega
      | false =>
        go_wp2_with (go_at_call 14; fail)
        have hc := number_ok g v (encs xs) _ _ _ HBL.out wr HR1.out (by rw [HDR.out]; exact rd_num y s rest)
        rw [show ((y.toNat : Nat) : Int) = wd y from rfl] at hc
        refine hc.mono ?_
        rintro e w4 ⟨rfl, h5, h6⟩
        have K1 := Lib.hid h5
        have hb4 := HBEL.out.grown h6 HBEL.out.size (fun j e => by cases e; exact HG.out)
        obtain ⟨b', off', e', _, hrow4⟩ := (HI.out.below hb4 (Nat.le_refl _)) (by rw [HN.out]; omega)
        have hrow4 := hrow4 k _ HX.out
        injection e' with e'
        injection e' with e1 e2
        rw [← e1, ← e2] at hrow4
        have y1 : w4.cell? ⟨b, off + k * 3 + 1, none⟩ = some (.int .u64 (wd y)) := hrow4.at_ 1 _ rfl
        have y2 : w4.cell? ⟨b, off + k * 3 + 2, none⟩ = some (.string s) := hrow4.at_ 2 _ rfl
        have HB4 := Lib.hid hb4
        clear h5 h6 hb4 hrow4 e1 e2 hc
        go_wp2
        go_roundw
        case rel => exact ⟨k + 1, hk1, rfl, by rw [HE.out, List.length_append]; exact K1.out, HB4.out⟩
        case measure => simp only [intOf]; omega
    · have hki : ¬ (k : Int) < (N : Int) := by omega
      have hkN : k = N := by omega
      have HKN := Lib.hid hkN
      clear hkN
      have hrf := HR1.out
      rw [HKN.out, ← HN.out, List.take_length] at hrf
      have HRF := Lib.hid hrf
      clear hrf
      go_wp2_with (go_at_call 11; fail)
      refine (end_none g v (encs xs) _ HBL.out rfl wr HRF.out).mono ?_
      rintro e w5 ⟨rfl, h5⟩
      have H5 := Lib.hid h5
      clear h5
      have hlf := left_r g v (encs xs) _ HBL.out w5 (HRF.out.below H5.out (Nat.le_refl _))
      rw [Nat.sub_self] at hlf
      have HLF := Lib.hid hlf
      clear hlf
      go_wp2_with (go_at_call 9; fail)
      refine HLF.out.mono ?_
      rintro e w6 ⟨rfl, h6⟩
      have H6 := Lib.hid (HBEL.out.trans ((H5.out.trans (h6.mono H5.out.size)).mono HBEL.out.size))
      clear h6
      go_wp2
      go_ret
      exact ⟨rfl, H6.out⟩
theorem mem_sum {α : Type} (f : α → Nat) {x : α} : ∀ {l : List α}, x ∈ l → f x ≤ (l.map f).sum
  | [], h => by cases h
  | y :: r, h => by
    simp only [List.map_cons, List.sum_cons]
    rcases List.mem_cons.1 h with e | h
    · subst e; omega
    · have := mem_sum f h; omega
theorem there_upto (P0 : Option Addr) (cap : Nat) (xs : List ItemV) (w : World) (hin : ItemsAt w P0 xs) (hlc : xs.length ≤ cap) (hnil : P0 = none → cap = 0) (hcw : cap ≤ 9223372036854775807) {B : Nat} (hs : (xs.map fun x => x.s.size).sum ≤ B) (hn : xs.length ≤ B) (hB : B + 0 ≤ 1048576) :
    Calls Tryd.prog 30 #[.slice P0 xs.length cap] w (RetB (.bool true) w) := by
  have hss : ∀ x ∈ xs, x.s.size ≤ 1048576 := fun x hx => by have := mem_sum (fun x : ItemV => x.s.size) hx; omega
  have hle := encs_le xs (fun x hx => Nat.lt_of_le_of_lt (hss x hx) (by decide))
  exact there_w P0 cap xs w hin (by omega) (by omega) (fun x hx => Nat.lt_of_le_of_lt (hss x hx) (by decide))
end Go.Proofs.YtpdpdojaaaipcaaDoor
