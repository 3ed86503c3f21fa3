/-
  lineagelaw10: works, put.
-/
import Derived.Test.YtpdpdojaaaipcaaDoorItem
namespace Go.Proofs.YtpdpdojaaaipcaaDoor
set_option maxRecDepth 100000
open Go.RowKit
theorem sevens_300 : sevens 300 = [172, 2] := by
  rw [sevens_ge (by decide), sevens_lt (by decide)]
  rfl
theorem wd_300 : wd 300#64 = 300 := rfl
set_option maxHeartbeats 1000000 in
theorem works_w (w : World) : Calls Tryd.prog 32 #[] w (RetB (.bool true) w) := by
  go_enter Tryd.func32, Tryd.ntmps32
  go_wp2_with (go_at_call 41; fail)
  refine (new_w w).mono ?_
  rintro e w1 ⟨rfl, h1, h2⟩
  have H1 := Lib.hid h1
  have H2 := Lib.hid h2
  clear h1 h2
  go_wp2_with (go_at_call 46; fail)
  have hn := num_w w.heap.size _ [] 300#64 (by decide) w1 H1.out
  rw [wd_300] at hn
  refine hn.mono ?_
  rintro e w2 ⟨rfl, v', h3, h4⟩
  have H3 := Lib.hid h3
  have H4 := Lib.hid (H2.out.trans (h4.below H1.out (Nat.le_refl _)))
  clear h3 h4 hn
  go_wp2_with (go_at_call 42; fail)
  refine (bytes_w w.heap.size v' _ (by rw [List.nil_append]; have := sevens_ten 300#64; omega) w2 H3.out).mono ?_
  rintro e w3 ⟨v3, rfl, h5, h6⟩
  have e300 : [] ++ sevens (300#64 : BitVec 64).toNat = [172, 2] := sevens_300
  rw [e300] at h5
  obtain ⟨A, cap, rfl, hb, _⟩ := own_by h5
  have HB := Lib.hid hb
  have H6 := Lib.hid (H4.out.trans (h6.mono H4.out.size))
  clear hb h5 h6 e300
  go_wp2_with (go_at_call 47; fail)
  refine (same_any A _ cap 2 2 [172, 2] rfl (by decide) _ (HB.out.below ((Below.refl _ w3).alloc (Nat.le_refl _) _) (Nat.le_refl _)) (fun _ => ⟨w3.heap.size, 0, rfl, by simp, fun k x hx => ?_⟩)).mono ?_
  · rw [(Blk.new w3 _ _).cell]
    match k, hx with
    | 0, hx => cases hx; rfl
    | 1, hx => cases hx; rfl
    | k + 2, hx => simp at hx
  rintro e w4 ⟨rfl, h7⟩
  go_wp2
  go_ret
  exact ⟨rfl, H6.out.trans ((((Below.refl _ w3).alloc (Nat.le_refl _) _).trans (h7.mono (by simp))).mono H6.out.size)⟩
theorem own_low {w : World} {base b2 : Nat} {e : TypeId} {size : Nat} {v : Value} {n : Nat} {xs : List Value} (h : w.ownsRow base e size v n xs) (hb : b2 ≤ base) : w.ownsRow b2 e size v n xs := by
  rcases h with ⟨h1, h2 | ⟨g, cap, cur, hv, hg, hrest⟩⟩
  · exact ⟨h1, .inl h2⟩
  · exact ⟨h1, .inr ⟨g, cap, cur, hv, by omega, hrest⟩⟩
/-- What put gives. -/
def PutBy (w : World) (l : List UInt8) (e : Ending) (w' : World) : Prop := ∃ v, e = .returned v ∧ w'.ownsRow w.heap.size 5 1 v l.length (byv l) ∧ Below w.heap.size w w'
set_option maxHeartbeats 2000000 in
theorem put_w (P0 : Option Addr) (cap : Nat) (xs : List ItemV) (w : World) (hin : ItemsAt w P0 xs) (hlen : xs.length * 32 ≤ 140737488351232) (hsz : (encs xs).length + 20 ≤ 140737488355328) :
    Calls Tryd.prog 49 #[.slice P0 xs.length cap] w (PutBy w (encs xs)) := by
  have HI := Lib.hid hin
  have HSZ := Lib.hid hsz
  obtain ⟨N, hN⟩ : ∃ N, xs.length = N := ⟨_, rfl⟩
  rw [hN] at hlen ⊢
  have HN := Lib.hid hN
  have HLN := Lib.hid hlen
  clear hin hsz hN hlen
  go_enter Tryd.func49, Tryd.ntmps49
  go_wp2_with (go_at_call 41; fail)
  refine (new_w w).mono ?_
  rintro e w1 ⟨rfl, h1, h2⟩
  have H1 := Lib.hid h1
  have H2 := Lib.hid h2
  clear h1 h2
  go_wp2
  go_loopw [4] (fun i wr => ∃ (k : Nat) (v : Value), k ≤ N ∧ i = .int .i64 (k : Int) ∧ IsW wr w.heap.size v (encs (xs.take k)) ∧ Below w.heap.size w wr) (fun i _ => N - (intOf i).toNat)
  case atStart => exact ⟨0, _, Nat.zero_le _, rfl, H1.out, H2.out⟩
  case round =>
    obtain ⟨k, v, hk, rfl, hw, hbel⟩ := hrel
    have HW := Lib.hid hw
    have HBEL := Lib.hid hbel
    clear hw hbel H1 H2
    by_cases hlt : k < N
    · have hki : (k : Int) < (N : Int) := by omega
      obtain ⟨b, off, rfl, hbl, hrow0⟩ := (HI.out.below HBEL.out (Nat.le_refl _)) (by rw [HN.out]; omega)
      obtain ⟨x, hx⟩ : ∃ x, xs[k]? = some x := ⟨_, List.getElem?_eq_getElem (by rw [HN.out]; exact hlt)⟩
      have hrow := hrow0 k x hx
      have x0 : wr.cell? ⟨b, off + k * 3, none⟩ = some (.bool x.isText) := hrow.at_ 0 _ rfl
      have x1 : wr.cell? ⟨b, off + k * 3 + 1, none⟩ = some (.int .u64 (wd x.v)) := hrow.at_ 1 _ rfl
      have x2 : wr.cell? ⟨b, off + k * 3 + 2, none⟩ = some (.string x.s) := hrow.at_ 2 _ rfl
      have HE := Lib.hid (encs_take hx)
      have HSP := Lib.hid (congrArg List.length (encs_split hx))
      have hk1 : k + 1 ≤ N := hlt
      have hkb : (k : Int) + 1 ≤ 4611686018427387904 := by have := HLN.out; omega
      clear hrow0 hrow hx
      obtain ⟨bt, y, s⟩ := x
      dsimp only at x0 x1 x2
      have HX1 := Lib.hid x1
      have hle1 : (encs (xs.take k)).length + (encI ⟨bt, y, s⟩).length + 20 ≤ 140737488355328 := by
        have h1 := HSP.out
        have h2 := HSZ.out
        simp only [List.length_append] at h1
        omega
      have HL1 := Lib.hid hle1
      clear hle1
      cases bt with
      | true =>
        have hle2 : (encs (xs.take k)).length + 10 + s.size ≤ 140737488355328 := by
          have h1 := HL1.out
          have hl : s.data.toList.length = s.size := by rw [Array.length_toList]; rfl
          rw [encI_text, List.length_append, hl] at h1
          omega
        have HL2 := Lib.hid hle2
        clear hle2
        go_wp2_with (go_at_call 44; fail)
        refine (text_w w.heap.size v _ s HL2.out wr HW.out).mono ?_
        rintro e w2 ⟨rfl, v2, h1, h2⟩
        have K1 := Lib.hid h1
        have K2 := Lib.hid h2
        clear h1 h2
        go_wp2
        go_roundw
        case rel => exact ⟨k + 1, v2, hk1, rfl, by rw [HE.out, encI_text]; exact K1.out, HBEL.out.trans K2.out⟩
        case measure => simp only [intOf]; omega
      | false =>
        have hle2 : (encs (xs.take k)).length + 10 ≤ 140737488355328 := by
          have h1 := HL1.out
          omega
        have HL2 := Lib.hid hle2
        clear hle2
        go_wp2_with (go_at_call 46; fail)
        refine (num_w w.heap.size v _ y HL2.out wr HW.out).mono ?_
        rintro e w2 ⟨rfl, v2, h1, h2⟩
        have K1 := Lib.hid h1
        have K2 := Lib.hid (h2.below HW.out (Nat.le_refl _))
        clear h1 h2
        go_wp2
        go_roundw
        case rel => exact ⟨k + 1, v2, hk1, rfl, by rw [HE.out, encI_num]; exact K1.out, HBEL.out.trans K2.out⟩
        case measure => simp only [intOf]; omega
    · have hki : ¬ (k : Int) < (N : Int) := by omega
      have hkN : k = N := by omega
      have HKN := Lib.hid hkN
      clear hkN
      go_wp2_with (go_at_call 42; fail)
      have hwf := HW.out
      rw [HKN.out, ← HN.out, List.take_length] at hwf
      refine (bytes_w w.heap.size v _ (by have := HSZ.out; omega) wr hwf).mono ?_
      rintro e w2 ⟨v2, rfl, h1, h2⟩
      have K1 := Lib.hid h1
      have K2 := Lib.hid h2
      clear h1 h2 hwf
      go_wp2
      go_ret
      exact ⟨v2, rfl, own_low K1.out HBEL.out.size, HBEL.out.trans (K2.out.mono HBEL.out.size)⟩
end Go.Proofs.YtpdpdojaaaipcaaDoor
