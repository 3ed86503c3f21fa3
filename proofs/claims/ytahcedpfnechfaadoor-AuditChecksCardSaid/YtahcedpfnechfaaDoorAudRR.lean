/-
  The audit: the document's ring.
-/
import Derived.Test.YtahcedpfnechfaaDoorAudRM
namespace Go.Proofs.YtahcedpfnechfaaDoor
set_option maxRecDepth 100000
open Go.RowKit Go.Sort

def RetR (L : Nat) (d : DumpV) (As : Option Addr) (cs : Nat) (Af : Option Addr) (cf : Nat) (r : Option Int × List Int) (w : World) : Ending → World → Prop := fun e w' => e = .returned (.tuple #[]) ∧ RLook L d As cs Af cf r w' ∧ TnL L w w'
theorem RLook.wrong0 {L : Nat} {d : DumpV} {As : Option Addr} {cs : Nat} {Af : Option Addr} {cf : Nat} {r : Option Int × List Int} {w : World} (h : RLook L d As cs Af cf r w) (ho : r.1 = none) : w.cell? ⟨L, 38, none⟩ = some (.bool false) := LookAt.tail (j := 0) h (by rw [ho]; rfl)
theorem RLook.wrong1 {L : Nat} {d : DumpV} {As : Option Addr} {cs : Nat} {Af : Option Addr} {cf : Nat} {r : Option Int × List Int} {w : World} (h : RLook L d As cs Af cf r w) {a : Int} (ho : r.1 = some a) : w.cell? ⟨L, 38, none⟩ = some (.bool true) ∧ w.cell? ⟨L, 39, none⟩ = some (.int .i64 a) := ⟨LookAt.tail (j := 0) h (by rw [ho]; rfl), LookAt.tail (j := 1) h (by rw [ho]; rfl)⟩
theorem RLook.at0 {L : Nat} {d : DumpV} {As : Option Addr} {cs : Nat} {Af : Option Addr} {cf : Nat} {r : Option Int × List Int} {w : World} (h : RLook L d As cs Af cf r w) (ho : r.1 = none) : LookAt w L 28 (tR none) d As cs Af cf r.2 := by
  have h2 : LookAt w L 28 (tR r.1) d As cs Af cf r.2 := h
  rwa [ho] at h2
set_option maxHeartbeats 16000000 in
theorem rring_any (d : DumpV) (hd : d.slots.length = 32) (L : Nat) (As : Option Addr) (cs : Nat) (Af : Option Addr) (cf : Nat) (mark : Int) (hm : mark = 2 ∨ mark = 3) : ∀ (n : Nat) (last up : Int) (M : List Int) (w : World), unseen M < n → (up = -1 ∨ ∃ u : Nat, up = u ∧ u < 32) → RLook L d As cs Af cf (none, M) w →
    Calls Tryd.prog 20 #[.pointer (some ⟨L, 0, none⟩), .int .i64 last, .int .i64 up, .int .i64 mark] w (RetR L d As cs Af cf (ringTop d n last up mark M) w) := by
  intro n
  induction n using Nat.strongRecOn with
  | _ n ih =>
  intro last up M w hun hup h
  have hm0 : mark ≠ 0 := by omega
  have HIH := Lib.hid ih
  have H := Lib.hid h
  have h0 := h.at0 rfl
  have HL := h0.blk.lt
  have wr0 := h.wrong0 rfl
  have HUP := Lib.hid hup
  have HUN := Lib.hid hun
  have HM := Lib.hid hm
  have HD := Lib.hid hd
  clear ih h hup hun hm hd
  obtain ⟨rr, hrr⟩ : ∃ rr, ringTop d n last up mark M = rr := ⟨_, rfl⟩
  have HRR := Lib.hid hrr
  rw [hrr]
  clear hrr
  go_enter Tryd.func20, Tryd.ntmps20
  by_cases e0 : last = -1
  · have HX := Lib.hid (show rr = (none, M) from HRR.out.symm.trans (if_pos e0))
    subst e0
    clear h0
    go_wp2
    first | go_end0 | refine bodyPost_ret (results_none rfl _ _ _) rfl ?_
    rw [HX.out]
    exact ⟨rfl, H.out, TnL.refl _ _⟩
  · have HT := Lib.hid (rthere_any last w)
    rcases inR_cases last with hi | hi
    · have HX := Lib.hid (show rr = ringGo d n last last up mark M from HRR.out.symm.trans ((if_neg e0).trans (if_neg (by rw [hi]; simp))))
      rw [hi] at HT
      obtain ⟨sb, so, rfl, hsb, hsr⟩ := h0.slots (by rw [HD.out]; omega)
      have HLA := Lib.hid hi
      clear hi h0
      go_wp2_with (go_at_call 33; fail)
      refine HT.out.mono ?_
      rintro e w' ⟨rfl, rfl⟩
      clear wr0
      go_wp2
      go_loopw [8] (fun v wr => ∃ (n2 : Nat) (ahead : Int) (M2 : List Int), v = .int .i64 ahead ∧ inR ahead = true ∧ n2 ≤ n ∧ unseen M2 < n2 ∧ rr = ringGo d n2 ahead last up mark M2 ∧ RLook L d (some ⟨sb, so, none⟩) cs Af cf (none, M2) wr ∧ TnL L w wr) (fun _ wr => unseenW wr L)
      case atStart => exact ⟨n, last, M, rfl, HLA.out, Nat.le_refl _, HUN.out, HX.out, H.out, TnL.refl _ _⟩
      case round =>
        obtain ⟨n2, ahead, M2, rfl, ha, hn2, hu2, hr2, h2, ht2⟩ := hrel
        clear HX HT
        obtain ⟨m, rfl⟩ : ∃ m, n2 = m + 1 := ⟨n2 - 1, by omega⟩
        have HUW := Lib.hid (h2.at0 rfl).unseenW
        rw [ringGo_succ] at hr2
        obtain ⟨a, rfl⟩ : ∃ a : Nat, ahead = (a : Int) := ⟨ahead.toNat, by have := inR_iff.1 ha; omega⟩
        have ha2 := inR_iff.1 ha
        have ha0 := ha2.1
        have ha32 := ha2.2
        obtain ⟨s, hs⟩ : ∃ s, d.slots[a]? = some s := ⟨_, List.getElem?_eq_getElem (by rw [HD.out]; omega)⟩
        rw [DumpV.at_nat hs] at hr2
        have l2 : wr.cell? ⟨L, 2, none⟩ = some (.slice (some ⟨sb, so, none⟩) 32 cs) := by
          have h9 := ((h2.at0 rfl).blk.cell 2).trans (show _ = some (.slice (some ⟨sb, so, none⟩) d.slots.length cs) from rfl)
          rwa [HD.out] at h9
        have y4 : wr.cell? ⟨sb, so + a * 17 + 4, none⟩ = some (.int .i64 s.next) := by
          obtain ⟨b9, o9, e9, h9, r9⟩ := (h2.at0 rfl).slots (by rw [HD.out]; omega)
          cases e9
          exact ((r9 a s hs).at_ 4 _ rfl)
        generalize hnx : s.next = i at *
        have HMB := Lib.hid (rmember_any d i a up mark HUP.out HD.out L (some ⟨sb, so, none⟩) cs Af cf M2 wr h2)
        have H2 := Lib.hid h2
        have T2 := Lib.hid ht2
        have HR2 := Lib.hid hr2
        have HU2 := Lib.hid hu2
        have HN2 := Lib.hid hn2
        clear hs hnx ha ha2 h2 ht2 hr2 hu2 hn2 hsr
        rcases hmx : memberX d M2 i a up mark with _ | _
        · rw [hmx] at HMB
          have HXX := Lib.hid (show rr = (some (placeI i), M2) from HR2.out.trans (if_pos hmx))
          have HMR := Lib.hid (show memR d M2 i a up mark = (some (placeI i), M2) from if_neg (by rw [hmx]; simp))
          clear hmx
          go_wp2_with (go_at_call 36; fail)
          refine HMB.out.mono ?_
          rintro e w3 ⟨rfl, h3, t3⟩
          rw [HMR.out] at h3
          have H3 := Lib.hid h3
          have T3 := Lib.hid (T2.out.trans t3)
          clear h3 t3 l2 y4
          go_wp2
          first | go_end0 | refine bodyPost_ret (results_none rfl _ _ _) rfl ?_
          rw [HXX.out]
          exact ⟨rfl, H3.out, T3.out⟩
        · rw [hmx] at HMB
          obtain ⟨k, rfl, hk32, hk0⟩ := memberX_in (H2.out.at0 rfl).len hmx
          have HMR := Lib.hid (show memR d M2 k a up mark = (none, M2.set k mark) from if_pos hmx)
          have HXX := Lib.hid (HR2.out.trans (if_neg (by rw [hmx]; simp)))
          obtain ⟨sk, hsk⟩ : ∃ sk, d.slots[k]? = some sk := ⟨_, List.getElem?_eq_getElem (by rw [HD.out]; omega)⟩
          rw [DumpV.at_nat hsk, Int.toNat_natCast] at HXX
          have HUS := Lib.hid (unseen_set hk0 hm0)
          have hki : (k : Int) < 32 := by omega
          have hkz : (0 : Int) ≤ (k : Int) := by omega
          have HSK := Lib.hid hsk
          clear hmx hk0 hsk
          go_wp2_with (go_at_call 36; fail)
          refine HMB.out.mono ?_
          rintro e w4 ⟨rfl, h4, t4⟩
          rw [HMR.out] at h4
          have H4 := Lib.hid h4
          have T4 := Lib.hid (T2.out.trans t4)
          have h40 := h4.at0 rfl
          have z2 : w4.cell? ⟨L, 2, none⟩ = some (.slice (some ⟨sb, so, none⟩) 32 cs) := by
            have h9 := (h40.blk.cell 2).trans (show _ = some (.slice (some ⟨sb, so, none⟩) d.slots.length cs) from rfl)
            rwa [HD.out] at h9
          have z4 : w4.cell? ⟨sb, so + k * 17 + 2, none⟩ = some (.int .i64 sk.kids) := by
            obtain ⟨b9, o9, e9, h9, r9⟩ := h40.slots (by rw [HD.out]; omega)
            cases e9
            exact ((r9 k sk HSK.out).at_ 2 _ rfl)
          have HREC := Lib.hid (HIH.out m (by have := HN2.out; omega) sk.kids k (M2.set k mark) w4 (by have := HUS.out; have := HU2.out; omega) (.inr ⟨k, rfl, hk32⟩) h4)
          have HTS := Lib.hid (top_sane d m sk.kids k mark (M2.set k mark) hm0 h40.len)
          generalize hrt : ringTop d m sk.kids k mark (M2.set k mark) = rt at *
          clear h4 t4 h40 l2 y4 hrt
          go_wp2_with (go_at_call 20; fail)
          refine HREC.out.mono ?_
          rintro e w5 ⟨rfl, h5, ht5⟩
          have H5 := Lib.hid h5
          have T5 := Lib.hid (T4.out.trans ht5)
          rcases ho : rt.1 with _ | a1
          · rw [ho] at HXX
            have cw := h5.wrong0 ho
            have HRT := Lib.hid (show rt = (none, rt.2) from Prod.ext ho rfl)
            have HO := Lib.hid ho
            clear h5 ht5 ho z2 z4
            by_cases hl : (k : Int) = last
            · have HYY := Lib.hid (HXX.out.trans ((if_pos rfl).trans (if_pos hl)))
              subst hl
              go_wp2
              first | go_end0 | refine bodyPost_ret (results_none rfl _ _ _) rfl ?_
              rw [HYY.out, ← HRT.out]
              exact ⟨rfl, H5.out, T5.out⟩
            · have HYY := Lib.hid (HXX.out.trans ((if_pos rfl).trans (if_neg hl)))
              go_wp2
              go_roundw
              case rel => exact ⟨m, k, rt.2, rfl, inR_nat hk32, by have := HN2.out; omega, by have := HUS.out; have := HU2.out; have := HTS.out.2; omega, HYY.out, by rw [← HRT.out]; exact H5.out, T5.out⟩
              case measure =>
                rw [(H5.out.at0 HO.out).unseenW, HUW.out]
                have := HUS.out; have := HTS.out.2; omega
          · rw [ho] at HXX
            have HYY := Lib.hid (HXX.out.trans (if_neg (by simp)))
            have cw := (h5.wrong1 ho).1
            clear h5 ht5 ho z2 z4
            go_wp2
            first | go_end0 | refine bodyPost_ret (results_none rfl _ _ _) rfl ?_
            rw [HYY.out]
            exact ⟨rfl, H5.out, T5.out⟩
    · have HX := Lib.hid (show rr = (some (-1), M) from HRR.out.symm.trans ((if_neg e0).trans (if_pos hi)))
      have HP := Lib.hid (show placeI last = -1 from if_neg (by rw [hi]; simp))
      have HF := Lib.hid (rfault_any d L As cs Af cf M last w H.out)
      rw [hi] at HT
      clear hi h0
      go_wp2_with (go_at_call 33; fail)
      refine HT.out.mono ?_
      rintro e w' ⟨rfl, rfl⟩
      go_wp2_with (go_at_call 35; fail)
      refine HF.out.mono ?_
      rintro e w3 ⟨rfl, h3, t3⟩
      rw [HP.out] at h3
      have H3 := Lib.hid h3
      have T3 := Lib.hid t3
      clear h3 t3 wr0
      go_wp2
      first | go_end0 | refine bodyPost_ret (results_none rfl _ _ _) rfl ?_
      rw [HX.out]
      exact ⟨rfl, H3.out, T3.out⟩
end Go.Proofs.YtahcedpfnechfaaDoor
