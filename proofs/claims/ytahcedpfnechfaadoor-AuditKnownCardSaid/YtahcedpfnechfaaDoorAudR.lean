/-
  The audit: ring, as the code has it.
-/
import Derived.Test.YtahcedpfnechfaaDoorAudP
namespace Go.Proofs.YtahcedpfnechfaaDoor
set_option maxRecDepth 100000
open Go.RowKit Go.Sort

/-- Since w nothing but the block L has turned. -/
def TnL (L : Nat) (w w' : World) : Prop := w'.os = w.os ∧ w'.tape = w.tape ∧ w'.output = w.output ∧ w.heap.size ≤ w'.heap.size ∧ ∀ k, k < w.heap.size → k ≠ L → w'.heap[k]? = w.heap[k]?
theorem TnL.refl (L : Nat) (w : World) : TnL L w w := ⟨rfl, rfl, rfl, Nat.le_refl _, fun _ _ _ => rfl⟩
theorem TnL.trans {L : Nat} {w w1 w2 : World} (h : TnL L w w1) (k : TnL L w1 w2) : TnL L w w2 :=
  ⟨k.1.trans h.1, k.2.1.trans h.2.1, k.2.2.1.trans h.2.2.1, Nat.le_trans h.2.2.2.1 k.2.2.2.1, fun j h1 h2 => (k.2.2.2.2 j (Nat.lt_of_lt_of_le h1 h.2.2.2.1) h2).trans (h.2.2.2.2 j h1 h2)⟩
theorem TnL.below {L : Nat} {w w1 : World} (h : Below w.heap.size w w1) : TnL L w w1 := ⟨h.os, h.tape, h.output, h.size, fun j h1 _ => h.block j h1⟩
theorem TnL.set (L o : Nat) (w : World) (v : Value) : TnL L w (w.setCell ⟨L, o, none⟩ v) := ⟨rfl, rfl, rfl, by simp, fun j _ h2 => Below.heap_setCell w ⟨L, o, none⟩ v j h2⟩
theorem TnL.toBelow {L B : Nat} {w w1 : World} (h : TnL L w w1) (hL : B ≤ L) (hB : B ≤ w.heap.size) : Below B w w1 := ⟨h.1, h.2.1, h.2.2.1, h.2.2.2.1, fun j hj => h.2.2.2.2 j (by omega) (by omega)⟩
theorem cfault_any (i : Int) (w : World) : Calls Tryd.prog 54 #[.int .i64 i] w (RetSame (faultV 24 (placeI i)) w) := by
  have HT := Lib.hid (cthere_any i w)
  unfold faultV
  rcases inR_cases i with hi | hi
  · have HP := Lib.hid (show placeI i = i from if_pos hi)
    rw [hi] at HT
    rw [HP.out]
    clear hi HP
    go_enter Tryd.func54, Tryd.ntmps54
    go_wp2_with (go_at_call 52; fail)
    refine HT.out.mono ?_
    rintro e w' ⟨rfl, rfl⟩
    go_wp2
    go_ret
    exact ⟨rfl, rfl⟩
  · have HP := Lib.hid (show placeI i = -1 from if_neg (by rw [hi]; simp))
    rw [hi] at HT
    rw [HP.out]
    clear hi HP
    go_enter Tryd.func54, Tryd.ntmps54
    go_wp2_with (go_at_call 52; fail)
    refine HT.out.mono ?_
    rintro e w' ⟨rfl, rfl⟩
    go_wp2
    go_ret
    exact ⟨rfl, rfl⟩
/-- What ring hands back, over these marks. -/
def RetRing (L : Nat) (ty : TypeId) (d : DumpV) (As : Option Addr) (cs : Nat) (Af : Option Addr) (cf : Nat) (r : Option Int × List Int) (w : World) : Ending → World → Prop := fun e w' => e = .returned (outV r.1) ∧ LookAt w' L ty [] d As cs Af cf r.2 ∧ TnL L w w'
theorem faultV_neq (a : Int) (w : World) : (binOp .neq 35 (faultV 24 a) .nilIface).run Tryd.prog w = .ok (.bool true) w := by unfold faultV; kernel_rfl
theorem faultV_grd (a : Int) (x y : Operand) (w : World) : (eqGuard .neq 35 x y (faultV 24 a) .nilIface).run Tryd.prog w = .ok () w := by unfold faultV; kernel_rfl
theorem nilV_neq (w : World) : (binOp .neq 35 .nilIface .nilIface).run Tryd.prog w = .ok (.bool false) w := by kernel_rfl
set_option maxHeartbeats 16000000 in
theorem cring_any (d : DumpV) (hd : d.slots.length = 32) (L : Nat) (As : Option Addr) (cs : Nat) (Af : Option Addr) (cf : Nat) (mark : Int) (hm : mark = 2 ∨ mark = 3) : ∀ (n : Nat) (last up : Int) (M : List Int) (w : World), unseen M < n → (up = -1 ∨ ∃ u : Nat, up = u ∧ u < 32) → LookAt w L 58 [] d As cs Af cf M →
    Calls Tryd.prog 40 #[.pointer (some ⟨L, 0, none⟩), .int .i64 last, .int .i64 up, .int .i64 mark] w (RetRing L 58 d As cs Af cf (ringTop d n last up mark M) w) := by
  intro n
  induction n using Nat.strongRecOn with
  | _ n ih =>
  intro last up M w hun hup h
  have hneq := faultV_neq
  have hgrd := faultV_grd
  have hnil := nilV_neq
  have hm0 : mark ≠ 0 := by omega
  have HIH := Lib.hid ih
  have H := Lib.hid h
  have HL := h.blk.lt
  have HUP := Lib.hid hup
  have HUN := Lib.hid hun
  have HM := Lib.hid hm
  have HD := Lib.hid hd
  clear ih h hup hun hm hd
  obtain ⟨rr, hrr⟩ : ∃ rr, ringTop d n last up mark M = rr := ⟨_, rfl⟩
  have HRR := Lib.hid hrr
  rw [hrr]
  clear hrr
  go_enter Tryd.func40, Tryd.ntmps40
  go_wp2
  refine wp_scope_straight ?_
  by_cases e0 : last = -1
  · have HX := Lib.hid (show rr = (none, M) from HRR.out.symm.trans (if_pos e0))
    subst e0
    go_wp2
    rw [Exit.noGoto_ret]
    go_ret
    rw [HX.out]
    exact ⟨rfl, H.out, TnL.refl _ _⟩
  · have HT := Lib.hid (cthere_any last w)
    rcases inR_cases last with hi | hi
    · have HX := Lib.hid (show rr = ringGo d n last last up mark M from HRR.out.symm.trans ((if_neg e0).trans (if_neg (by rw [hi]; simp))))
      rw [hi] at HT
      obtain ⟨sb, so, rfl, hsb, hsr⟩ := H.out.slots (by rw [HD.out]; omega)
      have HLA := Lib.hid hi
      clear hi
      go_wp2_with (go_at_call 52; fail)
      refine HT.out.mono ?_
      rintro e w' ⟨rfl, rfl⟩
      go_wp2
      refine wp_label ?_
      go_wp2
      go_loopw [9] (fun v wr => ∃ (n2 : Nat) (ahead : Int) (M2 : List Int), v = .int .i64 ahead ∧ inR ahead = true ∧ n2 ≤ n ∧ unseen M2 < n2 ∧ rr = ringGo d n2 ahead last up mark M2 ∧ LookAt wr L 58 [] d (some ⟨sb, so, none⟩) cs Af cf M2 ∧ TnL L w wr) (fun _ wr => unseenW wr L)
      case atStart => exact ⟨n, last, M, rfl, HLA.out, Nat.le_refl _, HUN.out, HX.out, H.out, TnL.refl _ _⟩
      case round =>
        obtain ⟨n2, ahead, M2, rfl, ha, hn2, hu2, hr2, h2, ht2⟩ := hrel
        clear HX HT
        obtain ⟨m, rfl⟩ : ∃ m, n2 = m + 1 := ⟨n2 - 1, by omega⟩
        have HUW := Lib.hid h2.unseenW
        rw [ringGo_succ] at hr2
        obtain ⟨a, rfl⟩ : ∃ a : Nat, ahead = (a : Int) := ⟨ahead.toNat, by have := inR_iff.1 ha; omega⟩
        have ha2 := inR_iff.1 ha
        have ha0 := ha2.1
        have ha32 := ha2.2
        obtain ⟨s, hs⟩ : ∃ s, d.slots[a]? = some s := ⟨_, List.getElem?_eq_getElem (by rw [HD.out]; omega)⟩
        rw [DumpV.at_nat hs] at hr2
        have l2 : wr.cell? ⟨L, 2, none⟩ = some (.slice (some ⟨sb, so, none⟩) 32 cs) := by
          have h9 := (h2.blk.cell 2).trans (show _ = some (.slice (some ⟨sb, so, none⟩) d.slots.length cs) from rfl)
          rwa [HD.out] at h9
        have y4 : wr.cell? ⟨sb, so + a * 17 + 4, none⟩ = some (.int .i64 s.next) := by
          obtain ⟨b9, o9, e9, h9, r9⟩ := h2.slots (by rw [HD.out]; omega)
          cases e9
          exact ((r9 a s hs).at_ 4 _ rfl)
        generalize hnx : s.next = i at *
        have HMB := Lib.hid (cmember_any d i a up mark HUP.out HD.out L (some ⟨sb, so, none⟩) cs Af cf M2 wr h2)
        have H2 := Lib.hid h2
        have T2 := Lib.hid ht2
        have HR2 := Lib.hid hr2
        have HU2 := Lib.hid hu2
        have HN2 := Lib.hid hn2
        clear hs hnx ha ha2 h2 ht2 hr2 hu2 hn2 hsr
        rcases hmx : memberX d M2 i a up mark with _ | _
        · rw [hmx] at HMB
          have HXX := Lib.hid (show rr = (some (placeI i), M2) from HR2.out.trans (if_pos hmx))
          clear hmx
          go_wp2_with (go_at_call 55; fail)
          refine HMB.out.mono ?_
          rintro e w3 ⟨rfl, hb3⟩
          have H3 := Lib.hid (H2.out.below hb3)
          have T3 := Lib.hid (T2.out.trans (TnL.below hb3))
          clear hb3 l2 y4
          go_wp2_with (go_at_call 54; fail)
          refine (cfault_any i w3).mono ?_
          rintro e w' ⟨rfl, rfl⟩
          go_wp2
          rw [Exit.noGoto_ret]
          go_ret
          rw [HXX.out]
          exact ⟨rfl, H3.out, T3.out⟩
        · rw [hmx] at HMB
          obtain ⟨k, rfl, hk32, hk0⟩ := memberX_in H2.out.len hmx
          have HXX := Lib.hid (HR2.out.trans (if_neg (by rw [hmx]; simp)))
          obtain ⟨sk, hsk⟩ : ∃ sk, d.slots[k]? = some sk := ⟨_, List.getElem?_eq_getElem (by rw [HD.out]; omega)⟩
          rw [DumpV.at_nat hsk, Int.toNat_natCast] at HXX
          have HUS := Lib.hid (unseen_set hk0 hm0)
          have hki : (k : Int) < 32 := by omega
          have hkz : (0 : Int) ≤ (k : Int) := by omega
          have HSK := Lib.hid hsk
          have HK0 := Lib.hid hk0
          clear hmx hk0 hsk
          go_wp2_with (go_at_call 55; fail)
          refine HMB.out.mono ?_
          rintro e w3 ⟨rfl, hb3⟩
          have hL3 : L < w3.heap.size := (H2.out.below hb3).blk.lt
          have hf3 := (H2.out.below hb3).blk.frozen (6 + k)
          have hc3 := (H2.out.below hb3).mark HK0.out
          obtain ⟨w4, hw4⟩ : ∃ w4, w3.setCell ⟨L, 6 + k, none⟩ (.int .i64 mark) = w4 := ⟨_, rfl⟩
          have H4 := Lib.hid (show LookAt w4 L 58 [] d (some ⟨sb, so, none⟩) cs Af cf (M2.set k mark) by rw [← hw4]; exact (H2.out.below hb3).set hk32 mark)
          have T4 := Lib.hid (show TnL L w w4 by rw [← hw4]; exact (T2.out.trans (TnL.below hb3)).trans (TnL.set L _ w3 _))
          have z2 : w3.cell? ⟨L, 2, none⟩ = some (.slice (some ⟨sb, so, none⟩) 32 cs) := (hb3.cell (p := ⟨L, 2, none⟩) H2.out.blk.lt).trans l2
          have hsb3 := H2.out.slots (by rw [HD.out]; omega)
          have z4 : w3.cell? ⟨sb, so + k * 17 + 2, none⟩ = some (.int .i64 sk.kids) := by
            obtain ⟨b9, o9, e9, h9, r9⟩ := hsb3
            cases e9
            exact (hb3.cell (p := ⟨sb, so + k * 17 + 2, none⟩) h9).trans ((r9 k sk HSK.out).at_ 2 _ rfl)
          have hsbL : ¬ sb = L := H2.out.ne.1 ⟨sb, so, none⟩ rfl
          have hLsb : ¬ L = sb := fun e => hsbL e.symm
          have h62 : ¬ (2 = 6 + k) := by omega
          have h62' : ¬ (6 + k = 2) := by omega
          have HREC := Lib.hid (HIH.out m (by have := HN2.out; omega) sk.kids k (M2.set k mark) w4 (by have := HUS.out; have := HU2.out; omega) (.inr ⟨k, rfl, hk32⟩) H4.out)
          have HTS := Lib.hid (top_sane d m sk.kids k mark (M2.set k mark) hm0 H4.out.len)
          generalize hrt : ringTop d m sk.kids k mark (M2.set k mark) = rt at *
          have HW4 := Lib.hid hw4
          clear hw4 hb3 l2 y4 hrt hsb3
          go_wp2_with (go_at_call 40; fail)
          rw [HW4.out]
          refine HREC.out.mono ?_
          rintro e w5 ⟨rfl, h5, ht5⟩
          have H5 := Lib.hid h5
          have T5 := Lib.hid (T4.out.trans ht5)
          clear h5 ht5
          rcases ho : rt.1 with _ | a1
          · rw [ho] at HXX
            have hov : outV none = .nilIface := rfl
            rw [hov]
            by_cases hl : (k : Int) = last
            · have HYY := Lib.hid (HXX.out.trans ((if_pos rfl).trans (if_pos hl)))
              subst hl
              go_wp2
              rw [Exit.noGoto_ret]
              go_ret
              rw [HYY.out]
              exact ⟨rfl, H5.out, T5.out⟩
            · have HYY := Lib.hid (HXX.out.trans ((if_pos rfl).trans (if_neg hl)))
              go_wp2
              go_roundw
              case rel => exact ⟨m, k, rt.2, rfl, inR_nat hk32, by have := HN2.out; omega, by have := HUS.out; have := HU2.out; have := HTS.out.2; omega, HYY.out, H5.out, T5.out⟩
              case measure =>
                rw [H5.out.unseenW, HUW.out]
                have := HUS.out; have := HTS.out.2; omega
          · rw [ho] at HXX
            have HYY := Lib.hid (HXX.out.trans (if_neg (by simp)))
            have hov : outV (some a1) = faultV 24 a1 := rfl
            rw [hov]
            have HO := Lib.hid ho
            clear ho
            go_wp2
            rw [Exit.noGoto_ret]
            go_ret
            rw [HYY.out]
            exact ⟨by rw [HO.out]; rfl, H5.out, T5.out⟩
    · have HX := Lib.hid (show rr = (some (-1), M) from HRR.out.symm.trans ((if_neg e0).trans (if_pos hi)))
      have HP := Lib.hid (show placeI last = -1 from if_neg (by rw [hi]; simp))
      rw [hi] at HT
      clear hi
      go_wp2_with (go_at_call 52; fail)
      refine HT.out.mono ?_
      rintro e w' ⟨rfl, rfl⟩
      go_wp2_with (go_at_call 54; fail)
      refine (cfault_any last _).mono ?_
      rintro e w' ⟨rfl, rfl⟩
      go_wp2
      rw [Exit.noGoto_ret]
      go_ret
      rw [HX.out, HP.out]
      exact ⟨rfl, H.out, TnL.refl _ _⟩
end Go.Proofs.YtahcedpfnechfaaDoor
