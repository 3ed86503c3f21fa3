/-
  The audit: frees, as the code has it.
-/
import Derived.Test.YtahcedpfnechfaaDoorAudR
namespace Go.Proofs.YtahcedpfnechfaaDoor
set_option maxRecDepth 100000
open Go.RowKit Go.Sort

def bareB (s : SlotV) : Bool := !s.used && !s.dead && decide (s.kids = -1 ∧ s.prev = -1 ∧ s.next = -1 ∧ s.slot = 0 ∧ s.birth = 0 ∧ s.upSlot = 0 ∧ s.upBirth = 0 ∧ s.kind = 0 ∧ s.user.toList = [] ∧ s.label.toList = [] ∧ s.scopes = 0 ∧ s.level = 0 ∧ s.born = 0 ∧ s.deadline = 0 ∧ s.depth = 0)
set_option maxHeartbeats 4000000 in
theorem neq_bare (s : SlotV) (w : World) : (binOp .neq 49 (.agg s.cells) (.agg SlotV.bare.cells)).run Tryd.prog w = .ok (.bool (!bareB s)) w := by
  unfold SlotV.cells SlotV.bare
  simp only [bareB]
  simp [go_sem]
  by_cases hu : s.used = true
  · simp [hu]
  by_cases hd : s.dead = true
  · simp [hu, hd]
  rw [if_neg hu, if_neg hd]
  by_cases h0 : s.kids = -1
  case neg => rw [if_neg h0]; simp [h0]
  rw [if_pos h0]
  by_cases h1 : s.prev = -1
  case neg => rw [if_neg h1]; simp [h1]
  rw [if_pos h1]
  by_cases h2 : s.next = -1
  case neg => rw [if_neg h2]; simp [h2]
  rw [if_pos h2]
  by_cases h3 : s.slot = 0
  case neg => rw [if_neg h3]; simp [h3]
  rw [if_pos h3]
  by_cases h4 : s.birth = 0
  case neg => rw [if_neg h4]; simp [h4]
  rw [if_pos h4]
  by_cases h5 : s.upSlot = 0
  case neg => rw [if_neg h5]; simp [h5]
  rw [if_pos h5]
  by_cases h6 : s.upBirth = 0
  case neg => rw [if_neg h6]; simp [h6]
  rw [if_pos h6]
  by_cases h7 : s.kind = 0
  case neg => rw [if_neg h7]; simp [h7]
  rw [if_pos h7]
  by_cases h8 : s.user.toList = []
  case neg => rw [if_neg h8]; simp [h8]
  rw [if_pos h8]
  by_cases h9 : s.label.toList = []
  case neg => rw [if_neg h9]; simp [h9]
  rw [if_pos h9]
  by_cases h10 : s.scopes = 0
  case neg => rw [if_neg h10]; simp [h10]
  rw [if_pos h10]
  by_cases h11 : s.level = 0
  case neg => rw [if_neg h11]; simp [h11]
  rw [if_pos h11]
  by_cases h12 : s.born = 0
  case neg => rw [if_neg h12]; simp [h12]
  rw [if_pos h12]
  by_cases h13 : s.deadline = 0
  case neg => rw [if_neg h13]; simp [h13]
  rw [if_pos h13]
  by_cases h14 : s.depth = 0
  case neg => rw [if_neg h14]; simp [h14]
  rw [if_pos h14]
  simp [hu, hd, h0, h1, h2, h3, h4, h5, h6, h7, h8, h9, h10, h11, h12, h13, h14]
/-- The free ones are marked. -/
def freesGo (d : DumpV) : List Int → List Int → Option Int × List Int
  | [], M => (none, M)
  | i :: l, M => if inR i = false ∨ M.getD i.toNat 0 ≠ 0 ∨ bareB (d.at_ i) = false then (some (placeI i), M) else freesGo d l (M.set i.toNat 1)
theorem freesGo_len (d : DumpV) : ∀ (l M : List Int), M.length = 32 → (freesGo d l M).2.length = 32
  | [], M, h => h
  | i :: l, M, h => by
    unfold freesGo
    split
    · exact h
    · exact freesGo_len d l _ (by rw [List.length_set]; exact h)
set_option maxHeartbeats 16000000 in
theorem cfrees_any (d : DumpV) (hd : d.slots.length = 32) (L : Nat) (As : Option Addr) (cs : Nat) (Af : Option Addr) (cf : Nat) (nf : Nat) (hnf : d.free.length = nf) (hnm : nf ≤ maxLen) (M : List Int) (w : World) (h : LookAt w L 58 [] d As cs Af cf M) :
    Calls Tryd.prog 39 #[.pointer (some ⟨L, 0, none⟩)] w (RetRing L 58 d As cs Af cf (freesGo d d.free M) w) := by
  have hnm' : (nf : Int) ≤ 9223372036854775807 := by unfold maxLen at hnm; omega
  have HU := Lib.hid Tryd.underlying49
  have H := Lib.hid h
  have HL := h.blk.lt
  have HD := Lib.hid hd
  have HNF := Lib.hid hnf
  have l3 : w.cell? ⟨L, 3, none⟩ = some (.slice Af nf cf) := by
    have h9 := (h.blk.cell 3).trans (show _ = some (.slice Af d.free.length cf) from rfl)
    rwa [hnf] at h9
  clear h hd hnf
  obtain ⟨rr, hrr⟩ : ∃ rr, freesGo d d.free M = rr := ⟨_, rfl⟩
  have HRR := Lib.hid hrr
  rw [hrr]
  obtain ⟨sb, so, rfl, hsb, hsr⟩ := H.out.slots (by rw [HD.out]; omega)
  have hsbL : ¬ sb = L := H.out.ne.1 ⟨sb, so, none⟩ rfl
  have hLsb : ¬ L = sb := fun e => hsbL e.symm
  clear hrr hsr
  go_enter Tryd.func39, Tryd.ntmps39
  go_wp2
  go_loopw [11] (fun v wr => ∃ (k : Nat) (M2 : List Int), v = .int .i64 k ∧ k ≤ nf ∧ rr = freesGo d (d.free.drop k) M2 ∧ LookAt wr L 58 [] d (some ⟨sb, so, none⟩) cs Af cf M2 ∧ TnL L w wr) (fun v _ => nf - (intOf v).toNat)
  case atStart => exact ⟨0, M, rfl, Nat.zero_le _, HRR.out.symm, H.out, TnL.refl _ _⟩
  case round =>
    obtain ⟨k, M2, rfl, hk, hr2, h2, ht2⟩ := hrel
    have H2 := Lib.hid h2
    have T2 := Lib.hid ht2
    clear h2 ht2 l3
    by_cases hlt : k < nf
    · have hki : (k : Int) < (nf : Int) := by omega
      have hkz : (0 : Int) ≤ (k : Int) := by omega
      obtain ⟨x, hx⟩ : ∃ x, d.free[k]? = some x := ⟨_, List.getElem?_eq_getElem (by rw [HNF.out]; exact hlt)⟩
      have hdr : d.free.drop k = x :: d.free.drop (k + 1) := by
        rw [List.drop_eq_getElem_cons (by rw [HNF.out]; exact hlt)]
        congr 1
        rw [List.getElem?_eq_getElem (by rw [HNF.out]; exact hlt)] at hx
        exact Option.some.inj hx
      rw [hdr] at hr2
      unfold freesGo at hr2
      obtain ⟨fb, fo, rfl, hfb, hfr⟩ := H2.out.free (by rw [HNF.out]; omega)
      have cx := hfr k x hx
      have HR2 := Lib.hid hr2
      clear hr2 hdr hx hfr
      rcases inR_cases x with hi | hi
      · obtain ⟨j, rfl⟩ : ∃ j : Nat, x = (j : Int) := ⟨x.toNat, by have := inR_iff.1 hi; omega⟩
        have hj := inR_iff.1 hi
        have hj0 := hj.1
        have hj32 := hj.2
        have hjn : j < 32 := by omega
        obtain ⟨v, hv⟩ : ∃ v, M2[j]? = some v := ⟨_, List.getElem?_eq_getElem (by rw [H2.out.len]; exact hjn)⟩
        have hgd : M2.getD j 0 = v := by rw [List.getD_eq_getElem?_getD, hv]; rfl
        have cm := H2.out.mark hv
        have HV := Lib.hid hv
        have HPJ := Lib.hid (show placeI (j : Int) = j from if_pos hi)
        have cmr := cell_regrown cm
        have HQT := Lib.hid (fun (D : Nat) (os : Array Obj) => Calls.regrown_of (same_b (cthere_any (j : Int) (grow (redrawn wr D) os))))
        rw [hi] at HQT
        by_cases hv0 : v = 0
        · subst hv0
          obtain ⟨s, hs⟩ : ∃ s, d.slots[j]? = some s := ⟨_, List.getElem?_eq_getElem (by rw [HD.out]; exact hjn)⟩
          have z2 : wr.cell? ⟨L, 2, none⟩ = some (.slice (some ⟨sb, so, none⟩) 32 cs) := by
            have h9 := (H2.out.blk.cell 2).trans (show _ = some (.slice (some ⟨sb, so, none⟩) d.slots.length cs) from rfl)
            rwa [HD.out] at h9
          have z2r := cell_regrown z2
          have HRW := Lib.hid (show ∀ W, (∃ p : Regrown, W = grow (redrawn wr p.d) p.os) → RowAt W sb (so + j * 17) s.cells from by
            obtain ⟨b9, o9, e9, h9, r9⟩ := H2.out.slots (by rw [HD.out]; omega)
            cases e9
            exact (r9 j s hs).class_ h9)
          have HQB := Lib.hid (fun (D : Nat) (os : Array Obj) => Calls.regrown_of (cbare_any (grow (redrawn wr D) os)))
          rcases hb : bareB s with _ | _
          · have hneq := neq_bare s
            rw [hb] at hneq
            have HXX := Lib.hid (show rr = (some (j : Int), M2) from HR2.out.trans ((if_pos (.inr (.inr (by rw [DumpV.at_nat hs]; exact hb)))).trans (by rw [show placeI (j : Int) = j from if_pos hi])))
            clear hb hs hv hgd hi
            go_wp2
            refine wp_region_quiet_below (by kernel_rfl) (by kernel_rfl) ?_
            repeat (first
              | go_big_quiet_skip
              | (refine wpQuiet_load_at rfl rfl rfl HRW.out HU.out rfl slotInfo ?_; simp only [Act.put, List.setIfInBounds_toArray, List.set_cons_zero, List.set_cons_succ])
              | (go_big_quiet_want; go_big_quiet_op; first | go_big_quiet_on | go_big_quiet_call (with_reducible exact HQT.out _ _) | go_big_quiet_call (with_reducible exact HQB.out _ _)))
            refine wpQuiet_nil ?_
            intro w5 hC5
            have hb5 := below_class hC5
            have H5 := Lib.hid (H2.out.below hb5)
            have T5 := Lib.hid (T2.out.trans (TnL.below hb5))
            clear hC5
            go_wp2_with (go_at_call 54; fail)
            refine (cfault_any _ w5).mono ?_
            rintro e w' ⟨rfl, rfl⟩
            rw [HPJ.out]
            go_wp2
            go_ret
            rw [HXX.out]
            exact ⟨rfl, H5.out, T5.out⟩
          · have hneq := neq_bare s
            rw [hb] at hneq
            have HXX := Lib.hid (HR2.out.trans (if_neg (by rw [DumpV.at_nat hs, hb, hi, Int.toNat_natCast, hgd]; simp)))
            rw [Int.toNat_natCast] at HXX
            clear hb hs hv hgd hi
            go_wp2
            refine wp_region_quiet_below (by kernel_rfl) (by kernel_rfl) ?_
            repeat (first
              | go_big_quiet_skip
              | (refine wpQuiet_load_at rfl rfl rfl HRW.out HU.out rfl slotInfo ?_; simp only [Act.put, List.setIfInBounds_toArray, List.set_cons_zero, List.set_cons_succ])
              | (go_big_quiet_want; go_big_quiet_op; first | go_big_quiet_on | go_big_quiet_call (with_reducible exact HQT.out _ _) | go_big_quiet_call (with_reducible exact HQB.out _ _)))
            refine wpQuiet_nil ?_
            intro w5 hC5
            have hb5 := below_class hC5
            have H5 := Lib.hid (H2.out.below hb5)
            have T5 := Lib.hid (T2.out.trans (TnL.below hb5))
            clear hC5
            have c5 := H5.out.mark HV.out
            have f5 := H5.out.blk.frozen (6 + j)
            go_wp2
            go_roundw
            case rel => exact ⟨k + 1, M2.set j 1, by go_num, by omega, HXX.out, H5.out.set hjn 1, T5.out.trans (TnL.set L (6 + j) w5 _)⟩
            case measure => simp [intOf] <;> omega
        · have hvb : (v != 0) = true := by simp [hv0]
          have HXX := Lib.hid (show rr = (some (j : Int), M2) from HR2.out.trans ((if_pos (.inr (.inl (by rw [Int.toNat_natCast, hgd]; exact hv0)))).trans (by rw [show placeI (j : Int) = j from if_pos hi])))
          clear hv hgd hi
          go_wp2
          refine wp_region_quiet_below (by kernel_rfl) (by kernel_rfl) ?_
          repeat (first
            | go_big_quiet_skip
            | (go_big_quiet_want; go_big_quiet_op; first | go_big_quiet_on | go_big_quiet_call (with_reducible exact HQT.out _ _)))
          refine wpQuiet_nil ?_
          intro w5 hC5
          have hb5 := below_class hC5
          have H5 := Lib.hid (H2.out.below hb5)
          have T5 := Lib.hid (T2.out.trans (TnL.below hb5))
          clear hC5
          go_wp2_with (go_at_call 54; fail)
          refine (cfault_any _ w5).mono ?_
          rintro e w' ⟨rfl, rfl⟩
          rw [HPJ.out]
          go_wp2
          go_ret
          rw [HXX.out]
          exact ⟨rfl, H5.out, T5.out⟩
      · have HQT := Lib.hid (fun (D : Nat) (os : Array Obj) => Calls.regrown_of (same_b (cthere_any x (grow (redrawn wr D) os))))
        rw [hi] at HQT
        have HXX := Lib.hid (show rr = (some (-1), M2) from HR2.out.trans ((if_pos (.inl hi)).trans (by rw [show placeI x = -1 from if_neg (by rw [hi]; simp)])))
        have HPX := Lib.hid (show placeI x = -1 from if_neg (by rw [hi]; simp))
        clear hi
        go_wp2
        refine wp_region_quiet_below (by kernel_rfl) (by kernel_rfl) ?_
        repeat (first
          | go_big_quiet_skip
          | (go_big_quiet_want; go_big_quiet_op; first | go_big_quiet_on | go_big_quiet_call (with_reducible exact HQT.out _ _)))
        refine wpQuiet_nil ?_
        intro w5 hC5
        have hb5 := below_class hC5
        have H5 := Lib.hid (H2.out.below hb5)
        have T5 := Lib.hid (T2.out.trans (TnL.below hb5))
        clear hC5
        go_wp2_with (go_at_call 54; fail)
        refine (cfault_any _ w5).mono ?_
        rintro e w' ⟨rfl, rfl⟩
        rw [HPX.out]
        go_wp2
        go_ret
        rw [HXX.out]
        exact ⟨rfl, H5.out, T5.out⟩
    · obtain rfl : k = nf := by omega
      have hka : ¬ ((k : Int) < (k : Int)) := by omega
      have HXX := Lib.hid (show rr = (none, M2) by rw [hr2, List.drop_of_length_le (by rw [HNF.out]; exact Nat.le_refl _)]; rfl)
      clear hr2
      go_wp2
      go_ret
      rw [HXX.out]
      exact ⟨rfl, H2.out, T2.out⟩
end Go.Proofs.YtahcedpfnechfaaDoor
