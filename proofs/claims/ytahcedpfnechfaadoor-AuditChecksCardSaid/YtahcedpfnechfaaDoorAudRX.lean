/-
  The audit: the document's rest.
-/
import Derived.Test.YtahcedpfnechfaaDoorAudRFr
namespace Go.Proofs.YtahcedpfnechfaaDoor
set_option maxRecDepth 100000
open Go.RowKit Go.Sort

theorem RLook.below {L : Nat} {d : DumpV} {As : Option Addr} {cs : Nat} {Af : Option Addr} {cf : Nat} {r : Option Int × List Int} {w w' : World} (h : RLook L d As cs Af cf r w) (hb : Below w.heap.size w w') : RLook L d As cs Af cf r w' := LookAt.below h hb
set_option maxHeartbeats 16000000 in
theorem rrest_any (d : DumpV) (hd : d.slots.length = 32) (L : Nat) (As : Option Addr) (cs : Nat) (Af : Option Addr) (cf : Nat) (M : List Int) (hM : MOk M) (w : World) (h : RLook L d As cs Af cf (none, M) w) :
    Calls Tryd.prog 21 #[.pointer (some ⟨L, 0, none⟩)] w (RetR L d As cs Af cf (restX d M, M) w) := by
  have H := Lib.hid h
  have HD := Lib.hid hd
  have HMO := Lib.hid hM
  have HLEN := Lib.hid (h.at0 rfl).len
  obtain ⟨sb, so, rfl, hsb, hsr⟩ := (h.at0 rfl).slots (by omega)
  obtain ⟨rr, hrr⟩ : ∃ rr, restX d M = rr := ⟨_, rfl⟩
  have HRR := Lib.hid hrr
  rw [hrr]
  clear h hd hrr hsr hM
  go_enter Tryd.func21, Tryd.ntmps21
  go_wp2
  go_loopw [2] (fun v wr => ∃ i : Nat, v = .int .i64 i ∧ i ≤ 32 ∧ (∀ j, j < i → mk M j ≠ 0) ∧ w = wr) (fun v _ => 32 - (intOf v).toNat)
  case atStart => exact ⟨0, rfl, Nat.zero_le _, fun j hj => absurd hj (Nat.not_lt_zero _), rfl⟩
  case round =>
    obtain ⟨i, rfl, hi, hno, rfl⟩ := hrel
    have HNO := Lib.hid hno
    clear hno
    by_cases hlt : i < 32
    · have hii : (i : Int) < 32 := by omega
      have hiz : (0 : Int) ≤ (i : Int) := by omega
      obtain ⟨v, hv⟩ : ∃ v, M[i]? = some v := ⟨_, List.getElem?_eq_getElem (by rw [HLEN.out]; exact hlt)⟩
      have cm := (H.out.at0 rfl).mark hv
      have HMK := Lib.hid (mk_at hv)
      clear hv
      by_cases hv0 : v = 0
      · have HXX := Lib.hid (show rr = some (i : Int) from HRR.out.symm.trans (restX_un hlt (HMK.out.trans hv0) HNO.out))
        subst hv0
        go_wp2_with (go_at_call 35; fail)
        refine (rfault_any d L _ cs _ cf M _ w H.out).mono ?_
        rintro e w6 ⟨rfl, h6, t6⟩
        rw [show placeI (i : Int) = i from if_pos (inR_nat hlt)] at h6
        have H6 := Lib.hid h6
        have T6 := Lib.hid t6
        clear h6 t6
        go_wp2
        first | go_end0 | refine bodyPost_ret (results_none rfl _ _ _) rfl ?_
        rw [HXX.out]
        exact ⟨rfl, H6.out, T6.out⟩
      · have HN2 := Lib.hid (show ∀ j, j < i + 1 → mk M j ≠ 0 from fun j hj => by
          rcases Nat.lt_or_ge j i with h1 | h1
          · exact HNO.out j h1
          · obtain rfl : j = i := by omega
            rw [HMK.out]; exact hv0)
        go_wp2
        go_roundw
        case rel => exact ⟨i + 1, by go_num, by omega, HN2.out, by trivial⟩
        case measure => simp [intOf] <;> omega
    · obtain rfl : i = 32 := by omega
      go_wp2
      go_loopw [3] (fun v wz => ∃ i : Nat, v = .int .i64 i ∧ i ≤ 32 ∧ (∀ j, j < i → mk M j = 1 ∨ clash d M j j = false) ∧ Below w.heap.size w wz) (fun v _ => 32 - (intOf v).toNat)
      case atStart => exact ⟨0, rfl, Nat.zero_le _, fun j hj => absurd hj (Nat.not_lt_zero _), Below.refl _ _⟩
      case round =>
        obtain ⟨i, rfl, hi2, hcl, hbe⟩ := hrel
        have HCL := Lib.hid hcl
        have HBE := Lib.hid hbe
        clear hcl hbe
        by_cases hlt2 : i < 32
        · have hii : (i : Int) < 32 := by omega
          have hiz : (0 : Int) ≤ (i : Int) := by omega
          obtain ⟨v, hv⟩ : ∃ v, M[i]? = some v := ⟨_, List.getElem?_eq_getElem (by rw [HLEN.out]; exact hlt2)⟩
          have HV := Lib.hid hv
          have HMK := Lib.hid (mk_at hv)
          have hvr := HMO.out i v hv
          have hvn : v ≠ 0 := fun e => HNO.out i hlt2 (HMK.out.trans e)
          obtain ⟨s, hs⟩ : ∃ s, d.slots[i]? = some s := ⟨_, List.getElem?_eq_getElem (by rw [HD.out]; exact hlt2)⟩
          have HBI := Lib.hid (show birthAt d i = s.birth by unfold birthAt; rw [DumpV.at_nat hs])
          have HS := Lib.hid hs
          clear hv hs
          go_wp2
          go_loopw [4] (fun v wy => ∃ k : Nat, v = .int .i64 k ∧ k ≤ i ∧ (mk M i = 1 ∨ clash d M i k = false) ∧ Below w.heap.size w wy) (fun v _ => i - (intOf v).toNat)
          case atStart => exact ⟨0, rfl, Nat.zero_le _, .inr rfl, HBE.out⟩
          case round =>
            obtain ⟨k, rfl, hk, hck, hby⟩ := hrel
            have HY := Lib.hid hby
            have HCK0 := Lib.hid hck
            have H3 := Lib.hid (H.out.below hby)
            clear hby hck
            by_cases hki : k < i
            · have hkii : (k : Int) < (i : Int) := by omega
              have hkz : (0 : Int) ≤ (k : Int) := by omega
              have hk32 : (k : Int) < 32 := by omega
              obtain ⟨u, hu⟩ : ∃ u, M[k]? = some u := ⟨_, List.getElem?_eq_getElem (by rw [HLEN.out]; omega)⟩
              obtain ⟨sk, hsk⟩ : ∃ sk, d.slots[k]? = some sk := ⟨_, List.getElem?_eq_getElem (by rw [HD.out]; omega)⟩
              have cu := (H3.out.at0 rfl).mark hu
              have cv := (H3.out.at0 rfl).mark HV.out
              have z2 : wr.cell? ⟨L, 2, none⟩ = some (.slice (some ⟨sb, so, none⟩) 32 cs) := by
                have h9 := ((H3.out.at0 rfl).blk.cell 2).trans (show _ = some (.slice (some ⟨sb, so, none⟩) d.slots.length cs) from rfl)
                rwa [HD.out] at h9
              have z6 : wr.cell? ⟨sb, so + i * 17 + 6, none⟩ = some (.int .i64 s.birth) := by
                obtain ⟨b9, o9, e9, h9, r9⟩ := (H3.out.at0 rfl).slots (by rw [HD.out]; omega)
                cases e9
                exact ((r9 i s HS.out).at_ 6 _ rfl)
              have z7 : wr.cell? ⟨sb, so + k * 17 + 6, none⟩ = some (.int .i64 sk.birth) := by
                obtain ⟨b9, o9, e9, h9, r9⟩ := (H3.out.at0 rfl).slots (by rw [HD.out]; omega)
                cases e9
                exact ((r9 k sk hsk).at_ 6 _ rfl)
              have HMU := Lib.hid (mk_at hu)
              have hur := HMO.out k u hu
              have hun : u ≠ 0 := fun e => HNO.out k (by omega) (HMU.out.trans e)
              have HBK := Lib.hid (show birthAt d k = sk.birth by unfold birthAt; rw [DumpV.at_nat hsk])
              clear hu hsk
              by_cases hv1 : v = 1
              · have HCK := Lib.hid (show mk M i = 1 ∨ clash d M i (k + 1) = false from .inl (HMK.out.trans hv1))
                rw [hv1] at cv
                go_wp2
                go_big_quiet (fail)
                go_wp2
                go_roundw
                case rel => exact ⟨k + 1, by go_num, by omega, HCK.out, Go.below_drewN HY.out _⟩
                case measure => simp [intOf] <;> omega
              · have hv2 : (1 : Int) < v := by omega
                have hck : clash d M i k = false := HCK0.out.resolve_left (by rw [HMK.out]; exact hv1)
                by_cases hu1 : u = 1
                · have HCK := Lib.hid (show mk M i = 1 ∨ clash d M i (k + 1) = false from .inr (by rw [clash_succ, hck, HMU.out, hu1]; rfl))
                  rw [hu1] at cu
                  clear hck
                  go_wp2
                  go_big_quiet (fail)
                  go_wp2
                  go_roundw
                  case rel => exact ⟨k + 1, by go_num, by omega, HCK.out, Go.below_drewN HY.out _⟩
                  case measure => simp [intOf] <;> omega
                · have hu2 : (1 : Int) < u := by omega
                  by_cases hbb : sk.birth = s.birth
                  · have HXX := Lib.hid (show rr = some (i : Int) from HRR.out.symm.trans (restX_tw hlt2 HNO.out (by rw [HMK.out]; exact hv1) (clash_mono (j := k + 1) (by rw [clash_succ, hck, HMU.out, HBK.out, HBI.out, hbb]; simp [hu1]) (by omega)) HCL.out))
                    rw [hbb] at z7
                    have HRF := Lib.hid (fun n => rfault_any d L (some ⟨sb, so, none⟩) cs Af cf M i (wr.drewN n) (H3.out.below (Go.below_drewN (Below.refl _ _) n)))
                    have TD := Lib.hid (fun n => TnL.below (L := L) (Go.below_drewN HY.out n))
                    clear hck
                    go_wp2
                    go_big_quiet (fail)
                    go_wp2_with (go_at_call 35; fail)
                    refine (HRF.out _).mono ?_
                    rintro e w6 ⟨rfl, h6, t6⟩
                    rw [show placeI (i : Int) = i from if_pos (inR_nat hlt2)] at h6
                    have H6 := Lib.hid h6
                    have T6 := Lib.hid ((TD.out _).trans t6)
                    clear h6 t6
                    go_wp2
                    first | go_end0 | refine bodyPost_ret (results_none rfl _ _ _) rfl ?_
                    rw [HXX.out]
                    exact ⟨rfl, H6.out, T6.out⟩
                  · have HCK := Lib.hid (show mk M i = 1 ∨ clash d M i (k + 1) = false from .inr (by rw [clash_succ, hck, HBI.out, HBK.out]; simp [hbb]))
                    have hbe : (s.birth == sk.birth) = false := by simp [Ne.symm hbb]
                    have hbe2 : ¬ (s.birth = sk.birth) := Ne.symm hbb
                    clear hck
                    go_wp2
                    go_big_quiet (fail)
                    go_wp2
                    go_roundw
                    case rel => exact ⟨k + 1, by go_num, by omega, HCK.out, Go.below_drewN HY.out _⟩
                    case measure => simp [intOf] <;> omega
            · obtain rfl : k = i := by omega
              have hka : ¬ ((k : Int) < (k : Int)) := by omega
              have HC2 := Lib.hid (show ∀ j, j < k + 1 → mk M j = 1 ∨ clash d M j j = false from fun j hj => by
                rcases Nat.lt_or_ge j k with h1 | h1
                · exact HCL.out j h1
                · obtain rfl : j = k := by omega
                  exact HCK0.out)
              go_wp2
              go_roundw
              case rel => exact ⟨k + 1, by go_num, by omega, HC2.out, HY.out⟩
              case measure => simp [intOf] <;> omega
        · obtain rfl : i = 32 := by omega
          have HXX := Lib.hid (show rr = none from HRR.out.symm.trans (restX_no HNO.out HCL.out))
          have H3 := Lib.hid (H.out.below HBE.out)
          go_wp2
          first | go_end0 | refine bodyPost_ret (results_none rfl _ _ _) rfl ?_
          rw [HXX.out]
          exact ⟨rfl, H3.out, TnL.below HBE.out⟩
end Go.Proofs.YtahcedpfnechfaaDoor
