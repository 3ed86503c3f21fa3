/-
  The audit: the document's Parts.
-/
import Derived.Test.YtahcedpfnechfaaDoorAudRC
import Derived.RegionTactic
import Derived.BigRegion
namespace Go.Proofs.YtahcedpfnechfaaDoor
set_option maxRecDepth 100000
open Go.RowKit Go.Sort

/-- There are 32 marks. -/
def MLen (M : List Int) : Prop := M.length = 32
theorem MLen.set {M : List Int} (h : MLen M) (k : Nat) {v : Int} (_ : 0 ≤ v ∧ v ≤ 3) : MLen (M.set k v) := (List.length_set ..).trans h
theorem MLen.zero : MLen M0 := rfl
theorem freesGo_mlen (d : DumpV) : ∀ (l M : List Int), MLen M → MLen (freesGo d l M).2
  | [], M, h => h
  | i :: l, M, h => by
    unfold freesGo
    split
    · exact h
    · exact freesGo_mlen d l _ (h.set _ (by omega))
theorem ringGo_mlen (d : DumpV) : ∀ (n : Nat) (ahead last up mark : Int) (M : List Int), (0 ≤ mark ∧ mark ≤ 3) → MLen M → MLen (ringGo d n ahead last up mark M).2
  | 0, _, _, _, _, M, _, h => h
  | n + 1, ahead, last, up, mark, M, hm, h => by
    have top : ∀ last up M, MLen M → MLen (ringTop d n last up mark M).2 := fun last up M hM => by
      unfold ringTop
      split
      · exact hM
      · split
        · exact hM
        · exact ringGo_mlen d n last last up mark M hm hM
    rw [ringGo_succ]
    split
    · exact h
    · have ht := top (d.at_ (d.at_ ahead).next).kids (d.at_ ahead).next _ (h.set (d.at_ ahead).next.toNat hm)
      split
      · split
        · exact ht
        · exact ringGo_mlen d n _ last up mark _ hm ht
      · exact ht
theorem ringTop_mlen (d : DumpV) (n : Nat) (last up mark : Int) (M : List Int) (hm : 0 ≤ mark ∧ mark ≤ 3) (h : MLen M) : MLen (ringTop d n last up mark M).2 := by
  unfold ringTop
  split
  · exact h
  · split
    · exact h
    · exact ringGo_mlen d n last last up mark M hm h
theorem lookX_mlen (d : DumpV) : MLen (lookX d).2 := by
  have h1 := freesGo_mlen d d.free M0 MLen.zero
  have h2 := ringTop_mlen d 33 d.roots (-1) 2 _ (by omega) h1
  have h3 := ringTop_mlen d 33 d.garbage (-1) 3 _ (by omega) h2
  unfold lookX
  split
  · exact h1
  · split
    · exact h2
    · split
      · exact h3
      · exact h3
theorem lookR_len (d : DumpV) : (lookR d).2.length = 32 := by
  unfold lookR
  split
  · exact lookX_mlen d
  · rfl
set_option maxHeartbeats 8000000 in
theorem rParts_any (d : DumpV) (As : Option Addr) (cs : Nat) (Af : Option Addr) (cf : Nat) (hsm : d.slots.length ≤ maxLen) (hnm : d.free.length ≤ maxLen) (w : World) (h : DumpIn w d As Af) :
    Calls Tryd.prog 7 #[.agg (d.dc As cs Af cf).toArray] w (RetB (.tuple #[.int .i64 (partsX d).1, .int .i64 (partsX d).2.1, .int .i64 (partsX d).2.2]) w) := by
  obtain ⟨hsl, hfr, hlt⟩ := h
  have HU := Lib.hid Tryd.underlying25
  obtain ⟨v1, hv1⟩ : ∃ v1, w.alloc (.cells #[.int .i64 d.clock, .int .i64 d.births, .slice As d.slots.length cs, .slice Af d.free.length cf, .int .i64 d.garbage, .int .i64 d.roots] 25) = v1 := ⟨_, rfl⟩
  have hs1 : v1.heap.size ≤ w.heap.size + 1 ∧ w.heap.size + 1 ≤ v1.heap.size := by rw [← hv1]; simp
  have hb1 : Below w.heap.size w v1 := by rw [← hv1]; exact (Below.refl _ _).alloc (Nat.le_refl _) _
  have HCK := Lib.hid (show Calls Tryd.prog 6 #[.agg #[.int .i64 d.clock, .int .i64 d.births, .slice As d.slots.length cs, .slice Af d.free.length cf, .int .i64 d.garbage, .int .i64 d.roots]] v1 (RetRC d As cs Af cf v1) from rCheck_any d As cs Af cf hsm hnm v1
    ⟨hsl.kept hb1.size fun a _ hlt => hb1.block a.block hlt, hfr.below hb1 (Nat.le_refl _), fun a e => by have := hlt.1 a e; omega, fun a e => by have := hlt.2 a e; omega⟩)
  have RD := Lib.hid (show RowAt v1 w.heap.size 0 #[.int .i64 d.clock, .int .i64 d.births, .slice As d.slots.length cs, .slice Af d.free.length cf, .int .i64 d.garbage, .int .i64 d.roots] by rw [← hv1]; exact (Blk.new w 25 #[.int .i64 d.clock, .int .i64 d.births, .slice As d.slots.length cs, .slice Af d.free.length cf, .int .i64 d.garbage, .int .i64 d.roots]).row)
  have HV1 := Lib.hid hv1
  have BB := Lib.hid hb1
  obtain ⟨px, hpx⟩ : ∃ px, partsX d = px := ⟨_, rfl⟩
  have HP := Lib.hid hpx
  rw [hpx]
  clear hv1 hb1 hsl hfr hlt hpx
  unfold DumpV.dc
  go_enter Tryd.func7, Tryd.ntmps7
  go_wp2_with (first
    | ((with_reducible show wpList _ _ _ (Oper.mk (some 11) (Op.load _ _) _ _ _ _ :: _) _ _); rw [HV1.out]; refine wpList_load_at (ty := 25) rfl rfl rfl RD.out HU.out rfl dumpInfo ?_)
    | (go_at_call 6; fail))
  refine HCK.out.mono ?_
  rintro e w2 ⟨rfl, hb2⟩
  obtain ⟨LC, hLC⟩ : ∃ LC, lookC (d.dc As cs Af cf) (lookR d).2 (tR (lookR d).1) = LC := ⟨_, rfl⟩
  have HM32 := Lib.hid (lookR_len d)
  have HLS := Lib.hid (show LC.size = 40 by rw [← hLC, lookC_size rfl HM32.out (tR_len _)])
  have HLI := Lib.hid (show (Tryd.prog.info? 28).map (·.size) = some LC.size by rw [HLS.out]; exact lookInfo)
  have HLO := Lib.hid (show ∀ v ∈ LC.toList, v.oneCell' = true by rw [← hLC]; exact lookC_one)
  have HLM := Lib.hid (show ∀ (i : Nat) (v : Int), (lookR d).2[i]? = some v → LC[6 + i]? = some (.int .i64 v) from fun i v h => by rw [← hLC]; exact lookC_m rfl h)
  rw [hLC]
  have B2 := Lib.hid (BB.out.trans (hb2.mono (by omega)))
  obtain ⟨v3, hv3⟩ : ∃ v3, w2.alloc (.cells LC 28) = v3 := ⟨_, rfl⟩
  have hs3 : v3.heap.size ≤ w2.heap.size + 1 ∧ w2.heap.size + 1 ≤ v3.heap.size := by rw [← hv3]; simp
  have hb3 : Below w2.heap.size w2 v3 := by rw [← hv3]; exact (Below.refl _ _).alloc (Nat.le_refl _) _
  have hz2 := B2.out.size
  have B3 := Lib.hid (B2.out.trans (hb3.mono hz2))
  have BL3 := Lib.hid (show Blk v3 w2.heap.size 28 LC by rw [← hv3]; exact Blk.new _ _ _)
  have HV3 := Lib.hid hv3
  clear hb2 hv3 hb3 hLC
  by_cases hA : argOk d
  · rcases ho : (lookX d).1 with _ | a
    · have HCN := Lib.hid (show checkNo d = (0, 0) ∧ lookR d = lookX d from ⟨by unfold checkNo; rw [if_pos hA, ho], if_pos hA⟩)
      have HPP := Lib.hid (show px = (cntI (lookR d).2 2, cntI (lookR d).2 3, cntI (lookR d).2 1) from HP.out.symm.trans ((if_pos ⟨hA, ho⟩).trans (by rw [HCN.out.2])))
      have HOK := Lib.hid (show MOk (lookR d).2 by rw [HCN.out.2]; exact lookX_ok d)
      rw [HCN.out.1]
      generalize (lookR d).2 = M at *
      obtain ⟨v4, hv4⟩ : ∃ v4, v3.alloc (.cells #[.int .i64 0, .int .i64 0, .int .i64 0, .int .i64 0] 53) = v4 := ⟨_, rfl⟩
      have hb4 : Below v3.heap.size v3 v4 := by rw [← hv4]; exact (Below.refl _ _).alloc (Nat.le_refl _) _
      have hs4 : v4.heap.size ≤ v3.heap.size + 1 ∧ v3.heap.size + 1 ≤ v4.heap.size := by rw [← hv4]; simp
      have B4 := Lib.hid (show Blk v4 v3.heap.size 53 (marksA (cntL M 0)) by rw [← hv4, cntL_zero]; exact Blk.new v3 53 #[.int .i64 0, .int .i64 0, .int .i64 0, .int .i64 0])
      have BL4 := Lib.hid (BL3.out.below hb4 (by omega))
      have Y4 := Lib.hid (B3.out.trans (hb4.mono B3.out.size))
      have HV4 := Lib.hid hv4
      clear hv4 hb4 ho hA
      go_wp2_with (first
        | ((with_reducible show wpList _ _ _ (Oper.mk none _ _ _ _ _ :: _) _ (World.alloc _ _)); refine wpList_store_new (ty := 28) rfl rfl rfl rfl (by rw [HLS.out]; rfl) HLO.out HLI.out ?_; rw [HV3.out]))
      rw [HV4.out]
      go_loopw [9] (fun v wz => ∃ i : Nat, v = .int .i64 i ∧ i ≤ 32 ∧ Blk wz v3.heap.size 53 (marksA (cntL M i)) ∧ Blk wz w2.heap.size 28 LC ∧ Below w.heap.size w wz) (fun v _ => 32 - (intOf v).toNat)
      case atStart => exact ⟨0, rfl, Nat.zero_le _, B4.out, BL4.out, Y4.out⟩
      case round =>
        obtain ⟨i, rfl, hi, hbk, hbl, hbe⟩ := hrel
        have HBK := Lib.hid hbk
        have HBL := Lib.hid hbl
        have HBE := Lib.hid hbe
        clear hbk hbl hbe
        by_cases hlt : i < 32
        · have hii : (i : Int) < 32 := by omega
          have hiz : (0 : Int) ≤ (i : Int) := by omega
          obtain ⟨v, hv⟩ : ∃ v, M[i]? = some v := ⟨_, List.getElem?_eq_getElem (by rw [HM32.out]; exact hlt)⟩
          obtain ⟨k, rfl⟩ : ∃ k : Nat, v = (k : Int) := ⟨v.toNat, by have := HOK.out i v hv; omega⟩
          have hk4 : k < 4 := by have := HOK.out i _ hv; omega
          have hk4i : (k : Int) < 4 := by omega
          have hk0 : (0 : Int) ≤ (k : Int) := by omega
          have cm := (HBL.out.cell (6 + i)).trans (HLM.out i _ hv)
          obtain ⟨c, hc, hc0, hci, hcs⟩ := cntL_succ hv hk4
          have cc := (HBK.out.cell k).trans (marksA_at hc)
          have fc := HBK.out.frozen k
          have HCS := Lib.hid hcs
          clear hv hc hcs
          go_wp2
          go_region
          all_goals (
            go_wp2
            go_roundw
            case rel =>
              refine ⟨i + 1, by go_num, by omega, ?_, ?_, ?_⟩
              · rw [HCS.out]
                have h9 := HBK.out.drew.set_ k (.int .i64 (c + 1))
                unfold marksA at h9 ⊢
                rw [List.setIfInBounds_toArray, ← List.map_set] at h9
                exact h9
              · exact ⟨(Below.heap_setCell _ ⟨v3.heap.size, k, none⟩ _ w2.heap.size (by show w2.heap.size ≠ v3.heap.size; omega)).trans HBL.out.drew.eq⟩
              · exact (Below.drew HBE.out).grown (row := some v3.heap.size) ⟨rfl, rfl, rfl, by simp, fun k2 _ e => Below.heap_setCell _ ⟨v3.heap.size, k, none⟩ _ k2 (fun e2 => e (by rw [e2]))⟩ HBE.out.size (fun j e => by cases e; omega)
            case measure => simp [intOf] <;> omega)
        · obtain rfl : i = 32 := by omega
          have hfull : cntL M 32 = [cntI M 0, cntI M 1, cntI M 2, cntI M 3] := by unfold cntL cntI; rw [List.take_of_length_le (Nat.le_of_eq HM32.out)]
          have e1 := (HBK.out.cell 1).trans (marksA_at (show (cntL M 32)[1]? = some (cntI M 1) by rw [hfull]; rfl))
          have e2 := (HBK.out.cell 2).trans (marksA_at (show (cntL M 32)[2]? = some (cntI M 2) by rw [hfull]; rfl))
          have e3 := (HBK.out.cell 3).trans (marksA_at (show (cntL M 32)[3]? = some (cntI M 3) by rw [hfull]; rfl))
          clear hfull
          go_wp2
          go_big_quiet (fail)
          go_wp2
          go_ret3
          rw [HPP.out]
          exact ⟨rfl, Go.below_drewN HBE.out _⟩
    · have HCN := Lib.hid (show checkNo d = (24, a) from by unfold checkNo; rw [if_pos hA, ho])
      have HPP := Lib.hid (show px = (0, 0, 0) from HP.out.symm.trans (if_neg (fun h => by rw [ho] at h; cases h.2)))
      rw [HCN.out]
      clear ho hA
      go_wp2_with (first
        | ((with_reducible show wpList _ _ _ (Oper.mk none _ _ _ _ _ :: _) _ (World.alloc _ _)); refine wpList_store_new (ty := 28) rfl rfl rfl rfl (by rw [HLS.out]; rfl) HLO.out HLI.out ?_; rw [HV3.out]))
      go_ret3
      rw [HPP.out]
      exact ⟨rfl, B3.out⟩
  · have HCN := Lib.hid (show checkNo d = (1, 0) from if_neg hA)
    have HPP := Lib.hid (show px = (0, 0, 0) from HP.out.symm.trans (if_neg (fun h => hA h.1)))
    rw [HCN.out]
    clear hA
    go_wp2_with (first
      | ((with_reducible show wpList _ _ _ (Oper.mk none _ _ _ _ _ :: _) _ (World.alloc _ _)); refine wpList_store_new (ty := 28) rfl rfl rfl rfl (by rw [HLS.out]; rfl) HLO.out HLI.out ?_; rw [HV3.out]))
    go_ret3
    rw [HPP.out]
    exact ⟨rfl, B3.out⟩
end Go.Proofs.YtahcedpfnechfaaDoor
