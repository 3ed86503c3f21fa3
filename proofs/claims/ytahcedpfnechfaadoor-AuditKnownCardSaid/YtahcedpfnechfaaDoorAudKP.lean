/-
  The audit: Parts, as the code has it.
-/
import Derived.Test.YtahcedpfnechfaaDoorAudK
namespace Go.Proofs.YtahcedpfnechfaaDoor
set_option maxRecDepth 100000
open Go.RowKit Go.Sort

/-- The marks there are. -/
def MOk (M : List Int) : Prop := ∀ (i : Nat) (v : Int), M[i]? = some v → 0 ≤ v ∧ v ≤ 3
theorem MOk.set {M : List Int} (h : MOk M) (k : Nat) {v : Int} (hv : 0 ≤ v ∧ v ≤ 3) : MOk (M.set k v) := fun i u hu => by
  rw [List.getElem?_set] at hu
  split at hu
  · split at hu
    · cases hu; exact hv
    · cases hu
  · exact h i u hu
theorem MOk.zero : MOk M0 := fun i v h => by
  unfold M0 at h
  rw [List.getElem?_replicate] at h
  split at h
  · cases h; omega
  · cases h
theorem freesGo_ok (d : DumpV) : ∀ (l M : List Int), MOk M → MOk (freesGo d l M).2
  | [], M, h => h
  | i :: l, M, h => by
    unfold freesGo
    split
    · exact h
    · exact freesGo_ok d l _ (h.set _ (by omega))
theorem ringGo_ok (d : DumpV) : ∀ (n : Nat) (ahead last up mark : Int) (M : List Int), (0 ≤ mark ∧ mark ≤ 3) → MOk M → MOk (ringGo d n ahead last up mark M).2
  | 0, _, _, _, _, M, _, h => h
  | n + 1, ahead, last, up, mark, M, hm, h => by
    have top : ∀ last up M, MOk M → MOk (ringTop d n last up mark M).2 := fun last up M hM => by
      unfold ringTop
      split
      · exact hM
      · split
        · exact hM
        · exact ringGo_ok d n last last up mark M hm hM
    rw [ringGo_succ]
    split
    · exact h
    · have ht := top (d.at_ (d.at_ ahead).next).kids (d.at_ ahead).next _ (h.set (d.at_ ahead).next.toNat hm)
      split
      · split
        · exact ht
        · exact ringGo_ok d n _ last up mark _ hm ht
      · exact ht
theorem ringTop_ok (d : DumpV) (n : Nat) (last up mark : Int) (M : List Int) (hm : 0 ≤ mark ∧ mark ≤ 3) (h : MOk M) : MOk (ringTop d n last up mark M).2 := by
  unfold ringTop
  split
  · exact h
  · split
    · exact h
    · exact ringGo_ok d n last last up mark M hm h
theorem lookX_ok (d : DumpV) : MOk (lookX d).2 := by
  have h1 := freesGo_ok d d.free M0 MOk.zero
  have h2 := ringTop_ok d 33 d.roots (-1) 2 _ (by omega) h1
  have h3 := ringTop_ok d 33 d.garbage (-1) 3 _ (by omega) h2
  unfold lookX
  split
  · exact h1
  · split
    · exact h2
    · split
      · exact h3
      · exact h3
/-- How many of each mark the first ones have. -/
def cntL (M : List Int) (i : Nat) : List Int := [((M.take i).count 0 : Int), ((M.take i).count 1 : Int), ((M.take i).count 2 : Int), ((M.take i).count 3 : Int)]
theorem cntL_zero (M : List Int) : cntL M 0 = [0, 0, 0, 0] := rfl
theorem cntL_succ {M : List Int} {i k : Nat} (h : M[i]? = some (k : Int)) (hk : k < 4) : ∃ c : Int, (cntL M i)[k]? = some c ∧ 0 ≤ c ∧ c ≤ i ∧ cntL M (i + 1) = (cntL M i).set k (c + 1) := by
  have ht : M.take (i + 1) = M.take i ++ [(k : Int)] := by rw [List.take_add_one, h]; rfl
  have hl : ∀ v : Int, (M.take i).count v ≤ i := fun v => Nat.le_trans List.count_le_length (by rw [List.length_take]; omega)
  unfold cntL
  rw [ht]
  match k, hk with
  | 0, _ => exact ⟨_, rfl, by omega, by have := hl 0; omega, by simp [List.count_append]⟩
  | 1, _ => exact ⟨_, rfl, by omega, by have := hl 1; omega, by simp [List.count_append]⟩
  | 2, _ => exact ⟨_, rfl, by omega, by have := hl 2; omega, by simp [List.count_append]⟩
  | 3, _ => exact ⟨_, rfl, by omega, by have := hl 3; omega, by simp [List.count_append]⟩
def cntI (M : List Int) (v : Int) : Int := (M.count v : Int)
/-- How many live, are garbage, are free. -/
def partsX (d : DumpV) : Int × Int × Int := if argOk d ∧ (lookX d).1 = none then (cntI (lookX d).2 2, cntI (lookX d).2 3, cntI (lookX d).2 1) else (0, 0, 0)
theorem errno_neqE (k : Int) (w : World) : (binOp .neq 35 (errno k) .nilIface).run Tryd.prog w = .ok (.bool true) w := by unfold errno; kernel_rfl
theorem errno_grdE (k : Int) (x y : Operand) (w : World) : (eqGuard .neq 35 x y (errno k) .nilIface).run Tryd.prog w = .ok () w := by unfold errno; kernel_rfl
set_option maxHeartbeats 8000000 in
theorem cParts_any (d : DumpV) (As : Option Addr) (cs : Nat) (Af : Option Addr) (cf : Nat) (hsm : d.slots.length ≤ maxLen) (hnm : d.free.length ≤ maxLen) (w : World) (h : DumpIn w d As Af) :
    Calls Tryd.prog 10 #[.agg (d.dc As cs Af cf).toArray] w (RetB (.tuple #[.int .i64 (partsX d).1, .int .i64 (partsX d).2.1, .int .i64 (partsX d).2.2]) w) := by
  obtain ⟨hsl, hfr, hlt⟩ := h
  have HU := Lib.hid Tryd.underlying25
  obtain ⟨v1, hv1⟩ : ∃ v1, w.alloc (.cells #[.int .i64 d.clock, .int .i64 d.births, .slice As d.slots.length cs, .slice Af d.free.length cf, .int .i64 d.garbage, .int .i64 d.roots] 25) = v1 := ⟨_, rfl⟩
  obtain ⟨v2, hv2⟩ : ∃ v2, v1.alloc (.cells #[.int .i64 d.clock, .int .i64 d.births, .slice As d.slots.length cs, .slice Af d.free.length cf, .int .i64 d.garbage, .int .i64 d.roots, .int .i64 0, .int .i64 0, .int .i64 0, .int .i64 0, .int .i64 0, .int .i64 0, .int .i64 0, .int .i64 0, .int .i64 0, .int .i64 0, .int .i64 0, .int .i64 0, .int .i64 0, .int .i64 0, .int .i64 0, .int .i64 0, .int .i64 0, .int .i64 0, .int .i64 0, .int .i64 0, .int .i64 0, .int .i64 0, .int .i64 0, .int .i64 0, .int .i64 0, .int .i64 0, .int .i64 0, .int .i64 0, .int .i64 0, .int .i64 0, .int .i64 0, .int .i64 0] 58) = v2 := ⟨_, rfl⟩
  have hs1 : v1.heap.size ≤ w.heap.size + 1 ∧ w.heap.size + 1 ≤ v1.heap.size := by rw [← hv1]; simp
  have hs2 : v2.heap.size ≤ v1.heap.size + 1 ∧ v1.heap.size + 1 ≤ v2.heap.size := by rw [← hv2]; simp
  have hb1 : Below w.heap.size w v1 := by rw [← hv1]; exact (Below.refl _ _).alloc (Nat.le_refl _) _
  have hb2 : Below v1.heap.size v1 v2 := by rw [← hv2]; exact (Below.refl _ _).alloc (Nat.le_refl _) _
  have hb12 := hb1.trans (hb2.mono hb1.size)
  have HLK := Lib.hid (show LookAt v2 v1.heap.size 58 [] d As cs Af cf M0 from
    ⟨by rw [← hv2]; exact (Blk.new v1 58 #[.int .i64 d.clock, .int .i64 d.births, .slice As d.slots.length cs, .slice Af d.free.length cf, .int .i64 d.garbage, .int .i64 d.roots, .int .i64 0, .int .i64 0, .int .i64 0, .int .i64 0, .int .i64 0, .int .i64 0, .int .i64 0, .int .i64 0, .int .i64 0, .int .i64 0, .int .i64 0, .int .i64 0, .int .i64 0, .int .i64 0, .int .i64 0, .int .i64 0, .int .i64 0, .int .i64 0, .int .i64 0, .int .i64 0, .int .i64 0, .int .i64 0, .int .i64 0, .int .i64 0, .int .i64 0, .int .i64 0, .int .i64 0, .int .i64 0, .int .i64 0, .int .i64 0, .int .i64 0, .int .i64 0]), rfl, hsl.kept hb12.size fun a _ hlt => hb12.block a.block hlt, hfr.below hb12 (Nat.le_refl _),
      fun a e => by have := hlt.1 a e; omega, fun a e => by have := hlt.2 a e; omega⟩)
  have HCK := Lib.hid (ccheck_any d v1.heap.size As cs Af cf _ _ rfl rfl hsm hnm v2 HLK.out)
  have RD := Lib.hid (show RowAt v1 w.heap.size 0 #[.int .i64 d.clock, .int .i64 d.births, .slice As d.slots.length cs, .slice Af d.free.length cf, .int .i64 d.garbage, .int .i64 d.roots] by rw [← hv1]; exact (Blk.new w 25 #[.int .i64 d.clock, .int .i64 d.births, .slice As d.slots.length cs, .slice Af d.free.length cf, .int .i64 d.garbage, .int .i64 d.roots]).row)
  have HUM := Lib.hid Tryd.underlying26
  have HV1 := Lib.hid hv1
  have HV2 := Lib.hid hv2
  have BB := Lib.hid hb12
  have HPX : ∃ px, partsX d = px := ⟨_, rfl⟩
  obtain ⟨px, hpx⟩ := HPX
  have HP := Lib.hid hpx
  rw [hpx]
  clear hv1 hv2 hb1 hb2 hb12 hsl hfr hlt hpx
  unfold DumpV.dc
  go_enter Tryd.func10, Tryd.ntmps10
  go_wp2_with (first
    | ((with_reducible show wpList _ _ _ (Oper.mk (some 9) (Op.load _ _) _ _ _ _ :: _) _ _); rw [HV1.out]; refine wpList_load_at (ty := 25) rfl rfl rfl RD.out HU.out rfl dumpInfo ?_)
    | (go_at_call 24; fail))
  rw [HV2.out]
  refine HCK.out.mono ?_
  rintro e w3 ⟨rfl, hla, t3⟩
  have B3 := Lib.hid (BB.out.trans (t3.toBelow (by omega) (by omega)))
  have hs3 := t3.2.2.2.1
  have HLA := Lib.hid hla
  clear t3 hla
  by_cases hA : argOk d
  · rcases ho : (lookX d).1 with _ | a
    · have HCV := Lib.hid (show checkV d = .nilIface from (if_pos hA).trans (by rw [ho]; rfl))
      have H3 := Lib.hid (HLA.out hA)
      have HOK := Lib.hid (lookX_ok d)
      have HPP := Lib.hid (show px = (cntI (lookX d).2 2, cntI (lookX d).2 3, cntI (lookX d).2 1) from HP.out.symm.trans (if_pos ⟨hA, ho⟩))
      have hnil := nilV_neq
      generalize (lookX d).2 = M at *
      rw [HCV.out]
      have HRW := Lib.hid H3.out.row
      have HMI := Lib.hid (show (Tryd.prog.info? 26).map (·.size) = some (marksA M).size by rw [marksA_size H3.out.len]; exact marksInfo)
      obtain ⟨v4, hv4⟩ : ∃ v4, w3.alloc (.cells #[.int .i64 0, .int .i64 0, .int .i64 0, .int .i64 0] 53) = v4 := ⟨_, rfl⟩
      have hb4 : Below w3.heap.size w3 v4 := by rw [← hv4]; exact (Below.refl _ _).alloc (Nat.le_refl _) _
      have hs4 : v4.heap.size ≤ w3.heap.size + 1 ∧ w3.heap.size + 1 ≤ v4.heap.size := by rw [← hv4]; simp
      have B4 := Lib.hid (show Blk v4 w3.heap.size 53 (marksA (cntL M 0)) by rw [← hv4, cntL_zero]; exact Blk.new w3 53 #[.int .i64 0, .int .i64 0, .int .i64 0, .int .i64 0])
      have HRW4 := Lib.hid (HRW.out.below hb4 H3.out.blk.lt)
      have Y4 := Lib.hid (B3.out.trans (hb4.mono B3.out.size))
      have HM32 := Lib.hid H3.out.len
      have HV4 := Lib.hid hv4
      have hbz := B3.out.size
      clear hv4 hb4 ho hA
      go_wp2_with (first
        | ((with_reducible show wpList _ _ _ (Oper.mk (some 18) (Op.load _ _) _ _ _ _ :: _) _ _); rw [HV4.out]; refine wpList_load_at (ty := 26) rfl rfl rfl HRW4.out HUM.out rfl HMI.out ?_))
      go_loopw [19] (fun v wz => ∃ i : Nat, v = .int .i64 i ∧ i ≤ 32 ∧ Blk wz w3.heap.size 53 (marksA (cntL M i)) ∧ Below w.heap.size w wz) (fun v _ => 32 - (intOf v).toNat)
      case atStart => exact ⟨0, rfl, Nat.zero_le _, B4.out, Y4.out⟩
      case round =>
        obtain ⟨i, rfl, hi, hbk, hbe⟩ := hrel
        have HBK := Lib.hid hbk
        have HBE := Lib.hid hbe
        clear hbk hbe
        by_cases hlt : i < 32
        · have hii : (i : Int) < 32 := by omega
          have hiz : (0 : Int) ≤ (i : Int) := by omega
          obtain ⟨v, hv⟩ : ∃ v, M[i]? = some v := ⟨_, List.getElem?_eq_getElem (by rw [HM32.out]; exact hlt)⟩
          obtain ⟨k, rfl⟩ : ∃ k : Nat, v = (k : Int) := ⟨v.toNat, by have := HOK.out i v hv; omega⟩
          have hk4 : k < 4 := by have := HOK.out i _ hv; omega
          have hk4i : (k : Int) < 4 := by omega
          have hk0 : (0 : Int) ≤ (k : Int) := by omega
          have hma := index_marks hv HM32.out
          obtain ⟨c, hc, hc0, hci, hcs⟩ := cntL_succ hv hk4
          have cc := (HBK.out.cell k).trans (marksA_at hc)
          have fc := HBK.out.frozen k
          have HCS := Lib.hid hcs
          clear hv hc hcs
          go_wp2
          go_roundw
          case rel =>
            refine ⟨i + 1, by go_num, by omega, ?_, HBE.out.grown (row := some w3.heap.size) ⟨rfl, rfl, rfl, by simp, fun k2 _ e => Below.heap_setCell _ ⟨w3.heap.size, k, none⟩ _ k2 (fun e2 => e (by rw [e2]))⟩ HBE.out.size (fun j e => by cases e; omega)⟩
            rw [HCS.out]
            have h9 := HBK.out.set_ k (.int .i64 (c + 1))
            unfold marksA at h9 ⊢
            rw [List.setIfInBounds_toArray, ← List.map_set] at h9
            exact h9
          case measure => simp [intOf] <;> omega
        · obtain rfl : i = 32 := by omega
          have hfull : cntL M 32 = [cntI M 0, cntI M 1, cntI M 2, cntI M 3] := by unfold cntL cntI; rw [List.take_of_length_le (Nat.le_of_eq HM32.out)]
          have e1 := (HBK.out.cell 1).trans (marksA_at (show (cntL M 32)[1]? = some (cntI M 1) by rw [hfull]; rfl))
          have e2 := (HBK.out.cell 2).trans (marksA_at (show (cntL M 32)[2]? = some (cntI M 2) by rw [hfull]; rfl))
          have e3 := (HBK.out.cell 3).trans (marksA_at (show (cntL M 32)[3]? = some (cntI M 3) by rw [hfull]; rfl))
          clear hfull
          go_wp2
          go_big_quiet (fail)
          go_wp2
          go_ret3
          rw [HPP.out]
          exact ⟨rfl, Go.below_drewN HBE.out _⟩
    · have HCV := Lib.hid (show checkV d = faultV 24 a from (if_pos hA).trans (by rw [ho]; rfl))
      have HPP := Lib.hid (show px = (0, 0, 0) from HP.out.symm.trans (if_neg (fun h => by rw [ho] at h; cases h.2)))
      have hneq := faultV_neq
      have hgrd := faultV_grd
      rw [HCV.out]
      clear ho hA
      go_wp2
      go_ret3
      rw [HPP.out]
      exact ⟨rfl, B3.out⟩
  · have HCV := Lib.hid (show checkV d = errno 1 from if_neg hA)
    have HPP := Lib.hid (show px = (0, 0, 0) from HP.out.symm.trans (if_neg (fun h => hA h.1)))
    have hneq := errno_neqE
    have hgrd := errno_grdE
    rw [HCV.out]
    clear hA
    go_wp2
    go_ret3
    rw [HPP.out]
    exact ⟨rfl, B3.out⟩
end Go.Proofs.YtahcedpfnechfaaDoor
