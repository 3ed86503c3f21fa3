/-
  The audit: rest, as the code has it.
-/
import Derived.Test.YtahcedpfnechfaaDoorAudF
namespace Go.Proofs.YtahcedpfnechfaaDoor
set_option maxRecDepth 100000
open Go.RowKit Go.Sort

def mk (M : List Int) (i : Nat) : Int := M.getD i 0
def unseenAt (M : List Int) (n : Nat) : Bool := (List.range n).all fun i => mk M i != 0
def birthAt (d : DumpV) (i : Nat) : Int := (d.at_ (i : Int)).birth
def clash (d : DumpV) (M : List Int) (i j : Nat) : Bool := (List.range j).any fun k => mk M k != 1 && birthAt d k == birthAt d i
/-- The first slot that nothing has; else the first whose birth one ahead has. -/
def restX (d : DumpV) (M : List Int) : Option Int :=
  match (List.range 32).find? (fun i => mk M i == 0) with
  | some i => some (i : Int)
  | none => ((List.range 32).find? (fun i => mk M i != 1 && clash d M i i)).map fun (i : Nat) => (i : Int)
theorem find_at {p : Nat → Bool} {i n : Nat} (hi : i < n) (hp : p i = true) (hno : ∀ j, j < i → p j = false) : (List.range n).find? p = some i := by
  rw [List.find?_range_eq_some]
  exact ⟨hp, by simpa using hi, fun j hj => by simpa using hno j hj⟩
theorem find_no {p : Nat → Bool} {n : Nat} (hno : ∀ j, j < n → p j = false) : (List.range n).find? p = none := by
  rw [List.find?_eq_none]
  intro x hx
  rw [hno x (List.mem_range.1 hx)]; simp
theorem restX_un {d : DumpV} {M : List Int} {i : Nat} (hi : i < 32) (h0 : mk M i = 0) (hno : ∀ j, j < i → mk M j ≠ 0) : restX d M = some (i : Int) := by
  unfold restX
  rw [find_at hi (by simp [h0]) fun j hj => by simpa using hno j hj]
theorem restX_tw {d : DumpV} {M : List Int} {i : Nat} (hi : i < 32) (hu : ∀ j, j < 32 → mk M j ≠ 0) (h0 : mk M i ≠ 1) (hc : clash d M i i = true) (hno : ∀ j, j < i → mk M j = 1 ∨ clash d M j j = false) : restX d M = some (i : Int) := by
  unfold restX
  rw [find_no fun j hj => by simpa using hu j hj, find_at hi (by simp [h0, hc]) fun j hj => by rcases hno j hj with h | h <;> simp [h]]
  rfl
theorem restX_no {d : DumpV} {M : List Int} (hu : ∀ j, j < 32 → mk M j ≠ 0) (hno : ∀ j, j < 32 → mk M j = 1 ∨ clash d M j j = false) : restX d M = none := by
  unfold restX
  rw [find_no fun j hj => by simpa using hu j hj, find_no fun j hj => by rcases hno j hj with h | h <;> simp [h]]
  rfl
theorem clash_succ (d : DumpV) (M : List Int) (i j : Nat) : clash d M i (j + 1) = (clash d M i j || (mk M j != 1 && birthAt d j == birthAt d i)) := by
  unfold clash
  rw [List.range_succ, List.any_append]
  simp
theorem clash_mono {d : DumpV} {M : List Int} {i j n : Nat} (h : clash d M i j = true) (hn : j ≤ n) : clash d M i n = true := by
  unfold clash at h ⊢
  rw [List.any_eq_true] at h ⊢
  obtain ⟨x, hx, h2⟩ := h
  exact ⟨x, List.mem_range.2 (Nat.lt_of_lt_of_le (List.mem_range.1 hx) hn), h2⟩
/-- The marks, as an array's value. -/
def marksA (M : List Int) : Array Value := (M.map (Value.int .i64)).toArray
theorem marksA_at {M : List Int} {i : Nat} {v : Int} (h : M[i]? = some v) : (marksA M)[i]? = some (.int .i64 v) := by
  unfold marksA; rw [List.getElem?_toArray, List.getElem?_map, h]; rfl
theorem marksA_size {M : List Int} (h : M.length = 32) : (marksA M).size = 32 := by unfold marksA; rw [List.size_toArray, List.length_map, h]
theorem LookAt.row {w : World} {L : Nat} {ty : TypeId} {t : List Value} {d : DumpV} {As : Option Addr} {cs : Nat} {Af : Option Addr} {cf : Nat} {M : List Int} (h : LookAt w L ty t d As cs Af cf M) : RowAt w L 6 (marksA M) := ⟨fun j v hv => by
  have hj : j < 32 := by have := (Array.getElem?_eq_some_iff.1 hv).1; rwa [marksA_size h.len] at this
  obtain ⟨x, hx⟩ : ∃ x, M[j]? = some x := ⟨_, List.getElem?_eq_getElem (by rw [h.len]; exact hj)⟩
  rw [h.mark hx, ← marksA_at hx, hv]⟩
theorem marksInfo : (Tryd.prog.info? 26).map (·.size) = some 32 := by kernel_rfl
theorem mk_at {M : List Int} {i : Nat} {v : Int} (h : M[i]? = some v) : mk M i = v := by unfold mk; rw [List.getD_eq_getElem?_getD, h]; rfl
theorem index_marks {M : List Int} {i : Nat} {v : Int} (h : M[i]? = some v) (hM : M.length = 32) (w : World) : (Instr.index 26 (.agg (marksA M)) (.int .i64 i)).run Tryd.prog w = .ok (.int .i64 v) w := by
  have hi : i < 32 := by rw [← hM]; exact (List.getElem?_eq_some_iff.1 h).1
  have hii : (i : Int) < 32 := by omega
  have hiz : (0 : Int) ≤ (i : Int) := by omega
  have ha := marksA_at h
  simp [Instr.index, run_underlying Tryd.underlying26, asIntOf, hii, go_sem]
  rw [if_pos hi, ha]
  simp [go_sem]
set_option maxHeartbeats 16000000 in
theorem crest_any (d : DumpV) (hd : d.slots.length = 32) (L : Nat) (As : Option Addr) (cs : Nat) (Af : Option Addr) (cf : Nat) (M : List Int) (w : World) (h : LookAt w L 58 [] d As cs Af cf M) :
    Calls Tryd.prog 41 #[.pointer (some ⟨L, 0, none⟩)] w (RetB (outV (restX d M)) w) := by
  have HU := Lib.hid Tryd.underlying26
  have H := Lib.hid h
  have HD := Lib.hid hd
  have HL := h.blk.lt
  have HFB := Lib.hid h.free
  have HRW := Lib.hid h.row
  have HMI := Lib.hid (show (Tryd.prog.info? 26).map (·.size) = some (marksA M).size by rw [marksA_size h.len]; exact marksInfo)
  obtain ⟨sb, so, rfl, hsb, hsr⟩ := h.slots (by omega)
  have hsbL : ¬ sb = L := h.ne.1 ⟨sb, so, none⟩ rfl
  obtain ⟨rr, hrr⟩ : ∃ rr, restX d M = rr := ⟨_, rfl⟩
  have HRR := Lib.hid hrr
  rw [hrr]
  clear h hd hrr hsr
  go_enter Tryd.func41, Tryd.ntmps41
  go_wp2_with (first
    | ((with_reducible show wpList _ _ _ (Oper.mk (some 12) (Op.load _ _) _ _ _ _ :: _) _ _); refine wpList_load_at (ty := 26) rfl rfl rfl HRW.out HU.out rfl HMI.out ?_))
  go_loopw [13] (fun v wr => ∃ i : Nat, v = .int .i64 i ∧ i ≤ 32 ∧ (∀ j, j < i → mk M j ≠ 0) ∧ w = wr) (fun v _ => 32 - (intOf v).toNat)
  case atStart => exact ⟨0, rfl, Nat.zero_le _, fun j hj => absurd hj (Nat.not_lt_zero _), rfl⟩
  case round =>
    obtain ⟨i, rfl, hi, hno, rfl⟩ := hrel
    have HNO := Lib.hid hno
    clear hno
    by_cases hlt : i < 32
    · have hii : (i : Int) < 32 := by omega
      have hiz : (0 : Int) ≤ (i : Int) := by omega
      obtain ⟨v, hv⟩ : ∃ v, M[i]? = some v := ⟨_, List.getElem?_eq_getElem (by rw [H.out.len]; exact hlt)⟩
      have hma := index_marks hv H.out.len
      have HMK := Lib.hid (mk_at hv)
      clear hv
      by_cases hv0 : v = 0
      · have HXX := Lib.hid (show rr = some (i : Int) from HRR.out.symm.trans (restX_un hlt (HMK.out.trans hv0) HNO.out))
        subst hv0
        go_wp2_with (go_at_call 54; fail)
        refine (cfault_any _ _).mono ?_
        rintro e w' ⟨rfl, rfl⟩
        rw [show placeI (i : Int) = i from if_pos (inR_nat hlt)]
        go_wp2
        go_ret
        rw [HXX.out]
        exact ⟨rfl, Below.refl _ _⟩
      · have HN2 := Lib.hid (show ∀ j, j < i + 1 → mk M j ≠ 0 from fun j hj => by
          rcases Nat.lt_or_ge j i with h1 | h1
          · exact HNO.out j h1
          · obtain rfl : j = i := by omega
            rw [HMK.out]; exact hv0)
        go_wp2
        go_roundw
        case rel => exact ⟨i + 1, by go_num, by omega, HN2.out, by trivial⟩
        case measure => simp [intOf] <;> omega
    · obtain rfl : i = 32 := by omega
      obtain ⟨v1, hv1⟩ : ∃ v1, w.alloc (.cells #[.int .i64 0, .int .i64 0, .int .i64 0, .int .i64 0, .int .i64 0, .int .i64 0, .int .i64 0, .int .i64 0, .int .i64 0, .int .i64 0, .int .i64 0, .int .i64 0, .int .i64 0, .int .i64 0, .int .i64 0, .int .i64 0, .int .i64 0, .int .i64 0, .int .i64 0, .int .i64 0, .int .i64 0, .int .i64 0, .int .i64 0, .int .i64 0, .int .i64 0, .int .i64 0, .int .i64 0, .int .i64 0, .int .i64 0, .int .i64 0, .int .i64 0, .int .i64 0] 26) = v1 := ⟨_, rfl⟩
      have hb1 : Below w.heap.size w v1 := by rw [← hv1]; exact (Below.refl _ _).alloc (Nat.le_refl _) _
      have hs1 : v1.heap.size ≤ w.heap.size + 1 ∧ w.heap.size + 1 ≤ v1.heap.size := by rw [← hv1]; simp
      have BT := Lib.hid (show Blk v1 w.heap.size 26 (marksA (List.replicate 32 0)) by rw [← hv1]; exact Blk.new w 26 #[.int .i64 0, .int .i64 0, .int .i64 0, .int .i64 0, .int .i64 0, .int .i64 0, .int .i64 0, .int .i64 0, .int .i64 0, .int .i64 0, .int .i64 0, .int .i64 0, .int .i64 0, .int .i64 0, .int .i64 0, .int .i64 0, .int .i64 0, .int .i64 0, .int .i64 0, .int .i64 0, .int .i64 0, .int .i64 0, .int .i64 0, .int .i64 0, .int .i64 0, .int .i64 0, .int .i64 0, .int .i64 0, .int .i64 0, .int .i64 0, .int .i64 0, .int .i64 0])
      have H1 := Lib.hid (H.out.below hb1)
      have HRW1 := Lib.hid (H.out.below hb1).row
      have HV1 := Lib.hid hv1
      have BB := Lib.hid hb1
      clear hv1 hb1
      go_wp2_with (first
        | ((with_reducible show wpList _ _ _ (Oper.mk (some 25) (Op.load _ _) _ _ _ _ :: _) _ _); rw [HV1.out]; refine wpList_load_at (ty := 26) rfl rfl rfl HRW1.out HU.out rfl HMI.out ?_))
      go_loopw [26] (fun v wz => ∃ (i : Nat) (Bt : List Int), v = .int .i64 i ∧ i ≤ 32 ∧ Bt.length = 32 ∧ (∀ k, k < i → mk M k ≠ 1 → Bt[k]? = some (birthAt d k)) ∧ (∀ j, j < i → mk M j = 1 ∨ clash d M j j = false) ∧ Blk wz w.heap.size 26 (marksA Bt) ∧ LookAt wz L 58 [] d (some ⟨sb, so, none⟩) cs Af cf M ∧ Below w.heap.size w wz) (fun v _ => 32 - (intOf v).toNat)
      case atStart => exact ⟨0, List.replicate 32 0, rfl, Nat.zero_le _, rfl, fun j hj => absurd hj (Nat.not_lt_zero _), fun j hj => absurd hj (Nat.not_lt_zero _), BT.out, H1.out, BB.out⟩
      case round =>
        obtain ⟨i, Bt, rfl, hi2, hbl, hbt, hcl, hblk, hla, hbe⟩ := hrel
        have HBL := Lib.hid hbl
        have HBT := Lib.hid hbt
        have HCL := Lib.hid hcl
        have HBK := Lib.hid hblk
        have HLA := Lib.hid hla
        have HBE := Lib.hid hbe
        clear hbl hbt hcl hblk hla hbe
        by_cases hlt2 : i < 32
        · have hii : (i : Int) < 32 := by omega
          have hiz : (0 : Int) ≤ (i : Int) := by omega
          obtain ⟨v, hv⟩ : ∃ v, M[i]? = some v := ⟨_, List.getElem?_eq_getElem (by rw [HLA.out.len]; exact hlt2)⟩
          have hma := index_marks hv HLA.out.len
          have HMK := Lib.hid (mk_at hv)
          clear hv
          by_cases hv1 : v = 1
          · have HC2 := Lib.hid (show ∀ j, j < i + 1 → mk M j = 1 ∨ clash d M j j = false from fun j hj => by
              rcases Nat.lt_or_ge j i with h1 | h1
              · exact HCL.out j h1
              · obtain rfl : j = i := by omega
                exact .inl (HMK.out.trans hv1))
            have HB2 := Lib.hid (show ∀ k, k < i + 1 → mk M k ≠ 1 → Bt[k]? = some (birthAt d k) from fun k hk hne => by
              rcases Nat.lt_or_ge k i with h1 | h1
              · exact HBT.out k h1 hne
              · obtain rfl : k = i := by omega
                exact absurd (HMK.out.trans hv1) hne)
            subst hv1
            go_wp2
            go_roundw
            case rel => exact ⟨i + 1, Bt, by go_num, by omega, HBL.out, HB2.out, HC2.out, HBK.out, HLA.out, HBE.out⟩
            case measure => simp [intOf] <;> omega
          · obtain ⟨s, hs⟩ : ∃ s, d.slots[i]? = some s := ⟨_, List.getElem?_eq_getElem (by rw [HD.out]; exact hlt2)⟩
            have HBI := Lib.hid (show birthAt d i = s.birth by unfold birthAt; rw [DumpV.at_nat hs])
            have z2 : wr.cell? ⟨L, 2, none⟩ = some (.slice (some ⟨sb, so, none⟩) 32 cs) := by
              have h9 := (HLA.out.blk.cell 2).trans (show _ = some (.slice (some ⟨sb, so, none⟩) d.slots.length cs) from rfl)
              rwa [HD.out] at h9
            have z6 : wr.cell? ⟨sb, so + i * 17 + 6, none⟩ = some (.int .i64 s.birth) := by
              obtain ⟨b9, o9, e9, h9, r9⟩ := HLA.out.slots (by rw [HD.out]; omega)
              cases e9
              exact ((r9 i s hs).at_ 6 _ rfl)
            obtain ⟨b0, hb0⟩ : ∃ b0, Bt[i]? = some b0 := ⟨_, List.getElem?_eq_getElem (by rw [HBL.out]; exact hlt2)⟩
            have cb := (HBK.out.cell i).trans (marksA_at hb0)
            have fb := HBK.out.frozen i
            obtain ⟨w4, hw4⟩ : ∃ w4, wr.setCell ⟨w.heap.size, i, none⟩ (.int .i64 s.birth) = w4 := ⟨_, rfl⟩
            have hg4 : wr.grownBy w4 (some w.heap.size) := by
              rw [← hw4]
              exact ⟨rfl, rfl, rfl, by simp, fun k _ e => Below.heap_setCell wr ⟨w.heap.size, i, none⟩ _ k (fun e2 => e (by rw [e2]))⟩
            have HBK4 := Lib.hid (show Blk w4 w.heap.size 26 (marksA (Bt.set i s.birth)) by
              have h9 := HBK.out.set_ i (.int .i64 s.birth)
              rw [hw4] at h9
              unfold marksA at h9 ⊢
              rw [List.setIfInBounds_toArray, ← List.map_set] at h9
              exact h9)
            have hL2 := HLA.out.blk.lt
            have HBE4 := Lib.hid (HBE.out.grown hg4 HBE.out.size (fun j e => by cases e; exact Nat.le_refl _))
            have HLA4 := Lib.hid (H.out.below HBE4.out)
            have HB4 := Lib.hid (show ∀ k, k < i + 1 → mk M k ≠ 1 → (Bt.set i s.birth)[k]? = some (birthAt d k) from fun k hk hne => by
              by_cases e : k = i
              · subst e
                rw [List.getElem?_set_self (by rw [HBL.out]; exact hlt2), HBI.out]
              · rw [List.getElem?_set_ne (Ne.symm e)]
                exact HBT.out k (by omega) hne)
            have HW4 := Lib.hid hw4
            clear hs hb0 hw4 hg4 hL2
            go_wp2
            rw [HW4.out]
            go_loopw [45] (fun v wy => ∃ k : Nat, v = .int .i64 k ∧ k ≤ i ∧ clash d M i k = false ∧ Below w4.heap.size w4 wy) (fun v _ => i - (intOf v).toNat)
            case atStart => exact ⟨0, rfl, Nat.zero_le _, rfl, Below.refl _ _⟩
            case round =>
              obtain ⟨k, rfl, hk, hck, hby⟩ := hrel
              have HLY := Lib.hid (HLA4.out.below hby)
              have HBY := Lib.hid (show Blk wr w.heap.size 26 (marksA (Bt.set i s.birth)) from HBK4.out.below hby HBK4.out.lt)
              have YB := Lib.hid (HBE4.out.trans (hby.mono HBE4.out.size))
              have HY := Lib.hid hby
              clear hby
              by_cases hki : k < i
              · have hkii : (k : Int) < (i : Int) := by omega
                have hkz : (0 : Int) ≤ (k : Int) := by omega
                have hk32 : (k : Int) < 32 := by omega
                obtain ⟨u, hu⟩ : ∃ u, M[k]? = some u := ⟨_, List.getElem?_eq_getElem (by rw [HLY.out.len]; omega)⟩
                have cu := HLY.out.mark hu
                have HMU := Lib.hid (mk_at hu)
                have cs1 := (HBY.out.cell i).trans (marksA_at (show (Bt.set i s.birth)[i]? = some s.birth from List.getElem?_set_self (by rw [HBL.out]; exact hlt2)))
                clear hu
                by_cases hu1 : u = 1
                · have HCK := Lib.hid (show clash d M i (k + 1) = false by rw [clash_succ, hck, HMU.out, hu1]; rfl)
                  subst hu1
                  go_wp2
                  go_big_quiet (fail)
                  go_wp2
                  go_roundw
                  case rel => exact ⟨k + 1, by go_num, by omega, HCK.out, Go.below_drewN HY.out _⟩
                  case measure => simp [intOf] <;> omega
                · have hub : (u != 1) = true := by simp [hu1]
                  have cs2 := (HBY.out.cell k).trans (marksA_at (HB4.out k (by omega) (by rw [HMU.out]; exact hu1)))
                  by_cases hbb : birthAt d k = s.birth
                  · have HXX := Lib.hid (show rr = some (i : Int) from HRR.out.symm.trans (restX_tw hlt2 HNO.out (by rw [HMK.out]; exact hv1) (clash_mono (j := k + 1) (by rw [clash_succ, hck, HMU.out, hub, hbb, HBI.out]; simp) (by omega)) HCL.out))
                    rw [hbb] at cs2
                    go_wp2
                    go_big_quiet (fail)
                    go_wp2_with (go_at_call 54; fail)
                    refine (cfault_any _ _).mono ?_
                    rintro e w' ⟨rfl, rfl⟩
                    rw [show placeI (i : Int) = i from if_pos (inR_nat hlt2)]
                    go_wp2
                    go_ret
                    rw [HXX.out]
                    exact ⟨rfl, Go.below_drewN YB.out _⟩
                  · have HCK := Lib.hid (show clash d M i (k + 1) = false by rw [clash_succ, hck, HBI.out]; simp [hbb])
                    have hbe : (birthAt d k == s.birth) = false := by simp [hbb]
                    go_wp2
                    go_big_quiet (fail)
                    go_wp2
                    go_roundw
                    case rel => exact ⟨k + 1, by go_num, by omega, HCK.out, Go.below_drewN HY.out _⟩
                    case measure => simp [intOf] <;> omega
              · obtain rfl : k = i := by omega
                have hka : ¬ ((k : Int) < (k : Int)) := by omega
                have HC2 := Lib.hid (show ∀ j, j < k + 1 → mk M j = 1 ∨ clash d M j j = false from fun j hj => by
                  rcases Nat.lt_or_ge j k with h1 | h1
                  · exact HCL.out j h1
                  · obtain rfl : j = k := by omega
                    exact .inr hck)
                go_wp2
                go_roundw
                case rel => exact ⟨k + 1, Bt.set k s.birth, by go_num, by omega, by rw [List.length_set]; exact HBL.out, HB4.out, HC2.out, HBY.out, HLY.out, YB.out⟩
                case measure => simp [intOf] <;> omega
        · obtain rfl : i = 32 := by omega
          have HXX := Lib.hid (show rr = none from HRR.out.symm.trans (restX_no HNO.out HCL.out))
          go_wp2
          go_ret
          rw [HXX.out]
          exact ⟨rfl, HBE.out⟩
end Go.Proofs.YtahcedpfnechfaaDoor
