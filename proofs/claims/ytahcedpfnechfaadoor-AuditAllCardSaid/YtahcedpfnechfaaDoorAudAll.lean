/-
  lineagelaw29: the walk of AuditAll.
-/
import Derived.Test.YtahcedpfnechfaaDoorAudW
import Derived.Test.YtahcedpfnechfaaDoorAudPu
namespace Go.Proofs.YtahcedpfnechfaaDoor
set_option maxRecDepth 100000
open Go.RowKit Go.Sort

/-- How many of the first ones are used. -/
def usedN (l : List SlotV) (k : Nat) : Nat := (l.take k).countP (·.used)
theorem usedN_succ {l : List SlotV} {k : Nat} {s : SlotV} (h : l[k]? = some s) : usedN l (k + 1) = usedN l k + (if s.used = true then 1 else 0) := by
  unfold usedN
  rw [List.take_add_one, h]
  show List.countP _ (l.take k ++ [s]) = _
  rw [List.countP_append]
  cases hu : s.used <;> simp [hu]
theorem usedN_le (l : List SlotV) (k : Nat) : usedN l k ≤ k := by
  unfold usedN
  have h1 := List.countP_le_length (p := fun s : SlotV => s.used) (l := l.take k)
  have h2 := List.length_take (i := k) (l := l)
  omega
/-- At the head of a round. -/
structure URel (l : List SlotV) (w : World) (u i : Value) (wr : World) : Prop where
  ex : ∃ k : Nat, k ≤ l.length ∧ i = .int .i64 k ∧ u = .int .i64 (usedN l k : Nat) ∧ w = wr
theorem checks_all (d : DumpV) : (∃ ev, checkV d = ev ∧ partsX d = (0, 0, 0) ∧ (∀ w, (binOp .neq 35 ev .nilIface).run Tryd.prog w = .ok (.bool true) w) ∧ ∀ (x y : Operand) w, (eqGuard .neq 35 x y ev .nilIface).run Tryd.prog w = .ok () w) ∨
    (checkV d = .nilIface ∧ argOk d ∧ PartsOk d (partsX d).1 (partsX d).2.1 (partsX d).2.2) := by
  by_cases hA : argOk d
  · have hcv : checkV d = outV (lookX d).1 := if_pos hA
    rcases ho : (lookX d).1 with _ | a
    · exact .inr ⟨by rw [hcv, ho]; rfl, hA, parts_ok d hA ho⟩
    · exact .inl ⟨faultV 24 a, by rw [hcv, ho]; rfl, if_neg (fun h => by rw [ho] at h; cases h.2), fun w => faultV_neq a w, fun x y w => faultV_grd a x y w⟩
  · exact .inl ⟨errno 1, if_neg hA, if_neg (fun h => hA h.1), fun w => errno_neqE 1 w, fun x y w => errno_grdE 1 x y w⟩
set_option maxHeartbeats 8000000 in
theorem auditAll_dump (d : DumpV) (As : Option Addr) (cs : Nat) (Af : Option Addr) (cf : Nat) (w : World) (hf : DumpFits d) (h : DumpIn w d As Af) (hg : Laid w) :
    Calls Tryd.prog 4 #[.agg (d.dc As cs Af cf).toArray] w (RetB (.bool true) w) := by
  have hsm : d.slots.length ≤ maxLen := by have := hf.slots; unfold maxLen; omega
  have hnm : d.free.length ≤ maxLen := by have := hf.free; unfold maxLen; omega
  have hpos := hg.pos
  have HU := Lib.hid Tryd.underlying25
  have HCC := Lib.hid fun w h => cCheck_any d As cs Af cf hsm hnm w h
  have HCP := Lib.hid fun w h => cParts_any d As cs Af cf hsm hnm w h
  have HALL := Lib.hid (checks_all d)
  obtain ⟨DC, hDC⟩ : ∃ DC, (d.dc As cs Af cf).toArray = DC := ⟨_, rfl⟩
  have HDI := Lib.hid (show (Tryd.prog.info? 25).map (·.size) = some DC.size by rw [← hDC]; exact dumpInfo)
  have HDC := Lib.hid hDC
  rw [hDC] at HCC HCP ⊢
  obtain ⟨v1, hv1⟩ : ∃ v1, w.alloc (.cells DC 25) = v1 := ⟨_, rfl⟩
  have hb1 : Below w.heap.size w v1 := by rw [← hv1]; exact (Below.refl _ _).alloc (Nat.le_refl _) _
  have hs1 : v1.heap.size ≤ w.heap.size + 1 ∧ w.heap.size + 1 ≤ v1.heap.size := by rw [← hv1]; simp
  have HB1 := Lib.hid hb1
  have D1 := Lib.hid (h.below hb1)
  have G1 := Lib.hid (hg.below hb1 hpos)
  have R1 := Lib.hid (show Blk v1 w.heap.size 25 DC by rw [← hv1]; exact Blk.new _ _ _)
  have HV1 := Lib.hid hv1
  clear hv1 hb1 h hg hDC hsm hnm
  go_enter Tryd.func4, Tryd.ntmps4
  go_wp2_with (go_at_call 14; fail)
  rw [HV1.out]
  refine (works_any v1 G1.out).mono ?_
  rintro e w2 ⟨rfl, hb2⟩
  have hs2 := hb2.size
  have D2 := Lib.hid (D1.out.below hb2)
  have R2 := Lib.hid (R1.out.below hb2 (by omega))
  have HB2 := Lib.hid (HB1.out.trans (hb2.mono (by omega)))
  clear hb2
  go_wp2_with (first
    | ((with_reducible show wpList _ _ _ (Oper.mk (some 11) (Op.load _ _) _ _ _ _ :: _) _ w2); refine wpList_load_at (ty := 25) rfl rfl rfl R2.out.row HU.out rfl HDI.out ?_)
    | (go_at_call 9; fail))
  refine (HCC.out w2 D2.out).mono ?_
  rintro e w3 ⟨rfl, hb3⟩
  have hs3 := hb3.size
  have D3 := Lib.hid (D2.out.below hb3)
  have R3 := Lib.hid (R2.out.below hb3 (by omega))
  have HB3 := Lib.hid (HB2.out.trans (hb3.mono (by omega)))
  clear hb3
  go_wp2_with (first
    | ((with_reducible show wpList _ _ _ (Oper.mk (some 14) (Op.load _ _) _ _ _ _ :: _) _ w3); refine wpList_load_at (ty := 25) rfl rfl rfl R3.out.row HU.out rfl HDI.out ?_)
    | (go_at_call 10; fail))
  refine (HCP.out w3 D3.out).mono ?_
  rintro e w4 ⟨rfl, hb4⟩
  have hs4 := hb4.size
  have D4 := Lib.hid (D3.out.below hb4)
  have R4 := Lib.hid (R3.out.below hb4 (by omega))
  have HB4 := Lib.hid (HB3.out.trans (hb4.mono (by omega)))
  clear hb4
  rcases HALL.out with ⟨ev, hev, hp, hneq, hgrd⟩ | ⟨hev, hA, hP⟩
  · rw [hev, hp]
    clear hev hp
    go_wp2
    go_ret
    exact ⟨rfl, HB4.out⟩
  · rw [hev]
    obtain ⟨pa, hpa⟩ : ∃ pa, (partsX d).1 = pa := ⟨_, rfl⟩
    obtain ⟨pb, hpb⟩ : ∃ pb, (partsX d).2.1 = pb := ⟨_, rfl⟩
    obtain ⟨pc, hpc⟩ : ∃ pc, (partsX d).2.2 = pc := ⟨_, rfl⟩
    rw [hpa, hpb, hpc] at hP ⊢
    have HP := Lib.hid hP
    have HAR := Lib.hid hA
    have x2 : w4.cell? ⟨w.heap.size, 2, none⟩ = some (.slice As d.slots.length cs) := by rw [R4.out.cell 2, ← HDC.out]; rfl
    have x3 : w4.cell? ⟨w.heap.size, 3, none⟩ = some (.slice Af d.free.length cf) := by rw [R4.out.cell 3, ← HDC.out]; rfl
    have x4 : w4.cell? ⟨w.heap.size, 4, none⟩ = some (.int .i64 d.garbage) := by rw [R4.out.cell 4, ← HDC.out]; rfl
    have x5 : w4.cell? ⟨w.heap.size, 5, none⟩ = some (.int .i64 d.roots) := by rw [R4.out.cell 5, ← HDC.out]; rfl
    clear hev hpa hpb hpc hP hA
    go_wp2
    go_loopw [7, 8] (URel d.slots w4) (fun _ i _ => d.slots.length - (intOf i).toNat)
    case atStart => exact ⟨⟨0, Nat.zero_le _, rfl, rfl, rfl⟩⟩
    case round =>
      obtain ⟨⟨k, hk, rfl, rfl, rfl⟩⟩ := hrel
      have h32 := HAR.out.1
      by_cases hlt : k < d.slots.length
      · have hki : (k : Int) < (d.slots.length : Int) := by omega
        obtain ⟨s, hs⟩ : ∃ s, d.slots[k]? = some s := ⟨_, List.getElem?_eq_getElem hlt⟩
        obtain ⟨b, off, rfl, hbl, hr⟩ := D4.out.slots (by omega)
        have e0 : w4.cell? ⟨b, off + k * 17, none⟩ = some (.bool s.used) := (hr k s hs).at_ 0 _ rfl
        have hu := usedN_succ hs
        have hul := usedN_le d.slots k
        have hul2 : (usedN d.slots k : Int) ≤ 32 := by omega
        have hk32 : (k : Int) ≤ 32 := by omega
        clear hr h32
        cases hus : s.used
        · rw [hus] at e0
          rw [hus, if_neg (by decide)] at hu
          have HU2 := Lib.hid hu
          clear hu hs hus
          go_wp2
          go_roundw
          case rel => exact ⟨⟨k + 1, by omega, by go_num, by rw [HU2.out]; go_num, rfl⟩⟩
          case measure => simp [intOf]; omega
        · rw [hus] at e0
          rw [hus, if_pos rfl] at hu
          have HU2 := Lib.hid hu
          clear hu hs hus
          go_wp2
          go_roundw
          case rel => exact ⟨⟨k + 1, by omega, by go_num, by rw [HU2.out]; go_num, rfl⟩⟩
          case measure => simp [intOf]; omega
      · have hki : ¬ (k : Int) < (d.slots.length : Int) := by omega
        obtain ⟨U, hU⟩ : ∃ U : Int, ((usedN d.slots k : Nat) : Int) = U := ⟨_, rfl⟩
        have hUc : (d.slots.countP (·.used) : Nat) = usedN d.slots k := by unfold usedN; rw [List.take_of_length_le (by omega)]
        have p1 := HP.out.apos
        have p2 := HP.out.bpos
        have p3 := HP.out.cpos
        have p4 : pa + pb = U := by rw [← hU, ← hUc]; exact HP.out.used
        have p5 : U + pc = 32 := by rw [← p4]; exact HP.out.sum
        have p6 := HP.out.free
        have p7 : pa ≤ 32 := by omega
        have p8 : pb ≤ 32 := by omega
        have p9 : U ≤ 32 := by omega
        have p10 : 0 ≤ U := by omega
        rw [hU]
        clear hU hUc h32 HAR
        have hr0 := HP.out.roots
        have hg0 := HP.out.garbage
        by_cases q1 : 0 < pa
        · have r1 := hr0.1 q1
          by_cases q2 : 0 < pb
          · have r2 := hg0.1 q2
            clear hr0 hg0
            go_wp2
            go_ret
            exact ⟨rfl, HB4.out⟩
          · have r2 : ¬ 0 ≤ d.garbage := fun h => q2 (hg0.2 h)
            clear hr0 hg0
            go_wp2
            go_ret
            exact ⟨rfl, HB4.out⟩
        · have r1 : ¬ 0 ≤ d.roots := fun h => q1 (hr0.2 h)
          by_cases q2 : 0 < pb
          · have r2 := hg0.1 q2
            clear hr0 hg0
            go_wp2
            go_ret
            exact ⟨rfl, HB4.out⟩
          · have r2 : ¬ 0 ≤ d.garbage := fun h => q2 (hg0.2 h)
            clear hr0 hg0
            go_wp2
            go_ret
            exact ⟨rfl, HB4.out⟩
end Go.Proofs.YtahcedpfnechfaaDoor
