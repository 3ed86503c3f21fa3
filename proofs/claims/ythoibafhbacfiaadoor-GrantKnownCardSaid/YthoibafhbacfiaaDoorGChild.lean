/-
  Package grant: Child.
-/
import Derived.Test.YthoibafhbacfiaaDoorGFirst2
import Derived.Test.YthoibafhbacfiaaDoorGBorn
import Derived.Shelf.Abstract
import Derived.Deep.RegionHeld3
import Derived.Test.YthoibafhbacfiaaDoorGLogin
namespace Go.Proofs.YthoibafhbacfiaaDoor
set_option maxRecDepth 100000
open Go.RowKit Go.Shelf

def rulesChild (B : Bir) : List Rule :=
  [⟨8, 31, !nameB B.r.label⟩, ⟨12, 21, decide (B.till = 0)⟩, ⟨17, 32, decide (B.p.depth < 0) || decide (6 ≤ B.p.depth)⟩, ⟨11, 33, !inB B.r.scopes B.p.scopes⟩, ⟨18, 22, decide (B.births < 0) || decide (1048576 ≤ B.births)⟩, ⟨19, 23, B.full⟩]
theorem rulesChild_at {B : Bir} {b : Nat} {w : World} (h : Blk w b 70 B.cells) : RulesAt b w (rulesChild B) := by
  have hb : ∀ w', Below w.heap.size w w' → Blk w' b 70 B.cells := fun w' hw => h.below hw h.lt
  refine .cons (enters_of Tryd.func31 (by kernel_rfl) rfl) (fun w' hw => noLabel_any (hb w' hw)) ?_
  refine .cons (enters_of Tryd.func21 (by kernel_rfl) rfl) (fun w' hw => noTime_any (hb w' hw)) ?_
  refine .cons (enters_of Tryd.func32 (by kernel_rfl) rfl) (fun w' hw => tooDeep_any (hb w' hw)) ?_
  refine .cons (enters_of Tryd.func33 (by kernel_rfl) rfl) (fun w' hw => tooWide_any (hb w' hw)) ?_
  refine .cons (enters_of Tryd.func22 (by kernel_rfl) rfl) (fun w' hw => noBirths_any (hb w' hw)) ?_
  exact .cons (enters_of Tryd.func23 (by kernel_rfl) rfl) (fun w' hw => noRoom_any (hb w' hw)) (.nil b w)
theorem rulesChild_pos (B : Bir) : ∀ (j : Nat) (r : Rule), (rulesChild B)[j]? = some r → r.no ≠ 0 := fun j r h => by
  have hm := List.mem_of_getElem? h
  simp only [rulesChild, List.mem_cons, List.not_mem_nil, or_false] at hm
  rcases hm with rfl | rfl | rfl | rfl | rfl | rfl <;> simp
theorem rulesChild_no (p : Sess) (r : Req) (now births : Int) (full : Bool) : firstNo (rulesChild (askedB p r now births full (tillZ now r.life p.deadline))) = childNo p r now births full := by
  unfold rulesChild childNo
  rw [firstNo, firstNo, firstNo, firstNo, room_rules]
  have e : ∀ b : Bir, (decide (b.p.depth < 0) || decide (6 ≤ b.p.depth)) = decide (b.p.depth < 0 ∨ 6 ≤ b.p.depth) := fun b => (Bool.decide_or _ _).symm
  rw [e]
  simp only [askedB]
  by_cases hn : nameB r.label = true <;> by_cases hl : inB r.scopes p.scopes = true <;> by_cases h : tillZ now r.life p.deadline = 0 <;> by_cases h2 : p.depth < 0 ∨ 6 ≤ p.depth <;> simp [h, h2, hn, hl]
def cellsChild : Array Value := #[.int .i64 8, .func (.func 31) #[] #[], .int .i64 12, .func (.func 21) #[] #[], .int .i64 17, .func (.func 32) #[] #[], .int .i64 11, .func (.func 33) #[] #[], .int .i64 18, .func (.func 22) #[] #[], .int .i64 19, .func (.func 23) #[] #[]]
theorem bs_child (w : World) : (Instr.buildSlice 73 6 #[(0, .agg #[.int .i64 8, .func (.func 31) #[] #[]]), (1, .agg #[.int .i64 12, .func (.func 21) #[] #[]]), (2, .agg #[.int .i64 17, .func (.func 32) #[] #[]]), (3, .agg #[.int .i64 11, .func (.func 33) #[] #[]]), (4, .agg #[.int .i64 18, .func (.func 22) #[] #[]]), (5, .agg #[.int .i64 19, .func (.func 23) #[] #[]])]).run Tryd.prog w = .ok (.slice (some ⟨w.heap.size, 0, none⟩) 6 6) (w.alloc (.cells cellsChild 50)) := by kernel_rfl
theorem cellsChild_eq (B : Bir) : cellsChild = (flat Rule.cells (rulesChild B)).toArray := rfl
theorem child_ok {p : Sess} {r : Req} {now births : Int} {full : Bool} (h : childNo p r now births full = 0) : (0 ≤ births ∧ births < 1048576) ∧ 0 ≤ p.depth ∧ p.depth < 6 := by
  unfold childNo at h
  repeat' split at h
  all_goals first | (cases h; done) | exact ⟨roomNo_ok h, by omega, by omega⟩
set_option maxHeartbeats 4000000 in
theorem child_any (p : Sess) (r : Req) (now births : Int) (full : Bool) (w : World) : Calls Tryd.prog 10 #[.agg p.cells, .agg r.cells, .int .i64 now, .int .i64 births, .bool full] w (RetB (.tuple #[.agg (childR p r now births full).cells, errK (childNo p r now births full)]) w) := by
  by_cases hz : childNo p r now births full = 0
  · have hS : childR p r now births full = (belowS p r now births 1 r.scopes p.level) := if_pos hz
    rw [hS, hz, errK_zero]
    have HZ0 := Lib.hid hz
    clear hS hz
    have HUS := Lib.hid Tryd.underlying31
    have HUR := Lib.hid Tryd.underlying25
    obtain ⟨W, hW⟩ : ∃ W, ((w.alloc (.cells p.cells 31)).alloc (.cells r.cells 25)).alloc (.cells zeroC 31) = W := ⟨_, rfl⟩
    have bP : Blk W w.heap.size 31 p.cells := hW ▸ ((Blk.new w _ _).alloc _).alloc _
    have bR : Blk W (w.heap.size + 1) 25 r.cells := hW ▸ (Blk.new_at (by simp)).alloc _
    have bZ : Blk W (w.heap.size + 1 + 1) 31 zeroC := hW ▸ Blk.new_at (by simp)
    have hB : Below w.heap.size w W := hW ▸ bel_alloc (bel_alloc (bel_alloc (Below.refl _ _) _) _) _
    have HP := Lib.hid bP.row
    have cD := (bP.cell 10).trans p.c10
    have HR := Lib.hid bR.row
    have HBR := Lib.hid bR
    have HBZ := Lib.hid bZ
    have HB := Lib.hid hB
    have HBP := Lib.hid bP
    clear bR bZ hB bP
    have HA := Lib.hid (asked_any p r now births full p.deadline W)
    unfold zeroC at hW
    go_enter Tryd.func10, Tryd.ntmps10
    go_wp2_with (first
      | (refine wpList_load_at (ty := 25) rfl rfl rfl HR.out HUR.out rfl reqInfo ?_)
      | (refine wpList_load_at (ty := 31) rfl rfl rfl HP.out HUS.out rfl sessInfo ?_)
      | (go_at_call 17; fail))
    refine HA.out.mono ?_
    rintro e W1 ⟨hb1, b, hbge, rfl, hblk⟩
    have HB1 := Lib.hid (HB.out.trans (hb1.mono HB.out.size))
    have HBR1 := Lib.hid (HBR.out.below hb1 HBR.out.lt)
    have HBZ1 := Lib.hid (HBZ.out.below hb1 HBZ.out.lt)
    have HBP1 := Lib.hid (HBP.out.below hb1 HBP.out.lt)
    have hne : (w.heap.size + 1 + 1) ≠ b := by have := HBZ.out.lt; omega
    have hblk2 := hblk.alloc (.cells cellsChild 50)
    have HF := Lib.hid (first_any (rulesChild (askedB p r now births full (tillZ now r.life p.deadline))) b W1.heap.size (W1.alloc (.cells cellsChild 50)) (by simp [rulesChild]) (Blk.new W1 _ _) (rulesChild_at hblk2) (rulesChild_pos _))
    rw [rulesChild_no, HZ0.out, errK_zero] at HF
    have HK := Lib.hid hblk2
    clear hb1 hbge hblk hblk2 HA HB HBR HBZ HR HP HBP cD hW
    go_wp2_with (first
      | (refine wpList_buildSlice_run rfl rfl (by simp [Act.eval, Act.put]) bs_child ?_)
      | (go_at_call 18; fail))
    refine HF.out.mono ?_
    rintro e W2 ⟨rfl, h2⟩
    have hA := bel_alloc HB1.out (.cells cellsChild 50)
    have HB2 := Lib.hid (hA.trans (h2.mono hA.size))
    have HBR2 := Lib.hid ((HBR1.out.alloc _).below h2 (HBR1.out.alloc (.cells cellsChild 50)).lt)
    have HBZ2 := Lib.hid ((HBZ1.out.alloc _).below h2 (HBZ1.out.alloc (.cells cellsChild 50)).lt)
    have HK2 := Lib.hid (HK.out.below h2 HK.out.lt)
    have HBP2 := Lib.hid ((HBP1.out.alloc _).below h2 (HBP1.out.alloc (.cells cellsChild 50)).lt)
    clear h2 hA HF HB1 HBR1 HBZ1 HK hne HBP1
    obtain ⟨S, hS⟩ : ∃ S : Sess, (belowB (askedB p r now births full (tillZ now r.life p.deadline)) 1) = S := ⟨_, rfl⟩
    have HFIN := Lib.hid (show (({ S with scopes := r.scopes, level := p.level } : Sess)) = (belowS p r now births 1 r.scopes p.level) from by rw [← hS]; rfl)
    have HQ := Lib.hid (born_below HK2.out (child_ok HZ0.out).1.1 (child_ok HZ0.out).1.2 (child_ok HZ0.out).2.1 (child_ok HZ0.out).2.2 1 rfl)
    have HQ := Lib.hid (show Calls Tryd.prog 24 #[.pointer (some ⟨b, 0, none⟩), .int .i64 1] W2 (RetB (.agg S.cells) W2) from hS ▸ HQ.out)
    clear hS
    go_wp2_with (go_at_call 24; fail)
    refine HQ.out.mono ?_
    rintro e W3 ⟨rfl, h3⟩
    obtain ⟨V, hV⟩ : ∃ V, W3.alloc (.cells S.cells 31) = V := ⟨_, rfl⟩
    have bN : Blk V W3.heap.size 31 S.cells := hV ▸ Blk.new W3 _ _
    have bR3 : Blk V (w.heap.size + 1) 25 r.cells := hV ▸ ((HBR2.out.below h3 HBR2.out.lt).alloc _)
    have bZ3 : Blk V (w.heap.size + 1 + 1) 31 zeroC := hV ▸ ((HBZ2.out.below h3 HBZ2.out.lt).alloc _)
    have bP3 : Blk V w.heap.size 31 p.cells := hV ▸ ((HBP2.out.below h3 HBP2.out.lt).alloc _)
    have HB3 := Lib.hid (show Below w.heap.size w V from hV ▸ bel_alloc (HB2.out.trans (h3.mono HB2.out.size)) _)
    have HNE := Lib.hid (show (w.heap.size + 1 + 1) ≠ W3.heap.size from Nat.ne_of_lt (HBZ2.out.below h3 HBZ2.out.lt).lt)
    have HW3 := Lib.hid (show w.heap.size ≤ W3.heap.size from (HB2.out.trans (h3.mono HB2.out.size)).size)
    have e1 := (bR3.cell 2).trans r.c2
    have e2 := (bP3.cell 8).trans p.c8
    have k7 := (bN.cell 7).trans S.c7
    have k8 := (bN.cell 8).trans S.c8
    have f7 := bN.frozen 7
    have f8 := bN.frozen 8
    have HN := Lib.hid bN
    have HZ3 := Lib.hid bZ3
    clear h3 bN bR3 bZ3 bP3 HQ HB2 HBR2 HBZ2 HK2 HBP2
    go_wp2_with (refine wpList_store_new (ty := 31) rfl rfl rfl rfl rfl (Sess.one _) sessInfo ?_)
    refine wp_region_noPanic ?_
    go_region
    all_goals (
      refine NoPanic.normal ?_
      obtain ⟨V2, hV2⟩ : ∃ V2, ((V.setCell ⟨W3.heap.size, 7, none⟩ (.int .u64 (wd r.scopes))).setCell ⟨W3.heap.size, 8, none⟩ (.int .i64 p.level)).drew = V2 := ⟨_, rfl⟩
      rw [hV2]
      have hR := Lib.hid (show RowAt V2 W3.heap.size 0 (belowS p r now births 1 r.scopes p.level).cells from by rw [← HFIN.out]; exact hV2 ▸ ((HN.out.set_ 7 (.int .u64 (wd r.scopes))).set_ 8 (.int .i64 p.level)).drew.row)
      have hZ4 := Lib.hid (show Blk V2 (w.heap.size + 1 + 1) 31 zeroC from hV2 ▸ ((HZ3.out.far (p := ⟨W3.heap.size, 7, none⟩) HNE.out _).far (p := ⟨W3.heap.size, 8, none⟩) HNE.out _).drew)
      have HB4 := Lib.hid (show Below w.heap.size w V2 from hV2 ▸ (bel_set (bel_set HB3.out (p := ⟨W3.heap.size, 7, none⟩) HW3.out _) (p := ⟨W3.heap.size, 8, none⟩) HW3.out _).drew)
      clear hV2 hV e1 e2 k7 k8 f7 f8 HN HZ3 HB3 HFIN
      go_wp2_with (first
        | (refine wpList_load_at (ty := 31) rfl rfl rfl hR.out HUS.out rfl sessInfo ?_)
        | (refine wpList_store_all (ty := 31) rfl rfl rfl rfl hZ4.out rfl (Sess.one _) sessInfo ?_))
      exact bodyPost_ret (results_at_tmp rfl rfl (Blk.setRow_same hZ4.out _).row HUS.out rfl sessInfo) rfl ⟨rfl, bel_setRow HB4.out (by omega) _⟩)
  · have hS : childR p r now births full = Sess.zero := if_neg hz
    obtain ⟨k, hk⟩ : ∃ k, childNo p r now births full = k := ⟨_, rfl⟩
    rw [hk] at hz
    rw [hS, hk, errK_pos hz]
    unfold errno
    have HKK := Lib.hid hk
    have HNK := Lib.hid hz
    clear hS hk hz
    have HUS := Lib.hid Tryd.underlying31
    have HUR := Lib.hid Tryd.underlying25
    obtain ⟨W, hW⟩ : ∃ W, ((w.alloc (.cells p.cells 31)).alloc (.cells r.cells 25)).alloc (.cells zeroC 31) = W := ⟨_, rfl⟩
    have bP : Blk W w.heap.size 31 p.cells := hW ▸ ((Blk.new w _ _).alloc _).alloc _
    have bR : Blk W (w.heap.size + 1) 25 r.cells := hW ▸ (Blk.new_at (by simp)).alloc _
    have bZ : Blk W (w.heap.size + 1 + 1) 31 zeroC := hW ▸ Blk.new_at (by simp)
    have hB : Below w.heap.size w W := hW ▸ bel_alloc (bel_alloc (bel_alloc (Below.refl _ _) _) _) _
    have HP := Lib.hid bP.row
    have cD := (bP.cell 10).trans p.c10
    have HR := Lib.hid bR.row
    have HBR := Lib.hid bR
    have HBZ := Lib.hid bZ
    have HB := Lib.hid hB
    have HBP := Lib.hid bP
    clear bR bZ hB bP
    have HA := Lib.hid (asked_any p r now births full p.deadline W)
    unfold zeroC at hW
    go_enter Tryd.func10, Tryd.ntmps10
    go_wp2_with (first
      | (refine wpList_load_at (ty := 25) rfl rfl rfl HR.out HUR.out rfl reqInfo ?_)
      | (refine wpList_load_at (ty := 31) rfl rfl rfl HP.out HUS.out rfl sessInfo ?_)
      | (go_at_call 17; fail))
    refine HA.out.mono ?_
    rintro e W1 ⟨hb1, b, hbge, rfl, hblk⟩
    have HB1 := Lib.hid (HB.out.trans (hb1.mono HB.out.size))
    have HBR1 := Lib.hid (HBR.out.below hb1 HBR.out.lt)
    have HBZ1 := Lib.hid (HBZ.out.below hb1 HBZ.out.lt)
    have HBP1 := Lib.hid (HBP.out.below hb1 HBP.out.lt)
    have hne : (w.heap.size + 1 + 1) ≠ b := by have := HBZ.out.lt; omega
    have hblk2 := hblk.alloc (.cells cellsChild 50)
    have HF := Lib.hid (first_any (rulesChild (askedB p r now births full (tillZ now r.life p.deadline))) b W1.heap.size (W1.alloc (.cells cellsChild 50)) (by simp [rulesChild]) (Blk.new W1 _ _) (rulesChild_at hblk2) (rulesChild_pos _))
    rw [rulesChild_no, HKK.out, errK_pos HNK.out] at HF
    unfold errno at HF
    have HK := Lib.hid hblk2
    clear hb1 hbge hblk hblk2 HA HB HBR HBZ HR HP HBP cD hW
    go_wp2_with (first
      | (refine wpList_buildSlice_run rfl rfl (by simp [Act.eval, Act.put]) bs_child ?_)
      | (go_at_call 18; fail))
    refine HF.out.mono ?_
    rintro e W2 ⟨rfl, h2⟩
    have hA := bel_alloc HB1.out (.cells cellsChild 50)
    have HB2 := Lib.hid (hA.trans (h2.mono hA.size))
    have HBR2 := Lib.hid ((HBR1.out.alloc _).below h2 (HBR1.out.alloc (.cells cellsChild 50)).lt)
    have HBZ2 := Lib.hid ((HBZ1.out.alloc _).below h2 (HBZ1.out.alloc (.cells cellsChild 50)).lt)
    have HK2 := Lib.hid (HK.out.below h2 HK.out.lt)
    have HBP2 := Lib.hid ((HBP1.out.alloc _).below h2 (HBP1.out.alloc (.cells cellsChild 50)).lt)
    clear h2 hA HF HB1 HBR1 HBZ1 HK hne HBP1
    have HZ := Lib.hid HBZ2.out
    go_wp2_with (first
      | (refine wpList_build_as (ty := 31) rfl rfl rfl built_zeroS ?_)
      | (refine wpList_store_all (ty := 31) (vs := Sess.zero.cells) rfl rfl rfl rfl HZ.out rfl (Sess.one _) sessInfo ?_))
    exact bodyPost_ret (results_at_tmp rfl rfl (Blk.setRow_same HZ.out _).row HUS.out rfl sessInfo) rfl ⟨rfl, bel_setRow HB2.out (by omega) _⟩
end Go.Proofs.YthoibafhbacfiaaDoor
