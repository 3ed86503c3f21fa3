/-
  ring.All, Roots, Kids, Under: iterators, with the box and the row that they stand on.
-/
import Derived.Test.YtbidgpeeogoglaaDoorHn
namespace Go.Proofs.YtbidgpeeogoglaaDoor
set_option maxRecDepth 100000
open Go.RowKit Go.Shelf
attribute [local go_sem] Oper.semAt_some

/-- A call gives an iterator over these: its box and its row lie in new memory. -/
def RetBx (f : FuncId) (L : List Nat) (W : World) (e : Ending) (w' : World) : Prop :=
  ∃ B p cap, e = .returned (.func (.func f) #[] #[.pointer (some ⟨B, 0, none⟩)]) ∧ Boxed w' B 46 (.slice p L.length cap) ∧ IntsAt w' p (natInts L) ∧ W.heap.size ≤ B ∧ B < w'.heap.size ∧ (∀ a, p = some a → W.heap.size ≤ a.block ∧ a.block < w'.heap.size) ∧ Below W.heap.size W w'
theorem RetBx.from {f : FuncId} {L : List Nat} {W V : World} {e : Ending} {w' : World} (h : RetBx f L V e w') (hb : Below W.heap.size W V) : RetBx f L W e w' := by
  obtain ⟨B, p, cap, h1, h2, h3, h4, h5, h6, h7⟩ := h
  exact ⟨B, p, cap, h1, h2, h3, Nat.le_trans hb.size h4, h5, fun a e => ⟨Nat.le_trans hb.size (h6 a e).1, (h6 a e).2⟩, hb.trans (h7.mono hb.size)⟩
set_option maxHeartbeats 8000000 in
theorem allBox_any {S : St} (last : Int) (g : Nat) (w : World) (h : IsAr w g S) : Calls Tryd.prog 53 #[.pointer (some ⟨g, 0, none⟩), .int .i64 last] w fun e w' =>
    RetBx 87 (S.all last) w e w' := by
  obtain ⟨ii, iz, hi, hz0, hz1, hz2, hz3⟩ := intInfo
  have hgw := h.lt
  have HA := Lib.hid h
  clear h
  obtain ⟨V, hV⟩ : ∃ V, (w.alloc (.cells #[.int .i64 last] 3)).alloc (.cells #[.slice none 0 0] 46) = V := ⟨_, rfl⟩
  have hVs : V.heap.size ≤ w.heap.size + 2 ∧ w.heap.size + 2 ≤ V.heap.size := by rw [← hV]; simp
  have hbV : Below w.heap.size w V := by rw [← hV]; exact ((Below.refl _ _).alloc (Nat.le_refl _) _).alloc (by simp) _
  have bI : Boxed V w.heap.size 3 (.int .i64 last) := by rw [← hV]; exact (Boxed.new w _ _).alloc _
  have bL : Boxed V (w.heap.size + 1) 46 (.slice none 0 0) := by
    rw [← hV]
    have h := Boxed.new (w.alloc (.cells #[.int .i64 last] 3)) 46 (.slice none 0 0)
    rwa [World.size_alloc] at h
  have HAV := Lib.hid (HA.out.below hbV hgw)
  have ci := bI.cell
  have BI := Lib.hid bI
  have BL := Lib.hid bL
  have HV := Lib.hid hV
  have HBV := Lib.hid hbV
  refine calls_marks Tryd.func53 rfl ?_
  simp only [Tryd.ntmps53, List.size_toArray, List.length_cons, List.length_nil, Nat.reduceAdd, Nat.reduceSub, Array.replicate_succ, Array.replicate_zero, List.push_toArray, List.append_toArray, List.nil_append, List.cons_append]
  clear bI bL hbV hV
  rcases hin : inR last with _ | _
  · go_wp2_with (go_at_call 84; fail)
    rw [HV.out]
    refine (rthere_any _ _).mono ?_
    rintro e w1 ⟨rfl, rfl⟩
    go_wp2
    have he : S.all last = [] := by unfold St.all; rw [if_neg (by simp [hin])]
    refine ⟨_, results_tmp rfl _ _ _, w.heap.size + 1, none, 0, rfl, ?_, fun hn => ?_, by omega, by omega, fun a e => (by cases e), HBV.out⟩
    · rw [he]; exact BL.out
    · rw [he] at hn; simp [natInts] at hn
  · go_wp2_with (go_at_call 84; fail)
    rw [HV.out]
    refine (rthere_any _ _).mono ?_
    rintro e w1 ⟨rfl, rfl⟩
    go_wp2_with (go_at_call 86; fail)
    refine (of_any last g V HAV.out).mono ?_
    rintro e V2 ⟨rfl, hb2⟩
    have bi2 : Boxed V2 w.heap.size 3 (.int .i64 last) := (hb2.block w.heap.size BI.out.lt).trans BI.out
    have bl2 : Boxed V2 (w.heap.size + 1) 46 (.slice none 0 0) := (hb2.block (w.heap.size + 1) BL.out.lt).trans BL.out
    have ci2 := bi2.cell
    have BI2 := Lib.hid bi2
    have BL2 := Lib.hid bl2
    clear bi2 bl2
    have HA2 := Lib.hid (HAV.out.below hb2 HAV.out.lt)
    have HB2 := Lib.hid (HBV.out.trans (hb2.mono HBV.out.size))
    have hs2 := hb2.size
    have fl1 := field1
    obtain ⟨x, hx⟩ : ∃ x, S.lk last = x := ⟨_, rfl⟩
    obtain ⟨x1, x2⟩ := x
    have HX := Lib.hid hx
    rw [hx]
    unfold lkV
    clear hx hb2 ci HAV HBV BI BL
    go_wp2_with (go_at_call 85; fail)
    refine (from_any g x2 V2).mono ?_
    rintro e V3 ⟨rfl, rfl⟩
    obtain ⟨V3, hV3⟩ : ∃ V3, (V2.alloc (.cells #[.pointer (some ⟨g, 0, none⟩)] 23)).alloc (.cells #[.int .i64 x2] 3) = V3 := ⟨_, rfl⟩
    have hs3 : V3.heap.size ≤ V2.heap.size + 2 ∧ V2.heap.size + 2 ≤ V3.heap.size := by rw [← hV3]; simp
    have hb3 : Below V2.heap.size V2 V3 := by rw [← hV3]; exact ((Below.refl _ _).alloc (Nat.le_refl _) _).alloc (by simp) _
    have bA3 : Boxed V3 V2.heap.size 23 (.pointer (some ⟨g, 0, none⟩)) := by rw [← hV3]; exact (Boxed.new V2 _ _).alloc _
    have bI3 : Boxed V3 (V2.heap.size + 1) 3 (.int .i64 x2) := by
      rw [← hV3]
      have h := Boxed.new (V2.alloc (.cells #[.pointer (some ⟨g, 0, none⟩)] 23)) 3 (.int .i64 x2)
      rwa [World.size_alloc] at h
    rw [hV3]
    clear hV3
    have bL3 : Boxed V3 (w.heap.size + 1) 46 (.slice none 0 0) := (hb3.block (w.heap.size + 1) BL2.out.lt).trans BL2.out
    have bO3 : Boxed V3 w.heap.size 3 (.int .i64 last) := (hb3.block w.heap.size BI2.out.lt).trans BI2.out
    have HA3 := HA2.out.below hb3 HA2.out.lt
    have HB3 := Lib.hid (HB2.out.trans (hb3.mono HB2.out.size))
    have hll := run_len S 32 x2
    have HLL := Lib.hid hll
    have HW0 := Lib.hid HV.out
    clear hll ci2
    go_wp2
    have fin : ∀ (W : World) (pre : List Nat) (v : Value), S.all last = pre → Coll V2 (w.heap.size + 1) 46 (V3.heap.size + 2) 3 1 pre.length (intVs (natInts pre)) W v → W.heap[V3.heap.size]? = some (.deferred (some [])) →
        RetBx 87 (S.all last) w (.returned (.func (.func 87) #[] #[.pointer (some ⟨w.heap.size + 1, 0, none⟩)])) (W.putObj V3.heap.size (.deferred none)) := by
      intro W pre v hall hC hK
      have hs := hC.grown.size
      have hkl := (Array.getElem?_eq_some_iff.1 hK).1
      have hbx : Boxed (W.putObj V3.heap.size (.deferred none)) (w.heap.size + 1) 46 v := (World.putObj_heap_other (by omega)).trans hC.box
      have hrw := ownsRow_putObj hC.row (.deferred none) hK rfl
      obtain ⟨p, cap, rfl, hin, hp⟩ := owns_intsFrom hrw
      have hlen := all_len S last
      rw [hall] at hlen ⊢
      refine ⟨w.heap.size + 1, p, cap, rfl, hbx, hin, by omega, by rw [World.putObj_size]; omega, fun a e => ⟨by have := (hp a e).1; omega, (hp a e).2⟩, ?_⟩
      exact below_putObj (HB2.out.trans (hC.below (by omega) (by omega))) (by omega) _ (by omega)
    refine wp_seqP rfl (enters_of Tryd.func109 (by kernel_rfl) rfl) (from1_seqp x2 g (V2.heap.size + 1) V2.heap.size V3 w.heap.size (fun k => k = V2.heap.size + 1 ∨ k = V2.heap.size ∨ k = g) (.inl rfl) (.inr (.inl rfl)) (.inr (.inr rfl)) (by omega) (by omega) HA3 bI3 bA3) (by omega) (fun k hk => by rcases hk with rfl | rfl | rfl <;> omega) (fun k hk => by subst hk; omega) (Below.refl _ _) (fun _ => rfl)
      (fun pre W => (∀ y ∈ pre, (y : Int) ≠ last) ∧ Boxed W w.heap.size 3 (.int .i64 last) ∧ ∃ v, Coll V2 (w.heap.size + 1) 46 (V3.heap.size + 2) 3 1 pre.length (intVs (natInts pre)) W v)
      (fun cd pre W => cd = .exit 0 ∧ upto last (S.run 32 x2) = pre ∧ ∃ v, Coll V2 (w.heap.size + 1) 46 (V3.heap.size + 2) 3 1 pre.length (intVs (natInts pre)) W v)
      ((ZoneP.pure _).and ((ZoneP.box (by omega) (fun _ => .int .i64 last)).and (ZoneP.coll (by omega) (by omega) (by omega) (by omega) (fun pre => pre.length) (fun pre => intVs (natInts pre)))))
      (fun cd => (ZoneP.pure fun _ => cd = .exit 0).and ((ZoneP.pure _).and (ZoneP.coll (by omega) (by omega) (by omega) (by omega) (fun pre => pre.length) (fun pre => intVs (natInts pre)))))
      ⟨(fun y hy => by cases hy), bO3, _, bL3, World.ownsRow_nil _ _ _ _, grownBy_below hb3 _⟩ ?round ?done ?stop
    case stop =>
      rintro cd pre W hpre ⟨rfl, hup, v, hC⟩ hK
      have hall : S.all last = pre := by unfold St.all; rw [if_pos hin, HX.out]; exact hup
      go_wp2
      refine ⟨by simp, .inl ⟨_, _, rfl, run_takeDeferred hK, ?_⟩⟩
      refine ⟨_, results_tmp rfl _ _ _, ?_⟩
      exact fin W _ v hall hC hK
    case round =>
      intro l2 pre i V0 hpre
      simp only [natV]
      gi_wp2
      refine ⟨by trivial, fun V1 hsz1 ⟨hno, hbo, v, hC⟩ => ?_⟩
      have hc1 := hC.box.cell
      have hpl := hpre.length_le
      rw [List.length_append] at hpl
      have h1 : pre.length + (0 + 1) ≤ maxLen := by unfold maxLen; have := HLL.out; simp at hpl; omega
      have h2 : (pre.length + (0 + 1)) * 8 ≤ 140737488355328 := by have := HLL.out; simp at hpl; omega
      have H1 := Lib.hid h1
      have H2 := Lib.hid h2
      clear h1 h2
      have HBO := Lib.hid hbo
      clear hbo hpl
      by_cases heq : (i : Int) = last
      · have he : ((i : Int) == last) = true := by simp [heq]
        have HE := Lib.hid heq
        clear heq
        gi_wp2_with (gi_at_builtin; refine wpListIn_append_new (v := v) rfl _ _ 46 rfl Tryd.underlying46 hi hz0 hz1 hz2 hz3 (by decide) rfl hC.row 0 rfl rfl (int_one _) H1.out H2.out hsz1 ?_; intro g' cap' w1 hown1 hgr1; obtain ⟨hv1, hC2, hk2⟩ := hC.step (by omega) (by omega) hsz1 hown1 hgr1; have hc2 := hv1.cell; have hf2 := hv1.frozen; have ho2 : Boxed (w1.setCell ⟨w.heap.size + 1, 0, none⟩ (.slice (some ⟨g', 0, none⟩) (pre.length + (0 + 1)) cap')) w.heap.size 3 (.int .i64 last) := ((append_box hC.box hC.row (by omega) hsz1 hown1 hgr1).2.2.2.2.1 w.heap.size (by omega) (by omega)).trans HBO.out; have ho3 := ho2.cell)
        exact ⟨hk2 _ _ _ _ _ (by omega) (by rintro (h | h | h) <;> omega) (fun k hk => by rintro (h | h | h) <;> omega) (by omega) (by omega), rfl, upto_stop hpre hno HE.out, _, by rw [natInts_snoc, List.length_append]; exact hC2⟩
      · have he : ((i : Int) == last) = false := by simpa using heq
        gi_wp2_with (gi_at_builtin; refine wpListIn_append_new (v := v) rfl _ _ 46 rfl Tryd.underlying46 hi hz0 hz1 hz2 hz3 (by decide) rfl hC.row 0 rfl rfl (int_one _) H1.out H2.out hsz1 ?_; intro g' cap' w1 hown1 hgr1; obtain ⟨hv1, hC2, hk2⟩ := hC.step (by omega) (by omega) hsz1 hown1 hgr1; have hc2 := hv1.cell; have hf2 := hv1.frozen; have ho2 : Boxed (w1.setCell ⟨w.heap.size + 1, 0, none⟩ (.slice (some ⟨g', 0, none⟩) (pre.length + (0 + 1)) cap')) w.heap.size 3 (.int .i64 last) := ((append_box hC.box hC.row (by omega) hsz1 hown1 hgr1).2.2.2.2.1 w.heap.size (by omega) (by omega)).trans HBO.out; have ho3 := ho2.cell)
        exact ⟨hk2 _ _ _ _ _ (by omega) (by rintro (h | h | h) <;> omega) (fun k hk => by rintro (h | h | h) <;> omega) (by omega) (by omega), fun y hy => by
          rcases List.mem_append.1 hy with hy | hy
          · exact hno y hy
          · simp at hy; subst hy; exact heq, ho2, _, by rw [natInts_snoc, List.length_append]; exact hC2⟩
    case done =>
      rintro W ⟨hno, hbo, v, hC⟩ hK
      have hall : S.all last = S.run 32 x2 := by unfold St.all; rw [if_pos hin, HX.out]; exact upto_no hno
      go_wp2
      refine ⟨by simp, .inl ⟨_, _, rfl, run_takeDeferred hK, ?_⟩⟩
      refine ⟨_, results_tmp rfl _ _ _, ?_⟩
      exact fin W _ v hall hC hK
section
variable {S : St} {q g : Nat} {l : Int}
set_option maxHeartbeats 4000000 in
theorem trootsB_any (w W : World) (a : Ta w q g S l W) : Calls Tryd.prog 13 #[.pointer (some ⟨q, 0, none⟩)] W (RetBx 87 (S.all l) W) := by
  have HA := Lib.hid a
  obtain ⟨c0, c1, _⟩ := a.cells
  clear a
  go_enter Tryd.func13, Tryd.ntmps13
  go_upto_region 1 with fail
  refine wp_region_held_tail (S := fun W' => W'.cell? ⟨q, 0, none⟩ = some (.pointer (some ⟨g, 0, none⟩)) ∧ W'.cell? ⟨q, 1, none⟩ = some (.int .i64 l)) 8 (by kernel_rfl) (by kernel_rfl) rfl ⟨c0, c1⟩ ?_
  simp only [List.take_succ_cons, List.take_zero, List.drop_succ_cons, List.drop_zero]
  iterate 8 (refine wpHeld_cons (fun _ _ _ h => h) (Or.inl ⟨by rfl, by intro w hSw; (try dsimp only at hSw); go_simp; try with_reducible rfl⟩) ?_; try simp only [put_laws])
  intro K' hK
  have HA3 := Lib.hid (HA.out.read (Below.refl _ W).drew)
  have HB3 := Lib.hid ((Below.refl W.heap.size W).drew)
  generalize hv3 : W.drew = v3 at *
  go_simp
  go_at_call 53
  refine (allBox_any l g v3 HA3.out.ar).mono ?_
  rintro e w4 hR4; obtain ⟨B, p4, c4, rfl, hq1, hq2, hq3, hq4, hq5, hb4⟩ := hR4
  have HR := Lib.hid ((show RetBx 87 _ v3 _ w4 from ⟨B, p4, c4, rfl, hq1, hq2, hq3, hq4, hq5, hb4⟩).from HB3.out)
  have a4 := HA3.out.read hb4
  refine hK.out _ _ ⟨a4.cells.1, a4.cells.2.1⟩ (fun _ => ?_)
  clear c0 c1 hK hv3 hq1 hq2 hq3 hq4 hq5 hb4 a4
  try simp only [put_laws]
  go_wp2
  go_ret
  exact HR.out
set_option maxHeartbeats 4000000 in
theorem tkidsB_out {i : Int} (hi : inR i = false) (w W : World) (a : Ta w q g S l W) : Calls Tryd.prog 14 #[.pointer (some ⟨q, 0, none⟩), .int .i64 i] W (RetBx 87 [] W) := by
  have HG := get_gen i g W a.ar
  rw [show errAt i = errno 1 from if_neg (by simp [hi])] at HG
  have HGA := Lib.hid HG
  have HA := Lib.hid a
  obtain ⟨c0, _, _⟩ := a.cells
  have hneq := errno_neq 1
  have hgrd : ∀ x y w, (eqGuard .neq 55 x y (errno 1) .nilIface).run Tryd.prog w = .ok () w := fun x y w => by unfold errno; kernel_rfl
  generalize S.slotAt i = s at *
  clear HG a hi
  go_enter Tryd.func14, Tryd.ntmps14
  go_wp2_with (go_at_call 54; fail)
  refine HGA.out.mono ?_
  rintro e w2 ⟨rfl, hb2⟩
  obtain ⟨V2, hV2⟩ : ∃ V2, w2.alloc (.cells s.cells 39) = V2 := ⟨_, rfl⟩
  have hb3 : Below W.heap.size W V2 := by rw [← hV2]; exact hb2.alloc hb2.size _
  have HA2 := Lib.hid (HA.out.read hb3)
  have HB2 := Lib.hid hb3
  have HV2 := Lib.hid hV2
  obtain ⟨d0, _, _⟩ := HA2.out.cells
  clear hV2 hb2 hb3 HGA c0
  go_wp2_with (first
    | ((with_reducible show wpList _ _ _ _ _ (World.alloc _ _)); refine wpList_store_new (ty := 39) rfl rfl rfl rfl rfl (SlotV.one _) slotInfo ?_; rw [HV2.out])
    | (go_at_call 53; fail))
  have HC := allBox_any (-1) g V2 HA2.out.ar
  rw [all_none] at HC
  refine HC.mono ?_
  rintro e w4 hR4; obtain ⟨B, p4, c4, rfl, hq1, hq2, hq3, hq4, hq5, hb4⟩ := hR4
  have HR := Lib.hid ((show RetBx 87 _ V2 _ w4 from ⟨B, p4, c4, rfl, hq1, hq2, hq3, hq4, hq5, hb4⟩).from HB2.out)
  clear HC hq1 hq2 hq3 hq4 hq5 hb4 d0
  go_wp2
  go_ret
  exact HR.out
set_option maxHeartbeats 4000000 in
theorem tkidsB_in {i : Int} (hi : inR i = true) (w W : World) (a : Ta w q g S l W) : Calls Tryd.prog 14 #[.pointer (some ⟨q, 0, none⟩), .int .i64 i] W (RetBx 87 (S.all (S.slotAt i).kids) W) := by
  have HG := get_gen i g W a.ar
  rw [show errAt i = .nilIface from if_pos hi] at HG
  have HGA := Lib.hid HG
  have HA := Lib.hid a
  obtain ⟨c0, _, _⟩ := a.cells
  have hneq := nil_neq
  generalize S.slotAt i = s at *
  clear HG a hi
  go_enter Tryd.func14, Tryd.ntmps14
  go_wp2_with (go_at_call 54; fail)
  refine HGA.out.mono ?_
  rintro e w2 ⟨rfl, hb2⟩
  obtain ⟨bb, hbb⟩ : ∃ bb, w2.heap.size = bb := ⟨_, rfl⟩
  obtain ⟨V2, hV2⟩ : ∃ V2, w2.alloc (.cells s.cells 39) = V2 := ⟨_, rfl⟩
  have hb3 : Below W.heap.size W V2 := by rw [← hV2]; exact hb2.alloc hb2.size _
  have HK2 := Lib.hid (show Blk V2 bb 39 s.cells by rw [← hV2, ← hbb]; exact Blk.new _ _ _)
  have HA2 := Lib.hid (HA.out.read hb3)
  have HB2 := Lib.hid hb3
  have HV2 := Lib.hid hV2
  have HBB := Lib.hid hbb
  clear hV2 hb2 hb3 HGA c0 hbb
  go_upto_region 4 with (first
    | ((with_reducible show wpList _ _ _ _ _ (World.alloc _ _)); refine wpList_store_new (ty := 39) rfl rfl rfl rfl rfl (SlotV.one _) slotInfo ?_; rw [HV2.out, HBB.out]))
  refine wp_region_held_tail (S := fun W' => W'.cell? ⟨q, 0, none⟩ = some (.pointer (some ⟨g, 0, none⟩)) ∧ W'.cell? ⟨bb, 2, none⟩ = some (.int .i64 s.kids)) 6 (by kernel_rfl) (by kernel_rfl) rfl ⟨HA2.out.cells.1, (HK2.out.cell 2).trans rfl⟩ ?_
  simp only [List.take_succ_cons, List.take_zero, List.drop_succ_cons, List.drop_zero]
  iterate 6 (refine wpHeld_cons (fun _ _ _ h => h) (Or.inl ⟨by rfl, by intro w hSw; (try dsimp only at hSw); go_simp; try with_reducible rfl⟩) ?_; try simp only [put_laws])
  intro K' hK
  have HA3 := Lib.hid (HA2.out.read (Below.refl _ V2).drew)
  have HK3 := Lib.hid (HK2.out.below (Below.refl V2.heap.size V2).drew HK2.out.lt)
  have HB3 := Lib.hid (HB2.out.trans ((Below.refl V2.heap.size V2).drew.mono HB2.out.size))
  generalize hv3 : V2.drew = v3 at *
  go_simp
  go_at_call 53
  refine (allBox_any s.kids g v3 HA3.out.ar).mono ?_
  rintro e w4 hR4; obtain ⟨B, p4, c4, rfl, hq1, hq2, hq3, hq4, hq5, hb4⟩ := hR4
  have HR := Lib.hid ((show RetBx 87 _ v3 _ w4 from ⟨B, p4, c4, rfl, hq1, hq2, hq3, hq4, hq5, hb4⟩).from HB3.out)
  have a4 := HA3.out.read hb4
  refine hK.out _ _ ⟨a4.cells.1, ((HK3.out.below hb4 HK3.out.lt).cell 2).trans rfl⟩ (fun _ => ?_)
  clear hK hv3 hq1 hq2 hq3 hq4 hq5 hb4 a4
  try simp only [put_laws]
  go_wp2
  go_ret
  exact HR.out
theorem tkidsB_any (i : Int) (w W : World) (a : Ta w q g S l W) : Calls Tryd.prog 14 #[.pointer (some ⟨q, 0, none⟩), .int .i64 i] W (RetBx 87 (S.kidsOf i) W) := by
  unfold St.kidsOf
  rcases inR_cases i with hi | hi
  · rw [if_pos hi]
    exact tkidsB_in hi w W a
  · rw [if_neg (by simp [hi])]
    exact tkidsB_out hi w W a
end
section
variable {S : St} {q g : Nat} {l : Int}
set_option maxHeartbeats 8000000 in
theorem tunderB_in {k : Nat} (hk : k < 32) (W : World) (a : Ta W q g S l W) : Calls Tryd.prog 15 #[.pointer (some ⟨q, 0, none⟩), .int .i64 k] W (RetBx 56 (S.undr 33 k []) W) := by
  have hi := inR_nat hk
  obtain ⟨bl, hbl⟩ : ∃ bl, W.heap.size = bl := ⟨_, rfl⟩
  obtain ⟨V, hV⟩ : ∃ V, W.alloc (.cells #[.slice none 0 0] 46) = V := ⟨_, rfl⟩
  have hVs : V.heap.size ≤ W.heap.size + 1 ∧ W.heap.size + 1 ≤ V.heap.size := by rw [← hV]; simp
  have hbV : Below W.heap.size W V := by rw [← hV]; exact (Below.refl _ _).alloc (Nat.le_refl _) _
  have bL : Boxed V bl 46 (.slice none 0 0) := by rw [← hV, ← hbl]; exact Boxed.new W _ _
  have HA := Lib.hid (a.read hbV)
  have HG := get_gen (k : Int) g V HA.out.ar
  rw [show errAt (k : Int) = .nilIface from if_pos hi] at HG
  have HGA := Lib.hid HG
  have hc0 : (W.alloc (.cells #[.slice none 0 0] 46)).cell? ⟨q, 0, none⟩ = some (.pointer (some ⟨g, 0, none⟩)) := by rw [hV]; exact HA.out.cells.1
  have hneq : (binOp .eql 55 .nilIface .nilIface).run Tryd.prog W = .ok (.bool true) W := by kernel_rfl
  have HW := Lib.hid (fun V2 (hb : Below W.heap.size W V2) => tbelow_any W a 33 k [] (.slice none 0 0) V2 hk (by simp) RowOk.nil (World.ownsRow_nil _ _ _ _) hb)
  have hrow := (undr_row S 33 k [] hk RowOk.nil).1.len
  generalize S.undr 33 k [] = L at *
  generalize S.slotAt (k : Int) = s at *
  have HB := Lib.hid hbV
  have HV := Lib.hid hV
  have HBL := Lib.hid hbl
  have BL := Lib.hid bL
  clear HG a hi hbl hV hbV bL
  go_enter Tryd.func15, Tryd.ntmps15
  go_wp2_with (go_at_call 54; fail)
  rw [HV.out]
  refine HGA.out.mono ?_
  rintro e w2 ⟨rfl, hb2⟩
  obtain ⟨V2, hV2⟩ : ∃ V2, w2.alloc (.cells s.cells 39) = V2 := ⟨_, rfl⟩
  have hb3 : Below V.heap.size V V2 := by rw [← hV2]; exact hb2.alloc hb2.size _
  have hs3 := hb3.size
  have HB2 := Lib.hid (HB.out.trans (hb3.mono (by omega)))
  have HV2 := Lib.hid hV2
  have BL2 := Lib.hid (show Boxed V2 bl 46 (.slice none 0 0) from (hb3.block bl BL.out.lt).trans BL.out)
  clear hV2 hb2 hb3 HGA hc0
  go_wp2_with (first
    | ((with_reducible show wpList _ _ _ _ _ (World.alloc _ _)); refine wpList_store_new (ty := 39) rfl rfl rfl rfl rfl (SlotV.one _) slotInfo ?_; rw [HV2.out])
    | (go_at_call 55; fail))
  refine (HW.out V2 HB2.out).mono ?_
  rintro e V5 ⟨v5, rfl, hh5⟩
  have hs5 := hh5.gr.size
  have bL5 : Boxed V5 bl 46 (.slice none 0 0) := BL2.out.kept hh5.gr (fun e => by cases e)
  have hbl0 := HBL.out
  have hbw : Below W.heap.size W V5 := HB2.out.trans (hh5.below (fun r e => by cases e) HB2.out.size)
  have hne : ∀ r, v5.ownBlock = some r → r ≠ bl := fun r e => by
    rcases hh5.lie with h | h
    · rw [h] at e; cases e
    · have := h r e; omega
  obtain ⟨A, c, rfl, hin, ha⟩ := owns_intsFrom hh5.row
  have hg := grownBy_setCell' V5 bl (.slice A L.length c)
  have hgs := hg.size
  have HIN := Lib.hid (hin.apart hg (fun a e => fun e2 => by cases e2; exact hne a.block (by rw [e]; rfl) rfl))
  have HAA := Lib.hid ha
  have HBX := Lib.hid (bL5.set (.slice A L.length c))
  have HB6 := Lib.hid (hbw.grown hg hbw.size (fun k e => by cases e; omega))
  have hc5 := bL5.cell
  have hf5 := bL5.frozen
  clear hh5 hbw hne hin ha hg bL5 HW
  go_wp2
  go_ret
  exact ⟨bl, A, c, rfl, HBX.out, HIN.out, by omega, by omega, fun a e => by have := HAA.out a e; exact ⟨by omega, by omega⟩, HB6.out⟩
set_option maxHeartbeats 8000000 in
theorem tunderB_out {i : Int} (hi : inR i = false) (W : World) (a : Ta W q g S l W) : Calls Tryd.prog 15 #[.pointer (some ⟨q, 0, none⟩), .int .i64 i] W (RetBx 56 [] W) := by
  obtain ⟨bl, hbl⟩ : ∃ bl, W.heap.size = bl := ⟨_, rfl⟩
  obtain ⟨V, hV⟩ : ∃ V, W.alloc (.cells #[.slice none 0 0] 46) = V := ⟨_, rfl⟩
  have hVs : V.heap.size ≤ W.heap.size + 1 ∧ W.heap.size + 1 ≤ V.heap.size := by rw [← hV]; simp
  have hbV : Below W.heap.size W V := by rw [← hV]; exact (Below.refl _ _).alloc (Nat.le_refl _) _
  have bL : Boxed V bl 46 (.slice none 0 0) := by rw [← hV, ← hbl]; exact Boxed.new W _ _
  have HA := Lib.hid (a.read hbV)
  have HG := get_gen i g V HA.out.ar
  rw [show errAt i = errno 1 from if_neg (by simp [hi])] at HG
  have HGA := Lib.hid HG
  have hc0 : (W.alloc (.cells #[.slice none 0 0] 46)).cell? ⟨q, 0, none⟩ = some (.pointer (some ⟨g, 0, none⟩)) := by rw [hV]; exact HA.out.cells.1
  have hneq : ∀ w, (binOp .eql 55 (errno 1) .nilIface).run Tryd.prog w = .ok (.bool false) w := fun w => by unfold errno; kernel_rfl
  have hgrd : ∀ x y w, (eqGuard .eql 55 x y (errno 1) .nilIface).run Tryd.prog w = .ok () w := fun x y w => by unfold errno; kernel_rfl
  generalize S.slotAt i = s at *
  have HB := Lib.hid hbV
  have HV := Lib.hid hV
  have HBL := Lib.hid hbl
  have BL := Lib.hid bL
  clear HG a hi hbl hV hbV bL
  go_enter Tryd.func15, Tryd.ntmps15
  go_wp2_with (go_at_call 54; fail)
  rw [HV.out]
  refine HGA.out.mono ?_
  rintro e w2 ⟨rfl, hb2⟩
  obtain ⟨V2, hV2⟩ : ∃ V2, w2.alloc (.cells s.cells 39) = V2 := ⟨_, rfl⟩
  have hb3 : Below V.heap.size V V2 := by rw [← hV2]; exact hb2.alloc hb2.size _
  have hs3 := hb3.size
  have HB2 := Lib.hid (HB.out.trans (hb3.mono (by omega)))
  have HV2 := Lib.hid hV2
  have BL2 := Lib.hid (show Boxed V2 bl 46 (.slice none 0 0) from (hb3.block bl BL.out.lt).trans BL.out)
  have hbl0 := HBL.out
  clear hV2 hb2 hb3 HGA hc0
  go_wp2_with (first
    | ((with_reducible show wpList _ _ _ _ _ (World.alloc _ _)); refine wpList_store_new (ty := 39) rfl rfl rfl rfl rfl (SlotV.one _) slotInfo ?_; rw [HV2.out]))
  go_ret
  exact ⟨bl, none, 0, rfl, BL2.out, fun hn => by simp [natInts] at hn, by omega, by have := BL2.out.lt; omega, fun a e => (by cases e), HB2.out⟩
theorem tunderB_any (i : Int) (w W : World) (a : Ta w q g S l W) : Calls Tryd.prog 15 #[.pointer (some ⟨q, 0, none⟩), .int .i64 i] W (RetBx 56 (S.underOf i) W) := by
  unfold St.underOf
  rcases inR_cases i with hi | hi
  · rw [if_pos hi]
    have hir := inR_iff.1 hi
    obtain ⟨k, rfl⟩ : ∃ k : Nat, i = (k : Int) := ⟨i.toNat, by omega⟩
    rw [Int.toNat_natCast]
    exact tunderB_in (by omega) W a.here
  · rw [if_neg (by simp [hi])]
    exact tunderB_out hi W a.here
end
end Go.Proofs.YtbidgpeeogoglaaDoor
