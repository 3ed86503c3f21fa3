/-
  lineagelaw22.GrantLess holds: the walk.
-/
import Derived.Test.YthoibafhbacfiaaGLess
namespace Go.Proofs.Ythoibafhbacfiaa
set_option maxRecDepth 100000
open Go.RowKit

structure LV (n l f : Nat) (p : Sess) (r : Req) (now births : Int) (full : Bool) (w : World) : Prop where
  v : Vars n p r now births full w
  bl : Blk w l 29 r.less.cells
  bf : Blk w f 29 r.fewer.cells
theorem LV.call {n l f : Nat} {p : Sess} {r : Req} {now births : Int} {full : Bool} {w w' : World} (h : LV n l f p r now births full w) (hb : Below w.heap.size w w') : LV n l f p r now births full w' :=
  ⟨h.v.call hb, h.bl.below hb h.bl.lt, h.bf.below hb h.bf.lt⟩
theorem LV.alloc {n l f : Nat} {p : Sess} {r : Req} {now births : Int} {full : Bool} {w : World} (h : LV n l f p r now births full w) (o : Obj) : LV n l f p r now births full (w.alloc o) := h.call (bel_alloc (Below.refl _ _) o)
theorem errK_way (k : Int) : errK k = .nilIface ∨ ∃ j, errK k = errno j := by
  unfold errK; split
  · exact .inl rfl
  · exact .inr ⟨_, rfl⟩
theorem errK_nil {k : Int} (h : errK k = .nilIface) : k = 0 := by
  unfold errK at h; split at h
  · assumption
  · cases h
set_option maxHeartbeats 4000000 in
theorem grantLess_any (p : Sess) (r : Req) (now births : Int) (full : Bool) (w : World) : Calls Try.prog 4 #[.agg p.cells, .agg r.cells, .agg (thereC now births full)] w (RetB (.bool true) w) := by
  have HUS := Lib.hid Try.underlying27
  have HUR := Lib.hid Try.underlying29
  obtain ⟨Sa, hSa⟩ : ∃ S : Sess, childR p r now births full = S := ⟨_, rfl⟩
  obtain ⟨Ea, hEa⟩ : ∃ E, errK (childNo p r now births full) = E := ⟨_, rfl⟩
  have Ha : Hid (∀ w, Calls Try.prog 6 #[.agg p.cells, .agg (Req.cells (r)), .int .i64 now, .int .i64 births, .bool full] w (RetB (.tuple #[.agg (Sess.cells Sa), Ea]) w)) := Lib.hid (fun w => hSa ▸ hEa ▸ child_any p r now births full w)
  obtain ⟨Sb, hSb⟩ : ∃ S : Sess, childR p (r.less) now births full = S := ⟨_, rfl⟩
  obtain ⟨Eb, hEb⟩ : ∃ E, errK (childNo p (r.less) now births full) = E := ⟨_, rfl⟩
  have Hb : Hid (∀ w, Calls Try.prog 6 #[.agg p.cells, .agg (Req.cells (r.less)), .int .i64 now, .int .i64 births, .bool full] w (RetB (.tuple #[.agg (Sess.cells Sb), Eb]) w)) := Lib.hid (fun w => hSb ▸ hEb ▸ child_any p (r.less) now births full w)
  obtain ⟨Sc, hSc⟩ : ∃ S : Sess, childR p (r.fewer) now births full = S := ⟨_, rfl⟩
  obtain ⟨Ec, hEc⟩ : ∃ E, errK (childNo p (r.fewer) now births full) = E := ⟨_, rfl⟩
  have Hc : Hid (∀ w, Calls Try.prog 6 #[.agg p.cells, .agg (Req.cells (r.fewer)), .int .i64 now, .int .i64 births, .bool full] w (RetB (.tuple #[.agg (Sess.cells Sc), Ec]) w)) := Lib.hid (fun w => hSc ▸ hEc ▸ child_any p (r.fewer) now births full w)
  obtain ⟨Sd, hSd⟩ : ∃ S : Sess, raisedR p r now births full = S := ⟨_, rfl⟩
  obtain ⟨Ed, hEd⟩ : ∃ E, errK (raisedNo p r now births full) = E := ⟨_, rfl⟩
  have Hd : Hid (∀ w, Calls Try.prog 7 #[.agg p.cells, .agg (Req.cells (r)), .int .i64 now, .int .i64 births, .bool full] w (RetB (.tuple #[.agg (Sess.cells Sd), Ed]) w)) := Lib.hid (fun w => hSd ▸ hEd ▸ raised_any p r now births full w)
  obtain ⟨Se, hSe⟩ : ∃ S : Sess, raisedR p (r.less) now births full = S := ⟨_, rfl⟩
  obtain ⟨Ee, hEe⟩ : ∃ E, errK (raisedNo p (r.less) now births full) = E := ⟨_, rfl⟩
  have He : Hid (∀ w, Calls Try.prog 7 #[.agg p.cells, .agg (Req.cells (r.less)), .int .i64 now, .int .i64 births, .bool full] w (RetB (.tuple #[.agg (Sess.cells Se), Ee]) w)) := Lib.hid (fun w => hSe ▸ hEe ▸ raised_any p (r.less) now births full w)
  have FA : Ea = .nilIface → Ec = .nilIface ∧ (1 < r.life → Eb = .nilIface) := fun h => by
    have h0 := child_less (errK_nil (hEa.trans h))
    exact ⟨by rw [← hEc, h0.1]; rfl, fun hl => by rw [← hEb, h0.2 hl]; rfl⟩
  have FD : Ed = .nilIface → 1 < r.life → Ee = .nilIface := fun h hl => by rw [← hEe, raised_less (errK_nil (hEd.trans h)) hl]; rfl
  have WA : Ea = .nilIface ∨ ∃ j, Ea = errno j := hEa ▸ errK_way _
  have WD : Ed = .nilIface ∨ ∃ j, Ed = errno j := hEd ▸ errK_way _
  have HFA := Lib.hid FA
  have HFD := Lib.hid FD
  have HWA := Lib.hid WA
  have HWD := Lib.hid WD
  clear FA FD WA WD hSa hSb hSc hSd hSe hEa hEb hEc hEd hEe
  obtain ⟨W, hW⟩ : ∃ W, ((w.alloc (.cells p.cells 27)).alloc (.cells r.cells 29)).alloc (.cells (thereC now births full) 31) = W := ⟨_, rfl⟩
  have HV := Lib.hid (show Vars w.heap.size p r now births full W from hW ▸ Vars.made w p r now births full)
  have HB := Lib.hid (show Below w.heap.size w W from hW ▸ bel_alloc (bel_alloc (bel_alloc (Below.refl _ _) _) _) _)
  unfold thereC at hW ⊢
  go_enter Try.func4, Try.ntmps4
  go_wp2_with (go_at_call 8; fail)
  refine (works_any _).mono ?_
  rintro e W1 ⟨rfl, h1⟩
  have V1 := HV.out.call h1
  have HB1 := Lib.hid (HB.out.trans (h1.mono HB.out.size))
  have HV1 := Lib.hid V1
  have c4 := ((V1.alloc (.cells r.cells 29)).br.cell 4).trans r.c4
  obtain ⟨Z, hZ⟩ : ∃ Z, W1.alloc (.cells (r.cells.setIfInBounds 4 (.int .i64 r.less.life)) 29) = Z := ⟨_, rfl⟩
  have HVZ := Lib.hid (show Vars w.heap.size p r now births full Z from hZ ▸ V1.alloc _)
  have HBl := Lib.hid (show Blk Z W1.heap.size 29 r.less.cells from hZ ▸ Blk.new W1 _ _)
  have HBZ := Lib.hid (show Below w.heap.size w Z from hZ ▸ bel_alloc HB1.out _)
  have HZs := Lib.hid (show Z.heap.size = W1.heap.size + 1 from hZ ▸ by simp)
  have z2 := ((HVZ.out.alloc (.cells r.cells 29)).br.cell 2).trans r.c2
  have hl : wrap64 (r.life - 1) = r.less.life := rfl
  have hz5 : r.scopes &&& 5#64 = r.fewer.scopes := rfl
  obtain ⟨X, hX⟩ : ∃ X, Z.alloc (.cells (r.cells.setIfInBounds 2 (.int .u64 (wd r.fewer.scopes))) 29) = X := ⟨_, rfl⟩
  have HL0 := Lib.hid (show LV w.heap.size W1.heap.size Z.heap.size p r now births full X from ⟨hX ▸ HVZ.out.alloc _, hX ▸ HBl.out.alloc _, hX ▸ Blk.new_at (t := 29) (cs := r.fewer.cells) rfl⟩)
  have HBX0 := Lib.hid (show Below w.heap.size w X from hX ▸ bel_alloc HBZ.out _)
  have x0 := HL0.out.v.x0
  have x1 := HL0.out.v.x1
  have x2 := HL0.out.v.x2
  clear h1 V1 hW
  go_wp2_with (first
    | (go_at_call 6; fail)
    | ((with_reducible show wpList _ _ _ _ _ W1); refine wpList_load_at (ty := 29) rfl rfl rfl HV1.out.br.row HUR.out rfl reqInfo ?_)
    | ((with_reducible show wpList _ _ _ _ _ Z); refine wpList_load_at (ty := 29) rfl rfl rfl HVZ.out.br.row HUR.out rfl reqInfo ?_)
    | ((with_reducible show wpList _ _ _ _ _ X); refine wpList_load_at (ty := 29) rfl rfl rfl HL0.out.v.br.row HUR.out rfl reqInfo ?_)
    | ((with_reducible show wpList _ _ _ _ _ X); refine wpList_load_at (ty := 27) rfl rfl rfl HL0.out.v.bp.row HUS.out rfl sessInfo ?_)
    | ((with_reducible show wpList _ _ _ _ _ (World.alloc _ _)); refine wpList_store_new (ty := 29) rfl rfl rfl rfl rfl (Req.one _) reqInfo ?_))
  clear c4 z2 hl hz5 hZ hX HV1 HB1 HV HB HVZ HBl HBZ HZs x0 x1 x2
  refine (Ha.out _).mono ?_
  rintro e Ua ⟨rfl, ha⟩
  have L := HL0.out.call ha
  have B0 := HBX0.out.trans (ha.mono HBX0.out.size)
  obtain ⟨XA, hXA⟩ : ∃ X, Ua.alloc (.cells Sa.cells 27) = X := ⟨_, rfl⟩
  have HLA := Lib.hid (show LV w.heap.size W1.heap.size Z.heap.size p r now births full XA from hXA ▸ L.alloc _)
  have HBXA := Lib.hid (show Below w.heap.size w XA from hXA ▸ bel_alloc B0 _)
  clear L B0 ha HL0 HBX0 Ha
  have x0 := HLA.out.v.x0
  have x1 := HLA.out.v.x1
  have x2 := HLA.out.v.x2
  go_wp2_with (first
    | (go_at_call 6; fail)
    | ((with_reducible show wpList _ _ _ _ _ XA); refine wpList_load_at (ty := 27) rfl rfl rfl HLA.out.v.bp.row HUS.out rfl sessInfo ?_)
    | ((with_reducible show wpList _ _ _ _ _ XA); refine wpList_load_at (ty := 29) rfl rfl rfl HLA.out.bl.row HUR.out rfl reqInfo ?_)
    | ((with_reducible show wpList _ _ _ _ _ (World.alloc _ _)); refine wpList_store_new (ty := 27) rfl rfl rfl rfl rfl (Sess.one _) sessInfo ?_))
  clear x0 x1 x2 hXA
  refine (Hb.out _).mono ?_
  rintro e Ub ⟨rfl, hb⟩
  have L := HLA.out.call hb
  have B0 := HBXA.out.trans (hb.mono HBXA.out.size)
  obtain ⟨XB, hXB⟩ : ∃ X, Ub.alloc (.cells Sb.cells 27) = X := ⟨_, rfl⟩
  have HLB := Lib.hid (show LV w.heap.size W1.heap.size Z.heap.size p r now births full XB from hXB ▸ L.alloc _)
  have HBXB := Lib.hid (show Below w.heap.size w XB from hXB ▸ bel_alloc B0 _)
  clear L B0 hb HLA HBXA Hb
  have x0 := HLB.out.v.x0
  have x1 := HLB.out.v.x1
  have x2 := HLB.out.v.x2
  go_wp2_with (first
    | (go_at_call 6; fail)
    | ((with_reducible show wpList _ _ _ _ _ XB); refine wpList_load_at (ty := 27) rfl rfl rfl HLB.out.v.bp.row HUS.out rfl sessInfo ?_)
    | ((with_reducible show wpList _ _ _ _ _ XB); refine wpList_load_at (ty := 29) rfl rfl rfl HLB.out.bf.row HUR.out rfl reqInfo ?_)
    | ((with_reducible show wpList _ _ _ _ _ (World.alloc _ _)); refine wpList_store_new (ty := 27) rfl rfl rfl rfl rfl (Sess.one _) sessInfo ?_))
  clear x0 x1 x2 hXB
  refine (Hc.out _).mono ?_
  rintro e Uc ⟨rfl, hc⟩
  have L := HLB.out.call hc
  have B0 := HBXB.out.trans (hc.mono HBXB.out.size)
  obtain ⟨XC, hXC⟩ : ∃ X, Uc.alloc (.cells Sc.cells 27) = X := ⟨_, rfl⟩
  have HLC := Lib.hid (show LV w.heap.size W1.heap.size Z.heap.size p r now births full XC from hXC ▸ L.alloc _)
  have HBXC := Lib.hid (show Below w.heap.size w XC from hXC ▸ bel_alloc B0 _)
  clear L B0 hc HLB HBXB Hc
  have x0 := HLC.out.v.x0
  have x1 := HLC.out.v.x1
  have x2 := HLC.out.v.x2
  go_wp2_with (first
    | (go_at_call 7; fail)
    | ((with_reducible show wpList _ _ _ _ _ XC); refine wpList_load_at (ty := 27) rfl rfl rfl HLC.out.v.bp.row HUS.out rfl sessInfo ?_)
    | ((with_reducible show wpList _ _ _ _ _ XC); refine wpList_load_at (ty := 29) rfl rfl rfl HLC.out.v.br.row HUR.out rfl reqInfo ?_)
    | ((with_reducible show wpList _ _ _ _ _ (World.alloc _ _)); refine wpList_store_new (ty := 27) rfl rfl rfl rfl rfl (Sess.one _) sessInfo ?_))
  clear x0 x1 x2 hXC
  refine (Hd.out _).mono ?_
  rintro e Ud ⟨rfl, hd⟩
  have L := HLC.out.call hd
  have B0 := HBXC.out.trans (hd.mono HBXC.out.size)
  obtain ⟨XD, hXD⟩ : ∃ X, Ud.alloc (.cells Sd.cells 27) = X := ⟨_, rfl⟩
  have HLD := Lib.hid (show LV w.heap.size W1.heap.size Z.heap.size p r now births full XD from hXD ▸ L.alloc _)
  have HBXD := Lib.hid (show Below w.heap.size w XD from hXD ▸ bel_alloc B0 _)
  clear L B0 hd HLC HBXC Hd
  have x0 := HLD.out.v.x0
  have x1 := HLD.out.v.x1
  have x2 := HLD.out.v.x2
  go_wp2_with (first
    | (go_at_call 7; fail)
    | ((with_reducible show wpList _ _ _ _ _ XD); refine wpList_load_at (ty := 27) rfl rfl rfl HLD.out.v.bp.row HUS.out rfl sessInfo ?_)
    | ((with_reducible show wpList _ _ _ _ _ XD); refine wpList_load_at (ty := 29) rfl rfl rfl HLD.out.bl.row HUR.out rfl reqInfo ?_)
    | ((with_reducible show wpList _ _ _ _ _ (World.alloc _ _)); refine wpList_store_new (ty := 27) rfl rfl rfl rfl rfl (Sess.one _) sessInfo ?_))
  clear x0 x1 x2 hXD
  refine (He.out _).mono ?_
  rintro e Ue ⟨rfl, he⟩
  have L := HLD.out.call he
  have B0 := HBXD.out.trans (he.mono HBXD.out.size)
  obtain ⟨XE, hXE⟩ : ∃ X, Ue.alloc (.cells Se.cells 27) = X := ⟨_, rfl⟩
  have HLE := Lib.hid (show LV w.heap.size W1.heap.size Z.heap.size p r now births full XE from hXE ▸ L.alloc _)
  have HBXE := Lib.hid (show Below w.heap.size w XE from hXE ▸ bel_alloc B0 _)
  clear L B0 he HLD HBXD He
  have c4 := (HLE.out.v.br.cell 4).trans r.c4
  have hend : (Ea = .nilIface ∧ Ec = .nilIface ∧ (1 < r.life ∧ Eb = .nilIface ∨ ¬ 1 < r.life)) ∨ ∃ j, Ea = errno j := by
    rcases HWA.out with h | h
    · refine .inl ⟨h, (HFA.out h).1, ?_⟩
      by_cases hl : 1 < r.life
      · exact .inl ⟨hl, (HFA.out h).2 hl⟩
      · exact .inr hl
    · exact .inr h
  have hend2 : (Ed = .nilIface ∧ (1 < r.life ∧ Ee = .nilIface ∨ ¬ 1 < r.life)) ∨ ∃ j, Ed = errno j := by
    rcases HWD.out with h | h
    · refine .inl ⟨h, ?_⟩
      by_cases hl : 1 < r.life
      · exact .inl ⟨hl, HFD.out h hl⟩
      · exact .inr hl
    · exact .inr h
  clear HFA HFD HWA HWD
  unfold errno at hend hend2
  rcases hend with ⟨rfl, rfl, ⟨hl, rfl⟩ | hl⟩ | ⟨j, rfl⟩
  all_goals
    rcases hend2 with ⟨rfl, ⟨hl2, rfl⟩ | hl2⟩ | ⟨j2, rfl⟩
    all_goals first
      | (exfalso; omega)
      | (have hq : (r.life ≤ 1) = False := by simp; omega
         go_wp2_with ((with_reducible show wpList _ _ _ _ _ (World.alloc _ _)); refine wpList_store_new (ty := 27) rfl rfl rfl rfl rfl (Sess.one _) sessInfo ?_)
         go_ret
         exact ⟨rfl, HBXE.out⟩)
      | (go_wp2_with ((with_reducible show wpList _ _ _ _ _ (World.alloc _ _)); refine wpList_store_new (ty := 27) rfl rfl rfl rfl rfl (Sess.one _) sessInfo ?_)
         go_ret
         exact ⟨rfl, HBXE.out⟩)
end Go.Proofs.Ythoibafhbacfiaa
