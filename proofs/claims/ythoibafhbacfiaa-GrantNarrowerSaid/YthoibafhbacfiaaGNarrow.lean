/-
  lineagelaw22.GrantNarrower holds: the walk.
-/
import Derived.Test.YthoibafhbacfiaaGLess
namespace Go.Proofs.Ythoibafhbacfiaa
set_option maxRecDepth 100000
open Go.RowKit

structure BelowOK (s p : Sess) (r : Req) (now births : Int) : Prop where
  sc : inB s.scopes p.scopes = true
  d1 : s.deadline ≤ p.deadline
  d2 : now < s.deadline
  d3 : wrap64 (s.deadline - now) ≤ r.life
  dp : s.depth = wrap64 (p.depth + 1)
  us : s.user = p.user
  u1 : s.upSlot = p.slot
  u2 : s.upBirth = p.birth
  bn : s.born = now
  bi : s.birth = wrap64 (births + 1)
theorem thereInfo : (Try.prog.info? 31).map (·.size) = some 3 := by kernel_rfl
theorem linkInfo : (Try.prog.info? 23).map (·.size) = some 2 := by kernel_rfl
theorem row_two {w : World} {g o : Nat} {a b : Value} (h0 : w.cell? ⟨g, o, none⟩ = some a) (h1 : w.cell? ⟨g, o + 1, none⟩ = some b) : RowAt w g o #[a, b] := ⟨fun j v hv => by
  match j, hv with
  | 0, hv => simp at hv; subst hv; exact h0
  | 1, hv => simp at hv; subst hv; exact h1⟩
set_option maxHeartbeats 2000000 in
theorem below_true (s p : Sess) (r : Req) (now births : Int) (full : Bool) (h : BelowOK s p r now births) (w : World) : Calls Try.prog 9 #[.agg s.cells, .agg p.cells, .agg r.cells, .agg (thereC now births full)] w (RetB (.bool true) w) := by
  have HUL := Lib.hid Try.underlying23
  have HI := Lib.hid (fun w => h.sc ▸ within_any s.scopes p.scopes w)
  have q1 : (s.deadline ≤ p.deadline) = True := by simp [h.d1]
  have q2 : (now < s.deadline) = True := by simp [h.d2]
  have q3 : (wrap64 (s.deadline - now) ≤ r.life) = True := by simp [h.d3]
  obtain ⟨W, hW⟩ : ∃ W, (((w.alloc (.cells s.cells 27)).alloc (.cells p.cells 27)).alloc (.cells r.cells 29)).alloc (.cells (thereC now births full) 31) = W := ⟨_, rfl⟩
  have bS : Blk W w.heap.size 27 s.cells := hW ▸ (((Blk.new w _ _).alloc _).alloc _).alloc _
  have bP : Blk W (w.heap.size + 1) 27 p.cells := hW ▸ ((Blk.new_at (by simp)).alloc _).alloc _
  have bR : Blk W (w.heap.size + 1 + 1) 29 r.cells := hW ▸ (Blk.new_at (by simp)).alloc _
  have bX : Blk W (w.heap.size + 1 + 1 + 1) 31 (thereC now births full) := hW ▸ Blk.new_at (by simp)
  have hB := Lib.hid (show Below w.heap.size w W from hW ▸ bel_alloc (bel_alloc (bel_alloc (bel_alloc (Below.refl _ _) _) _) _) _)
  have f0 := (bS.cell 7).trans (s.c7)
  have f1 := (bS.cell 10).trans (s.c10)
  have f2 := (bS.cell 11).trans (s.c11)
  have f3 := (bS.cell 5).trans (s.c5)
  have f4 := (bS.cell 9).trans (s.c9)
  have f5 := (bS.cell 1).trans (s.c1)
  have f6 := (bP.cell 7).trans (p.c7)
  have f7 := (bP.cell 10).trans (p.c10)
  have f8 := (bP.cell 11).trans (p.c11)
  have f9 := (bP.cell 5).trans (p.c5)
  have f10 := (bP.cell 0).trans (p.c0)
  have f11 := (bP.cell 1).trans (p.c1)
  have f12 := (bR.cell 4).trans r.c4
  have f13 : W.cell? ⟨w.heap.size + 1 + 1 + 1, 0, none⟩ = some (.int .i64 now) := bX.cell 0
  have f14 : W.cell? ⟨w.heap.size + 1 + 1 + 1, 1, none⟩ = some (.int .i64 births) := bX.cell 1
  have HR := Lib.hid (row_two (w := W) ((bS.cell 2).trans s.c2) ((bS.cell 3).trans s.c3))
  have e1 := h.dp
  have e2 := h.us
  have e3 := h.u1
  have e4 := h.u2
  have e5 := h.bn
  have e6 := h.bi
  clear bS bP bR bX h
  rw [e3, e4] at HR
  rw [e1] at f2
  rw [e2] at f3
  rw [e5] at f4
  rw [e6] at f5
  clear e1 e2 e3 e4 e5 e6
  unfold thereC at hW ⊢
  go_enter Try.func9, Try.ntmps9
  go_wp2_with (go_at_call 25; fail)
  refine (HI.out _).mono ?_
  rintro e W1 ⟨rfl, rfl⟩
  go_wp2_with ((with_reducible show wpList _ _ _ (Oper.mk _ (Op.load 23 (Operand.tmp 54)) _ _ _ _ :: _) _ W); refine wpList_load_at (ty := 23) rfl rfl rfl HR.out HUL.out rfl linkInfo ?_)
  go_ret
  exact ⟨rfl, hB.out⟩
theorem below_mk {p : Sess} {r : Req} {now b : Int} {f : Bool} {kind : Int} {x : BitVec 64} {l : Int} (ht : tillZ now r.life p.deadline ≠ 0) (hd : ¬ (p.depth < 0 ∨ 6 ≤ p.depth)) (hr : roomNo b f = 0) (hx : inB x p.scopes = true) :
    BelowOK (belowS p r now b kind x l) p r now b := by
  obtain ⟨a1, a2, a3, a4, a5, a6, a7, a8, a9⟩ := till_pos ht
  have hb : 0 ≤ b ∧ b < 1048576 := by
    unfold roomNo at hr
    split at hr
    · cases hr
    · omega
  have q1 : wrap64 (p.depth + 1) = p.depth + 1 := IntWalk.wrap64_in _ (by omega)
  have q2 : wrap64 (b + 1) = b + 1 := IntWalk.wrap64_in _ (by omega)
  refine ⟨hx, ?_, a9, ?_, q1.symm, rfl, rfl, rfl, rfl, q2.symm⟩
  · show tillZ now r.life p.deadline ≤ p.deadline
    omega
  · show wrap64 (tillZ now r.life p.deadline - now) ≤ r.life
    rw [IntWalk.wrap64_in _ (by omega)]
    omega
theorem inB_self (x : BitVec 64) : inB x x = true := by simp [inB]
/-- What a child is, in each case. -/
theorem child_way (p : Sess) (r : Req) (now b : Int) (f : Bool) : (errK (childNo p r now b f) = .nilIface ∧ ∃ s, childR p r now b f = s ∧ BelowOK s p r now b ∧ s.level = p.level ∧ s.scopes = r.scopes ∧ s.kind = 1) ∨ ∃ j, errK (childNo p r now b f) = errno j ∧ childR p r now b f = Sess.zero := by
  by_cases h : childNo p r now b f = 0
  · obtain ⟨h1, h2, h3, h4, h5⟩ := (child_ok_iff _ _ _ _ _).1 h
    exact .inl ⟨by rw [h]; rfl, _, if_pos h, below_mk h2 h3 h5 h4, rfl, rfl, rfl⟩
  · exact .inr ⟨_, errK_pos h, if_neg h⟩
theorem raised_way (p : Sess) (r : Req) (now b : Int) (f : Bool) : (errK (raisedNo p r now b f) = .nilIface ∧ ∃ s, raisedR p r now b f = s ∧ BelowOK s p r now b ∧ p.level < s.level ∧ s.scopes = p.scopes ∧ s.kind = 2 ∧ wrap64 (s.deadline - now) ≤ 300) ∨ ∃ j, errK (raisedNo p r now b f) = errno j ∧ raisedR p r now b f = Sess.zero := by
  by_cases h : raisedNo p r now b f = 0
  · obtain ⟨h1, h2, h3, h4, h5, h6⟩ := (raised_ok_iff _ _ _ _ _).1 h
    have hb : BelowOK (belowS p r now b 2 p.scopes r.level) p r now b := below_mk h2 h4 h6 (inB_self _)
    have hl : p.level < r.level := by
      simp [stepB] at h5; exact h5.2
    have hd := hb.d3
    exact .inl ⟨by rw [h]; rfl, _, if_pos h, hb, hl, rfl, rfl, by omega⟩
  · exact .inr ⟨_, errK_pos h, if_neg h⟩
set_option maxHeartbeats 4000000 in
theorem grantNarrower_any (p : Sess) (r : Req) (now births : Int) (full : Bool) (w : World) : Calls Try.prog 3 #[.agg p.cells, .agg r.cells, .agg (thereC now births full)] w (RetB (.bool true) w) := by
  have HUS := Lib.hid Try.underlying27
  have HUR := Lib.hid Try.underlying29
  have HUX := Lib.hid Try.underlying31
  have WA := Lib.hid (child_way p r now births full)
  have WD := Lib.hid (raised_way p r now births full)
  have Ha := Lib.hid (fun w => child_any p r now births full w)
  have Hd := Lib.hid (fun w => raised_any p r now births full w)
  generalize childR p r now births full = Sa at WA Ha
  generalize errK (childNo p r now births full) = Ea at WA Ha
  generalize raisedR p r now births full = Sd at WD Hd
  generalize errK (raisedNo p r now births full) = Ed at WD Hd
  obtain ⟨W, hW⟩ : ∃ W, ((w.alloc (.cells p.cells 27)).alloc (.cells r.cells 29)).alloc (.cells (thereC now births full) 31) = W := ⟨_, rfl⟩
  have HL0 := Lib.hid (show Vars w.heap.size p r now births full W from hW ▸ Vars.made w p r now births full)
  have HBX0 := Lib.hid (show Below w.heap.size w W from hW ▸ bel_alloc (bel_alloc (bel_alloc (Below.refl _ _) _) _) _)
  have x0 := HL0.out.x0
  have x1 := HL0.out.x1
  have x2 := HL0.out.x2
  unfold thereC at hW ⊢
  go_enter Try.func3, Try.ntmps3
  go_wp2_with (first
    | (go_at_call 6; fail)
    | ((with_reducible show wpList _ _ _ (Oper.mk _ (Op.load 27 (Operand.tmp 3)) _ _ _ _ :: _) _ W); refine wpList_load_at (ty := 27) rfl rfl rfl HL0.out.bp.row HUS.out rfl sessInfo ?_)
    | ((with_reducible show wpList _ _ _ (Oper.mk _ (Op.load 29 (Operand.tmp 4)) _ _ _ _ :: _) _ W); refine wpList_load_at (ty := 29) rfl rfl rfl HL0.out.br.row HUR.out rfl reqInfo ?_))
  clear x0 x1 x2 hW
  refine (Ha.out _).mono ?_
  rintro e Ua ⟨rfl, ha⟩
  have L := HL0.out.call ha
  have B0 := HBX0.out.trans (ha.mono HBX0.out.size)
  obtain ⟨XA, hXA⟩ : ∃ X, Ua.alloc (.cells Sa.cells 27) = X := ⟨_, rfl⟩
  have HLA := Lib.hid (show Vars w.heap.size p r now births full XA from hXA ▸ L.alloc _)
  have HSA := Lib.hid (show Blk XA Ua.heap.size 27 Sa.cells from hXA ▸ Blk.new Ua _ _)
  have HBXA := Lib.hid (show Below w.heap.size w XA from hXA ▸ bel_alloc B0 _)
  clear L B0 ha HL0 HBX0 Ha
  have x0 := HLA.out.x0
  have x1 := HLA.out.x1
  have x2 := HLA.out.x2
  go_wp2_with (first
    | (go_at_call 7; fail)
    | ((with_reducible show wpList _ _ _ (Oper.mk _ (Op.load 27 (Operand.tmp 3)) _ _ _ _ :: _) _ XA); refine wpList_load_at (ty := 27) rfl rfl rfl HLA.out.bp.row HUS.out rfl sessInfo ?_)
    | ((with_reducible show wpList _ _ _ (Oper.mk _ (Op.load 29 (Operand.tmp 4)) _ _ _ _ :: _) _ XA); refine wpList_load_at (ty := 29) rfl rfl rfl HLA.out.br.row HUR.out rfl reqInfo ?_)
    | ((with_reducible show wpList _ _ _ (Oper.mk _ (Op.store 27 _ _) _ _ _ _ :: _) _ (World.alloc _ _)); refine wpList_store_new (ty := 27) rfl rfl rfl rfl rfl (Sess.one _) sessInfo ?_))
  clear x0 x1 x2 hXA
  refine (Hd.out _).mono ?_
  rintro e Ud ⟨rfl, hd⟩
  have L := HLA.out.call hd
  have SA := HSA.out.below hd HSA.out.lt
  have B0 := HBXA.out.trans (hd.mono HBXA.out.size)
  obtain ⟨XD, hXD⟩ : ∃ X, Ud.alloc (.cells Sd.cells 27) = X := ⟨_, rfl⟩
  have HLD := Lib.hid (show Vars w.heap.size p r now births full XD from hXD ▸ L.alloc _)
  have HSD := Lib.hid (show Blk XD Ud.heap.size 27 Sd.cells from hXD ▸ Blk.new Ud _ _)
  have HTA := Lib.hid (show Blk XD Ua.heap.size 27 Sa.cells from hXD ▸ SA.alloc _)
  have HBXD := Lib.hid (show Below w.heap.size w XD from hXD ▸ bel_alloc B0 _)
  clear L B0 hd HLA HSA SA HBXA Hd
  go_wp2_with (first
    | (go_at_call 8; fail)
    | ((with_reducible show wpList _ _ _ (Oper.mk _ (Op.store 27 _ _) _ _ _ _ :: _) _ (World.alloc _ _)); refine wpList_store_new (ty := 27) rfl rfl rfl rfl rfl (Sess.one _) sessInfo ?_))
  clear hXD
  refine (works_any _).mono ?_
  rintro e V ⟨rfl, hv⟩
  have HL := Lib.hid (HLD.out.call hv)
  have HA := Lib.hid (HTA.out.below hv HTA.out.lt)
  have HD := Lib.hid (HSD.out.below hv HSD.out.lt)
  have HB := Lib.hid (HBXD.out.trans (hv.mono HBXD.out.size))
  clear hv HLD HSD HTA HBXD
  rcases WA.out with ⟨rfl, sa, rfl, ka, la, ca, na⟩ | ⟨ja, rfl, za⟩
  ·
    have KA := Lib.hid ka
    clear ka WA
    have lA := Lib.hid la
    have cA := Lib.hid ca
    have nA := Lib.hid na
    clear la ca na
    go_wp2_with (first
        | (go_at_call 9; fail)
        | ((with_reducible show wpList _ _ _ (Oper.mk _ (Op.load 27 (Operand.tmp 7)) _ _ _ _ :: _) _ V); refine wpList_load_at (ty := 27) rfl rfl rfl HA.out.row HUS.out rfl sessInfo ?_)
        | ((with_reducible show wpList _ _ _ (Oper.mk _ (Op.load 27 (Operand.tmp 3)) _ _ _ _ :: _) _ V); refine wpList_load_at (ty := 27) rfl rfl rfl HL.out.bp.row HUS.out rfl sessInfo ?_)
        | ((with_reducible show wpList _ _ _ (Oper.mk _ (Op.load 29 (Operand.tmp 4)) _ _ _ _ :: _) _ V); refine wpList_load_at (ty := 29) rfl rfl rfl HL.out.br.row HUR.out rfl reqInfo ?_)
        | ((with_reducible show wpList _ _ _ (Oper.mk _ (Op.load 31 (Operand.tmp 5)) _ _ _ _ :: _) _ V); refine wpList_load_at (ty := 31) rfl rfl rfl HL.out.bx.row HUX.out rfl thereInfo ?_))
    refine (below_true _ _ _ _ _ _ KA.out _).mono ?_
    rintro e V1 ⟨rfl, hv⟩
    have HL1 := Lib.hid (HL.out.call hv)
    have HA1 := Lib.hid (HA.out.below hv HA.out.lt)
    have HD1 := Lib.hid (HD.out.below hv HD.out.lt)
    have HB1 := Lib.hid (HB.out.trans (hv.mono HB.out.size))
    clear hv HL HA HD HB KA
    have ga := (HA1.out.cell 8).trans Sa.c8
    have gb := (HA1.out.cell 7).trans Sa.c7
    have gc := (HA1.out.cell 4).trans Sa.c4
    have gp := (HL1.out.bp.cell 8).trans p.c8
    have gr := (HL1.out.br.cell 2).trans r.c2
    rw [lA.out] at ga
    rw [cA.out] at gb
    rw [nA.out] at gc
    clear lA cA nA
    rcases WD.out with ⟨rfl, sd, rfl, kd, ld, cd, nd, td⟩ | ⟨jd, rfl, zd⟩
    ·
      have KD := Lib.hid kd
      clear kd WD
      have TD := Lib.hid td
      have LD := Lib.hid ld
      clear td ld
      go_wp2_with (first
          | (go_at_call 9; fail)
          | ((with_reducible show wpList _ _ _ (Oper.mk _ (Op.load 27 (Operand.tmp 9)) _ _ _ _ :: _) _ V1); refine wpList_load_at (ty := 27) rfl rfl rfl HD1.out.row HUS.out rfl sessInfo ?_)
          | ((with_reducible show wpList _ _ _ (Oper.mk _ (Op.load 27 (Operand.tmp 3)) _ _ _ _ :: _) _ V1); refine wpList_load_at (ty := 27) rfl rfl rfl HL1.out.bp.row HUS.out rfl sessInfo ?_)
          | ((with_reducible show wpList _ _ _ (Oper.mk _ (Op.load 29 (Operand.tmp 4)) _ _ _ _ :: _) _ V1); refine wpList_load_at (ty := 29) rfl rfl rfl HL1.out.br.row HUR.out rfl reqInfo ?_)
          | ((with_reducible show wpList _ _ _ (Oper.mk _ (Op.load 31 (Operand.tmp 5)) _ _ _ _ :: _) _ V1); refine wpList_load_at (ty := 31) rfl rfl rfl HL1.out.bx.row HUX.out rfl thereInfo ?_))
      clear ga gb gc gp gr
      refine (below_true _ _ _ _ _ _ KD.out _).mono ?_
      rintro e V2 ⟨rfl, hv⟩
      have HL2 := Lib.hid (HL1.out.call hv)
      have HA2 := Lib.hid (HA1.out.below hv HA1.out.lt)
      have HD2 := Lib.hid (HD1.out.below hv HD1.out.lt)
      have HB2 := Lib.hid (HB1.out.trans (hv.mono HB1.out.size))
      clear hv HL1 HA1 HD1 HB1 KD
      have ga := (HD2.out.cell 8).trans Sd.c8
      have gb := (HD2.out.cell 7).trans Sd.c7
      have gc := (HD2.out.cell 4).trans Sd.c4
      have gd := (HD2.out.cell 10).trans Sd.c10
      have gp := (HL2.out.bp.cell 8).trans p.c8
      have gr := (HL2.out.bp.cell 7).trans p.c7
      have gx := HL2.out.x0
      rw [cd] at gb
      rw [nd] at gc
      clear cd nd
      have u1 : (Sd.level ≤ p.level) = False := by simp; exact LD.out
      have u2 : (300 < wrap64 (Sd.deadline - now)) = False := by simp; exact TD.out
      go_wp2
      go_ret
      exact ⟨rfl, HB2.out⟩
    ·
      have zD := Lib.hid zd
      clear WD zd
      unfold errno
      have heqd : ∀ w, (binOp .eql 27 (.agg Sd.cells) (.agg #[.int .i64 0, .int .i64 0, .int .i64 0, .int .i64 0, .int .i64 0, .string ⟨#[]⟩, .string ⟨#[]⟩, .int .u64 0, .int .i64 0, .int .i64 0, .int .i64 0, .int .i64 0])).run Try.prog w = .ok (.bool true) w := fun w => by rw [zD.out]; show (binOp .eql 27 (.agg Sess.zero.cells) (.agg Sess.zero.cells)).run Try.prog w = _; rw [eql_sess, Sess.same_refl]
      go_wp2_with (first
          | ((with_reducible show wpList _ _ _ (Oper.mk (some 114) (Op.load 27 (Operand.tmp 9)) _ _ _ _ :: _) _ V1); refine wpList_load_at (ty := 27) rfl rfl rfl HD1.out.row HUS.out rfl sessInfo ?_))
      go_ret
      exact ⟨rfl, HB1.out⟩
  ·
    have zA := Lib.hid za
    clear WA za
    unfold errno
    rcases WD.out with ⟨rfl, sd, rfl, kd, ld, cd, nd, td⟩ | ⟨jd, rfl, zd⟩
    ·
      have KD := Lib.hid kd
      clear kd WD
      have TD := Lib.hid td
      have LD := Lib.hid ld
      clear td ld
      go_wp2_with (first
          | (go_at_call 9; fail)
          | ((with_reducible show wpList _ _ _ (Oper.mk _ (Op.load 27 (Operand.tmp 9)) _ _ _ _ :: _) _ V); refine wpList_load_at (ty := 27) rfl rfl rfl HD.out.row HUS.out rfl sessInfo ?_)
          | ((with_reducible show wpList _ _ _ (Oper.mk _ (Op.load 27 (Operand.tmp 3)) _ _ _ _ :: _) _ V); refine wpList_load_at (ty := 27) rfl rfl rfl HL.out.bp.row HUS.out rfl sessInfo ?_)
          | ((with_reducible show wpList _ _ _ (Oper.mk _ (Op.load 29 (Operand.tmp 4)) _ _ _ _ :: _) _ V); refine wpList_load_at (ty := 29) rfl rfl rfl HL.out.br.row HUR.out rfl reqInfo ?_)
          | ((with_reducible show wpList _ _ _ (Oper.mk _ (Op.load 31 (Operand.tmp 5)) _ _ _ _ :: _) _ V); refine wpList_load_at (ty := 31) rfl rfl rfl HL.out.bx.row HUX.out rfl thereInfo ?_))
      refine (below_true _ _ _ _ _ _ KD.out _).mono ?_
      rintro e V2 ⟨rfl, hv⟩
      have HL2 := Lib.hid (HL.out.call hv)
      have HA2 := Lib.hid (HA.out.below hv HA.out.lt)
      have HD2 := Lib.hid (HD.out.below hv HD.out.lt)
      have HB2 := Lib.hid (HB.out.trans (hv.mono HB.out.size))
      clear hv HL HA HD HB KD
      have ga := (HD2.out.cell 8).trans Sd.c8
      have gb := (HD2.out.cell 7).trans Sd.c7
      have gc := (HD2.out.cell 4).trans Sd.c4
      have gd := (HD2.out.cell 10).trans Sd.c10
      have gp := (HL2.out.bp.cell 8).trans p.c8
      have gr := (HL2.out.bp.cell 7).trans p.c7
      have gx := HL2.out.x0
      rw [cd] at gb
      rw [nd] at gc
      clear cd nd
      have u1 : (Sd.level ≤ p.level) = False := by simp; exact LD.out
      have u2 : (300 < wrap64 (Sd.deadline - now)) = False := by simp; exact TD.out
      have heqa : ∀ w, (binOp .eql 27 (.agg Sa.cells) (.agg #[.int .i64 0, .int .i64 0, .int .i64 0, .int .i64 0, .int .i64 0, .string ⟨#[]⟩, .string ⟨#[]⟩, .int .u64 0, .int .i64 0, .int .i64 0, .int .i64 0, .int .i64 0])).run Try.prog w = .ok (.bool true) w := fun w => by rw [zA.out]; show (binOp .eql 27 (.agg Sess.zero.cells) (.agg Sess.zero.cells)).run Try.prog w = _; rw [eql_sess, Sess.same_refl]
      go_wp2_with (first
          | ((with_reducible show wpList _ _ _ (Oper.mk (some 106) (Op.load 27 (Operand.tmp 7)) _ _ _ _ :: _) _ V2); refine wpList_load_at (ty := 27) rfl rfl rfl HA2.out.row HUS.out rfl sessInfo ?_))
      go_ret
      exact ⟨rfl, HB2.out⟩
    ·
      have zD := Lib.hid zd
      clear WD zd
      unfold errno
      have heqa : ∀ w, (binOp .eql 27 (.agg Sa.cells) (.agg #[.int .i64 0, .int .i64 0, .int .i64 0, .int .i64 0, .int .i64 0, .string ⟨#[]⟩, .string ⟨#[]⟩, .int .u64 0, .int .i64 0, .int .i64 0, .int .i64 0, .int .i64 0])).run Try.prog w = .ok (.bool true) w := fun w => by rw [zA.out]; show (binOp .eql 27 (.agg Sess.zero.cells) (.agg Sess.zero.cells)).run Try.prog w = _; rw [eql_sess, Sess.same_refl]
      have heqd : ∀ w, (binOp .eql 27 (.agg Sd.cells) (.agg #[.int .i64 0, .int .i64 0, .int .i64 0, .int .i64 0, .int .i64 0, .string ⟨#[]⟩, .string ⟨#[]⟩, .int .u64 0, .int .i64 0, .int .i64 0, .int .i64 0, .int .i64 0])).run Try.prog w = .ok (.bool true) w := fun w => by rw [zD.out]; show (binOp .eql 27 (.agg Sess.zero.cells) (.agg Sess.zero.cells)).run Try.prog w = _; rw [eql_sess, Sess.same_refl]
      go_wp2_with (first
          | ((with_reducible show wpList _ _ _ (Oper.mk (some 106) (Op.load 27 (Operand.tmp 7)) _ _ _ _ :: _) _ V); refine wpList_load_at (ty := 27) rfl rfl rfl HA.out.row HUS.out rfl sessInfo ?_)
          | ((with_reducible show wpList _ _ _ (Oper.mk (some 114) (Op.load 27 (Operand.tmp 9)) _ _ _ _ :: _) _ V); refine wpList_load_at (ty := 27) rfl rfl rfl HD.out.row HUS.out rfl sessInfo ?_))
      go_ret
      exact ⟨rfl, HB.out⟩
end Go.Proofs.Ythoibafhbacfiaa
