/-
  lineagelaw22.GrantOrder holds: the walk.
-/
import Derived.Test.YthoibafhbacfiaaDoorGLaws
import Derived.Test.YthoibafhbacfiaaDoorGWorks
namespace Go.Proofs.YthoibafhbacfiaaDoor
set_option maxRecDepth 100000
open Go.RowKit

/-- The variables of a law of chapter 22 at the world: the parent, the request, the place. -/
structure Vars (n : Nat) (p : Sess) (r : Req) (now births : Int) (full : Bool) (w : World) : Prop where
  bp : Blk w n 31 p.cells
  br : Blk w (n + 1) 25 r.cells
  bx : Blk w (n + 1 + 1) 27 (thereC now births full)
  lt : n + 1 + 1 < w.heap.size
section
variable {n : Nat} {p : Sess} {r : Req} {now births : Int} {full : Bool} {w w' : World}
theorem Vars.made (w : World) (p : Sess) (r : Req) (now births : Int) (full : Bool) : Vars w.heap.size p r now births full (((w.alloc (.cells p.cells 31)).alloc (.cells r.cells 25)).alloc (.cells (thereC now births full) 27)) :=
  ⟨((Blk.new w _ _).alloc _).alloc _, (Blk.new_at (by simp)).alloc _, Blk.new_at (by simp), by simp⟩
theorem Vars.go (v : Vars n p r now births full w) {B : Nat} (h : Below B w w') (hB : n + 1 + 1 < B) : Vars n p r now births full w' :=
  ⟨v.bp.below h (by omega), v.br.below h (by omega), v.bx.below h hB, Nat.lt_of_lt_of_le v.lt h.size⟩
theorem Vars.call (v : Vars n p r now births full w) (h : Below w.heap.size w w') : Vars n p r now births full w' := v.go h v.lt
theorem Vars.alloc (v : Vars n p r now births full w) (o : Obj) : Vars n p r now births full (w.alloc o) := v.call (bel_alloc (Below.refl _ _) o)
theorem Vars.x0 (v : Vars n p r now births full w) : w.cell? ⟨n + 1 + 1, 0, none⟩ = some (.int .i64 now) := v.bx.cell 0
theorem Vars.x1 (v : Vars n p r now births full w) : w.cell? ⟨n + 1 + 1, 1, none⟩ = some (.int .i64 births) := v.bx.cell 1
theorem Vars.x2 (v : Vars n p r now births full w) : w.cell? ⟨n + 1 + 1, 2, none⟩ = some (.bool full) := v.bx.cell 2
end

/-- What refuses a birth, and what refuses it where there is room. -/
def Ord (a b : Value) : Prop := (a = b ∧ ∃ k : Int, errK k = a ∧ 0 ≤ k ∧ k ≤ 24 ∧ k ≠ 18 ∧ k ≠ 19) ∨ (b = .nilIface ∧ ∃ k : Int, errK k = a ∧ (k = 18 ∨ k = 19))
theorem ord_mk {k k0 : Int} (h : (k0 = k ∧ 0 ≤ k ∧ k ≤ 24 ∧ k ≠ 18 ∧ k ≠ 19) ∨ (k0 = 0 ∧ (k = 18 ∨ k = 19))) : Ord (errK k) (errK k0) := by
  rcases h with ⟨rfl, h⟩ | ⟨rfl, h⟩
  · exact .inl ⟨rfl, k0, rfl, h.1, h.2.1, h.2.2.1, h.2.2.2⟩
  · exact .inr ⟨rfl, k, rfl, h⟩
theorem room_zero : roomNo 0 false = 0 := by decide
theorem login_ord (r : Req) (now b : Int) (f : Bool) : Ord (errK (loginNo r now b f)) (errK (loginNo r now 0 false)) := by
  apply ord_mk
  unfold loginNo
  rw [room_zero]
  by_cases h1 : nameB r.user = false <;> by_cases h2 : isLev r.level = false <;> by_cases h3 : tillZ now r.life 1099511627776 = 0 <;> rcases roomNo_in b f with h | h | h <;> simp [h1, h2, h3, h]
theorem child_ord (p : Sess) (r : Req) (now b : Int) (f : Bool) : Ord (errK (childNo p r now b f)) (errK (childNo p r now 0 false)) := by
  apply ord_mk
  unfold childNo
  rw [room_zero]
  by_cases h1 : nameB r.label = false <;> by_cases h2 : tillZ now r.life p.deadline = 0 <;> by_cases h3 : p.depth < 0 ∨ 6 ≤ p.depth <;> by_cases h4 : inB r.scopes p.scopes = false <;> rcases roomNo_in b f with h | h | h <;> simp [h1, h2, h3, h4, h]
theorem raised_ord (p : Sess) (r : Req) (now b : Int) (f : Bool) : Ord (errK (raisedNo p r now b f)) (errK (raisedNo p r now 0 false)) := by
  apply ord_mk
  unfold raisedNo
  rw [room_zero]
  by_cases h1 : nameB r.label = false <;> by_cases h2 : tillZ now r.life p.deadline = 0 <;> by_cases h3 : p.depth < 0 ∨ 6 ≤ p.depth <;> by_cases h4 : stepB p.level r.level = false <;> by_cases h5 : 300 < r.life <;> rcases roomNo_in b f with h | h | h <;> simp [h1, h2, h3, h4, h5, h]
theorem num_k (k : Int) (h1 : 0 ≤ k) (h2 : k ≤ 24) (w : World) : Calls Tryd.prog 29 #[errK k] w (RetB (.int .i64 k) w) := by
  by_cases h : k = 0
  · subst h; exact same_b (Num_nil w)
  · rw [errK_pos h]; exact same_b (Num_errno k (by omega) h2 w)
theorem last_k (k : Int) (h1 : 0 ≤ k) (h2 : k ≤ 24) (c : Bool) (hc : decide (k = 18 ∨ k = 19) = c) (w : World) : Calls Tryd.prog 55 #[errK k] w (RetB (.bool c) w) := by
  have HN := Lib.hid (fun w => num_k k h1 h2 w)
  have HC := Lib.hid hc
  clear h1 h2 hc
  generalize errK k = E at *
  go_enter Tryd.func55, Tryd.ntmps55
  go_wp2_with (go_at_call 29; fail)
  refine (HN.out _).mono ?_
  rintro e W1 ⟨rfl, h1⟩
  have HB := Lib.hid h1
  clear h1
  by_cases ha : k = 18
  · have hcc : c = true := by rw [← HC.out]; simp [ha]
    subst hcc ha
    go_wp2
    go_ret
    exact ⟨rfl, HB.out⟩
  · by_cases hb : k = 19
    · have hcc : c = true := by rw [← HC.out]; simp [hb]
      subst hcc hb
      go_wp2
      go_ret
      exact ⟨rfl, HB.out⟩
    · have hcc : c = false := by rw [← HC.out]; simp [ha, hb]
      subst hcc
      have hx : (k == 18) = false := by simp [ha]
      have hy : (k == 19) = false := by simp [hb]
      go_wp2
      go_ret
      exact ⟨rfl, HB.out⟩
set_option maxHeartbeats 4000000 in
theorem grantOrder_any (p : Sess) (r : Req) (now births : Int) (full : Bool) (w : World) : Calls Tryd.prog 42 #[.agg p.cells, .agg r.cells, .agg (thereC now births full)] w (RetB (.bool true) w) := by
  have HUS := Lib.hid Tryd.underlying31
  have HUR := Lib.hid Tryd.underlying25
  obtain ⟨Sa, hSa⟩ : ∃ S : Sess, loginR r now births full = S := ⟨_, rfl⟩
  obtain ⟨Ea, hEa⟩ : ∃ E, errK (loginNo r now births full) = E := ⟨_, rfl⟩
  have Ha : Hid (∀ w, Calls Tryd.prog 7 #[.agg (Req.cells r), .int .i64 now, .int .i64 births, .bool full] w (RetB (.tuple #[.agg (Sess.cells Sa), Ea]) w)) := Lib.hid (fun w => hSa ▸ hEa ▸ login_any r now births full w)
  obtain ⟨Sb, hSb⟩ : ∃ S : Sess, loginR r now 0 false = S := ⟨_, rfl⟩
  obtain ⟨Eb, hEb⟩ : ∃ E, errK (loginNo r now 0 false) = E := ⟨_, rfl⟩
  have Hb : Hid (∀ w, Calls Tryd.prog 7 #[.agg (Req.cells r), .int .i64 now, .int .i64 0, .bool false] w (RetB (.tuple #[.agg (Sess.cells Sb), Eb]) w)) := Lib.hid (fun w => hSb ▸ hEb ▸ login_any r now 0 false w)
  obtain ⟨Sc, hSc⟩ : ∃ S : Sess, childR p r now births full = S := ⟨_, rfl⟩
  obtain ⟨Ec, hEc⟩ : ∃ E, errK (childNo p r now births full) = E := ⟨_, rfl⟩
  have Hc : Hid (∀ w, Calls Tryd.prog 10 #[.agg p.cells, .agg (Req.cells r), .int .i64 now, .int .i64 births, .bool full] w (RetB (.tuple #[.agg (Sess.cells Sc), Ec]) w)) := Lib.hid (fun w => hSc ▸ hEc ▸ child_any p r now births full w)
  obtain ⟨Sd, hSd⟩ : ∃ S : Sess, childR p r now 0 false = S := ⟨_, rfl⟩
  obtain ⟨Ed, hEd⟩ : ∃ E, errK (childNo p r now 0 false) = E := ⟨_, rfl⟩
  have Hd : Hid (∀ w, Calls Tryd.prog 10 #[.agg p.cells, .agg (Req.cells r), .int .i64 now, .int .i64 0, .bool false] w (RetB (.tuple #[.agg (Sess.cells Sd), Ed]) w)) := Lib.hid (fun w => hSd ▸ hEd ▸ child_any p r now 0 false w)
  obtain ⟨Se, hSe⟩ : ∃ S : Sess, raisedR p r now births full = S := ⟨_, rfl⟩
  obtain ⟨Ee, hEe⟩ : ∃ E, errK (raisedNo p r now births full) = E := ⟨_, rfl⟩
  have He : Hid (∀ w, Calls Tryd.prog 12 #[.agg p.cells, .agg (Req.cells r), .int .i64 now, .int .i64 births, .bool full] w (RetB (.tuple #[.agg (Sess.cells Se), Ee]) w)) := Lib.hid (fun w => hSe ▸ hEe ▸ raised_any p r now births full w)
  obtain ⟨Sf, hSf⟩ : ∃ S : Sess, raisedR p r now 0 false = S := ⟨_, rfl⟩
  obtain ⟨Ef, hEf⟩ : ∃ E, errK (raisedNo p r now 0 false) = E := ⟨_, rfl⟩
  have Hf : Hid (∀ w, Calls Tryd.prog 12 #[.agg p.cells, .agg (Req.cells r), .int .i64 now, .int .i64 0, .bool false] w (RetB (.tuple #[.agg (Sess.cells Sf), Ef]) w)) := Lib.hid (fun w => hSf ▸ hEf ▸ raised_any p r now 0 false w)
  have Oa := Lib.hid (show Ord Ea Eb from hEa ▸ hEb ▸ login_ord r now births full)
  have Oc := Lib.hid (show Ord Ec Ed from hEc ▸ hEd ▸ child_ord p r now births full)
  have Oe := Lib.hid (show Ord Ee Ef from hEe ▸ hEf ▸ raised_ord p r now births full)
  clear hSa hEa hSb hEb hSc hEc hSd hEd hSe hEe hSf hEf
  obtain ⟨W, hW⟩ : ∃ W, ((w.alloc (.cells p.cells 31)).alloc (.cells r.cells 25)).alloc (.cells (thereC now births full) 27) = W := ⟨_, rfl⟩
  have HL0 := Lib.hid (show Vars w.heap.size p r now births full W from hW ▸ Vars.made w p r now births full)
  have HBX0 := Lib.hid (show Below w.heap.size w W from hW ▸ bel_alloc (bel_alloc (bel_alloc (Below.refl _ _) _) _) _)
  unfold thereC at hW ⊢
  have x0 := HL0.out.x0
  have x1 := HL0.out.x1
  have x2 := HL0.out.x2
  go_enter Tryd.func42, Tryd.ntmps42
  go_wp2_with (first
    | (go_at_call 7; fail)
    | ((with_reducible show wpList _ _ _ _ _ W); refine wpList_load_at (ty := 31) rfl rfl rfl HL0.out.bp.row HUS.out rfl sessInfo ?_)
    | ((with_reducible show wpList _ _ _ _ _ W); refine wpList_load_at (ty := 25) rfl rfl rfl HL0.out.br.row HUR.out rfl reqInfo ?_)
    | ((with_reducible show wpList _ _ _ _ _ (World.alloc _ _)); refine wpList_store_new (ty := 31) rfl rfl rfl rfl rfl (Sess.one _) sessInfo ?_))
  clear x0 x1 x2 hW
  refine (Ha.out _).mono ?_
  rintro e Ua ⟨rfl, ha⟩
  have L := HL0.out.call ha
  have B0 := HBX0.out.trans (ha.mono HBX0.out.size)
  obtain ⟨XA, hXA⟩ : ∃ X, Ua.alloc (.cells Sa.cells 31) = X := ⟨_, rfl⟩
  have HLA := Lib.hid (show Vars w.heap.size p r now births full XA from hXA ▸ L.alloc _)
  have HBXA := Lib.hid (show Below w.heap.size w XA from hXA ▸ bel_alloc B0 _)
  clear L B0 ha HL0 HBX0 Ha
  have x0 := HLA.out.x0
  have x1 := HLA.out.x1
  have x2 := HLA.out.x2
  go_wp2_with (first
    | (go_at_call 7; fail)
    | ((with_reducible show wpList _ _ _ _ _ XA); refine wpList_load_at (ty := 31) rfl rfl rfl HLA.out.bp.row HUS.out rfl sessInfo ?_)
    | ((with_reducible show wpList _ _ _ _ _ XA); refine wpList_load_at (ty := 25) rfl rfl rfl HLA.out.br.row HUR.out rfl reqInfo ?_)
    | ((with_reducible show wpList _ _ _ _ _ (World.alloc _ _)); refine wpList_store_new (ty := 31) rfl rfl rfl rfl rfl (Sess.one _) sessInfo ?_))
  clear x0 x1 x2 hXA
  refine (Hb.out _).mono ?_
  rintro e Ub ⟨rfl, hb⟩
  have L := HLA.out.call hb
  have B0 := HBXA.out.trans (hb.mono HBXA.out.size)
  obtain ⟨XB, hXB⟩ : ∃ X, Ub.alloc (.cells Sb.cells 31) = X := ⟨_, rfl⟩
  have HLB := Lib.hid (show Vars w.heap.size p r now births full XB from hXB ▸ L.alloc _)
  have HBXB := Lib.hid (show Below w.heap.size w XB from hXB ▸ bel_alloc B0 _)
  clear L B0 hb HLA HBXA Hb
  have x0 := HLB.out.x0
  have x1 := HLB.out.x1
  have x2 := HLB.out.x2
  go_wp2_with (first
    | (go_at_call 10; fail)
    | ((with_reducible show wpList _ _ _ _ _ XB); refine wpList_load_at (ty := 31) rfl rfl rfl HLB.out.bp.row HUS.out rfl sessInfo ?_)
    | ((with_reducible show wpList _ _ _ _ _ XB); refine wpList_load_at (ty := 25) rfl rfl rfl HLB.out.br.row HUR.out rfl reqInfo ?_)
    | ((with_reducible show wpList _ _ _ _ _ (World.alloc _ _)); refine wpList_store_new (ty := 31) rfl rfl rfl rfl rfl (Sess.one _) sessInfo ?_))
  clear x0 x1 x2 hXB
  refine (Hc.out _).mono ?_
  rintro e Uc ⟨rfl, hc⟩
  have L := HLB.out.call hc
  have B0 := HBXB.out.trans (hc.mono HBXB.out.size)
  obtain ⟨XC, hXC⟩ : ∃ X, Uc.alloc (.cells Sc.cells 31) = X := ⟨_, rfl⟩
  have HLC := Lib.hid (show Vars w.heap.size p r now births full XC from hXC ▸ L.alloc _)
  have HBXC := Lib.hid (show Below w.heap.size w XC from hXC ▸ bel_alloc B0 _)
  clear L B0 hc HLB HBXB Hc
  have x0 := HLC.out.x0
  have x1 := HLC.out.x1
  have x2 := HLC.out.x2
  go_wp2_with (first
    | (go_at_call 10; fail)
    | ((with_reducible show wpList _ _ _ _ _ XC); refine wpList_load_at (ty := 31) rfl rfl rfl HLC.out.bp.row HUS.out rfl sessInfo ?_)
    | ((with_reducible show wpList _ _ _ _ _ XC); refine wpList_load_at (ty := 25) rfl rfl rfl HLC.out.br.row HUR.out rfl reqInfo ?_)
    | ((with_reducible show wpList _ _ _ _ _ (World.alloc _ _)); refine wpList_store_new (ty := 31) rfl rfl rfl rfl rfl (Sess.one _) sessInfo ?_))
  clear x0 x1 x2 hXC
  refine (Hd.out _).mono ?_
  rintro e Ud ⟨rfl, hd⟩
  have L := HLC.out.call hd
  have B0 := HBXC.out.trans (hd.mono HBXC.out.size)
  obtain ⟨XD, hXD⟩ : ∃ X, Ud.alloc (.cells Sd.cells 31) = X := ⟨_, rfl⟩
  have HLD := Lib.hid (show Vars w.heap.size p r now births full XD from hXD ▸ L.alloc _)
  have HBXD := Lib.hid (show Below w.heap.size w XD from hXD ▸ bel_alloc B0 _)
  clear L B0 hd HLC HBXC Hd
  have x0 := HLD.out.x0
  have x1 := HLD.out.x1
  have x2 := HLD.out.x2
  go_wp2_with (first
    | (go_at_call 12; fail)
    | ((with_reducible show wpList _ _ _ _ _ XD); refine wpList_load_at (ty := 31) rfl rfl rfl HLD.out.bp.row HUS.out rfl sessInfo ?_)
    | ((with_reducible show wpList _ _ _ _ _ XD); refine wpList_load_at (ty := 25) rfl rfl rfl HLD.out.br.row HUR.out rfl reqInfo ?_)
    | ((with_reducible show wpList _ _ _ _ _ (World.alloc _ _)); refine wpList_store_new (ty := 31) rfl rfl rfl rfl rfl (Sess.one _) sessInfo ?_))
  clear x0 x1 x2 hXD
  refine (He.out _).mono ?_
  rintro e Ue ⟨rfl, he⟩
  have L := HLD.out.call he
  have B0 := HBXD.out.trans (he.mono HBXD.out.size)
  obtain ⟨XE, hXE⟩ : ∃ X, Ue.alloc (.cells Se.cells 31) = X := ⟨_, rfl⟩
  have HLE := Lib.hid (show Vars w.heap.size p r now births full XE from hXE ▸ L.alloc _)
  have HBXE := Lib.hid (show Below w.heap.size w XE from hXE ▸ bel_alloc B0 _)
  clear L B0 he HLD HBXD He
  have x0 := HLE.out.x0
  have x1 := HLE.out.x1
  have x2 := HLE.out.x2
  go_wp2_with (first
    | (go_at_call 12; fail)
    | ((with_reducible show wpList _ _ _ _ _ XE); refine wpList_load_at (ty := 31) rfl rfl rfl HLE.out.bp.row HUS.out rfl sessInfo ?_)
    | ((with_reducible show wpList _ _ _ _ _ XE); refine wpList_load_at (ty := 25) rfl rfl rfl HLE.out.br.row HUR.out rfl reqInfo ?_)
    | ((with_reducible show wpList _ _ _ _ _ (World.alloc _ _)); refine wpList_store_new (ty := 31) rfl rfl rfl rfl rfl (Sess.one _) sessInfo ?_))
  clear x0 x1 x2 hXE
  refine (Hf.out _).mono ?_
  rintro e Uf ⟨rfl, hf⟩
  have L := HLE.out.call hf
  have B0 := HBXE.out.trans (hf.mono HBXE.out.size)
  obtain ⟨XF, hXF⟩ : ∃ X, Uf.alloc (.cells Sf.cells 31) = X := ⟨_, rfl⟩
  have HLF := Lib.hid (show Vars w.heap.size p r now births full XF from hXF ▸ L.alloc _)
  have HBXF := Lib.hid (show Below w.heap.size w XF from hXF ▸ bel_alloc B0 _)
  clear L B0 hf HLE HBXE Hf
  have x0 := HLF.out.x0
  have x1 := HLF.out.x1
  have x2 := HLF.out.x2
  clear x0 x1 x2
  rcases Oa.out with ⟨rfl, ka, ea, aa, ba, ca, da⟩ | ⟨rfl, ka, ea, hka⟩
  ·
    have Na : Hid (∀ w, Calls Tryd.prog 29 #[Ea] w (RetB (.int .i64 ka) w)) := Lib.hid (fun w => ea ▸ num_k ka aa ba w)
    have Ja : Hid (∀ w, Calls Tryd.prog 55 #[Ea] w (RetB (.bool false) w)) := Lib.hid (fun w => ea ▸ last_k ka aa ba false (by simp; omega) w)
    clear aa ba ca da ea Oa
    go_wp2_with (first
      | (go_at_call 29; fail)
      | ((with_reducible show wpList _ _ _ _ _ (World.alloc _ _)); refine wpList_store_new (ty := 31) rfl rfl rfl rfl rfl (Sess.one _) sessInfo ?_))
    refine (Na.out _).mono ?_
    rintro e Y1 ⟨rfl, h⟩
    have B1 := Lib.hid (HBXF.out.trans (h.mono HBXF.out.size))
    clear h
    go_wp2_with (first
      | (go_at_call 29; fail)
      | ((with_reducible show wpList _ _ _ _ _ (World.alloc _ _)); refine wpList_store_new (ty := 31) rfl rfl rfl rfl rfl (Sess.one _) sessInfo ?_))
    refine (Na.out _).mono ?_
    rintro e Y2 ⟨rfl, h⟩
    have B2 := Lib.hid (B1.out.trans (h.mono B1.out.size))
    clear h
    clear Na B1
    rcases Oc.out with ⟨rfl, kc, ec, ac, bc, cc, dc⟩ | ⟨rfl, kc, ec, hkc⟩
    ·
      have Nc : Hid (∀ w, Calls Tryd.prog 29 #[Ec] w (RetB (.int .i64 kc) w)) := Lib.hid (fun w => ec ▸ num_k kc ac bc w)
      have Jc : Hid (∀ w, Calls Tryd.prog 55 #[Ec] w (RetB (.bool false) w)) := Lib.hid (fun w => ec ▸ last_k kc ac bc false (by simp; omega) w)
      clear ac bc cc dc ec Oc
      go_wp2_with (first
        | (go_at_call 29; fail)
        | ((with_reducible show wpList _ _ _ _ _ (World.alloc _ _)); refine wpList_store_new (ty := 31) rfl rfl rfl rfl rfl (Sess.one _) sessInfo ?_))
      refine (Nc.out _).mono ?_
      rintro e Y3 ⟨rfl, h⟩
      have B3 := Lib.hid (B2.out.trans (h.mono B2.out.size))
      clear h
      go_wp2_with (first
        | (go_at_call 29; fail)
        | ((with_reducible show wpList _ _ _ _ _ (World.alloc _ _)); refine wpList_store_new (ty := 31) rfl rfl rfl rfl rfl (Sess.one _) sessInfo ?_))
      refine (Nc.out _).mono ?_
      rintro e Y4 ⟨rfl, h⟩
      have B4 := Lib.hid (B3.out.trans (h.mono B3.out.size))
      clear h
      clear Nc B3
      rcases Oe.out with ⟨rfl, ke, ee, ae, be, ce, de⟩ | ⟨rfl, ke, ee, hke⟩
      ·
        have Ne : Hid (∀ w, Calls Tryd.prog 29 #[Ee] w (RetB (.int .i64 ke) w)) := Lib.hid (fun w => ee ▸ num_k ke ae be w)
        have Je : Hid (∀ w, Calls Tryd.prog 55 #[Ee] w (RetB (.bool false) w)) := Lib.hid (fun w => ee ▸ last_k ke ae be false (by simp; omega) w)
        clear ae be ce de ee Oe
        go_wp2_with (first
          | (go_at_call 29; fail)
          | ((with_reducible show wpList _ _ _ _ _ (World.alloc _ _)); refine wpList_store_new (ty := 31) rfl rfl rfl rfl rfl (Sess.one _) sessInfo ?_))
        refine (Ne.out _).mono ?_
        rintro e Y5 ⟨rfl, h⟩
        have B5 := Lib.hid (B4.out.trans (h.mono B4.out.size))
        clear h
        go_wp2_with (first
          | (go_at_call 29; fail)
          | ((with_reducible show wpList _ _ _ _ _ (World.alloc _ _)); refine wpList_store_new (ty := 31) rfl rfl rfl rfl rfl (Sess.one _) sessInfo ?_))
        refine (Ne.out _).mono ?_
        rintro e Y6 ⟨rfl, h⟩
        have B6 := Lib.hid (B5.out.trans (h.mono B5.out.size))
        clear h
        clear Ne B5
        go_wp2_with (first
          | (go_at_call 40; fail)
          | ((with_reducible show wpList _ _ _ _ _ (World.alloc _ _)); refine wpList_store_new (ty := 31) rfl rfl rfl rfl rfl (Sess.one _) sessInfo ?_))
        refine (works_any _).mono ?_
        rintro e Y7 ⟨rfl, h⟩
        have B7 := Lib.hid (B6.out.trans (h.mono B6.out.size))
        clear h
        go_wp2_with (first
          | (go_at_call 55; fail)
          | ((with_reducible show wpList _ _ _ _ _ (World.alloc _ _)); refine wpList_store_new (ty := 31) rfl rfl rfl rfl rfl (Sess.one _) sessInfo ?_))
        refine (Ja.out _).mono ?_
        rintro e Y8 ⟨rfl, h⟩
        have B8 := Lib.hid (B7.out.trans (h.mono B7.out.size))
        clear h
        go_wp2_with (first
          | (go_at_call 55; fail)
          | ((with_reducible show wpList _ _ _ _ _ (World.alloc _ _)); refine wpList_store_new (ty := 31) rfl rfl rfl rfl rfl (Sess.one _) sessInfo ?_))
        refine (Jc.out _).mono ?_
        rintro e Y9 ⟨rfl, h⟩
        have B9 := Lib.hid (B8.out.trans (h.mono B8.out.size))
        clear h
        go_wp2_with (first
          | (go_at_call 55; fail)
          | ((with_reducible show wpList _ _ _ _ _ (World.alloc _ _)); refine wpList_store_new (ty := 31) rfl rfl rfl rfl rfl (Sess.one _) sessInfo ?_))
        refine (Je.out _).mono ?_
        rintro e Y10 ⟨rfl, h⟩
        have B10 := Lib.hid (B9.out.trans (h.mono B9.out.size))
        clear h
        go_wp2
        go_ret
        exact ⟨rfl, B10.out⟩
      ·
        have Ne : Hid (∀ w, Calls Tryd.prog 29 #[Ee] w (RetB (.int .i64 ke) w)) := Lib.hid (fun w => ee ▸ num_k ke (by omega) (by omega) w)
        have Je : Hid (∀ w, Calls Tryd.prog 55 #[Ee] w (RetB (.bool true) w)) := Lib.hid (fun w => ee ▸ last_k ke (by omega) (by omega) true (by simpa using hke) w)
        have hze : (ke == 0) = false := by simp; omega
        have hye : (ke = 0) = False := by simp; omega
        clear hke ee Oe
        go_wp2_with (first
          | (go_at_call 29; fail)
          | ((with_reducible show wpList _ _ _ _ _ (World.alloc _ _)); refine wpList_store_new (ty := 31) rfl rfl rfl rfl rfl (Sess.one _) sessInfo ?_))
        refine (Ne.out _).mono ?_
        rintro e Y11 ⟨rfl, h⟩
        have B11 := Lib.hid (B4.out.trans (h.mono B4.out.size))
        clear h
        go_wp2_with (first
          | (go_at_call 29; fail)
          | ((with_reducible show wpList _ _ _ _ _ (World.alloc _ _)); refine wpList_store_new (ty := 31) rfl rfl rfl rfl rfl (Sess.one _) sessInfo ?_))
        refine ((same_b (Num_nil _))).mono ?_
        rintro e Y12 ⟨rfl, h⟩
        have B12 := Lib.hid (B11.out.trans (h.mono B11.out.size))
        clear h
        go_wp2_with (first
          | (go_at_call 55; fail)
          | ((with_reducible show wpList _ _ _ _ _ (World.alloc _ _)); refine wpList_store_new (ty := 31) rfl rfl rfl rfl rfl (Sess.one _) sessInfo ?_))
        refine (Je.out _).mono ?_
        rintro e Y13 ⟨rfl, h⟩
        have B13 := Lib.hid (B12.out.trans (h.mono B12.out.size))
        clear h
        clear Ne Je B11 B12
        go_wp2_with (first
          | (go_at_call 40; fail)
          | ((with_reducible show wpList _ _ _ _ _ (World.alloc _ _)); refine wpList_store_new (ty := 31) rfl rfl rfl rfl rfl (Sess.one _) sessInfo ?_))
        refine (works_any _).mono ?_
        rintro e Y14 ⟨rfl, h⟩
        have B14 := Lib.hid (B13.out.trans (h.mono B13.out.size))
        clear h
        go_wp2_with (first
          | (go_at_call 55; fail)
          | ((with_reducible show wpList _ _ _ _ _ (World.alloc _ _)); refine wpList_store_new (ty := 31) rfl rfl rfl rfl rfl (Sess.one _) sessInfo ?_))
        refine (Ja.out _).mono ?_
        rintro e Y15 ⟨rfl, h⟩
        have B15 := Lib.hid (B14.out.trans (h.mono B14.out.size))
        clear h
        go_wp2_with (first
          | (go_at_call 55; fail)
          | ((with_reducible show wpList _ _ _ _ _ (World.alloc _ _)); refine wpList_store_new (ty := 31) rfl rfl rfl rfl rfl (Sess.one _) sessInfo ?_))
        refine (Jc.out _).mono ?_
        rintro e Y16 ⟨rfl, h⟩
        have B16 := Lib.hid (B15.out.trans (h.mono B15.out.size))
        clear h
        go_wp2_with (first
          | (go_at_call 55; fail)
          | ((with_reducible show wpList _ _ _ _ _ (World.alloc _ _)); refine wpList_store_new (ty := 31) rfl rfl rfl rfl rfl (Sess.one _) sessInfo ?_))
        refine (last_k 0 (by omega) (by omega) false (by decide) _).mono ?_
        rintro e Y17 ⟨rfl, h⟩
        have B17 := Lib.hid (B16.out.trans (h.mono B16.out.size))
        clear h
        go_wp2
        go_ret
        exact ⟨rfl, B17.out⟩
    ·
      have Nc : Hid (∀ w, Calls Tryd.prog 29 #[Ec] w (RetB (.int .i64 kc) w)) := Lib.hid (fun w => ec ▸ num_k kc (by omega) (by omega) w)
      have Jc : Hid (∀ w, Calls Tryd.prog 55 #[Ec] w (RetB (.bool true) w)) := Lib.hid (fun w => ec ▸ last_k kc (by omega) (by omega) true (by simpa using hkc) w)
      have hzc : (kc == 0) = false := by simp; omega
      have hyc : (kc = 0) = False := by simp; omega
      clear hkc ec Oc
      go_wp2_with (first
        | (go_at_call 29; fail)
        | ((with_reducible show wpList _ _ _ _ _ (World.alloc _ _)); refine wpList_store_new (ty := 31) rfl rfl rfl rfl rfl (Sess.one _) sessInfo ?_))
      refine (Nc.out _).mono ?_
      rintro e Y18 ⟨rfl, h⟩
      have B18 := Lib.hid (B2.out.trans (h.mono B2.out.size))
      clear h
      go_wp2_with (first
        | (go_at_call 29; fail)
        | ((with_reducible show wpList _ _ _ _ _ (World.alloc _ _)); refine wpList_store_new (ty := 31) rfl rfl rfl rfl rfl (Sess.one _) sessInfo ?_))
      refine ((same_b (Num_nil _))).mono ?_
      rintro e Y19 ⟨rfl, h⟩
      have B19 := Lib.hid (B18.out.trans (h.mono B18.out.size))
      clear h
      go_wp2_with (first
        | (go_at_call 55; fail)
        | ((with_reducible show wpList _ _ _ _ _ (World.alloc _ _)); refine wpList_store_new (ty := 31) rfl rfl rfl rfl rfl (Sess.one _) sessInfo ?_))
      refine (Jc.out _).mono ?_
      rintro e Y20 ⟨rfl, h⟩
      have B20 := Lib.hid (B19.out.trans (h.mono B19.out.size))
      clear h
      clear Nc Jc B18 B19
      rcases Oe.out with ⟨rfl, ke, ee, ae, be, ce, de⟩ | ⟨rfl, ke, ee, hke⟩
      ·
        have Ne : Hid (∀ w, Calls Tryd.prog 29 #[Ee] w (RetB (.int .i64 ke) w)) := Lib.hid (fun w => ee ▸ num_k ke ae be w)
        have Je : Hid (∀ w, Calls Tryd.prog 55 #[Ee] w (RetB (.bool false) w)) := Lib.hid (fun w => ee ▸ last_k ke ae be false (by simp; omega) w)
        clear ae be ce de ee Oe
        go_wp2_with (first
          | (go_at_call 29; fail)
          | ((with_reducible show wpList _ _ _ _ _ (World.alloc _ _)); refine wpList_store_new (ty := 31) rfl rfl rfl rfl rfl (Sess.one _) sessInfo ?_))
        refine (Ne.out _).mono ?_
        rintro e Y21 ⟨rfl, h⟩
        have B21 := Lib.hid (B20.out.trans (h.mono B20.out.size))
        clear h
        go_wp2_with (first
          | (go_at_call 29; fail)
          | ((with_reducible show wpList _ _ _ _ _ (World.alloc _ _)); refine wpList_store_new (ty := 31) rfl rfl rfl rfl rfl (Sess.one _) sessInfo ?_))
        refine (Ne.out _).mono ?_
        rintro e Y22 ⟨rfl, h⟩
        have B22 := Lib.hid (B21.out.trans (h.mono B21.out.size))
        clear h
        clear Ne B21
        go_wp2_with (first
          | (go_at_call 40; fail)
          | ((with_reducible show wpList _ _ _ _ _ (World.alloc _ _)); refine wpList_store_new (ty := 31) rfl rfl rfl rfl rfl (Sess.one _) sessInfo ?_))
        refine (works_any _).mono ?_
        rintro e Y23 ⟨rfl, h⟩
        have B23 := Lib.hid (B22.out.trans (h.mono B22.out.size))
        clear h
        go_wp2_with (first
          | (go_at_call 55; fail)
          | ((with_reducible show wpList _ _ _ _ _ (World.alloc _ _)); refine wpList_store_new (ty := 31) rfl rfl rfl rfl rfl (Sess.one _) sessInfo ?_))
        refine (Ja.out _).mono ?_
        rintro e Y24 ⟨rfl, h⟩
        have B24 := Lib.hid (B23.out.trans (h.mono B23.out.size))
        clear h
        go_wp2_with (first
          | (go_at_call 55; fail)
          | ((with_reducible show wpList _ _ _ _ _ (World.alloc _ _)); refine wpList_store_new (ty := 31) rfl rfl rfl rfl rfl (Sess.one _) sessInfo ?_))
        refine (last_k 0 (by omega) (by omega) false (by decide) _).mono ?_
        rintro e Y25 ⟨rfl, h⟩
        have B25 := Lib.hid (B24.out.trans (h.mono B24.out.size))
        clear h
        go_wp2_with (first
          | (go_at_call 55; fail)
          | ((with_reducible show wpList _ _ _ _ _ (World.alloc _ _)); refine wpList_store_new (ty := 31) rfl rfl rfl rfl rfl (Sess.one _) sessInfo ?_))
        refine (Je.out _).mono ?_
        rintro e Y26 ⟨rfl, h⟩
        have B26 := Lib.hid (B25.out.trans (h.mono B25.out.size))
        clear h
        go_wp2
        go_ret
        exact ⟨rfl, B26.out⟩
      ·
        have Ne : Hid (∀ w, Calls Tryd.prog 29 #[Ee] w (RetB (.int .i64 ke) w)) := Lib.hid (fun w => ee ▸ num_k ke (by omega) (by omega) w)
        have Je : Hid (∀ w, Calls Tryd.prog 55 #[Ee] w (RetB (.bool true) w)) := Lib.hid (fun w => ee ▸ last_k ke (by omega) (by omega) true (by simpa using hke) w)
        have hze : (ke == 0) = false := by simp; omega
        have hye : (ke = 0) = False := by simp; omega
        clear hke ee Oe
        go_wp2_with (first
          | (go_at_call 29; fail)
          | ((with_reducible show wpList _ _ _ _ _ (World.alloc _ _)); refine wpList_store_new (ty := 31) rfl rfl rfl rfl rfl (Sess.one _) sessInfo ?_))
        refine (Ne.out _).mono ?_
        rintro e Y27 ⟨rfl, h⟩
        have B27 := Lib.hid (B20.out.trans (h.mono B20.out.size))
        clear h
        go_wp2_with (first
          | (go_at_call 29; fail)
          | ((with_reducible show wpList _ _ _ _ _ (World.alloc _ _)); refine wpList_store_new (ty := 31) rfl rfl rfl rfl rfl (Sess.one _) sessInfo ?_))
        refine ((same_b (Num_nil _))).mono ?_
        rintro e Y28 ⟨rfl, h⟩
        have B28 := Lib.hid (B27.out.trans (h.mono B27.out.size))
        clear h
        go_wp2_with (first
          | (go_at_call 55; fail)
          | ((with_reducible show wpList _ _ _ _ _ (World.alloc _ _)); refine wpList_store_new (ty := 31) rfl rfl rfl rfl rfl (Sess.one _) sessInfo ?_))
        refine (Je.out _).mono ?_
        rintro e Y29 ⟨rfl, h⟩
        have B29 := Lib.hid (B28.out.trans (h.mono B28.out.size))
        clear h
        clear Ne Je B27 B28
        go_wp2_with (first
          | (go_at_call 40; fail)
          | ((with_reducible show wpList _ _ _ _ _ (World.alloc _ _)); refine wpList_store_new (ty := 31) rfl rfl rfl rfl rfl (Sess.one _) sessInfo ?_))
        refine (works_any _).mono ?_
        rintro e Y30 ⟨rfl, h⟩
        have B30 := Lib.hid (B29.out.trans (h.mono B29.out.size))
        clear h
        go_wp2_with (first
          | (go_at_call 55; fail)
          | ((with_reducible show wpList _ _ _ _ _ (World.alloc _ _)); refine wpList_store_new (ty := 31) rfl rfl rfl rfl rfl (Sess.one _) sessInfo ?_))
        refine (Ja.out _).mono ?_
        rintro e Y31 ⟨rfl, h⟩
        have B31 := Lib.hid (B30.out.trans (h.mono B30.out.size))
        clear h
        go_wp2_with (first
          | (go_at_call 55; fail)
          | ((with_reducible show wpList _ _ _ _ _ (World.alloc _ _)); refine wpList_store_new (ty := 31) rfl rfl rfl rfl rfl (Sess.one _) sessInfo ?_))
        refine (last_k 0 (by omega) (by omega) false (by decide) _).mono ?_
        rintro e Y32 ⟨rfl, h⟩
        have B32 := Lib.hid (B31.out.trans (h.mono B31.out.size))
        clear h
        go_wp2_with (first
          | (go_at_call 55; fail)
          | ((with_reducible show wpList _ _ _ _ _ (World.alloc _ _)); refine wpList_store_new (ty := 31) rfl rfl rfl rfl rfl (Sess.one _) sessInfo ?_))
        refine (last_k 0 (by omega) (by omega) false (by decide) _).mono ?_
        rintro e Y33 ⟨rfl, h⟩
        have B33 := Lib.hid (B32.out.trans (h.mono B32.out.size))
        clear h
        go_wp2
        go_ret
        exact ⟨rfl, B33.out⟩
  ·
    have Na : Hid (∀ w, Calls Tryd.prog 29 #[Ea] w (RetB (.int .i64 ka) w)) := Lib.hid (fun w => ea ▸ num_k ka (by omega) (by omega) w)
    have Ja : Hid (∀ w, Calls Tryd.prog 55 #[Ea] w (RetB (.bool true) w)) := Lib.hid (fun w => ea ▸ last_k ka (by omega) (by omega) true (by simpa using hka) w)
    have hza : (ka == 0) = false := by simp; omega
    have hya : (ka = 0) = False := by simp; omega
    clear hka ea Oa
    go_wp2_with (first
      | (go_at_call 29; fail)
      | ((with_reducible show wpList _ _ _ _ _ (World.alloc _ _)); refine wpList_store_new (ty := 31) rfl rfl rfl rfl rfl (Sess.one _) sessInfo ?_))
    refine (Na.out _).mono ?_
    rintro e Y34 ⟨rfl, h⟩
    have B34 := Lib.hid (HBXF.out.trans (h.mono HBXF.out.size))
    clear h
    go_wp2_with (first
      | (go_at_call 29; fail)
      | ((with_reducible show wpList _ _ _ _ _ (World.alloc _ _)); refine wpList_store_new (ty := 31) rfl rfl rfl rfl rfl (Sess.one _) sessInfo ?_))
    refine ((same_b (Num_nil _))).mono ?_
    rintro e Y35 ⟨rfl, h⟩
    have B35 := Lib.hid (B34.out.trans (h.mono B34.out.size))
    clear h
    go_wp2_with (first
      | (go_at_call 55; fail)
      | ((with_reducible show wpList _ _ _ _ _ (World.alloc _ _)); refine wpList_store_new (ty := 31) rfl rfl rfl rfl rfl (Sess.one _) sessInfo ?_))
    refine (Ja.out _).mono ?_
    rintro e Y36 ⟨rfl, h⟩
    have B36 := Lib.hid (B35.out.trans (h.mono B35.out.size))
    clear h
    clear Na Ja B34 B35
    rcases Oc.out with ⟨rfl, kc, ec, ac, bc, cc, dc⟩ | ⟨rfl, kc, ec, hkc⟩
    ·
      have Nc : Hid (∀ w, Calls Tryd.prog 29 #[Ec] w (RetB (.int .i64 kc) w)) := Lib.hid (fun w => ec ▸ num_k kc ac bc w)
      have Jc : Hid (∀ w, Calls Tryd.prog 55 #[Ec] w (RetB (.bool false) w)) := Lib.hid (fun w => ec ▸ last_k kc ac bc false (by simp; omega) w)
      clear ac bc cc dc ec Oc
      go_wp2_with (first
        | (go_at_call 29; fail)
        | ((with_reducible show wpList _ _ _ _ _ (World.alloc _ _)); refine wpList_store_new (ty := 31) rfl rfl rfl rfl rfl (Sess.one _) sessInfo ?_))
      refine (Nc.out _).mono ?_
      rintro e Y37 ⟨rfl, h⟩
      have B37 := Lib.hid (B36.out.trans (h.mono B36.out.size))
      clear h
      go_wp2_with (first
        | (go_at_call 29; fail)
        | ((with_reducible show wpList _ _ _ _ _ (World.alloc _ _)); refine wpList_store_new (ty := 31) rfl rfl rfl rfl rfl (Sess.one _) sessInfo ?_))
      refine (Nc.out _).mono ?_
      rintro e Y38 ⟨rfl, h⟩
      have B38 := Lib.hid (B37.out.trans (h.mono B37.out.size))
      clear h
      clear Nc B37
      rcases Oe.out with ⟨rfl, ke, ee, ae, be, ce, de⟩ | ⟨rfl, ke, ee, hke⟩
      ·
        have Ne : Hid (∀ w, Calls Tryd.prog 29 #[Ee] w (RetB (.int .i64 ke) w)) := Lib.hid (fun w => ee ▸ num_k ke ae be w)
        have Je : Hid (∀ w, Calls Tryd.prog 55 #[Ee] w (RetB (.bool false) w)) := Lib.hid (fun w => ee ▸ last_k ke ae be false (by simp; omega) w)
        clear ae be ce de ee Oe
        go_wp2_with (first
          | (go_at_call 29; fail)
          | ((with_reducible show wpList _ _ _ _ _ (World.alloc _ _)); refine wpList_store_new (ty := 31) rfl rfl rfl rfl rfl (Sess.one _) sessInfo ?_))
        refine (Ne.out _).mono ?_
        rintro e Y39 ⟨rfl, h⟩
        have B39 := Lib.hid (B38.out.trans (h.mono B38.out.size))
        clear h
        go_wp2_with (first
          | (go_at_call 29; fail)
          | ((with_reducible show wpList _ _ _ _ _ (World.alloc _ _)); refine wpList_store_new (ty := 31) rfl rfl rfl rfl rfl (Sess.one _) sessInfo ?_))
        refine (Ne.out _).mono ?_
        rintro e Y40 ⟨rfl, h⟩
        have B40 := Lib.hid (B39.out.trans (h.mono B39.out.size))
        clear h
        clear Ne B39
        go_wp2_with (first
          | (go_at_call 40; fail)
          | ((with_reducible show wpList _ _ _ _ _ (World.alloc _ _)); refine wpList_store_new (ty := 31) rfl rfl rfl rfl rfl (Sess.one _) sessInfo ?_))
        refine (works_any _).mono ?_
        rintro e Y41 ⟨rfl, h⟩
        have B41 := Lib.hid (B40.out.trans (h.mono B40.out.size))
        clear h
        go_wp2_with (first
          | (go_at_call 55; fail)
          | ((with_reducible show wpList _ _ _ _ _ (World.alloc _ _)); refine wpList_store_new (ty := 31) rfl rfl rfl rfl rfl (Sess.one _) sessInfo ?_))
        refine (last_k 0 (by omega) (by omega) false (by decide) _).mono ?_
        rintro e Y42 ⟨rfl, h⟩
        have B42 := Lib.hid (B41.out.trans (h.mono B41.out.size))
        clear h
        go_wp2_with (first
          | (go_at_call 55; fail)
          | ((with_reducible show wpList _ _ _ _ _ (World.alloc _ _)); refine wpList_store_new (ty := 31) rfl rfl rfl rfl rfl (Sess.one _) sessInfo ?_))
        refine (Jc.out _).mono ?_
        rintro e Y43 ⟨rfl, h⟩
        have B43 := Lib.hid (B42.out.trans (h.mono B42.out.size))
        clear h
        go_wp2_with (first
          | (go_at_call 55; fail)
          | ((with_reducible show wpList _ _ _ _ _ (World.alloc _ _)); refine wpList_store_new (ty := 31) rfl rfl rfl rfl rfl (Sess.one _) sessInfo ?_))
        refine (Je.out _).mono ?_
        rintro e Y44 ⟨rfl, h⟩
        have B44 := Lib.hid (B43.out.trans (h.mono B43.out.size))
        clear h
        go_wp2
        go_ret
        exact ⟨rfl, B44.out⟩
      ·
        have Ne : Hid (∀ w, Calls Tryd.prog 29 #[Ee] w (RetB (.int .i64 ke) w)) := Lib.hid (fun w => ee ▸ num_k ke (by omega) (by omega) w)
        have Je : Hid (∀ w, Calls Tryd.prog 55 #[Ee] w (RetB (.bool true) w)) := Lib.hid (fun w => ee ▸ last_k ke (by omega) (by omega) true (by simpa using hke) w)
        have hze : (ke == 0) = false := by simp; omega
        have hye : (ke = 0) = False := by simp; omega
        clear hke ee Oe
        go_wp2_with (first
          | (go_at_call 29; fail)
          | ((with_reducible show wpList _ _ _ _ _ (World.alloc _ _)); refine wpList_store_new (ty := 31) rfl rfl rfl rfl rfl (Sess.one _) sessInfo ?_))
        refine (Ne.out _).mono ?_
        rintro e Y45 ⟨rfl, h⟩
        have B45 := Lib.hid (B38.out.trans (h.mono B38.out.size))
        clear h
        go_wp2_with (first
          | (go_at_call 29; fail)
          | ((with_reducible show wpList _ _ _ _ _ (World.alloc _ _)); refine wpList_store_new (ty := 31) rfl rfl rfl rfl rfl (Sess.one _) sessInfo ?_))
        refine ((same_b (Num_nil _))).mono ?_
        rintro e Y46 ⟨rfl, h⟩
        have B46 := Lib.hid (B45.out.trans (h.mono B45.out.size))
        clear h
        go_wp2_with (first
          | (go_at_call 55; fail)
          | ((with_reducible show wpList _ _ _ _ _ (World.alloc _ _)); refine wpList_store_new (ty := 31) rfl rfl rfl rfl rfl (Sess.one _) sessInfo ?_))
        refine (Je.out _).mono ?_
        rintro e Y47 ⟨rfl, h⟩
        have B47 := Lib.hid (B46.out.trans (h.mono B46.out.size))
        clear h
        clear Ne Je B45 B46
        go_wp2_with (first
          | (go_at_call 40; fail)
          | ((with_reducible show wpList _ _ _ _ _ (World.alloc _ _)); refine wpList_store_new (ty := 31) rfl rfl rfl rfl rfl (Sess.one _) sessInfo ?_))
        refine (works_any _).mono ?_
        rintro e Y48 ⟨rfl, h⟩
        have B48 := Lib.hid (B47.out.trans (h.mono B47.out.size))
        clear h
        go_wp2_with (first
          | (go_at_call 55; fail)
          | ((with_reducible show wpList _ _ _ _ _ (World.alloc _ _)); refine wpList_store_new (ty := 31) rfl rfl rfl rfl rfl (Sess.one _) sessInfo ?_))
        refine (last_k 0 (by omega) (by omega) false (by decide) _).mono ?_
        rintro e Y49 ⟨rfl, h⟩
        have B49 := Lib.hid (B48.out.trans (h.mono B48.out.size))
        clear h
        go_wp2_with (first
          | (go_at_call 55; fail)
          | ((with_reducible show wpList _ _ _ _ _ (World.alloc _ _)); refine wpList_store_new (ty := 31) rfl rfl rfl rfl rfl (Sess.one _) sessInfo ?_))
        refine (Jc.out _).mono ?_
        rintro e Y50 ⟨rfl, h⟩
        have B50 := Lib.hid (B49.out.trans (h.mono B49.out.size))
        clear h
        go_wp2_with (first
          | (go_at_call 55; fail)
          | ((with_reducible show wpList _ _ _ _ _ (World.alloc _ _)); refine wpList_store_new (ty := 31) rfl rfl rfl rfl rfl (Sess.one _) sessInfo ?_))
        refine (last_k 0 (by omega) (by omega) false (by decide) _).mono ?_
        rintro e Y51 ⟨rfl, h⟩
        have B51 := Lib.hid (B50.out.trans (h.mono B50.out.size))
        clear h
        go_wp2
        go_ret
        exact ⟨rfl, B51.out⟩
    ·
      have Nc : Hid (∀ w, Calls Tryd.prog 29 #[Ec] w (RetB (.int .i64 kc) w)) := Lib.hid (fun w => ec ▸ num_k kc (by omega) (by omega) w)
      have Jc : Hid (∀ w, Calls Tryd.prog 55 #[Ec] w (RetB (.bool true) w)) := Lib.hid (fun w => ec ▸ last_k kc (by omega) (by omega) true (by simpa using hkc) w)
      have hzc : (kc == 0) = false := by simp; omega
      have hyc : (kc = 0) = False := by simp; omega
      clear hkc ec Oc
      go_wp2_with (first
        | (go_at_call 29; fail)
        | ((with_reducible show wpList _ _ _ _ _ (World.alloc _ _)); refine wpList_store_new (ty := 31) rfl rfl rfl rfl rfl (Sess.one _) sessInfo ?_))
      refine (Nc.out _).mono ?_
      rintro e Y52 ⟨rfl, h⟩
      have B52 := Lib.hid (B36.out.trans (h.mono B36.out.size))
      clear h
      go_wp2_with (first
        | (go_at_call 29; fail)
        | ((with_reducible show wpList _ _ _ _ _ (World.alloc _ _)); refine wpList_store_new (ty := 31) rfl rfl rfl rfl rfl (Sess.one _) sessInfo ?_))
      refine ((same_b (Num_nil _))).mono ?_
      rintro e Y53 ⟨rfl, h⟩
      have B53 := Lib.hid (B52.out.trans (h.mono B52.out.size))
      clear h
      go_wp2_with (first
        | (go_at_call 55; fail)
        | ((with_reducible show wpList _ _ _ _ _ (World.alloc _ _)); refine wpList_store_new (ty := 31) rfl rfl rfl rfl rfl (Sess.one _) sessInfo ?_))
      refine (Jc.out _).mono ?_
      rintro e Y54 ⟨rfl, h⟩
      have B54 := Lib.hid (B53.out.trans (h.mono B53.out.size))
      clear h
      clear Nc Jc B52 B53
      rcases Oe.out with ⟨rfl, ke, ee, ae, be, ce, de⟩ | ⟨rfl, ke, ee, hke⟩
      ·
        have Ne : Hid (∀ w, Calls Tryd.prog 29 #[Ee] w (RetB (.int .i64 ke) w)) := Lib.hid (fun w => ee ▸ num_k ke ae be w)
        have Je : Hid (∀ w, Calls Tryd.prog 55 #[Ee] w (RetB (.bool false) w)) := Lib.hid (fun w => ee ▸ last_k ke ae be false (by simp; omega) w)
        clear ae be ce de ee Oe
        go_wp2_with (first
          | (go_at_call 29; fail)
          | ((with_reducible show wpList _ _ _ _ _ (World.alloc _ _)); refine wpList_store_new (ty := 31) rfl rfl rfl rfl rfl (Sess.one _) sessInfo ?_))
        refine (Ne.out _).mono ?_
        rintro e Y55 ⟨rfl, h⟩
        have B55 := Lib.hid (B54.out.trans (h.mono B54.out.size))
        clear h
        go_wp2_with (first
          | (go_at_call 29; fail)
          | ((with_reducible show wpList _ _ _ _ _ (World.alloc _ _)); refine wpList_store_new (ty := 31) rfl rfl rfl rfl rfl (Sess.one _) sessInfo ?_))
        refine (Ne.out _).mono ?_
        rintro e Y56 ⟨rfl, h⟩
        have B56 := Lib.hid (B55.out.trans (h.mono B55.out.size))
        clear h
        clear Ne B55
        go_wp2_with (first
          | (go_at_call 40; fail)
          | ((with_reducible show wpList _ _ _ _ _ (World.alloc _ _)); refine wpList_store_new (ty := 31) rfl rfl rfl rfl rfl (Sess.one _) sessInfo ?_))
        refine (works_any _).mono ?_
        rintro e Y57 ⟨rfl, h⟩
        have B57 := Lib.hid (B56.out.trans (h.mono B56.out.size))
        clear h
        go_wp2_with (first
          | (go_at_call 55; fail)
          | ((with_reducible show wpList _ _ _ _ _ (World.alloc _ _)); refine wpList_store_new (ty := 31) rfl rfl rfl rfl rfl (Sess.one _) sessInfo ?_))
        refine (last_k 0 (by omega) (by omega) false (by decide) _).mono ?_
        rintro e Y58 ⟨rfl, h⟩
        have B58 := Lib.hid (B57.out.trans (h.mono B57.out.size))
        clear h
        go_wp2_with (first
          | (go_at_call 55; fail)
          | ((with_reducible show wpList _ _ _ _ _ (World.alloc _ _)); refine wpList_store_new (ty := 31) rfl rfl rfl rfl rfl (Sess.one _) sessInfo ?_))
        refine (last_k 0 (by omega) (by omega) false (by decide) _).mono ?_
        rintro e Y59 ⟨rfl, h⟩
        have B59 := Lib.hid (B58.out.trans (h.mono B58.out.size))
        clear h
        go_wp2_with (first
          | (go_at_call 55; fail)
          | ((with_reducible show wpList _ _ _ _ _ (World.alloc _ _)); refine wpList_store_new (ty := 31) rfl rfl rfl rfl rfl (Sess.one _) sessInfo ?_))
        refine (Je.out _).mono ?_
        rintro e Y60 ⟨rfl, h⟩
        have B60 := Lib.hid (B59.out.trans (h.mono B59.out.size))
        clear h
        go_wp2
        go_ret
        exact ⟨rfl, B60.out⟩
      ·
        have Ne : Hid (∀ w, Calls Tryd.prog 29 #[Ee] w (RetB (.int .i64 ke) w)) := Lib.hid (fun w => ee ▸ num_k ke (by omega) (by omega) w)
        have Je : Hid (∀ w, Calls Tryd.prog 55 #[Ee] w (RetB (.bool true) w)) := Lib.hid (fun w => ee ▸ last_k ke (by omega) (by omega) true (by simpa using hke) w)
        have hze : (ke == 0) = false := by simp; omega
        have hye : (ke = 0) = False := by simp; omega
        clear hke ee Oe
        go_wp2_with (first
          | (go_at_call 29; fail)
          | ((with_reducible show wpList _ _ _ _ _ (World.alloc _ _)); refine wpList_store_new (ty := 31) rfl rfl rfl rfl rfl (Sess.one _) sessInfo ?_))
        refine (Ne.out _).mono ?_
        rintro e Y61 ⟨rfl, h⟩
        have B61 := Lib.hid (B54.out.trans (h.mono B54.out.size))
        clear h
        go_wp2_with (first
          | (go_at_call 29; fail)
          | ((with_reducible show wpList _ _ _ _ _ (World.alloc _ _)); refine wpList_store_new (ty := 31) rfl rfl rfl rfl rfl (Sess.one _) sessInfo ?_))
        refine ((same_b (Num_nil _))).mono ?_
        rintro e Y62 ⟨rfl, h⟩
        have B62 := Lib.hid (B61.out.trans (h.mono B61.out.size))
        clear h
        go_wp2_with (first
          | (go_at_call 55; fail)
          | ((with_reducible show wpList _ _ _ _ _ (World.alloc _ _)); refine wpList_store_new (ty := 31) rfl rfl rfl rfl rfl (Sess.one _) sessInfo ?_))
        refine (Je.out _).mono ?_
        rintro e Y63 ⟨rfl, h⟩
        have B63 := Lib.hid (B62.out.trans (h.mono B62.out.size))
        clear h
        clear Ne Je B61 B62
        go_wp2_with (first
          | (go_at_call 40; fail)
          | ((with_reducible show wpList _ _ _ _ _ (World.alloc _ _)); refine wpList_store_new (ty := 31) rfl rfl rfl rfl rfl (Sess.one _) sessInfo ?_))
        refine (works_any _).mono ?_
        rintro e Y64 ⟨rfl, h⟩
        have B64 := Lib.hid (B63.out.trans (h.mono B63.out.size))
        clear h
        go_wp2_with (first
          | (go_at_call 55; fail)
          | ((with_reducible show wpList _ _ _ _ _ (World.alloc _ _)); refine wpList_store_new (ty := 31) rfl rfl rfl rfl rfl (Sess.one _) sessInfo ?_))
        refine (last_k 0 (by omega) (by omega) false (by decide) _).mono ?_
        rintro e Y65 ⟨rfl, h⟩
        have B65 := Lib.hid (B64.out.trans (h.mono B64.out.size))
        clear h
        go_wp2_with (first
          | (go_at_call 55; fail)
          | ((with_reducible show wpList _ _ _ _ _ (World.alloc _ _)); refine wpList_store_new (ty := 31) rfl rfl rfl rfl rfl (Sess.one _) sessInfo ?_))
        refine (last_k 0 (by omega) (by omega) false (by decide) _).mono ?_
        rintro e Y66 ⟨rfl, h⟩
        have B66 := Lib.hid (B65.out.trans (h.mono B65.out.size))
        clear h
        go_wp2_with (first
          | (go_at_call 55; fail)
          | ((with_reducible show wpList _ _ _ _ _ (World.alloc _ _)); refine wpList_store_new (ty := 31) rfl rfl rfl rfl rfl (Sess.one _) sessInfo ?_))
        refine (last_k 0 (by omega) (by omega) false (by decide) _).mono ?_
        rintro e Y67 ⟨rfl, h⟩
        have B67 := Lib.hid (B66.out.trans (h.mono B66.out.size))
        clear h
        go_wp2
        go_ret
        exact ⟨rfl, B67.out⟩
end Go.Proofs.YthoibafhbacfiaaDoor
