/-
  lineagelaw29: bare, empty.
-/
import Derived.Test.YtahcedpfnechfaaDoorAudLD
import Derived.Test.YtahcedpfnechfaaDoorMix
namespace Go.Proofs.YtahcedpfnechfaaDoor
set_option maxRecDepth 100000
open Go.RowKit Go.Sort

set_option maxHeartbeats 400000 in
theorem bare_any (w : World) : Calls Tryd.prog 30 #[] w (RetB (.agg SlotV.bare.cells) w) := by
  have HB := Lib.hid (Blk.new w 49 SlotV.zero.cells)
  have HL := Lib.hid ((Below.refl w.heap.size w).alloc (Nat.le_refl _) (.cells SlotV.zero.cells 49))
  go_enter Tryd.func30, Tryd.ntmps30
  go_wp2_with (refine wpList_store_all (vs := SlotV.bare.cells) rfl rfl rfl rfl HB.out rfl (SlotV.one _) slotInfo ?_)
  refine bodyPost_ret (results_at rfl rfl (HB.out.setRow_same _).row rfl rfl slotInfo) rfl ⟨rfl, bel_setRow HL.out (Nat.le_refl _) _⟩

/-- A dump whose slots are a row of one's own. -/
structure DumpH (w : World) (B : Nat) (d : DumpV) (gs cs : Nat) (Af : Option Addr) : Prop where
  own : w.ownsRow B 49 17 (.slice (some ⟨gs, 0, none⟩) d.slots.length cs) d.slots.length (flat SlotV.cells d.slots)
  free : IntsAt w Af d.free
  lt : ∀ a, Af = some a → B ≤ a.block ∧ a.block < w.heap.size ∧ a.block ≠ gs
theorem DumpH.below {w w' : World} {B : Nat} {d : DumpV} {gs cs : Nat} {Af : Option Addr} (h : DumpH w B d gs cs Af) (hb : Below w.heap.size w w') : DumpH w' B d gs cs Af :=
  ⟨own_below h.own hb, h.free.below hb (Nat.le_refl _), fun a e => ⟨(h.lt a e).1, by have := (h.lt a e).2.1; have := hb.size; omega, (h.lt a e).2.2⟩⟩
theorem DumpH.dump {w : World} {B : Nat} {d : DumpV} {gs cs : Nat} {Af : Option Addr} (h : DumpH w B d gs cs Af) : DumpIn w d (some ⟨gs, 0, none⟩) Af := by
  have hg := (own_cap h.own).2.2.2
  refine ⟨fun _ => ⟨gs, 0, rfl, hg, fun k s hk => ?_⟩, h.free, fun a e => by cases e; exact hg, fun a e => (h.lt a e).2.1⟩
  rw [Nat.zero_add]
  exact own_row SlotV.size h.own hk
/-- A dump is handed back, over memory that is new. -/
def RetD (d : DumpV) (w : World) (e : Ending) (w' : World) : Prop :=
  ∃ gs cs Af cf, e = .returned (.agg (d.dc (some ⟨gs, 0, none⟩) cs Af cf).toArray) ∧ DumpH w' w.heap.size d gs cs Af ∧ cf ≤ 9223372036854775807 ∧ d.free.length ≤ cf ∧ Below w.heap.size w w'
def emptyD : DumpV := ⟨0, 0, List.replicate 32 SlotV.bare, (List.range 32).map fun (i : Nat) => (i : Int), -1, -1⟩
/-- .. the free ones a row of one's own, too. -/
def RetEmpty (w : World) (e : Ending) (w' : World) : Prop :=
  ∃ gs cs gf cf, e = .returned (.agg (emptyD.dc (some ⟨gs, 0, none⟩) cs (some ⟨gf, 0, none⟩) cf).toArray) ∧ gs ≠ gf
    ∧ w'.ownsRow w.heap.size 49 17 (.slice (some ⟨gs, 0, none⟩) 32 cs) 32 (flat SlotV.cells emptyD.slots)
    ∧ w'.ownsRow w.heap.size 3 1 (.slice (some ⟨gf, 0, none⟩) 32 cf) 32 (intVs emptyD.free) ∧ Below w.heap.size w w'
theorem slotZ : (Tryd.prog.info? 49).map (fun i => (i.zero, i.size, i.bytes)) = some (some (.agg SlotV.zero.cells), 17, 144) := by kernel_rfl
/-- At the head of a round. -/
structure ERel (w : World) (i : Value) (wr : World) : Prop where
  ex : ∃ (k : Nat) (vs vf : Value), k ≤ 32 ∧ i = .int .i64 k ∧ Blk wr w.heap.size 25 #[.int .i64 0, .int .i64 0, .slice none 0 0, .slice none 0 0, .int .i64 0, .int .i64 0]
    ∧ Blk wr (w.heap.size + 1) 25 #[.int .i64 0, .int .i64 0, vs, vf, .int .i64 (-1), .int .i64 (-1)]
    ∧ wr.ownsRow (w.heap.size + 2) 49 17 vs k (flat SlotV.cells (List.replicate k SlotV.bare))
    ∧ wr.ownsRow (w.heap.size + 2) 3 1 vf k (intVs ((List.range k).map fun (i : Nat) => (i : Int)))
    ∧ (vs.ownBlock = none ∨ vs.ownBlock ≠ vf.ownBlock) ∧ Below w.heap.size w wr ∧ w.heap.size + 2 ≤ wr.heap.size
set_option maxHeartbeats 8000000 in
theorem empty_any (w : World) : Calls Tryd.prog 15 #[] w (RetEmpty w) := by
  obtain ⟨ii, iz, hi0, hz0, hz1, hz2, hz3⟩ := intInfo
  obtain ⟨si, hsi, hsz0, hsz1, hsz2⟩ := info_parts slotZ
  have HU := Lib.hid Tryd.underlying25
  obtain ⟨v1, hv1⟩ : ∃ v1, w.alloc (.cells #[.int .i64 0, .int .i64 0, .slice none 0 0, .slice none 0 0, .int .i64 0, .int .i64 0] 25) = v1 := ⟨_, rfl⟩
  obtain ⟨v2, hv2⟩ : ∃ v2, v1.alloc (.cells #[.int .i64 0, .int .i64 0, .slice none 0 0, .slice none 0 0, .int .i64 (-1), .int .i64 (-1)] 25) = v2 := ⟨_, rfl⟩
  have hs1 : v1.heap.size ≤ w.heap.size + 1 ∧ w.heap.size + 1 ≤ v1.heap.size := by rw [← hv1]; simp
  have hs2 : v2.heap.size ≤ v1.heap.size + 1 ∧ v1.heap.size + 1 ≤ v2.heap.size := by rw [← hv2]; simp
  have hb1 : Below w.heap.size w v1 := by rw [← hv1]; exact (Below.refl _ _).alloc (Nat.le_refl _) _
  have hb2 : Below v1.heap.size v1 v2 := by rw [← hv2]; exact (Below.refl _ _).alloc (Nat.le_refl _) _
  have BR : Blk v1 w.heap.size 25 #[.int .i64 0, .int .i64 0, .slice none 0 0, .slice none 0 0, .int .i64 0, .int .i64 0] := by rw [← hv1]; exact Blk.new _ _ _
  have BD : Blk v2 v1.heap.size 25 #[.int .i64 0, .int .i64 0, .slice none 0 0, .slice none 0 0, .int .i64 (-1), .int .i64 (-1)] := by rw [← hv2]; exact Blk.new _ _ _
  have hR : v1.heap.size = w.heap.size + 1 := by omega
  rw [hR] at BD
  have HR2 := Lib.hid (BR.below hb2 (by omega))
  have HD2 := Lib.hid BD
  have HBB := Lib.hid (hb1.trans (hb2.mono (by omega)))
  have HV1 := Lib.hid hv1
  have HV2 := Lib.hid hv2
  have hsz : w.heap.size + 2 ≤ v2.heap.size := by omega
  clear hv1 hv2 hb1 hb2 BR BD hR hs1 hs2
  go_enter Tryd.func15, Tryd.ntmps15
  go_wp2_with (first
    | ((with_reducible show wpList _ _ _ (Oper.mk none _ _ _ _ _ :: _) _ (World.alloc _ _)); rw [HV1.out]; refine wpList_store_new (ty := 25) rfl rfl rfl rfl rfl (dc_one ⟨0, 0, [], [], -1, -1⟩ none 0 none 0) dumpInfo ?_; rw [HV2.out]))
  go_loopw [2] (ERel w) (fun i _ => 32 - (intOf i).toNat)
  case atStart =>
    rw [HV1.out, HV2.out]
    exact ⟨⟨0, _, _, by omega, rfl, HR2.out, HD2.out, World.ownsRow_nil _ _ _ _, World.ownsRow_nil _ _ _ _, .inl rfl, HBB.out, hsz⟩⟩
  case round =>
    obtain ⟨⟨k, vs, vf, hk, rfl, hR, hD, hos, hof, hne, hbel, hwz⟩⟩ := hrel
    by_cases hlt : k < 32
    · have hki : (k : Int) < 32 := by omega
      have hsl := hwz
      obtain ⟨As, cas, rfl⟩ := owns_slice hos
      obtain ⟨Af, caf, rfl⟩ := owns_slice hof
      obtain ⟨vs, hvs⟩ : ∃ vs, Value.slice As k cas = vs := ⟨_, rfl⟩
      obtain ⟨vf, hvf⟩ : ∃ vf, Value.slice Af k caf = vf := ⟨_, rfl⟩
      have HVS := Lib.hid hvs
      have HVF := Lib.hid hvf
      rw [hvs] at hos hne hD
      rw [hvf] at hof hne hD
      have x2 : wr.cell? ⟨w.heap.size + 1, 2, none⟩ = some vs := (hD.cell 2).trans rfl
      have HOS := Lib.hid hos
      have HOF := Lib.hid hof
      have HDD := Lib.hid hD
      have HRR := Lib.hid hR
      have HBL := Lib.hid hbel
      have HNE := Lib.hid hne
      have X2 := Lib.hid x2
      clear hR hD hos hof hbel x2 hne hvs hvf
      go_upto_region 5 with fail
      refine wp_region_mix (fun W' => W'.cell? ⟨w.heap.size + 1, 2, none⟩ = some vs) 4 4 3 #[true, true, true, true, false, false, false] (by kernel_rfl) rfl ?_
      refine phs_take (some 8) #[true, false, false, false, false, false, false] (i := 0) (v := _) rfl (by kernel_rfl) (fun _ _ _ h => h) (Or.inl ⟨by rfl, by intro w hSw; (try dsimp only at hSw); go_simp; try with_reducible rfl⟩) X2.out rfl rfl ?_
      simp only [Act.put, List.setIfInBounds_toArray, List.set_cons_zero, List.set_cons_succ]
      refine phs_take (some 9) #[true, true, false, false, false, false, false] (i := 1) (v := _) rfl (by kernel_rfl) (fun _ _ _ h => h) (Or.inl ⟨by rfl, by intro w hSw; (try dsimp only at hSw); go_simp; try with_reducible rfl⟩) X2.out rfl rfl ?_
      simp only [Act.put, List.setIfInBounds_toArray, List.set_cons_zero, List.set_cons_succ]
      refine phs_list #[true, true, true, false, false, false, false] (i := 2) (o := { dst := some 10, op := Op.call { callee := Callee.value (Operand.func 30), args := #[], argTypes := #[] }, type := 49, pos := "outright.go:19", after := #[], guard := none }) rfl (by kernel_rfl) rfl (fun K hK => ?_)
      go_wp2_with (go_at_call 30; fail)
      refine (bare_any _).mono ?_
      rintro e w1 ⟨rfl, hb1⟩
      have hbd : Below wr.heap.size wr w1 := ((Below.refl wr.heap.size wr).drew).trans hb1
      have c1 : w1.cell? ⟨w.heap.size + 1, 2, none⟩ = some vs := (hbd.cell (by show w.heap.size + 1 < _; omega)).trans X2.out
      have hs1 := hbd.size
      have HO1 := Lib.hid (own_below HOS.out hbd)
      have HF1 := Lib.hid (own_below HOF.out hbd)
      have HD1 := Lib.hid (HDD.out.below hbd (by omega))
      have HR1 := Lib.hid (HRR.out.below hbd (by omega))
      have HB1 := Lib.hid (HBL.out.trans (hbd.mono (by omega)))
      have C1 := Lib.hid c1
      clear hb1 hbd c1 HOS HOF HDD HRR X2
      go_wp2
      refine hK.out _ _ C1.out (fun _ => ?_)
      clear hK
      try simp only [Act.put, List.setIfInBounds_toArray, List.set_cons_zero, List.set_cons_succ]
      refine phs_list #[true, true, true, true, false, false, false] (i := 3) (o := { dst := some 11, op := Op.buildSlice 22 1 #[(0, Operand.tmp 10)], type := 22, pos := "outright.go:19", after := #[{ on := 2, ground := Ground.data }], guard := none }) rfl (by kernel_rfl) rfl (fun K hK => ?_)
      go_wp2_with (refine wpList_buildSlice_one rfl rfl rfl Tryd.underlying22 hsi hsz0 hsz1 rfl (by decide) (by decide) ?_)
      refine hK.out _ _ (((Below.refl w1.heap.size w1).alloc (Nat.le_refl _) _).cell (by show w.heap.size + 1 < _; omega) |>.trans C1.out) (fun _ => ?_)
      clear hK
      try simp only [Act.put, List.setIfInBounds_toArray, List.set_cons_zero, List.set_cons_succ]
      refine phs_end (any_seq (k := 4) (by kernel_rfl) ?_)
      simp only [List.drop_succ_cons, List.drop_zero]
      have HSB := Lib.hid (show SlotV.bare.cells.size = 17 from rfl)
      have HX1 := Lib.hid (show k + 1 ≤ maxLen by unfold maxLen; omega)
      have HX2 := Lib.hid (show (k + 1) * 144 ≤ 140737488355328 by omega)
      have HX3 := Lib.hid (show (k + 1) * 8 ≤ 140737488355328 by omega)
      have hbs : w.heap.size + 2 ≤ w1.heap.size := by omega
      refine wpList_append_grows (v := vs) rfl _ _ 22 rfl Tryd.underlying22 hsi hsz0 hsz1 hsz2 rfl (by decide) rfl HO1.out rfl HSB.out (SlotV.one _) HX1.out HX2.out hbs ?_
      intro g' cap' w2 hown2 hgr2
      try simp only [Act.put, List.setIfInBounds_toArray, List.set_cons_zero, List.set_cons_succ]
      have hnb : ∀ b, some b = vs.ownBlock → w.heap.size + 2 ≤ b ∧ b < w1.heap.size := fun b e => HO1.out.lt b e.symm
      have hnf : ∀ b, some b = vf.ownBlock → w.heap.size + 2 ≤ b ∧ b < w1.heap.size := fun b e => HF1.out.lt b e.symm
      have hs2 := hgr2.grown.size
      have D2 := HD1.out.grows hgr2 (fun e => by have := (hnb _ e).1; omega)
      have R2 := HR1.out.grows hgr2 (fun e => by have := (hnb _ e).1; omega)
      have F2 := HF1.out.kept hgr2.grown (by
        rcases HNE.out with e | e
        · rw [e]; cases hv : vf.ownBlock <;> simp
        · exact .inr (Ne.symm e))
      have B2 := bel_grows HB1.out hgr2 HO1.out (by omega) (by omega)
      have N2 : vf.ownBlock = none ∨ vf.ownBlock ≠ some g' := by
        rcases hgr2.own with e | ⟨g, e, hg⟩
        · rcases HNE.out with f | f
          · rw [f] at e; cases e
          · exact .inr fun h => f (e.symm.trans h.symm)
        · right
          intro h
          have e' : g' = g := by simpa [Value.ownBlock] using e
          have := (hnf _ h.symm).2
          omega
      have c2 : w2.cell? ⟨w.heap.size + 1, 2, none⟩ = some vs := (D2.cell 2).trans rfl
      have f2 : w2.frozen? ⟨w.heap.size + 1, 2, none⟩ = false := D2.frozen 2
      obtain ⟨w3, hw3⟩ : ∃ w3, w2.setCell ⟨w.heap.size + 1, 2, none⟩ (.slice (some ⟨g', 0, none⟩) (k + 1) cap') = w3 := ⟨_, rfl⟩
      have hs3e : w3.heap.size = w2.heap.size := by rw [← hw3]; simp
      have hs3 : w3.heap.size ≤ w2.heap.size ∧ w2.heap.size ≤ w3.heap.size := by omega
      have HW3 := Lib.hid hw3
      have O3 := Lib.hid (show w3.ownsRow (w.heap.size + 2) 49 17 (.slice (some ⟨g', 0, none⟩) (k + 1) cap') (k + 1) _ from hw3 ▸ ownsRow_setCell_below hown2 (by show w.heap.size + 1 < _; omega) _)
      have F3 := Lib.hid (show w3.ownsRow (w.heap.size + 2) 3 1 vf k _ from hw3 ▸ ownsRow_setCell_below F2 (by show w.heap.size + 1 < _; omega) _)
      have D3 := Lib.hid (show Blk w3 (w.heap.size + 1) 25 #[.int .i64 0, .int .i64 0, .slice (some ⟨g', 0, none⟩) (k + 1) cap', vf, .int .i64 (-1), .int .i64 (-1)] by rw [← hw3]; exact D2.set_ 2 _)
      have R3 := Lib.hid (show Blk w3 w.heap.size 25 _ by rw [← hw3]; exact R2.far (by show w.heap.size ≠ w.heap.size + 1; omega) _)
      have B3 := Lib.hid (show Below w.heap.size w w3 by rw [← hw3]; exact B2.setCell (by show w.heap.size ≤ w.heap.size + 1; omega) _)
      have N3 := Lib.hid N2
      have HG3 := Lib.hid (show g' < w3.heap.size by rw [hs3e]; exact (hown2.lt g' rfl).2)
      have y3 : w3.cell? ⟨w.heap.size + 1, 3, none⟩ = some vf := (D3.out.cell 3).trans rfl
      have z3 : w3.frozen? ⟨w.heap.size + 1, 3, none⟩ = false := D3.out.frozen 3
      clear hs3e hw3 hown2 hgr2 D2 R2 F2 B2 N2 HO1 HF1 HD1 HR1 HB1 C1 hnb hnf
      have hbs3 : w.heap.size + 2 ≤ w3.heap.size := by omega
      go_wp2_with (first
        | ((with_reducible show wpList _ _ _ (Oper.mk (some 14) _ _ _ _ _ :: _) _ (World.setCell _ _ _)); rw [HW3.out])
        | ((with_reducible show wpList _ _ _ (Oper.mk (some 18) _ _ _ _ _ :: _) _ (World.alloc _ _)); refine wpList_append_grows (v := vf) rfl _ _ 23 rfl Tryd.underlying23 hi0 hz0 hz1 hz2 hz3 (by decide) rfl F3.out rfl rfl (int_one _) HX1.out HX3.out hbs3 ?_; intro g2 cap2 w4 hown4 hgr4; have D4 := D3.out.grows hgr4 (fun e => by have := (F3.out.lt _ e.symm).1; omega); have c4 : w4.cell? ⟨w.heap.size + 1, 3, none⟩ = some vf := (D4.cell 3).trans rfl; have f4 : w4.frozen? ⟨w.heap.size + 1, 3, none⟩ = false := D4.frozen 3))
      have hs4 := hgr4.grown.size
      have R4 := R3.out.grows hgr4 (fun e => by have := (F3.out.lt _ e.symm).1; omega)
      have O4 := O3.out.kept hgr4.grown (by
        right
        rcases N3.out with e | e
        · rw [e]; intro h; cases h
        · exact fun h => e h.symm)
      have B4 := bel_grows B3.out hgr4 F3.out (by omega) (by omega)
      have D5 := D4.set_ 3 (.slice (some ⟨g2, 0, none⟩) (k + 1) cap2)
      have R5 := R4.far (p := ⟨w.heap.size + 1, 3, none⟩) (by show w.heap.size ≠ w.heap.size + 1; omega) (.slice (some ⟨g2, 0, none⟩) (k + 1) cap2)
      have O5 := ownsRow_setCell_below O4 (a := ⟨w.heap.size + 1, 3, none⟩) (by show w.heap.size + 1 < _; omega) (.slice (some ⟨g2, 0, none⟩) (k + 1) cap2)
      have F5 := ownsRow_setCell_below hown4 (a := ⟨w.heap.size + 1, 3, none⟩) (by show w.heap.size + 1 < _; omega) (.slice (some ⟨g2, 0, none⟩) (k + 1) cap2)
      have B5 := B4.setCell (p := ⟨w.heap.size + 1, 3, none⟩) (by show w.heap.size ≤ w.heap.size + 1; omega) (.slice (some ⟨g2, 0, none⟩) (k + 1) cap2)
      have N5 : g' ≠ g2 := by
        rcases hgr4.own with e | ⟨g, e, hg⟩
        · have e' : some g2 = vf.ownBlock := e
          rcases N3.out with f | f
          · rw [f] at e'; cases e'
          · intro h; rw [h] at f; exact f e'.symm
        · have e' : g2 = g := by simpa [Value.ownBlock] using e
          have := HG3.out
          omega
      have e1 : flat SlotV.cells (List.replicate (k + 1) SlotV.bare) = flat SlotV.cells (List.replicate k SlotV.bare) ++ SlotV.bare.cells.toList := by rw [List.replicate_succ', flat_snoc]
      have e2 : intVs ((List.range (k + 1)).map fun (i : Nat) => (i : Int)) = intVs ((List.range k).map fun (i : Nat) => (i : Int)) ++ [.int .i64 (k : Int)] := by rw [List.range_succ, List.map_append, intVs_app]; rfl
      go_roundw
      case rel => exact ⟨⟨k + 1, _, _, by omega, by go_num, R5, D5, by rw [e1]; exact O5, by rw [e2]; exact F5, .inr (fun e => by injection e with e; exact N5 e), B5, by simp; omega⟩⟩
      case measure => simp [intOf]; omega
    · obtain rfl : k = 32 := by omega
      obtain ⟨gs, cs, rfl⟩ := own_form hos (by omega)
      obtain ⟨gf, cf, rfl⟩ := own_form hof (by omega)
      have hgg : gs ≠ gf := by
        rcases hne with e | e
        · cases e
        · intro h; exact e (by rw [h]; rfl)
      have hg1 := (own_cap hos).2.2
      have hg2 := (own_cap hof).2.2
      have HOS := Lib.hid hos
      have HOF := Lib.hid hof
      have HDD := Lib.hid hD
      have HRR := Lib.hid hR
      have HBL := Lib.hid hbel
      clear hR hD hos hof hbel hne hlt
      go_wp2_with (first
        | ((with_reducible show wpList _ _ _ (Oper.mk (some 20) (Op.load _ _) _ _ _ _ :: _) _ wr); refine wpList_load_at (ty := 25) rfl rfl rfl HDD.out.row HU.out rfl dumpInfo ?_)
        | ((with_reducible show wpList _ _ _ (Oper.mk none _ _ _ _ _ :: _) _ wr); refine wpList_store_all (vs := (emptyD.dc (some ⟨gs, 0, none⟩) cs (some ⟨gf, 0, none⟩) cf).toArray) rfl rfl rfl rfl HRR.out rfl (dc_one emptyD _ _ _ _) dumpInfo ?_))
      have BR := HRR.out.setRow_same (emptyD.dc (some ⟨gs, 0, none⟩) cs (some ⟨gf, 0, none⟩) cf).toArray
      have hgb : wr.grownBy (wr.setRow w.heap.size (emptyD.dc (some ⟨gs, 0, none⟩) cs (some ⟨gf, 0, none⟩) cf).toArray) (some w.heap.size) := ⟨rfl, rfl, rfl, by simp [World.setRow], fun k _ hk => setRow_other _ _ k _ (fun e => hk (by rw [e]))⟩
      refine bodyPost_ret (results_at rfl rfl BR.row HU.out rfl dumpInfo) rfl ⟨gs, cs, gf, cf, rfl, hgg, owns_lower (HOS.out.kept hgb (.inr ?_)) (by omega), owns_lower (HOF.out.kept hgb (.inr ?_)) (by omega), bel_setRow HBL.out (Nat.le_refl _) _⟩
      · intro e; injection e with e; have e' : gs = w.heap.size := e; omega
      · intro e; injection e with e; have e' : gf = w.heap.size := e; omega
end Go.Proofs.YtahcedpfnechfaaDoor
