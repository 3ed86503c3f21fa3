/-
  lineagelaw29: the walk of AuditKnown.
-/
import Derived.Test.YtahcedpfnechfaaDoorAudQ3
namespace Go.Proofs.YtahcedpfnechfaaDoor
set_option maxRecDepth 100000
open Go.RowKit Go.Sort

theorem own_take {w : World} {B : Nat} {e : TypeId} {size g n cap m : Nat} {xs : List Value} (h : w.ownsRow B e size (.slice (some ⟨g, 0, none⟩) n cap) n xs) (hm : m ≤ n) : w.ownsRow B e size (.slice (some ⟨g, 0, none⟩) m cap) m (xs.take (m * size)) := by
  have hl := h.1
  have hmn : m * size ≤ n * size := Nat.mul_le_mul_right size hm
  rcases h.2 with ⟨hv, _⟩ | ⟨g', cap', cur, hv, hb, hg, h1, h2, h3, h4⟩
  · cases hv
  · injection hv with e1 e2 e3
    injection e1 with e1
    injection e1 with e1 _ _
    subst e1 e3
    refine ⟨by rw [List.length_take]; omega, .inr ⟨g, cap, cur, rfl, hb, hg, by omega, h2, h3, ?_⟩⟩
    rw [← h4, List.take_take, Nat.min_eq_left hmn]
/-- 'append(v, x..)': the new ones lie in the block that was made last. -/
theorem wpList_append_many {P : Program} {ops : Array Oper} {rest : List Oper} {o' : Oper} {a : Act} {w : World} {Q : Exit → Act → World → Prop} {cs : Array Value} {e : TypeId} (m : Nat) (hm : 0 < m) (hgd : o'.guard = none) (s x : Operand) (t : TypeId) (ho : o'.op = .call { callee := .builtin .append, args := #[s, x], argTypes := #[t, t] })
    {base : Nat} {i : TypeInfo} {z : Value} {size bytes : Nat} (ht : P.underlying t = some (.slice e)) (hi : P.info? e = some i) (hz : i.zero = some z)
    (hsize : i.size = size) (hby : i.bytes = bytes) (hzs : z.cells.size = size) (hsz : 0 < size)
    {v : Value} {n : Nat} {xs : List Value} (hs : a.eval s = v) (hown : w.ownsRow base e size v n xs)
    (hx : a.eval x = .slice (some ⟨w.heap.size, 0, none⟩) m m) (hcs : cs.size = m * size) (h1 : ∀ u ∈ cs.toList, u.oneCell' = true)
    (h63 : n + m ≤ maxLen) (hbytes : (n + m) * bytes ≤ 140737488355328) (hbase : base ≤ w.heap.size)
    (h : ∀ g cap w', w'.ownsRow base e size (.slice (some ⟨g, 0, none⟩) (n + m) cap) (n + m) (xs ++ cs.toList) → Grows w w' v (.slice (some ⟨g, 0, none⟩) (n + m) cap) → wpList P ops Q rest (a.put o'.dst (.slice (some ⟨g, 0, none⟩) (n + m) cap)) w') :
    wpList P ops Q (o' :: rest) a (w.alloc (.cells cs e)) := by
  refine wpList_append_own_at (w.alloc (.cells cs e)) hgd s x t ho base e i z size bytes ht hi hz hsize hby hzs hsz v n xs hs (hown.alloc _) ⟨w.heap.size, 0, none⟩ m m cs.toList hx (by simp [hcs]) ?_ h1 h63 hbytes (by simp; omega) ?_
  · intro j u hu
    rw [Addr.add_lit]
    exact (Blk.new w e cs).row.at_ j u (by simpa using hu)
  · intro v' w' hown' hgrow _ hat
    obtain ⟨g, cap, rfl⟩ := own_form hown' (by omega)
    refine h g cap w' hown' ⟨?_, ?_⟩
    · have := World.grownBy_alloc w (.cells cs e) v.ownBlock
      exact ⟨hgrow.os.trans this.os, hgrow.tape.trans this.tape, hgrow.output.trans this.output, Nat.le_trans this.size hgrow.size, fun k hk hne => (hgrow.block k (Nat.lt_of_lt_of_le hk this.size) hne).trans (this.block k hk hne)⟩
    · rcases hat with e | e
      · exact .inl e
      · exact .inr ⟨_, e, by simp⟩
/-- The free ones are a new row. -/
theorem DSt.free_new {W0 w : World} {D : Nat} {d : DumpV} {gs cs : Nat} {Af : Option Addr} {cf : Nat} (h : DSt W0 w D d gs cs Af cf) {w' : World} {gf g' n0 c0 n c : Nat} (L : List Int) (hgr : Grows w w' (.slice (some ⟨gf, 0, none⟩) n0 c0) (.slice (some ⟨g', 0, none⟩) n c)) (hgf : gf ≠ gs ∧ gf ≠ D ∧ W0.heap.size ≤ gf)
    (hown : w'.ownsRow W0.heap.size 3 1 (.slice (some ⟨g', 0, none⟩) n c) n (intVs L)) (hn : L.length = n) : g' ≠ gs ∧ g' ≠ D ∧ DSt W0 (w'.setCell ⟨D, 3, none⟩ (.slice (some ⟨g', 0, none⟩) n c)) D { d with free := L } gs cs (some ⟨g', 0, none⟩) c
      ∧ (w'.setCell ⟨D, 3, none⟩ (.slice (some ⟨g', 0, none⟩) n c)).ownsRow W0.heap.size 3 1 (.slice (some ⟨g', 0, none⟩) n c) n (intVs L) := by
  have hg := (own_cap h.own).2.2
  have hD := h.blk.lt
  have hne : g' ≠ gs ∧ g' ≠ D := by
    rcases hgr.own with e | ⟨g, e, hl⟩
    · have e' : g' = gf := by simpa [Value.ownBlock] using e
      rw [e']; exact ⟨hgf.1, hgf.2.1⟩
    · have e' : g' = g := by simpa [Value.ownBlock] using e
      exact ⟨by omega, by omega⟩
  have hob : (Value.slice (some ⟨gf, 0, none⟩) n0 c0).ownBlock = some gf := rfl
  have hB : Blk w' D 25 _ := h.blk.grows hgr (by rw [hob]; intro e; injection e with e; exact hgf.2.1 e.symm)
  have hO := h.own.kept hgr.grown (.inr (by rw [hob]; intro e; injection e with e; exact hgf.1 (by have e' : gs = gf := e; exact e'.symm)))
  have hown2 := ownsRow_setCell_other hown (a := ⟨D, 3, none⟩) (by show some g' ≠ some D; intro e; injection e with e; exact hne.2 e) (.slice (some ⟨g', 0, none⟩) n c)
  have hbl : Below W0.heap.size W0 w' := h.bl.grown hgr.grown h.bl.size (fun r e => by rw [hob] at e; injection e with e; have e' : gf = r := e; omega)
  refine ⟨hne.1, hne.2, ⟨?_, ownsRow_setCell_other hO (a := ⟨D, 3, none⟩) (by show some gs ≠ some D; intro e; injection e with e; exact h.ne e.symm) _, own_ints hown2, fun a e => ?_, hbl.setCell h.hD _, h.hD, h.ne⟩, hown2⟩
  · have := hB.set_ 3 (.slice (some ⟨g', 0, none⟩) n c)
    rw [← hn] at this ⊢
    exact this
  · cases e
    have := own_cap hown
    exact ⟨this.2.2.1, by simpa using this.2.2.2, hne.1, hne.2⟩
/-- Another dump is laid over the variable. -/
theorem DSt.again {W0 wc w1 : World} {D : Nat} {d0 d : DumpV} {gs0 cs0 gs cs : Nat} {Af0 Af : Option Addr} {cf0 cf : Nat} (h : DSt W0 wc D d0 gs0 cs0 Af0 cf0) (hb : Below wc.heap.size wc w1) (hH : DumpH w1 wc.heap.size d gs cs Af) : DSt W0 (w1.setRow D (DumpV.dc d (some ⟨gs, 0, none⟩) cs Af cf).toArray) D d gs cs Af cf := by
  have hg := (own_cap hH.own).2.2
  have hD := h.blk.lt
  have hs := h.bl.size
  have hgb : w1.grownBy (w1.setRow D (DumpV.dc d (some ⟨gs, 0, none⟩) cs Af cf).toArray) (some D) := ⟨rfl, rfl, rfl, by simp [World.setRow], fun k _ hk => setRow_other _ _ k _ (fun e => hk (by rw [e]))⟩
  refine ⟨(h.blk.below hb hD).setRow_same _, owns_lower (hH.own.kept hgb (.inr ?_)) hs, hH.free.kept hgb.size fun a e _ => setRow_other _ _ _ _ ?_, fun a e => ?_, bel_setRow (h.bl.trans (hb.mono hs)) h.hD _, h.hD, by omega⟩
  · intro e; injection e with e; have e' : gs = D := e; omega
  · have := (hH.lt a e).1; omega
  · have := hH.lt a e
    have hs2 := hgb.size
    exact ⟨by omega, by omega, this.2.2, by omega⟩
def kD1 : DumpV := { emptyD with free := emptyD.free.take 31 }
def kD2 : DumpV := { kD1 with free := emptyD.free.take 31 ++ [31, 31] }
def kD3 : DumpV := { kD2 with free := emptyD.free.take 31 ++ [32] }
def kD4 : DumpV := { kD3 with slots := emptyD.slots.take 31 }
theorem prt_empty : partsX emptyD = (0, 0, 32) := by kernel_rfl
theorem chk_kD1 : checkV kD1 = faultV 24 31 := by kernel_rfl
theorem chk_kD2 : checkV kD2 = faultV 24 31 := by kernel_rfl
theorem chk_kD3 : checkV kD3 = faultV 24 (-1) := by kernel_rfl
theorem chk_kD4 : checkV kD4 = errno 1 := by kernel_rfl
def mS1 : SlotV := { slot0 with deadline := 3 }
def mD1 : DumpV := { oneD with slots := oneD.slots.set 0 mS1 }
theorem chk_mD1 : checkV mD1 = faultV 24 0 := by kernel_rfl
def nD1 : DumpV := { oneD with births := 0 }
theorem chk_nD1 : checkV nD1 = faultV 24 0 := by kernel_rfl
def oD1 : DumpV := { oneD with roots := -1 }
def oD2 : DumpV := { oD1 with garbage := 0 }
def oS3 : SlotV := { slot0 with dead := true }
def oD3 : DumpV := { oD2 with slots := oD2.slots.set 0 oS3 }
theorem chk_oD3 : checkV oD3 = .nilIface := by kernel_rfl
theorem prt_oD3 : partsX oD3 = (0, 1, 31) := by kernel_rfl
theorem DSt.slots31 {W0 w : World} {D gs cs : Nat} {Af : Option Addr} {cf : Nat} (h : DSt W0 w D kD3 gs cs Af cf) : DSt W0 (w.setCell ⟨D, 2, none⟩ (.slice (some ⟨gs, 0, none⟩) 31 cs)) D kD4 gs cs Af cf := by
  refine ⟨h.blk.set_ 2 _, ?_, h.free.kept (by simp) fun a e _ => Below.heap_setCell _ _ _ _ (h.lt a e).2.2.2, fun a e => by have := h.lt a e; exact ⟨this.1, by simpa using this.2.1, this.2.2⟩, h.bl.setCell h.hD _, h.hD, h.ne⟩
  have h1 := own_take (m := 31) h.own (by decide)
  have h2 : (flat SlotV.cells kD3.slots).take (31 * 17) = flat SlotV.cells kD4.slots := by
    have e1 : kD3.slots = emptyD.slots.take 31 ++ [SlotV.bare] := by kernel_rfl
    have e2 : (flat SlotV.cells (emptyD.slots.take 31)).length = 31 * 17 := by rw [flat_len]; rfl
    rw [e1, flat_snoc, ← e2, List.take_left]
    rfl
  rw [h2] at h1
  exact ownsRow_setCell_other h1 (by show some gs ≠ some D; intro e; injection e with e; exact h.ne e.symm) _
set_option maxHeartbeats 32000000 in
theorem auditKnown_any (w : World) (hg : Laid w) : Calls Tryd.prog 5 #[] w (RetB (.bool true) w) := by
  obtain ⟨ii, iz, hi0, hz0, hz1, hz2, hz3⟩ := intInfo
  have HU := Lib.hid Tryd.underlying25
  have hpos := hg.pos
  have HG := Lib.hid hg
  have hc01 : (1 : Int) < 32 := by decide
  clear hg
  go_enter Tryd.func5, Tryd.ntmps5
  go_wp2_with (first
    | (go_at_call 15; fail))
  refine (empty_any w).mono ?_
  rintro e w1 ⟨gs, cs, gf, cf, rfl, hne, hos, hof, hb1⟩
  have hcs := own_cap hos
  have hcf := own_cap hof
  obtain ⟨v2, hv2⟩ : ∃ x, w1.alloc (.cells (DumpV.dc emptyD (some ⟨gs, 0, none⟩) cs (some ⟨gf, 0, none⟩) cf).toArray 25) = x := ⟨_, rfl⟩
  have Sv2 := Lib.hid (hv2 ▸ DSt.start (cf := cf) (dumpH_empty hos hof hne) hb1)
  have HWv2 := Lib.hid hv2
  clear hv2
  have hs1 := hb1.size
  have hs2 : v2.heap.size ≤ w1.heap.size + 1 ∧ w1.heap.size + 1 ≤ v2.heap.size := by rw [← HWv2.out]; simp
  have O2 := Lib.hid (show v2.ownsRow w.heap.size 3 1 _ 32 _ from own_below hof (by rw [← HWv2.out]; exact (Below.refl _ _).alloc (Nat.le_refl _) _))
  have hne1 : gf ≠ gs := Ne.symm hne
  have hne2 : gf ≠ w1.heap.size := by omega
  have hcs2 : (31 : Int) ≤ (cs : Int) := by omega
  have hcf2 : (31 : Int) ≤ (cf : Int) := by omega
  have hcf3 : (cf : Int) ≤ 9223372036854775807 := by have := hcf.2.1; unfold maxLen at this; omega
  have hcs3 : (cs : Int) ≤ 9223372036854775807 := by have := hcs.2.1; unfold maxLen at this; omega
  clear hne hos hof hb1
  go_wp2_with (first
    | ((with_reducible show wpList _ _ _ (Oper.mk none _ _ _ _ _ :: _) _ (World.alloc _ _)); refine wpList_store_new (ty := 25) rfl rfl rfl rfl rfl (dc_one emptyD _ _ _ _) dumpInfo ?_; rw [HWv2.out])
    | (go_at_call 14; fail))
  refine (works_any v2 (HG.out.below Sv2.out.bl hpos)).mono ?_
  rintro e w3 ⟨rfl, hb3⟩
  have hs3 := hb3.size
  have S3 := Lib.hid (Sv2.out.below hb3)
  have O3 := Lib.hid (own_below O2.out hb3)
  have HP3 := Lib.hid (parts_any emptyD (some ⟨gs, 0, none⟩) cs (some ⟨gf, 0, none⟩) cf 0 0 32 prt_empty (len_small (by decide)) (len_small (by decide)) w3 S3.out.dump)
  clear hb3
  go_wp2_with (first
    | ((with_reducible show wpList _ _ _ (Oper.mk (some 10) (Op.load _ _) _ _ _ _ :: _) _ w3); refine wpList_load_at (ty := 25) rfl rfl rfl S3.out.blk.row HU.out rfl dumpInfo ?_)
    | (go_at_call 16; fail))
  refine HP3.out.mono ?_
  rintro e w4 ⟨rfl, hb4⟩
  have hs4 := hb4.size
  have S4 := Lib.hid (S3.out.below hb4)
  have O4 := Lib.hid (own_below O3.out hb4)
  clear hb4 HP3
  have x4 : w4.cell? ⟨w1.heap.size, 3, none⟩ = some (.slice (some ⟨gf, 0, none⟩) 32 cf) := (S4.out.blk.cell 3).trans rfl
  have f4 : w4.frozen? ⟨w1.heap.size, 3, none⟩ = false := S4.out.blk.frozen 3
  obtain ⟨w5, hw5⟩ : ∃ x, w4.setCell ⟨w1.heap.size, 3, none⟩ (.slice (some ⟨gf, 0, none⟩) 31 cf) = x := ⟨_, rfl⟩
  have S5 := Lib.hid (show DSt w w5 w1.heap.size kD1 gs cs (some ⟨gf, 0, none⟩) cf from hw5 ▸ S4.out.put 3 (.slice (some ⟨gf, 0, none⟩) 31 cf) kD1 (some ⟨gf, 0, none⟩) cf rfl rfl (fun w' hi _ => by
    obtain ⟨b', o', e, hl, hc⟩ := hi (by decide)
    refine ⟨b', o', e, hl, fun k i hk => hc k i ?_⟩
    have hk2 : (emptyD.free.take 31)[k]? = some i := hk
    have hlt := (List.getElem?_eq_some_iff.1 hk2).1
    rw [List.getElem?_take, if_pos (by rw [List.length_take] at hlt; omega)] at hk2
    exact hk2) (fun a e => ⟨a, e, rfl⟩))
  have O5 := Lib.hid (show w5.ownsRow w.heap.size 3 1 (.slice (some ⟨gf, 0, none⟩) 31 cf) 31 (intVs (emptyD.free.take 31)) from hw5 ▸ ownsRow_setCell_other (own_take O4.out (by decide)) (by show some gf ≠ some w1.heap.size; intro e; injection e with e; exact hne2 e) _)
  have HW5 := Lib.hid hw5
  have HC5 := Lib.hid (cCheck_any kD1 (some ⟨gs, 0, none⟩) cs (some ⟨gf, 0, none⟩) cf (len_small (by decide)) (len_small (by decide)) w5 S5.out.dump)
  rw [chk_kD1] at HC5
  have hs5 : w4.heap.size ≤ w5.heap.size := by rw [← hw5]; simp
  clear hw5
  go_wp2_with (first
    | ((with_reducible show wpList _ _ _ _ _ (World.setCell _ _ _)); rw [HW5.out])
    | ((with_reducible show wpList _ _ _ (Oper.mk (some 18) (Op.load _ _) _ _ _ _ :: _) _ w5); refine wpList_load_at (ty := 25) rfl rfl rfl S5.out.blk.row HU.out rfl dumpInfo ?_)
    | (go_at_call 9; fail))
  refine HC5.out.mono ?_
  rintro e w6 ⟨rfl, hb6⟩
  have hs6 := hb6.size
  have S6 := Lib.hid (S5.out.below hb6)
  have O6 := Lib.hid (own_below O5.out hb6)
  have x6 : w6.cell? ⟨w1.heap.size, 3, none⟩ = some (.slice (some ⟨gf, 0, none⟩) 31 cf) := (S6.out.blk.cell 3).trans rfl
  have hbs6 : w.heap.size ≤ w6.heap.size := S6.out.bl.size
  clear hb6 HC5
  go_wp2_with (first
    | ((with_reducible show wpList _ _ _ (Oper.mk (some 23) _ _ _ _ _ :: _) _ (World.alloc _ _))
       refine wpList_append_many 2 (by decide) rfl _ _ 23 rfl Tryd.underlying23 hi0 hz0 hz1 hz2 hz3 (by decide) rfl O6.out rfl rfl (by intro u hu; simp at hu; subst hu; rfl) (len_small (by decide)) (by decide) (by omega) ?_
       intro g7 c7 w7 hown7 hgr7
       have hfn7 := S6.out.free_new (emptyD.free.take 31 ++ [31, 31]) hgr7 ⟨hne1, hne2, by have := (own_cap O6.out).2.2.1; exact this⟩ (by rw [intVs_app]; exact hown7) rfl
       have y7 : w7.cell? ⟨w1.heap.size, 3, none⟩ = some (.slice (some ⟨gf, 0, none⟩) 31 cf) := ((S6.out.blk.grows hgr7 (by intro e; injection e with e; exact hne2 (by have e' : w1.heap.size = gf := e; exact e'.symm))).cell 3).trans rfl
       have z7 : w7.frozen? ⟨w1.heap.size, 3, none⟩ = false := (S6.out.blk.grows hgr7 (by intro e; injection e with e; exact hne2 (by have e' : w1.heap.size = gf := e; exact e'.symm))).frozen 3
       obtain ⟨w8, hw8⟩ : ∃ x, w7.setCell ⟨w1.heap.size, 3, none⟩ (.slice (some ⟨g7, 0, none⟩) 33 c7) = x := ⟨_, rfl⟩
       have S8 := Lib.hid (show DSt w w8 w1.heap.size kD2 gs cs (some ⟨g7, 0, none⟩) c7 from hw8 ▸ hfn7.2.2.1)
       have O8 := Lib.hid (show w8.ownsRow w.heap.size 3 1 (.slice (some ⟨g7, 0, none⟩) 33 c7) 33 (intVs (emptyD.free.take 31 ++ [31, 31])) from hw8 ▸ hfn7.2.2.2)
       have HWw8 := Lib.hid hw8
       have hnx7 := hfn7.1
       have hny7 := hfn7.2.1
       clear hw8 hfn7 hown7 hgr7)
    | ((with_reducible show wpList _ _ _ _ _ (World.setCell _ _ _)); rw [HWw8.out])
    | ((with_reducible show wpList _ _ _ (Oper.mk (some 25) (Op.load _ _) _ _ _ _ :: _) _ w8); refine wpList_load_at (ty := 25) rfl rfl rfl S8.out.blk.row HU.out rfl dumpInfo ?_)
    | (go_at_call 9; fail))
  have HC8 := Lib.hid (cCheck_any kD2 (some ⟨gs, 0, none⟩) cs (some ⟨g7, 0, none⟩) c7 (len_small (by decide)) (len_small (by decide)) w8 S8.out.dump)
  rw [chk_kD2] at HC8
  refine HC8.out.mono ?_
  rintro e w9 ⟨rfl, hb9⟩
  have S9 := Lib.hid (S8.out.below hb9)
  have O9 := Lib.hid (own_take (m := 31) (own_below O8.out hb9) (by decide))
  have hc7 := own_cap O8.out
  have hc71 : (31 : Int) ≤ (c7 : Int) := by omega
  have hc72 : (c7 : Int) ≤ 9223372036854775807 := by have := hc7.2.1; unfold maxLen at this; omega
  have x9 : w9.cell? ⟨w1.heap.size, 3, none⟩ = some (.slice (some ⟨g7, 0, none⟩) 33 c7) := (S9.out.blk.cell 3).trans rfl
  have hbs9 : w.heap.size ≤ w9.heap.size := S9.out.bl.size
  clear hb9 HC8 hc7
  go_wp2_with (first
    | ((with_reducible show wpList _ _ _ (Oper.mk (some 31) _ _ _ _ _ :: _) _ (World.alloc _ _))
       refine wpList_append_many 1 (by decide) rfl _ _ 23 rfl Tryd.underlying23 hi0 hz0 hz1 hz2 hz3 (by decide) rfl O9.out rfl rfl (by intro u hu; simp at hu; subst hu; rfl) (len_small (by decide)) (by decide) (by omega) ?_
       intro g10 c10 w10 hown10 hgr10
       have hfn10 := S9.out.free_new (emptyD.free.take 31 ++ [32]) hgr10 ⟨hnx7, hny7, by have := (own_cap O9.out).2.2.1; exact this⟩ (by rw [intVs_app]; exact hown10) rfl
       have y10 : w10.cell? ⟨w1.heap.size, 3, none⟩ = some (.slice (some ⟨g7, 0, none⟩) 33 c7) := ((S9.out.blk.grows hgr10 (by intro e; injection e with e; exact hny7 (by have e' : w1.heap.size = g7 := e; exact e'.symm))).cell 3).trans rfl
       have z10 : w10.frozen? ⟨w1.heap.size, 3, none⟩ = false := (S9.out.blk.grows hgr10 (by intro e; injection e with e; exact hny7 (by have e' : w1.heap.size = g7 := e; exact e'.symm))).frozen 3
       obtain ⟨w11, hw11⟩ : ∃ x, w10.setCell ⟨w1.heap.size, 3, none⟩ (.slice (some ⟨g10, 0, none⟩) 32 c10) = x := ⟨_, rfl⟩
       have S11 := Lib.hid (show DSt w w11 w1.heap.size kD3 gs cs (some ⟨g10, 0, none⟩) c10 from hw11 ▸ hfn10.2.2.1)
       have O11 := Lib.hid (show w11.ownsRow w.heap.size 3 1 (.slice (some ⟨g10, 0, none⟩) 32 c10) 32 (intVs (emptyD.free.take 31 ++ [32])) from hw11 ▸ hfn10.2.2.2)
       have HWw11 := Lib.hid hw11
       have hnx10 := hfn10.1
       have hny10 := hfn10.2.1
       clear hw11 hfn10 hown10 hgr10)
    | ((with_reducible show wpList _ _ _ _ _ (World.setCell _ _ _)); rw [HWw11.out])
    | ((with_reducible show wpList _ _ _ (Oper.mk (some 33) (Op.load _ _) _ _ _ _ :: _) _ w11); refine wpList_load_at (ty := 25) rfl rfl rfl S11.out.blk.row HU.out rfl dumpInfo ?_)
    | (go_at_call 9; fail))
  have HC11 := Lib.hid (cCheck_any kD3 (some ⟨gs, 0, none⟩) cs (some ⟨g10, 0, none⟩) c10 (len_small (by decide)) (len_small (by decide)) w11 S11.out.dump)
  rw [chk_kD3] at HC11
  refine HC11.out.mono ?_
  rintro e w12 ⟨rfl, hb12⟩
  have S12 := Lib.hid (S11.out.below hb12)
  clear hb12 HC11
  have x12 : w12.cell? ⟨w1.heap.size, 2, none⟩ = some (.slice (some ⟨gs, 0, none⟩) 32 cs) := (S12.out.blk.cell 2).trans rfl
  have f12 : w12.frozen? ⟨w1.heap.size, 2, none⟩ = false := S12.out.blk.frozen 2
  obtain ⟨w13, hw13⟩ : ∃ x, w12.setCell ⟨w1.heap.size, 2, none⟩ (.slice (some ⟨gs, 0, none⟩) 31 cs) = x := ⟨_, rfl⟩
  have S13 := Lib.hid (show DSt w w13 w1.heap.size kD4 gs cs (some ⟨g10, 0, none⟩) c10 from hw13 ▸ S12.out.slots31)
  have HW13 := Lib.hid hw13
  have HC13 := Lib.hid (cCheck_any kD4 (some ⟨gs, 0, none⟩) cs (some ⟨g10, 0, none⟩) c10 (len_small (by decide)) (len_small (by decide)) w13 S13.out.dump)
  rw [chk_kD4] at HC13
  clear hw13
  go_wp2_with (first
    | ((with_reducible show wpList _ _ _ _ _ (World.setCell _ _ _)); rw [HW13.out])
    | ((with_reducible show wpList _ _ _ (Oper.mk (some 39) (Op.load _ _) _ _ _ _ :: _) _ w13); refine wpList_load_at (ty := 25) rfl rfl rfl S13.out.blk.row HU.out rfl dumpInfo ?_)
    | (go_at_call 9; fail))
  refine HC13.out.mono ?_
  rintro e w14 ⟨rfl, hb14⟩
  have S14 := Lib.hid (S13.out.below hb14)
  clear hb14 HC13
  go_wp2_with (first
    | (go_at_call 13; fail))
  refine (at_fault 24 31 (by decide) (by decide) w14 (HG.out.below S14.out.bl hpos)).mono ?_
  rintro e w15 ⟨rfl, hbw15⟩
  have S15 := Lib.hid (S14.out.below hbw15)
  clear hbw15
  go_wp2_with (first
    | (go_at_call 13; fail))
  refine (at_fault 24 31 (by decide) (by decide) w15 (HG.out.below S15.out.bl hpos)).mono ?_
  rintro e w16 ⟨rfl, hbw16⟩
  have S16 := Lib.hid (S15.out.below hbw16)
  clear hbw16
  go_wp2_with (first
    | (go_at_call 13; fail))
  refine (at_fault 24 (-1) (by decide) (by decide) w16 (HG.out.below S16.out.bl hpos)).mono ?_
  rintro e w17 ⟨rfl, hbw17⟩
  have S17 := Lib.hid (S16.out.below hbw17)
  clear hbw17
  go_wp2_with (first
    | (go_at_call 12; fail))
  refine (plain_same 1 (by decide) (by decide) w17 (HG.out.below S17.out.bl hpos)).mono ?_
  rintro e w18 ⟨rfl, hbw18⟩
  have S18 := Lib.hid (S17.out.below hbw18)
  clear hbw18
  go_wp2_with (first
    | (go_at_call 17; fail))
  refine (one_any w18).mono ?_
  rintro e um ⟨gsm, csm, Afm, cfm, rfl, hHm, _, _, hbm⟩
  obtain ⟨vm, hvm⟩ : ∃ x, um.setRow w1.heap.size (DumpV.dc oneD (some ⟨gsm, 0, none⟩) csm Afm cfm).toArray = x := ⟨_, rfl⟩
  have Svm := Lib.hid (show DSt w vm w1.heap.size oneD gsm csm Afm cfm from hvm ▸ S18.out.again hbm hHm)
  have Bum := Lib.hid (S18.out.blk.below hbm S18.out.blk.lt)
  have HWvm := Lib.hid hvm
  have hgcm := (own_cap Svm.out.own).1
  clear hvm hHm hbm
  have ym1 : vm.cell? ⟨w1.heap.size, 2, none⟩ = some (.slice (some ⟨gsm, 0, none⟩) 32 csm) := (Svm.out.blk.cell 2).trans rfl
  have xm1 : vm.cell? ⟨gsm, 15, none⟩ = some (.int .i64 9) := Svm.out.at_ (k := 0) (s := slot0) rfl 15 15 rfl rfl
  have fm1 : vm.frozen? ⟨gsm, 15, none⟩ = false := Svm.out.ice 15
  obtain ⟨m1, hm1⟩ : ∃ x, vm.setCell ⟨gsm, 15, none⟩ (.int .i64 3) = x := ⟨_, rfl⟩
  have Sm1 := Lib.hid (show DSt w m1 (w1.heap.size) mD1 gsm csm Afm cfm from hm1 ▸ Svm.out.field (k := 0) (s := slot0) rfl 15 15 rfl (by decide) (.int .i64 3) mS1 rfl)
  have HWm1 := Lib.hid hm1
  clear hm1
  have HCw20 := Lib.hid (cCheck_any mD1 (some ⟨gsm, 0, none⟩) csm Afm cfm (len_small (by decide)) (len_small (by decide)) m1 Sm1.out.dump)
  rw [chk_mD1] at HCw20
  go_wp2_with (first
    | ((with_reducible show wpList _ _ _ (Oper.mk none _ _ _ _ _ :: _) _ um); refine wpList_store_all (vs := (DumpV.dc oneD (some ⟨gsm, 0, none⟩) csm Afm cfm).toArray) rfl rfl rfl rfl Bum.out rfl (dc_one oneD _ _ _ _) dumpInfo ?_; rw [HWvm.out])
    | ((with_reducible show wpList _ _ _ _ _ (World.setCell _ _ _)); (first | rw [HWm1.out]))
    | ((with_reducible show wpList _ _ _ _ _ (World.setRow _ _ _)); (first | rw [HWm1.out]))
    | ((with_reducible show wpList _ _ _ (Oper.mk (some 65) (Op.load _ _) _ _ _ _ :: _) _ m1); refine wpList_load_at (ty := 25) rfl rfl rfl Sm1.out.blk.row HU.out rfl dumpInfo ?_)
    | (go_at_call 9; fail))
  refine HCw20.out.mono ?_
  rintro e w20 ⟨rfl, hbw20⟩
  have S20 := Lib.hid (Sm1.out.below hbw20)
  clear hbw20 HCw20
  go_wp2_with (first
    | (go_at_call 17; fail))
  refine (one_any w20).mono ?_
  rintro e un ⟨gsn, csn, Afn, cfn, rfl, hHn, _, _, hbn⟩
  obtain ⟨vn, hvn⟩ : ∃ x, un.setRow w1.heap.size (DumpV.dc oneD (some ⟨gsn, 0, none⟩) csn Afn cfn).toArray = x := ⟨_, rfl⟩
  have Svn := Lib.hid (show DSt w vn w1.heap.size oneD gsn csn Afn cfn from hvn ▸ S20.out.again hbn hHn)
  have Bun := Lib.hid (S20.out.blk.below hbn S20.out.blk.lt)
  have HWvn := Lib.hid hvn
  have hgcn := (own_cap Svn.out.own).1
  clear hvn hHn hbn
  have xn1 : vn.cell? ⟨w1.heap.size, 1, none⟩ = some (.int .i64 1) := (Svn.out.blk.cell 1).trans rfl
  have fn1 : vn.frozen? ⟨w1.heap.size, 1, none⟩ = false := Svn.out.blk.frozen 1
  obtain ⟨n1, hn1⟩ : ∃ x, vn.setCell ⟨w1.heap.size, 1, none⟩ (.int .i64 0) = x := ⟨_, rfl⟩
  have Sn1 := Lib.hid (show DSt w n1 (w1.heap.size) nD1 gsn csn Afn cfn from hn1 ▸ Svn.out.births 0)
  have HWn1 := Lib.hid hn1
  clear hn1
  have HCw21 := Lib.hid (cCheck_any nD1 (some ⟨gsn, 0, none⟩) csn Afn cfn (len_small (by decide)) (len_small (by decide)) n1 Sn1.out.dump)
  rw [chk_nD1] at HCw21
  go_wp2_with (first
    | ((with_reducible show wpList _ _ _ (Oper.mk none _ _ _ _ _ :: _) _ un); refine wpList_store_all (vs := (DumpV.dc oneD (some ⟨gsn, 0, none⟩) csn Afn cfn).toArray) rfl rfl rfl rfl Bun.out rfl (dc_one oneD _ _ _ _) dumpInfo ?_; rw [HWvn.out])
    | ((with_reducible show wpList _ _ _ _ _ (World.setCell _ _ _)); (first | rw [HWn1.out]))
    | ((with_reducible show wpList _ _ _ _ _ (World.setRow _ _ _)); (first | rw [HWn1.out]))
    | ((with_reducible show wpList _ _ _ (Oper.mk (some 69) (Op.load _ _) _ _ _ _ :: _) _ n1); refine wpList_load_at (ty := 25) rfl rfl rfl Sn1.out.blk.row HU.out rfl dumpInfo ?_)
    | (go_at_call 9; fail))
  refine HCw21.out.mono ?_
  rintro e w21 ⟨rfl, hbw21⟩
  have S21 := Lib.hid (Sn1.out.below hbw21)
  clear hbw21 HCw21
  go_wp2_with (first
    | (go_at_call 17; fail))
  refine (one_any w21).mono ?_
  rintro e uo ⟨gso, cso, Afo, cfo, rfl, hHo, _, _, hbo⟩
  obtain ⟨vo, hvo⟩ : ∃ x, uo.setRow w1.heap.size (DumpV.dc oneD (some ⟨gso, 0, none⟩) cso Afo cfo).toArray = x := ⟨_, rfl⟩
  have Svo := Lib.hid (show DSt w vo w1.heap.size oneD gso cso Afo cfo from hvo ▸ S21.out.again hbo hHo)
  have Buo := Lib.hid (S21.out.blk.below hbo S21.out.blk.lt)
  have HWvo := Lib.hid hvo
  have hgco := (own_cap Svo.out.own).1
  clear hvo hHo hbo
  have xo1 : vo.cell? ⟨w1.heap.size, 5, none⟩ = some (.int .i64 0) := (Svo.out.blk.cell 5).trans rfl
  have fo1 : vo.frozen? ⟨w1.heap.size, 5, none⟩ = false := Svo.out.blk.frozen 5
  obtain ⟨o1, ho1⟩ : ∃ x, vo.setCell ⟨w1.heap.size, 5, none⟩ (.int .i64 (-1)) = x := ⟨_, rfl⟩
  have So1 := Lib.hid (show DSt w o1 (w1.heap.size) oD1 gso cso Afo cfo from ho1 ▸ Svo.out.roots (-1))
  have HWo1 := Lib.hid ho1
  clear ho1
  have xo2 : o1.cell? ⟨w1.heap.size, 4, none⟩ = some (.int .i64 (-1)) := (So1.out.blk.cell 4).trans rfl
  have fo2 : o1.frozen? ⟨w1.heap.size, 4, none⟩ = false := So1.out.blk.frozen 4
  obtain ⟨o2, ho2⟩ : ∃ x, o1.setCell ⟨w1.heap.size, 4, none⟩ (.int .i64 0) = x := ⟨_, rfl⟩
  have So2 := Lib.hid (show DSt w o2 (w1.heap.size) oD2 gso cso Afo cfo from ho2 ▸ So1.out.garbage 0)
  have HWo2 := Lib.hid ho2
  clear ho2
  have yo3 : o2.cell? ⟨w1.heap.size, 2, none⟩ = some (.slice (some ⟨gso, 0, none⟩) 32 cso) := (So2.out.blk.cell 2).trans rfl
  have xo3 : o2.cell? ⟨gso, 1, none⟩ = some (.bool false) := So2.out.at_ (k := 0) (s := slot0) rfl 1 1 rfl rfl
  have fo3 : o2.frozen? ⟨gso, 1, none⟩ = false := So2.out.ice 1
  obtain ⟨o3, ho3⟩ : ∃ x, o2.setCell ⟨gso, 1, none⟩ (.bool true) = x := ⟨_, rfl⟩
  have So3 := Lib.hid (show DSt w o3 (w1.heap.size) oD3 gso cso Afo cfo from ho3 ▸ So2.out.field (k := 0) (s := slot0) rfl 1 1 rfl (by decide) (.bool true) oS3 rfl)
  have HWo3 := Lib.hid ho3
  clear ho3
  go_wp2_with (first
    | ((with_reducible show wpList _ _ _ (Oper.mk none _ _ _ _ _ :: _) _ uo); refine wpList_store_all (vs := (DumpV.dc oneD (some ⟨gso, 0, none⟩) cso Afo cfo).toArray) rfl rfl rfl rfl Buo.out rfl (dc_one oneD _ _ _ _) dumpInfo ?_; rw [HWvo.out])
    | ((with_reducible show wpList _ _ _ _ _ (World.setCell _ _ _)); (first | rw [HWo1.out] | rw [HWo2.out] | rw [HWo3.out]))
    | ((with_reducible show wpList _ _ _ _ _ (World.setRow _ _ _)); (first | rw [HWo1.out] | rw [HWo2.out] | rw [HWo3.out]))
    | (go_at_call 13; fail))
  refine (at_fault 24 0 (by decide) (by decide) o3 (HG.out.below So3.out.bl hpos)).mono ?_
  rintro e w22 ⟨rfl, hbw22⟩
  have S22 := Lib.hid (So3.out.below hbw22)
  clear hbw22
  go_wp2_with (first
    | (go_at_call 13; fail))
  refine (at_fault 24 0 (by decide) (by decide) w22 (HG.out.below S22.out.bl hpos)).mono ?_
  rintro e w23 ⟨rfl, hbw23⟩
  have S23 := Lib.hid (S22.out.below hbw23)
  clear hbw23
  have HCw24 := Lib.hid (cCheck_any oD3 (some ⟨gso, 0, none⟩) cso Afo cfo (len_small (by decide)) (len_small (by decide)) w23 S23.out.dump)
  rw [chk_oD3] at HCw24
  go_wp2_with (first
    | ((with_reducible show wpList _ _ _ (Oper.mk (some 87) (Op.load _ _) _ _ _ _ :: _) _ w23); refine wpList_load_at (ty := 25) rfl rfl rfl S23.out.blk.row HU.out rfl dumpInfo ?_)
    | (go_at_call 9; fail))
  refine HCw24.out.mono ?_
  rintro e w24 ⟨rfl, hbw24⟩
  have S24 := Lib.hid (S23.out.below hbw24)
  clear hbw24 HCw24
  have HP24 := Lib.hid (parts_any oD3 (some ⟨gso, 0, none⟩) cso Afo cfo 0 1 31 prt_oD3 (len_small (by decide)) (len_small (by decide)) w24 S24.out.dump)
  go_wp2_with (first
    | ((with_reducible show wpList _ _ _ (Oper.mk (some 92) (Op.load _ _) _ _ _ _ :: _) _ w24); refine wpList_load_at (ty := 25) rfl rfl rfl S24.out.blk.row HU.out rfl dumpInfo ?_)
    | (go_at_call 16; fail))
  refine HP24.out.mono ?_
  rintro e w25 ⟨rfl, hb25⟩
  have S25 := Lib.hid (S24.out.below hb25)
  clear hb25 HP24
  go_wp2_with (first
    | (go_at_call 18; fail))
  refine (pairs_any w25 (HG.out.below S25.out.bl hpos)).mono ?_
  rintro e w26 ⟨rfl, hb26⟩
  have hsz25 := S25.out.bl.size
  have HB := Lib.hid (S25.out.bl.trans (hb26.mono hsz25))
  clear hb26
  go_wp2
  go_ret
  exact ⟨rfl, HB.out⟩
end Go.Proofs.YtahcedpfnechfaaDoor
