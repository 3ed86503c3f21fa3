/-
  The document's arena: Put, Give.
-/
import Derived.Test.YtdgdbcapojgnlaaDoorRefAr2
import Derived.Test.YtdgdbcapojgnlaaDoorInts
import Derived.Deep.RegionHeld3
namespace Go.Proofs.YtdgdbcapojgnlaaDoor
set_option maxRecDepth 100000
open Go.RowKit Go.Sort

set_option maxHeartbeats 2000000 in
theorem rput_out (i : Int) (p : Option Addr) (s : SlotV) (w : World) (hi : inR i = false) : Calls Tryd.prog 30 #[.pointer p, .int .i64 i, .agg s.cells] w (RetB (.int .i64 1) w) := by
  have HT := Lib.hid (fun w => rthereA_any i w)
  rw [hi] at HT
  clear hi
  go_enter Tryd.func30, Tryd.ntmps30
  go_wp2_with (first
    | (go_at_call 40; refine (HT.out _).mono ?_; rintro e w' ⟨rfl, rfl⟩))
  go_ret
  exact ⟨rfl, (Below.refl _ _).alloc (Nat.le_refl _) _⟩
set_option maxHeartbeats 4000000 in
theorem rput_in {lo h b i : Nat} {S : St} (hi : i < 32) (s : SlotV) (w : World) (r : IsRB lo h b S w) (hw0 : 0 ≤ S.writes) (hw1 : S.writes < 1000000000) :
    Calls Tryd.prog 30 #[.pointer (some ⟨h, 0, none⟩), .int .i64 i, .agg s.cells] w (RetR (.int .i64 0) w lo h b (S.put i s)) := by
  have HT := Lib.hid (fun w => rthereA_any (i : Int) w)
  rw [show inR (i : Int) = true by simp [inR]; omega] at HT
  obtain ⟨cap, junk, vF, r⟩ := r
  have hlt := r.head.lt
  have r1 := r.call ((Below.refl _ _).alloc (Nat.le_refl _) (.cells s.cells 36))
  have c0 := r1.head.cell 0
  simp only [List.getElem?_toArray, List.getElem?_cons_zero] at c0
  have HB := Lib.hid r1
  have hi1 : (i : Int) < 32 := by omega
  have hi0 : (0 : Int) ≤ (i : Int) := by omega
  have HU := Lib.hid Tryd.underlying36
  have HR := Lib.hid ((Blk.new w 36 s.cells).row.class_ (by simp))
  have d0 := cell_regrown c0
  clear r r1
  go_enter Tryd.func30, Tryd.ntmps30
  go_wp2_with (first
    | (go_at_call 40; refine (HT.out _).mono ?_; rintro e w' ⟨rfl, rfl⟩))
  refine wp_region_quiet_tail_below 7 (by kernel_rfl) (by kernel_rfl) ?_
  simp only [List.take_succ_cons, List.take_zero, List.drop_succ_cons, List.drop_zero]
  repeat (first
    | go_big_quiet_skip
    | (refine wpQuiet_load_at rfl rfl rfl HR.out HU.out rfl slotInfo ?_; simp only [Act.put, List.setIfInBounds_toArray, List.set_cons_zero, List.set_cons_succ])
    | (go_big_quiet_want; go_big_quiet_op; first | go_big_quiet_on))
  refine wpQuiet_nil ?_
  intro v0 hC
  have hb := below_class hC
  have b0 := HB.out.call hb
  refine wpList_store_at rfl rfl rfl rfl b0.slots (b0.room hi s) (SlotV.one _) slotInfo ?_
  rw [RAt.splice b0.len hi s]
  have b1 := b0.store i s
  have c2 := b1.head.cell 2
  have f2 := b1.head.frozen 2
  simp only [List.getElem?_toArray, List.getElem?_cons_zero, List.getElem?_cons_succ] at c2
  have hwr : IntKind.i64.wrap (S.writes + 1) = S.writes + 1 := IntWalk.i64_in _ (by omega)
  have R2 := Lib.hid (b1.setWrites (S.writes + 1))
  have T2 := Lib.hid ((((Tn.ofBelow (fun k => k = h ∨ k = b) (((Below.refl w.heap.size w).alloc (Nat.le_refl _) (.cells s.cells 36)).trans (hb.mono (by simp)))).grown (grownBy_setRow v0 b (flatS (S.slots.set i s) ++ junk).toArray) (.inr rfl))).grown (grownBy_set _ h 2 (.int .i64 (S.writes + 1))) (.inl rfl))
  clear hb b0 b1 hC HB HR HT c0 d0
  go_wp2
  go_ret
  exact ⟨rfl, ⟨_, _, _, R2.out⟩, T2.out⟩

/-! ### Give -/
theorem run_append_empty {P : Program} (w : World) (t ty e : TypeId) (i : TypeInfo) (ht : P.underlying t = some (.slice e)) (hi : P.info? e = some i) (A : Option Addr) (n cap c : Nat) (h : n ≤ cap) :
    (Builtin.append_ #[t, t] ty #[.slice A n cap, .slice none 0 c]).run P w = .ok (.slice A n cap) w := by
  cases A <;> simp [Builtin.append_, run_underlying ht, sizeOf, typeInfo, hi, Builtin.lenOf, h, run_firstCells_none, storeCells]
/-- 'append(l, x...)' of two lists of ints, the first one's own. -/
theorem run_append_intsAt (ty : TypeId) (w : World) {base n1 : Nat} {v : Value} {L1 : List Int} (hown : w.ownsRow base 3 1 v n1 (intVs L1)) (A : Option Addr) (c : Nat) (L2 : List Int) (hin : IntsAt w A L2) (hsum : n1 + L2.length ≤ 1000000) (hbase : base ≤ w.heap.size) :
    ∃ v' w', (Builtin.append_ #[44, 44] ty #[v, .slice A L2.length c]).run Tryd.prog w = .ok v' w' ∧ w'.ownsRow base 3 1 v' (n1 + L2.length) (intVs (L1 ++ L2)) ∧ w.grownBy w' v.ownBlock := by
  obtain ⟨ii, iz, hi, hz0, hz1, hz2, hz3⟩ := intInfo
  have main : ∀ a : Addr, (∀ j u, (intVs L2)[j]? = some u → w.cell? (a.add j) = some u) → ∃ v' w', (Builtin.append_ #[44, 44] ty #[v, .slice (some a) L2.length c]).run Tryd.prog w = .ok v' w' ∧ w'.ownsRow base 3 1 v' (n1 + L2.length) (intVs (L1 ++ L2)) ∧ w.grownBy w' v.ownBlock := fun a ha => by
    obtain ⟨v', w', h1, h2, h3, _⟩ := run_append_own (P := Tryd.prog) w base 44 ty 3 ii iz 1 8 Tryd.underlying44 hi hz0 hz1 hz2 hz3 (by decide) v n1 (intVs L1) hown a L2.length c (intVs L2) (by simp [intVs]) ha
      (fun u hu => by simp only [intVs, List.mem_map] at hu; obtain ⟨x, _, rfl⟩ := hu; rfl) (by unfold maxLen; omega) (by omega) hbase
    exact ⟨v', w', h1, by rw [intVs_app]; exact h2, h3⟩
  rcases L2 with _ | ⟨x, L2⟩
  · cases A with
    | none =>
      obtain ⟨p, cap, rfl⟩ := owns_slice hown
      have hc : n1 ≤ cap := by
        rcases hown.2 with ⟨e, e2⟩ | ⟨g, cap', cur, e, _, _, h, _⟩
        · injection e with _ e3 e4; omega
        · injection e with _ _ e4; omega
      exact ⟨_, w, run_append_empty w 44 ty 3 ii Tryd.underlying44 hi p n1 cap c hc, by simpa using hown, ⟨rfl, rfl, rfl, Nat.le_refl _, fun _ _ _ => rfl⟩⟩
    | some a => exact main a (fun j u hu => by simp [intVs] at hu)
  · obtain ⟨b, off, rfl, hb, hc⟩ := hin (by simp)
    refine main ⟨b, off, none⟩ fun j u hu => ?_
    rw [Addr.add_lit]
    simp only [intVs, List.getElem?_map, Option.map_eq_some_iff] at hu
    obtain ⟨y, hy, rfl⟩ := hu
    exact hc j y hy
section
variable {P : Program} {ops : Array Oper} {rest : List Oper} {o : Oper} {a : Act} {w : World} {Q : Exit → Act → World → Prop}
/-- 'append', by a run that is known. -/
theorem wpList_append_run (hgd : o.guard = none) {sl x : Operand} {t u : TypeId} (ho : o.op = .call { callee := .builtin .append, args := #[sl, x], argTypes := #[t, u] }) {v y v' : Value} {w' : World} (hs : a.eval sl = v) (hx : a.eval x = y)
    (hr : (Builtin.append_ #[t, u] o.type #[v, y]).run P w = .ok v' w') (h : wpList P ops Q rest (a.put o.dst v') w') : wpList P ops Q (o :: rest) a w := by
  refine wpList_plain hgd fun K hK => ?_
  unfold Oper.wp execOp
  simp only [ho, resolve, invoke, builtin, Sem.run_bind, Sem.run_pure, Result.andThen_ok, List.map_toArray, List.map_cons, List.map_nil, hs, hx, hr]
  exact hK _ _ h
end
theorem ownsOne (w : World) (i : Int) : (w.alloc (.cells #[.int .i64 i] 3)).ownsRow w.heap.size 3 1 (.slice (some ⟨w.heap.size, 0, none⟩) 1 1) 1 (intVs [i]) :=
  ⟨rfl, .inr ⟨w.heap.size, 1, #[.int .i64 i], rfl, Nat.le_refl _, heap_alloc_new w _, Nat.le_refl _, by unfold maxLen; omega, rfl, rfl⟩⟩
set_option maxHeartbeats 2000000 in
theorem rgive_out (i : Int) (p : Option Addr) (w : World) (hi : inR i = false) : Calls Tryd.prog 36 #[.pointer p, .int .i64 i] w (RetSame (.int .i64 1) w) := by
  have HT := Lib.hid (fun w => rthereA_any i w)
  rw [hi] at HT
  clear hi
  go_enter Tryd.func36, Tryd.ntmps36
  go_wp2_with (first
    | (go_at_call 40; refine (HT.out _).mono ?_; rintro e w' ⟨rfl, rfl⟩))
  go_ret
  exact ⟨rfl, rfl⟩
set_option maxHeartbeats 2000000 in
theorem rgive_no {lo h b i : Nat} {S : St} (w : World) (r : IsRB lo h b S w) (hi32 : i < 32) (hm : i ∈ S.free) (hl : S.free.length ≤ 32) : Calls Tryd.prog 36 #[.pointer (some ⟨h, 0, none⟩), .int .i64 i] w (RetSame (.int .i64 9) w) := by
  have HA := Lib.hid (rat_any i w r hl)
  rw [show posIn S.free i = (S.free.idxOf i : Int) from if_pos hm] at HA
  have HT := Lib.hid (rthereA_any (i : Int) w)
  rw [show inR (i : Int) = true by simp [inR]; omega] at HT
  obtain ⟨k, hk⟩ : ∃ k, S.free.idxOf i = k := ⟨_, rfl⟩
  rw [hk] at HA
  have hk0 : (0 : Int) ≤ (k : Int) := by omega
  clear hm hl hk r
  go_enter Tryd.func36, Tryd.ntmps36
  go_wp2_with (first
    | (go_at_call 40; refine HT.out.mono ?_; rintro e w' ⟨rfl, rfl⟩)
    | (go_at_call 62; refine HA.out.mono ?_; rintro e w' ⟨rfl, rfl⟩))
  go_ret
  exact ⟨rfl, rfl⟩
set_option maxHeartbeats 4000000 in
theorem rgive_in {lo h b i : Nat} {S : St} (w : World) (r : IsRB lo h b S w) (hi32 : i < 32) (hm : i ∉ S.free) (hl : S.free.length ≤ 32) (hlo : lo ≤ w.heap.size) (hw0 : 0 ≤ S.writes) (hw1 : S.writes < 1000000000) :
    Calls Tryd.prog 36 #[.pointer (some ⟨h, 0, none⟩), .int .i64 i] w (RetR (.int .i64 0) w lo h b (S.give i)) := by
  have HA := Lib.hid (rat_any i w r hl)
  rw [posIn_no hm] at HA
  have HT := Lib.hid (rthereA_any (i : Int) w)
  rw [show inR (i : Int) = true by simp [inR]; omega] at HT
  have HBA := Lib.hid rbare_any
  obtain ⟨cap, junk, vF, r⟩ := r
  have hlt := r.head.lt
  have hfne := r.fne
  have r1 := r.call ((Below.refl _ _).alloc (Nat.le_refl _) (.cells #[.int .i64 i] 3))
  obtain ⟨A, c, e, hi, _, c1, _⟩ := r1.view
  have hfr1 := r1.head.frozen 1
  have hlf : (natInts S.free).length = S.free.length := natInts_len _
  obtain ⟨v', w2, hrun, ho2, hg2⟩ := run_append_intsAt 44 (w.alloc (.cells #[.int .i64 i] 3)) (ownsOne w i) A c (natInts S.free) hi (by rw [hlf]; omega) (by simp)
  rw [hlf] at hrun ho2
  obtain ⟨p', cap', rfl⟩ := owns_slice ho2
  have hg2' : (w.alloc (.cells #[.int .i64 i] 3)).grownBy w2 (some w.heap.size) := hg2
  have hsz2 : w.heap.size < w2.heap.size := by have := hg2'.size; rw [World.size_alloc] at this; omega
  have r2 : RAt lo h S b cap junk vF w2 :=
    ⟨r1.head.grown hg2' (by simp; omega), r1.slots.grown hg2' (by have := r.slots.lt; simp; omega), fkept hg2' r1.free (fun j hj => by have := (r.free.lt j hj).2; omega), r1.len, r1.loh, r1.lob, r1.cap⟩
  have hT2 : Tn (fun k => k = h ∨ k = b) w w2 := Tn.ofBelow _ (((Below.refl _ _).alloc (Nat.le_refl _) _).grown hg2' (by simp) (fun k e => by cases e; exact Nat.le_refl _))
  have hc1 := (r2.head.cell 1)
  have hfr2 := r2.head.frozen 1
  have ho3 : w2.ownsRow lo 3 1 (.slice p' (1 + S.free.length) cap') (i :: S.free).length (intVs (natInts (i :: S.free))) := by
    have := owns_lower ho2 hlo
    rw [show (i :: S.free).length = 1 + S.free.length by simp; omega]
    exact this
  have r3 := r2.setFree ho3
  have hT3 := hT2.grown (grownBy_set w2 h 1 (.slice p' (1 + S.free.length) cap')) (.inl rfl)
  obtain ⟨w3, hw3⟩ : ∃ w3, w2.setCell ⟨h, 1, none⟩ (.slice p' (1 + S.free.length) cap') = w3 := ⟨_, rfl⟩
  rw [hw3] at r3 hT3
  obtain ⟨n, hn⟩ : ∃ n, S.free.length = n := ⟨_, rfl⟩
  rw [hn] at hrun c1 hw3
  have HRUN := Lib.hid hrun
  have R3 := Lib.hid r3
  have T3 := Lib.hid hT3
  have W3 := Lib.hid hw3
  have c30 := r3.head.cell 0
  simp only [List.getElem?_toArray, List.getElem?_cons_zero] at c30
  have d30 := cell_regrown c30
  have hi1 : (i : Int) < 32 := by omega
  have hi0 : (0 : Int) ≤ (i : Int) := by omega
  clear r r1 r2 r3 hT2 hT3 ho2 ho3 hg2 hg2' hrun hi e hfne hw3 hm hl c30
  go_enter Tryd.func36, Tryd.ntmps36
  go_wp2_with (first
    | (go_at_call 40; refine HT.out.mono ?_; rintro e w' ⟨rfl, rfl⟩)
    | (go_at_call 62; refine HA.out.mono ?_; rintro e w' ⟨rfl, rfl⟩)
    | (at_builtin; refine wpList_append_run rfl rfl rfl rfl HRUN.out ?_))
  rw [W3.out]
  refine wp_region_quiet_tail_below 7 (by kernel_rfl) (by kernel_rfl) ?_
  simp only [List.take_succ_cons, List.take_zero, List.drop_succ_cons, List.drop_zero]
  repeat (first
    | go_big_quiet_skip
    | (go_big_quiet_want; go_big_quiet_op; first | go_big_quiet_on | go_big_quiet_call (exact quiet_of HBA.out _ _ _)))
  refine wpQuiet_nil ?_
  intro v0 hC
  have hb := below_class hC
  have b0 := R3.out.call hb
  refine wpList_store_at rfl rfl rfl rfl b0.slots (b0.room hi32 SlotV.bare) (SlotV.one _) slotInfo ?_
  rw [RAt.splice b0.len hi32 SlotV.bare]
  have b1 := b0.store i SlotV.bare
  have c2 := b1.head.cell 2
  have f2 := b1.head.frozen 2
  simp only [List.getElem?_toArray, List.getElem?_cons_zero, List.getElem?_cons_succ] at c2
  have hwr : IntKind.i64.wrap (S.writes + 1) = S.writes + 1 := IntWalk.i64_in _ (by omega)
  have R4 := Lib.hid (b1.setWrites (S.writes + 1))
  have T4 := Lib.hid (((T3.out.trans (Tn.ofBelow _ hb)).grown (grownBy_setRow v0 b (flatS (S.slots.set i SlotV.bare) ++ junk).toArray) (.inr rfl)).grown (grownBy_set _ h 2 (.int .i64 (S.writes + 1))) (.inl rfl))
  clear hb b0 b1 hC R3 T3 HT HA HBA d30 W3 HRUN
  go_wp2
  go_ret
  exact ⟨rfl, ⟨_, _, _, R4.out⟩, T4.out⟩
end Go.Proofs.YtdgdbcapojgnlaaDoor
