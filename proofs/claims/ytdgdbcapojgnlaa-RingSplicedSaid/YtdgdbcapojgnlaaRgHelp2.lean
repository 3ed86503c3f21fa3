/-
  lineagelaw16: all, well, works.
-/
import Derived.Test.YtdgdbcapojgnlaaRgHelp
namespace Go.Proofs.Ytdgdbcapojgnlaa
set_option maxRecDepth 100000
open Go.RowKit Go.Shelf
attribute [local go_sem] Oper.semAt_some

set_option maxHeartbeats 8000000 in
theorem rall_any {S : St} (last most : Int) (g : Nat) (w : World) (h : IsAr w g S) : Calls Try.prog 24 #[.pointer (some ⟨g, 0, none⟩), .int .i64 last, .int .i64 most] w (RetInts (natInts ((S.all last).take most.toNat)) w) := by
  obtain ⟨ii, iz, hi, hz0, hz1, hz2, hz3⟩ := intInfo
  have hgw := h.lt
  have HA := Lib.hid h
  clear h
  obtain ⟨V, hV⟩ : ∃ V, (w.alloc (.cells #[.int .i64 most] 3)).alloc (.cells #[.slice none 0 0] 48) = V := ⟨_, rfl⟩
  have hVs : V.heap.size ≤ w.heap.size + 2 ∧ w.heap.size + 2 ≤ V.heap.size := by rw [← hV]; simp
  have hbV : Below w.heap.size w V := by rw [← hV]; exact ((Below.refl _ _).alloc (Nat.le_refl _) _).alloc (by simp) _
  have bI : Boxed V w.heap.size 3 (.int .i64 most) := by rw [← hV]; exact (Boxed.new w _ _).alloc _
  have bL : Boxed V (w.heap.size + 1) 48 (.slice none 0 0) := by
    rw [← hV]
    have h := Boxed.new (w.alloc (.cells #[.int .i64 most] 3)) 48 (.slice none 0 0)
    rwa [World.size_alloc] at h
  have HAV := Lib.hid (HA.out.below hbV hgw)
  have BI := Lib.hid bI
  have BL := Lib.hid bL
  have HV := Lib.hid hV
  have HBV := Lib.hid hbV
  have HLEN := Lib.hid (all_len S last)
  obtain ⟨xs, hxs⟩ : ∃ xs, S.all last = xs := ⟨_, rfl⟩
  have HXS := Lib.hid hxs
  rw [hxs] at HLEN ⊢
  clear bI bL hbV hV hxs
  refine calls_marks Try.func24 rfl ?_
  simp only [Try.ntmps24, List.size_toArray, List.length_cons, List.length_nil, Nat.reduceAdd, Nat.reduceSub, Array.replicate_succ, Array.replicate_zero, List.push_toArray, List.append_toArray, List.nil_append, List.cons_append]
  go_wp2_with (go_at_call 34; fail)
  rw [HV.out]
  refine (all_any last g V HAV.out).mono ?_
  rintro e V2 ⟨B, rfl, hq, hb2⟩
  have hs2 := hb2.size
  have bI2 : Boxed V2 w.heap.size 3 (.int .i64 most) := (hb2.block w.heap.size BI.out.lt).trans BI.out
  have bL2 : Boxed V2 (w.heap.size + 1) 48 (.slice none 0 0) := (hb2.block (w.heap.size + 1) BL.out.lt).trans BL.out
  have HB2 := Lib.hid (HBV.out.trans (hb2.mono (by omega)))
  have HQ := Lib.hid (hq w.heap.size)
  rw [HXS.out] at HQ
  clear hq hb2 HBV HAV HA BI BL
  go_wp2
  have fin : ∀ (W : World) (v : Value), Coll V2 (w.heap.size + 1) 48 (V2.heap.size + 2) 3 1 (xs.take most.toNat).length (intVs (natInts (xs.take most.toNat))) W v → W.heap[V2.heap.size]? = some (.deferred (some [])) →
      RetInts (natInts (xs.take most.toNat)) w (.returned v) (W.putObj V2.heap.size (.deferred none)) := by
    intro W v hC hK
    have hs := hC.grown.size
    refine ⟨v, rfl, ?_, below_putObj (HB2.out.trans (hC.below (by omega) (by omega))) (by omega) _ (by omega)⟩
    rw [natInts_len]
    exact owns_lower (ownsRow_putObj hC.row (.deferred none) hK rfl) (by omega)
  refine wp_seqs rfl (enters_of Try.func43 (by kernel_rfl) rfl) HQ.out (by omega) (fun k hk => by omega) (Below.refl _ _) (fun _ => rfl)
    (fun pre W => pre.length ≤ most.toNat ∧ Boxed W w.heap.size 3 (.int .i64 most) ∧ ∃ v, Coll V2 (w.heap.size + 1) 48 (V2.heap.size + 2) 3 1 pre.length (intVs (natInts pre)) W v)
    (fun cd pre W => cd = .exit 0 ∧ ∃ v, Coll V2 (w.heap.size + 1) 48 (V2.heap.size + 2) 3 1 (xs.take most.toNat).length (intVs (natInts (xs.take most.toNat))) W v)
    ((Zone.pure _).and ((Zone.box (.inl (by omega)) (fun _ => .int .i64 most)).and (Zone.coll (by omega) (by omega) (Nat.le_refl _) (fun pre => pre.length) (fun pre => intVs (natInts pre)))))
    (fun cd => (Zone.pure fun _ => cd = .exit 0).and (Zone.coll (by omega) (by omega) (Nat.le_refl _) (fun _ => (xs.take most.toNat).length) (fun _ => intVs (natInts (xs.take most.toNat)))))
    ⟨by simp, bI2, _, Coll.start bL2 _ _ _⟩ ?round ?done ?stop
  case stop =>
    rintro cd pre W hpre ⟨rfl, v, hC⟩ hK
    have hc1 := hC.box.cell
    go_wp2
    refine ⟨by simp, .inl ⟨_, _, rfl, run_takeDeferred hK, ?_⟩⟩
    refine ⟨_, results_tmp rfl _ _ _, ?_⟩
    exact fin W v hC hK
  case round =>
    intro l2 pre i V0 hpre
    simp only [natV]
    gi_wp2
    refine ⟨by trivial, fun V1 hsz1 ⟨hlm, hbo, v, hC⟩ => ?_⟩
    have hc1 := hC.box.cell
    obtain ⟨Av, cp, rfl⟩ := owns_slice hC.row
    have hpl := hpre.length_le
    rw [List.length_append] at hpl
    have h1 : pre.length + (0 + 1) ≤ maxLen := by unfold maxLen; have := HLEN.out; simp at hpl; omega
    have h2 : (pre.length + (0 + 1)) * 8 ≤ 140737488355328 := by have := HLEN.out; simp at hpl; omega
    have H1 := Lib.hid h1
    have H2 := Lib.hid h2
    have HLM := Lib.hid hlm
    have HBO := Lib.hid hbo
    have hco := hbo.cell
    clear h1 h2 hbo hpl hlm
    by_cases hm : most ≤ (pre.length : Int)
    · gi_wp2
      have he : xs.take most.toNat = pre := by
        have := HLM.out
        obtain ⟨t, ht⟩ := hpre
        rw [← ht, show most.toNat = pre.length by omega]
        simp
      exact ⟨Kept.refl _, rfl, by rw [he]; exact ⟨_, hC⟩⟩
    · gi_wp2_with (gi_at_builtin; refine wpListIn_append_new (v := .slice Av pre.length cp) rfl _ _ 48 rfl Try.underlying48 hi hz0 hz1 hz2 hz3 (by decide) rfl hC.row 0 rfl rfl (int_one _) H1.out H2.out hsz1 ?_; intro g' cap' w1 hown1 hgr1; obtain ⟨hv1, hC2, hk2⟩ := hC.step (by omega) (by omega) hsz1 hown1 hgr1; have hc2 := hv1.cell; have hf2 := hv1.frozen; have ho2 : Boxed (w1.setCell ⟨w.heap.size + 1, 0, none⟩ (.slice (some ⟨g', 0, none⟩) (pre.length + (0 + 1)) cap')) w.heap.size 3 (.int .i64 most) := ((append_box hC.box hC.row (by omega) hsz1 hown1 hgr1).2.2.2.2.1 w.heap.size (by omega) (by omega)).trans HBO.out)
      exact ⟨hk2 _ _ _ _ _ (by omega) (by rintro ⟨h1, h2⟩; omega) (fun k hk => by rintro ⟨h1, h2⟩; omega) (by omega) (by omega), (by simp; have := HLM.out; omega), ho2, _, by rw [natInts_snoc, List.length_append]; exact hC2⟩
  case done =>
    rintro W ⟨hlm, hbo, v, hC⟩ hK
    have hc1 := hC.box.cell
    have he : xs.take most.toNat = xs := List.take_of_length_le hlm
    go_wp2
    refine ⟨by simp, .inl ⟨_, _, rfl, run_takeDeferred hK, ?_⟩⟩
    refine ⟨_, results_tmp rfl _ _ _, ?_⟩
    exact fin W v (by rw [he]; exact hC) hK

/-- What Get answers at any number. -/
def St.slotAt (S : St) (j : Int) : SlotV := if inR j = true then (match S.slots[j.toNat]? with | some s => s | none => SlotV.zero) else SlotV.zero
def errAt (j : Int) : Value := if inR j = true then .nilIface else errno 1
theorem slotAt_lk (S : St) {j : Int} (hl : S.slots.length = 32) (h : inR j = true) : ((S.slotAt j).prev, (S.slotAt j).next) = S.lk j := by
  have h2 := inR_iff.1 h
  obtain ⟨k, rfl⟩ : ∃ k : Nat, j = (k : Int) := ⟨j.toNat, by omega⟩
  have hk : k < S.slots.length := by omega
  rw [S.lk_in (by omega) (List.getElem?_eq_getElem hk)]
  unfold St.slotAt
  rw [if_pos h, Int.toNat_natCast, List.getElem?_eq_getElem hk]
theorem get_gen {S : St} (j : Int) (g : Nat) (w : World) (h : IsAr w g S) : Calls Try.prog 17 #[.pointer (some ⟨g, 0, none⟩), .int .i64 j] w (RetB (.tuple #[.agg (S.slotAt j).cells, errAt j]) w) := by
  rcases hj : inR j with _ | _
  · have h2 : j < 0 ∨ 32 ≤ j := by
      have : ¬ (0 ≤ j ∧ j < 32) := fun h => by rw [inR_iff.2 h] at hj; cases hj
      omega
    unfold St.slotAt errAt
    rw [hj, if_neg (by simp), if_neg (by simp)]
    exact get_out h2 _ w
  · have h2 := inR_iff.1 hj
    obtain ⟨k, rfl⟩ : ∃ k : Nat, j = (k : Int) := ⟨j.toNat, by omega⟩
    obtain ⟨s, hs⟩ := h.slot (k := k) (by omega)
    unfold St.slotAt errAt
    rw [hj, if_pos rfl, if_pos rfl, Int.toNat_natCast, hs]
    exact get_st (by omega) hs g w h
set_option maxHeartbeats 4000000 in
theorem lwell_any {S : St} (i : Nat) (hi : i < 32) (g : Nat) (w : World) (h : IsAr w g S) : Calls Try.prog 25 #[.pointer (some ⟨g, 0, none⟩), .int .i64 i] w (RetB (.bool (S.well i)) w) := by
  have hlen := h.len
  have hir := inR_nat hi
  have hlk := slotAt_lk S hlen hir
  have HG1 := Lib.hid (get_gen (i : Int) g w h)
  obtain ⟨s, hs⟩ : ∃ s, S.slotAt (i : Int) = s := ⟨_, rfl⟩
  obtain ⟨p, hp⟩ : ∃ p, S.slotAt s.prev = p := ⟨_, rfl⟩
  obtain ⟨n, hn⟩ : ∃ n, S.slotAt s.next = n := ⟨_, rfl⟩
  rw [hs] at HG1 hlk
  have e1 : errAt (i : Int) = .nilIface := if_pos hir
  rw [e1] at HG1
  have HA := Lib.hid h
  have HG2 := Lib.hid (fun (W : World) (h : IsAr W g S) => get_gen s.prev g W h)
  have HG3 := Lib.hid (fun (W : World) (h : IsAr W g S) => get_gen s.next g W h)
  rw [hp] at HG2
  rw [hn] at HG3
  have hw : S.well (i : Int) = (inR s.prev && inR s.next && (p.next == (i : Int)) && (n.prev == (i : Int))) := by
    unfold St.well
    rw [← hlk]
    rcases h1 : inR s.prev with _ | _
    · rfl
    · rcases h2 : inR s.next with _ | _
      · rfl
      · have e2 := slotAt_lk S hlen h1
        have e3 := slotAt_lk S hlen h2
        rw [hp] at e2
        rw [hn] at e3
        rw [← e2, ← e3]
  rw [hw]
  clear h hlk hs hp hn e1 hir hw hlen
  go_enter Try.func25, Try.ntmps25
  go_wp2_with (go_at_call 17; fail)
  refine HG1.out.mono ?_
  rintro e w1 ⟨rfl, hb1⟩
  have B1 := Lib.hid (hb1.alloc hb1.size (.cells s.cells 34))
  have K1 := Lib.hid (Blk.new w1 34 s.cells)
  have A1 := Lib.hid ((HA.out.below hb1 HA.out.lt).block (Below.heap_alloc w1 (.cells s.cells 34) g (by have := HA.out.lt; have := hb1.size; omega)))
  have c3 := (K1.out.cell 3).trans s.c3
  clear hb1 HG1 HA
  go_wp2_with (first
    | (refine wpList_store_new (ty := 34) rfl rfl rfl rfl rfl (SlotV.one _) slotInfo ?_)
    | (go_at_call 17; fail))
  refine (HG2.out _ A1.out).mono ?_
  rintro e w2 ⟨rfl, hb2⟩
  have hs2 := hb2.size
  rw [World.size_alloc] at hs2
  have B2 := Lib.hid ((B1.out.trans (hb2.mono B1.out.size)).alloc (by have := B1.out.size; rw [World.size_alloc] at this; omega) (.cells p.cells 34))
  have K2 := Lib.hid (Blk.new w2 34 p.cells)
  have K12 := Lib.hid (K1.out.below hb2 K1.out.lt)
  have A2 := Lib.hid ((A1.out.below hb2 A1.out.lt).block (Below.heap_alloc w2 (.cells p.cells 34) g (by have := A1.out.lt; rw [World.size_alloc] at this; omega)))
  have c4 := ((K12.out.alloc (.cells p.cells 34)).cell 4).trans s.c4
  clear hb2 c3 A1 B1 K1 HG2
  go_wp2_with (first
    | (refine wpList_store_new (ty := 34) rfl rfl rfl rfl rfl (SlotV.one _) slotInfo ?_)
    | (go_at_call 17; fail))
  refine (HG3.out _ A2.out).mono ?_
  rintro e w3 ⟨rfl, hb3⟩
  have hs3 := hb3.size
  rw [World.size_alloc] at hs3
  have B3 := Lib.hid ((B2.out.trans (hb3.mono B2.out.size)).alloc (by have := B2.out.size; rw [World.size_alloc] at this; omega) (.cells n.cells 34))
  have d4 := (((K2.out.below hb3 K2.out.lt).alloc (.cells n.cells 34)).cell 4).trans p.c4
  have d3 := ((Blk.new w3 34 n.cells).cell 3).trans n.c3
  clear hb3 c4 A2 B2 K2 K12 HG3
  rcases h1 : inR s.prev with _ | _
  · rw [show errAt s.prev = errno 1 from if_neg (by simp [h1])]
    simp only [errno]
    rcases h2 : inR s.next with _ | _
    · rw [show errAt s.next = errno 1 from if_neg (by simp [h2])]
      simp only [errno]
      go_wp2_with (first
        | (refine wpList_store_new (ty := 34) rfl rfl rfl rfl rfl (SlotV.one _) slotInfo ?_))
      go_ret
      exact ⟨by simp [h1], B3.out⟩
    · rw [show errAt s.next = .nilIface from if_pos h2]
      go_wp2_with (first
        | (refine wpList_store_new (ty := 34) rfl rfl rfl rfl rfl (SlotV.one _) slotInfo ?_))
      go_ret
      exact ⟨by simp [h1], B3.out⟩
  · rw [show errAt s.prev = .nilIface from if_pos h1]
    rcases h2 : inR s.next with _ | _
    · rw [show errAt s.next = errno 1 from if_neg (by simp [h2])]
      simp only [errno]
      go_wp2_with (first
        | (refine wpList_store_new (ty := 34) rfl rfl rfl rfl rfl (SlotV.one _) slotInfo ?_))
      go_ret
      exact ⟨by simp [h2], B3.out⟩
    · rw [show errAt s.next = .nilIface from if_pos h2]
      rcases h3 : (p.next == (i : Int)) with _ | _
      · go_wp2_with (first
          | (refine wpList_store_new (ty := 34) rfl rfl rfl rfl rfl (SlotV.one _) slotInfo ?_))
        go_ret
        exact ⟨by simp [h3], B3.out⟩
      · go_wp2_with (first
          | (refine wpList_store_new (ty := 34) rfl rfl rfl rfl rfl (SlotV.one _) slotInfo ?_))
        go_ret
        exact ⟨by simp [h1, h2, h3], B3.out⟩
end Go.Proofs.Ytdgdbcapojgnlaa
