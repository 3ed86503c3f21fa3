/-
  The document's arena: New.
-/
import Derived.Test.YtdgdbcapojgnlaaDoorRefAr4
import Derived.Deep.RegionLaw
import Derived.Deep.AppendLies
namespace Go.Proofs.YtdgdbcapojgnlaaDoor
set_option maxRecDepth 100000
open Go.RowKit Go.Sort

/-- An append at a step of a region that draws its order, under a guard. -/
theorem step_append_wanted {P : Program} {w : World} {ops : Array Oper} {o : Oper} {a : Act} {K : Act → World → Prop} {Q : Exit → Act → World → Prop} {E : Prop} (hw : Region.wanted o (yielded ops a.tmps) = true) (s x : Operand) (t : TypeId)
    (ho : o.op = .call { callee := .builtin .append, args := #[s, x], argTypes := #[t, t] })
    (base : Nat) (e : TypeId) (i : TypeInfo) (z : Value) (size bytes : Nat) (ht : P.underlying t = some (.slice e)) (hi : P.info? e = some i) (hz : i.zero = some z)
    (hsize : i.size = size) (hby : i.bytes = bytes) (hzs : z.cells.size = size) (hsz : 0 < size)
    (v : Value) (n : Nat) (xs : List Value) (hs : a.eval s = v) (hown : w.ownsRow base e size v n xs)
    (ad : Addr) (m c : Nat) (news : List Value) (hx : a.eval x = .slice (some ad) m c) (hl : news.length = m * size) (hnews : ∀ j u, news[j]? = some u → w.cell? (ad.add j) = some u) (h1 : ∀ u ∈ news, u.oneCell' = true)
    (hm : 0 < m) (h63 : n + m ≤ maxLen) (hbytes : (n + m) * bytes ≤ 140737488355328) (hbase : base ≤ w.heap.size)
    (h : ∀ g cap w', w'.ownsRow base e size (.slice (some ⟨g, 0, none⟩) (n + m) cap) (n + m) (xs ++ news) → w.grownBy w' v.ownBlock → K (a.put o.dst (.slice (some ⟨g, 0, none⟩) (n + m) cap)) w') :
    if Region.wanted o (yielded ops a.tmps) = true then Oper.wp P o a w K Q else E := by
  rw [if_pos hw]
  exact wp_append_lies w s x t ho base e i z size bytes ht hi hz hsize hby hzs hsz v n xs hs hown ad m c news hx hl hnews h1 hm h63 hbytes hbase _ rfl (fun g cap w' h2 h3 _ _ => h g cap w' h2 h3)
/-- Between two rounds of New: k slots, k free ones. -/
structure NewK (w : World) (vS vF : Value) (k : Nat) (W : World) : Prop where
  head : Blk W w.heap.size 48 #[vS, vF, .int .i64 0]
  slots : W.ownsRow (w.heap.size + 1) 36 17 vS k (flatS (List.replicate k SlotV.bare))
  free : W.ownsRow (w.heap.size + 1) 3 1 vF k (intVs (natInts (List.range k)))
  bel : Below w.heap.size w W
  size : w.heap.size + 1 ≤ W.heap.size
/-- The slots have one more than the free ones. -/
structure NewM (w : World) (vS vF : Value) (k : Nat) (W : World) : Prop where
  head : Blk W w.heap.size 48 #[vS, vF, .int .i64 0]
  slots : W.ownsRow (w.heap.size + 1) 36 17 vS (k + 1) (flatS (List.replicate (k + 1) SlotV.bare))
  free : W.ownsRow (w.heap.size + 1) 3 1 vF k (intVs (natInts (List.range k)))
  bel : Below w.heap.size w W
  size : w.heap.size + 1 ≤ W.heap.size
theorem own_types {W : World} {b1 b2 n1 n2 z1 z2 : Nat} {e1 e2 : TypeId} {v1 v2 : Value} {x1 x2 : List Value} (h1 : W.ownsRow b1 e1 z1 v1 n1 x1) (h2 : W.ownsRow b2 e2 z2 v2 n2 x2) (hne : e1 ≠ e2) : v2.ownBlock = none ∨ v2.ownBlock ≠ v1.ownBlock := by
  rcases h2.2 with ⟨e, _⟩ | ⟨g, c, cur, e, _, hg, _⟩
  · exact .inl (by rw [e]; rfl)
  · refine .inr fun ee => ?_
    rcases h1.2 with ⟨f, _⟩ | ⟨g', c', cur', f, _, hg', _⟩
    · rw [e, f] at ee; cases ee
    · rw [e, f] at ee
      obtain rfl : g = g' := by simpa [Value.ownBlock] using ee
      rw [hg] at hg'
      injection hg' with hg'
      injection hg' with _ hh
      exact hne hh.symm
theorem bare_snoc (k : Nat) : flatS (List.replicate (k + 1) SlotV.bare) = flatS (List.replicate k SlotV.bare) ++ SlotV.bare.cells.toList := by
  rw [List.replicate_succ']; simp [flatS]
section
variable {w W w' ww : World} {vS vF v2 : Value} {k gg cap : Nat}
theorem own_setHead {W : World} {base b0 : Nat} {e : TypeId} {z n : Nat} {v : Value} {xs : List Value} (h : W.ownsRow base e z v n xs) (hb : b0 < base) (o : Nat) (u : Value) : (W.setCell ⟨b0, o, none⟩ u).ownsRow base e z v n xs :=
  h.kept (grownBy_set W b0 o u) (by
    rcases Classical.em (v.ownBlock = none) with e | e
    · exact .inl e
    · refine .inr fun e2 => ?_
      have := (h.lt b0 e2).1
      omega)
theorem NewK.slot (h : NewK w vS vF k W) {o : Obj} (hb : Below W.drew.heap.size W.drew w') (hown : ww.ownsRow (w.heap.size + 1) 36 17 (.slice (some ⟨gg, 0, none⟩) (k + 1) cap) (k + 1) (flatS (List.replicate k SlotV.bare) ++ SlotV.bare.cells.toList)) (hg : (w'.alloc o).grownBy ww vS.ownBlock) :
    NewM w (.slice (some ⟨gg, 0, none⟩) (k + 1) cap) vF k (ww.setCell ⟨w.heap.size, 0, none⟩ (.slice (some ⟨gg, 0, none⟩) (k + 1) cap)) := by
  have hb2 : Below W.heap.size W (w'.alloc o) := ((Below.refl W.heap.size W).drew.trans hb).alloc (by exact hb.size) o
  have hhl := h.head.lt
  have hS := own_below h.slots hb2
  have hF := own_below h.free hb2
  have hH := h.head.below hb2 hhl
  have hH2 := hH.grown hg (fun e => by have := (h.slots.lt _ e.symm).1; omega)
  have hF2 := hF.kept hg (own_types hS hF (by decide))
  have hB2 : Below w.heap.size w ww := bel_grown (h.bel.trans (hb2.mono h.bel.size)) hg hS (Nat.le_succ _) (Nat.le_trans h.bel.size hb2.size)
  refine ⟨?_, own_setHead (by rw [bare_snoc]; exact hown) (Nat.lt_succ_self _) _ _, own_setHead hF2 (Nat.lt_succ_self _) _ _, hB2.setCell (p := ⟨w.heap.size, 0, none⟩) (Nat.le_refl _) _, ?_⟩
  · have := hH2.set_ 0 (.slice (some ⟨gg, 0, none⟩) (k + 1) cap)
    simpa using this
  · have h1 := hg.size
    have h2 := (grownBy_set ww w.heap.size 0 (.slice (some ⟨gg, 0, none⟩) (k + 1) cap)).size
    have h3 := hb2.size
    have h4 := h.size
    omega
theorem NewM.free_ (h : NewM w vS vF k W) (hown : ww.ownsRow (w.heap.size + 1) 3 1 v2 (k + 1) (intVs (natInts (List.range k)) ++ [.int .i64 (k : Int)])) (hg : W.grownBy ww vF.ownBlock) :
    NewK w vS v2 (k + 1) (ww.setCell ⟨w.heap.size, 1, none⟩ v2) := by
  have hhl := h.head.lt
  have hH2 := h.head.grown hg (fun e => by have := (h.free.lt _ e.symm).1; omega)
  have hS2 := h.slots.kept hg (own_types h.free h.slots (by decide))
  have hB2 : Below w.heap.size w ww := bel_grown h.bel hg h.free (Nat.le_succ _) h.bel.size
  refine ⟨?_, own_setHead hS2 (Nat.lt_succ_self _) _ _, own_setHead (by rw [List.range_succ, natInts_snoc]; exact hown) (Nat.lt_succ_self _) _ _, hB2.setCell (p := ⟨w.heap.size, 1, none⟩) (Nat.le_refl _) _, ?_⟩
  · have := hH2.set_ 1 v2
    simpa using this
  · have h1 := hg.size
    have h2 := (grownBy_set ww w.heap.size 1 v2).size
    have h4 := h.size
    omega
theorem NewK.done (h : NewK w vS vF 32 W) : ∃ b, w.heap.size ≤ b ∧ IsRB w.heap.size w.heap.size b St.new W := by
  rcases h.slots.2 with ⟨_, e⟩ | ⟨g, cap, cur, rfl, hbg, hgg, hc, _, hcs, htk⟩
  · omega
  · have hcur : cur = (flatS (List.replicate 32 SlotV.bare) ++ cur.toList.drop (32 * 17)).toArray := by
      rw [← htk, List.take_append_drop]
    refine ⟨g, by omega, cap, cur.toList.drop (32 * 17), vF, ⟨h.head, ⟨?_⟩, ?_, rfl, Nat.le_refl _, by omega, hc⟩⟩
    · rw [hgg, hcur]; rfl
    · exact owns_lower h.free (Nat.le_succ _)
end
theorem slotRow : ∃ i z, Tryd.prog.info? 36 = some i ∧ i.zero = some z ∧ i.size = 17 ∧ i.bytes = 144 ∧ z.cells.size = 17 := by
  have h : (match Tryd.prog.info? 36 with | some i => (match i.zero with | some z => i.size == 17 && i.bytes == 144 && z.cells.size == 17 | none => false) | none => false) = true := by decide +kernel
  cases hi : Tryd.prog.info? 36 with
  | none => rw [hi] at h; cases h
  | some i =>
    rw [hi] at h
    cases hz : i.zero with
    | none => simp only [hz] at h; cases h
    | some z =>
      simp only [hz, Bool.and_eq_true, beq_iff_eq] at h
      exact ⟨i, z, rfl, hz, h.1.1, h.1.2, h.2⟩
set_option maxHeartbeats 4000000 in
theorem rnew_any (w : World) : Calls Tryd.prog 8 #[] w (fun e w' => ∃ h b, e = .returned (.pointer (some ⟨h, 0, none⟩)) ∧ w.heap.size ≤ h ∧ w.heap.size ≤ b ∧ IsRB w.heap.size h b St.new w' ∧ Below w.heap.size w w') := by
  obtain ⟨ii, iz, hi0, hz0, hz1, hz2, hz3⟩ := intInfo
  obtain ⟨si, sz, hsi, hsz1, hsz2, hsz3, hsz4⟩ := slotRow
  have HBA := Lib.hid rbare_any
  go_enter Tryd.func8, Tryd.ntmps8
  go_wp2
  go_loopw [2] (fun i wr => ∃ (k : Nat) (vS vF : Value), k ≤ 32 ∧ i = .int .i64 k ∧ NewK w vS vF k wr) (fun i _ => 32 - (intOf i).toNat)
  case atStart => exact ⟨0, .slice none 0 0, .slice none 0 0, by omega, rfl, ⟨Blk.new _ _ _, World.ownsRow_nil _ _ _ _, World.ownsRow_nil _ _ _ _, (Below.refl _ _).alloc (Nat.le_refl _) _, by simp⟩⟩
  case round =>
    obtain ⟨k, vS, vF, hk, rfl, hK⟩ := hrel
    by_cases hlt : k < 32
    · have hki : (k : Int) < 32 := by omega
      have HK := Lib.hid hK
      have c0 := hK.head.cell 0
      simp only [List.getElem?_toArray, List.getElem?_cons_zero] at c0
      obtain ⟨pS, cS, rfl⟩ := owns_slice hK.slots
      obtain ⟨pF, cF, rfl⟩ := owns_slice hK.free
      clear hK
      go_wp2
      obtain ⟨hh, hs, hf, hbe, hsz⟩ := HK.out
      have HS := Lib.hid hs
      have HF := Lib.hid hf
      have HH := Lib.hid hh
      have HB := Lib.hid hbe
      have h1 : k + 1 ≤ maxLen := by unfold maxLen; omega
      have h2 : (k + 1) * 144 ≤ 140737488355328 := by omega
      have H1 := Lib.hid h1
      have H2 := Lib.hid h2
      have c0d : wr.drew.cell? ⟨w.heap.size, 0, none⟩ = some (.slice pS k cS) := c0
      have hfold : Array.foldl (fun (cs : Array Value) (x : Value × Nat) => cs.setIfInBounds x.snd x.fst) zeroL SlotV.bare.cells.zipIdx 0 17 = SlotV.bare.cells := by kernel_rfl
      simp only [zeroL] at hfold
      clear hh hs hf hbe h1 h2
      have b1 : ∀ w', Below wr.drew.heap.size wr.drew w' → Blk (w'.alloc (.cells SlotV.bare.cells 36)) w.heap.size 48 #[.slice pS k cS, .slice pF k cF, .int .i64 0] := fun w' hb => (HH.out.drew.below hb (by exact HH.out.lt)).alloc _
      have b2 : ∀ w', Below wr.drew.heap.size wr.drew w' → (w'.alloc (.cells SlotV.bare.cells 36)).ownsRow (w.heap.size + 1) 36 17 (.slice pS k cS) k (flatS (List.replicate k SlotV.bare)) := fun w' hb => (own_below (own_below HS.out (Below.refl _ _).drew) hb).alloc _
      have b3 : ∀ w', Below wr.drew.heap.size wr.drew w' → w.heap.size + 1 ≤ (w'.alloc (.cells SlotV.bare.cells 36)).heap.size := fun w' hb => by have h1 := hb.size; have h2 : wr.drew.heap.size = wr.heap.size := rfl; rw [World.size_alloc]; omega
      have b4 : ∀ (r : Nat), (Value.slice pS k cS).ownBlock = some r → r ≠ w.heap.size := fun r hr => by have := (HS.out.lt r hr).1; omega
      have B1 := Lib.hid b1
      have B2 := Lib.hid b2
      have B3 := Lib.hid b3
      have B4 := Lib.hid b4
      clear b1 b2 b3 b4
      go_region_law (first
        | (refine step_append_wanted (by rfl) _ _ 46 (by rfl) (w.heap.size + 1) 36 si sz 17 144 Tryd.underlying46 hsi hsz1 hsz2 hsz3 hsz4 (by decide) (.slice pS k cS) k (flatS (List.replicate k SlotV.bare)) (by rfl) (B2.out _ (by assumption)) ⟨_, 0, none⟩ 1 1 SlotV.bare.cells.toList (by rfl) (by rfl) (Blk.new _ _ _).row.cells (SlotV.one _) (by omega) H1.out H2.out (B3.out _ (by assumption)) ?_
           intro gg cap ww hownw hgrow
           have hhw := (B1.out _ (by assumption)).grown hgrow (fun e => B4.out _ e.symm rfl)
           have cw := hhw.cell 0
           have fw := hhw.frozen 0)
        | (go_simp; go_at_call 25; refine (HBA.out _).mono ?_; rintro e w' ⟨rfl, hb⟩; have c0' : w'.cell? ⟨w.heap.size, 0, none⟩ = some (.slice pS k cS) := (hb.cell (p := ⟨w.heap.size, 0, none⟩) HH.out.lt).trans c0d; have c0'' : (w'.alloc (.cells SlotV.bare.cells 36)).cell? ⟨w.heap.size, 0, none⟩ = some (.slice pS k cS) := (B1.out w' hb).cell 0; dsimp only))
      all_goals
        have HM := Lib.hid (HK.out.slot hb hownw hgrow)
        obtain ⟨X, hX⟩ : ∃ X, ww.setCell ⟨w.heap.size, 0, none⟩ (.slice (some ⟨gg, 0, none⟩) (k + 1) cap) = X := ⟨_, rfl⟩
        rw [hX] at HM ⊢
        have cx1 := HM.out.head.cell 1
        simp only [List.getElem?_toArray, List.getElem?_cons_zero, List.getElem?_cons_succ] at cx1
        have i1 : k + 1 ≤ maxLen := by unfold maxLen; omega
        have i2 : (k + 1) * 8 ≤ 140737488355328 := by omega
        have I1 := Lib.hid i1
        have I2 := Lib.hid i2
        clear hX hownw hgrow hhw cw fw hb c0' c0'' hfold B1 B2 B3 B4 c0d c0 HS HF HH HB H1 H2 hsz i1 i2
        go_wp2_with (at_builtin; refine wpList_append_one (v := .slice pF k cF) rfl _ _ 44 rfl Tryd.underlying44 hi0 hz0 hz1 hz2 hz3 (by decide) rfl HM.out.free rfl rfl (int_one _) I1.out I2.out HM.out.size ?_; intro gf capf w11 hown1 hgr1; have hh2 := HM.out.head.grown hgr1 (fun e => by have := (HM.out.free.lt _ e.symm).1; omega); have cy1 := hh2.cell 1; have fy1 := hh2.frozen 1)
        have hN := HM.out.free_ hown1 hgr1
        have HN := Lib.hid hN
        clear hN hown1 hgr1 hh2 cy1 fy1 HM cx1
        go_roundw
        case rel => exact ⟨k + 1, _, _, by omega, by go_num, HN.out⟩
        case measure => simp [intOf]; omega
    · obtain rfl : k = 32 := by omega
      obtain ⟨b, hb, hR⟩ := hK.done
      have HR := Lib.hid hR
      have HB := Lib.hid hK.bel
      clear hK hR hlt
      go_wp2
      go_ret
      exact ⟨w.heap.size, b, rfl, Nat.le_refl _, hb, HR.out, HB.out⟩
end Go.Proofs.YtdgdbcapojgnlaaDoor
