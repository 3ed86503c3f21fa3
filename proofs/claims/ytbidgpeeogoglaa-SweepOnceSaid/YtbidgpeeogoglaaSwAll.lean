/-
  Package sweep: All, walked.
-/
import Derived.Test.YtbidgpeeogoglaaSwVals
import Derived.Deep.CutRange
namespace Go.Proofs.Ytbidgpeeogoglaa
set_option maxRecDepth 100000
open Go.RowKit Go.Sort

/-- In All's loop: the garbage, the list at b1; since W0 only new memory. -/
structure SwAt (w W0 : World) (q g : Nat) (S : St) (l : Int) (b1 o1 cp : Nat) (E : List Nat) (W : World) : Prop where
  ga : Ga w q g S l W
  row : W.ownsRow W0.heap.size 3 1 (.slice (some ⟨b1, o1, none⟩) E.length cp) E.length (intVs (natInts E))
  bel : Below W0.heap.size W0 W
section
variable {w W0 W W' : World} {q g b1 o1 cp : Nat} {S : St} {l : Int} {E : List Nat}
theorem SwAt.read (h : SwAt w W0 q g S l b1 o1 cp E W) (hb : Below W.heap.size W W') : SwAt w W0 q g S l b1 o1 cp E W' := ⟨h.ga.read hb, h.row.kept (grownBy_below hb none) (.inr (fun e => by cases e)), h.bel.trans (hb.mono h.bel.size)⟩
theorem SwAt.qlt (h : SwAt w W0 q g S l b1 o1 cp E W) : q < W.heap.size ∧ g < W.heap.size ∧ b1 < W.heap.size ∧ W0.heap.size ≤ W.heap.size := ⟨h.ga.qlt.1, h.ga.qlt.2, (h.row.lt b1 rfl).2, h.bel.size⟩
theorem SwAt.tn (h : SwAt w W0 q g S l b1 o1 cp E W) : Tn (fun k => k = q ∨ k = g) w W := h.ga.tn
theorem SwAt.over {B : Nat} {t : TypeId} {cs : Array Value} (h : SwAt w W0 q g S l b1 o1 cp E W) (hz : Blk W B t cs) (ds : Array Value) (hB : w.heap.size ≤ B ∧ q ≠ B ∧ g ≠ B ∧ b1 ≠ B ∧ W0.heap.size ≤ B) : SwAt w W0 q g S l b1 o1 cp E (W.setRow B ds) :=
  ⟨h.ga.over hz ds ⟨hB.1, hB.2.1, hB.2.2.1⟩, h.row.kept (grownBy_setRow W B ds) (.inr (fun e => hB.2.2.2.1 (by simpa [Value.ownBlock] using e))), h.bel.grown (grownBy_setRow W B ds) h.bel.size (fun k e => by cases e; exact hB.2.2.2.2)⟩
theorem SwAt.cell1 (h : SwAt w W0 q g S l b1 o1 cp E W) {k x : Nat} (hx : E[k]? = some x) : W.cell? ⟨b1, o1 + k, none⟩ = some (.int .i64 (x : Int)) := by
  obtain ⟨Ao, co, ho, hio⟩ := owns_intsAt h.row
  injection ho with h1 _ h3
  subst h1
  obtain ⟨b2, o2, e, _, r1⟩ := hio (by rw [natInts_len]; have := (List.getElem?_eq_some_iff.1 hx).1; omega)
  injection e with e
  injection e with e1 e2
  subst e1 e2
  exact r1 k (x : Int) (by simp [natInts, hx])
end
section
variable {S : St} {q g : Nat} {l : Int}
set_option maxHeartbeats 8000000 in
theorem gall_any (w W : World) (a : Ga w q g S l W) : Calls Try.prog 37 #[.pointer (some ⟨q, 0, none⟩)] W (fun e w' => ∃ B, e = .returned (.func (.func 60) #[] #[.pointer (some ⟨B, 0, none⟩)]) ∧ (∀ n₀, Go.Proofs.Ytbidgpeeogoglaa.Seqs Try.prog 60 #[.pointer (some ⟨B, 0, none⟩)] natV n₀ (fun k => W.heap.size ≤ k ∧ k < w'.heap.size) 0 (S.swAll l) w') ∧ Below W.heap.size W w') := by
  have HA := Lib.hid a
  obtain ⟨c0, c1, _⟩ := a.cells
  have HS := Lib.hid (fun k => swIt_len S l k)
  have HAL := Lib.hid (fun x => all_len S x)
  have HW := Lib.hid (cwith_any W.heap.size (.slice none 0 0) [] l W a (World.ownsRow_nil _ _ _ _) (Nat.le_refl _) (by simp))
  clear a
  go_enter Try.func37, Try.ntmps37
  go_wp2_with (go_at_call 51; fail)
  refine HW.out.mono ?_
  rintro e w2 ⟨v2, rfl, ho2, hb2⟩
  obtain ⟨p2, c2, rfl⟩ := owns_slice ho2
  have HO2 := Lib.hid (show w2.ownsRow W.heap.size 3 1 (.slice p2 (withL [] (S.all l)).length c2) (S.swIt l 0).length (intVs (natInts (S.swIt l 0))) from ho2)
  have HB2 := Lib.hid hb2
  clear ho2 hb2 HW c0 c1
  go_wp2
  go_loopw [3, 4] (fun v i wr => ∃ k : Nat, k ≤ 32 ∧ i = .int .i64 k ∧ wr.ownsRow W.heap.size 3 1 v (S.swIt l k).length (intVs (natInts (S.swIt l k))) ∧ Below W.heap.size W wr) (fun _ i _ => 32 - (intOf i).toNat)
  case atStart => exact ⟨0, by omega, rfl, HO2.out, HB2.out⟩
  case round =>
    obtain ⟨k, hk, rfl, hown, hbel⟩ := hrel
    have hs := hbel.size
    have HB := Lib.hid hbel
    obtain ⟨Ar, cp, rfl⟩ := owns_slice hown
    have HO := Lib.hid hown
    have hl32 := HS.out k
    by_cases hlt : k < (S.swIt l k).length
    · have hki : (k : Int) < ((S.swIt l k).length : Int) := by omega
      obtain ⟨x, hx⟩ : ∃ x, (S.swIt l k)[k]? = some x := ⟨_, List.getElem?_eq_getElem hlt⟩
      have hx32 : x < 32 := (swIt_row S l k).2 x (List.mem_of_getElem? hx)
      have HNX := Lib.hid (swIt_next S l hx)
      have HX := Lib.hid hx
      obtain ⟨Ao, co, ho, hio⟩ := owns_intsAt hown
      obtain ⟨rfl, rfl⟩ : Ar = Ao ∧ cp = co := by injection ho with h1 _ h3; exact ⟨h1, h3⟩
      obtain ⟨b1, o1, rfl, g1, r1⟩ := hio (by rw [natInts_len]; omega)
      have HA2 := HA.out.read hbel
      have HGE := fun W (h : IsAr W g S) => get_gen (x : Int) g W h
      obtain ⟨s, hs1⟩ : ∃ s, S.slotAt (x : Int) = s := ⟨_, rfl⟩
      rw [hs1] at HNX
      rw [show errAt (x : Int) = .nilIface from if_pos (inR_nat hx32)] at HGE
      generalize hE : S.swIt l k = E at *
      have HAt := Lib.hid (show SwAt w W q g S l b1 o1 cp E wr from ⟨HA2, HO.out, HB.out⟩)
      have GA := Lib.hid (fun W' (a : SwAt w W q g S l b1 o1 cp E W') => (HGE W' a.ga.ar).mono fun e w2 ⟨h1, h2⟩ => show e = Ending.returned (.tuple #[.agg s.cells, .nilIface]) ∧ SwAt w W q g S l b1 o1 cp E w2 ∧ Below W'.heap.size W' w2 from ⟨by rw [h1, hs1], a.read h2, h2⟩)
      have hlm := HAL.out s.kids
      have e1 := HAt.out.cell1 HX.out
      clear r1 hx ho hio hown hbel HA2 HGE hs1 e1
      go_upto_region 5 with fail
      have td := HAt.out.read (Below.refl wr.heap.size wr).drew
      refine wp_region_cut (fun a' w' => ∃ (B : Nat) (z : Nat → Value), (∀ i, z i = a'.tmps.getD i undef) ∧ a'.tmps = #[.pointer (some ⟨q, 0, none⟩), undef, .nilFunc, .slice (some ⟨b1, o1, none⟩) E.length cp, .int .i64 k, .pointer (some ⟨B, 0, none⟩), .nilIface, .pointer (some ⟨q, 0, none⟩), .pointer (some ⟨q, 0, none⟩), .pointer (some ⟨q, 0, none⟩), .pointer (some ⟨q, 1, none⟩), .int .i64 l, .slice p2 (withL [] (S.all l)).length c2, z 13, z 14, z 15, z 16, z 17, z 18, z 19, z 20, z 21, z 22, z 23, z 24, z 25, z 26, z 27, z 28, z 29, z 30, z 31, z 32, z 33, z 34, z 35, z 36, z 37, undef, undef] ∧ a'.defers = [] ∧ (Blk w' B 57 s.cells ∧ SwAt w W q g S l b1 o1 cp E w')) ?_ ?_
      · refine wp_region_held_drew (S := fun W' => W'.cell? ⟨q, 0, none⟩ = some (.pointer (some ⟨g, 0, none⟩)) ∧ W'.cell? ⟨b1, o1 + k, none⟩ = some (.int .i64 (x : Int))) (by kernel_rfl) ⟨td.ga.cells.1, td.cell1 HX.out⟩ (fun hHeld => ?_)
        refine wpAnyH_take (i := 0) (v := _) rfl (by kernel_rfl) (by kernel_rfl) (by kernel_rfl) (fun _ _ _ h => h) (Or.inl ⟨by rfl, by intro w hSw; (try dsimp only at hSw); go_simp; try with_reducible rfl⟩) (by assumption) ?_
        try simp only [put_laws]
        refine wpAnyH_take (i := 1) (v := _) rfl (by kernel_rfl) (by kernel_rfl) (by kernel_rfl) (fun _ _ _ h => h) (Or.inl ⟨by rfl, by intro w hSw; (try dsimp only at hSw); go_simp; try with_reducible rfl⟩) (by assumption) ?_
        try simp only [put_laws]
        refine wpAnyH_take (i := 2) (v := _) rfl (by kernel_rfl) (by kernel_rfl) (by kernel_rfl) (fun _ _ _ h => h) (Or.inl ⟨by rfl, by intro w hSw; (try dsimp only at hSw); go_simp; try with_reducible rfl⟩) (by assumption) ?_
        try simp only [put_laws]
        refine wpAnyH_take (i := 3) (v := _) rfl (by kernel_rfl) (by kernel_rfl) (by kernel_rfl) (fun _ _ _ h => h) (Or.inl ⟨by rfl, by intro w hSw; (try dsimp only at hSw); go_simp; try with_reducible rfl⟩) (by assumption) ?_
        try simp only [put_laws]
        refine wpAnyH_take (i := 4) (v := _) rfl (by kernel_rfl) (by kernel_rfl) (by kernel_rfl) (fun _ _ _ h => h) (Or.inl ⟨by rfl, by intro w hSw; (try dsimp only at hSw); go_simp; try with_reducible rfl⟩) (by assumption) ?_
        try simp only [put_laws]
        refine wpAnyH_take (i := 5) (v := _) rfl (by kernel_rfl) (by kernel_rfl) (by kernel_rfl) (fun _ _ _ h => h) (Or.inl ⟨by rfl, by intro w hSw; (try dsimp only at hSw); go_simp; try with_reducible rfl⟩) (by assumption) ?_
        try simp only [put_laws]
        refine wpAnyH_take (i := 6) (v := _) rfl (by kernel_rfl) (by kernel_rfl) (by kernel_rfl) (fun _ _ _ h => h) (Or.inl ⟨by rfl, by intro w hSw; (try dsimp only at hSw); go_simp; try with_reducible rfl⟩) (by assumption) ?_
        try simp only [put_laws]
        refine wpAnyH_take (i := 7) (v := _) rfl (by kernel_rfl) (by kernel_rfl) (by kernel_rfl) (fun _ _ _ h => h) (Or.inl ⟨by rfl, by intro w hSw; (try dsimp only at hSw); go_simp; try with_reducible rfl⟩) (by assumption) ?_
        try simp only [put_laws]
        refine wpAnyH_ready (rs := [8, 12]) (by kernel_rfl) (by simp) ?_
        refine AllReadyH.cons rfl (fun K hK => ?_) ?_
        · go_simp
          go_at_call 23
          refine (GA.out _ td).mono ?_
          rintro e w4 ⟨rfl, h4, hb4⟩
          refine hK.out _ _ ⟨h4.ga.cells.1, h4.cell1 HX.out⟩ (fun hH => ?_)
          refine wpAnyH_take (i := 9) (v := _) rfl (by kernel_rfl) (by kernel_rfl) (by kernel_rfl) (fun _ _ _ h => h) (Or.inl ⟨by rfl, by intro w hSw; (try dsimp only at hSw); go_simp; try with_reducible rfl⟩) (by assumption) ?_
          try simp only [put_laws]
          refine wpAnyH_take (i := 10) (v := _) rfl (by kernel_rfl) (by kernel_rfl) (by kernel_rfl) (fun _ _ _ h => h) (Or.inl ⟨by rfl, by intro w hSw; (try dsimp only at hSw); go_simp; try with_reducible rfl⟩) (by assumption) ?_
          try simp only [put_laws]
          refine wpAnyH_take (i := 11) (v := _) rfl (by kernel_rfl) (by kernel_rfl) (by kernel_rfl) (fun _ _ _ h => h) (Or.inl ⟨by rfl, by intro w hSw; (try dsimp only at hSw); go_simp; try with_reducible rfl⟩) (by assumption) ?_
          try simp only [put_laws]
          refine wpAnyH_ready (rs := [12]) (by kernel_rfl) (by simp) ?_
          refine AllReadyH.cons rfl (fun K hK => ?_) AllReadyH.nil
          go_simp
          have h5 := h4.read ((Below.refl _ w4).alloc (Nat.le_refl _) (.cells zeroL 57))
          refine hK.out _ _ ⟨h5.ga.cells.1, h5.cell1 HX.out⟩ (fun hH => ?_)
          refine wpAnyH_ready (rs := [13]) (by kernel_rfl) (by simp) ?_
          refine AllReadyH.cons rfl (fun K hK => ?_) AllReadyH.nil
          refine step_store_new (by rfl) (by rfl) (by rfl) (by rfl) (by rfl) (SlotV.one _) slotInfo ?_
          have h6 := h4.read ((Below.refl _ w4).alloc (Nat.le_refl _) (.cells s.cells 57))
          refine hK.out _ _ ⟨h6.ga.cells.1, h6.cell1 HX.out⟩ (fun hH => ?_)
          try simp only [put_laws]
          refine wpAnyH_take (i := 14) (v := _) rfl (by kernel_rfl) (by kernel_rfl) (by kernel_rfl) (fun _ _ _ h => h) (Or.inl ⟨by rfl, by intro w hSw; (try dsimp only at hSw); go_simp; try with_reducible rfl⟩) (by assumption) ?_
          try simp only [put_laws]
          refine wpAnyH_done (by kernel_rfl) ?_ _
          exact cutQ.normal ⟨w4.heap.size, fun i => Array.getD _ i undef, fun _ => rfl, by kernel_rfl, rfl, ⟨Blk.new _ _ _, h6⟩⟩
        · refine AllReadyH.cons rfl (fun K hK => ?_) AllReadyH.nil
          go_simp
          have t1 := td.read ((Below.refl _ wr.drew).alloc (Nat.le_refl _) (.cells zeroL 57))
          refine hK.out _ _ ⟨t1.ga.cells.1, t1.cell1 HX.out⟩ (fun hH => ?_)
          refine wpAnyH_ready (rs := [8]) (by kernel_rfl) (by simp) ?_
          refine AllReadyH.cons rfl (fun K hK => ?_) AllReadyH.nil
          go_simp
          go_at_call 23
          refine (GA.out _ t1).mono ?_
          rintro e w4 ⟨rfl, h4, hb4⟩
          have hz : Blk w4 wr.heap.size 57 zeroL := (Blk.new wr.drew 57 zeroL).below hb4 (by simp)
          refine hK.out _ _ ⟨h4.ga.cells.1, h4.cell1 HX.out⟩ (fun hH => ?_)
          refine wpAnyH_take (i := 9) (v := _) rfl (by kernel_rfl) (by kernel_rfl) (by kernel_rfl) (fun _ _ _ h => h) (Or.inl ⟨by rfl, by intro w hSw; (try dsimp only at hSw); go_simp; try with_reducible rfl⟩) (by assumption) ?_
          try simp only [put_laws]
          refine wpAnyH_take (i := 10) (v := _) rfl (by kernel_rfl) (by kernel_rfl) (by kernel_rfl) (fun _ _ _ h => h) (Or.inl ⟨by rfl, by intro w hSw; (try dsimp only at hSw); go_simp; try with_reducible rfl⟩) (by assumption) ?_
          try simp only [put_laws]
          refine wpAnyH_take (i := 11) (v := _) rfl (by kernel_rfl) (by kernel_rfl) (by kernel_rfl) (fun _ _ _ h => h) (Or.inl ⟨by rfl, by intro w hSw; (try dsimp only at hSw); go_simp; try with_reducible rfl⟩) (by assumption) ?_
          try simp only [put_laws]
          refine wpAnyH_ready (rs := [13]) (by kernel_rfl) (by simp) ?_
          refine AllReadyH.cons rfl (fun K hK => ?_) AllReadyH.nil
          refine step_store_blk (by rfl) (by rfl) (by rfl) (by rfl) hz (by rfl) (SlotV.one _) slotInfo ?_
          have h6 := h4.over hz s.cells (by have h1 := td.qlt; have h2 := td.tn.size; have h3 : wr.drew.heap.size = wr.heap.size := rfl; omega)
          refine hK.out _ _ ⟨h6.ga.cells.1, h6.cell1 HX.out⟩ (fun hH => ?_)
          try simp only [put_laws]
          refine wpAnyH_take (i := 14) (v := _) rfl (by kernel_rfl) (by kernel_rfl) (by kernel_rfl) (fun _ _ _ h => h) (Or.inl ⟨by rfl, by intro w hSw; (try dsimp only at hSw); go_simp; try with_reducible rfl⟩) (by assumption) ?_
          try simp only [put_laws]
          refine wpAnyH_done (by kernel_rfl) ?_ _
          exact cutQ.normal ⟨wr.heap.size, fun i => Array.getD _ i undef, fun _ => rfl, by kernel_rfl, rfl, ⟨hz.setRow_same _, h6⟩⟩
      rintro ⟨tm, df⟩ V ⟨B, z, hq, hF, hD, HK⟩
      dsimp only at hq hF hD
      clear hq
      subst hF hD
      have c2 : V.cell? ⟨B, 2, none⟩ = some (.int .i64 s.kids) := (HK.1.cell 2).trans rfl
      have HW := Lib.hid (cwith_any W.heap.size (.slice (some ⟨b1, o1, none⟩) E.length cp) E s.kids V HK.2.ga HK.2.row HK.2.bel.size (by omega))
      have HV := Lib.hid HK.2.bel
      clear HK td
      go_wp2_with (go_at_call 51; fail)
      refine HW.out.mono ?_
      rintro e w5 ⟨v5, rfl, ho5, hb5⟩
      have HB5 := Lib.hid (HV.out.trans hb5)
      have HO5 := Lib.hid ho5
      clear ho5 hb5 HW HV
      go_wp2
      go_roundw
      case rel => exact ⟨k + 1, by omega, by go_num, by rw [HNX.out]; exact HO5.out, HB5.out⟩
      case measure => simp [intOf] <;> omega
    · have hki : ¬ (k : Int) < ((S.swIt l k).length : Int) := by omega
      have hall := swAll_at S l hk (by omega)
      have HAE := Lib.hid hall
      obtain ⟨Ao, co, ho, hio, hra⟩ := owns_intsFrom hown
      obtain ⟨rfl, rfl⟩ : Ar = Ao ∧ cp = co := by injection ho with h1 _ h3; exact ⟨h1, h3⟩
      have HV := Lib.hid (values_any (S.swIt l k) Ar cp wr hio (by omega))
      have HR := Lib.hid hra
      clear hown hbel hall ho hio hra
      go_wp2_with (go_at_call 52; fail)
      refine HV.out.mono ?_
      rintro e w5 ⟨B, rfl, hB0, hB1, hsq, hb5⟩
      have hs5 := hb5.size
      have HSQ := Lib.hid hsq
      have HB5 := Lib.hid (HB.out.trans (hb5.mono hs))
      clear hsq hb5 HV
      go_wp2
      go_ret
      exact ⟨B, rfl, fun n₀ => by rw [HAE.out]; exact HSQ.out n₀ _ ⟨by omega, hB1⟩ (fun a e => ⟨by have := (HR.out a e).1; omega, by have := (HR.out a e).2; omega⟩), HB5.out⟩
end
end Go.Proofs.Ytbidgpeeogoglaa
