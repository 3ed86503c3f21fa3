/-
  lineagelaw15.ArenaLasts: the whole walk.
-/
import Derived.Test.YtdgdbcapojgnlaaDoorPlays15
import Derived.Test.YtdgdbcapojgnlaaDoorCopyI
namespace Go.Proofs.YtdgdbcapojgnlaaDoor
set_option maxRecDepth 100000
open Go.RowKit Go.Shelf Go.Sort
attribute [local go_sem] Oper.semAt_some

theorem IntsAt.two {w W : World} {g lo h b : Nat} {SA SR : St} {A : Option Addr} {L : List Int} (hi : IntsAt w A L) (t : Two w g lo h b SA SR W) (hne : ∀ a, A = some a → a.block ≠ g ∧ a.block ≠ h ∧ a.block ≠ b) : IntsAt W A L := fun hp => by
  obtain ⟨bk, off, rfl, hlt, hc⟩ := hi hp
  exact ⟨bk, off, rfl, Nat.lt_of_lt_of_le hlt t.tn.size, fun k i hk => t.cell hlt (hne _ rfl) (hc k i hk)⟩

/-- What Frees hands back, cell by cell. -/
theorem fr_any {S : St} (g : Nat) (w : World) (hA : IsAr w g S) : Calls Tryd.prog 12 #[.pointer (some ⟨g, 0, none⟩)] w fun e w' =>
    ∃ B p cap, e = .returned (.func (.func 39) #[] #[.pointer (some ⟨B, 0, none⟩)]) ∧ w.heap.size ≤ B ∧ Boxed w' B 44 (.slice p S.free.length cap) ∧ IntsAt w' p (natInts S.free) ∧ (∀ a, p = some a → w.heap.size ≤ a.block ∧ a.block < w'.heap.size) ∧ Below w.heap.size w w' := by
  obtain ⟨A, hA, hS⟩ := hA.ex
  refine (frees_any g A S w hA hS).mono ?_
  rintro e w' ⟨B, v, h1, h2, h3, h4, h5⟩
  obtain ⟨p, cap, rfl, hi, hp⟩ := owns_intsFrom h4
  exact ⟨B, p, cap, h1, h2, h3, hi, hp, h5⟩
set_option maxHeartbeats 8000000 in
theorem lasts_any (P0 : Option Addr) (cap : Nat) (xs : List ActV) (P1 : Option Addr) (cap1 : Nat) (ys : List ActV) (w : World) (hin : ActsAt w P0 xs) (_ : xs.length * 160 ≤ 140737488351232) (hin1 : ActsAt w P1 ys) (_ : ys.length * 160 ≤ 140737488351232) (hL : Laid w) :
    Calls Tryd.prog 4 #[.slice P0 xs.length cap, .slice P1 ys.length cap1] w (RetB (.bool true) w) := by
  obtain ⟨ii, iz, hi, hz0, hz1, hz2, hz3⟩ := intInfo
  have HI := Lib.hid hin
  have HI1 := Lib.hid hin1
  have hge := hL.pos
  have HL := Lib.hid hL
  clear hin hin1 hL
  by_cases hbig : 1000 < xs.length
  · have hbig' : (1000 : Int) < (xs.length : Int) := by omega
    refine calls_marks Tryd.func4 rfl ?_
    simp only [Tryd.ntmps4, List.size_toArray, List.length_cons, List.length_nil, Nat.reduceAdd, Nat.reduceSub, Array.replicate_succ, Array.replicate_zero, List.push_toArray, List.append_toArray, List.nil_append, List.cons_append]
    go_wp2
    exact ⟨_, results_tmp rfl _ _ _, rfl, Below.refl _ _⟩
  by_cases hbig1 : 1000 < ys.length
  · have hbig' : ¬ (1000 : Int) < (xs.length : Int) := by omega
    have hbig1' : (1000 : Int) < (ys.length : Int) := by omega
    refine calls_marks Tryd.func4 rfl ?_
    simp only [Tryd.ntmps4, List.size_toArray, List.length_cons, List.length_nil, Nat.reduceAdd, Nat.reduceSub, Array.replicate_succ, Array.replicate_zero, List.push_toArray, List.append_toArray, List.nil_append, List.cons_append]
    go_wp2
    exact ⟨_, results_tmp rfl _ _ _, rfl, Below.refl _ _⟩
  have hbig' : ¬ (1000 : Int) < (xs.length : Int) := by omega
  have hbig1' : ¬ (1000 : Int) < (ys.length : Int) := by omega
  refine calls_marks Tryd.func4 rfl ?_
  simp only [Tryd.ntmps4, List.size_toArray, List.length_cons, List.length_nil, Nat.reduceAdd, Nat.reduceSub, Array.replicate_succ, Array.replicate_zero, List.push_toArray, List.append_toArray, List.nil_append, List.cons_append]
  go_wp2_with (go_at_call 7; fail)
  refine (new_st w).mono ?_
  rintro e w1 ⟨g, rfl, hg, hS1, hb1⟩
  have hgl := hS1.lt
  have hs1 := hb1.size
  have K1 := Lib.hid hS1
  have B1 := Lib.hid hb1
  clear hS1 hb1
  go_wp2_with (go_at_call 8; fail)
  refine (rnew_any w1).mono ?_
  rintro e w3 ⟨h, b, rfl, hh, hb, hR, hb3⟩
  have hs3 := hb3.size
  have I3 := Lib.hid (show InvP w3 g w1.heap.size h b 0 St.new w3 from ⟨Two.start (K1.out.below hb3 (by omega)) hR, by decide, by decide⟩)
  have B3 := Lib.hid (B1.out.trans (hb3.mono (by omega)))
  have L3 := Lib.hid (HL.out.below B3.out hge)
  have hhb := hR.los
  have HL0 := Lib.hid HL.out
  have hfr := frees_eql
  clear hR hb3 K1 B1 HL
  go_wp2
  go_loopw [7] (fun i wr => ∃ (m : Nat) (S : St), m ≤ xs.length ∧ i = .int .i64 m ∧ InvP w3 g w1.heap.size h b m S wr) (fun i _ => xs.length - (intOf i).toNat)
  case atStart => exact ⟨0, _, Nat.zero_le _, rfl, I3.out⟩
  case round =>
    obtain ⟨m, S2, hm, rfl, hInv⟩ := hrel
    have HV2 := Lib.hid hInv
    clear hInv I3
    by_cases hlt2 : m < xs.length
    · have hmi : (m : Int) < (xs.length : Int) := by omega
      obtain ⟨x, hx⟩ : ∃ x, xs[m]? = some x := ⟨_, List.getElem?_eq_getElem hlt2⟩
      obtain ⟨bb, off, rfl, hbl, hrow0⟩ := (HI.out.below (B3.out.trans (HV2.out.two.below (n := w.heap.size) (by omega) (by omega) (by omega))) (Nat.le_refl _)) (by omega)
      have HRW := Lib.hid (hrow0 m x hx)
      have HU := Lib.hid Tryd.underlying38
      have DO := Lib.hid (HV2.out.does x (by omega) (by omega) (by omega) L3.out (by omega))
      clear hrow0 hx hbl
      go_wp2_with (first
        | (refine wpList_load_at (ty := 38) rfl rfl rfl HRW.out HU.out rfl actInfo ?_)
        | (go_at_call 10; fail))
      refine DO.out.mono ?_
      rintro e w5 ⟨rfl, S', hI⟩
      have HV' := Lib.hid hI
      clear hI HV2 DO HRW HU
      go_wp2
      go_roundw
      case rel => exact ⟨m + 1, S', by omega, by go_num, HV'.out⟩
      case measure => simp [intOf]; omega
    · obtain rfl : m = xs.length := by omega
      have hsz := HV2.out.two.tn.size
      have BW := Lib.hid (B3.out.trans (HV2.out.two.below (n := w.heap.size) (by omega) (by omega) (by omega)))
      have hA := HV2.out.two.ar
      have hlr := HV2.out.two.rf.los
      have hgr := hA.lt
      have HFR := Lib.hid (fr_any g wr hA)
      have hfl : S2.free.length ≤ 32 := nodup_len 32 _ hA.nodup hA.free_lt
      clear hA
      go_wp2_with (go_at_call 12; fail)
      refine HFR.out.mono ?_
      rintro e w4 ⟨Bf, p, pc, rfl, hBf, hbox, hint, hpa, hb4⟩
      have hs4 := hb4.size
      obtain ⟨cc, jj, vF, r⟩ := HV2.out.two.rf.call hb4
      obtain ⟨AF, cF, hvF, hIF0, _, hc1, _⟩ := r.view
      have HCI := Lib.hid (copyI_any AF cF S2.free.length (natInts S2.free) (natInts_len _) (by omega) w4 hIF0)
      have HB4 := Lib.hid hb4
      have HBX := Lib.hid hbox
      have HIN := Lib.hid hint
      have HPA := Lib.hid hpa
      clear r hIF0 hb4 hbox hint hpa HFR
      go_wp2_with (go_at_call 13; fail)
      refine HCI.out.mono ?_
      rintro e w5 ⟨A', c', rfl, hI', hA', hb5⟩
      have hs5 := hb5.size
      have hI5 : InvP w5 g w1.heap.size h b xs.length S2 w5 := ⟨Two.start (HV2.out.two.ar.below (HB4.out.trans (hb5.mono hs4)) hgr) (HV2.out.two.rf.call (HB4.out.trans (hb5.mono hs4))), HV2.out.w0, HV2.out.w1⟩
      have I5 := Lib.hid hI5
      have B5 := Lib.hid (BW.out.trans ((HB4.out.trans (hb5.mono hs4)).mono BW.out.size))
      have L5 := Lib.hid (HL0.out.below B5.out hge)
      have bBf := Lib.hid (show Boxed w5 Bf 44 (.slice p S2.free.length pc) from (hb5.block _ HBX.out.lt).trans HBX.out)
      have HP5 := Lib.hid (HIN.out.below hb5 (Nat.le_refl _))
      have HA5 := Lib.hid hI'
      have HAA := Lib.hid hA'
      have hBf4 := HBX.out.lt
      clear hb5 hI' hA' hI5 HV2 BW HIN HBX HCI hc1 HB4
      go_wp2
      go_loopw [10] (fun i wr' => ∃ (m : Nat) (S : St), m ≤ ys.length ∧ i = .int .i64 m ∧ InvP w5 g w1.heap.size h b (xs.length + m) S wr') (fun i _ => ys.length - (intOf i).toNat)
      case atStart => exact ⟨0, S2, Nat.zero_le _, rfl, I5.out⟩
      case round =>
        obtain ⟨m, S3, hm3, rfl, hInv⟩ := hrel
        have HV3 := Lib.hid hInv
        clear hInv I5
        by_cases hlt3 : m < ys.length
        · have hmi : (m : Int) < (ys.length : Int) := by omega
          obtain ⟨x, hx⟩ : ∃ x, ys[m]? = some x := ⟨_, List.getElem?_eq_getElem hlt3⟩
          obtain ⟨bb, off, rfl, hbl, hrow0⟩ := (HI1.out.below (B5.out.trans (HV3.out.two.below (n := w.heap.size) (by omega) (by omega) (by omega))) (Nat.le_refl _)) (by omega)
          have HRW := Lib.hid (hrow0 m x hx)
          have HU := Lib.hid Tryd.underlying38
          have DO := Lib.hid (HV3.out.does x (by omega) (by omega) (by omega) L5.out (by omega))
          clear hrow0 hx hbl
          go_wp2_with (first
            | (refine wpList_load_at (ty := 38) rfl rfl rfl HRW.out HU.out rfl actInfo ?_)
            | (go_at_call 10; fail))
          refine DO.out.mono ?_
          rintro e w6 ⟨rfl, S', hI⟩
          have HV' := Lib.hid hI
          clear hI HV3 DO HRW HU
          go_wp2
          go_roundw
          case rel => exact ⟨m + 1, S', by omega, by go_num, HV'.out⟩
          case measure => simp [intOf]; omega
        · obtain rfl : m = ys.length := by omega
          have hsW := HV3.out.two.tn.size
          have hlw := HV3.out.two.rf.los
          have BW := Lib.hid (B5.out.trans (HV3.out.two.below (n := w.heap.size) (by omega) (by omega) (by omega)))
          have HPW := Lib.hid (HP5.out.two HV3.out.two (fun a ha => by have := HPA.out a ha; omega))
          have HAW := Lib.hid (HA5.out.two HV3.out.two (fun a ha => by have := HAA.out a ha; omega))
          have bBW := Lib.hid (show Boxed wr Bf 44 (.slice p S2.free.length pc) from (HV3.out.two.tn.block Bf bBf.out.lt (by omega)).trans bBf.out)
          have ARW := Lib.hid HV3.out.two.ar
          have RFW := Lib.hid HV3.out.two.rf
          have LW := Lib.hid (HL0.out.below BW.out hge)
          have HPX := Lib.hid HPA.out
          clear HV3 HP5 HA5 bBf HPA HAA B5 L5 L3 B3
          go_wp2
          obtain ⟨Va, hVa⟩ : ∃ Va, wr.alloc (.cells #[.slice none 0 0] 44) = Va := ⟨_, rfl⟩
          have hVas : Va.heap.size ≤ wr.heap.size + 1 ∧ wr.heap.size + 1 ≤ Va.heap.size := by rw [← hVa]; simp
          have bL : Boxed Va wr.heap.size 44 (.slice none 0 0) := by rw [← hVa]; exact Boxed.new wr _ _
          have hbVa : Below wr.heap.size wr Va := by rw [← hVa]; exact (Below.refl _ _).alloc (Nat.le_refl _) _
          rw [hVa]
          clear hVa
          refine wp_seqs rfl (enters_of Tryd.func39 (by kernel_rfl) rfl)
            (frees1_seqs S2.free p pc Va Bf wr.heap.size (fun k => k < w4.heap.size) (by exact hBf4) (fun a ha => (HPX.out a ha).2) ((hbVa.block _ bBW.out.lt).trans bBW.out) (HPW.out.below hbVa (Nat.le_refl _)) (by omega)) (by omega) (fun k hk => by omega) (Below.refl _ _) (fun _ => rfl)
            (fun pre W' => ∃ v, Coll Va wr.heap.size 44 (Va.heap.size + 2) 3 1 pre.length (intVs (natInts pre)) W' v)
            (fun _ _ _ => False)
            (Zone.coll (by omega) (by omega) (Nat.le_refl _) (fun pre => pre.length) (fun pre => intVs (natInts pre)))
            (fun cd => Zone.none)
            ⟨_, Coll.start bL _ _ _⟩ ?round9 ?done9 ?stop9
          case stop9 => rintro cd pre W' _ h _; exact h.elim
          case round9 =>
            intro l2 pre i V0 hpre
            simp only [natV]
            gi_wp2
            refine ⟨by trivial, fun V1 hsz1 ⟨v, hC⟩ => ?_⟩
            obtain ⟨p2, cap2, rfl⟩ := owns_slice hC.row
            have hc1 := hC.box.cell
            have hpl := hpre.length_le
            rw [List.length_append] at hpl
            have h1 : pre.length + (0 + 1) ≤ maxLen := by unfold maxLen; simp at hpl; omega
            have h2 : (pre.length + (0 + 1)) * 8 ≤ 140737488355328 := by simp at hpl; omega
            have H1 := Lib.hid h1
            have H2 := Lib.hid h2
            clear h1 h2
            gi_wp2_with (gi_at_builtin; refine wpListIn_append_new (v := .slice p2 pre.length cap2) rfl _ _ 44 rfl Tryd.underlying44 hi hz0 hz1 hz2 hz3 (by decide) rfl hC.row 0 rfl rfl (int_one _) H1.out H2.out hsz1 ?_; intro g' cap' w1' hown1 hgr1; obtain ⟨hv1, hC2, hk2'⟩ := hC.step (by omega) (by omega) hsz1 hown1 hgr1; have hc2 := hv1.cell; have hf2 := hv1.frozen)
            exact ⟨hk2' _ _ _ _ _ (by omega) (by omega) (fun k hk => by omega) (by omega) (by omega), ⟨_, by rw [natInts_snoc, List.length_append]; exact hC2⟩⟩
          case done9 =>
            rintro W1 ⟨v, hC⟩ hK1
            have hbW1 : Below wr.heap.size wr W1 := hbVa.trans (hC.below (Nat.le_refl _) (by omega))
            have hs1 := hC.grown.size
            obtain ⟨Al, cl, rfl, hIl⟩ := owns_intsAt hC.row
            have c11 := hC.box.cell
            have HSI := Lib.hid (sameI_eq Al A' cl c' S2.free.length (natInts S2.free) (natInts_len _) (by omega) W1 hIl (HAW.out.below hbW1 (Nat.le_refl _)))
            have hLW1 : Laid W1 := LW.out.below hbW1 (by omega)
            have L1 := Lib.hid hLW1
            have A1 := Lib.hid (ARW.out.below hbW1 ARW.out.lt)
            have R1 := Lib.hid (RFW.out.call hbW1)
            have B1 := Lib.hid (BW.out.trans (hbW1.mono BW.out.size))
            have K1 := Lib.hid hK1
            clear hC hIl hK1 hLW1 hbW1 hbVa bL
            go_wp2_with (go_at_call 14; fail)
            refine HSI.out.mono ?_
            rintro e w7 ⟨rfl, hb7⟩
            have AK := Lib.hid (asked_any w7 (A1.out.below hb7 A1.out.lt) (R1.out.call hb7) (L1.out.below hb7 L1.out.pos))
            have B7 := Lib.hid (B1.out.trans (hb7.mono B1.out.size))
            have K7 := Lib.hid ((hb7.block _ (Array.getElem?_eq_some_iff.1 K1.out).1).trans K1.out)
            clear hb7 A1 R1 L1 B1 K1 HSI c11
            go_wp2_with (go_at_call 11; fail)
            refine AK.out.mono ?_
            rintro e w8 ⟨rfl, hb8⟩
            have B8 := Lib.hid (B7.out.trans (hb8.mono B7.out.size))
            have K8 := Lib.hid ((hb8.block _ (Array.getElem?_eq_some_iff.1 K7.out).1).trans K7.out)
            clear hb8 AK B7 K7
            go_wp2
            refine ⟨by simp, .inl ⟨_, _, rfl, run_takeDeferred K8.out, ?_⟩⟩
            exact ⟨_, results_tmp rfl _ _ _, rfl, below_putObj B8.out (by omega) _ B8.out.size⟩
end Go.Proofs.YtdgdbcapojgnlaaDoor
