/-
  lineagelaw19.SweepKnown (closed).
-/
import Derived.Test.YtbidgpeeogoglaaDoorSwKn
namespace Go.Proofs.YtbidgpeeogoglaaDoor
set_option maxRecDepth 100000
open Go.RowKit Go.Sort
attribute [local go_sem] Oper.semAt_some

def hK : St × Int := hungR [0, 1, 1, 2, 0] 5
def hK1 : St × Int := (hK.1.tcut hK.2 0).2
def hK2 : St × Int := (hK1.1.tcut hK1.2 4).2
def hK3 : St × Int := (hK2.1.gadd (-1) 0).2
def hK4 : St × Int := (hK3.1.gadd hK3.2 4).2
def hKU : Nat → St × Int
  | 0 => hK4
  | k + 1 => ((hKU k).1.gunit (hKU k).2).2
theorem hKok : ∀ k, k < 5 → hungOk [0, 1, 1, 2, 0] k
  | 0, _ => ⟨⟨(hungR [0, 1, 1, 2, 0] 0).1.free.tail, by kernel_rfl⟩, by kernel_rfl⟩
  | 1, _ => ⟨⟨(hungR [0, 1, 1, 2, 0] 1).1.free.tail, by kernel_rfl⟩, by kernel_rfl⟩
  | 2, _ => ⟨⟨(hungR [0, 1, 1, 2, 0] 2).1.free.tail, by kernel_rfl⟩, by kernel_rfl⟩
  | 3, _ => ⟨⟨(hungR [0, 1, 1, 2, 0] 3).1.free.tail, by kernel_rfl⟩, by kernel_rfl⟩
  | 4, _ => ⟨⟨(hungR [0, 1, 1, 2, 0] 4).1.free.tail, by kernel_rfl⟩, by kernel_rfl⟩
theorem hKc : hK.1.tcut hK.2 0 = ((0, -1), hK1.1, hK1.2) := by kernel_rfl
theorem hKx : hK1.1.gunit (-1) = ((0, false), hK1.1, -1) := by kernel_rfl
theorem hKd : hK1.1.tcut hK1.2 4 = ((0, -1), hK2.1, hK2.2) := by kernel_rfl
theorem hKa : hK2.1.gadd (-1) 0 = ((0, -1), hK3.1, hK3.2) := by kernel_rfl
theorem hKb : hK3.1.gadd hK3.2 4 = ((0, -1), hK4.1, hK4.2) := by kernel_rfl
theorem hKe0 : hK4.1.gadd hK4.2 0 = ((9, -1), hK4.1, hK4.2) := by kernel_rfl
theorem hKe1 : hK4.1.gadd hK4.2 9 = ((10, -1), hK4.1, hK4.2) := by kernel_rfl
theorem hKe2 : hK4.1.gadd hK4.2 32 = ((1, -1), hK4.1, hK4.2) := by kernel_rfl
theorem hKl : hK4.1.swAll hK4.2 = [0, 4, 1, 2, 3] := by kernel_rfl
theorem hKu : ∀ k, k < 5 → ∃ x, [(0 : Int), 4, 1, 2, 3][k]? = some x ∧ (hKU k).1.gunit (hKU k).2 = ((x, true), (hKU (k + 1)).1, (hKU (k + 1)).2)
  | 0, _ => ⟨0, rfl, by kernel_rfl⟩
  | 1, _ => ⟨4, rfl, by kernel_rfl⟩
  | 2, _ => ⟨1, rfl, by kernel_rfl⟩
  | 3, _ => ⟨2, rfl, by kernel_rfl⟩
  | 4, _ => ⟨3, rfl, by kernel_rfl⟩
theorem hKz : (hKU 5).1.gunit (hKU 5).2 = ((0, false), (hKU 5).1, -1) := by kernel_rfl
theorem hKf : (hKU 5).1.free.length = 32 := by kernel_rfl
theorem hKt : (hKU 5).1.free.take 6 = [3, 2, 1, 4, 0, 5] := by kernel_rfl
theorem natInts_take (l : List Nat) (k : Nat) : natInts (l.take k) = (natInts l).take k := by simp [natInts]
set_option maxHeartbeats 16000000 in
theorem sweepKnown_any (w : World) (hL : Laid w) : Calls Tryd.prog 7 #[] w (RetB (.bool true) w) := by
  have hge := hL.pos
  have HL := Lib.hid hL
  obtain ⟨ii, iz, hi, hz0, hz1, hz2, hz3⟩ := intInfo
  have hn1 := nil_neq
  have hn2 := nil_eql
  obtain ⟨v, hv⟩ : ∃ v, w.alloc (.cells #[.int .i64 0, .int .i64 1, .int .i64 1, .int .i64 2, .int .i64 0] 3) = v := ⟨_, rfl⟩
  have hbv : Below w.heap.size w v := by rw [← hv]; exact (Below.refl _ _).alloc (Nat.le_refl _) _
  have hiv : IntsAt v (some ⟨w.heap.size, 0, none⟩) [0, 1, 1, 2, 0] := by rw [← hv]; exact ints_new w [0, 1, 1, 2, 0]
  have HU := Lib.hid (fun c => hung_any [0, 1, 1, 2, 0] 5 5 rfl (by decide) rfl hKok (some ⟨w.heap.size, 0, none⟩) c v hiv)
  have hsv := hbv.size
  have HV := Lib.hid hv
  have HBV := Lib.hid hbv
  clear hL hv hbv hiv
  refine calls_marks Tryd.func7 rfl ?_
  simp only [Tryd.ntmps7, List.size_toArray, List.length_cons, List.length_nil, Nat.reduceAdd, Nat.reduceSub, Array.replicate_succ, Array.replicate_zero, List.push_toArray, List.append_toArray, List.nil_append, List.cons_append]
  go_wp2_with (go_at_call 41; fail)
  rw [HV.out]
  refine (HU.out _).mono ?_
  rintro e u0 ⟨g, q, x, n0, rfl, hT, hrow, hq, hb⟩
  have T0 := Lib.hid (show TS 30 u0 q g hK.1 hK.2 u0 from hT)
  have hs0 := hb.size
  have HB0 := Lib.hid (HBV.out.trans (hb.mono hsv))
  have HQG := Lib.hid (show w.heap.size ≤ g ∧ w.heap.size ≤ q by omega)
  clear hT hrow hq hb HBV HU HV
  go_wp2_with (go_at_call 42; fail)
  refine (works19_any u0).mono ?_
  rintro e uw ⟨rfl, hbw⟩
  have Tw := Lib.hid (T0.out.read hbw).here
  have HBw := Lib.hid (HB0.out.trans (hbw.mono HB0.out.size))
  clear hbw T0 HB0
  go_wp2_with (go_at_call 26; fail)
  refine (Tw.out.cut0 hKc (by omega)).mono ?_
  rintro e u1 ⟨rfl, t1⟩
  have hk1 := t1.keep
  have hs1 := hk1.size
  have B1 := Lib.hid (t1.below HBw.out (by have := HQG.out; omega) (Nat.le_refl _))
  have T1 := Lib.hid t1.here
  clear t1 hk1 Tw
  go_wp2_with (go_at_call 31; fail)
  refine (swNew_any g u1).mono ?_
  rintro e u2 ⟨rfl, hB2, hb2⟩
  have G2 := Lib.hid (T1.out.gs hB2 hb2)
  have B2 := Lib.hid (B1.out.trans (hb2.mono B1.out.size))
  obtain ⟨q3, hq3⟩ : ∃ q3, u1.heap.size = q3 := ⟨_, rfl⟩
  have HQ3 := Lib.hid (show w.heap.size ≤ q3 ∧ w.heap.size ≤ q ∧ w.heap.size ≤ g by have := HQG.out; have := B1.out.size; omega)
  rw [hq3] at G2 ⊢
  have hs2 := hb2.size
  clear hb2 hB2 T1 B1 hq3
  go_wp2_with (go_at_call 43; fail)
  refine (G2.out.unit hKx (by omega)).mono ?_
  rintro e u3 ⟨rfl, t1⟩
  have Gu3 := Lib.hid t1
  clear t1 G2
  go_wp2_with (go_at_call 37; fail)
  refine (Gu3.out.last).mono ?_
  rintro e w' ⟨rfl, rfl⟩
  go_wp2_with (go_at_call 26; fail)
  refine (Gu3.out.cut0 hKd (by omega)).mono ?_
  rintro e u4 ⟨rfl, t1⟩
  have Gu4 := Lib.hid t1
  clear t1 Gu3
  go_wp2_with (go_at_call 44; fail)
  refine (Gu4.out.add0 hKa (by omega)).mono ?_
  rintro e u5 ⟨rfl, t1⟩
  have Gu5 := Lib.hid t1
  clear t1 Gu4
  go_wp2_with (go_at_call 44; fail)
  refine (Gu5.out.add0 hKb (by omega)).mono ?_
  rintro e u6 ⟨rfl, t1⟩
  have Gu6 := Lib.hid t1
  clear t1 Gu5
  go_wp2_with (go_at_call 44; fail)
  refine (Gu6.out.add hKe0 (by omega)).mono ?_
  rintro e u7 ⟨rfl, t1⟩
  have Gu7 := Lib.hid t1
  have HTu7 := Lib.hid (told19_any 9 (-1) (.inl ⟨rfl, by decide, by decide⟩) u7 (HL.out.below (t1.below B2.out HQ3.out (Nat.le_refl _)) hge))
  clear t1 Gu6
  go_wp2_with (go_at_call 45; fail)
  refine HTu7.out.mono ?_
  rintro e u7t ⟨rfl, hb1⟩
  have Gu7t := Lib.hid (Gu7.out.read hb1)
  clear hb1 Gu7 HTu7
  go_wp2_with (go_at_call 44; fail)
  refine (Gu7t.out.add hKe1 (by omega)).mono ?_
  rintro e u8 ⟨rfl, t1⟩
  have Gu8 := Lib.hid t1
  have HTu8 := Lib.hid (told19_any 10 (-1) (.inl ⟨rfl, by decide, by decide⟩) u8 (HL.out.below (t1.below B2.out HQ3.out (Nat.le_refl _)) hge))
  clear t1 Gu7t
  go_wp2_with (go_at_call 45; fail)
  refine HTu8.out.mono ?_
  rintro e u8t ⟨rfl, hb1⟩
  have Gu8t := Lib.hid (Gu8.out.read hb1)
  clear hb1 Gu8 HTu8
  go_wp2_with (go_at_call 44; fail)
  refine (Gu8t.out.add hKe2 (by omega)).mono ?_
  rintro e u9 ⟨rfl, t1⟩
  have Gu9 := Lib.hid t1
  have HTu9 := Lib.hid (told19_any 1 (-1) (.inl ⟨rfl, by decide, by decide⟩) u9 (HL.out.below (t1.below B2.out HQ3.out (Nat.le_refl _)) hge))
  clear t1 Gu8t
  go_wp2_with (go_at_call 45; fail)
  refine HTu9.out.mono ?_
  rintro e u9t ⟨rfl, hb1⟩
  have Gu9t := Lib.hid (Gu9.out.read hb1)
  clear hb1 Gu9 HTu9
  obtain ⟨w0, hw0⟩ : ∃ w0, u9t.alloc (.cells #[.int .i64 0, .int .i64 4, .int .i64 1, .int .i64 2, .int .i64 3] 3) = w0 := ⟨_, rfl⟩
  have hb0 : Below u9t.heap.size u9t w0 := by rw [← hw0]; exact (Below.refl _ _).alloc (Nat.le_refl _) _
  have hi0 : IntsAt w0 (some ⟨u9t.heap.size, 0, none⟩) (natInts [0, 4, 1, 2, 3]) := by rw [← hw0]; exact ints_new u9t [0, 4, 1, 2, 3]
  have hsz0 : w0.heap.size ≤ u9t.heap.size + 1 ∧ u9t.heap.size + 1 ≤ w0.heap.size := by rw [← hw0]; simp
  obtain ⟨B, hB⟩ : ∃ B, u9t.heap.size = B := ⟨_, rfl⟩
  have hlt0 := Gu9t.out.lts
  have HNE := Lib.hid (show B ≠ q3 ∧ B ≠ q ∧ B ≠ g ∧ w.heap.size ≤ B by have := B2.out.size; omega)
  have BW0 := Lib.hid (B2.out.size)
  have G10 := Lib.hid (Gu9t.out.read hb0)
  rw [hB] at hi0
  have HI0 := Lib.hid hi0
  have HW0 := Lib.hid hw0
  have HBB := Lib.hid hB
  have hBlt : B < w0.heap.size := by omega
  clear hb0 hi0 hsz0 hw0 hlt0 hB Gu9t
  go_wp2_with (go_at_call 39; fail)
  rw [HW0.out, HBB.out]
  refine Calls.mono (by have h := G10.out.all; rw [hKl] at h; exact h.mono fun e W h => RetLi.of (n := 5) rfl h) ?_
  rintro e u11 ⟨A1, k1, rfl, hi1, hb1⟩
  have G11 := Lib.hid (G10.out.read hb1)
  have HI1 := Lib.hid hi1
  have HI2 := Lib.hid (HI0.out.below hb1 (Nat.le_refl _))
  have hs11 := hb1.size
  clear hi1 hb1 G10
  go_wp2_with (go_at_call 24; fail)
  refine (sameI_eq A1 (some ⟨B, 0, none⟩) _ _ 5 (natInts [0, 4, 1, 2, 3]) rfl (by decide) u11 HI1.out HI2.out).mono ?_
  rintro e u12 ⟨rfl, hb2⟩
  have G12 := Lib.hid (G11.out.read hb2).here
  have HI3 := Lib.hid (HI2.out.below hb2 (Nat.le_refl _))
  have B12 := Lib.hid (G11.out.below B2.out HQ3.out (Nat.le_refl _) |>.trans (hb2.mono (G11.out.below B2.out HQ3.out (Nat.le_refl _)).size))
  have hs12 := hb2.size
  have HCW := Lib.hid (show ∀ (k : Nat) (x : Int), [(0 : Int), 4, 1, 2, 3][k]? = some x → u12.cell? ⟨B, k, none⟩ = some (.int .i64 x) from fun k x hx => by
    obtain ⟨b1, o1, e1, _, h2⟩ := HI3.out (by decide)
    cases e1
    have h3 := h2 k x hx
    rwa [Nat.zero_add] at h3)
  have hB12 : B < u12.heap.size := by omega
  clear hb2 G11 HI1 HI2 HI0 HI3
  go_wp2
  go_loopw [9] (fun i wr => ∃ k : Nat, k ≤ 5 ∧ i = .int .i64 k ∧ GS (200 + 8 * k) u12 q3 q g (hKU k).1 (hKU k).2 hK2.2 wr) (fun i _ => 5 - (intOf i).toNat)
  case atStart => exact ⟨0, by omega, rfl, G12.out.mono (by omega)⟩
  case round =>
    obtain ⟨k, hk, rfl, hT⟩ := hrel
    have GR := Lib.hid hT
    clear hT
    by_cases hlt : k < 5
    · have hki : (k : Int) < 5 := by omega
      have hk0 : (0 : Int) ≤ (k : Int) := by omega
      obtain ⟨x, hx, hu⟩ := hKu k hlt
      have HX := Lib.hid hx
      have UN := Lib.hid (GR.out.unit hu (by omega))
      clear hu hx
      go_wp2_with (go_at_call 43; fail)
      refine UN.out.mono ?_
      rintro e u ⟨rfl, t1⟩
      have hcx : u.cell? ⟨B, k, none⟩ = some (.int .i64 x) := by
        exact (World.cell?_of_block (a := ⟨B, k, none⟩) (t1.tn.block B hB12 (by have := HNE.out; omega))).trans (HCW.out k x HX.out)
      have GU := Lib.hid t1
      clear t1
      go_wp2
      go_roundw
      case rel => exact ⟨k + 1, by omega, by go_num, GU.out.mono (by omega)⟩
      case measure => simp [intOf] <;> omega
    · obtain rfl : k = 5 := by omega
      go_wp2_with (go_at_call 43; fail)
      refine (GR.out.unit hKz (by omega)).mono ?_
      rintro e V0 ⟨rfl, t1⟩
      have GV := Lib.hid t1.here
      have BV0 := Lib.hid (t1.below B12.out HQ3.out (Nat.le_refl _))
      clear t1 GR
      obtain ⟨V, hV⟩ : ∃ V, V0.alloc (.cells #[.slice none 0 0] 46) = V := ⟨_, rfl⟩
      have hVs : V.heap.size ≤ V0.heap.size + 1 ∧ V0.heap.size + 1 ≤ V.heap.size := by rw [← hV]; simp
      have hbV : Below V0.heap.size V0 V := by rw [← hV]; exact (Below.refl _ _).alloc (Nat.le_refl _) _
      have bL : Boxed V V0.heap.size 46 (.slice none 0 0) := by rw [← hV]; exact Boxed.new V0 _ _
      have GVV := Lib.hid (GV.out.read hbV)
      have BL := Lib.hid bL
      have HV := Lib.hid hV
      have HBV := Lib.hid hbV
      clear hV hbV bL
      go_wp2_with (go_at_call 46; fail)
      rw [HV.out]
      refine GVV.out.frees.mono ?_
      rintro e V2 ⟨BF, rfl, hq, hb2⟩
      have hs2 := hb2.size
      have bL2 : Boxed V2 V0.heap.size 46 (.slice none 0 0) := (hb2.block V0.heap.size BL.out.lt).trans BL.out
      have HB2 := Lib.hid (HBV.out.trans (hb2.mono (by omega)))
      have HQ := Lib.hid (hq V0.heap.size)
      have HFL := Lib.hid (show (hKU 5).1.free.length ≤ 32 from Nat.le_of_eq hKf)
      clear hq hb2 HBV BL HV
      go_wp2
      refine wp_seqs rfl (enters_of Tryd.func76 (by kernel_rfl) rfl) HQ.out (by omega) (fun k hk => by omega) (Below.refl _ _) (fun _ => rfl)
        (fun pre W => ∃ v, Coll V2 V0.heap.size 46 (V2.heap.size + 2) 3 1 pre.length (intVs (natInts pre)) W v)
        (fun cd pre W => False)
        (Zone.coll (by omega) (by omega) (Nat.le_refl _) (fun pre => pre.length) (fun pre => intVs (natInts pre)))
        (fun cd => Zone.none)
        ⟨_, Coll.start bL2 _ _ _⟩ ?round2 ?done2 ?stop2
      case stop2 =>
        rintro cd pre W hpre hf hK
        exact hf.elim
      case round2 =>
        intro l2 pre i V0 hpre
        simp only [natV]
        gi_wp2
        refine ⟨by trivial, fun W1 hsz1 ⟨v, hC⟩ => ?_⟩
        have hc1 := hC.box.cell
        obtain ⟨Av, cp, rfl⟩ := owns_slice hC.row
        have hpl := hpre.length_le
        rw [List.length_append] at hpl
        have h1 : pre.length + (0 + 1) ≤ maxLen := by unfold maxLen; have := HFL.out; simp at hpl; omega
        have h2 : (pre.length + (0 + 1)) * 8 ≤ 140737488355328 := by have := HFL.out; simp at hpl; omega
        have H1 := Lib.hid h1
        have H2 := Lib.hid h2
        clear h1 h2 hpl
        gi_wp2_with (gi_at_builtin; refine wpListIn_append_new (v := .slice Av pre.length cp) rfl _ _ 46 rfl Tryd.underlying46 hi hz0 hz1 hz2 hz3 (by decide) rfl hC.row 0 rfl rfl (int_one _) H1.out H2.out hsz1 ?_; intro g' cap' w1 hown1 hgr1; obtain ⟨hv1, hC2, hk2⟩ := hC.step (by omega) (by omega) hsz1 hown1 hgr1; have hc2 := hv1.cell; have hf2 := hv1.frozen)
        exact ⟨hk2 _ _ _ _ _ (by omega) (by rintro ⟨h1, h2⟩; omega) (fun k hk => by rintro ⟨h1, h2⟩; omega) (by omega) (by omega), _, by rw [natInts_snoc, List.length_append]; exact hC2⟩
      case done2 =>
        rintro W1 ⟨v, hC⟩ hK1
        have hsz1 := hC.grown.size
        have hbW1 : Below V0.heap.size V0 W1 := HB2.out.trans (hC.below (by omega) (by omega))
        have GW := Lib.hid (GV.out.read hbW1)
        obtain ⟨Al, cl, rfl, hcl, hIl⟩ := owns_intsCap hC.row
        have hcap : 6 ≤ cl := by rw [hKf] at hcl; omega
        have hcapz : (6 : Int) ≤ (cl : Int) := by omega
        have c12 := hC.box.cell
        have IL := Lib.hid hIl
        have BW1 := Lib.hid (BV0.out.trans (hbW1.mono BV0.out.size))
        have hDlt := (Array.getElem?_eq_some_iff.1 hK1).1
        have HK1 := Lib.hid hK1
        have HSL := Lib.hid hsz1
        simp only [Act.put, List.setIfInBounds_toArray, List.set_cons_zero, List.set_cons_succ]
        rw [hKf] at c12
        clear hIl hK1 hC hbW1
        go_wp2_with (go_at_call 37; fail)
        refine GW.out.last.mono ?_
        rintro e w' ⟨rfl, rfl⟩
        obtain ⟨V5, hV5⟩ : ∃ V5, W1.alloc (.cells #[.int .i64 3, .int .i64 2, .int .i64 1, .int .i64 4, .int .i64 0, .int .i64 5] 3) = V5 := ⟨_, rfl⟩
        have hb5 : Below W1.heap.size W1 V5 := by rw [← hV5]; exact (Below.refl _ _).alloc (Nat.le_refl _) _
        have hi5 : IntsAt V5 (some ⟨W1.heap.size, 0, none⟩) (natInts [3, 2, 1, 4, 0, 5]) := by rw [← hV5]; exact ints_new W1 [3, 2, 1, 4, 0, 5]
        have hi6 : IntsAt V5 Al (natInts [3, 2, 1, 4, 0, 5]) := by
          have h := (IL.out.take 6).below hb5 (Nat.le_refl _)
          rwa [← natInts_take, hKt] at h
        have HQ5 := Lib.hid (fun c => sameI_eq Al (some ⟨W1.heap.size, 0, none⟩) cl c 6 (natInts [3, 2, 1, 4, 0, 5]) rfl (by decide) V5 hi6 hi5)
        have HB5 := Lib.hid hb5
        have HV5 := Lib.hid hV5
        clear hV5 hb5 hi5 hi6
        go_wp2_with (go_at_call 24; fail)
        rw [HV5.out]
        refine (HQ5.out _).mono ?_
        rintro e V6 ⟨rfl, hb6⟩
        have HB6 := Lib.hid (HB5.out.trans (hb6.mono HB5.out.size))
        have hK5 := (HB6.out.block _ hDlt).trans HK1.out
        have hs6 := HB6.out.size
        clear hb6
        go_wp2
        refine ⟨by simp, .inl ⟨_, _, rfl, run_takeDeferred hK5, ?_⟩⟩
        refine ⟨_, results_tmp rfl _ _ _, ?_⟩
        have hwV := BV0.out.size
        exact ⟨rfl, below_putObj (BW1.out.trans (HB6.out.mono BW1.out.size)) (by omega) _ (by omega)⟩
end Go.Proofs.YtbidgpeeogoglaaDoor
