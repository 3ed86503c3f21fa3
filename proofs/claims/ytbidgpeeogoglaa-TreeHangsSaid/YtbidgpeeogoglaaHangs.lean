/-
  lineagelaw17.TreeHangs.
-/
import Derived.Test.YtbidgpeeogoglaaKids
import Derived.Test.YtbidgpeeogoglaaHp
import Derived.Test.YtbidgpeeogoglaaIntArg
namespace Go.Proofs.Ytbidgpeeogoglaa
set_option maxRecDepth 100000
open Go.RowKit Go.Sort

theorem upsOf_at (ps : List Int) {k n : Nat} (h : k < n) : (upsOf ps n).getD k 0 = hungP ps k := by
  unfold upsOf
  rw [List.getD_eq_getElem?_getD, List.getElem?_map, List.getElem?_range h]
  rfl
theorem upsOf_get (ps : List Int) {k n : Nat} (h : k < n) : (upsOf ps n)[k]? = some (hungP ps k) := by
  unfold upsOf
  rw [List.getElem?_map, List.getElem?_range h]
  rfl
theorem IntsAt.tn {x : Nat → Prop} {w w' : World} {A : Option Addr} {xs : List Int} (h : IntsAt w A xs) (hT : Tn x w w') (hx : ∀ a, A = some a → ¬ x a.block) : IntsAt w' A xs := h.kept hT.size fun a e hlt => hT.block a.block hlt (hx a e)
/-- What the lists are, where this one is gone. -/
structure Seen (R : St) (l : Int) (ups : List Int) (g : Int) : Prop where
  roots : R.all l = kidsL ups (-1) g
  kids : ∀ i : Nat, i < ups.length → R.kidsOf i = kidsL ups i g
  under : ∀ i : Nat, i < ups.length → R.underOf i = undU ups g i
theorem Fo.seen {R : St} {l : Int} {ups : List Int} {g : Int} (F : Fo R l (fun p => kidsL ups p g)) (hU : Ups ups) (hn : ups.length ≤ 32) : Seen R l ups g :=
  ⟨F.all, fun i hi => F.kidsOf (by omega), fun i hi => F.underOf hU hn hi⟩
set_option maxHeartbeats 64000000 in
theorem treeHangs_any (ps : List Int) (N n : Nat) (hlen : ps.length = N) (hN : N ≤ maxLen) (hnm : n = min N 32) (A : Option Addr) (cA : Nat) (which : Int) (w : World) (hin : IntsAt w A ps) :
    Calls Try.prog 3 #[.slice A N cA, .int .i64 which] w (RetB (.bool true) w) := by
  obtain ⟨ii, iz, hi0, hz0, hz1, hz2, hz3⟩ := intInfo
  have hN1 : (N : Int) ≤ 9223372036854775807 := by unfold maxLen at hN; omega
  have hn : n ≤ 32 := by omega
  have hnN : n ≤ N := by omega
  have hmin : (if (32 : Int) < (N : Int) then (32 : Int) else (N : Int)) = (n : Int) := by split <;> omega
  have HIN := Lib.hid hin
  have HLEN := Lib.hid hlen
  have hneq := nil_neq
  have hneql := nil_eql
  clear hin hlen hN hnm
  go_enter Try.func3, Try.ntmps3
  go_wp2_with (go_at_call 5; fail)
  refine (works17_any w).mono ?_
  rintro e w1 ⟨rfl, hb1⟩
  have HB1 := Lib.hid hb1
  have hs1 := hb1.size
  clear hb1
  go_wp2_with (go_at_call 6; fail)
  refine (tusedN_any n hn w1).mono ?_
  rintro e w2 ⟨g, q, rfl, hT, hg, hq, hb⟩
  have hs2 := hb.size
  have hwr0 := usedS_writes n
  have T0 := Lib.hid (show TS 32 w2 q g (usedS n) (-1) w2 from ⟨_, hT, usedS_agree n (usedS_gr n hn).fo.len, by omega, by omega⟩)
  obtain ⟨n0, hn0⟩ : ∃ n0, w2.heap.size = n0 := ⟨_, rfl⟩
  have HB2 := Lib.hid (HB1.out.trans (hb.mono hs1))
  have hlts := T0.out.lts
  have HQ := Lib.hid (show w.heap.size ≤ g ∧ w.heap.size ≤ q ∧ q < n0 ∧ g < n0 ∧ n0 ≤ w2.heap.size by omega)
  clear hT hg hq hb HB1 hs1 hs2 hlts hn0 hwr0
  go_wp2
  go_loopw [9, 10] (fun v i wr => ∃ k : Nat, k ≤ n ∧ i = .int .i64 k ∧ TS (32 + 5 * k) wr q g (trR ps n k).1 (trR ps n k).2 wr ∧ wr.ownsRow n0 3 1 v k (intVs (upsOf ps k)) ∧ Below w.heap.size w wr ∧ n0 ≤ wr.heap.size) (fun _ i _ => n - (intOf i).toNat)
  case atStart => exact ⟨0, Nat.zero_le _, rfl, T0.out, World.ownsRow_nil _ _ _ _, HB2.out, HQ.out.2.2.2.2⟩
  case round =>
    obtain ⟨k, hk, rfl, hT, hrow, hb, hnw⟩ := hrel
    obtain ⟨Av, cv, rfl⟩ := owns_slice hrow
    have TR := Lib.hid hT
    have HROW := Lib.hid hrow
    have HB := Lib.hid hb
    clear hT hrow hb T0 HB2
    by_cases hlt : k < n
    · have hki : (k : Int) < (n : Int) := by omega
      have hkN : (k : Int) < (N : Int) := by omega
      have hk0 : (0 : Int) ≤ (k : Int) := by omega
      have hk32 : (k : Int) < 32 := by omega
      obtain ⟨x, hx⟩ : ∃ x, ps[k]? = some x := ⟨_, List.getElem?_eq_getElem (by rw [HLEN.out]; omega)⟩
      obtain ⟨ab, ao, rfl, hal, hac⟩ := HIN.out (by rw [HLEN.out]; omega)
      have hcx := (HB.out.cell (p := ⟨ab, ao + k, none⟩) hal).trans (hac k x hx)
      have hP : hungP ps k = pickZ x ((k : Int) + 1) - 1 := by unfold hungP; rw [getD_at hx]
      have HPK := Lib.hid (fun w => show Calls Try.prog 7 #[.int .i64 x, .int .i64 ((k : Int) + 1)] w (RetSame (.int .i64 (pickZ x ((k : Int) + 1))) w) from by
        have h := pick_any x (k + 1) (by omega) (by omega) w
        rwa [show ((k + 1 : Nat) : Int) = (k : Int) + 1 by omega] at h)
      have hpr : 0 ≤ pickZ x ((k : Int) + 1) ∧ pickZ x ((k : Int) + 1) < (k : Int) + 1 := by
        unfold pickZ
        exact ⟨Int.emod_nonneg _ (by omega), Int.emod_lt_of_pos _ (by omega)⟩
      generalize hpz : pickZ x ((k : Int) + 1) = pz at *
      have hwr : IntKind.i64.wrap (pz - 1) = pz - 1 := IntWalk.i64_in _ (by omega)
      have HADD := Lib.hid (trR_ok ps hn hlt)
      have HP := Lib.hid hP
      have HSN := Lib.hid (upsOf_snoc ps k)
      have hpz2 := hpr.2
      have hpz0 := hpr.1
      have H63 := Lib.hid (show k + 1 ≤ maxLen by unfold maxLen; omega)
      have HBY := Lib.hid (show (k + 1) * 8 ≤ 140737488355328 by omega)
      clear hx hac hal hP hpz hpr
      have T2 := Lib.hid TR.out
      have R2 := Lib.hid HROW.out
      have Y2 := Lib.hid HB.out
      obtain ⟨B, hB⟩ : ∃ B, wr.heap.size = B := ⟨_, rfl⟩
      obtain ⟨u3, hu3⟩ : ∃ u3, wr.alloc (.cells #[.int .i64 0, .int .i64 0] 30) = u3 := ⟨_, rfl⟩
      have hb3 : Below wr.heap.size wr u3 := by rw [← hu3]; exact (Below.refl _ _).alloc (Nat.le_refl _) _
      have hs3 := hb3.size
      have BK3 := Lib.hid (show Blk u3 B 30 #[.int .i64 0, .int .i64 0] by rw [← hu3, ← hB]; exact Blk.new _ _ _)
      have hlts := T2.out.lts
      have HNE := Lib.hid (show B ≠ q ∧ B ≠ g ∧ wr.heap.size ≤ B ∧ w.heap.size ≤ B by have := Y2.out.size; omega)
      have HAV := Lib.hid (show ∀ av, Av = some av → av.block < B from fun av e => by
        have h7 := (R2.out.lt av.block (by rw [e]; rfl)).2; omega)
      have T3 := Lib.hid (T2.out.read hb3)
      have R3 := Lib.hid (R2.out.kept (grownBy_below hb3 none) (by cases Av <;> simp [Value.ownBlock]))
      have Y3 := Lib.hid (Y2.out.trans (hb3.mono Y2.out.size))
      have HU3 := Lib.hid hu3
      have HBB := Lib.hid hB
      clear hu3 hb3 hB hlts T2 R2 Y2 TR HROW HB
      by_cases hpos : 0 ≤ pz - 1
      · have hU : hungU (pz - 1) = pz - 1 := if_pos hpos
        have hBv : hungB (pz - 1) = pz := by unfold hungB; rw [if_pos hpos]; omega
        have HUV := Lib.hid (And.intro hU hBv)
        have hp1 : pz - 1 + 1 = pz := by omega
        have d0 : u3.cell? ⟨B, 0, none⟩ = some (.int .i64 0) := (BK3.out.cell 0).trans rfl
        have d1 : u3.cell? ⟨B, 1, none⟩ = some (.int .i64 0) := (BK3.out.cell 1).trans rfl
        obtain ⟨u4, hu4⟩ : ∃ u4, u3.setRow B #[.int .i64 (pz - 1), .int .i64 pz] = u4 := ⟨_, rfl⟩
        have hg4 : u3.grownBy u4 (some B) := hu4 ▸ grownBy_setRow u3 B _
        have BK4 := Lib.hid (show Blk u4 B 30 #[.int .i64 (pz - 1), .int .i64 pz] by rw [← hu4]; exact BK3.out.setRow_same _)
        have T4 := Lib.hid (TS.grown T3.out.here hg4 (by have := HNE.out; omega))
        have R4 := Lib.hid (R3.out.kept hg4 (by rcases Av with _ | av
                                                · simp [Value.ownBlock]
                                                · have h7 := HAV.out av rfl
                                                  exact .inr (fun e => by simp [Value.ownBlock] at e; omega)))
        have Y4 := Lib.hid (Y3.out.grown hg4 Y3.out.size (fun j e => by cases e; have := HNE.out; omega))
        have HU4 := Lib.hid hu4
        have e0 : u4.cell? ⟨B, 0, none⟩ = some (.int .i64 (pz - 1)) := (BK4.out.cell 0).trans rfl
        have e1 : u4.cell? ⟨B, 1, none⟩ = some (.int .i64 pz) := (BK4.out.cell 1).trans rfl
        have hs4 := hg4.size
        clear hU hBv hu4 hg4
        go_wp2_with (first
          | ((with_reducible show wpList _ _ _ (Oper.mk none _ _ _ _ _ :: _) _ (World.alloc _ _)); refine wpList_store_new (ty := 30) rfl rfl rfl rfl rfl (link_one 0 0) linkInfo ?_; rw [HU3.out, HBB.out])
          | (go_at_call 7; refine (HPK.out _).mono ?_; rintro e w' ⟨rfl, rfl⟩)
          | ((with_reducible show wpList _ _ _ (Oper.mk none _ _ _ _ _ :: _) _ u3); refine wpList_store_all (ty := 30) rfl rfl rfl rfl BK3.out rfl (link_one _ _) linkInfo ?_; rw [HU4.out])
          | (go_at_call 8; fail))
        have AD := Lib.hid (T4.out.here.add0 (i := (k : Int)) (us := (pz - 1)) (ub := pz) (R' := (trR ps n (k + 1)).1) (l' := (trR ps n (k + 1)).2) (at_ := -1) (by
          have h1 := HADD.out
          rw [HP.out, HUV.out.1, HUV.out.2] at h1
          exact h1) (by omega))
        refine AD.out.mono ?_
        rintro e u5 ⟨rfl, t5⟩
        have hT5 := t5.keep
        have R5 := Lib.hid (owns_tn hT5 R4.out (fun j hj => by have := HQ.out; omega))
        have Y5 := Lib.hid (Y4.out.trans (hT5.below (fun j hj => by have := HQ.out; omega) Y4.out.size))
        have hs5 := hT5.size
        have T5 := Lib.hid t5.here
        have hn5 : n0 ≤ u5.heap.size := by omega
        obtain ⟨vv, hvv⟩ : ∃ vv, Value.slice Av k cv = vv := ⟨_, rfl⟩
        have HVV := Lib.hid hvv
        rw [hvv] at R5
        clear hvv t5 hT5 AD T4 R4 Y4 d0 d1
        go_wp2_with (first
          | (refine wpList_append_one_lies rfl _ _ 22 rfl Try.underlying22 hi0 hz0 hz1 hz2 hz3 (by decide) (v := vv) HVV.out R5.out rfl rfl (int_one _) H63.out HBY.out hn5 ?_; intro g1 cap1 u6 hown1 hgr1 hlie1))
        have hs6 := hgr1.size
        have T6 := Lib.hid (TS.grown' T5.out hgr1 (fun j e => by have h7 := R5.out.lt j e.symm; have := HQ.out; omega))
        have Y6 := Lib.hid (Y5.out.grown hgr1 Y5.out.size (fun j e => by have h7 := R5.out.lt j e; have := HQ.out; omega))
        have R6 := Lib.hid (show u6.ownsRow n0 3 1 (.slice (some ⟨g1, 0, none⟩) (k + 1) cap1) (k + 1) (intVs (upsOf ps (k + 1))) by rw [HSN.out, HP.out]; simpa [intVs] using hown1)
        clear hown1 hgr1 hlie1 T5 R5 Y5
        go_roundw
        case rel => exact ⟨k + 1, by omega, by go_num, T6.out.mono (by omega), R6.out, Y6.out, by omega⟩
        case measure => simp [intOf] <;> omega
      · have hU : hungU (pz - 1) = 0 := if_neg hpos
        have hBv : hungB (pz - 1) = 0 := if_neg hpos
        have HUV := Lib.hid (And.intro hU hBv)
        have BK4 := Lib.hid BK3.out
        have T4 := Lib.hid T3.out
        have R4 := Lib.hid R3.out
        have Y4 := Lib.hid Y3.out
        have d0 : u3.cell? ⟨B, 0, none⟩ = some (.int .i64 0) := (BK3.out.cell 0).trans rfl
        have d1 : u3.cell? ⟨B, 1, none⟩ = some (.int .i64 0) := (BK3.out.cell 1).trans rfl
        clear hU hBv
        go_wp2_with (first
          | ((with_reducible show wpList _ _ _ (Oper.mk none _ _ _ _ _ :: _) _ (World.alloc _ _)); refine wpList_store_new (ty := 30) rfl rfl rfl rfl rfl (link_one 0 0) linkInfo ?_; rw [HU3.out, HBB.out])
          | (go_at_call 7; refine (HPK.out _).mono ?_; rintro e w' ⟨rfl, rfl⟩)
          | (go_at_call 8; fail))
        have AD := Lib.hid (T4.out.here.add0 (i := (k : Int)) (us := 0) (ub := 0) (R' := (trR ps n (k + 1)).1) (l' := (trR ps n (k + 1)).2) (at_ := -1) (by
          have h1 := HADD.out
          rw [HP.out, HUV.out.1, HUV.out.2] at h1
          exact h1) (by omega))
        refine AD.out.mono ?_
        rintro e u5 ⟨rfl, t5⟩
        have hT5 := t5.keep
        have R5 := Lib.hid (owns_tn hT5 R4.out (fun j hj => by have := HQ.out; omega))
        have Y5 := Lib.hid (Y4.out.trans (hT5.below (fun j hj => by have := HQ.out; omega) Y4.out.size))
        have hs5 := hT5.size
        have T5 := Lib.hid t5.here
        have hn5 : n0 ≤ u5.heap.size := by omega
        obtain ⟨vv, hvv⟩ : ∃ vv, Value.slice Av k cv = vv := ⟨_, rfl⟩
        have HVV := Lib.hid hvv
        rw [hvv] at R5
        clear hvv t5 hT5 AD T4 R4 Y4 d0 d1
        go_wp2_with (first
          | (refine wpList_append_one_lies rfl _ _ 22 rfl Try.underlying22 hi0 hz0 hz1 hz2 hz3 (by decide) (v := vv) HVV.out R5.out rfl rfl (int_one _) H63.out HBY.out hn5 ?_; intro g1 cap1 u6 hown1 hgr1 hlie1))
        have hs6 := hgr1.size
        have T6 := Lib.hid (TS.grown' T5.out hgr1 (fun j e => by have h7 := R5.out.lt j e.symm; have := HQ.out; omega))
        have Y6 := Lib.hid (Y5.out.grown hgr1 Y5.out.size (fun j e => by have h7 := R5.out.lt j e; have := HQ.out; omega))
        have R6 := Lib.hid (show u6.ownsRow n0 3 1 (.slice (some ⟨g1, 0, none⟩) (k + 1) cap1) (k + 1) (intVs (upsOf ps (k + 1))) by rw [HSN.out, HP.out]; simpa [intVs] using hown1)
        clear hown1 hgr1 hlie1 T5 R5 Y5
        go_roundw
        case rel => exact ⟨k + 1, by omega, by go_num, T6.out.mono (by omega), R6.out, Y6.out, by omega⟩
        case measure => simp [intOf] <;> omega
    · obtain rfl : k = n := by omega
      have hka : ¬ ((k : Int) < (k : Int)) := by omega
      by_cases hz : k = 0
      · subst hz
        have HA := Lib.hid (show (trR ps 0 0).1.all (trR ps 0 0).2 = [] from (trR_gr ps hn 0 (Nat.le_refl _)).fo.all)
        go_wp2_with (go_at_call 9; fail)
        refine (TR.out.list0 0 HA.out rfl).mono ?_
        rintro e v1 ⟨A1, k1, rfl, hi1, hb1⟩
        have T1 := Lib.hid (TR.out.read hb1)
        have Y1 := Lib.hid (HB.out.trans (hb1.mono HB.out.size))
        clear hi1 hb1
        go_wp2_with (go_at_call 10; fail)
        refine T1.out.last.mono ?_
        rintro e w' ⟨rfl, rfl⟩
        rw [show (trR ps 0 0).2 = -1 from rfl]
        go_wp2
        go_ret
        exact ⟨rfl, Y1.out⟩
      · have hk1 : (k : Int) ≠ 0 := by omega
        have hk1' : ¬ ((k : Int) = 0) := hk1
        have hk32 : (k : Int) ≤ 32 := by omega
        obtain ⟨c, hc, hck⟩ : ∃ c : Nat, pickZ which k = c ∧ c < k := by
          have h1 := Int.emod_nonneg which (show (k : Int) ≠ 0 by omega)
          have h2 := Int.emod_lt_of_pos which (show (0 : Int) < (k : Int) by omega)
          exact ⟨(which % (k : Int)).toNat, by unfold pickZ; omega, by omega⟩
        have HPW := Lib.hid (pick_any which k (by omega) (by omega) wr)
        rw [hc] at HPW
        have hcl : c < (upsOf ps k).length := by rw [upsOf_len]; exact hck
        obtain ⟨R1, l1, hcut, hF1, hU1, hat1, _, _⟩ := (trR_gr ps hn k (Nat.le_refl _)).cut hn (by rw [upsOf_len]; exact Nat.le_refl _) hcl
        have HCUT := Lib.hid hcut
        have HF1 := Lib.hid hF1
        have HU1' := Lib.hid hU1
        have HCL := Lib.hid hcl
        have SE0 := Lib.hid ((trR_gr ps hn k (Nat.le_refl _)).fo.seen (trR_gr ps hn k (Nat.le_refl _)).ok (by rw [upsOf_len]; exact hn))
        have SE1 := Lib.hid (hF1.seen (trR_gr ps hn k (Nat.le_refl _)).ok (by rw [upsOf_len]; exact hn))
        have HAV := Lib.hid (show ∀ a, Av = some a → n0 ≤ a.block ∧ a.block < wr.heap.size from fun a e => HROW.out.lt a.block (by rw [e]; rfl))
        have HI0 := Lib.hid (show IntsAt wr Av (upsOf ps k) by
          obtain ⟨A', c', e, h⟩ := owns_intsAt HROW.out
          cases e; exact h)
        clear hcut hF1 hU1 hat1 hcl hc HROW
        go_wp2_with (go_at_call 7; fail)
        refine HPW.out.mono ?_
        rintro e w' ⟨rfl, rfl⟩
        go_wp2
        go_loopw [14] (fun j u => ∃ r : Nat, r ≤ 2 ∧ j = .int .i64 r ∧ TS (400 + 5 * r) u q g (if r = 2 then R1 else (trR ps k k).1) (if r = 2 then l1 else (trR ps k k).2) u ∧ IntsAt u Av (upsOf ps k) ∧ Below w.heap.size w u) (fun j _ => 2 - (intOf j).toNat)
        case atStart => exact ⟨0, by omega, rfl, TR.out.mono (by omega), HI0.out, HB.out⟩
        case round =>
          obtain ⟨r, hr, rfl, hT, hI, hB⟩ := hrel
          obtain ⟨u, hu⟩ : ∃ u, u = wr := ⟨_, rfl⟩
          subst hu
          have HT := Lib.hid hT
          have HI := Lib.hid hI
          have Y := Lib.hid hB
          clear hT hI hB TR HB HI0
          by_cases hr0 : r = 0
          · subst hr0
            have T := Lib.hid (show TS 400 u q g (trR ps k k).1 (trR ps k k).2 u from HT.out)
            go_wp2_with (go_at_call 9; fail)
            obtain ⟨m, hm⟩ : ∃ m, (kidsL (upsOf ps k) (-1) (-1)).length = m := ⟨_, rfl⟩
            have HM := Lib.hid hm
            refine (T.out.list0 0 SE0.out.roots hm).mono ?_
            rintro e v1 ⟨A1, k1, rfl, hi1, hb1⟩
            have HI1 := Lib.hid hi1
            have HU1 := Lib.hid (HI.out.below hb1 (Nat.le_refl _))
            have BA := Lib.hid hb1
            clear hm hi1 hb1
            go_wp2_with (go_at_call 13; fail)
            refine (kids_any (upsOf ps k) k (upsOf_len ps k) hn Av cv (-1) (-1) v1 HU1.out).mono ?_
            rintro e v2 ⟨x2, rfl, ho2, hb2⟩
            rw [natInts_len, HM.out] at ho2
            obtain ⟨A2, c2, rfl, hi2⟩ := owns_intsAt ho2
            have HI2 := Lib.hid hi2
            have HI1' := Lib.hid (HI1.out.below hb2 (Nat.le_refl _))
            have BB := Lib.hid (BA.out.trans (hb2.mono BA.out.size))
            have hm32 : m ≤ 32 := by rw [← HM.out]; exact Nat.le_trans (kidsL_len _ _ _) (by rw [upsOf_len]; exact hn)
            clear ho2 hb2 hi2
            go_wp2_with (go_at_call 12; fail)
            refine (sameI_eq A1 A2 k1 c2 m (natInts (kidsL (upsOf ps k) (-1) (-1))) (by rw [natInts_len]; exact HM.out) (by omega) v2 HI1'.out HI2.out).mono ?_
            rintro e v3 ⟨rfl, hb3⟩
            have BC := Lib.hid (BB.out.trans (hb3.mono BB.out.size))
            clear hb3 HI1 HI1' HI2 BA BB HU1
            go_wp2
            go_loopw [16] (fun j wz => ∃ i : Nat, i ≤ k ∧ j = .int .i64 i ∧ Below u.heap.size u wz) (fun j _ => k - (intOf j).toNat)
            case atStart => exact ⟨0, Nat.zero_le _, rfl, BC.out⟩
            case round =>
              obtain ⟨i, hi, rfl, hbz⟩ := hrel
              obtain ⟨wz, hwz⟩ : ∃ wz, wz = wr := ⟨_, rfl⟩
              subst hwz
              have HBZ := Lib.hid hbz
              clear hbz
              by_cases hlt2 : i < k
              · have hii : (i : Int) < (k : Int) := by omega
                have hi0' : (0 : Int) ≤ (i : Int) := by omega
                have HIL := Lib.hid (show i < (upsOf ps k).length by rw [upsOf_len]; exact hlt2)
                have TZ := Lib.hid (T.out.read HBZ.out)
                have HZ := Lib.hid (HI.out.below HBZ.out (Nat.le_refl _))
                obtain ⟨m1, hm1⟩ : ∃ m, (kidsL (upsOf ps k) i (-1)).length = m := ⟨_, rfl⟩
                have HM1 := Lib.hid hm1
                go_wp2_with (go_at_call 9; fail)
                refine (TZ.out.list1 i (SE0.out.kids i HIL.out) hm1).mono ?_
                rintro e v1 ⟨A1, k1, rfl, hi1, hb1⟩
                have HI1 := Lib.hid hi1
                have HU1 := Lib.hid (HZ.out.below hb1 (Nat.le_refl _))
                have BA := Lib.hid (HBZ.out.trans (hb1.mono HBZ.out.size))
                clear hm1 hi1 hb1
                go_wp2_with (go_at_call 13; fail)
                refine (kids_any (upsOf ps k) k (upsOf_len ps k) hn Av cv i (-1) v1 HU1.out).mono ?_
                rintro e v2 ⟨x2, rfl, ho2, hb2⟩
                rw [natInts_len, HM1.out] at ho2
                obtain ⟨A2, c2, rfl, hi2⟩ := owns_intsAt ho2
                have HI2 := Lib.hid hi2
                have HI1' := Lib.hid (HI1.out.below hb2 (Nat.le_refl _))
                have HU2 := Lib.hid (HU1.out.below hb2 (Nat.le_refl _))
                have BB := Lib.hid (BA.out.trans (hb2.mono BA.out.size))
                have hm132 : m1 ≤ 32 := by rw [← HM1.out]; exact Nat.le_trans (kidsL_len _ _ _) (by rw [upsOf_len]; exact hn)
                clear ho2 hb2 hi2
                go_wp2_with (go_at_call 12; fail)
                refine (sameI_eq A1 A2 k1 c2 m1 (natInts (kidsL (upsOf ps k) i (-1))) (by rw [natInts_len]; exact HM1.out) (by omega) v2 HI1'.out HI2.out).mono ?_
                rintro e v3 ⟨rfl, hb3⟩
                have HU3 := Lib.hid (HU2.out.below hb3 (Nat.le_refl _))
                have BC2 := Lib.hid (BB.out.trans (hb3.mono BB.out.size))
                have T3 := Lib.hid (T.out.read BC2.out)
                clear hb3 HI1 HI1' HI2 BA BB HU1 HU2
                obtain ⟨m2, hm2⟩ : ∃ m, (undU (upsOf ps k) (-1) i).length = m := ⟨_, rfl⟩
                have HM2 := Lib.hid hm2
                have hul := (undU_len (trR_gr ps hn k (Nat.le_refl _)).ok (by rw [upsOf_len]; exact hn) (g := (-1)) HIL.out).1
                rw [hm2] at hul
                go_wp2_with (go_at_call 9; fail)
                refine (T3.out.list2 i (SE0.out.under i HIL.out) hm2).mono ?_
                rintro e v4 ⟨A4, k4, rfl, hi4, hb4⟩
                have HI4 := Lib.hid hi4
                have HU4 := Lib.hid (HU3.out.below hb4 (Nat.le_refl _))
                have BD := Lib.hid (BC2.out.trans (hb4.mono BC2.out.size))
                clear hm2 hi4 hb4
                go_wp2_with (go_at_call 14; fail)
                refine (under17_any (upsOf ps k) (trR_gr ps hn k (Nat.le_refl _)).ok k (upsOf_len ps k) hn cv (-1) 32 i hlt2 (by omega) Av v4 HU4.out).mono ?_
                rintro e v5 ⟨x5, rfl, ho5, hb5⟩
                rw [natInts_len, HM2.out] at ho5
                obtain ⟨A5, c5, rfl, hi5⟩ := owns_intsAt ho5
                have HI5 := Lib.hid hi5
                have HI4' := Lib.hid (HI4.out.below hb5 (Nat.le_refl _))
                have BE := Lib.hid (BD.out.trans (hb5.mono BD.out.size))
                clear ho5 hb5 hi5
                go_wp2_with (go_at_call 12; fail)
                refine (sameI_eq A4 A5 k4 c5 m2 (natInts (undU (upsOf ps k) (-1) i)) (by rw [natInts_len]; exact HM2.out) (by omega) v5 HI4'.out HI5.out).mono ?_
                rintro e v6 ⟨rfl, hb6⟩
                have BF := Lib.hid (BE.out.trans (hb6.mono BE.out.size))
                clear hb6
                go_wp2
                go_roundw
                case rel => exact ⟨i + 1, by omega, by go_num, BF.out⟩
                case measure => simp [intOf] <;> omega
              · obtain rfl : i = k := by omega
                have hka2 : ¬ ((i : Int) < (i : Int)) := by omega
                have TZ := Lib.hid (T.out.read HBZ.out).here
                have HZ := Lib.hid (HI.out.below HBZ.out (Nat.le_refl _))
                have YZ := Lib.hid (Y.out.trans (HBZ.out.mono Y.out.size))
                have hsz := HBZ.out.size
                go_wp2
                go_roundw
                case rel => exact ⟨1, by omega, by go_num, TZ.out.mono (by omega), HZ.out, YZ.out⟩
                case measure => simp [intOf] <;> omega
          · by_cases hr1 : r = 1
            · subst hr1
              have T := Lib.hid (show TS 405 u q g (trR ps k k).1 (trR ps k k).2 u from HT.out)
              go_wp2_with (go_at_call 11; fail)
              refine (T.out.cut0 HCUT.out (by omega)).mono ?_
              rintro e u1 ⟨rfl, t1⟩
              have hk1 := t1.keep
              have HI' := Lib.hid (HI.out.tn hk1 (fun a e => by have := (HAV.out a e).1; have := HQ.out; omega))
              have Y' := Lib.hid (Y.out.trans (hk1.below (fun j hj => by have := HQ.out; omega) Y.out.size))
              have hsz' := hk1.size
              have T' := Lib.hid t1.here
              clear t1 hk1 T HI Y HT
              have T := Lib.hid T'.out
              have HI := Lib.hid HI'.out
              have Y := Lib.hid Y'.out
              clear T' HI' Y'
              go_wp2_with (go_at_call 9; fail)
              obtain ⟨m, hm⟩ : ∃ m, (kidsL (upsOf ps k) (-1) (c : Int)).length = m := ⟨_, rfl⟩
              have HM := Lib.hid hm
              refine (T.out.list0 0 SE1.out.roots hm).mono ?_
              rintro e v1 ⟨A1, k1, rfl, hi1, hb1⟩
              have HI1 := Lib.hid hi1
              have HU1 := Lib.hid (HI.out.below hb1 (Nat.le_refl _))
              have BA := Lib.hid hb1
              clear hm hi1 hb1
              go_wp2_with (go_at_call 13; fail)
              refine (kids_any (upsOf ps k) k (upsOf_len ps k) hn Av cv (-1) (c : Int) v1 HU1.out).mono ?_
              rintro e v2 ⟨x2, rfl, ho2, hb2⟩
              rw [natInts_len, HM.out] at ho2
              obtain ⟨A2, c2, rfl, hi2⟩ := owns_intsAt ho2
              have HI2 := Lib.hid hi2
              have HI1' := Lib.hid (HI1.out.below hb2 (Nat.le_refl _))
              have BB := Lib.hid (BA.out.trans (hb2.mono BA.out.size))
              have hm32 : m ≤ 32 := by rw [← HM.out]; exact Nat.le_trans (kidsL_len _ _ _) (by rw [upsOf_len]; exact hn)
              clear ho2 hb2 hi2
              go_wp2_with (go_at_call 12; fail)
              refine (sameI_eq A1 A2 k1 c2 m (natInts (kidsL (upsOf ps k) (-1) (c : Int))) (by rw [natInts_len]; exact HM.out) (by omega) v2 HI1'.out HI2.out).mono ?_
              rintro e v3 ⟨rfl, hb3⟩
              have BC := Lib.hid (BB.out.trans (hb3.mono BB.out.size))
              clear hb3 HI1 HI1' HI2 BA BB HU1
              go_wp2
              go_loopw [16] (fun j wz => ∃ i : Nat, i ≤ k ∧ j = .int .i64 i ∧ Below u1.heap.size u1 wz) (fun j _ => k - (intOf j).toNat)
              case atStart => exact ⟨0, Nat.zero_le _, rfl, BC.out⟩
              case round =>
                obtain ⟨i, hi, rfl, hbz⟩ := hrel
                obtain ⟨wz, hwz⟩ : ∃ wz, wz = wr := ⟨_, rfl⟩
                subst hwz
                have HBZ := Lib.hid hbz
                clear hbz
                by_cases hlt2 : i < k
                · have hii : (i : Int) < (k : Int) := by omega
                  have hi0' : (0 : Int) ≤ (i : Int) := by omega
                  have HIL := Lib.hid (show i < (upsOf ps k).length by rw [upsOf_len]; exact hlt2)
                  have TZ := Lib.hid (T.out.read HBZ.out)
                  have HZ := Lib.hid (HI.out.below HBZ.out (Nat.le_refl _))
                  obtain ⟨m1, hm1⟩ : ∃ m, (kidsL (upsOf ps k) i (c : Int)).length = m := ⟨_, rfl⟩
                  have HM1 := Lib.hid hm1
                  go_wp2_with (go_at_call 9; fail)
                  refine (TZ.out.list1 i (SE1.out.kids i HIL.out) hm1).mono ?_
                  rintro e v1 ⟨A1, k1, rfl, hi1, hb1⟩
                  have HI1 := Lib.hid hi1
                  have HU1 := Lib.hid (HZ.out.below hb1 (Nat.le_refl _))
                  have BA := Lib.hid (HBZ.out.trans (hb1.mono HBZ.out.size))
                  clear hm1 hi1 hb1
                  go_wp2_with (go_at_call 13; fail)
                  refine (kids_any (upsOf ps k) k (upsOf_len ps k) hn Av cv i (c : Int) v1 HU1.out).mono ?_
                  rintro e v2 ⟨x2, rfl, ho2, hb2⟩
                  rw [natInts_len, HM1.out] at ho2
                  obtain ⟨A2, c2, rfl, hi2⟩ := owns_intsAt ho2
                  have HI2 := Lib.hid hi2
                  have HI1' := Lib.hid (HI1.out.below hb2 (Nat.le_refl _))
                  have HU2 := Lib.hid (HU1.out.below hb2 (Nat.le_refl _))
                  have BB := Lib.hid (BA.out.trans (hb2.mono BA.out.size))
                  have hm132 : m1 ≤ 32 := by rw [← HM1.out]; exact Nat.le_trans (kidsL_len _ _ _) (by rw [upsOf_len]; exact hn)
                  clear ho2 hb2 hi2
                  go_wp2_with (go_at_call 12; fail)
                  refine (sameI_eq A1 A2 k1 c2 m1 (natInts (kidsL (upsOf ps k) i (c : Int))) (by rw [natInts_len]; exact HM1.out) (by omega) v2 HI1'.out HI2.out).mono ?_
                  rintro e v3 ⟨rfl, hb3⟩
                  have HU3 := Lib.hid (HU2.out.below hb3 (Nat.le_refl _))
                  have BC2 := Lib.hid (BB.out.trans (hb3.mono BB.out.size))
                  have T3 := Lib.hid (T.out.read BC2.out)
                  clear hb3 HI1 HI1' HI2 BA BB HU1 HU2
                  obtain ⟨m2, hm2⟩ : ∃ m, (undU (upsOf ps k) (c : Int) i).length = m := ⟨_, rfl⟩
                  have HM2 := Lib.hid hm2
                  have hul := (undU_len (trR_gr ps hn k (Nat.le_refl _)).ok (by rw [upsOf_len]; exact hn) (g := (c : Int)) HIL.out).1
                  rw [hm2] at hul
                  go_wp2_with (go_at_call 9; fail)
                  refine (T3.out.list2 i (SE1.out.under i HIL.out) hm2).mono ?_
                  rintro e v4 ⟨A4, k4, rfl, hi4, hb4⟩
                  have HI4 := Lib.hid hi4
                  have HU4 := Lib.hid (HU3.out.below hb4 (Nat.le_refl _))
                  have BD := Lib.hid (BC2.out.trans (hb4.mono BC2.out.size))
                  clear hm2 hi4 hb4
                  go_wp2_with (go_at_call 14; fail)
                  refine (under17_any (upsOf ps k) (trR_gr ps hn k (Nat.le_refl _)).ok k (upsOf_len ps k) hn cv (c : Int) 32 i hlt2 (by omega) Av v4 HU4.out).mono ?_
                  rintro e v5 ⟨x5, rfl, ho5, hb5⟩
                  rw [natInts_len, HM2.out] at ho5
                  obtain ⟨A5, c5, rfl, hi5⟩ := owns_intsAt ho5
                  have HI5 := Lib.hid hi5
                  have HI4' := Lib.hid (HI4.out.below hb5 (Nat.le_refl _))
                  have BE := Lib.hid (BD.out.trans (hb5.mono BD.out.size))
                  clear ho5 hb5 hi5
                  go_wp2_with (go_at_call 12; fail)
                  refine (sameI_eq A4 A5 k4 c5 m2 (natInts (undU (upsOf ps k) (c : Int) i)) (by rw [natInts_len]; exact HM2.out) (by omega) v5 HI4'.out HI5.out).mono ?_
                  rintro e v6 ⟨rfl, hb6⟩
                  have BF := Lib.hid (BE.out.trans (hb6.mono BE.out.size))
                  clear hb6
                  go_wp2
                  go_roundw
                  case rel => exact ⟨i + 1, by omega, by go_num, BF.out⟩
                  case measure => simp [intOf] <;> omega
                · obtain rfl : i = k := by omega
                  have hka2 : ¬ ((i : Int) < (i : Int)) := by omega
                  have TZ := Lib.hid (T.out.read HBZ.out).here
                  have HZ := Lib.hid (HI.out.below HBZ.out (Nat.le_refl _))
                  have YZ := Lib.hid (Y.out.trans (HBZ.out.mono Y.out.size))
                  have hsz := HBZ.out.size
                  go_wp2
                  go_roundw
                  case rel => exact ⟨2, by omega, by go_num, TZ.out.mono (by omega), HZ.out, YZ.out⟩
                  case measure => simp [intOf] <;> omega
            · obtain rfl : r = 2 := by omega
              have T := Lib.hid (show TS 410 u q g R1 l1 u from HT.out)
              obtain ⟨R2, l2, hadd2, hF2⟩ := again (upsOf ps k) HF1.out HU1'.out (trR_gr ps hn k (Nat.le_refl _)).ok hn (by rw [upsOf_len]; exact Nat.le_refl _) HCL.out
              have hzb := (trR_gr ps hn k (Nat.le_refl _)).ok c HCL.out
              have hzz : (upsOf ps k)[c]? = some ((upsOf ps k).getD c 0) := by
                rw [List.getD_eq_getElem?_getD, List.getElem?_eq_getElem HCL.out]; rfl
              generalize hz0 : (upsOf ps k).getD c 0 = z at hadd2 hF2 hzb hzz
              have HADD := Lib.hid hadd2
              have HZZ := Lib.hid hzz
              have HF2 := Lib.hid hF2
              have hkz : (k : Int) ≤ 32 := by omega
              obtain ⟨ab2, ao2, rfl, hal2, hac2⟩ := HI.out (by rw [upsOf_len]; omega)
              have hcx0 := hac2 c z hzz
              obtain ⟨B, hB⟩ : ∃ B, u.heap.size = B := ⟨_, rfl⟩
              obtain ⟨u3, hu3⟩ : ∃ u3, u.alloc (.cells #[.int .i64 0, .int .i64 0] 30) = u3 := ⟨_, rfl⟩
              have hb3 : Below u.heap.size u u3 := by rw [← hu3]; exact (Below.refl _ _).alloc (Nat.le_refl _) _
              have hs3 := hb3.size
              have BK3 := Lib.hid (show Blk u3 B 30 #[.int .i64 0, .int .i64 0] by rw [← hu3, ← hB]; exact Blk.new _ _ _)
              have hlts := T.out.lts
              have HNE := Lib.hid (show B ≠ q ∧ B ≠ g ∧ B ≠ ab2 ∧ w.heap.size ≤ B by have := Y.out.size; omega)
              have T3 := Lib.hid (T.out.read hb3)
              have Y3 := Lib.hid (Y.out.trans (hb3.mono Y.out.size))
              have hcx := (hb3.cell (p := ⟨ab2, ao2 + c, none⟩) hal2).trans hcx0
              have HI3 := Lib.hid (HI.out.below hb3 (Nat.le_refl _))
              have HU3 := Lib.hid hu3
              have HBB := Lib.hid hB
              have hc0 : (0 : Int) ≤ (c : Int) := by omega
              have hck' : (c : Int) < (k : Int) := by omega
              have hwr : IntKind.i64.wrap (z + 1) = z + 1 := IntWalk.i64_in _ (by omega)
              have d0 : u3.cell? ⟨B, 0, none⟩ = some (.int .i64 0) := (BK3.out.cell 0).trans rfl
              have d1 : u3.cell? ⟨B, 1, none⟩ = some (.int .i64 0) := (BK3.out.cell 1).trans rfl
              have f0 := BK3.out.frozen 0
              have f1 := BK3.out.frozen 1
              clear hu3 hb3 hB hlts T Y HI hadd2 hF2 hac2 hzz hcx0 hal2 HT hz0
              by_cases hzp : 0 ≤ z
              · go_wp2_with (first
                  | ((with_reducible show wpList _ _ _ (Oper.mk none _ _ _ _ _ :: _) _ (World.alloc _ _)); refine wpList_store_new (ty := 30) rfl rfl rfl rfl rfl (link_one 0 0) linkInfo ?_; rw [HU3.out, HBB.out]))
                go_region
                go_wp2_with (go_at_call 8; fail)
                obtain ⟨u4, hu4⟩ : ∃ u4, ((u3.setCell ⟨B, 0, none⟩ (.int .i64 z)).setCell ⟨B, 1, none⟩ (.int .i64 (z + 1))).drew = u4 := ⟨_, rfl⟩
                rw [hu4]
                have hg4 : u3.grownBy u4 (some B) := hu4 ▸ (grownBy_trans (grownBy_trans (grownBy_set u3 B 0 _) (grownBy_set _ B 1 _)) ⟨rfl, rfl, rfl, Nat.le_refl _, fun _ _ _ => rfl⟩)
                have HUV := Lib.hid (show hungU z = z ∧ hungB z = z + 1 from ⟨if_pos hzp, if_pos hzp⟩)
                have HZK := Lib.hid (show R2.kidsOf z = kidsL (upsOf ps k) z c ++ [c] by
                  obtain ⟨zn, hzn⟩ : ∃ zn : Nat, z = (zn : Int) := ⟨z.toNat, by omega⟩
                  have h := HF2.out.kidsOf (i := zn) (by omega)
                  rw [← hzn] at h
                  exact h.trans (if_pos rfl))
                have T4 := Lib.hid (T3.out.here.grown hg4 (by have := HNE.out; omega))
                have Y4 := Lib.hid (Y3.out.grown hg4 Y3.out.size (fun j e => by cases e; have := HNE.out; omega))
                have HI4 := Lib.hid (HI3.out.kept hg4.size fun a e hlt => hg4.block a.block hlt (fun e2 => by
                  cases e
                  have e3 : ab2 = B := Option.some.inj e2
                  have := HNE.out
                  omega))
                clear hu4 hg4
                refine (T4.out.add0 (i := (c : Int)) (us := z) (ub := (z + 1)) (R' := R2) (l' := l2) (at_ := -1) (by
                  have h1 := HADD.out
                  rw [HUV.out.1, HUV.out.2] at h1
                  exact h1) (by omega)).mono ?_
                rintro e u5 ⟨rfl, t5⟩
                have hT5 := t5.keep
                have Y5 := Lib.hid (Y4.out.trans (hT5.below (fun j hj => by have := HQ.out; omega) Y4.out.size))
                have HI5 := Lib.hid (HI4.out.tn hT5 (fun a e => by have := HAV.out a e; have := HQ.out; omega))
                have T5 := Lib.hid t5.here
                have HZC := Lib.hid (show R2.kidsOf (c : Int) = [] from (HF2.out.kidsOf (i := c) (by omega)).trans ((if_neg (by omega)).trans (if_pos rfl)))
                clear t5 hT5 T4 Y4 HI4 T3 Y3 HI3 d0 d1 f0 f1 hcx
                go_wp2_with (go_at_call 9; fail)
                refine (T5.out.list1 c HZC.out rfl).mono ?_
                rintro e v6 ⟨A6, k6, rfl, hi6, hb6⟩
                have T6 := Lib.hid (T5.out.read hb6)
                have Y6 := Lib.hid (Y5.out.trans (hb6.mono Y5.out.size))
                have HI6 := Lib.hid (HI5.out.below hb6 (Nat.le_refl _))
                have hcx6 : v6.cell? ⟨ab2, ao2 + c, none⟩ = some (.int .i64 z) := by
                  obtain ⟨b9, o9, e9, _, r9⟩ := HI6.out (by rw [upsOf_len]; omega)
                  cases e9
                  exact r9 c z HZZ.out
                clear hi6 hb6 T5 Y5 HI5
                go_wp2_with (go_at_call 13; fail)
                refine (kids_any (upsOf ps k) k (upsOf_len ps k) hn (some ⟨ab2, ao2, none⟩) cv z c v6 HI6.out).mono ?_
                rintro e v7 ⟨x7, rfl, ho7, hb7⟩
                rw [natInts_len] at ho7
                obtain ⟨m7, hm7⟩ : ∃ m, (kidsL (upsOf ps k) z c).length = m := ⟨_, rfl⟩
                rw [hm7] at ho7
                have hm7l : m7 ≤ 32 := by rw [← hm7]; exact Nat.le_trans (kidsL_len _ _ _) (by rw [upsOf_len]; exact hn)
                have HM7 := Lib.hid hm7
                have H63 := Lib.hid (show m7 + 1 ≤ maxLen by unfold maxLen; omega)
                have HBY := Lib.hid (show (m7 + 1) * 8 ≤ 140737488355328 by omega)
                have hsz7 := hb7.size
                have T7 := Lib.hid (T6.out.read hb7)
                have Y7 := Lib.hid (Y6.out.trans (hb7.mono Y6.out.size))
                have HI7 := Lib.hid (HI6.out.below hb7 (Nat.le_refl _))
                have hlt7 := T6.out.lts
                have hab7 := (HAV.out ⟨ab2, ao2, none⟩ rfl).2
                have hyy7 := Y6.out.size
                have HS7 := Lib.hid (show q < v6.heap.size ∧ g < v6.heap.size ∧ w.heap.size ≤ v6.heap.size from ⟨hlt7.1, hlt7.2, hyy7⟩)
                have HAB := Lib.hid (show ab2 < v6.heap.size by
                  obtain ⟨b9, o9, e9, h9, _⟩ := HI6.out (by rw [upsOf_len]; omega)
                  cases e9; exact h9)
                have O7 := Lib.hid ho7
                obtain ⟨A7, c7, e7, hi7⟩ := owns_intsAt ho7
                clear hm7 hb7 T6 Y6 HI6 hlt7 hab7 hyy7 hcx6 ho7 hi7
                subst e7
                go_wp2_with (first
                  | (with_reducible show wpList _ _ _ (Oper.mk (some 155) _ _ _ _ _ :: _) _ _
                     refine wpList_append_one_lies rfl _ _ 22 rfl Try.underlying22 hi0 hz0 hz1 hz2 hz3 (by decide) (v := .slice A7 m7 c7) (by kernel_rfl) O7.out (by kernel_rfl) rfl (int_one _) H63.out HBY.out hsz7 ?_
                     intro g1 cap1 u8 hown1 hgr1 hlie1
                     have T8 := Lib.hid (T7.out.here.grown' hgr1 (fun j e => by
                       have h7 := O7.out.lt j e.symm
                       have := HS7.out
                       omega))
                     have Y8 := Lib.hid (Y7.out.grown hgr1 Y7.out.size (fun j e => by
                       have h7 := O7.out.lt j e
                       have := HS7.out
                       omega))
                     have I8 := Lib.hid (show u8.ownsRow v6.heap.size 3 1 (.slice (some ⟨g1, 0, none⟩) (m7 + 1) cap1) (m7 + 1) (intVs (natInts (kidsL (upsOf ps k) z c ++ [c]))) by rw [natInts_snoc]; simpa [intVs] using hown1)
                     have hcx8 : u8.cell? ⟨ab2, ao2 + c, none⟩ = some (.int .i64 z) := by
                       refine (World.cell?_of_block (a := ⟨ab2, ao2 + c, none⟩) (hgr1.block ab2 (by have := HAB.out; omega) (fun e => ?_))).trans ?_
                       · have h7 := O7.out.lt ab2 e.symm
                         have := HAB.out
                         omega
                       · obtain ⟨b9, o9, e9, _, r9⟩ := HI7.out (by rw [upsOf_len]; omega)
                         cases e9
                         exact r9 c z HZZ.out
                     clear hown1 hgr1 hlie1 T7 Y7 HI7)
                  | (go_at_call 9; fail))
                have HIS := Lib.hid (show IntsAt u8 (some ⟨g1, 0, none⟩) (natInts (kidsL (upsOf ps k) z c ++ [c])) by
                  obtain ⟨A', c', e, h⟩ := owns_intsAt I8.out
                  cases e; exact h)
                have HLN := Lib.hid (show (kidsL (upsOf ps k) z c ++ [c]).length = m7 + 1 by rw [List.length_append, HM7.out]; rfl)
                refine (T8.out.list1 z HZK.out HLN.out).mono ?_
                rintro e v9 ⟨A9, k9, rfl, hi9, hb9⟩
                have T9 := Lib.hid (T8.out.read hb9)
                have Y9 := Lib.hid (Y8.out.trans (hb9.mono Y8.out.size))
                have HS9 := Lib.hid (sameI_eq A9 (some ⟨g1, 0, none⟩) k9 cap1 (m7 + 1) (natInts (kidsL (upsOf ps k) z c ++ [c])) (by rw [natInts_len]; exact HLN.out) (by omega) v9 hi9 (HIS.out.below hb9 (Nat.le_refl _)))
                clear hi9 hb9 T8 Y8 hcx8
                go_wp2_with (go_at_call 12; fail)
                refine HS9.out.mono ?_
                rintro e v10 ⟨rfl, hb10⟩
                have T10 := Lib.hid (T9.out.read hb10)
                have Y10 := Lib.hid (Y9.out.trans (hb10.mono Y9.out.size))
                clear hb10 T9 Y9 HS9
                go_wp2
                go_ret
                exact ⟨rfl, Y10.out⟩
              · have hzn : z = -1 := by omega
                subst hzn
                go_wp2_with (first
                  | ((with_reducible show wpList _ _ _ (Oper.mk none _ _ _ _ _ :: _) _ (World.alloc _ _)); refine wpList_store_new (ty := 30) rfl rfl rfl rfl rfl (link_one 0 0) linkInfo ?_; rw [HU3.out, HBB.out])
                  | (go_at_call 8; fail))
                have HUV := Lib.hid (show hungU (-1) = 0 ∧ hungB (-1) = 0 from hung_root)
                have HZA := Lib.hid (show R2.all l2 = kidsL (upsOf ps k) (-1) c ++ [c] from HF2.out.all.trans (if_pos rfl))
                have HZL := Lib.hid (show l2 = (c : Int) by
                  have h := HF2.out.last
                  rw [if_pos rfl, lsI_app] at h
                  exact h)
                have T4 := Lib.hid T3.out.here
                have Y4 := Lib.hid Y3.out
                have HI4 := Lib.hid HI3.out
                refine (T4.out.add0 (i := (c : Int)) (us := 0) (ub := 0) (R' := R2) (l' := l2) (at_ := -1) (by
                  have h1 := HADD.out
                  rw [HUV.out.1, HUV.out.2] at h1
                  exact h1) (by omega)).mono ?_
                rintro e u5 ⟨rfl, t5⟩
                have hT5 := t5.keep
                have Y5 := Lib.hid (Y4.out.trans (hT5.below (fun j hj => by have := HQ.out; omega) Y4.out.size))
                have HI5 := Lib.hid (HI4.out.tn hT5 (fun a e => by have := HAV.out a e; have := HQ.out; omega))
                have T5 := Lib.hid t5.here
                have HZC := Lib.hid (show R2.kidsOf (c : Int) = [] from (HF2.out.kidsOf (i := c) (by omega)).trans ((if_neg (by omega)).trans (if_pos rfl)))
                clear t5 hT5 T4 Y4 HI4 T3 Y3 HI3 d0 d1 f0 f1 hcx
                go_wp2_with (go_at_call 9; fail)
                refine (T5.out.list1 c HZC.out rfl).mono ?_
                rintro e v6 ⟨A6, k6, rfl, hi6, hb6⟩
                have T6 := Lib.hid (T5.out.read hb6)
                have Y6 := Lib.hid (Y5.out.trans (hb6.mono Y5.out.size))
                have HI6 := Lib.hid (HI5.out.below hb6 (Nat.le_refl _))
                have hcx6 : v6.cell? ⟨ab2, ao2 + c, none⟩ = some (.int .i64 (-1)) := by
                  obtain ⟨b9, o9, e9, _, r9⟩ := HI6.out (by rw [upsOf_len]; omega)
                  cases e9
                  exact r9 c (-1) HZZ.out
                clear hi6 hb6 T5 Y5 HI5
                go_wp2_with (go_at_call 13; fail)
                refine (kids_any (upsOf ps k) k (upsOf_len ps k) hn (some ⟨ab2, ao2, none⟩) cv (-1) c v6 HI6.out).mono ?_
                rintro e v7 ⟨x7, rfl, ho7, hb7⟩
                rw [natInts_len] at ho7
                obtain ⟨m7, hm7⟩ : ∃ m, (kidsL (upsOf ps k) (-1) c).length = m := ⟨_, rfl⟩
                rw [hm7] at ho7
                have hm7l : m7 ≤ 32 := by rw [← hm7]; exact Nat.le_trans (kidsL_len _ _ _) (by rw [upsOf_len]; exact hn)
                have HM7 := Lib.hid hm7
                have H63 := Lib.hid (show m7 + 1 ≤ maxLen by unfold maxLen; omega)
                have HBY := Lib.hid (show (m7 + 1) * 8 ≤ 140737488355328 by omega)
                have hsz7 := hb7.size
                have T7 := Lib.hid (T6.out.read hb7)
                have Y7 := Lib.hid (Y6.out.trans (hb7.mono Y6.out.size))
                have HI7 := Lib.hid (HI6.out.below hb7 (Nat.le_refl _))
                have hlt7 := T6.out.lts
                have hab7 := (HAV.out ⟨ab2, ao2, none⟩ rfl).2
                have hyy7 := Y6.out.size
                have HS7 := Lib.hid (show q < v6.heap.size ∧ g < v6.heap.size ∧ w.heap.size ≤ v6.heap.size from ⟨hlt7.1, hlt7.2, hyy7⟩)
                have HAB := Lib.hid (show ab2 < v6.heap.size by
                  obtain ⟨b9, o9, e9, h9, _⟩ := HI6.out (by rw [upsOf_len]; omega)
                  cases e9; exact h9)
                have O7 := Lib.hid ho7
                obtain ⟨A7, c7, e7, hi7⟩ := owns_intsAt ho7
                clear hm7 hb7 T6 Y6 HI6 hlt7 hab7 hyy7 hcx6 ho7 hi7
                subst e7
                go_wp2_with (first
                  | (with_reducible show wpList _ _ _ (Oper.mk (some 155) _ _ _ _ _ :: _) _ _
                     refine wpList_append_one_lies rfl _ _ 22 rfl Try.underlying22 hi0 hz0 hz1 hz2 hz3 (by decide) (v := .slice A7 m7 c7) (by kernel_rfl) O7.out (by kernel_rfl) rfl (int_one _) H63.out HBY.out hsz7 ?_
                     intro g1 cap1 u8 hown1 hgr1 hlie1
                     have T8 := Lib.hid (T7.out.here.grown' hgr1 (fun j e => by
                       have h7 := O7.out.lt j e.symm
                       have := HS7.out
                       omega))
                     have Y8 := Lib.hid (Y7.out.grown hgr1 Y7.out.size (fun j e => by
                       have h7 := O7.out.lt j e
                       have := HS7.out
                       omega))
                     have I8 := Lib.hid (show u8.ownsRow v6.heap.size 3 1 (.slice (some ⟨g1, 0, none⟩) (m7 + 1) cap1) (m7 + 1) (intVs (natInts (kidsL (upsOf ps k) (-1) c ++ [c]))) by rw [natInts_snoc]; simpa [intVs] using hown1)
                     have hcx8 : u8.cell? ⟨ab2, ao2 + c, none⟩ = some (.int .i64 (-1)) := by
                       refine (World.cell?_of_block (a := ⟨ab2, ao2 + c, none⟩) (hgr1.block ab2 (by have := HAB.out; omega) (fun e => ?_))).trans ?_
                       · have h7 := O7.out.lt ab2 e.symm
                         have := HAB.out
                         omega
                       · obtain ⟨b9, o9, e9, _, r9⟩ := HI7.out (by rw [upsOf_len]; omega)
                         cases e9
                         exact r9 c (-1) HZZ.out
                     clear hown1 hgr1 hlie1 T7 Y7 HI7)
                  | (go_at_call 9; fail))
                have HIS := Lib.hid (show IntsAt u8 (some ⟨g1, 0, none⟩) (natInts (kidsL (upsOf ps k) (-1) c ++ [c])) by
                  obtain ⟨A', c', e, h⟩ := owns_intsAt I8.out
                  cases e; exact h)
                have HLN := Lib.hid (show (kidsL (upsOf ps k) (-1) c ++ [c]).length = m7 + 1 by rw [List.length_append, HM7.out]; rfl)
                refine (T8.out.list0 0 HZA.out HLN.out).mono ?_
                rintro e v9 ⟨A9, k9, rfl, hi9, hb9⟩
                have T9 := Lib.hid (T8.out.read hb9)
                have Y9 := Lib.hid (Y8.out.trans (hb9.mono Y8.out.size))
                have HS9 := Lib.hid (sameI_eq A9 (some ⟨g1, 0, none⟩) k9 cap1 (m7 + 1) (natInts (kidsL (upsOf ps k) (-1) c ++ [c])) (by rw [natInts_len]; exact HLN.out) (by omega) v9 hi9 (HIS.out.below hb9 (Nat.le_refl _)))
                clear hi9 hb9 T8 Y8 hcx8
                go_wp2_with (go_at_call 12; fail)
                refine HS9.out.mono ?_
                rintro e v10 ⟨rfl, hb10⟩
                have T10 := Lib.hid (T9.out.read hb10)
                have Y10 := Lib.hid (Y9.out.trans (hb10.mono Y9.out.size))
                clear hb10 T9 Y9 HS9
                go_wp2_with (go_at_call 10; fail)
                refine T10.out.last.mono ?_
                rintro e w' ⟨rfl, rfl⟩
                rw [HZL.out]
                go_wp2
                go_ret
                exact ⟨rfl, Y10.out⟩
theorem treeHangs_rows (A : Option Addr) (cap : Nat) (l : List Int) (which : Int) (w : World) (h : 0 < l.length → ∃ b off, A = some ⟨b, off, none⟩ ∧ b < w.heap.size ∧ ∀ k y, l[k]? = some y → RowAt w b (off + k * 1) (i64c y)) (hlen : l.length * 8 ≤ 140737488351232) :
    Calls Try.prog 3 #[.slice A l.length cap, .int .i64 which] w (RetB (.bool true) w) :=
  treeHangs_any l l.length (min l.length 32) rfl (by unfold maxLen; omega) rfl A cap which w (intsAt_rows h)
end Go.Proofs.Ytbidgpeeogoglaa
