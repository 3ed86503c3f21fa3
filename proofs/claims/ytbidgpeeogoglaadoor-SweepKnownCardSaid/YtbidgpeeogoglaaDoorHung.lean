/-
  lineagelaw19.hung: slots that are hung below one another.
-/
import Derived.Test.YtbidgpeeogoglaaDoorTrUsed
import Derived.Test.YtbidgpeeogoglaaDoorTrKn
import Derived.Test.YtbidgpeeogoglaaDoorGc
namespace Go.Proofs.YtbidgpeeogoglaaDoor
set_option maxRecDepth 100000
open Go.RowKit Go.Sort

/-- The parent that is chosen for the slot k; -1: none. -/
def hungP (ps : List Int) (k : Nat) : Int := pickZ (ps.getD k 0) ((k : Int) + 1) - 1
def hungU (p : Int) : Int := if 0 ≤ p then p else 0
def hungB (p : Int) : Int := if 0 ≤ p then p + 1 else 0
def hungR (ps : List Int) : Nat → St × Int
  | 0 => (St.new, -1)
  | k + 1 => ((((hungR ps k).1.take).put k (SlotV.usd ((k : Int) + 1))).tadd (hungR ps k).2 k (hungU (hungP ps k)) (hungB (hungP ps k))).2
/-- The k-th step goes well. -/
def hungOk (ps : List Int) (k : Nat) : Prop := (∃ L, (hungR ps k).1.free = k :: L) ∧ ((((hungR ps k).1.take).put k (SlotV.usd ((k : Int) + 1))).tadd (hungR ps k).2 k (hungU (hungP ps k)) (hungB (hungP ps k))).1 = (0, -1)
def upsOf (ps : List Int) (k : Nat) : List Int := (List.range k).map (hungP ps)
theorem upsOf_snoc (ps : List Int) (k : Nat) : upsOf ps (k + 1) = upsOf ps k ++ [hungP ps k] := by unfold upsOf; rw [List.range_succ, List.map_append]; rfl
theorem upsOf_len (ps : List Int) (k : Nat) : (upsOf ps k).length = k := by unfold upsOf; simp
section
variable {c : Nat} {w W W' : World} {q g : Nat} {R : St} {l : Int}
theorem TS.keep (t : TS c W q g R l W') : Tn (fun k => k = q ∨ k = g) W W' := by
  obtain ⟨S, h1, _⟩ := t
  exact h1.tn
theorem TS.take (t : TS c w q g R l W) {i : Nat} {L : List Nat} (hf : R.free = i :: L) : Calls Tryd.prog 33 #[.pointer (some ⟨g, 0, none⟩)] W (fun e W' => e = .returned (.tuple #[.int .i64 i, .nilIface]) ∧ TS c w q g R.take l W') := by
  obtain ⟨S, h1, h2, h3, h4⟩ := t
  refine (take_st (h2.free.trans hf) g W h1.ar).mono fun e W' ⟨h5, h6, h7⟩ => ⟨h5, S.take, h1.turn h6 h7, ⟨h2.slots, by show S.free.tail = R.free.tail; rw [h2.free], h2.len⟩, h3, h4⟩
theorem TS.put (t : TS c w q g R l W) {i : Nat} (hi : i < 32) (s : SlotV) (hc : c < 1000) : Calls Tryd.prog 51 #[.pointer (some ⟨g, 0, none⟩), .int .i64 i, .agg s.cells] W (fun e W' => e = .returned .nilIface ∧ TS (c + 1) w q g (R.put i s) l W') := by
  obtain ⟨S, h1, h2, h3, h4⟩ := t
  refine (put_st hi s g W h1.ar h3 (by omega)).mono fun e W' ⟨h5, h6, h7⟩ => ⟨h5, S.put i s, h1.turn h6 h7, ⟨by show S.slots.set _ _ = R.slots.set _ _; rw [h2.slots], h2.free, by show (S.slots.set _ _).length = 32; rw [List.length_set]; exact h2.len⟩, by rw [put_writes]; omega, by rw [put_writes]; omega⟩
theorem owns_tn {x : Nat → Prop} (hT : Tn x W W') {n0 n : Nat} {e : TypeId} {sz : Nat} {v : Value} {xs : List Value} (h : W.ownsRow n0 e sz v n xs) (hx : ∀ k, x k → k < n0) : W'.ownsRow n0 e sz v n xs := by
  refine ⟨h.1, ?_⟩
  rcases h.2 with e0 | ⟨g, c, cur, e0, e1, hg, e2⟩
  · exact .inl e0
  · exact .inr ⟨g, c, cur, e0, e1, (hT.block g (Array.getElem?_eq_some_iff.1 hg).1 (fun h3 => by have := hx g h3; omega)).trans hg, e2⟩
end
theorem TS.grown {c : Nat} {W W' : World} {q g B : Nat} {R : St} {l : Int} (t : TS c W q g R l W) (hg : W.grownBy W' (some B)) (hne : B ≠ q ∧ B ≠ g) : TS c W' q g R l W' := by
  obtain ⟨S, h1, h2⟩ := t
  exact ⟨S, ⟨h1.blk.grown hg (fun e => hne.1 (by cases e; rfl)), h1.ar.block (hg.block g h1.ar.lt (fun e => hne.2 (by cases e; rfl))), h1.ne, Tn.refl _ _⟩, h2⟩
theorem TS.grown' {c : Nat} {W W' : World} {q g : Nat} {r : Option Nat} {R : St} {l : Int} (t : TS c W q g R l W) (hg : W.grownBy W' r) (hne : ∀ j, some j = r → j ≠ q ∧ j ≠ g) : TS c W' q g R l W' := by
  obtain ⟨S, h1, h2⟩ := t
  exact ⟨S, ⟨h1.blk.grown hg (fun e => (hne q e).1 rfl), h1.ar.block (hg.block g h1.ar.lt (fun e => (hne g e).2 rfl)), h1.ne, Tn.refl _ _⟩, h2⟩
theorem TS.mono {c d : Nat} {w W : World} {q g : Nat} {R : St} {l : Int} (t : TS c w q g R l W) (h : c ≤ d) : TS d w q g R l W := by
  obtain ⟨S, h1, h2, h3, h4⟩ := t
  exact ⟨S, h1, h2, h3, by omega⟩
theorem getD_at {ps : List Int} {k : Nat} {x : Int} (h : ps[k]? = some x) : ps.getD k 0 = x := by rw [List.getD_eq_getElem?_getD, h]; rfl
theorem results_tmp4 {fn : Func} {t u v x : Tmp} (h : fn.results = #[.tmp t, .tmp u, .tmp v, .tmp x]) (tmps : Array Value) (P : Program) (w : World) :
    (results fn tmps).run P w = .ok (.tuple #[tmps.getD t undef, tmps.getD u undef, tmps.getD v undef, tmps.getD x undef]) w := by
  simp [results, h]
set_option maxHeartbeats 16000000 in
theorem hung_any (ps : List Int) (n m : Nat) (hlen : ps.length = n) (hnl : n ≤ maxLen) (hm : m = min n 32) (hok : ∀ k, k < m → hungOk ps k) (A : Option Addr) (cA : Nat) (w : World) (hin : IntsAt w A ps) :
    Calls Tryd.prog 41 #[.slice A n cA] w (fun e w' => ∃ g q v n0, e = .returned (.tuple #[.pointer (some ⟨g, 0, none⟩), .pointer (some ⟨q, 0, none⟩), v, .bool true]) ∧ TS (6 * m) w' q g (hungR ps m).1 (hungR ps m).2 w' ∧ w'.ownsRow n0 3 1 v m (intVs (upsOf ps m)) ∧ (w.heap.size ≤ g ∧ w.heap.size ≤ q ∧ q < n0 ∧ g < n0) ∧ Below w.heap.size w w') := by
  obtain ⟨ii, iz, hi0, hz0, hz1, hz2, hz3⟩ := intInfo
  have hn1 : (n : Int) ≤ 9223372036854775807 := by unfold maxLen at hnl; omega
  have hm32 : m ≤ 32 := by omega
  have hmn : m ≤ n := by omega
  have hm2 : m < n → m = 32 := by omega
  clear hnl hm
  have HIN := Lib.hid hin
  have HOK := Lib.hid hok
  have HLEN := Lib.hid hlen
  have hneq := nil_neq
  clear hin hok hlen
  go_enter Tryd.func41, Tryd.ntmps41
  go_wp2_with (go_at_call 8; fail)
  refine (new_st w).mono ?_
  rintro e w1 ⟨g, rfl, hg, hS1, hb1⟩
  have hgl := hS1.lt
  have hs1 := hb1.size
  have K1 := Lib.hid hS1
  have B1 := Lib.hid hb1
  clear hS1 hb1
  go_wp2_with (go_at_call 9; fail)
  refine (trNew_any g w1).mono ?_
  rintro e w2 ⟨rfl, hB2, hb2⟩
  have hs2 := hb2.size
  have hql := hB2.lt
  obtain ⟨q, hq⟩ : ∃ q, w1.heap.size = q := ⟨_, rfl⟩
  obtain ⟨n0, hn0⟩ : ∃ n0, w2.heap.size = n0 := ⟨_, rfl⟩
  have T0 := Lib.hid (show TS 0 w2 q g St.new (-1) w2 from ⟨St.new, Ta.start (hq ▸ hB2) (K1.out.below hb2 hgl) (by omega), ⟨rfl, rfl, by decide⟩, by decide, by decide⟩)
  have HB2 := Lib.hid (B1.out.trans (hb2.mono hs1))
  have HQ := Lib.hid (show w.heap.size ≤ g ∧ w.heap.size ≤ q ∧ q < n0 ∧ g < n0 ∧ n0 ≤ w2.heap.size by omega)
  rw [hq]
  clear hB2 hb2 K1 B1 hq hn0 hgl hg hs1 hs2 hql
  go_wp2
  go_loopw [8, 9] (fun v i wr => ∃ k : Nat, k ≤ m ∧ i = .int .i64 k ∧ TS (6 * k) wr q g (hungR ps k).1 (hungR ps k).2 wr ∧ wr.ownsRow n0 3 1 v k (intVs (upsOf ps k)) ∧ Below w.heap.size w wr ∧ n0 ≤ wr.heap.size) (fun _ i _ => m - (intOf i).toNat)
  case atStart => exact ⟨0, Nat.zero_le _, rfl, T0.out, World.ownsRow_nil _ _ _ _, HB2.out, HQ.out.2.2.2.2⟩
  case round =>
    obtain ⟨k, hk, rfl, hT, hrow, hb, hnw⟩ := hrel
    obtain ⟨Av, cv, rfl⟩ := owns_slice hrow
    have TR := Lib.hid hT
    have HROW := Lib.hid hrow
    have HB := Lib.hid hb
    clear hT hrow hb T0
    by_cases hlt : k < m
    · have hki : (k : Int) < (n : Int) := by omega
      have hk32 : (k : Int) < 32 := by omega
      have hk0 : (0 : Int) ≤ (k : Int) := by omega
      obtain ⟨⟨L, hL⟩, hadd⟩ := HOK.out k (by omega)
      obtain ⟨x, hx⟩ : ∃ x, ps[k]? = some x := ⟨_, List.getElem?_eq_getElem (by rw [HLEN.out]; omega)⟩
      obtain ⟨ab, ao, rfl, hal, hac⟩ := HIN.out (by rw [HLEN.out]; omega)
      have HCX := Lib.hid (fun W (hb : Below w.heap.size w W) => (hb.cell (p := ⟨ab, ao + k, none⟩) hal).trans (hac k x hx))
      have hP : hungP ps k = pickZ x ((k : Int) + 1) - 1 := by unfold hungP; rw [getD_at hx]
      have HPK := Lib.hid (fun w => show Calls Tryd.prog 32 #[.int .i64 x, .int .i64 ((k : Int) + 1)] w (RetSame (.int .i64 (pickZ x ((k : Int) + 1))) w) from by
        have h := pick_any x (k + 1) (by omega) (by omega) w
        rwa [show ((k + 1 : Nat) : Int) = (k : Int) + 1 by omega] at h)
      have hpr : 0 ≤ pickZ x ((k : Int) + 1) ∧ pickZ x ((k : Int) + 1) < (k : Int) + 1 := by
        unfold pickZ
        exact ⟨Int.emod_nonneg _ (by omega), Int.emod_lt_of_pos _ (by omega)⟩
      generalize hpz : pickZ x ((k : Int) + 1) = pz at *
      have hwr : IntKind.i64.wrap (pz - 1) = pz - 1 := IntWalk.i64_in _ (by omega)
      have TK := Lib.hid (TR.out.take hL)
      have HADD := Lib.hid hadd
      have HP := Lib.hid hP
      have HSN := Lib.hid (upsOf_snoc ps k)
      have hpz2 := hpr.2
      have hpz0 := hpr.1
      have H63 := Lib.hid (show k + 1 ≤ maxLen by unfold maxLen; omega)
      have HBY := Lib.hid (show (k + 1) * 8 ≤ 140737488355328 by omega)
      clear hL hadd hx hac hal hP hpz hpr
      go_wp2_with (go_at_call 33; fail)
      refine TK.out.mono ?_
      rintro e u1 ⟨rfl, t1⟩
      have PT := Lib.hid (t1.here.put (i := k) (by omega) (SlotV.usd ((k : Int) + 1)) (by omega))
      rw [usd_cells] at PT
      have hT1 := t1.keep
      have R1 := Lib.hid (owns_tn hT1 HROW.out (fun j hj => by have := HQ.out; omega))
      have Y1 := Lib.hid (HB.out.trans (hT1.below (fun j hj => by have := HQ.out; omega) HB.out.size))
      have hs1 := hT1.size
      clear t1 hT1 TK TR HROW HB
      go_wp2_with (go_at_call 51; fail)
      refine PT.out.mono ?_
      rintro e u2 ⟨rfl, t2⟩
      have hT2 := t2.keep
      have R2 := Lib.hid (owns_tn hT2 R1.out (fun j hj => by have := HQ.out; omega))
      have Y2 := Lib.hid (Y1.out.trans (hT2.below (fun j hj => by have := HQ.out; omega) Y1.out.size))
      have hs2 := hT2.size
      have T2 := Lib.hid t2.here
      have hcx := HCX.out _ Y2.out
      clear t2 hT2 PT R1 Y1
      obtain ⟨B, hB⟩ : ∃ B, u2.heap.size = B := ⟨_, rfl⟩
      obtain ⟨u3, hu3⟩ : ∃ u3, u2.alloc (.cells #[.int .i64 0, .int .i64 0] 33) = u3 := ⟨_, rfl⟩
      have hb3 : Below u2.heap.size u2 u3 := by rw [← hu3]; exact (Below.refl _ _).alloc (Nat.le_refl _) _
      have hs3 := hb3.size
      have BK3 := Lib.hid (show Blk u3 B 33 #[.int .i64 0, .int .i64 0] by rw [← hu3, ← hB]; exact Blk.new _ _ _)
      have hlts := T2.out.lts
      have HNE := Lib.hid (show B ≠ q ∧ B ≠ g ∧ u2.heap.size ≤ B ∧ w.heap.size ≤ B by have := Y2.out.size; omega)
      have HAV := Lib.hid (show ∀ av, Av = some av → av.block < B from fun av e => by
        have h7 := (R2.out.lt av.block (by rw [e]; rfl)).2; omega)
      have T3 := Lib.hid (T2.out.read hb3)
      have R3 := Lib.hid (R2.out.kept (grownBy_below hb3 none) (by cases Av <;> simp [Value.ownBlock]))
      have Y3 := Lib.hid (Y2.out.trans (hb3.mono Y2.out.size))
      have HU3 := Lib.hid hu3
      have HBB := Lib.hid hB
      clear hu3 hb3 hB hlts T2 R2 Y2
      have fin : ∀ (u4 : World), TS (6 * k + 1) u3 q g ((hungR ps k).1.take.put k (SlotV.usd ((k : Int) + 1))) (hungR ps k).2 u4 → Blk u4 B 33 #[.int .i64 (hungU (pz - 1)), .int .i64 (hungB (pz - 1))] → Tn (fun j => j = B) u3 u4 → True := fun _ _ _ _ => trivial
      clear fin
      by_cases hpos : 0 ≤ pz - 1
      · have hU : hungU (pz - 1) = pz - 1 := if_pos hpos
        have hBv : hungB (pz - 1) = pz := by unfold hungB; rw [if_pos hpos]; omega
        have HUV := Lib.hid (And.intro hU hBv)
        have hp1 : pz - 1 + 1 = pz := by omega
        have d0 : u3.cell? ⟨B, 0, none⟩ = some (.int .i64 0) := (BK3.out.cell 0).trans rfl
        have d1 : u3.cell? ⟨B, 1, none⟩ = some (.int .i64 0) := (BK3.out.cell 1).trans rfl
        obtain ⟨u4, hu4⟩ : ∃ u4, u3.setRow B #[.int .i64 (pz - 1), .int .i64 pz] = u4 := ⟨_, rfl⟩
        have hg4 : u3.grownBy u4 (some B) := hu4 ▸ grownBy_setRow u3 B _
        have BK4 := Lib.hid (show Blk u4 B 33 #[.int .i64 (pz - 1), .int .i64 pz] by rw [← hu4]; exact BK3.out.setRow_same _)
        have T4 := Lib.hid (TS.grown T3.out.here hg4 (by have := HNE.out; omega))
        have R4 := Lib.hid (R3.out.kept hg4 (by rcases Av with _ | av
                                                · simp [Value.ownBlock]
                                                · have h7 := HAV.out av rfl
                                                  exact .inr (fun e => by simp [Value.ownBlock] at e; omega)))
        have Y4 := Lib.hid (Y3.out.grown hg4 Y3.out.size (fun j e => by cases e; have := HNE.out; omega))
        have HU4 := Lib.hid hu4
        have e0 : u4.cell? ⟨B, 0, none⟩ = some (.int .i64 (pz - 1)) := (BK4.out.cell 0).trans rfl
        have e1 : u4.cell? ⟨B, 1, none⟩ = some (.int .i64 pz) := (BK4.out.cell 1).trans rfl
        have hs4 := hg4.size
        clear hU hBv hu4 hg4
        go_wp2_with (first
          | ((with_reducible show wpList _ _ _ (Oper.mk none _ _ _ _ _ :: _) _ (World.alloc _ _)); refine wpList_store_new (ty := 33) rfl rfl rfl rfl rfl (link_one 0 0) linkInfo ?_; rw [HU3.out, HBB.out])
          | (go_at_call 32; refine (HPK.out _).mono ?_; rintro e w' ⟨rfl, rfl⟩)
          | ((with_reducible show wpList _ _ _ (Oper.mk none _ _ _ _ _ :: _) _ u3); refine wpList_store_all (ty := 33) rfl rfl rfl rfl BK3.out rfl (link_one _ _) linkInfo ?_; rw [HU4.out])
          | (go_at_call 22; fail))
        have AD := Lib.hid (T4.out.here.add0 (i := (k : Int)) (us := (pz - 1)) (ub := pz) (R' := (hungR ps (k + 1)).1) (l' := (hungR ps (k + 1)).2) (at_ := -1) (by
          have h1 := HADD.out
          rw [HP.out, HUV.out.1, HUV.out.2] at h1
          show _ = ((0, -1), (((((hungR ps k).1.take).put k (SlotV.usd ((k : Int) + 1))).tadd (hungR ps k).2 k (hungU (hungP ps k)) (hungB (hungP ps k))).2))
          rw [HP.out, HUV.out.1, HUV.out.2, ← h1]) (by omega))
        refine AD.out.mono ?_
        rintro e u5 ⟨rfl, t5⟩
        have hT5 := t5.keep
        have R5 := Lib.hid (owns_tn hT5 R4.out (fun j hj => by have := HQ.out; omega))
        have Y5 := Lib.hid (Y4.out.trans (hT5.below (fun j hj => by have := HQ.out; omega) Y4.out.size))
        have hs5 := hT5.size
        have T5 := Lib.hid t5.here
        have hn5 : n0 ≤ u5.heap.size := by omega
        obtain ⟨vv, hvv⟩ : ∃ vv, Value.slice Av k cv = vv := ⟨_, rfl⟩
        have HVV := Lib.hid hvv
        rw [hvv] at R5
        clear hvv t5 hT5 AD T4 R4 Y4 d0 d1
        go_wp2_with (first
          | (refine wpList_append_one_lies rfl _ _ 46 rfl Tryd.underlying46 hi0 hz0 hz1 hz2 hz3 (by decide) (v := vv) HVV.out R5.out rfl rfl (int_one _) H63.out HBY.out hn5 ?_; intro g1 cap1 u6 hown1 hgr1 hlie1))
        have hs6 := hgr1.size
        have T6 := Lib.hid (TS.grown' T5.out hgr1 (fun j e => by have h7 := R5.out.lt j e.symm; have := HQ.out; omega))
        have Y6 := Lib.hid (Y5.out.grown hgr1 Y5.out.size (fun j e => by have h7 := R5.out.lt j e; have := HQ.out; omega))
        have R6 := Lib.hid (show u6.ownsRow n0 3 1 (.slice (some ⟨g1, 0, none⟩) (k + 1) cap1) (k + 1) (intVs (upsOf ps (k + 1))) by rw [HSN.out, HP.out]; simpa [intVs] using hown1)
        clear hown1 hgr1 hlie1 T5 R5 Y5
        go_roundw
        case rel => exact ⟨k + 1, by omega, by go_num, T6.out.mono (by omega), R6.out, Y6.out, by omega⟩
        case measure => simp [intOf] <;> omega
      · have hU : hungU (pz - 1) = 0 := if_neg hpos
        have hBv : hungB (pz - 1) = 0 := if_neg hpos
        have HUV := Lib.hid (And.intro hU hBv)
        have BK4 := Lib.hid BK3.out
        have T4 := Lib.hid T3.out
        have R4 := Lib.hid R3.out
        have Y4 := Lib.hid Y3.out
        have d0 : u3.cell? ⟨B, 0, none⟩ = some (.int .i64 0) := (BK3.out.cell 0).trans rfl
        have d1 : u3.cell? ⟨B, 1, none⟩ = some (.int .i64 0) := (BK3.out.cell 1).trans rfl
        clear hU hBv
        go_wp2_with (first
          | ((with_reducible show wpList _ _ _ (Oper.mk none _ _ _ _ _ :: _) _ (World.alloc _ _)); refine wpList_store_new (ty := 33) rfl rfl rfl rfl rfl (link_one 0 0) linkInfo ?_; rw [HU3.out, HBB.out])
          | (go_at_call 32; refine (HPK.out _).mono ?_; rintro e w' ⟨rfl, rfl⟩)
          | (go_at_call 22; fail))
        have AD := Lib.hid (T4.out.here.add0 (i := (k : Int)) (us := 0) (ub := 0) (R' := (hungR ps (k + 1)).1) (l' := (hungR ps (k + 1)).2) (at_ := -1) (by
          have h1 := HADD.out
          rw [HP.out, HUV.out.1, HUV.out.2] at h1
          show _ = ((0, -1), (((((hungR ps k).1.take).put k (SlotV.usd ((k : Int) + 1))).tadd (hungR ps k).2 k (hungU (hungP ps k)) (hungB (hungP ps k))).2))
          rw [HP.out, HUV.out.1, HUV.out.2, ← h1]) (by omega))
        refine AD.out.mono ?_
        rintro e u5 ⟨rfl, t5⟩
        have hT5 := t5.keep
        have R5 := Lib.hid (owns_tn hT5 R4.out (fun j hj => by have := HQ.out; omega))
        have Y5 := Lib.hid (Y4.out.trans (hT5.below (fun j hj => by have := HQ.out; omega) Y4.out.size))
        have hs5 := hT5.size
        have T5 := Lib.hid t5.here
        have hn5 : n0 ≤ u5.heap.size := by omega
        obtain ⟨vv, hvv⟩ : ∃ vv, Value.slice Av k cv = vv := ⟨_, rfl⟩
        have HVV := Lib.hid hvv
        rw [hvv] at R5
        clear hvv t5 hT5 AD T4 R4 Y4 d0 d1
        go_wp2_with (first
          | (refine wpList_append_one_lies rfl _ _ 46 rfl Tryd.underlying46 hi0 hz0 hz1 hz2 hz3 (by decide) (v := vv) HVV.out R5.out rfl rfl (int_one _) H63.out HBY.out hn5 ?_; intro g1 cap1 u6 hown1 hgr1 hlie1))
        have hs6 := hgr1.size
        have T6 := Lib.hid (TS.grown' T5.out hgr1 (fun j e => by have h7 := R5.out.lt j e.symm; have := HQ.out; omega))
        have Y6 := Lib.hid (Y5.out.grown hgr1 Y5.out.size (fun j e => by have h7 := R5.out.lt j e; have := HQ.out; omega))
        have R6 := Lib.hid (show u6.ownsRow n0 3 1 (.slice (some ⟨g1, 0, none⟩) (k + 1) cap1) (k + 1) (intVs (upsOf ps (k + 1))) by rw [HSN.out, HP.out]; simpa [intVs] using hown1)
        clear hown1 hgr1 hlie1 T5 R5 Y5
        go_roundw
        case rel => exact ⟨k + 1, by omega, by go_num, T6.out.mono (by omega), R6.out, Y6.out, by omega⟩
        case measure => simp [intOf] <;> omega
    · obtain rfl : k = m := by omega
      have hkn : (k : Int) < (n : Int) ∨ ¬ (k : Int) < (n : Int) := by omega
      have hk2 : (k : Int) < (n : Int) → ¬ (k : Int) < 32 := by intro h; have := hm2 (by omega); omega
      rcases hkn with h1 | h1
      · have h2 := hk2 h1
        go_wp2
        (try simp only [Exit.inBlock, Exit.then])
        refine bodyPost_ret (results_tmp4 rfl _ _ _) rfl ?_
        exact ⟨g, q, _, rfl, TR.out, n0, HROW.out, ⟨HQ.out.1, HQ.out.2.1, HQ.out.2.2.1, HQ.out.2.2.2.1⟩, HB.out⟩
      · clear hk2
        go_wp2
        (try simp only [Exit.inBlock, Exit.then])
        refine bodyPost_ret (results_tmp4 rfl _ _ _) rfl ?_
        exact ⟨g, q, _, rfl, TR.out, n0, HROW.out, ⟨HQ.out.1, HQ.out.2.1, HQ.out.2.2.1, HQ.out.2.2.2.1⟩, HB.out⟩
end Go.Proofs.YtbidgpeeogoglaaDoor
