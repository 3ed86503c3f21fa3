/-
  Merged texts: Hung, Fo, FoL, FoG.
-/
import Derived.Test.YtbidgpeeogoglaaTrUsed
import Derived.Test.YtbidgpeeogoglaaTrKn
import Derived.Test.YtbidgpeeogoglaaGc
import Derived.Test.YtbidgpeeogoglaaHn
/-
  lineagelaw19.hung: slots that are hung below one another.
-/
namespace Go.Proofs.Ytbidgpeeogoglaa
set_option maxRecDepth 100000
open Go.RowKit Go.Sort

/-- The parent that is chosen for the slot k; -1: none. -/
def hungP (ps : List Int) (k : Nat) : Int := pickZ (ps.getD k 0) ((k : Int) + 1) - 1
def hungU (p : Int) : Int := if 0 ≤ p then p else 0
def hungB (p : Int) : Int := if 0 ≤ p then p + 1 else 0
def hungR (ps : List Int) : Nat → St × Int
  | 0 => (St.new, -1)
  | k + 1 => ((((hungR ps k).1.take).put k (SlotV.usd ((k : Int) + 1))).tadd (hungR ps k).2 k (hungU (hungP ps k)) (hungB (hungP ps k))).2
/-- The k-th step goes well. -/
def hungOk (ps : List Int) (k : Nat) : Prop := (∃ L, (hungR ps k).1.free = k :: L) ∧ ((((hungR ps k).1.take).put k (SlotV.usd ((k : Int) + 1))).tadd (hungR ps k).2 k (hungU (hungP ps k)) (hungB (hungP ps k))).1 = (0, -1)
def upsOf (ps : List Int) (k : Nat) : List Int := (List.range k).map (hungP ps)
theorem upsOf_snoc (ps : List Int) (k : Nat) : upsOf ps (k + 1) = upsOf ps k ++ [hungP ps k] := by unfold upsOf; rw [List.range_succ, List.map_append]; rfl
theorem upsOf_len (ps : List Int) (k : Nat) : (upsOf ps k).length = k := by unfold upsOf; simp
section
variable {c : Nat} {w W W' : World} {q g : Nat} {R : St} {l : Int}
theorem TS.keep (t : TS c W q g R l W') : Tn (fun k => k = q ∨ k = g) W W' := by
  obtain ⟨S, h1, _⟩ := t
  exact h1.tn
theorem TS.take (t : TS c w q g R l W) {i : Nat} {L : List Nat} (hf : R.free = i :: L) : Calls Try.prog 38 #[.pointer (some ⟨g, 0, none⟩)] W (fun e W' => e = .returned (.tuple #[.int .i64 i, .nilIface]) ∧ TS c w q g R.take l W') := by
  obtain ⟨S, h1, h2, h3, h4⟩ := t
  refine (take_st (h2.free.trans hf) g W h1.ar).mono fun e W' ⟨h5, h6, h7⟩ => ⟨h5, S.take, h1.turn h6 h7, ⟨h2.slots, by show S.free.tail = R.free.tail; rw [h2.free], h2.len⟩, h3, h4⟩
theorem TS.put (t : TS c w q g R l W) {i : Nat} (hi : i < 32) (s : SlotV) (hc : c < 1000) : Calls Try.prog 26 #[.pointer (some ⟨g, 0, none⟩), .int .i64 i, .agg s.cells] W (fun e W' => e = .returned .nilIface ∧ TS (c + 1) w q g (R.put i s) l W') := by
  obtain ⟨S, h1, h2, h3, h4⟩ := t
  refine (put_st hi s g W h1.ar h3 (by omega)).mono fun e W' ⟨h5, h6, h7⟩ => ⟨h5, S.put i s, h1.turn h6 h7, ⟨by show S.slots.set _ _ = R.slots.set _ _; rw [h2.slots], h2.free, by show (S.slots.set _ _).length = 32; rw [List.length_set]; exact h2.len⟩, by rw [put_writes]; omega, by rw [put_writes]; omega⟩
theorem owns_tn {x : Nat → Prop} (hT : Tn x W W') {n0 n : Nat} {e : TypeId} {sz : Nat} {v : Value} {xs : List Value} (h : W.ownsRow n0 e sz v n xs) (hx : ∀ k, x k → k < n0) : W'.ownsRow n0 e sz v n xs := by
  refine ⟨h.1, ?_⟩
  rcases h.2 with e0 | ⟨g, c, cur, e0, e1, hg, e2⟩
  · exact .inl e0
  · exact .inr ⟨g, c, cur, e0, e1, (hT.block g (Array.getElem?_eq_some_iff.1 hg).1 (fun h3 => by have := hx g h3; omega)).trans hg, e2⟩
end
theorem TS.grown {c : Nat} {W W' : World} {q g B : Nat} {R : St} {l : Int} (t : TS c W q g R l W) (hg : W.grownBy W' (some B)) (hne : B ≠ q ∧ B ≠ g) : TS c W' q g R l W' := by
  obtain ⟨S, h1, h2⟩ := t
  exact ⟨S, ⟨h1.blk.grown hg (fun e => hne.1 (by cases e; rfl)), h1.ar.block (hg.block g h1.ar.lt (fun e => hne.2 (by cases e; rfl))), h1.ne, Tn.refl _ _⟩, h2⟩
theorem TS.grown' {c : Nat} {W W' : World} {q g : Nat} {r : Option Nat} {R : St} {l : Int} (t : TS c W q g R l W) (hg : W.grownBy W' r) (hne : ∀ j, some j = r → j ≠ q ∧ j ≠ g) : TS c W' q g R l W' := by
  obtain ⟨S, h1, h2⟩ := t
  exact ⟨S, ⟨h1.blk.grown hg (fun e => (hne q e).1 rfl), h1.ar.block (hg.block g h1.ar.lt (fun e => (hne g e).2 rfl)), h1.ne, Tn.refl _ _⟩, h2⟩
theorem TS.mono {c d : Nat} {w W : World} {q g : Nat} {R : St} {l : Int} (t : TS c w q g R l W) (h : c ≤ d) : TS d w q g R l W := by
  obtain ⟨S, h1, h2, h3, h4⟩ := t
  exact ⟨S, h1, h2, h3, by omega⟩
theorem getD_at {ps : List Int} {k : Nat} {x : Int} (h : ps[k]? = some x) : ps.getD k 0 = x := by rw [List.getD_eq_getElem?_getD, h]; rfl
theorem results_tmp4 {fn : Func} {t u v x : Tmp} (h : fn.results = #[.tmp t, .tmp u, .tmp v, .tmp x]) (tmps : Array Value) (P : Program) (w : World) :
    (results fn tmps).run P w = .ok (.tuple #[tmps.getD t undef, tmps.getD u undef, tmps.getD v undef, tmps.getD x undef]) w := by
  simp [results, h]
set_option maxHeartbeats 16000000 in
theorem hung_any (ps : List Int) (n m : Nat) (hlen : ps.length = n) (hnl : n ≤ maxLen) (hm : m = min n 32) (hok : ∀ k, k < m → hungOk ps k) (A : Option Addr) (cA : Nat) (w : World) (hin : IntsAt w A ps) :
    Calls Try.prog 16 #[.slice A n cA] w (fun e w' => ∃ g q v n0, e = .returned (.tuple #[.pointer (some ⟨g, 0, none⟩), .pointer (some ⟨q, 0, none⟩), v, .bool true]) ∧ TS (6 * m) w' q g (hungR ps m).1 (hungR ps m).2 w' ∧ w'.ownsRow n0 3 1 v m (intVs (upsOf ps m)) ∧ (w.heap.size ≤ g ∧ w.heap.size ≤ q ∧ q < n0 ∧ g < n0) ∧ Below w.heap.size w w') := by
  obtain ⟨ii, iz, hi0, hz0, hz1, hz2, hz3⟩ := intInfo
  have hn1 : (n : Int) ≤ 9223372036854775807 := by unfold maxLen at hnl; omega
  have hm32 : m ≤ 32 := by omega
  have hmn : m ≤ n := by omega
  have hm2 : m < n → m = 32 := by omega
  clear hnl hm
  have HIN := Lib.hid hin
  have HOK := Lib.hid hok
  have HLEN := Lib.hid hlen
  have hneq := nil_neq
  clear hin hok hlen
  go_enter Try.func16, Try.ntmps16
  go_wp2_with (go_at_call 25; fail)
  refine (new_st w).mono ?_
  rintro e w1 ⟨g, rfl, hg, hS1, hb1⟩
  have hgl := hS1.lt
  have hs1 := hb1.size
  have K1 := Lib.hid hS1
  have B1 := Lib.hid hb1
  clear hS1 hb1
  go_wp2_with (go_at_call 27; fail)
  refine (trNew_any g w1).mono ?_
  rintro e w2 ⟨rfl, hB2, hb2⟩
  have hs2 := hb2.size
  have hql := hB2.lt
  obtain ⟨q, hq⟩ : ∃ q, w1.heap.size = q := ⟨_, rfl⟩
  obtain ⟨n0, hn0⟩ : ∃ n0, w2.heap.size = n0 := ⟨_, rfl⟩
  have T0 := Lib.hid (show TS 0 w2 q g St.new (-1) w2 from ⟨St.new, Ta.start (hq ▸ hB2) (K1.out.below hb2 hgl) (by omega), ⟨rfl, rfl, by decide⟩, by decide, by decide⟩)
  have HB2 := Lib.hid (B1.out.trans (hb2.mono hs1))
  have HQ := Lib.hid (show w.heap.size ≤ g ∧ w.heap.size ≤ q ∧ q < n0 ∧ g < n0 ∧ n0 ≤ w2.heap.size by omega)
  rw [hq]
  clear hB2 hb2 K1 B1 hq hn0 hgl hg hs1 hs2 hql
  go_wp2
  go_loopw [8, 9] (fun v i wr => ∃ k : Nat, k ≤ m ∧ i = .int .i64 k ∧ TS (6 * k) wr q g (hungR ps k).1 (hungR ps k).2 wr ∧ wr.ownsRow n0 3 1 v k (intVs (upsOf ps k)) ∧ Below w.heap.size w wr ∧ n0 ≤ wr.heap.size) (fun _ i _ => m - (intOf i).toNat)
  case atStart => exact ⟨0, Nat.zero_le _, rfl, T0.out, World.ownsRow_nil _ _ _ _, HB2.out, HQ.out.2.2.2.2⟩
  case round =>
    obtain ⟨k, hk, rfl, hT, hrow, hb, hnw⟩ := hrel
    obtain ⟨Av, cv, rfl⟩ := owns_slice hrow
    have TR := Lib.hid hT
    have HROW := Lib.hid hrow
    have HB := Lib.hid hb
    clear hT hrow hb T0
    by_cases hlt : k < m
    · have hki : (k : Int) < (n : Int) := by omega
      have hk32 : (k : Int) < 32 := by omega
      have hk0 : (0 : Int) ≤ (k : Int) := by omega
      obtain ⟨⟨L, hL⟩, hadd⟩ := HOK.out k (by omega)
      obtain ⟨x, hx⟩ : ∃ x, ps[k]? = some x := ⟨_, List.getElem?_eq_getElem (by rw [HLEN.out]; omega)⟩
      obtain ⟨ab, ao, rfl, hal, hac⟩ := HIN.out (by rw [HLEN.out]; omega)
      have HCX := Lib.hid (fun W (hb : Below w.heap.size w W) => (hb.cell (p := ⟨ab, ao + k, none⟩) hal).trans (hac k x hx))
      have hP : hungP ps k = pickZ x ((k : Int) + 1) - 1 := by unfold hungP; rw [getD_at hx]
      have HPK := Lib.hid (fun w => show Calls Try.prog 7 #[.int .i64 x, .int .i64 ((k : Int) + 1)] w (RetSame (.int .i64 (pickZ x ((k : Int) + 1))) w) from by
        have h := pick_any x (k + 1) (by omega) (by omega) w
        rwa [show ((k + 1 : Nat) : Int) = (k : Int) + 1 by omega] at h)
      have hpr : 0 ≤ pickZ x ((k : Int) + 1) ∧ pickZ x ((k : Int) + 1) < (k : Int) + 1 := by
        unfold pickZ
        exact ⟨Int.emod_nonneg _ (by omega), Int.emod_lt_of_pos _ (by omega)⟩
      generalize hpz : pickZ x ((k : Int) + 1) = pz at *
      have hwr : IntKind.i64.wrap (pz - 1) = pz - 1 := IntWalk.i64_in _ (by omega)
      have TK := Lib.hid (TR.out.take hL)
      have HADD := Lib.hid hadd
      have HP := Lib.hid hP
      have HSN := Lib.hid (upsOf_snoc ps k)
      have hpz2 := hpr.2
      have hpz0 := hpr.1
      have H63 := Lib.hid (show k + 1 ≤ maxLen by unfold maxLen; omega)
      have HBY := Lib.hid (show (k + 1) * 8 ≤ 140737488355328 by omega)
      clear hL hadd hx hac hal hP hpz hpr
      go_wp2_with (go_at_call 38; fail)
      refine TK.out.mono ?_
      rintro e u1 ⟨rfl, t1⟩
      have PT := Lib.hid (t1.here.put (i := k) (by omega) (SlotV.usd ((k : Int) + 1)) (by omega))
      rw [usd_cells] at PT
      have hT1 := t1.keep
      have R1 := Lib.hid (owns_tn hT1 HROW.out (fun j hj => by have := HQ.out; omega))
      have Y1 := Lib.hid (HB.out.trans (hT1.below (fun j hj => by have := HQ.out; omega) HB.out.size))
      have hs1 := hT1.size
      clear t1 hT1 TK TR HROW HB
      go_wp2_with (go_at_call 26; fail)
      refine PT.out.mono ?_
      rintro e u2 ⟨rfl, t2⟩
      have hT2 := t2.keep
      have R2 := Lib.hid (owns_tn hT2 R1.out (fun j hj => by have := HQ.out; omega))
      have Y2 := Lib.hid (Y1.out.trans (hT2.below (fun j hj => by have := HQ.out; omega) Y1.out.size))
      have hs2 := hT2.size
      have T2 := Lib.hid t2.here
      have hcx := HCX.out _ Y2.out
      clear t2 hT2 PT R1 Y1
      obtain ⟨B, hB⟩ : ∃ B, u2.heap.size = B := ⟨_, rfl⟩
      obtain ⟨u3, hu3⟩ : ∃ u3, u2.alloc (.cells #[.int .i64 0, .int .i64 0] 30) = u3 := ⟨_, rfl⟩
      have hb3 : Below u2.heap.size u2 u3 := by rw [← hu3]; exact (Below.refl _ _).alloc (Nat.le_refl _) _
      have hs3 := hb3.size
      have BK3 := Lib.hid (show Blk u3 B 30 #[.int .i64 0, .int .i64 0] by rw [← hu3, ← hB]; exact Blk.new _ _ _)
      have hlts := T2.out.lts
      have HNE := Lib.hid (show B ≠ q ∧ B ≠ g ∧ u2.heap.size ≤ B ∧ w.heap.size ≤ B by have := Y2.out.size; omega)
      have HAV := Lib.hid (show ∀ av, Av = some av → av.block < B from fun av e => by
        have h7 := (R2.out.lt av.block (by rw [e]; rfl)).2; omega)
      have T3 := Lib.hid (T2.out.read hb3)
      have R3 := Lib.hid (R2.out.kept (grownBy_below hb3 none) (by cases Av <;> simp [Value.ownBlock]))
      have Y3 := Lib.hid (Y2.out.trans (hb3.mono Y2.out.size))
      have HU3 := Lib.hid hu3
      have HBB := Lib.hid hB
      clear hu3 hb3 hB hlts T2 R2 Y2
      have fin : ∀ (u4 : World), TS (6 * k + 1) u3 q g ((hungR ps k).1.take.put k (SlotV.usd ((k : Int) + 1))) (hungR ps k).2 u4 → Blk u4 B 30 #[.int .i64 (hungU (pz - 1)), .int .i64 (hungB (pz - 1))] → Tn (fun j => j = B) u3 u4 → True := fun _ _ _ _ => trivial
      clear fin
      by_cases hpos : 0 ≤ pz - 1
      · have hU : hungU (pz - 1) = pz - 1 := if_pos hpos
        have hBv : hungB (pz - 1) = pz := by unfold hungB; rw [if_pos hpos]; omega
        have HUV := Lib.hid (And.intro hU hBv)
        have hp1 : pz - 1 + 1 = pz := by omega
        have d0 : u3.cell? ⟨B, 0, none⟩ = some (.int .i64 0) := (BK3.out.cell 0).trans rfl
        have d1 : u3.cell? ⟨B, 1, none⟩ = some (.int .i64 0) := (BK3.out.cell 1).trans rfl
        obtain ⟨u4, hu4⟩ : ∃ u4, u3.setRow B #[.int .i64 (pz - 1), .int .i64 pz] = u4 := ⟨_, rfl⟩
        have hg4 : u3.grownBy u4 (some B) := hu4 ▸ grownBy_setRow u3 B _
        have BK4 := Lib.hid (show Blk u4 B 30 #[.int .i64 (pz - 1), .int .i64 pz] by rw [← hu4]; exact BK3.out.setRow_same _)
        have T4 := Lib.hid (TS.grown T3.out.here hg4 (by have := HNE.out; omega))
        have R4 := Lib.hid (R3.out.kept hg4 (by rcases Av with _ | av
                                                · simp [Value.ownBlock]
                                                · have h7 := HAV.out av rfl
                                                  exact .inr (fun e => by simp [Value.ownBlock] at e; omega)))
        have Y4 := Lib.hid (Y3.out.grown hg4 Y3.out.size (fun j e => by cases e; have := HNE.out; omega))
        have HU4 := Lib.hid hu4
        have e0 : u4.cell? ⟨B, 0, none⟩ = some (.int .i64 (pz - 1)) := (BK4.out.cell 0).trans rfl
        have e1 : u4.cell? ⟨B, 1, none⟩ = some (.int .i64 pz) := (BK4.out.cell 1).trans rfl
        have hs4 := hg4.size
        clear hU hBv hu4 hg4
        go_wp2_with (first
          | ((with_reducible show wpList _ _ _ (Oper.mk none _ _ _ _ _ :: _) _ (World.alloc _ _)); refine wpList_store_new (ty := 30) rfl rfl rfl rfl rfl (link_one 0 0) linkInfo ?_; rw [HU3.out, HBB.out])
          | (go_at_call 7; refine (HPK.out _).mono ?_; rintro e w' ⟨rfl, rfl⟩)
          | ((with_reducible show wpList _ _ _ (Oper.mk none _ _ _ _ _ :: _) _ u3); refine wpList_store_all (ty := 30) rfl rfl rfl rfl BK3.out rfl (link_one _ _) linkInfo ?_; rw [HU4.out])
          | (go_at_call 8; fail))
        have AD := Lib.hid (T4.out.here.add0 (i := (k : Int)) (us := (pz - 1)) (ub := pz) (R' := (hungR ps (k + 1)).1) (l' := (hungR ps (k + 1)).2) (at_ := -1) (by
          have h1 := HADD.out
          rw [HP.out, HUV.out.1, HUV.out.2] at h1
          show _ = ((0, -1), (((((hungR ps k).1.take).put k (SlotV.usd ((k : Int) + 1))).tadd (hungR ps k).2 k (hungU (hungP ps k)) (hungB (hungP ps k))).2))
          rw [HP.out, HUV.out.1, HUV.out.2, ← h1]) (by omega))
        refine AD.out.mono ?_
        rintro e u5 ⟨rfl, t5⟩
        have hT5 := t5.keep
        have R5 := Lib.hid (owns_tn hT5 R4.out (fun j hj => by have := HQ.out; omega))
        have Y5 := Lib.hid (Y4.out.trans (hT5.below (fun j hj => by have := HQ.out; omega) Y4.out.size))
        have hs5 := hT5.size
        have T5 := Lib.hid t5.here
        have hn5 : n0 ≤ u5.heap.size := by omega
        obtain ⟨vv, hvv⟩ : ∃ vv, Value.slice Av k cv = vv := ⟨_, rfl⟩
        have HVV := Lib.hid hvv
        rw [hvv] at R5
        clear hvv t5 hT5 AD T4 R4 Y4 d0 d1
        go_wp2_with (first
          | (refine wpList_append_one_lies rfl _ _ 22 rfl Try.underlying22 hi0 hz0 hz1 hz2 hz3 (by decide) (v := vv) HVV.out R5.out rfl rfl (int_one _) H63.out HBY.out hn5 ?_; intro g1 cap1 u6 hown1 hgr1 hlie1))
        have hs6 := hgr1.size
        have T6 := Lib.hid (TS.grown' T5.out hgr1 (fun j e => by have h7 := R5.out.lt j e.symm; have := HQ.out; omega))
        have Y6 := Lib.hid (Y5.out.grown hgr1 Y5.out.size (fun j e => by have h7 := R5.out.lt j e; have := HQ.out; omega))
        have R6 := Lib.hid (show u6.ownsRow n0 3 1 (.slice (some ⟨g1, 0, none⟩) (k + 1) cap1) (k + 1) (intVs (upsOf ps (k + 1))) by rw [HSN.out, HP.out]; simpa [intVs] using hown1)
        clear hown1 hgr1 hlie1 T5 R5 Y5
        go_roundw
        case rel => exact ⟨k + 1, by omega, by go_num, T6.out.mono (by omega), R6.out, Y6.out, by omega⟩
        case measure => simp [intOf] <;> omega
      · have hU : hungU (pz - 1) = 0 := if_neg hpos
        have hBv : hungB (pz - 1) = 0 := if_neg hpos
        have HUV := Lib.hid (And.intro hU hBv)
        have BK4 := Lib.hid BK3.out
        have T4 := Lib.hid T3.out
        have R4 := Lib.hid R3.out
        have Y4 := Lib.hid Y3.out
        have d0 : u3.cell? ⟨B, 0, none⟩ = some (.int .i64 0) := (BK3.out.cell 0).trans rfl
        have d1 : u3.cell? ⟨B, 1, none⟩ = some (.int .i64 0) := (BK3.out.cell 1).trans rfl
        clear hU hBv
        go_wp2_with (first
          | ((with_reducible show wpList _ _ _ (Oper.mk none _ _ _ _ _ :: _) _ (World.alloc _ _)); refine wpList_store_new (ty := 30) rfl rfl rfl rfl rfl (link_one 0 0) linkInfo ?_; rw [HU3.out, HBB.out])
          | (go_at_call 7; refine (HPK.out _).mono ?_; rintro e w' ⟨rfl, rfl⟩)
          | (go_at_call 8; fail))
        have AD := Lib.hid (T4.out.here.add0 (i := (k : Int)) (us := 0) (ub := 0) (R' := (hungR ps (k + 1)).1) (l' := (hungR ps (k + 1)).2) (at_ := -1) (by
          have h1 := HADD.out
          rw [HP.out, HUV.out.1, HUV.out.2] at h1
          show _ = ((0, -1), (((((hungR ps k).1.take).put k (SlotV.usd ((k : Int) + 1))).tadd (hungR ps k).2 k (hungU (hungP ps k)) (hungB (hungP ps k))).2))
          rw [HP.out, HUV.out.1, HUV.out.2, ← h1]) (by omega))
        refine AD.out.mono ?_
        rintro e u5 ⟨rfl, t5⟩
        have hT5 := t5.keep
        have R5 := Lib.hid (owns_tn hT5 R4.out (fun j hj => by have := HQ.out; omega))
        have Y5 := Lib.hid (Y4.out.trans (hT5.below (fun j hj => by have := HQ.out; omega) Y4.out.size))
        have hs5 := hT5.size
        have T5 := Lib.hid t5.here
        have hn5 : n0 ≤ u5.heap.size := by omega
        obtain ⟨vv, hvv⟩ : ∃ vv, Value.slice Av k cv = vv := ⟨_, rfl⟩
        have HVV := Lib.hid hvv
        rw [hvv] at R5
        clear hvv t5 hT5 AD T4 R4 Y4 d0 d1
        go_wp2_with (first
          | (refine wpList_append_one_lies rfl _ _ 22 rfl Try.underlying22 hi0 hz0 hz1 hz2 hz3 (by decide) (v := vv) HVV.out R5.out rfl rfl (int_one _) H63.out HBY.out hn5 ?_; intro g1 cap1 u6 hown1 hgr1 hlie1))
        have hs6 := hgr1.size
        have T6 := Lib.hid (TS.grown' T5.out hgr1 (fun j e => by have h7 := R5.out.lt j e.symm; have := HQ.out; omega))
        have Y6 := Lib.hid (Y5.out.grown hgr1 Y5.out.size (fun j e => by have h7 := R5.out.lt j e; have := HQ.out; omega))
        have R6 := Lib.hid (show u6.ownsRow n0 3 1 (.slice (some ⟨g1, 0, none⟩) (k + 1) cap1) (k + 1) (intVs (upsOf ps (k + 1))) by rw [HSN.out, HP.out]; simpa [intVs] using hown1)
        clear hown1 hgr1 hlie1 T5 R5 Y5
        go_roundw
        case rel => exact ⟨k + 1, by omega, by go_num, T6.out.mono (by omega), R6.out, Y6.out, by omega⟩
        case measure => simp [intOf] <;> omega
    · obtain rfl : k = m := by omega
      have hkn : (k : Int) < (n : Int) ∨ ¬ (k : Int) < (n : Int) := by omega
      have hk2 : (k : Int) < (n : Int) → ¬ (k : Int) < 32 := by intro h; have := hm2 (by omega); omega
      rcases hkn with h1 | h1
      · have h2 := hk2 h1
        go_wp2
        (try simp only [Exit.inBlock, Exit.then])
        refine bodyPost_ret (results_tmp4 rfl _ _ _) rfl ?_
        exact ⟨g, q, _, rfl, TR.out, n0, HROW.out, ⟨HQ.out.1, HQ.out.2.1, HQ.out.2.2.1, HQ.out.2.2.2.1⟩, HB.out⟩
      · clear hk2
        go_wp2
        (try simp only [Exit.inBlock, Exit.then])
        refine bodyPost_ret (results_tmp4 rfl _ _ _) rfl ?_
        exact ⟨g, q, _, rfl, TR.out, n0, HROW.out, ⟨HQ.out.1, HQ.out.2.1, HQ.out.2.2.1, HQ.out.2.2.2.1⟩, HB.out⟩
end Go.Proofs.Ytbidgpeeogoglaa
/-
  Forests: slots that hang below one another, as lists; of no program.
-/
namespace Go.Proofs.Ytbidgpeeogoglaa
set_option maxRecDepth 100000
open Go.RowKit Go.Sort

theorem Agree.refl' {R : St} (hl : R.slots.length = 32) : Agree R R := ⟨rfl, rfl, hl⟩
theorem errP_nil {no at_ : Int} (h : errP no at_ = .nilIface) : no = 0 := by
  unfold errP at h
  split at h
  · assumption
  · split at h
    · unfold errno at h; cases h
    · unfold faultV at h; cases h
/-- Links alone have turned, of these slots. -/
structure Spun (L : List Nat) (R R' : St) : Prop where
  lk : ∀ x : Nat, x ∉ L → R'.lk x = R.lk x
  free : R'.free = R.free
  len : R'.slots.length = 32
  rest : ∀ k : Nat, (R'.slots[k]?).map SlotV.strip = (R.slots[k]?).map SlotV.strip
theorem Spun.of {n : Int} {L : List Nat} {R S' R' : St} {v : Value} {r : Int × Int × Int} {most : Int} (hl : R.slots.length = 32) (hm : Moved n L R S') (hs : Same R v S' r R' most) : Spun L R R' := by
  have ha := hs.agree
  exact ⟨fun x hx => (ha.lk x).trans (hm.lk x hx), ha.free.symm.trans hm.free, by rw [← ha.slots, hm.len]; exact hl, fun k => by rw [← ha.slots]; exact hm.rest k⟩
theorem Spun.trans {L M : List Nat} {R R' R'' : St} (h : Spun L R R') (k : Spun M R' R'') : Spun (L ++ M) R R'' :=
  ⟨fun x hx => (k.lk x fun h1 => hx (List.mem_append_right _ h1)).trans (h.lk x fun h1 => hx (List.mem_append_left _ h1)), k.free.trans h.free, k.len, fun j => (k.rest j).trans (h.rest j)⟩
theorem Spun.strip {L : List Nat} {R R' : St} (h : Spun L R R') (j : Int) : (R'.slotAt j).strip = (R.slotAt j).strip := by
  unfold St.slotAt
  split
  · have h1 := h.rest j.toNat
    revert h1
    cases R'.slots[j.toNat]? <;> cases R.slots[j.toNat]? <;> simp
  · rfl
theorem Spun.kids {L : List Nat} {R R' : St} (h : Spun L R R') (j : Int) : (R'.slotAt j).kids = (R.slotAt j).kids := (show ((R'.slotAt j).strip).kids = ((R.slotAt j).strip).kids by rw [h.strip j])
theorem Spun.used {L : List Nat} {R R' : St} (h : Spun L R R') (j : Int) : (R'.slotAt j).used = (R.slotAt j).used := (show ((R'.slotAt j).strip).used = ((R.slotAt j).strip).used by rw [h.strip j])
theorem Spun.birth {L : List Nat} {R R' : St} (h : Spun L R R') (j : Int) : (R'.slotAt j).birth = (R.slotAt j).birth := (show ((R'.slotAt j).strip).birth = ((R.slotAt j).strip).birth by rw [h.strip j])
theorem Spun.upSlot {L : List Nat} {R R' : St} (h : Spun L R R') (j : Int) : (R'.slotAt j).upSlot = (R.slotAt j).upSlot := (show ((R'.slotAt j).strip).upSlot = ((R.slotAt j).strip).upSlot by rw [h.strip j])
theorem Spun.upBirth {L : List Nat} {R R' : St} (h : Spun L R R') (j : Int) : (R'.slotAt j).upBirth = (R.slotAt j).upBirth := (show ((R'.slotAt j).strip).upBirth = ((R.slotAt j).strip).upBirth by rw [h.strip j])
section
variable {R : St} {L A B : List Nat} {i : Nat}
theorem rpush_ring (hl : R.slots.length = 32) (h : Ring R.lk L) (hi : i < 32) (hn : i ∉ L) :
    (R.rpush (lsI (-1) L) i).1.1 = i ∧ (R.rpush (lsI (-1) L) i).1.2.1 = 0 ∧ Ring (R.rpush (lsI (-1) L) i).2.lk (L ++ [i]) ∧ Spun (L ++ [i]) R (R.rpush (lsI (-1) L) i).2 := by
  have hs := push_same (Agree.refl' hl) (lsI (-1) L) i
  have hp : ∃ (n : Int) (S' : St), R.push (lsI (-1) L) i = (.tuple #[.int .i64 i, .nilIface], S') ∧ Ring S'.lk (L ++ [i]) ∧ Moved n (L ++ [i]) R S' := by
    by_cases h0 : L = []
    · subst h0
      obtain ⟨S', h1, h2, h3⟩ := push_first hl hi
      exact ⟨_, S', h1, h2, h3⟩
    · obtain ⟨S', h1, h2, h3⟩ := push_ring hl h h0 hi hn
      exact ⟨_, S', h1, h2, h3⟩
  obtain ⟨n, S', h1, h2, h3⟩ := hp
  rw [h1] at hs
  have hv := hs.val
  simp only [Value.tuple.injEq, Array.mk.injEq, List.cons.injEq, Value.int.injEq, and_true, true_and] at hv
  exact ⟨hv.1.symm, errP_nil hv.2.symm, h2.congr fun x hx => hs.agree.lk x, Spun.of hl h3 hs⟩
theorem rdrop_ring (hl : R.slots.length = 32) (h : Ring R.lk (A ++ i :: B)) :
    (R.rdrop (lsI (-1) (A ++ i :: B)) i).1.1 = lsI (-1) (A ++ B) ∧ (R.rdrop (lsI (-1) (A ++ i :: B)) i).1.2.1 = 0 ∧ Ring (R.rdrop (lsI (-1) (A ++ i :: B)) i).2.lk (A ++ B) ∧ (R.rdrop (lsI (-1) (A ++ i :: B)) i).2.lk i = (-1, -1) ∧ Spun (A ++ i :: B) R (R.rdrop (lsI (-1) (A ++ i :: B)) i).2 := by
  have hs := drop_same (Agree.refl' hl) (lsI (-1) (A ++ i :: B)) i
  obtain ⟨S', h1, h2, h4, h3⟩ := drop_ring hl h
  rw [h1] at hs
  have hv := hs.val
  simp only [Value.tuple.injEq, Array.mk.injEq, List.cons.injEq, Value.int.injEq, and_true, true_and] at hv
  exact ⟨hv.1.symm, errP_nil hv.2.symm, h2.congr fun x hx => hs.agree.lk x, (hs.agree.lk i).trans h4, Spun.of hl h3 hs⟩
theorem rsplice_ring (hl : R.slots.length = 32) (hA : Ring R.lk A) (hB : Ring R.lk B) (hd : ∀ x ∈ A, x ∉ B) :
    (R.rsplice (lsI (-1) A) (lsI (-1) B)).1.1 = lsI (-1) (A ++ B) ∧ (R.rsplice (lsI (-1) A) (lsI (-1) B)).1.2.1 = 0 ∧ Ring (R.rsplice (lsI (-1) A) (lsI (-1) B)).2.lk (A ++ B) ∧ Spun (A ++ B) R (R.rsplice (lsI (-1) A) (lsI (-1) B)).2 := by
  have hs := splice_same (Agree.refl' hl) (lsI (-1) A) (lsI (-1) B)
  obtain ⟨S', h1, h2, h3⟩ := splice_ring hl hA hB hd
  rw [h1] at hs
  have hv := hs.val
  simp only [Value.tuple.injEq, Array.mk.injEq, List.cons.injEq, Value.int.injEq, and_true, true_and] at hv
  exact ⟨hv.1.symm, errP_nil hv.2.symm, h2.congr fun x hx => hs.agree.lk x, Spun.of hl h3 hs⟩
end
/-- A forest: the roots (K (-1)), and each slot's kids; the last root is l. -/
structure Fo (R : St) (l : Int) (K : Int → List Nat) : Prop where
  len : R.slots.length = 32
  last : l = lsI (-1) (K (-1))
  kids : ∀ i : Nat, i < 32 → (R.slotAt i).kids = lsI (-1) (K i)
  ring : ∀ p : Int, Ring R.lk (K p)
  apart : ∀ p p' : Int, p ≠ p' → ∀ x ∈ K p, x ∉ K p'
theorem slotAt_updN {S : St} (hl : S.slots.length = 32) {k : Nat} (hk : k < 32) (s : SlotV) (j : Int) : (S.upd k s).slotAt j = if j = (k : Int) then s else S.slotAt j := slotAt_upd hl hk s j
theorem lk_upd {S : St} (hl : S.slots.length = 32) {k : Nat} (hk : k < 32) (s : SlotV) (h : s.prev = (S.slotAt k).prev ∧ s.next = (S.slotAt k).next) (x : Int) : (S.upd k s).lk x = S.lk x := by
  have hl' : (S.upd k s).slots.length = 32 := by rw [upd_slots, List.length_set]; exact hl
  rcases inR_cases x with hx | hx
  · have h1 : ∀ {T : St}, T.slots.length = 32 → T.lk x = ((T.slotAt x).prev, (T.slotAt x).next) := fun {T} hT => by
      have h0 := inR_iff.1 hx
      obtain ⟨s, hs⟩ := slot_of hT (show x.toNat < 32 by omega)
      unfold St.lk St.slotAt
      simp only [hx, if_true, hs, if_pos h0]
    rw [h1 hl', h1 hl, slotAt_updN hl hk]
    split
    · rename_i e; subst e; rw [h.1, h.2]
    · rfl
  · have h0 : ¬ (0 ≤ x ∧ x < 32) := fun hh => by rw [inR_iff.2 hh] at hx; cases hx
    rw [St.lk_out _ h0, St.lk_out _ h0]
/-- The first n slots are Used, with the births 1 and so on. -/
def Usd (R : St) (n : Nat) : Prop := ∀ j : Nat, j < n → (R.slotAt j).used = true ∧ (R.slotAt j).birth = (j : Int) + 1
theorem filter_mid {A B : List Nat} {c : Nat} (h : (A ++ c :: B).Nodup) : (A ++ c :: B).filter (fun x => decide (x ≠ c)) = A ++ B := by
  rw [List.nodup_append] at h
  obtain ⟨_, h2, h3⟩ := h
  rw [List.filter_append, List.filter_cons_of_neg (by simp)]
  have hA : A.filter (fun x => decide (x ≠ c)) = A := List.filter_eq_self.2 fun x hx => by simp; exact fun e => h3 x hx c (by simp) e
  have hB : B.filter (fun x => decide (x ≠ c)) = B := List.filter_eq_self.2 fun x hx => by
    simp
    exact fun e => (List.nodup_cons.1 h2).1 (e ▸ hx)
  rw [hA, hB]
theorem hung_root : hungU (-1) = 0 ∧ hungB (-1) = 0 := ⟨if_neg (by omega), if_neg (by omega)⟩
theorem hung_at (k : Nat) : hungU k = k ∧ hungB k = (k : Int) + 1 := ⟨if_pos (by omega), if_pos (by omega)⟩
section
variable {R : St} {l : Int} {K : Int → List Nat} {n i c : Nat} {p : Int}
theorem Fo.tring (F : Fo R l K) (hn : n ≤ 32) (hp : p = -1 ∨ ∃ k : Nat, p = k ∧ k < n ∧ k ≠ i) : R.tring l (hungU p) (hungB p) = lsI (-1) (K p) := by
  unfold St.tring
  rcases hp with rfl | ⟨k, rfl, hk, _⟩
  · rw [hung_root.2, if_pos rfl]; exact F.last
  · rw [(hung_at k).2, if_neg (by omega), (hung_at k).1]; exact F.kids k (by omega)
theorem Usd.ok (H : Usd R n) (hn : n ≤ 32) (hi : i < n) : R.tused i = 0 := by
  unfold St.tused
  rw [inR_nat (by omega), (H i hi).1]
  simp
theorem Usd.there (H : Usd R n) (hn : n ≤ 32) (hi : i < n) : R.there i ((i : Int) + 1) = true := by
  unfold St.there
  rw [inR_nat (by omega), (H i hi).1, (H i hi).2]
  simp
theorem Fo.add (F : Fo R l K) (hn : n ≤ 32) (H : Usd R n) (hi : i < n) (hik : ∀ q, i ∉ K q) (hp : p = -1 ∨ ∃ k : Nat, p = k ∧ k < n ∧ k ≠ i) :
    ∃ R' l', R.tadd l i (hungU p) (hungB p) = ((0, -1), R', l') ∧ Fo R' l' (fun q => if q = p then K p ++ [i] else if q = i then [] else K q) ∧ Usd R' n ∧
      (∀ j : Nat, j ≠ i → (R'.slotAt j).upSlot = (R.slotAt j).upSlot ∧ (R'.slotAt j).upBirth = (R.slotAt j).upBirth) ∧ (R'.slotAt i).upSlot = hungU p ∧ (R'.slotAt i).upBirth = hungB p ∧ R'.free = R.free := by
  have hi32 : i < 32 := by omega
  obtain ⟨e1, e2, e3, sp⟩ := rpush_ring F.len (F.ring p) hi32 (hik p)
  have hpi : p ≠ (i : Int) := by rcases hp with rfl | ⟨k, rfl, _, h⟩ <;> omega
  unfold St.tadd
  rw [H.ok hn hi, F.tring hn hp]
  have c1 : ¬ (hungB p ≠ 0 ∧ inR (hungU p) = false) := by
    rcases hp with rfl | ⟨k, rfl, hk, _⟩
    · simp [hung_root]
    · rw [(hung_at k).1, inR_nat (by omega)]; simp
  have c2 : ¬ (hungB p ≠ 0 ∧ hungU p = (i : Int)) := by
    rcases hp with rfl | ⟨k, rfl, hk, h⟩
    · simp [hung_root]
    · rw [(hung_at k).1]; omega
  have c3 : ¬ (hungB p ≠ 0 ∧ R.there (hungU p) (hungB p) = false) := by
    rcases hp with rfl | ⟨k, rfl, hk, h⟩
    · simp [hung_root]
    · rw [(hung_at k).1, (hung_at k).2, H.there hn hk]; simp
  rw [if_neg (by simp), if_neg c1, if_neg c2, if_neg c3, if_neg (by rw [e2]; simp), e1, Int.toNat_natCast]
  generalize hQ : (R.rpush (lsI (-1) (K p)) i).2 = Q at *
  have hup : upOf (hungU p) (hungB p) = hungU p := by
    rcases hp with rfl | ⟨k, rfl, hk, h⟩
    · simp [hung_root, upOf]
    · unfold upOf; rw [(hung_at k).1, (hung_at k).2, if_neg (by omega)]
  rw [hup]
  generalize hs : (Q.slotAt i).hang (hungU p) (hungB p) = s
  have hPl : (Q.upd i s).slots.length = 32 := by rw [upd_slots, List.length_set]; exact sp.len
  have hPlk : ∀ x, (Q.upd i s).lk x = Q.lk x := lk_upd sp.len hi32 s (by rw [← hs]; exact ⟨rfl, rfl⟩)
  have hPat := slotAt_upd sp.len hi32 s
  have hPu : ∀ j : Int, ((Q.upd i s).slotAt j).used = (R.slotAt j).used ∧ ((Q.upd i s).slotAt j).birth = (R.slotAt j).birth := fun j => by
    rw [hPat]
    split
    · rename_i e; subst e; rw [← hs]; exact ⟨sp.used i, sp.birth i⟩
    · exact ⟨sp.used j, sp.birth j⟩
  have hPk : ∀ j : Int, j ≠ i → ((Q.upd i s).slotAt j).kids = (R.slotAt j).kids ∧ ((Q.upd i s).slotAt j).upSlot = (R.slotAt j).upSlot ∧ ((Q.upd i s).slotAt j).upBirth = (R.slotAt j).upBirth := fun j hj => by
    rw [hPat, if_neg hj]
    exact ⟨sp.kids j, sp.upSlot j, sp.upBirth j⟩
  have hPi : ((Q.upd i s).slotAt i).kids = -1 ∧ ((Q.upd i s).slotAt i).upSlot = hungU p ∧ ((Q.upd i s).slotAt i).upBirth = hungB p := by
    rw [hPat, if_pos rfl, ← hs]; exact ⟨rfl, rfl, rfl⟩
  have hPf : (Q.upd i s).free = R.free := sp.free
  generalize hP : Q.upd i s = P at *
  have ring' : ∀ q : Int, Ring P.lk (if q = p then K p ++ [i] else if q = i then [] else K q) := fun q => by
    split
    · exact e3.congr fun x _ => hPlk x
    · rename_i hq
      split
      · exact Ring.nil _
      · refine (F.ring q).congr fun x hx => (hPlk x).trans (sp.lk x ?_)
        rw [List.mem_append, List.mem_singleton]
        rintro (h | rfl)
        · exact F.apart q p hq x hx h
        · exact hik q hx
  have apart' : ∀ q q' : Int, q ≠ q' → ∀ x ∈ (if q = p then K p ++ [i] else if q = i then [] else K q), x ∉ (if q' = p then K p ++ [i] else if q' = i then [] else K q') := fun q q' hqq x hx hx' => by
    by_cases h1 : q = p
    · subst h1
      rw [if_pos rfl, List.mem_append, List.mem_singleton] at hx
      rw [if_neg (Ne.symm hqq)] at hx'
      split at hx'
      · cases hx'
      · rcases hx with hx | rfl
        · exact F.apart q q' hqq x hx hx'
        · exact hik q' hx'
    · rw [if_neg h1] at hx
      split at hx
      · cases hx
      · split at hx'
        · rename_i e
          rw [List.mem_append, List.mem_singleton] at hx'
          rcases hx' with hx' | rfl
          · exact F.apart q p h1 x hx hx'
          · exact hik q hx
        · split at hx'
          · cases hx'
          · exact F.apart q q' hqq x hx hx'
  rcases hp with rfl | ⟨k, rfl, hk, hki⟩
  · unfold St.tset
    rw [hung_root.2, if_pos rfl]
    refine ⟨_, _, rfl, ⟨hPl, ?_, fun j hj => ?_, ring', apart'⟩, fun j hj => ?_, fun j hj => ?_, ?_, ?_, hPf⟩
    · rw [if_pos rfl, lsI_app]; rfl
    · rw [if_neg (by omega)]
      by_cases hji : j = i
      · subst hji; rw [if_pos rfl]; exact hPi.1
      · rw [if_neg (by omega), (hPk j (by omega)).1]; exact F.kids j hj
    · rw [(hPu j).1, (hPu j).2]; exact H j hj
    · exact (hPk j (by omega)).2
    · exact hPi.2.1
    · rw [hPi.2.2, hung_root.2]
  · unfold St.tset
    rw [(hung_at k).2, if_neg (by omega), (hung_at k).1, Int.toNat_natCast]
    generalize hs2 : (P.slotAt k).kid i = s2
    have hk32 : k < 32 := by omega
    have hl2 : (P.upd k s2).slots.length = 32 := by rw [upd_slots, List.length_set]; exact hPl
    have hlk2 : ∀ x, (P.upd k s2).lk x = P.lk x := lk_upd hPl hk32 s2 (by rw [← hs2]; exact ⟨rfl, rfl⟩)
    have hat := slotAt_upd hPl hk32 s2
    refine ⟨_, _, rfl, ⟨hl2, ?_, fun j hj => ?_, fun q => (ring' q).congr fun x _ => hlk2 x, apart'⟩, fun j hj => ?_, fun j hj => ?_, ?_, ?_, hPf⟩
    · rw [if_neg (by omega), if_neg (by omega)]; exact F.last
    · rw [hat]
      by_cases hjk : j = k
      · subst hjk; rw [if_pos rfl, if_pos rfl, lsI_app, ← hs2]; rfl
      · rw [if_neg (by omega), if_neg (by omega)]
        by_cases hji : j = i
        · subst hji; rw [if_pos rfl]; exact hPi.1
        · rw [if_neg (by omega), (hPk j (by omega)).1]; exact F.kids j hj
    · have h0 : ((P.upd k s2).slotAt j).used = (P.slotAt j).used ∧ ((P.upd k s2).slotAt j).birth = (P.slotAt j).birth := by
        rw [hat]
        split
        · rename_i e; rw [e, ← hs2]; exact ⟨rfl, rfl⟩
        · exact ⟨rfl, rfl⟩
      rw [h0.1, h0.2, (hPu j).1, (hPu j).2]; exact H j hj
    · have h0 : ((P.upd k s2).slotAt j).upSlot = (P.slotAt j).upSlot ∧ ((P.upd k s2).slotAt j).upBirth = (P.slotAt j).upBirth := by
        rw [hat]
        split
        · rename_i e; rw [e, ← hs2]; exact ⟨rfl, rfl⟩
        · exact ⟨rfl, rfl⟩
      rw [h0.1, h0.2]; exact (hPk j (by omega)).2
    · rw [hat, if_neg (by omega), hPi.2.1, (hung_at k).1]
    · rw [hat, if_neg (by omega), hPi.2.2, (hung_at k).2]
theorem Fo.cut (F : Fo R l K) (hn : n ≤ 32) (H : Usd R n) (hc : c < n) (hp : p = -1 ∨ ∃ k : Nat, p = k ∧ k < n ∧ k ≠ c) (hm : c ∈ K p) (hu : (R.slotAt c).upSlot = hungU p) (hb : (R.slotAt c).upBirth = hungB p) :
    ∃ R' l', R.tcut l c = ((0, -1), R', l') ∧ Fo R' l' (fun q => if q = p then (K p).filter (fun x => decide (x ≠ c)) else K q) ∧ Usd R' n ∧
      (∀ j : Nat, (R'.slotAt j).upSlot = (R.slotAt j).upSlot ∧ (R'.slotAt j).upBirth = (R.slotAt j).upBirth) ∧ R'.lk c = (-1, -1) ∧ R'.free = R.free := by
  obtain ⟨A, B, hAB⟩ := List.append_of_mem hm
  have hr := F.ring p
  rw [hAB] at hr
  obtain ⟨e1, e2, e3, e4, sp⟩ := rdrop_ring F.len hr
  have hfil := filter_mid hr.nodup
  rw [← hAB] at e1 e2 e3 e4 sp hfil
  unfold St.tcut
  rw [H.ok hn hc, hu, hb, F.tring hn hp]
  have c3 : ¬ (hungB p ≠ 0 ∧ R.there (hungU p) (hungB p) = false) := by
    rcases hp with rfl | ⟨k, rfl, hk, h⟩
    · simp [hung_root]
    · rw [(hung_at k).1, (hung_at k).2, H.there hn hk]; simp
  rw [if_neg (by simp), if_neg c3, if_neg (by rw [e2]; simp), e1]
  generalize hQ : (R.rdrop (lsI (-1) (K p)) c).2 = Q at *
  have ring' : ∀ q : Int, Ring Q.lk (if q = p then (K p).filter (fun x => decide (x ≠ c)) else K q) := fun q => by
    split
    · rw [hfil]; exact e3
    · rename_i hq
      exact (F.ring q).congr fun x hx => sp.lk x fun h => F.apart q p hq x hx h
  have apart' : ∀ q q' : Int, q ≠ q' → ∀ x ∈ (if q = p then (K p).filter (fun x => decide (x ≠ c)) else K q), x ∉ (if q' = p then (K p).filter (fun x => decide (x ≠ c)) else K q') := fun q q' hqq x hx hx' => by
    have a1 : ∀ r : Int, x ∈ (if r = p then (K p).filter (fun x => decide (x ≠ c)) else K r) → x ∈ K r := fun r h => by
      split at h
      · rename_i e; rw [e]; exact (List.mem_filter.1 h).1
      · exact h
    exact F.apart q q' hqq x (a1 q hx) (a1 q' hx')
  rcases hp with rfl | ⟨k, rfl, hk, hkc⟩
  · unfold St.tset
    rw [hung_root.2, if_pos rfl]
    refine ⟨_, _, rfl, ⟨sp.len, ?_, fun j hj => ?_, ring', apart'⟩, fun j hj => ?_, fun j => ⟨sp.upSlot j, sp.upBirth j⟩, e4, sp.free⟩
    · rw [if_pos rfl, hfil]
    · rw [if_neg (by omega), sp.kids]; exact F.kids j hj
    · rw [sp.used, sp.birth]; exact H j hj
  · unfold St.tset
    rw [(hung_at k).2, if_neg (by omega), (hung_at k).1, Int.toNat_natCast]
    generalize hs2 : (Q.slotAt k).kid (lsI (-1) (A ++ B)) = s2
    have hk32 : k < 32 := by omega
    have hl2 : (Q.upd k s2).slots.length = 32 := by rw [upd_slots, List.length_set]; exact sp.len
    have hlk2 : ∀ x, (Q.upd k s2).lk x = Q.lk x := lk_upd sp.len hk32 s2 (by rw [← hs2]; exact ⟨rfl, rfl⟩)
    have hat := slotAt_upd sp.len hk32 s2
    have hall : ∀ j : Int, ((Q.upd k s2).slotAt j).used = (R.slotAt j).used ∧ ((Q.upd k s2).slotAt j).birth = (R.slotAt j).birth ∧ ((Q.upd k s2).slotAt j).upSlot = (R.slotAt j).upSlot ∧ ((Q.upd k s2).slotAt j).upBirth = (R.slotAt j).upBirth := fun j => by
      rw [hat]
      split
      · rename_i e; rw [e, ← hs2]; exact ⟨sp.used k, sp.birth k, sp.upSlot k, sp.upBirth k⟩
      · exact ⟨sp.used j, sp.birth j, sp.upSlot j, sp.upBirth j⟩
    refine ⟨_, _, rfl, ⟨hl2, ?_, fun j hj => ?_, fun q => (ring' q).congr fun x _ => hlk2 x, apart'⟩, fun j hj => ?_, fun j => (hall j).2.2, (hlk2 c).trans e4, sp.free⟩
    · rw [if_neg (by omega)]; exact F.last
    · rw [hat]
      by_cases hjk : j = k
      · subst hjk; rw [if_pos rfl, if_pos rfl, hfil, ← hs2]; rfl
      · rw [if_neg (by omega), if_neg (by omega), sp.kids]; exact F.kids j hj
    · rw [(hall j).1, (hall j).2.1]; exact H j hj
/-- What is handed out is as the lists say. -/
theorem Fo.all (F : Fo R l K) : R.all l = K (-1) := by
  rw [F.last]
  exact all_ring (F.ring _) (nodup_len 32 _ (F.ring _).nodup (F.ring _).lt)
theorem Fo.kidsOf (F : Fo R l K) (hi : i < 32) : R.kidsOf i = K i := by
  unfold St.kidsOf
  rw [if_pos (inR_nat hi), F.kids i hi]
  exact all_ring (F.ring _) (nodup_len 32 _ (F.ring _).nodup (F.ring _).lt)
end
end Go.Proofs.Ytbidgpeeogoglaa
/-
  Forests as rows of parents: kids, and what is under a slot.
-/
namespace Go.Proofs.Ytbidgpeeogoglaa
set_option maxRecDepth 100000
open Go.RowKit Go.Sort

/-- The slots whose parent is p, but one that is gone. -/
def kidsL (ups : List Int) (p gone : Int) : List Nat := (List.range ups.length).filter (fun k => decide (ups.getD k 0 = p ∧ (k : Int) ≠ gone))
def Ups (ups : List Int) : Prop := ∀ k : Nat, k < ups.length → -1 ≤ ups.getD k 0 ∧ ups.getD k 0 < k
theorem mem_kidsL {ups : List Int} {p g : Int} {k : Nat} : k ∈ kidsL ups p g ↔ k < ups.length ∧ ups.getD k 0 = p ∧ (k : Int) ≠ g := by
  unfold kidsL
  rw [List.mem_filter, List.mem_range]
  simp
theorem kidsL_nodup (ups : List Int) (p g : Int) : (kidsL ups p g).Nodup := List.Pairwise.filter _ List.nodup_range
theorem getD_app {ups : List Int} {x : Int} {k : Nat} : (ups ++ [x]).getD k 0 = if k < ups.length then ups.getD k 0 else if k = ups.length then x else 0 := by
  rw [List.getD_eq_getElem?_getD, List.getD_eq_getElem?_getD]
  split
  · rename_i h; rw [List.getElem?_append_left h]
  · rename_i h
    rw [List.getElem?_append_right (by omega)]
    split
    · rename_i h2; subst h2; simp
    · rename_i h2
      rw [List.getElem?_eq_none (by simp; omega)]; rfl
theorem kidsL_snoc (ups : List Int) (x p g : Int) : kidsL (ups ++ [x]) p g = kidsL ups p g ++ (if x = p ∧ (ups.length : Int) ≠ g then [ups.length] else []) := by
  unfold kidsL
  rw [List.length_append, List.length_singleton, List.range_succ, List.filter_append]
  congr 1
  · refine List.filter_congr fun k hk => ?_
    rw [List.mem_range] at hk
    rw [getD_app, if_pos hk]
  · rw [show (List.filter (fun k => decide ((ups ++ [x]).getD k 0 = p ∧ (k : Int) ≠ g)) [ups.length]) = if decide ((ups ++ [x]).getD ups.length 0 = p ∧ (ups.length : Int) ≠ g) = true then [ups.length] else [] from by
      rw [List.filter_cons]; simp only [List.filter_nil]]
    rw [show (ups ++ [x]).getD ups.length 0 = x from by rw [getD_app, if_neg (Nat.lt_irrefl _), if_pos rfl]]
    simp only [decide_eq_true_eq]
theorem Ups.nil : Ups [] := fun k hk => by simp at hk
theorem Ups.snoc {ups : List Int} {x : Int} (h : Ups ups) (hx : -1 ≤ x ∧ x < (ups.length : Int)) : Ups (ups ++ [x]) := fun k hk => by
  rw [List.length_append, List.length_singleton] at hk
  rw [getD_app]
  split
  · rename_i h1; exact h k h1
  · rw [if_pos (by omega), show k = ups.length by omega]; exact hx
theorem kidsL_late {ups : List Int} (h : Ups ups) {p g : Int} (hp : (ups.length : Int) ≤ p) : kidsL ups p g = [] := by
  refine List.eq_nil_iff_forall_not_mem.2 fun k hk => ?_
  obtain ⟨h1, h2, _⟩ := mem_kidsL.1 hk
  have := (h k h1).2
  omega
theorem kidsL_cut (ups : List Int) (p : Int) (c : Nat) : kidsL ups p c = (kidsL ups p (-1)).filter (fun x => decide (x ≠ c)) := by
  unfold kidsL
  rw [List.filter_filter]
  refine List.filter_congr fun k _ => ?_
  rw [Bool.eq_iff_iff]
  simp only [decide_eq_true_eq, Bool.and_eq_true]
  omega
/-- A slot, and what is under it. -/
def undL (ups : List Int) (g : Int) : Nat → Nat → List Nat
  | 0, _ => []
  | f + 1, i => i :: (kidsL ups i g).flatMap (undL ups g f)
def parL (ups : List Int) (y : Int) : Int := if 0 ≤ y then ups.getD y.toNat 0 else y
def ascL (ups : List Int) (x : Nat) : Nat → Int
  | 0 => x
  | m + 1 => parL ups (ascL ups x m)
theorem parL_le {ups : List Int} (h : Ups ups) (y : Int) : parL ups y ≤ y := by
  unfold parL
  split
  · by_cases hy : y.toNat < ups.length
    · have := (h _ hy).2; omega
    · rw [List.getD_eq_getElem?_getD, List.getElem?_eq_none (by omega)]; simp; omega
  · exact Int.le_refl _
theorem ascL_le {ups : List Int} (h : Ups ups) (x : Nat) : ∀ m j, ascL ups x (m + j) ≤ ascL ups x m
  | _, 0 => Int.le_refl _
  | m, j + 1 => Int.le_trans (parL_le h _) (ascL_le h x m j)
theorem undL_asc {ups : List Int} {g : Int} {x : Nat} : ∀ (f i : Nat), x ∈ undL ups g f i → ∃ m, ascL ups x m = i
  | 0, _, h => by cases h
  | f + 1, i, h => by
    unfold undL at h
    rcases List.mem_cons.1 h with rfl | h
    · exact ⟨0, rfl⟩
    · obtain ⟨k, hk, hx⟩ := List.mem_flatMap.1 h
      obtain ⟨m, hm⟩ := undL_asc f k hx
      refine ⟨m + 1, ?_⟩
      show parL ups (ascL ups x m) = i
      rw [hm]
      unfold parL
      rw [if_pos (by omega), Int.toNat_natCast]
      exact (mem_kidsL.1 hk).2.1
theorem undL_ge {ups : List Int} (h : Ups ups) {g : Int} {x f i : Nat} (hx : x ∈ undL ups g f i) : i ≤ x := by
  obtain ⟨m, hm⟩ := undL_asc f i hx
  have := ascL_le h x 0 m
  rw [Nat.zero_add, hm] at this
  exact Int.ofNat_le.1 this
theorem kid_gt {ups : List Int} (h : Ups ups) {p : Int} {g : Int} {k : Nat} (hk : k ∈ kidsL ups p g) : p < k := by
  obtain ⟨h1, h2, _⟩ := mem_kidsL.1 hk
  have := (h k h1).2
  omega
theorem undL_apart {ups : List Int} (h : Ups ups) {g : Int} {p : Int} {c1 c2 f f' x : Nat} (hc1 : c1 ∈ kidsL ups p g) (hc2 : c2 ∈ kidsL ups p g) (h1 : x ∈ undL ups g f c1) (h2 : x ∈ undL ups g f' c2) : c1 = c2 := by
  have key : ∀ {a b : Nat} {m n : Nat}, a ∈ kidsL ups p g → b ∈ kidsL ups p g → ascL ups x m = a → ascL ups x n = b → m < n → False := fun {a b m n} ha hb em en hlt => by
    have e1 : ascL ups x (m + 1) = p := by
      show parL ups (ascL ups x m) = p
      rw [em]; unfold parL
      rw [if_pos (by omega), Int.toNat_natCast]
      exact (mem_kidsL.1 ha).2.1
    have e2 := ascL_le h x (m + 1) (n - (m + 1))
    rw [show m + 1 + (n - (m + 1)) = n by omega, en, e1] at e2
    have := kid_gt h hb
    omega
  obtain ⟨m, em⟩ := undL_asc f c1 h1
  obtain ⟨n, en⟩ := undL_asc f' c2 h2
  rcases Nat.lt_trichotomy m n with hlt | rfl | hlt
  · exact (key hc1 hc2 em en hlt).elim
  · rw [em] at en; exact Int.ofNat.inj en
  · exact (key hc2 hc1 en em hlt).elim
theorem flat_nodup {ups : List Int} (h : Ups ups) {g : Int} {p : Int} {f : Nat} (ih : ∀ i, (undL ups g f i).Nodup) : ((kidsL ups p g).flatMap (undL ups g f)).Nodup := by
  refine List.pairwise_flatMap.2 ⟨fun k _ => ih k, ?_⟩
  refine List.Pairwise.imp_of_mem ?_ (kidsL_nodup ups p g)
  intro a b ha hb hne x hx y hy e
  subst e
  exact hne (undL_apart h ha hb hx hy)
theorem undL_nodup {ups : List Int} (h : Ups ups) {g : Int} : ∀ f i, (undL ups g f i).Nodup
  | 0, _ => List.nodup_nil
  | f + 1, i => by
    unfold undL
    refine List.nodup_cons.2 ⟨fun hm => ?_, flat_nodup h (undL_nodup h f)⟩
    obtain ⟨k, hk, hx⟩ := List.mem_flatMap.1 hm
    have := undL_ge h hx
    have := kid_gt h hk
    omega
section
variable {R : St} {l : Int} {ups : List Int} {g : Int} {n : Nat}
theorem fold_undr {f : Nat} (ih : ∀ i seen, i < ups.length → (∀ x ∈ undL ups g f i, x ∉ seen) → R.undr f i seen = seen ++ undL ups g f i) :
    ∀ (xs : List Nat) (seen : List Nat), (∀ x ∈ xs, x < ups.length) → (xs.flatMap (undL ups g f)).Nodup → (∀ x ∈ xs.flatMap (undL ups g f), x ∉ seen) → xs.foldl (fun s k => R.undr f k s) seen = seen ++ xs.flatMap (undL ups g f)
  | [], seen, _, _, _ => by simp
  | a :: xs, seen, hlt, hn, hd => by
    rw [List.flatMap_cons] at hn hd ⊢
    rw [List.foldl_cons, ih a seen (hlt a (by simp)) fun x hx => hd x (List.mem_append_left _ hx)]
    have hn2 := List.nodup_append.1 hn
    rw [fold_undr ih xs _ (fun x hx => hlt x (List.mem_cons_of_mem _ hx)) hn2.2.1 fun x hx hm => ?_, List.append_assoc]
    rcases List.mem_append.1 hm with h1 | h1
    · exact hd x (List.mem_append_right _ hx) h1
    · exact hn2.2.2 x h1 x hx rfl
theorem Fo.undr (F : Fo R l (fun p => kidsL ups p g)) (h : Ups ups) (hn : ups.length ≤ 32) : ∀ (f i : Nat) (seen : List Nat), i < ups.length → (∀ x ∈ undL ups g f i, x ∉ seen) → R.undr f i seen = seen ++ undL ups g f i
  | 0, i, seen, _, _ => by simp [St.undr, undL]
  | f + 1, i, seen, hi, hd => by
    unfold undL at hd ⊢
    rw [undr_new (hd i (by simp)), F.kidsOf (by omega)]
    rw [fold_undr (fun i seen hi hd => F.undr h hn f i seen hi hd) (kidsL ups i g) (seen ++ [i]) (fun x hx => (mem_kidsL.1 hx).1) (flat_nodup h (undL_nodup h f)) fun x hx hm => ?_]
    · rw [List.append_assoc]; rfl
    · rcases List.mem_append.1 hm with h1 | h1
      · exact hd x (List.mem_cons_of_mem _ hx) h1
      · have e := List.mem_singleton.1 h1
        subst e
        have hnd := undL_nodup (ups := ups) (g := g) h (f + 1) x
        unfold undL at hnd
        exact (List.nodup_cons.1 hnd).1 hx
theorem Fo.underOf (F : Fo R l (fun p => kidsL ups p g)) (h : Ups ups) (hn : ups.length ≤ 32) {i : Nat} (hi : i < ups.length) : R.underOf i = undL ups g 33 i := by
  unfold St.underOf
  rw [if_pos (inR_nat (by omega)), Int.toNat_natCast, F.undr h hn 33 i [] hi (fun x _ h => by cases h)]
  rfl
/-- The fuel suffices. -/
theorem undL_more (h : Ups ups) : ∀ (f i : Nat), ups.length ≤ f + i → i < ups.length ∨ True → undL ups g (f + 1) i = undL ups g (f + 2) i
  | 0, i, hf, _ => by
    unfold undL
    rw [show kidsL ups (i : Int) g = [] from kidsL_late h (by omega)]
    rfl
  | f + 1, i, hf, _ => by
    rw [show undL ups g (f + 1 + 1) i = i :: (kidsL ups i g).flatMap (undL ups g (f + 1)) from rfl, show undL ups g (f + 1 + 2) i = i :: (kidsL ups i g).flatMap (undL ups g (f + 2)) from rfl]
    congr 1
    rw [List.flatMap_def, List.flatMap_def]
    congr 1
    refine List.map_congr_left fun k hk => ?_
    have := kid_gt h hk
    exact undL_more h f k (by omega) (.inr trivial)
end
end Go.Proofs.Ytbidgpeeogoglaa
/-
  A forest that grows: slots that are hung, one behind the other.
-/
namespace Go.Proofs.Ytbidgpeeogoglaa
set_option maxRecDepth 100000
open Go.RowKit Go.Sort

/-- A forest of these parents; the first n slots are Used. -/
structure Gr (R : St) (l : Int) (ups : List Int) (n : Nat) : Prop where
  fo : Fo R l (fun p => kidsL ups p (-1))
  usd : Usd R n
  ok : Ups ups
  at_ : ∀ j : Nat, j < ups.length → (R.slotAt j).upSlot = hungU (ups.getD j 0) ∧ (R.slotAt j).upBirth = hungB (ups.getD j 0)
theorem Fo.congr {R : St} {l : Int} {K K' : Int → List Nat} (F : Fo R l K) (h : ∀ q, K q = K' q) : Fo R l K' := by
  rw [show K' = K from funext fun q => (h q).symm]; exact F
section
variable {R : St} {l : Int} {ups : List Int} {n : Nat} {p : Int}
theorem Gr.add (G : Gr R l ups n) (hn : n ≤ 32) (hk : ups.length < n) (hp : -1 ≤ p ∧ p < (ups.length : Int)) :
    ∃ R' l', R.tadd l ups.length (hungU p) (hungB p) = ((0, -1), R', l') ∧ Gr R' l' (ups ++ [p]) n ∧ R'.free = R.free := by
  have hp' : p = -1 ∨ ∃ k : Nat, p = k ∧ k < n ∧ k ≠ ups.length := by
    by_cases h : p = -1
    · exact .inl h
    · exact .inr ⟨p.toNat, by omega, by omega, by omega⟩
  obtain ⟨R', l', h1, h2, h3, h4, h5, h6, h7⟩ := G.fo.add hn G.usd hk (fun q hq => by have := (mem_kidsL.1 hq).1; omega) hp'
  refine ⟨R', l', h1, ⟨h2.congr fun q => ?_, h3, G.ok.snoc hp, fun j hj => ?_⟩, h7⟩
  · rw [kidsL_snoc]
    by_cases e : q = p
    · subst e
      rw [if_pos rfl, if_pos ⟨rfl, by omega⟩]
    · rw [if_neg e, if_neg (show ¬ (p = q ∧ (ups.length : Int) ≠ -1) from fun h => e h.1.symm), List.append_nil]
      split
      · rename_i e2; rw [kidsL_late G.ok (by omega)]
      · rfl
  · rw [List.length_append, List.length_singleton] at hj
    by_cases e : j = ups.length
    · subst e
      rw [getD_app, if_neg (Nat.lt_irrefl _), if_pos rfl]
      exact ⟨h5, h6⟩
    · rw [getD_app, if_pos (by omega), (h4 j e).1, (h4 j e).2]
      exact G.at_ j (by omega)
theorem Gr.cut (G : Gr R l ups n) (hn : n ≤ 32) (hl : ups.length ≤ n) {c : Nat} (hc : c < ups.length) :
    ∃ R' l', R.tcut l c = ((0, -1), R', l') ∧ Fo R' l' (fun p => kidsL ups p c) ∧ Usd R' n ∧ (∀ j : Nat, (R'.slotAt j).upSlot = (R.slotAt j).upSlot ∧ (R'.slotAt j).upBirth = (R.slotAt j).upBirth) ∧ R'.lk c = (-1, -1) ∧ R'.free = R.free := by
  have hu := G.ok c hc
  have hp' : ups.getD c 0 = -1 ∨ ∃ k : Nat, ups.getD c 0 = k ∧ k < n ∧ k ≠ c := by
    by_cases h : ups.getD c 0 = -1
    · exact .inl h
    · exact .inr ⟨(ups.getD c 0).toNat, by omega, by omega, by omega⟩
  obtain ⟨R', l', h1, h2, h3⟩ := G.fo.cut hn G.usd (show c < n by omega) hp' (mem_kidsL.2 ⟨hc, rfl, by omega⟩) (G.at_ c hc).1 (G.at_ c hc).2
  refine ⟨R', l', h1, h2.congr fun q => ?_, h3⟩
  rw [kidsL_cut]
  split
  · rename_i e; rw [e]
  · rename_i e
    refine (List.filter_eq_self.2 fun x hx => ?_).symm
    simp only [decide_eq_true_eq]
    rintro rfl
    exact e (mem_kidsL.1 hx).2.1.symm
end
theorem put_slotAt {S : St} (hl : S.slots.length = 32) {k : Nat} (hk : k < 32) (s : SlotV) (j : Int) : (S.put k s).slotAt j = if j = (k : Int) then s else S.slotAt j :=
  (slotAt_congr (show (S.put k s).slots = (S.upd k s).slots from rfl) j).trans (slotAt_upd hl hk s j)
theorem put_lk {S : St} (hl : S.slots.length = 32) {k : Nat} (hk : k < 32) (s : SlotV) (x : Nat) (hx : x ≠ k) : (S.put k s).lk x = S.lk x := by
  have hl2 : (S.put k s).slots.length = 32 := by show (S.slots.set _ _).length = 32; rw [List.length_set]; exact hl
  by_cases h32 : x < 32
  · obtain ⟨t, ht⟩ := slot_of hl h32
    have ht2 : (S.put k s).slots[x]? = some t := by
      show (S.slots.set k s)[x]? = some t
      rw [List.getElem?_set_ne (Ne.symm hx)]; exact ht
    rw [St.lk_in S h32 ht, St.lk_in _ h32 ht2]
  · rw [St.lk_out _ (by omega), St.lk_out _ (by omega)]
theorem new_at (j : Nat) (hj : j < 32) : St.new.slotAt j = SlotV.bare := by
  unfold St.slotAt
  rw [if_pos (inR_nat hj), Int.toNat_natCast]
  unfold St.new
  simp only
  rw [List.getElem?_replicate]
  rw [if_pos hj]
theorem Gr.new : Gr St.new (-1) [] 0 := by
  refine ⟨⟨by simp [St.new], rfl, fun i hi => ?_, fun p => ?_, fun p p' _ x hx => ?_⟩, fun j hj => absurd hj (by omega), Ups.nil, fun j hj => absurd hj (by simp)⟩
  · rw [new_at i hi]; rfl
  · exact Ring.nil _
  · cases hx
theorem kidsL_nil (p g : Int) : kidsL [] p g = [] := rfl
/-- One more slot is Used. -/
theorem Gr.put {R : St} {l : Int} {ups : List Int} {n : Nat} (G : Gr R l ups n) (hn : n < 32) (hl : ups.length ≤ n) : Gr (R.put n (SlotV.usd ((n : Int) + 1))) l ups (n + 1) := by
  have hat := put_slotAt G.fo.len hn (SlotV.usd ((n : Int) + 1))
  refine ⟨⟨by show (R.slots.set _ _).length = 32; rw [List.length_set]; exact G.fo.len, G.fo.last, fun i hi => ?_, fun p => ?_, G.fo.apart⟩, fun j hj => ?_, G.ok, fun j hj => ?_⟩
  · rw [hat]
    split
    · rename_i e
      rw [kidsL_late G.ok (by omega)]; rfl
    · exact G.fo.kids i hi
  · refine (G.fo.ring p).congr fun x hx => put_lk G.fo.len hn _ x ?_
    have := (mem_kidsL.1 hx).1
    omega
  · rw [hat]
    by_cases e : j = n
    · subst e; rw [if_pos rfl]; exact ⟨rfl, rfl⟩
    · rw [if_neg (by omega)]; exact G.usd j (by omega)
  · rw [hat, if_neg (by omega)]; exact G.at_ j hj
theorem usedS_gr : ∀ n, n ≤ 32 → Gr (usedS n) (-1) [] n
  | 0, _ => Gr.new
  | n + 1, h => (usedS_gr n (by omega)).put (by omega) (by simp)
def trR (ps : List Int) (n : Nat) : Nat → St × Int
  | 0 => (usedS n, -1)
  | k + 1 => ((trR ps n k).1.tadd (trR ps n k).2 k (hungU (hungP ps k)) (hungB (hungP ps k))).2
theorem upsOf_length (ps : List Int) (k : Nat) : (upsOf ps k).length = k := upsOf_len ps k
theorem hungP_in (ps : List Int) (k : Nat) : -1 ≤ hungP ps k ∧ hungP ps k < (k : Int) := by
  unfold hungP pickZ
  have h1 := Int.emod_nonneg (ps.getD k 0) (show (k : Int) + 1 ≠ 0 by omega)
  have h2 := Int.emod_lt_of_pos (ps.getD k 0) (show (0 : Int) < (k : Int) + 1 by omega)
  omega
theorem trR_gr (ps : List Int) {n : Nat} (hn : n ≤ 32) : ∀ k, k ≤ n → Gr (trR ps n k).1 (trR ps n k).2 (upsOf ps k) n
  | 0, _ => usedS_gr n hn
  | k + 1, h => by
    obtain ⟨R', l', h1, h2, _⟩ := (trR_gr ps hn k (by omega)).add hn (show (upsOf ps k).length < n by rw [upsOf_len]; omega) (show -1 ≤ hungP ps k ∧ hungP ps k < ((upsOf ps k).length : Int) by rw [upsOf_len]; exact hungP_in ps k)
    rw [upsOf_len] at h1
    rw [upsOf_snoc, show trR ps n (k + 1) = (R', l') from by show ((trR ps n k).1.tadd (trR ps n k).2 k (hungU (hungP ps k)) (hungB (hungP ps k))).2 = _; rw [h1]]
    exact h2
theorem trR_ok (ps : List Int) {n : Nat} (hn : n ≤ 32) {k : Nat} (hk : k < n) : (trR ps n k).1.tadd (trR ps n k).2 k (hungU (hungP ps k)) (hungB (hungP ps k)) = ((0, -1), (trR ps n (k + 1)).1, (trR ps n (k + 1)).2) := by
  obtain ⟨R', l', h1, h2, _⟩ := (trR_gr ps hn k (by omega)).add hn (show (upsOf ps k).length < n by rw [upsOf_len]; omega) (show -1 ≤ hungP ps k ∧ hungP ps k < ((upsOf ps k).length : Int) by rw [upsOf_len]; exact hungP_in ps k)
  rw [upsOf_len] at h1
  rw [show trR ps n (k + 1) = (R', l') from by show ((trR ps n k).1.tadd (trR ps n k).2 k (hungU (hungP ps k)) (hungB (hungP ps k))).2 = _; rw [h1]]
  exact h1
/-- The slots that are cut are hung again, without what was below it. -/
theorem again (ups : List Int) {R : St} {l : Int} {n : Nat} {c : Nat} (F : Fo R l (fun p => kidsL ups p c)) (H : Usd R n) (hU : Ups ups) (hn : n ≤ 32) (hl : ups.length ≤ n) (hc : c < ups.length) :
    ∃ R' l', R.tadd l c (hungU (ups.getD c 0)) (hungB (ups.getD c 0)) = ((0, -1), R', l') ∧ Fo R' l' (fun q => if q = ups.getD c 0 then kidsL ups (ups.getD c 0) c ++ [c] else if q = c then [] else kidsL ups q c) := by
  have hu := hU c hc
  have hp' : ups.getD c 0 = -1 ∨ ∃ k : Nat, ups.getD c 0 = k ∧ k < n ∧ k ≠ c := by
    by_cases h : ups.getD c 0 = -1
    · exact .inl h
    · exact .inr ⟨(ups.getD c 0).toNat, by omega, by omega, by omega⟩
  obtain ⟨R', l', h1, h2, _⟩ := F.add hn H (show c < n by omega) (fun q hq => (mem_kidsL.1 hq).2.2 rfl) hp'
  exact ⟨R', l', h1, h2⟩
end Go.Proofs.Ytbidgpeeogoglaa
