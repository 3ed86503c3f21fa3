/-
  Merged texts: RfTrI, Told17, Same17, Act17.
-/
import Derived.Test.YtbidgpeeogoglaaDoorHm
import Derived.Test.YtbidgpeeogoglaaDoorGh
import Derived.Test.YtbidgpeeogoglaaDoorHn
import Derived.Test.YtbidgpeeogoglaaDoorHk
import Derived.Test.YtbidgpeeogoglaaDoorGg
import Derived.Test.YtbidgpeeogoglaaDoorGb
import Derived.Test.YtbidgpeeogoglaaDoorGi
import Derived.Test.YtbidgpeeogoglaaDoorGc
/-
  The document's tree: Roots, Kids, has, under, Under.
-/
namespace Go.Proofs.YtbidgpeeogoglaaDoor
set_option maxRecDepth 100000
open Go.RowKit Go.Sort

set_option maxHeartbeats 2000000 in
theorem has17_any (A : Option Addr) (c n : Nat) (L : List Nat) (hn : L.length = n) (hl : n ≤ 1000000) (x : Nat) (w : World) (hin : IntsAt w A (natInts L)) : Calls Tryd.prog 89 #[.slice A n c, .int .i64 x] w (RetSame (.bool (decide (x ∈ L))) w) := by
  have HN := Lib.hid hn
  have HI := Lib.hid hin
  obtain ⟨bv, hbv⟩ : ∃ bv, decide (x ∈ L) = bv := ⟨_, rfl⟩
  have HB := Lib.hid hbv
  rw [hbv]
  clear hin hn hbv
  go_enter Tryd.func89, Tryd.ntmps89
  go_wp2
  go_loopw [5] (fun v wr => ∃ k : Nat, k ≤ n ∧ v = .int .i64 k ∧ wr = w ∧ ∀ j, j < k → L[j]? ≠ some x) (fun v _ => n - (intOf v).toNat)
  case atStart => exact ⟨0, Nat.zero_le _, rfl, rfl, fun j hj => absurd hj (Nat.not_lt_zero _)⟩
  case round =>
    obtain ⟨k, hk, rfl, rfl, hno⟩ := hrel
    have HNO := Lib.hid hno
    clear hno
    by_cases hlt : k < n
    · have hki : (k : Int) < (n : Int) := by omega
      obtain ⟨y, hy⟩ : ∃ y, L[k]? = some y := ⟨_, List.getElem?_eq_getElem (by rw [HN.out]; exact hlt)⟩
      obtain ⟨b1, o1, rfl, g1, r1⟩ := HI.out (by rw [natInts_len, HN.out]; omega)
      have d1 := r1 k (y : Int) (by simp [natInts, hy])
      have HY := Lib.hid hy
      clear r1 hy
      by_cases he : y = x
      · subst he
        go_wp2
        go_ret
        exact ⟨by rw [← HB.out, decide_eq_true (List.mem_of_getElem? HY.out)]; rfl, rfl⟩
      · have hei : ((y : Int) == (x : Int)) = false := by simp; omega
        go_wp2
        go_roundw
        case rel => exact ⟨k + 1, by omega, by go_num, by trivial, fun j hj => by
          rcases Nat.lt_or_ge j k with h1 | h1
          · exact HNO.out j h1
          · obtain rfl : j = k := by omega
            rw [HY.out]; intro e; injection e with e; exact he e⟩
        case measure => simp [intOf] <;> omega
    · obtain rfl : k = n := by omega
      have hni : x ∉ L := fun hm => by
        obtain ⟨j, hj⟩ := List.getElem?_of_mem hm
        have := (List.getElem?_eq_some_iff.1 hj).1
        exact HNO.out j (by rw [← HN.out]; exact this) hj
      have hb := HB.out
      rw [decide_eq_false hni] at hb
      have HB2 := Lib.hid hb
      clear hb HB
      go_wp2
      go_ret
      exact ⟨by rw [← HB2.out]; rfl, rfl⟩
--@END
theorem handed_ne {W W' : World} {base x : Nat} {v v' : Value} {L : List Nat} (h : Handed W base v L W' v') (hx : v.ownBlock ≠ some x) (hlt : x < W.heap.size) : v'.ownBlock ≠ some x := fun e => by
  rcases h.lie with h5 | h5
  · exact hx (h5 ▸ e)
  · have := h5 _ e; omega
section
variable {R : St} {q lo h b : Nat} {l : Int}
/-- The document's All, with where its row lies. -/
theorem rall16_from (last : Int) (W : World) (r : IsRB lo h b R W) : Calls Tryd.prog 57 #[.pointer (some ⟨h, 0, none⟩), .int .i64 last] W (fun e w' => ∃ A c, e = .returned (.slice A (R.all last).length c) ∧ IntsAt w' A (natInts (R.all last)) ∧ (∀ a, A = some a → W.heap.size ≤ a.block ∧ a.block < w'.heap.size) ∧ Below W.heap.size W w') :=
  (rall16_any last W r).mono fun e w' ⟨v, h1, h2, h3⟩ => by
    rw [natInts_len] at h2
    obtain ⟨A, c, rfl, hi, ha⟩ := owns_intsFrom h2
    exact ⟨A, c, h1, hi, ha, h3⟩
def RetRow (L : List Nat) (W : World) (e : Ending) (w' : World) : Prop := ∃ A c, e = .returned (.slice A L.length c) ∧ IntsAt w' A (natInts L) ∧ (∀ a, A = some a → W.heap.size ≤ a.block ∧ a.block < w'.heap.size) ∧ Below W.heap.size W w'
set_option maxHeartbeats 4000000 in
theorem rkids_any (i : Int) (w W : World) (a : RTa w q lo h b R l W) : Calls Tryd.prog 17 #[.pointer (some ⟨q, 0, none⟩), .int .i64 i] W (RetRow (R.kidsOf i) W) := by
  have HT := Lib.hid (fun w => rthereA_any i w)
  unfold St.kidsOf RetRow
  rcases inR_cases i with hi | hi
  rotate_left
  · rw [if_neg (by simp [hi])]
    rw [hi] at HT
    clear a
    go_enter Tryd.func17, Tryd.ntmps17
    go_wp2_with (first | (go_at_call 58; refine (HT.out _).mono ?_; rintro e w' ⟨rfl, rfl⟩))
    go_ret
    exact ⟨none, 0, rfl, fun hn => by simp [natInts] at hn, fun a e => (by cases e), Below.refl _ _⟩
  rw [if_pos hi]
  rw [hi] at HT
  have hir := inR_iff.1 hi
  obtain ⟨k, rfl⟩ : ∃ k : Nat, i = (k : Int) := ⟨i.toNat, by omega⟩
  obtain ⟨_, d2, _⟩ := a.rf.slotc (k := k) (by omega)
  have hk32 : (k : Int) < 32 := hir.2
  have hk0 : (0 : Int) ≤ (k : Int) := hir.1
  have HA := Lib.hid a
  obtain ⟨c0, _, _⟩ := a.cells
  obtain ⟨cap, e0⟩ := a.rf.cell0
  obtain ⟨m, hm⟩ : ∃ m, (R.slotAt (k : Int)).kids = m := ⟨_, rfl⟩
  rw [hm] at d2 ⊢
  clear a hi hir hm
  go_enter Tryd.func17, Tryd.ntmps17
  go_upto_region 3 with (first | (go_at_call 58; refine (HT.out _).mono ?_; rintro e w' ⟨rfl, rfl⟩))
  refine wp_region_held_tail (S := fun W' => W'.cell? ⟨q, 0, none⟩ = some (.pointer (some ⟨h, 0, none⟩)) ∧ W'.cell? ⟨h, 0, none⟩ = some (.slice (some ⟨b, 0, none⟩) 32 cap) ∧ W'.cell? ⟨b, k * 17 + 2, none⟩ = some (.int .i64 m)) 15 (by kernel_rfl) (by kernel_rfl) rfl ⟨c0, e0, d2⟩ ?_
  simp only [List.take_succ_cons, List.take_zero, List.drop_succ_cons, List.drop_zero]
  iterate 15 (refine wpHeld_cons (fun _ _ _ h => h) (Or.inl ⟨by rfl, by intro w hSw; (try dsimp only at hSw); go_simp; try with_reducible rfl⟩) ?_; try simp only [put_laws])
  intro K' hK
  have HA3 := Lib.hid (HA.out.read (Below.refl _ W).drew)
  have HB3 := Lib.hid ((Below.refl W.heap.size W).drew)
  have f1 : W.drew.cell? ⟨q, 0, none⟩ = some (.pointer (some ⟨h, 0, none⟩)) := c0
  have f2 : W.drew.cell? ⟨h, 0, none⟩ = some (.slice (some ⟨b, 0, none⟩) 32 cap) := e0
  have f3 : W.drew.cell? ⟨b, k * 17 + 2, none⟩ = some (.int .i64 m) := d2
  have hs3 : W.drew.heap.size = W.heap.size := rfl
  generalize hv3 : W.drew = v3 at *
  go_simp
  go_at_call 57
  refine (rall16_from m v3 HA3.out.rf).mono ?_
  rintro e w4 ⟨A4, k4, rfl, hi4, ha4, hb4⟩
  refine hK.out _ _ ⟨(hb4.cell (block_lt_of_cell f1)).trans f1, (hb4.cell (block_lt_of_cell f2)).trans f2, (hb4.cell (block_lt_of_cell f3)).trans f3⟩ (fun _ => ?_)
  have HI := Lib.hid hi4
  have HA4 := Lib.hid ha4
  have HB4 := Lib.hid (HB3.out.trans (hb4.mono (by omega)))
  clear f1 f2 f3 c0 e0 d2 hK hi4 ha4 hb4 hv3
  try simp only [put_laws]
  go_wp2
  go_ret
  exact ⟨A4, k4, rfl, HI.out, fun a e => by have := HA4.out a e; omega, HB4.out⟩
set_option maxHeartbeats 4000000 in
theorem rroots_any (w W : World) (a : RTa w q lo h b R l W) : Calls Tryd.prog 16 #[.pointer (some ⟨q, 0, none⟩)] W (RetRow (R.all l) W) := by
  unfold RetRow
  have HA := Lib.hid a
  obtain ⟨c0, c1, _⟩ := a.cells
  clear a
  go_enter Tryd.func16, Tryd.ntmps16
  go_upto_region 1 with fail
  refine wp_region_held_tail (S := fun W' => W'.cell? ⟨q, 0, none⟩ = some (.pointer (some ⟨h, 0, none⟩)) ∧ W'.cell? ⟨q, 1, none⟩ = some (.int .i64 l)) 8 (by kernel_rfl) (by kernel_rfl) rfl ⟨c0, c1⟩ ?_
  simp only [List.take_succ_cons, List.take_zero, List.drop_succ_cons, List.drop_zero]
  iterate 8 (refine wpHeld_cons (fun _ _ _ h => h) (Or.inl ⟨by rfl, by intro w hSw; (try dsimp only at hSw); go_simp; try with_reducible rfl⟩) ?_; try simp only [put_laws])
  intro K' hK
  have HA3 := Lib.hid (HA.out.read (Below.refl _ W).drew)
  have HB3 := Lib.hid ((Below.refl W.heap.size W).drew)
  have f1 : W.drew.cell? ⟨q, 0, none⟩ = some (.pointer (some ⟨h, 0, none⟩)) := c0
  have f2 : W.drew.cell? ⟨q, 1, none⟩ = some (.int .i64 l) := c1
  have hs3 : W.drew.heap.size = W.heap.size := rfl
  generalize hv3 : W.drew = v3 at *
  go_simp
  go_at_call 57
  refine (rall16_from l v3 HA3.out.rf).mono ?_
  rintro e w4 ⟨A4, k4, rfl, hi4, ha4, hb4⟩
  refine hK.out _ _ ⟨(hb4.cell (block_lt_of_cell f1)).trans f1, (hb4.cell (block_lt_of_cell f2)).trans f2⟩ (fun _ => ?_)
  have HI := Lib.hid hi4
  have HA4 := Lib.hid ha4
  have HB4 := Lib.hid (HB3.out.trans (hb4.mono (by omega)))
  clear f1 f2 c0 c1 hK hi4 ha4 hb4 hv3
  try simp only [put_laws]
  go_wp2
  go_ret
  exact ⟨A4, k4, rfl, HI.out, fun a e => by have := HA4.out a e; omega, HB4.out⟩
set_option maxHeartbeats 8000000 in
theorem runder_any (W0 : World) (a0 : RTa W0 q lo h b R l W0) : ∀ (f i : Nat) (seen : List Nat) (v : Value) (W : World), i < 32 → 33 ≤ f + seen.length → RowOk seen → W.ownsRow W0.heap.size 3 1 v seen.length (intVs (natInts seen)) → Below W0.heap.size W0 W →
    Calls Tryd.prog 59 #[.pointer (some ⟨q, 0, none⟩), .int .i64 i, v] W (fun e W' => ∃ v', e = .returned v' ∧ Handed W W0.heap.size v (R.undr f i seen) W' v') := by
  intro f
  induction f with
  | zero => intro i seen v W hi hf hr; have := hr.len; omega
  | succ f ih =>
    intro i seen v W hi hf hr hown hbel
    obtain ⟨ii, iz, hi0, hz0, hz1, hz2, hz3⟩ := intInfo
    obtain ⟨p0, c0, rfl⟩ := owns_slice hown
    obtain ⟨Ao, co, ho, hio⟩ := owns_intsAt hown
    obtain ⟨rfl, rfl⟩ : p0 = Ao ∧ c0 = co := by injection ho with h1 _ h3; exact ⟨h1, h3⟩
    have hl := hr.len
    have HAS := Lib.hid (has17_any p0 c0 seen.length seen rfl (by omega) i W hio)
    have hA : ∀ r, (Value.slice p0 seen.length c0).ownBlock = some r → W0.heap.size ≤ r ∧ r < W.heap.size := fun r e => hown.lt r e
    have HAA := Lib.hid hA
    have HO := Lib.hid hown
    have HB := Lib.hid hbel
    have hs0 := hbel.size
    clear ho hio hown hbel hA
    by_cases hm : i ∈ seen
    · rw [undr_in hm]
      rw [decide_eq_true hm] at HAS
      clear hm
      go_enter Tryd.func59, Tryd.ntmps59
      go_wp2_with (first | (go_at_call 89; refine HAS.out.mono ?_; rintro e w' ⟨rfl, rfl⟩))
      go_ret
      exact ⟨_, rfl, HO.out, ⟨rfl, rfl, rfl, Nat.le_refl _, fun _ _ _ => rfl⟩, LiesFrom.refl _ _⟩
    · have hfin := undr_new (R := R) (f := f) hm
      have hrow := hr.snoc hi hm
      rw [decide_eq_false hm] at HAS
      have HF := Lib.hid hfin
      have h1 : seen.length + 1 ≤ maxLen := by unfold maxLen; omega
      have h2 : (seen.length + 1) * 8 ≤ 140737488355328 := by omega
      have H1 := Lib.hid h1
      have H2 := Lib.hid h2
      have hlen1 : (seen ++ [i]).length = seen.length + 1 := by simp
      clear hm hfin h1 h2
      have HIH := Lib.hid ih
      clear ih
      obtain ⟨v, hv⟩ : ∃ v, Value.slice p0 seen.length c0 = v := ⟨_, rfl⟩
      have HV := Lib.hid hv
      rw [hv] at HAA HO
      clear hv
      go_enter Tryd.func59, Tryd.ntmps59
      go_wp2_with (first
        | (go_at_call 89; refine HAS.out.mono ?_; rintro e w' ⟨rfl, rfl⟩)
        | (refine wpList_append_one_lies rfl _ _ 46 rfl Tryd.underlying46 hi0 hz0 hz1 hz2 hz3 (by decide) (v := v) HV.out HO.out rfl rfl (int_one _) H1.out H2.out (by omega) ?_; intro g1 cap1 w1 hown1 hgr1 hlie1)
        | (go_at_call 17; fail))
      have hrow1 : w1.ownsRow W0.heap.size 3 1 (.slice (some ⟨g1, 0, none⟩) (seen.length + 1) cap1) (seen ++ [i]).length (intVs (natInts (seen ++ [i]))) := by rw [natInts_snoc, hlen1]; exact hown1
      have hb1 : Below W0.heap.size W0 w1 := HB.out.trans ⟨hgr1.os, hgr1.tape, hgr1.output, hgr1.size, fun k hk => hgr1.block k (by omega) (fun e => by have := (HAA.out k e.symm).1; omega)⟩
      have hs1 := hgr1.size
      have LIE1 := Lib.hid (show LiesFrom W.heap.size v.ownBlock (Value.slice (some ⟨g1, 0, none⟩) (seen.length + 1) cap1).ownBlock from by
        rcases hlie1 with h | h
        · exact .inl h.symm
        · exact .inr (fun r e => by (have : g1 = r := by simpa [Value.ownBlock] using e); omega))
      have HG1 := Lib.hid hgr1
      have HR1 := Lib.hid hrow1
      have HB1 := Lib.hid hb1
      have hg1 : g1 < w1.heap.size := (hrow1.lt g1 rfl).2
      clear hown1 hgr1 hlie1 hrow1 hb1
      refine (rkids_any (i : Int) W0 w1 (a0.read HB1.out)).mono ?_
      rintro e w2 ⟨A, cA, rfl, hiA, haA, hb2⟩
      have hs2 := hb2.size
      have HR2 := Lib.hid (HR1.out.kept (grownBy_below hb2 none) (.inr (fun e => by cases e)))
      have HG2 := Lib.hid (grown_chain HG1.out (grownBy_below hb2 v.ownBlock) (LiesFrom.refl _ _))
      have HI2 := Lib.hid hiA
      have HN2 := Lib.hid (show ∀ a, A = some a → (Value.slice (some ⟨g1, 0, none⟩) (seen.length + 1) cap1).ownBlock ≠ some a.block ∧ a.block < w2.heap.size from fun a e => ⟨(fun e2 => by (have h3 : g1 = a.block := by simpa [Value.ownBlock] using e2); have := (haA a e).1; omega), (haA a e).2⟩)
      have hkl := kidsOf_len R (i : Int)
      have HLT := Lib.hid (kidsOf_lt R (i : Int))
      obtain ⟨L, hL⟩ : ∃ L, R.kidsOf (i : Int) = L := ⟨_, rfl⟩
      rw [hL] at HI2 HF hkl HLT ⊢
      obtain ⟨n, hn⟩ : ∃ n, L.length = n := ⟨_, rfl⟩
      have HN := Lib.hid hn
      rw [hn] at hkl ⊢
      clear hiA haA hb2 HG1 HR1 hL hn
      go_wp2
      go_loopw [2, 8] (fun u j wr => ∃ k : Nat, k ≤ n ∧ j = .int .i64 k ∧ wr.ownsRow W0.heap.size 3 1 u ((L.take k).foldl (fun s k => R.undr f k s) (seen ++ [i])).length (intVs (natInts ((L.take k).foldl (fun s k => R.undr f k s) (seen ++ [i])))) ∧ W.grownBy wr v.ownBlock ∧ LiesFrom W.heap.size v.ownBlock u.ownBlock ∧ IntsAt wr A (natInts L) ∧ ∀ a, A = some a → u.ownBlock ≠ some a.block ∧ a.block < wr.heap.size) (fun _ j _ => n - (intOf j).toNat)
      case atStart => exact ⟨0, Nat.zero_le _, rfl, by simpa using HR2.out, HG2.out, LIE1.out, HI2.out, HN2.out⟩
      case round =>
        obtain ⟨k, hk, rfl, hown, hgr, hlie, hin, hne⟩ := hrel
        have hsr := hgr.size
        obtain ⟨Ar, cp, rfl⟩ := owns_slice hown
        have HO3 := Lib.hid hown
        have HG3 := Lib.hid hgr
        have HL3 := Lib.hid hlie
        have HI3 := Lib.hid hin
        have HN3 := Lib.hid hne
        by_cases hlt : k < n
        · have hki : (k : Int) < (n : Int) := by omega
          obtain ⟨x, hx⟩ : ∃ x, L[k]? = some x := ⟨_, List.getElem?_eq_getElem (by rw [HN.out]; exact hlt)⟩
          have hx32 := HLT.out x (List.mem_of_getElem? hx)
          obtain ⟨b3, o3, rfl, hb3, hcs⟩ := hin (by rw [natInts_len, HN.out]; omega)
          have hcell := hcs k (x : Int) (by simp [natInts, hx])
          have htk : L.take (k + 1) = L.take k ++ [x] := by rw [List.take_add_one, hx]; rfl
          have hfr := fold_row R f (L.take k) (seen ++ [i]) (fun y hy => HLT.out y (List.mem_of_mem_take hy)) hrow
          have hbr : Below W0.heap.size W0 wr := HB.out.trans ⟨hgr.os, hgr.tape, hgr.output, hgr.size, fun k hk => hgr.block k (by omega) (fun e => by have := (HAA.out k e.symm).1; omega)⟩
          have hst : (L.take (k + 1)).foldl (fun s k => R.undr f k s) (seen ++ [i]) = R.undr f x ((L.take k).foldl (fun s k => R.undr f k s) (seen ++ [i])) := by rw [htk, fold_snoc]
          have HST := Lib.hid hst
          have HC := Lib.hid (HIH.out x _ _ wr hx32 (by have := hfr.2; rw [hlen1] at this; omega) hfr.1 HO3.out hbr)
          generalize (L.take k).foldl (fun s k => R.undr f k s) (seen ++ [i]) = E at *
          clear hx hcs htk hfr hbr hst hown hgr hlie hin hne
          go_wp2_with (go_at_call 59; fail)
          refine HC.out.mono ?_
          rintro e w5 ⟨v5, rfl, hh5⟩
          have HH := Lib.hid hh5
          have hs5 := hh5.gr.size
          clear hh5 HC
          go_wp2
          go_roundw
          case rel => exact ⟨k + 1, by omega, by go_num, by rw [HST.out]; exact HH.out.row, grown_chain HG3.out HH.out.gr HL3.out, HL3.out.trans hsr HH.out.lie, HI3.out.apart HH.out.gr (fun a e => (HN3.out a e).1), fun a e => ⟨handed_ne HH.out (HN3.out a e).1 (HN3.out a e).2, by have h7 := (HN3.out a e).2; omega⟩⟩
          case measure => simp [intOf] <;> omega
        · obtain rfl : k = n := by omega
          have htk : L.take k = L := List.take_of_length_le (by rw [HN.out]; omega)
          rw [htk] at HO3
          have HO4 := Lib.hid HO3.out
          have hlen : ((L.take k).foldl (fun s k => R.undr f k s) (seen ++ [i])).length = (L.foldl (fun s k => R.undr f k s) (seen ++ [i])).length := by rw [htk]
          have HLEN := Lib.hid hlen
          clear hown hgr hlie hin hne htk HO3 hlen
          go_wp2
          go_ret
          exact ⟨_, rfl, by rw [HV.out, HF.out]; exact ⟨by rw [HLEN.out]; exact HO4.out, HG3.out, HL3.out⟩⟩
theorem runderOf_any (i : Int) (W : World) (a : RTa W q lo h b R l W) : Calls Tryd.prog 18 #[.pointer (some ⟨q, 0, none⟩), .int .i64 i] W (RetRow (R.underOf i) W) := by
  have HT := Lib.hid (fun w => rthereA_any i w)
  unfold St.underOf RetRow
  rcases inR_cases i with hi | hi
  rotate_left
  · rw [if_neg (by simp [hi])]
    rw [hi] at HT
    clear a
    go_enter Tryd.func18, Tryd.ntmps18
    go_wp2_with (first | (go_at_call 58; refine (HT.out _).mono ?_; rintro e w' ⟨rfl, rfl⟩))
    go_ret
    exact ⟨none, 0, rfl, fun hn => by simp [natInts] at hn, fun a e => (by cases e), Below.refl _ _⟩
  rw [if_pos hi]
  rw [hi] at HT
  have hir := inR_iff.1 hi
  obtain ⟨k, rfl⟩ : ∃ k : Nat, i = (k : Int) := ⟨i.toNat, by omega⟩
  rw [Int.toNat_natCast]
  have HU := Lib.hid (runder_any W a 33 k [] (.slice none 0 0) W (by omega) (by simp) RowOk.nil (World.ownsRow_nil _ _ _ _) (Below.refl _ _))
  clear a hi hir
  go_enter Tryd.func18, Tryd.ntmps18
  go_wp2_with (first | (go_at_call 58; refine (HT.out _).mono ?_; rintro e w' ⟨rfl, rfl⟩) | (go_at_call 59; fail))
  refine HU.out.mono ?_
  rintro e w5 ⟨v5, rfl, hh5⟩
  obtain ⟨A, c, rfl, hi, ha⟩ := owns_intsFrom hh5.row
  have HI := Lib.hid hi
  have HA := Lib.hid ha
  have HB := Lib.hid (hh5.below (fun r e => by cases e) (Nat.le_refl _))
  clear hi ha hh5 HU
  go_wp2
  go_ret
  exact ⟨A, c, rfl, HI.out, HA.out, HB.out⟩
end
end Go.Proofs.YtbidgpeeogoglaaDoor
/-
  lineagelaw17: told.
-/
namespace Go.Proofs.YtbidgpeeogoglaaDoor
set_option maxRecDepth 100000
open Go.RowKit Go.Sort

theorem told17_any (no at_ : Int) (h : (at_ = -1 ∧ 0 ≤ no ∧ no ≤ 24) ∨ (no = 24 ∧ 0 ≤ at_ ∧ at_ < 32)) (w : World) (hL : Laid w) : Calls Tryd.prog 27 #[errP no at_, .int .i64 no, .int .i64 at_] w (RetB (.bool true) w) := by
  rcases h with ⟨rfl, h0, h1⟩ | ⟨rfl, h0, h1⟩
  · have e : errP no (-1) = errOf no := by unfold errP errOf; split <;> rfl
    rw [e]
    have HP := Lib.hid (plain_same no h0 h1 w hL)
    generalize errOf no = ev at *
    go_enter Tryd.func27, Tryd.ntmps27
    go_wp2_with (go_at_call 35; fail)
    refine HP.out.mono ?_
    rintro e w2 ⟨rfl, hb⟩
    have HB := Lib.hid hb
    clear hb
    go_wp2
    go_ret
    exact ⟨rfl, HB.out⟩
  · rw [errP_at h0]
    have HP := Lib.hid (at_fault 24 at_ (by omega) (by omega) w hL)
    have hn : ¬ at_ < 0 := by omega
    unfold faultV
    go_enter Tryd.func27, Tryd.ntmps27
    go_wp2_with (go_at_call 66; fail)
    refine HP.out.mono ?_
    rintro e w2 ⟨rfl, hb⟩
    have HB := Lib.hid hb
    clear hb
    go_wp2
    go_ret
    exact ⟨rfl, HB.out⟩
end Go.Proofs.YtbidgpeeogoglaaDoor
/-
  lineagelaw17: same.
-/
namespace Go.Proofs.YtbidgpeeogoglaaDoor
set_option maxRecDepth 100000
open Go.RowKit Go.Sort

set_option maxHeartbeats 4000000 in
theorem same17_any {S R : St} {lo h b g : Nat} (w : World) (hA : IsAr w g S) (hR : IsRB lo h b R w) (hag : Agree S R) : Calls Tryd.prog 29 #[.pointer (some ⟨g, 0, none⟩), .pointer (some ⟨h, 0, none⟩)] w (RetB (.bool true) w) := by
  have HU := Lib.hid Tryd.underlying39
  have HA := Lib.hid hA
  have HR := Lib.hid hR
  have HG := Lib.hid hag
  have hnil : (binOp .neq 55 .nilIface .nilIface).run Tryd.prog w = .ok (.bool false) w := by kernel_rfl
  clear hA hR hag
  go_enter Tryd.func29, Tryd.ntmps29
  go_wp2
  go_loopw [5] (fun i wr => ∃ k : Nat, k ≤ 32 ∧ i = .int .i64 k ∧ Below w.heap.size w wr) (fun i _ => 32 - (intOf i).toNat)
  case atStart => exact ⟨0, by omega, rfl, Below.refl _ _⟩
  case round =>
    obtain ⟨k, hk, rfl, hb⟩ := hrel
    have HB := Lib.hid hb
    by_cases hlt : k < 32
    · have hki : (k : Int) < 32 := by omega
      have hk0 : (0 : Int) ≤ (k : Int) := by omega
      obtain ⟨s, hs⟩ := slot_of HG.out.len hlt
      have hsR : R.slots[k]? = some s := by rw [← HG.out.slots]; exact hs
      have HGA := Lib.hid (get_st hlt hs g wr (HA.out.below hb HA.out.lt))
      have hneq := neq_slot s
      obtain ⟨cap, junk, vF, r⟩ := HR.out.call hb
      have HRR := Lib.hid (And.intro (r.row hsR) r.slots.lt)
      have hhl := r.head.lt
      have c0 := r.head.cell 0
      simp only [List.getElem?_toArray, List.getElem?_cons_zero] at c0
      clear hs hsR hb r
      go_wp2_with (first
        | (go_at_call 54; fail))
      refine HGA.out.mono ?_
      rintro e w2 ⟨rfl, hb2⟩
      have hs2 := hb2.size
      have HB3 := Lib.hid (hb2.alloc hb2.size (.cells s.cells 39))
      have e0 : (w2.alloc (.cells s.cells 39)).cell? ⟨h, 0, none⟩ = some (.slice (some ⟨b, 0, none⟩) 32 cap) := (HB3.out.cell (p := ⟨h, 0, none⟩) hhl).trans c0
      have d0 := cell_regrown e0
      have HR1 := Lib.hid ((Blk.new w2 39 s.cells).row.class_ (by simp))
      have HR2 := Lib.hid ((HRR.out.1.below HB3.out HRR.out.2).class_ (Nat.lt_of_lt_of_le HRR.out.2 HB3.out.size))
      clear hb2 HGA c0
      go_wp2_with (first
        | (refine wpList_store_new (ty := 39) rfl rfl rfl rfl rfl (SlotV.one _) slotInfo ?_))
      refine wp_region_quiet_below (by kernel_rfl) (by kernel_rfl) ?_
      repeat (first
        | go_big_quiet_skip
        | (refine wpQuiet_load_at rfl rfl rfl HR1.out HU.out rfl slotInfo ?_; simp only [Act.put, List.setIfInBounds_toArray, List.set_cons_zero, List.set_cons_succ])
        | (refine wpQuiet_load_at rfl rfl rfl HR2.out HU.out rfl slotInfo ?_; simp only [Act.put, List.setIfInBounds_toArray, List.set_cons_zero, List.set_cons_succ])
        | (go_big_quiet_want; go_big_quiet_op; first | go_big_quiet_on))
      refine wpQuiet_nil ?_
      intro v0 hC
      have HB4 := Lib.hid (HB.out.trans ((HB3.out.trans ((below_class hC).mono HB3.out.size)).mono HB.out.size))
      clear hC HB3 HR1 HR2 e0 d0
      go_wp2
      go_roundw
      case rel => exact ⟨k + 1, by omega, by go_num, HB4.out⟩
      case measure => simp [intOf] <;> omega
    · obtain rfl : k = 32 := by omega
      clear hb
      go_wp2
      go_ret
      exact ⟨rfl, HB.out⟩
end Go.Proofs.YtbidgpeeogoglaaDoor
/-
  lineagelaw17.Act: its cells; a script that may be read.
-/
namespace Go.Proofs.YtbidgpeeogoglaaDoor
set_option maxRecDepth 100000
open Go.RowKit

structure ActT where
  kind : Int
  n : Int
  us : Int
  ub : Int
  s : SlotV
def ActT.cells (x : ActT) : Array Value := #[.int .i64 x.kind, .int .i64 x.n, .int .i64 x.us, .int .i64 x.ub, .bool x.s.used, .bool x.s.dead, .int .i64 x.s.kids, .int .i64 x.s.prev, .int .i64 x.s.next, .int .i64 x.s.slot, .int .i64 x.s.birth, .int .i64 x.s.upSlot, .int .i64 x.s.upBirth, .int .i64 x.s.kind, .string x.s.user, .string x.s.label, .int .u64 x.s.scopes, .int .i64 x.s.level, .int .i64 x.s.born, .int .i64 x.s.deadline, .int .i64 x.s.depth]
theorem ActT.cells_eq (x : ActT) : x.cells = #[.int .i64 x.kind, .int .i64 x.n, .int .i64 x.us, .int .i64 x.ub] ++ x.s.cells := by simp [ActT.cells, SlotV.cells]
def ActT.zero : ActT := ⟨0, 0, 0, 0, SlotV.zero⟩
@[go_sem] theorem ActT.size (x : ActT) : (ActT.cells x).size = 21 := rfl
theorem ActT.one (x : ActT) : ∀ v ∈ (ActT.cells x).toList, v.oneCell' = true := by
  intro v hv
  simp only [ActT.cells_eq, Array.toList_append, List.mem_append] at hv
  rcases hv with hv | hv
  · simp at hv; rcases hv with rfl | rfl | rfl | rfl <;> rfl
  · exact SlotV.one _ v hv
theorem ActT.at0 (x : ActT) : (ActT.cells x)[0]? = some (.int .i64 x.kind) := rfl
theorem ActT.at1 (x : ActT) : (ActT.cells x)[1]? = some (.int .i64 x.n) := rfl
theorem ActT.at2 (x : ActT) : (ActT.cells x)[2]? = some (.int .i64 x.us) := rfl
theorem ActT.at3 (x : ActT) : (ActT.cells x)[3]? = some (.int .i64 x.ub) := rfl
theorem ActT.at4 (x : ActT) {j : Nat} {v : Value} (h : x.s.cells[j]? = some v) : (ActT.cells x)[4 + j]? = some v := by
  rw [ActT.cells_eq, Array.getElem?_append_right (by simp)]
  simpa using h
theorem actTInfo : (Tryd.prog.info? 41).map (·.size) = some 21 := by kernel_rfl
theorem ActT.row {w : World} {g : Nat} {t : TypeId} (x : ActT) (h : Blk w g t x.cells) : RowAt w g 4 x.s.cells := ⟨fun j v hv => by rw [h.cell]; exact x.at4 hv⟩
/-- A script that may be read. -/
def ActTsAt (w : World) (A : Option Addr) (xs : List ActT) : Prop := 0 < xs.length → ∃ b off, A = some ⟨b, off, none⟩ ∧ b < w.heap.size ∧ ∀ k y, xs[k]? = some y → RowAt w b (off + k * 21) y.cells
theorem ActTsAt.below {w w' : World} {A : Option Addr} {xs : List ActT} {B : Nat} (h : ActTsAt w A xs) (hb : Below B w w') (hB : w.heap.size ≤ B) : ActTsAt w' A xs := fun hn => by
  obtain ⟨b, off, rfl, hlt, hc⟩ := h hn
  have hs := hb.size
  exact ⟨b, off, rfl, by omega, fun k i hk => (hc k i hk).below hb (by omega)⟩
end Go.Proofs.YtbidgpeeogoglaaDoor
