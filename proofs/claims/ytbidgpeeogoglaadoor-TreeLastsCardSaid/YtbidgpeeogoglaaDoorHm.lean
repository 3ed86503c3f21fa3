/-
  Merged texts: RfSw, RfTr, RfTr2.
-/
import Derived.Test.YtbidgpeeogoglaaDoorGi
import Derived.Test.YtbidgpeeogoglaaDoorGh
import Derived.Test.YtbidgpeeogoglaaDoorGa
import Derived.Deep.CutRange
import Derived.Test.YtbidgpeeogoglaaDoorHl
import Derived.BigRegion
/-
  The document's garbage (lineageref19), walked: New, Add, Unit.
-/
namespace Go.Proofs.YtbidgpeeogoglaaDoor
set_option maxRecDepth 100000
open Go.RowKit Go.Sort

/-- The document's garbage at q, its arena's head at h, its slots at b; since w nothing else has turned. -/
structure RGa (w : World) (q lo h b : Nat) (R : St) (l : Int) (W : World) : Prop where
  blk : Blk W q 75 #[.pointer (some ⟨h, 0, none⟩), .int .i64 l]
  rf : IsRB lo h b R W
  ne : q ≠ h ∧ q ≠ b
  tn : Tn (fun k => k = q ∨ k = h ∨ k = b) w W
section
variable {w W W' : World} {q lo h b : Nat} {R R' : St} {l l' : Int}
theorem IsRB.other {t : TypeId} {cs : Array Value} (r : IsRB lo h b R W) (hB : Blk W q t cs) (ht : t ≠ 3) (hq : q ≠ h ∧ q ≠ b) (o : Nat) (v : Value) : IsRB lo h b R (W.setCell ⟨q, o, none⟩ v) := by
  obtain ⟨cap, junk, vF, r⟩ := r
  refine ⟨cap, junk, vF, r.head.far (p := ⟨q, o, none⟩) (show h ≠ q from Ne.symm hq.1) v, r.slots.far (p := ⟨q, o, none⟩) (show b ≠ q from Ne.symm hq.2) v, fkept (grownBy_set W q o v) r.free (fun j hj e => ?_), r.len, r.loh, r.lob, r.cap⟩
  subst e
  rcases r.free.2 with ⟨e, _⟩ | ⟨g, c, cur, e, _, hg, _⟩
  · rw [e] at hj; cases hj
  · rw [e] at hj
    obtain rfl : g = j := by simpa [Value.ownBlock] using hj
    have h1 := hB.eq
    rw [hg] at h1
    injection h1 with h1
    injection h1 with _ h1
    exact ht h1.symm
theorem RGa.read (a : RGa w q lo h b R l W) (hb : Below W.heap.size W W') : RGa w q lo h b R l W' := ⟨a.blk.below hb a.blk.lt, a.rf.call hb, a.ne, a.tn.call hb⟩
theorem RGa.turn (a : RGa w q lo h b R l W) (hR : IsRB lo h b R' W') (hT : Tn (fun k => k = h ∨ k = b) W W') : RGa w q lo h b R' l W' :=
  ⟨⟨(hT.block q a.blk.lt (by have := a.ne; omega)).trans a.blk.eq⟩, hR, a.ne, a.tn.trans (hT.mono fun k hk => .inr hk)⟩
theorem RGa.turnL (a : RGa w q lo h b R l W) (hR : IsRB lo h b R' W') (hG : W.grownBy W' (some b)) : RGa w q lo h b R' l W' := a.turn hR (Tn.ofGrown hG (.inr rfl))
theorem RGa.set (a : RGa w q lo h b R l W) (l' : Int) : RGa w q lo h b R l' (W.setCell ⟨q, 1, none⟩ (.int .i64 l')) :=
  ⟨by have := a.blk.set_ 1 (.int .i64 l'); simpa using this, a.rf.other a.blk (by decide) a.ne 1 _, a.ne, a.tn.grown (grownBy_set W q 1 _) (.inl rfl)⟩
theorem RGa.cells (a : RGa w q lo h b R l W) : W.cell? ⟨q, 0, none⟩ = some (.pointer (some ⟨h, 0, none⟩)) ∧ W.cell? ⟨q, 1, none⟩ = some (.int .i64 l) ∧ W.frozen? ⟨q, 1, none⟩ = false := ⟨(a.blk.cell 0).trans rfl, (a.blk.cell 1).trans rfl, a.blk.frozen 1⟩
theorem IsRB.slotc (r : IsRB lo h b R W) {k : Nat} (hk : k < 32) : W.cell? ⟨b, k * 17, none⟩ = some (.bool (R.slotAt k).used) ∧ W.cell? ⟨b, k * 17 + 2, none⟩ = some (.int .i64 (R.slotAt k).kids) ∧ W.cell? ⟨b, k * 17 + 4, none⟩ = some (.int .i64 (R.slotAt k).next) := by
  obtain ⟨cap, junk, vF, r⟩ := r
  obtain ⟨s, hs⟩ := slot_of r.len hk
  have e : R.slotAt (k : Int) = s := by unfold St.slotAt; rw [if_pos (inR_nat hk), Int.toNat_natCast, hs]
  rw [e]
  exact ⟨(r.row hs).at_ 0 _ rfl, (r.row hs).at_ 2 _ rfl, (r.row hs).at_ 4 _ rfl⟩
end
theorem rswNew_any (h : Nat) (w : World) : Calls Tryd.prog 30 #[.pointer (some ⟨h, 0, none⟩)] w fun e w' => e = .returned (.pointer (some ⟨w.heap.size, 0, none⟩)) ∧ Blk w' w.heap.size 75 #[.pointer (some ⟨h, 0, none⟩), .int .i64 (-1)] ∧ Below w.heap.size w w' := by
  go_enter Tryd.func30, Tryd.ntmps30
  go_wp2
  go_ret
  exact ⟨rfl, Blk.new _ _ _, (Below.refl _ _).alloc (Nat.le_refl _) _⟩
def RetG (v : Value) (w : World) (q lo h b : Nat) (R : St) (l : Int) (e : Ending) (w' : World) : Prop := e = .returned v ∧ RGa w q lo h b R l w'
section
variable {R : St} {q lo h b : Nat} {l i : Int}
set_option maxHeartbeats 4000000 in
theorem rgadd_any (w W : World) (a : RGa w q lo h b R l W) : Calls Tryd.prog 70 #[.pointer (some ⟨q, 0, none⟩), .int .i64 i] W (RetG (.tuple #[.int .i64 (R.gadd l i).1.1, .int .i64 (R.gadd l i).1.2]) w q lo h b (R.gadd l i).2.1 (R.gadd l i).2.2) := by
  have HT := Lib.hid (fun (i : Int) w => rthereA_any i w)
  have HA := Lib.hid a
  obtain ⟨c0, c1, f1⟩ := a.cells
  obtain ⟨cap, e0⟩ := a.rf.cell0
  unfold St.gadd
  rcases inR_cases i with hi | hi
  rotate_left
  · rw [if_pos hi]
    clear a
    go_enter Tryd.func70, Tryd.ntmps70
    go_wp2_with (first | (go_at_call 58; refine (HT.out _ _).mono ?_; rintro e w' ⟨rfl, rfl⟩))
    go_ret2
    exact ⟨rfl, HA.out⟩
  rw [if_neg (by simp [hi])]
  have hir := inR_iff.1 hi
  obtain ⟨k, rfl⟩ : ∃ k : Nat, i = (k : Int) := ⟨i.toNat, by omega⟩
  obtain ⟨d0, _, _⟩ := a.rf.slotc (k := k) (by omega)
  have hk32 : (k : Int) < 32 := hir.2
  have hk0 : (0 : Int) ≤ (k : Int) := hir.1
  rcases hu : (R.slotAt (k : Int)).used with _ | _
  · rw [if_pos rfl]
    rw [hu] at d0
    clear a hu
    go_enter Tryd.func70, Tryd.ntmps70
    go_wp2_with (first | (go_at_call 58; refine (HT.out _ _).mono ?_; rintro e w' ⟨rfl, rfl⟩))
    go_ret2
    exact ⟨rfl, HA.out⟩
  rw [if_neg (by simp)]
  rw [hu] at d0
  have PU := Lib.hid (fun W (a : RGa w q lo h b R l W) => (rpush16_any l (k : Int) W a.rf).mono fun e W' ⟨h1, h2, h3⟩ => show e = Ending.returned (tri (R.rpush l k).1) ∧ RGa w q lo h b (R.rpush l k).2 l W' from ⟨h1, a.turnL h2 h3⟩)
  generalize (R.rpush l k).2 = R2 at *
  generalize (R.rpush l k).1 = r at *
  obtain ⟨r1, no, at_⟩ := r
  dsimp only [tri] at PU ⊢
  have x0 := cell_regrown c0
  have x1 := cell_regrown c1
  clear a hu
  by_cases hz : no = 0
  · rw [if_pos hz]
    subst hz
    go_enter Tryd.func70, Tryd.ntmps70
    go_upto_region 5 with (first | (go_at_call 58; refine (HT.out _ _).mono ?_; rintro e w' ⟨rfl, rfl⟩))
    clear x0 x1 c0 c1 f1 e0 d0
    refine wp_region_noPanic ?_
    have td := HA.out.read (Below.refl W.heap.size W).drew
    have kd := And.intro td.cells.1 td.cells.2.1
    go_region_held3 (fun W' => W'.cell? ⟨q, 0, none⟩ = some (.pointer (some ⟨h, 0, none⟩)) ∧ W'.cell? ⟨q, 1, none⟩ = some (.int .i64 l))
      (first | assumption | exact And.intro h4.cells.1 h4.cells.2.1)
      (first
        | (go_at_call 79; refine (PU.out _ (by assumption)).mono ?_; rintro e w4 ⟨rfl, h4⟩))
    refine NoPanic.normal ?_
    obtain ⟨c0, c1, f1⟩ := h4.cells
    have H5 := Lib.hid (h4.set r1)
    clear h4 PU
    go_wp2
    go_ret2
    exact ⟨rfl, H5.out⟩
  · rw [if_neg hz]
    have hz2 : (no != 0) = true := by simpa using hz
    clear hz
    go_enter Tryd.func70, Tryd.ntmps70
    go_upto_region 5 with (first | (go_at_call 58; refine (HT.out _ _).mono ?_; rintro e w' ⟨rfl, rfl⟩))
    clear x0 x1 c0 c1 f1 e0 d0
    refine wp_region_noPanic ?_
    have td := HA.out.read (Below.refl W.heap.size W).drew
    have kd := And.intro td.cells.1 td.cells.2.1
    go_region_held3 (fun W' => W'.cell? ⟨q, 0, none⟩ = some (.pointer (some ⟨h, 0, none⟩)) ∧ W'.cell? ⟨q, 1, none⟩ = some (.int .i64 l))
      (first | assumption | exact And.intro h4.cells.1 h4.cells.2.1)
      (first
        | (go_at_call 79; refine (PU.out _ (by assumption)).mono ?_; rintro e w4 ⟨rfl, h4⟩))
    refine NoPanic.normal ?_
    have H4 := Lib.hid h4
    clear h4 PU
    go_wp2
    go_ret2
    exact ⟨rfl, H4.out⟩
end
end Go.Proofs.YtbidgpeeogoglaaDoor
/-
  The document's tree (lineageref17), walked: New, There, used, ring, set.
-/
namespace Go.Proofs.YtbidgpeeogoglaaDoor
set_option maxRecDepth 100000
open Go.RowKit Go.Sort

/-- The document's tree at q, its arena's head at h, its slots at b; since w nothing else has turned. -/
structure RTa (w : World) (q lo h b : Nat) (R : St) (l : Int) (W : World) : Prop where
  blk : Blk W q 63 #[.pointer (some ⟨h, 0, none⟩), .int .i64 l]
  rf : IsRB lo h b R W
  ne : q ≠ h ∧ q ≠ b
  tn : Tn (fun k => k = q ∨ k = h ∨ k = b) w W
section
variable {w W W' : World} {q lo h b : Nat} {R R' : St} {l l' : Int}
theorem RTa.read (a : RTa w q lo h b R l W) (hb : Below W.heap.size W W') : RTa w q lo h b R l W' := ⟨a.blk.below hb a.blk.lt, a.rf.call hb, a.ne, a.tn.call hb⟩
theorem RTa.turn (a : RTa w q lo h b R l W) (hR : IsRB lo h b R' W') (hT : Tn (fun k => k = h ∨ k = b) W W') : RTa w q lo h b R' l W' :=
  ⟨⟨(hT.block q a.blk.lt (by have := a.ne; omega)).trans a.blk.eq⟩, hR, a.ne, a.tn.trans (hT.mono fun k hk => .inr hk)⟩
theorem RTa.turnL (a : RTa w q lo h b R l W) (hR : IsRB lo h b R' W') (hG : W.grownBy W' (some b)) : RTa w q lo h b R' l W' := a.turn hR (Tn.ofGrown hG (.inr rfl))
theorem RTa.set (a : RTa w q lo h b R l W) (l' : Int) : RTa w q lo h b R l' (W.setCell ⟨q, 1, none⟩ (.int .i64 l')) :=
  ⟨by have := a.blk.set_ 1 (.int .i64 l'); simpa using this, a.rf.other a.blk (by decide) a.ne 1 _, a.ne, a.tn.grown (grownBy_set W q 1 _) (.inl rfl)⟩
theorem RTa.cells (a : RTa w q lo h b R l W) : W.cell? ⟨q, 0, none⟩ = some (.pointer (some ⟨h, 0, none⟩)) ∧ W.cell? ⟨q, 1, none⟩ = some (.int .i64 l) ∧ W.frozen? ⟨q, 1, none⟩ = false := ⟨(a.blk.cell 0).trans rfl, (a.blk.cell 1).trans rfl, a.blk.frozen 1⟩
theorem RTa.here (a : RTa w q lo h b R l W) : RTa W q lo h b R l W := ⟨a.blk, a.rf, a.ne, Tn.refl _ _⟩
/-- .. and a link at bx. -/
structure RTaB (w : World) (q lo h b : Nat) (R : St) (l : Int) (bx : Nat) (us ub : Int) (W : World) : Prop where
  ta : RTa w q lo h b R l W
  bs : Blk W bx 33 #[.int .i64 us, .int .i64 ub]
  ne : bx ≠ q ∧ bx ≠ h ∧ bx ≠ b ∧ w.heap.size ≤ bx
variable {bx : Nat} {us ub : Int}
theorem RTaB.next (t : RTaB w q lo h b R l bx us ub W) (a : RTa W q lo h b R' l' W') : RTaB w q lo h b R' l' bx us ub W' :=
  ⟨⟨a.blk, a.rf, a.ne, t.ta.tn.trans a.tn⟩, ⟨(a.tn.block bx t.bs.lt (by have := t.ne; omega)).trans t.bs.eq⟩, t.ne⟩
theorem RTaB.read (t : RTaB w q lo h b R l bx us ub W) (hb : Below W.heap.size W W') : RTaB w q lo h b R l bx us ub W' := ⟨t.ta.read hb, t.bs.below hb t.bs.lt, t.ne⟩
theorem RTaB.cells (t : RTaB w q lo h b R l bx us ub W) : W.cell? ⟨q, 0, none⟩ = some (.pointer (some ⟨h, 0, none⟩)) ∧ W.cell? ⟨bx, 0, none⟩ = some (.int .i64 us) ∧ W.cell? ⟨bx, 1, none⟩ = some (.int .i64 ub) := ⟨t.ta.cells.1, (t.bs.cell 0).trans rfl, (t.bs.cell 1).trans rfl⟩
theorem RTaB.zero (t : RTaB w q lo h b R l bx us ub W) (x y : Int) : RTaB w q lo h b R l bx x y (W.setRow bx #[.int .i64 x, .int .i64 y]) := by
  have hT : Tn (fun k => k = bx) W (W.setRow bx #[.int .i64 x, .int .i64 y]) := Tn.ofGrown (grownBy_setRow W bx _) rfl
  refine ⟨⟨t.ta.blk.setRow_ne (Ne.symm t.ne.1) _, t.ta.rf.tnq hT (Ne.symm t.ne.2.1) (Ne.symm t.ne.2.2.1) (fun k hk _ => by subst hk; exact ⟨_, _, t.bs, by decide⟩), t.ta.ne, ?_⟩, t.bs.setRow_same _, t.ne⟩
  exact ⟨hT.os.trans t.ta.tn.os, hT.tape.trans t.ta.tn.tape, hT.output.trans t.ta.tn.output, Nat.le_trans t.ta.tn.size hT.size, fun k hk hx => (hT.block k (Nat.lt_of_lt_of_le hk t.ta.tn.size) (by have := t.ne; omega)).trans (t.ta.tn.block k hk hx)⟩
theorem RTa.box (a : RTa w q lo h b R l W) (us ub : Int) (hw : w.heap.size ≤ W.heap.size) : RTaB w q lo h b R l W.heap.size us ub (W.alloc (.cells #[.int .i64 us, .int .i64 ub] 33)) :=
  ⟨a.read ((Below.refl _ _).alloc (Nat.le_refl _) _), Blk.new _ _ _, by have h1 := a.blk.lt; have h2 := a.rf.los; omega⟩
/-- A cell of a slot is set. -/
theorem RTa.cell_ (a : RTa w q lo h b R l W) {k j : Nat} {s s' : SlotV} (hs : R.slots[k]? = some s) (hj : j < 17) (v : Value) (hv : s.cells.toList.set j v = s'.cells.toList) : RTa w q lo h b (R.upd k s') l (W.setCell ⟨b, k * 17 + j, none⟩ v) := by
  obtain ⟨cap, junk, vF, r⟩ := a.rf
  exact a.turnL ⟨cap, junk, vF, r.setF hs hj v hv⟩ (grownBy_set W b _ v)
theorem RTaB.cell_ (t : RTaB w q lo h b R l bx us ub W) {k j : Nat} {s s' : SlotV} (hs : R.slots[k]? = some s) (hj : j < 17) (v : Value) (hv : s.cells.toList.set j v = s'.cells.toList) : RTaB w q lo h b (R.upd k s') l bx us ub (W.setCell ⟨b, k * 17 + j, none⟩ v) :=
  ⟨t.ta.cell_ hs hj v hv, t.bs.far (p := ⟨b, k * 17 + j, none⟩) (show bx ≠ b from t.ne.2.2.1) v, t.ne⟩
theorem IsRB.slotd (r : IsRB lo h b R W) {k : Nat} (hk : k < 32) : W.cell? ⟨b, k * 17 + 6, none⟩ = some (.int .i64 (R.slotAt k).birth) ∧ W.cell? ⟨b, k * 17 + 7, none⟩ = some (.int .i64 (R.slotAt k).upSlot) ∧ W.cell? ⟨b, k * 17 + 8, none⟩ = some (.int .i64 (R.slotAt k).upBirth) := by
  obtain ⟨cap, junk, vF, r⟩ := r
  obtain ⟨s, hs⟩ := slot_of r.len hk
  have e : R.slotAt (k : Int) = s := by unfold St.slotAt; rw [if_pos (inR_nat hk), Int.toNat_natCast, hs]
  rw [e]
  exact ⟨(r.row hs).at_ 6 _ rfl, (r.row hs).at_ 7 _ rfl, (r.row hs).at_ 8 _ rfl⟩
theorem IsRB.slotf (r : IsRB lo h b R W) {k : Nat} (hk : k < 32) (j : Nat) (hj : j < 17) : W.frozen? ⟨b, k * 17 + j, none⟩ = false := by
  obtain ⟨cap, junk, vF, r⟩ := r
  exact r.slots.frozen _
end
theorem slot_at {R : St} (hl : R.slots.length = 32) {k : Nat} (hk : k < 32) : R.slots[k]? = some (R.slotAt (k : Int)) := by
  obtain ⟨s, hs⟩ := slot_of hl hk
  unfold St.slotAt
  rw [if_pos (inR_nat hk), Int.toNat_natCast, hs]
theorem rtrNew_any (h : Nat) (w : World) : Calls Tryd.prog 10 #[.pointer (some ⟨h, 0, none⟩)] w fun e w' => e = .returned (.pointer (some ⟨w.heap.size, 0, none⟩)) ∧ Blk w' w.heap.size 63 #[.pointer (some ⟨h, 0, none⟩), .int .i64 (-1)] ∧ Below w.heap.size w w' := by
  go_enter Tryd.func10, Tryd.ntmps10
  go_wp2
  go_ret
  exact ⟨rfl, Blk.new _ _ _, (Below.refl _ _).alloc (Nat.le_refl _) _⟩
theorem IsRB.flen' {lo h b : Nat} {R : St} {W : World} (r : IsRB lo h b R W) : R.slots.length = 32 := by obtain ⟨_, _, _, r⟩ := r; exact r.len
section
variable {R : St} {q lo h b : Nat} {l : Int}
set_option maxHeartbeats 4000000 in
theorem rused_any (i : Int) (w W : World) (a : RTa w q lo h b R l W) : Calls Tryd.prog 77 #[.pointer (some ⟨q, 0, none⟩), .int .i64 i] W (RetSame (.int .i64 (R.tused i)) W) := by
  have HT := Lib.hid (fun w => rthereA_any i w)
  obtain ⟨c0, c1, f1⟩ := a.cells
  obtain ⟨cap, e0⟩ := a.rf.cell0
  unfold St.tused
  rcases inR_cases i with hi | hi
  rotate_left
  · rw [if_pos hi]
    rw [hi] at HT
    clear a
    go_enter Tryd.func77, Tryd.ntmps77
    go_wp2_with (first | (go_at_call 58; refine (HT.out _).mono ?_; rintro e w' ⟨rfl, rfl⟩))
    go_ret
    exact ⟨rfl, rfl⟩
  rw [if_neg (by simp [hi])]
  have hir := inR_iff.1 hi
  rw [hi] at HT
  obtain ⟨k, rfl⟩ : ∃ k : Nat, i = (k : Int) := ⟨i.toNat, by omega⟩
  obtain ⟨d0, _, _⟩ := a.rf.slotc (k := k) (by omega)
  have hk32 : (k : Int) < 32 := hir.2
  have hk0 : (0 : Int) ≤ (k : Int) := hir.1
  rcases hu : (R.slotAt (k : Int)).used with _ | _
  all_goals
    rw [hu] at d0
    clear a hu hi hir
    go_enter Tryd.func77, Tryd.ntmps77
    go_wp2_with (first | (go_at_call 58; refine (HT.out _).mono ?_; rintro e w' ⟨rfl, rfl⟩))
    go_ret
    exact ⟨rfl, rfl⟩
set_option maxHeartbeats 8000000 in
theorem rthere_out {us ub : Int} (hi : inR us = false) (w W : World) (a : RTa w q lo h b R l W) : Calls Tryd.prog 78 #[.pointer (some ⟨q, 0, none⟩), .agg #[.int .i64 us, .int .i64 ub]] W (RetB (.bool false) W) := by
  obtain ⟨V, hV⟩ : ∃ V, W.alloc (.cells #[.int .i64 us, .int .i64 ub] 33) = V := ⟨_, rfl⟩
  obtain ⟨bx, hbx⟩ : ∃ bx, W.heap.size = bx := ⟨_, rfl⟩
  have HL := Lib.hid (show RTaB w q lo h b R l bx us ub V by rw [← hV, ← hbx]; exact a.box us ub a.tn.size)
  have HB := Lib.hid (show Below W.heap.size W V by rw [← hV]; exact (Below.refl _ _).alloc (Nat.le_refl _) _)
  obtain ⟨cap, e0⟩ := HL.out.ta.rf.cell0
  obtain ⟨c0, x0, x1⟩ := HL.out.cells
  have c1 := HL.out.ta.cells.2.1
  have HV := Lib.hid hV
  have HBX := Lib.hid hbx
  clear hV hbx a
  have hT := fun (d : Nat) (os : Array Obj) => Calls.regrown_of (same_b (rthereA_any us (grow (redrawn V d) os)))
  rw [hi] at hT
  clear hi
  have HQ := Lib.hid hT
  have y1 := cell_regrown c0
  have y2 := cell_regrown x0
  have y3 := cell_regrown x1
  have y4 := cell_regrown e0
  clear hT
  go_enter Tryd.func78, Tryd.ntmps78
  go_upto_region 1 with fail
  rw [HV.out, HBX.out]
  refine wp_region_quiet_below (by kernel_rfl) (by kernel_rfl) ?_
  repeat (first | go_big_quiet_skip | (go_big_quiet_want; go_big_quiet_op; first | go_big_quiet_on | go_big_quiet_call (with_reducible exact HQ.out _ _)))
  refine wpQuiet_nil ?_
  intro v0 hC
  have hb0 := below_class hC
  have HB0 := Lib.hid (HB.out.trans (hb0.mono HB.out.size))
  clear hC hb0 y1 y2 y3 y4 c0 x0 x1 e0 c1
  go_wp2
  go_ret
  exact ⟨rfl, HB0.out⟩
set_option maxHeartbeats 8000000 in
theorem rthere_unused {us ub : Int} (hi : inR us = true) (hu : (R.slotAt us).used = false) (w W : World) (a : RTa w q lo h b R l W) : Calls Tryd.prog 78 #[.pointer (some ⟨q, 0, none⟩), .agg #[.int .i64 us, .int .i64 ub]] W (RetB (.bool false) W) := by
  obtain ⟨V, hV⟩ : ∃ V, W.alloc (.cells #[.int .i64 us, .int .i64 ub] 33) = V := ⟨_, rfl⟩
  obtain ⟨bx, hbx⟩ : ∃ bx, W.heap.size = bx := ⟨_, rfl⟩
  have HL := Lib.hid (show RTaB w q lo h b R l bx us ub V by rw [← hV, ← hbx]; exact a.box us ub a.tn.size)
  have HB := Lib.hid (show Below W.heap.size W V by rw [← hV]; exact (Below.refl _ _).alloc (Nat.le_refl _) _)
  obtain ⟨cap, e0⟩ := HL.out.ta.rf.cell0
  obtain ⟨c0, x0, x1⟩ := HL.out.cells
  have c1 := HL.out.ta.cells.2.1
  have HV := Lib.hid hV
  have HBX := Lib.hid hbx
  clear hV hbx a
  have hT := fun (d : Nat) (os : Array Obj) => Calls.regrown_of (same_b (rthereA_any us (grow (redrawn V d) os)))
  have hir := inR_iff.1 hi
  rw [hi] at hT
  obtain ⟨k, rfl⟩ : ∃ k : Nat, us = (k : Int) := ⟨us.toNat, by omega⟩
  obtain ⟨d0, _, _⟩ := HL.out.ta.rf.slotc (k := k) (by omega)
  obtain ⟨d6, _, _⟩ := HL.out.ta.rf.slotd (k := k) (by omega)
  have hk32 : (k : Int) < 32 := hir.2
  have hk0 : (0 : Int) ≤ (k : Int) := hir.1
  rw [hu] at d0
  have z0 := cell_regrown d0
  have z6 := cell_regrown d6
  clear hu
  clear hi hir
  have HQ := Lib.hid hT
  have y1 := cell_regrown c0
  have y2 := cell_regrown x0
  have y3 := cell_regrown x1
  have y4 := cell_regrown e0
  clear hT
  go_enter Tryd.func78, Tryd.ntmps78
  go_upto_region 1 with fail
  rw [HV.out, HBX.out]
  refine wp_region_quiet_below (by kernel_rfl) (by kernel_rfl) ?_
  repeat (first | go_big_quiet_skip | (go_big_quiet_want; go_big_quiet_op; first | go_big_quiet_on | go_big_quiet_call (with_reducible exact HQ.out _ _)))
  refine wpQuiet_nil ?_
  intro v0 hC
  have hb0 := below_class hC
  have HB0 := Lib.hid (HB.out.trans (hb0.mono HB.out.size))
  clear hC hb0 y1 y2 y3 y4 c0 x0 x1 e0 c1
  go_wp2
  go_ret
  exact ⟨rfl, HB0.out⟩
set_option maxHeartbeats 8000000 in
theorem rthere_birth {us ub : Int} {v : Bool} (hi : inR us = true) (hu : (R.slotAt us).used = true) (hb : ((R.slotAt us).birth == ub) = v) (w W : World) (a : RTa w q lo h b R l W) : Calls Tryd.prog 78 #[.pointer (some ⟨q, 0, none⟩), .agg #[.int .i64 us, .int .i64 ub]] W (RetB (.bool v) W) := by
  obtain ⟨V, hV⟩ : ∃ V, W.alloc (.cells #[.int .i64 us, .int .i64 ub] 33) = V := ⟨_, rfl⟩
  obtain ⟨bx, hbx⟩ : ∃ bx, W.heap.size = bx := ⟨_, rfl⟩
  have HL := Lib.hid (show RTaB w q lo h b R l bx us ub V by rw [← hV, ← hbx]; exact a.box us ub a.tn.size)
  have HB := Lib.hid (show Below W.heap.size W V by rw [← hV]; exact (Below.refl _ _).alloc (Nat.le_refl _) _)
  obtain ⟨cap, e0⟩ := HL.out.ta.rf.cell0
  obtain ⟨c0, x0, x1⟩ := HL.out.cells
  have c1 := HL.out.ta.cells.2.1
  have HV := Lib.hid hV
  have HBX := Lib.hid hbx
  clear hV hbx a
  have hT := fun (d : Nat) (os : Array Obj) => Calls.regrown_of (same_b (rthereA_any us (grow (redrawn V d) os)))
  have hir := inR_iff.1 hi
  rw [hi] at hT
  obtain ⟨k, rfl⟩ : ∃ k : Nat, us = (k : Int) := ⟨us.toNat, by omega⟩
  obtain ⟨d0, _, _⟩ := HL.out.ta.rf.slotc (k := k) (by omega)
  obtain ⟨d6, _, _⟩ := HL.out.ta.rf.slotd (k := k) (by omega)
  have hk32 : (k : Int) < 32 := hir.2
  have hk0 : (0 : Int) ≤ (k : Int) := hir.1
  rw [hu] at d0
  have z0 := cell_regrown d0
  have z6 := cell_regrown d6
  clear hu
  clear hi hir
  have HQ := Lib.hid hT
  have y1 := cell_regrown c0
  have y2 := cell_regrown x0
  have y3 := cell_regrown x1
  have y4 := cell_regrown e0
  clear hT
  go_enter Tryd.func78, Tryd.ntmps78
  go_upto_region 1 with fail
  rw [HV.out, HBX.out]
  refine wp_region_quiet_below (by kernel_rfl) (by kernel_rfl) ?_
  repeat (first | go_big_quiet_skip | (go_big_quiet_want; go_big_quiet_op; first | go_big_quiet_on | go_big_quiet_call (with_reducible exact HQ.out _ _)))
  refine wpQuiet_nil ?_
  intro v0 hC
  have hb0 := below_class hC
  have HB0 := Lib.hid (HB.out.trans (hb0.mono HB.out.size))
  clear hC hb0 y1 y2 y3 y4 c0 x0 x1 e0 c1
  go_wp2
  go_ret
  exact ⟨rfl, HB0.out⟩
theorem rtthere_any (us ub : Int) (w W : World) (a : RTa w q lo h b R l W) : Calls Tryd.prog 78 #[.pointer (some ⟨q, 0, none⟩), .agg #[.int .i64 us, .int .i64 ub]] W (RetB (.bool (R.there us ub)) W) := by
  unfold St.there
  rcases inR_cases us with hi | hi
  · rw [hi]
    rcases hu : (R.slotAt us).used with _ | _
    · exact rthere_unused hi hu w W a
    · simp only [Bool.and_self, Bool.true_and]
      exact rthere_birth hi hu rfl w W a
  · rw [hi]
    exact rthere_out hi w W a
set_option maxHeartbeats 8000000 in
theorem rring_any {us ub : Int} (hi : ub = 0 ∨ inR us = true) (w W : World) (a : RTa w q lo h b R l W) : Calls Tryd.prog 80 #[.pointer (some ⟨q, 0, none⟩), .agg #[.int .i64 us, .int .i64 ub]] W (RetB (.int .i64 (R.tring l us ub)) W) := by
  unfold St.tring
  have e1 : (W.alloc (.cells #[.int .i64 us, .int .i64 ub] 33)).cell? ⟨W.heap.size, 1, none⟩ = some (.int .i64 ub) := ((Blk.new _ _ _).cell 1).trans rfl
  have e2 : (W.alloc (.cells #[.int .i64 us, .int .i64 ub] 33)).cell? ⟨q, 1, none⟩ = some (.int .i64 l) := ((a.box us ub a.tn.size).ta.cells).2.1
  obtain ⟨V, hV⟩ : ∃ V, W.alloc (.cells #[.int .i64 us, .int .i64 ub] 33) = V := ⟨_, rfl⟩
  obtain ⟨bx, hbx⟩ : ∃ bx, W.heap.size = bx := ⟨_, rfl⟩
  have HL := Lib.hid (show RTaB w q lo h b R l bx us ub V by rw [← hV, ← hbx]; exact a.box us ub a.tn.size)
  have HB := Lib.hid (show Below W.heap.size W V by rw [← hV]; exact (Below.refl _ _).alloc (Nat.le_refl _) _)
  obtain ⟨cap, e0⟩ := HL.out.ta.rf.cell0
  obtain ⟨c0, x0, x1⟩ := HL.out.cells
  have c1 := HL.out.ta.cells.2.1
  have HV := Lib.hid hV
  have HBX := Lib.hid hbx
  clear hV hbx a
  by_cases hub : ub = 0
  · rw [if_pos hub]
    have hub2 : (ub == 0) = true := by simpa using hub
    clear hub hi
    go_enter Tryd.func80, Tryd.ntmps80
    go_wp2
    go_ret
    rw [HV.out]
    exact ⟨rfl, HB.out⟩
  · rw [if_neg hub]
    have hub2 : (ub == 0) = false := by simpa using hub
    have hi2 := hi.resolve_left hub
    have hir := inR_iff.1 hi2
    obtain ⟨k, rfl⟩ : ∃ k : Nat, us = (k : Int) := ⟨us.toNat, by omega⟩
    obtain ⟨_, d2, _⟩ := HL.out.ta.rf.slotc (k := k) (by omega)
    have hk32 : (k : Int) < 32 := hir.2
    have hk0 : (0 : Int) ≤ (k : Int) := hir.1
    have HQ := trivial
    have z2 := cell_regrown d2
    have y1 := cell_regrown c0
    have y2 := cell_regrown x0
    have y4 := cell_regrown e0
    clear hub hi hi2 hir
    go_enter Tryd.func80, Tryd.ntmps80
    go_upto_region 3 with fail
    rw [HV.out, HBX.out]
    refine wp_region_quiet_below (by kernel_rfl) (by kernel_rfl) ?_
    repeat (first | go_big_quiet_skip | (go_big_quiet_want; go_big_quiet_op; first | go_big_quiet_on | go_big_quiet_call (with_reducible exact HQ.out _ _)))
    refine wpQuiet_nil ?_
    intro v0 hC
    have hb0 := below_class hC
    have HB0 := Lib.hid (HB.out.trans (hb0.mono HB.out.size))
    clear hC hb0 y1 y2 y4 z2 d2 c0 x0 x1 e0 c1
    go_wp2
    go_ret
    exact ⟨rfl, HB0.out⟩
set_option maxHeartbeats 8000000 in
theorem rset_any {us ub last : Int} (hi : ub = 0 ∨ inR us = true) (w W : World) (a : RTa w q lo h b R l W) : Calls Tryd.prog 81 #[.pointer (some ⟨q, 0, none⟩), .agg #[.int .i64 us, .int .i64 ub], .int .i64 last] W (fun e W' => e = .returned (.tuple #[]) ∧ RTa w q lo h b (R.tset l us ub last).1 (R.tset l us ub last).2 W') := by
  unfold St.tset
  have e1 : (W.alloc (.cells #[.int .i64 us, .int .i64 ub] 33)).cell? ⟨W.heap.size, 1, none⟩ = some (.int .i64 ub) := ((Blk.new _ _ _).cell 1).trans rfl
  have e2 : (W.alloc (.cells #[.int .i64 us, .int .i64 ub] 33)).cell? ⟨q, 1, none⟩ = some (.int .i64 l) := ((a.box us ub a.tn.size).ta.cells).2.1
  have e3 : (W.alloc (.cells #[.int .i64 us, .int .i64 ub] 33)).frozen? ⟨q, 1, none⟩ = false := ((a.box us ub a.tn.size).ta.cells).2.2
  obtain ⟨V, hV⟩ : ∃ V, W.alloc (.cells #[.int .i64 us, .int .i64 ub] 33) = V := ⟨_, rfl⟩
  obtain ⟨bx, hbx⟩ : ∃ bx, W.heap.size = bx := ⟨_, rfl⟩
  have HL := Lib.hid (show RTaB w q lo h b R l bx us ub V by rw [← hV, ← hbx]; exact a.box us ub a.tn.size)
  have HB := Lib.hid (show Below W.heap.size W V by rw [← hV]; exact (Below.refl _ _).alloc (Nat.le_refl _) _)
  obtain ⟨cap, e0⟩ := HL.out.ta.rf.cell0
  obtain ⟨c0, x0, x1⟩ := HL.out.cells
  have c1 := HL.out.ta.cells.2.1
  have HV := Lib.hid hV
  have HBX := Lib.hid hbx
  clear hV hbx a
  by_cases hub : ub = 0
  · rw [if_pos hub]
    have hub2 : (ub == 0) = true := by simpa using hub
    clear hub hi
    go_enter Tryd.func81, Tryd.ntmps81
    go_wp2
    first | go_end0 | refine bodyPost_ret (v := .tuple #[]) (results_none rfl _ _ _) rfl ?_ | refine bodyPost_end (v := .tuple #[]) (results_none rfl _ _ _) rfl ?_
    rw [HV.out]
    exact ⟨rfl, HL.out.ta.set last⟩
  · rw [if_neg hub]
    have hub2 : (ub == 0) = false := by simpa using hub
    have hi2 := hi.resolve_left hub
    have hir := inR_iff.1 hi2
    obtain ⟨k, rfl⟩ : ∃ k : Nat, us = (k : Int) := ⟨us.toNat, by omega⟩
    obtain ⟨_, d2, _⟩ := HL.out.ta.rf.slotc (k := k) (by omega)
    have f2 := HL.out.ta.rf.slotf (k := k) (by omega) 2 (by omega)
    have hk32 : (k : Int) < 32 := hir.2
    have hk0 : (0 : Int) ≤ (k : Int) := hir.1
    have HS := Lib.hid (slot_at HL.out.ta.rf.flen' (k := k) (by omega))
    clear hub hi hi2 hir
    go_enter Tryd.func81, Tryd.ntmps81
    go_upto_region 3 with fail
    rw [HV.out, HBX.out]
    go_region
    go_wp2
    first | go_end0 | refine bodyPost_ret (v := .tuple #[]) (results_none rfl _ _ _) rfl ?_ | refine bodyPost_end (v := .tuple #[]) (results_none rfl _ _ _) rfl ?_
    exact ⟨rfl, by rw [Int.toNat_natCast]; exact (HL.out.ta.cell_ HS.out (by omega) _ rfl).read (Below.refl _ _).drew⟩
end
end Go.Proofs.YtbidgpeeogoglaaDoor
/-
  The document's tree: Add, Cut.
-/
namespace Go.Proofs.YtbidgpeeogoglaaDoor
set_option maxRecDepth 100000
open Go.RowKit Go.Sort

theorem upd_upd (R : St) (k : Nat) (s t : SlotV) : (R.upd k s).upd k t = R.upd k t := by unfold St.upd; simp
theorem upd_at {R : St} (hl : R.slots.length = 32) {k : Nat} (hk : k < 32) (s : SlotV) : (R.upd k s).slots[k]? = some s := by
  unfold St.upd
  dsimp only
  rw [List.getElem?_set_self (by omega)]
theorem upd_len {R : St} (k : Nat) (s : SlotV) : (R.upd k s).slots.length = R.slots.length := by unfold St.upd; simp
section
variable {R : St} {q lo h b : Nat} {l i us ub : Int}
def RetTD (w : World) (q lo h b : Nat) (r : (Int × Int) × St × Int) (e : Ending) (W' : World) : Prop := e = .returned (.tuple #[.int .i64 r.1.1, .int .i64 r.1.2]) ∧ RTa w q lo h b r.2.1 r.2.2 W'
set_option maxHeartbeats 8000000 in
theorem rtadd_used (hk : R.tused i ≠ 0) (w W : World) (a : RTa w q lo h b R l W) : Calls Tryd.prog 49 #[.pointer (some ⟨q, 0, none⟩), .int .i64 i, .agg #[.int .i64 us, .int .i64 ub]] W (RetTD w q lo h b ((R.tused i, -1), R, l)) := by
  obtain ⟨V, hV⟩ : ∃ V, W.alloc (.cells #[.int .i64 us, .int .i64 ub] 33) = V := ⟨_, rfl⟩
  obtain ⟨bx, hbx⟩ : ∃ bx, W.heap.size = bx := ⟨_, rfl⟩
  have HL := Lib.hid (show RTaB w q lo h b R l bx us ub V by rw [← hV, ← hbx]; exact a.box us ub a.tn.size)
  have HV := Lib.hid hV
  have HBX := Lib.hid hbx
  have HUS := Lib.hid (rused_any i V V HL.out.ta.here)
  generalize R.tused i = k at *
  have hkk : (k != 0) = true := by simpa using hk
  clear hk
  clear hV hbx a
  go_enter Tryd.func49, Tryd.ntmps49
  go_wp2_with (go_at_call 77; fail)
  rw [HV.out, HBX.out]
  refine HUS.out.mono ?_
  rintro e w2 ⟨rfl, rfl⟩
  go_wp2
  go_ret2
  exact ⟨rfl, HL.out.ta⟩
set_option maxHeartbeats 8000000 in
theorem rtadd_out (hk : R.tused i = 0) (hub : ub ≠ 0) (hi : inR us = false) (w W : World) (a : RTa w q lo h b R l W) : Calls Tryd.prog 49 #[.pointer (some ⟨q, 0, none⟩), .int .i64 i, .agg #[.int .i64 us, .int .i64 ub]] W (RetTD w q lo h b ((1, -1), R, l)) := by
  obtain ⟨V, hV⟩ : ∃ V, W.alloc (.cells #[.int .i64 us, .int .i64 ub] 33) = V := ⟨_, rfl⟩
  obtain ⟨bx, hbx⟩ : ∃ bx, W.heap.size = bx := ⟨_, rfl⟩
  have HL := Lib.hid (show RTaB w q lo h b R l bx us ub V by rw [← hV, ← hbx]; exact a.box us ub a.tn.size)
  have HV := Lib.hid hV
  have HBX := Lib.hid hbx
  have HUS := Lib.hid (rused_any i V V HL.out.ta.here)
  rw [hk] at HUS
  clear hk
  have hubf : (ub == 0) = false := by simpa using hub
  have HT := Lib.hid (fun w => rthereA_any us w)
  rw [hi] at HT
  clear hi hub
  clear hV hbx a
  go_enter Tryd.func49, Tryd.ntmps49
  go_wp2_with (go_at_call 77; fail)
  rw [HV.out, HBX.out]
  refine HUS.out.mono ?_
  rintro e w2 ⟨rfl, rfl⟩
  obtain ⟨c0, e0, e1⟩ := HL.out.cells
  go_wp2_with (first | (go_at_call 58; refine (HT.out _).mono ?_; rintro e w' ⟨rfl, rfl⟩))
  go_ret2
  exact ⟨rfl, HL.out.ta⟩
set_option maxHeartbeats 8000000 in
theorem rtadd_twice (hk : R.tused i = 0) (hub : ub ≠ 0) (hi : inR us = true) (he : Hid (us = i)) (w W : World) (a : RTa w q lo h b R l W) : Calls Tryd.prog 49 #[.pointer (some ⟨q, 0, none⟩), .int .i64 i, .agg #[.int .i64 us, .int .i64 ub]] W (RetTD w q lo h b ((9, -1), R, l)) := by
  obtain ⟨V, hV⟩ : ∃ V, W.alloc (.cells #[.int .i64 us, .int .i64 ub] 33) = V := ⟨_, rfl⟩
  obtain ⟨bx, hbx⟩ : ∃ bx, W.heap.size = bx := ⟨_, rfl⟩
  have HL := Lib.hid (show RTaB w q lo h b R l bx us ub V by rw [← hV, ← hbx]; exact a.box us ub a.tn.size)
  have HV := Lib.hid hV
  have HBX := Lib.hid hbx
  have HUS := Lib.hid (rused_any i V V HL.out.ta.here)
  rw [hk] at HUS
  clear hk
  have hubf : (ub == 0) = false := by simpa using hub
  have HT := Lib.hid (fun w => rthereA_any us w)
  rw [hi] at HT
  have hee : (us == i) = true := by simpa using he.out
  clear hi hub
  clear hV hbx a
  go_enter Tryd.func49, Tryd.ntmps49
  go_wp2_with (go_at_call 77; fail)
  rw [HV.out, HBX.out]
  refine HUS.out.mono ?_
  rintro e w2 ⟨rfl, rfl⟩
  obtain ⟨c0, e0, e1⟩ := HL.out.cells
  go_wp2_with (first | (go_at_call 58; refine (HT.out _).mono ?_; rintro e w' ⟨rfl, rfl⟩))
  go_ret2
  exact ⟨rfl, HL.out.ta⟩
set_option maxHeartbeats 8000000 in
theorem rtadd_no (hk : R.tused i = 0) (hub : ub ≠ 0) (hi : inR us = true) (he : us ≠ i) (ht : R.there us ub = false) (w W : World) (a : RTa w q lo h b R l W) : Calls Tryd.prog 49 #[.pointer (some ⟨q, 0, none⟩), .int .i64 i, .agg #[.int .i64 us, .int .i64 ub]] W (RetTD w q lo h b ((10, -1), R, l)) := by
  obtain ⟨V, hV⟩ : ∃ V, W.alloc (.cells #[.int .i64 us, .int .i64 ub] 33) = V := ⟨_, rfl⟩
  obtain ⟨bx, hbx⟩ : ∃ bx, W.heap.size = bx := ⟨_, rfl⟩
  have HL := Lib.hid (show RTaB w q lo h b R l bx us ub V by rw [← hV, ← hbx]; exact a.box us ub a.tn.size)
  have HV := Lib.hid hV
  have HBX := Lib.hid hbx
  have HUS := Lib.hid (rused_any i V V HL.out.ta.here)
  rw [hk] at HUS
  clear hk
  have hubf : (ub == 0) = false := by simpa using hub
  have HT := Lib.hid (fun w => rthereA_any us w)
  rw [hi] at HT
  have hee : (us == i) = false := by simpa using he
  have HTT := Lib.hid (rtthere_any us ub V V HL.out.ta.here)
  rw [ht] at HTT
  clear hi he ht
  clear hub
  clear hV hbx a
  go_enter Tryd.func49, Tryd.ntmps49
  go_wp2_with (go_at_call 77; fail)
  rw [HV.out, HBX.out]
  refine HUS.out.mono ?_
  rintro e w2 ⟨rfl, rfl⟩
  obtain ⟨c0, e0, e1⟩ := HL.out.cells
  go_wp2_with (first | (go_at_call 58; refine (HT.out _).mono ?_; rintro e w' ⟨rfl, rfl⟩) | (go_at_call 78; fail))
  refine HTT.out.mono ?_
  rintro e w2 ⟨rfl, hb2⟩
  have HL2 := Lib.hid (HL.out.read hb2)
  clear hb2 HTT c0 e0 e1
  go_wp2
  go_ret2
  exact ⟨rfl, HL2.out.ta⟩
set_option maxHeartbeats 8000000 in
theorem rtcut_used (hk : R.tused i ≠ 0) (w W : World) (a : RTa w q lo h b R l W) : Calls Tryd.prog 50 #[.pointer (some ⟨q, 0, none⟩), .int .i64 i] W (RetTD w q lo h b ((R.tused i, -1), R, l)) := by
  have HUS := Lib.hid (rused_any i W W a.here)
  generalize R.tused i = k at *
  have hkk : (k != 0) = true := by simpa using hk
  have HA := Lib.hid a
  clear hk a
  go_enter Tryd.func50, Tryd.ntmps50
  go_wp2_with (go_at_call 77; fail)
  refine HUS.out.mono ?_
  rintro e w2 ⟨rfl, rfl⟩
  go_wp2
  go_ret2
  exact ⟨rfl, HA.out⟩
set_option maxHeartbeats 16000000 in
theorem rtadd_err_z (hk : R.tused i = 0) (hz : (R.rpush (R.tring l us 0) i).1.2.1 ≠ 0) (w W : World) (a : RTa w q lo h b R l W) : Calls Tryd.prog 49 #[.pointer (some ⟨q, 0, none⟩), .int .i64 i, .agg #[.int .i64 us, .int .i64 0]] W (RetTD w q lo h b (((R.rpush (R.tring l us 0) i).1.2.1, (R.rpush (R.tring l us 0) i).1.2.2), (R.rpush (R.tring l us 0) i).2, l)) := by
  obtain ⟨ub, hub⟩ : ∃ ub : Int, 0 = ub := ⟨_, rfl⟩
  rw [show (#[.pointer (some ⟨q, 0, none⟩), .int .i64 i, .agg #[.int .i64 us, .int .i64 0]] : Array Value) = #[.pointer (some ⟨q, 0, none⟩), .int .i64 i, .agg #[.int .i64 us, .int .i64 ub]] by rw [← hub]]
  obtain ⟨V, hV⟩ : ∃ V, W.alloc (.cells #[.int .i64 us, .int .i64 ub] 33) = V := ⟨_, rfl⟩
  obtain ⟨bx, hbx⟩ : ∃ bx, W.heap.size = bx := ⟨_, rfl⟩
  have HL := Lib.hid (show RTaB w q lo h b R l bx us ub V by rw [← hV, ← hbx]; exact a.box us ub a.tn.size)
  have HV := Lib.hid hV
  have HBX := Lib.hid hbx
  have HUS := Lib.hid (rused_any i V V HL.out.ta.here)
  rw [hk] at HUS
  clear hk
  have hubt : (ub == 0) = true := by simp [← hub]
  have HUB := Lib.hid hub
  have HLZ := Lib.hid (HL.out.zero 0 0)
  have HB3 := Lib.hid HL.out.bs
  obtain ⟨w3, hw3⟩ : ∃ w3, V.setRow bx #[.int .i64 0, .int .i64 0] = w3 := ⟨_, rfl⟩
  have HW3 := Lib.hid hw3
  rw [hw3] at HLZ
  clear hw3 hub
  have RI := Lib.hid (fun W (t : RTaB w q lo h b R l bx 0 0 W) => (rring_any (us := 0) (ub := 0) (.inl rfl) W W t.ta.here).mono fun e W' ⟨h1, h2⟩ => show e = Ending.returned (.int .i64 (R.tring l us 0)) ∧ RTaB w q lo h b R l bx 0 0 W' from ⟨h1, t.read h2⟩)
  have PU := Lib.hid (fun W (t : RTaB w q lo h b R l bx 0 0 W) => (rpush16_any (R.tring l us 0) i W t.ta.rf).mono fun e W' ⟨h1, h2, h3⟩ => show e = Ending.returned (tri (R.rpush (R.tring l us 0) i).1) ∧ RTaB w q lo h b (R.rpush (R.tring l us 0) i).2 l bx 0 0 W' from ⟨h1, t.next (t.ta.here.turnL h2 h3)⟩)
  generalize R.tring l us 0 = ri at *
  generalize (R.rpush ri i).2 = R2 at *
  generalize (R.rpush ri i).1 = r at *
  obtain ⟨r1, no, at_⟩ := r
  dsimp only [tri] at *
  have hnz : (no != 0) = true := by simpa using hz
  clear hz
  clear hV hbx a
  go_enter Tryd.func49, Tryd.ntmps49
  go_wp2_with (go_at_call 77; fail)
  rw [HV.out, HBX.out]
  refine HUS.out.mono ?_
  rintro e w2 ⟨rfl, rfl⟩
  obtain ⟨c0, e0, e1⟩ := HL.out.cells
  go_wp2_with (first
    | ((with_reducible show wpList _ _ _ (Oper.mk (some 20) _ _ _ _ _ :: _) _ V); refine wpList_build_as rfl rfl rfl built_link ?_; simp only [put_laws])
    | ((with_reducible show wpList _ _ _ (Oper.mk none _ _ _ _ _ :: _) _ V); refine wpList_store_all (ty := 33) rfl rfl rfl rfl HB3.out rfl (link_one 0 0) linkInfo ?_; rw [HW3.out]))
  have HL2 := Lib.hid HLZ.out
  clear HB3 HW3 HLZ c0 e0 e1
  refine wp_region_noPanic ?_
  have td := HL2.out.read (Below.refl w3.heap.size w3).drew
  have kd := td.cells
  go_region_held3 (fun W' => W'.cell? ⟨q, 0, none⟩ = some (.pointer (some ⟨h, 0, none⟩)) ∧ W'.cell? ⟨bx, 0, none⟩ = some (.int .i64 0) ∧ W'.cell? ⟨bx, 1, none⟩ = some (.int .i64 0))
    (first | assumption | exact h3.cells | exact h4.cells)
    (first
      | (go_at_call 80; refine (RI.out _ (by assumption)).mono ?_; rintro e w4 ⟨rfl, h3⟩)
      | (go_at_call 79; refine (PU.out _ (by assumption)).mono ?_; rintro e w5 ⟨rfl, h4⟩))
  refine NoPanic.normal ?_
  have HL5 := Lib.hid h4
  clear h3 h4 td kd RI PU HL2
  go_wp2
  go_ret2
  exact ⟨rfl, HL5.out.ta⟩
set_option maxHeartbeats 16000000 in
theorem rtadd_err_n (hk : R.tused i = 0) (hub : ub ≠ 0) (hi : inR us = true) (he : us ≠ i) (ht : R.there us ub = true) (hz : (R.rpush (R.tring l us ub) i).1.2.1 ≠ 0) (w W : World) (a : RTa w q lo h b R l W) : Calls Tryd.prog 49 #[.pointer (some ⟨q, 0, none⟩), .int .i64 i, .agg #[.int .i64 us, .int .i64 ub]] W (RetTD w q lo h b (((R.rpush (R.tring l us ub) i).1.2.1, (R.rpush (R.tring l us ub) i).1.2.2), (R.rpush (R.tring l us ub) i).2, l)) := by
  obtain ⟨V, hV⟩ : ∃ V, W.alloc (.cells #[.int .i64 us, .int .i64 ub] 33) = V := ⟨_, rfl⟩
  obtain ⟨bx, hbx⟩ : ∃ bx, W.heap.size = bx := ⟨_, rfl⟩
  have HL := Lib.hid (show RTaB w q lo h b R l bx us ub V by rw [← hV, ← hbx]; exact a.box us ub a.tn.size)
  have HV := Lib.hid hV
  have HBX := Lib.hid hbx
  have HUS := Lib.hid (rused_any i V V HL.out.ta.here)
  have hi0 := hi
  rw [hk] at HUS
  clear hk
  have hubf : (ub == 0) = false := by simpa using hub
  have HT := Lib.hid (fun w => rthereA_any us w)
  rw [hi] at HT
  have hee : (us == i) = false := by simpa using he
  have HTT := Lib.hid (rtthere_any us ub V V HL.out.ta.here)
  rw [ht] at HTT
  clear hi he ht
  have RI := Lib.hid (fun W (t : RTaB w q lo h b R l bx us ub W) => (rring_any (us := us) (ub := ub) (.inr hi0) W W t.ta.here).mono fun e W' ⟨h1, h2⟩ => show e = Ending.returned (.int .i64 (R.tring l us ub)) ∧ RTaB w q lo h b R l bx us ub W' from ⟨h1, t.read h2⟩)
  have PU := Lib.hid (fun W (t : RTaB w q lo h b R l bx us ub W) => (rpush16_any (R.tring l us ub) i W t.ta.rf).mono fun e W' ⟨h1, h2, h3⟩ => show e = Ending.returned (tri (R.rpush (R.tring l us ub) i).1) ∧ RTaB w q lo h b (R.rpush (R.tring l us ub) i).2 l bx us ub W' from ⟨h1, t.next (t.ta.here.turnL h2 h3)⟩)
  generalize R.tring l us ub = ri at *
  generalize (R.rpush ri i).2 = R2 at *
  generalize (R.rpush ri i).1 = r at *
  obtain ⟨r1, no, at_⟩ := r
  dsimp only [tri] at *
  have hnz : (no != 0) = true := by simpa using hz
  clear hz
  clear hi0 hub
  clear hV hbx a
  go_enter Tryd.func49, Tryd.ntmps49
  go_wp2_with (go_at_call 77; fail)
  rw [HV.out, HBX.out]
  refine HUS.out.mono ?_
  rintro e w2 ⟨rfl, rfl⟩
  obtain ⟨c0, e0, e1⟩ := HL.out.cells
  go_wp2_with (first | (go_at_call 58; refine (HT.out _).mono ?_; rintro e w' ⟨rfl, rfl⟩) | (go_at_call 78; fail))
  refine HTT.out.mono ?_
  rintro e w2 ⟨rfl, hb2⟩
  have HL2 := Lib.hid (HL.out.read hb2)
  clear hb2 HTT c0 e0 e1
  go_upto_region 12 with fail
  refine wp_region_noPanic ?_
  have td := HL2.out.read (Below.refl w2.heap.size w2).drew
  have kd := td.cells
  go_region_held3 (fun W' => W'.cell? ⟨q, 0, none⟩ = some (.pointer (some ⟨h, 0, none⟩)) ∧ W'.cell? ⟨bx, 0, none⟩ = some (.int .i64 us) ∧ W'.cell? ⟨bx, 1, none⟩ = some (.int .i64 ub))
    (first | assumption | exact h3.cells | exact h4.cells)
    (first
      | (go_at_call 80; refine (RI.out _ (by assumption)).mono ?_; rintro e w4 ⟨rfl, h3⟩)
      | (go_at_call 79; refine (PU.out _ (by assumption)).mono ?_; rintro e w5 ⟨rfl, h4⟩))
  refine NoPanic.normal ?_
  have HL5 := Lib.hid h4
  clear h3 h4 td kd RI PU HL2
  go_wp2
  go_ret2
  exact ⟨rfl, HL5.out.ta⟩
set_option maxHeartbeats 16000000 in
theorem rtadd_ok_z (hk : R.tused i = 0) (hz : (R.rpush (R.tring l us 0) i).1.2.1 = 0) (hiR : inR i = true) (w W : World) (a : RTa w q lo h b R l W) : Calls Tryd.prog 49 #[.pointer (some ⟨q, 0, none⟩), .int .i64 i, .agg #[.int .i64 us, .int .i64 0]] W (RetTD w q lo h b ((0, -1), ((R.rpush (R.tring l us 0) i).2.upd i.toNat (((R.rpush (R.tring l us 0) i).2.slotAt i).hang 0 0)).tset l us 0 (R.rpush (R.tring l us 0) i).1.1)) := by
  obtain ⟨ub, hub⟩ : ∃ ub : Int, 0 = ub := ⟨_, rfl⟩
  rw [show (#[.pointer (some ⟨q, 0, none⟩), .int .i64 i, .agg #[.int .i64 us, .int .i64 0]] : Array Value) = #[.pointer (some ⟨q, 0, none⟩), .int .i64 i, .agg #[.int .i64 us, .int .i64 ub]] by rw [← hub]]
  obtain ⟨V, hV⟩ : ∃ V, W.alloc (.cells #[.int .i64 us, .int .i64 ub] 33) = V := ⟨_, rfl⟩
  obtain ⟨bx, hbx⟩ : ∃ bx, W.heap.size = bx := ⟨_, rfl⟩
  have HL := Lib.hid (show RTaB w q lo h b R l bx us ub V by rw [← hV, ← hbx]; exact a.box us ub a.tn.size)
  have HV := Lib.hid hV
  have HBX := Lib.hid hbx
  have HUS := Lib.hid (rused_any i V V HL.out.ta.here)
  rw [hk] at HUS
  clear hk
  have hubt : (ub == 0) = true := by simp [← hub]
  have HUB := Lib.hid hub
  have HLZ := Lib.hid (HL.out.zero 0 0)
  have HB3 := Lib.hid HL.out.bs
  obtain ⟨w3, hw3⟩ : ∃ w3, V.setRow bx #[.int .i64 0, .int .i64 0] = w3 := ⟨_, rfl⟩
  have HW3 := Lib.hid hw3
  rw [hw3] at HLZ
  clear hw3 hub
  have RI := Lib.hid (fun W (t : RTaB w q lo h b R l bx 0 0 W) => (rring_any (us := 0) (ub := 0) (.inl rfl) W W t.ta.here).mono fun e W' ⟨h1, h2⟩ => show e = Ending.returned (.int .i64 (R.tring l us 0)) ∧ RTaB w q lo h b R l bx 0 0 W' from ⟨h1, t.read h2⟩)
  have PU := Lib.hid (fun W (t : RTaB w q lo h b R l bx 0 0 W) => (rpush16_any (R.tring l us 0) i W t.ta.rf).mono fun e W' ⟨h1, h2, h3⟩ => show e = Ending.returned (tri (R.rpush (R.tring l us 0) i).1) ∧ RTaB w q lo h b (R.rpush (R.tring l us 0) i).2 l bx 0 0 W' from ⟨h1, t.next (t.ta.here.turnL h2 h3)⟩)
  generalize R.tring l us 0 = ri at *
  generalize (R.rpush ri i).2 = R2 at *
  generalize (R.rpush ri i).1 = r at *
  obtain ⟨r1, no, at_⟩ := r
  dsimp only [tri] at *
  subst hz
  have hir := inR_iff.1 hiR
  obtain ⟨k, rfl⟩ : ∃ k : Nat, i = (k : Int) := ⟨i.toNat, by omega⟩
  have hk32 : (k : Int) < 32 := hir.2
  have hk0 : (0 : Int) ≤ (k : Int) := hir.1
  have hkn : k < 32 := by omega
  have SE := Lib.hid (fun W (t : RTaB w q lo h b (R2.upd k ((R2.slotAt (k : Int)).hang 0 0)) l bx 0 0 W) => (rset_any (last := r1) (.inl rfl) W W t.ta.here).mono fun e W' ⟨h1, h2⟩ => show e = Ending.returned (.tuple #[]) ∧ RTa w q lo h b ((R2.upd k ((R2.slotAt (k : Int)).hang 0 0)).tset l 0 0 r1).1 ((R2.upd k ((R2.slotAt (k : Int)).hang 0 0)).tset l 0 0 r1).2 W' from ⟨h1, ⟨h2.blk, h2.rf, h2.ne, t.ta.tn.trans h2.tn⟩⟩)
  clear hiR hir
  clear hV hbx a
  go_enter Tryd.func49, Tryd.ntmps49
  go_wp2_with (go_at_call 77; fail)
  rw [HV.out, HBX.out]
  refine HUS.out.mono ?_
  rintro e w2 ⟨rfl, rfl⟩
  obtain ⟨c0, e0, e1⟩ := HL.out.cells
  go_wp2_with (first
    | ((with_reducible show wpList _ _ _ (Oper.mk (some 20) _ _ _ _ _ :: _) _ V); refine wpList_build_as rfl rfl rfl built_link ?_; simp only [put_laws])
    | ((with_reducible show wpList _ _ _ (Oper.mk none _ _ _ _ _ :: _) _ V); refine wpList_store_all (ty := 33) rfl rfl rfl rfl HB3.out rfl (link_one 0 0) linkInfo ?_; rw [HW3.out]))
  have HL2 := Lib.hid HLZ.out
  clear HB3 HW3 HLZ c0 e0 e1
  refine wp_region_noPanic ?_
  have td := HL2.out.read (Below.refl w3.heap.size w3).drew
  have kd := td.cells
  go_region_held3 (fun W' => W'.cell? ⟨q, 0, none⟩ = some (.pointer (some ⟨h, 0, none⟩)) ∧ W'.cell? ⟨bx, 0, none⟩ = some (.int .i64 0) ∧ W'.cell? ⟨bx, 1, none⟩ = some (.int .i64 0))
    (first | assumption | exact h3.cells | exact h4.cells)
    (first
      | (go_at_call 80; refine (RI.out _ (by assumption)).mono ?_; rintro e w4 ⟨rfl, h3⟩)
      | (go_at_call 79; refine (PU.out _ (by assumption)).mono ?_; rintro e w5 ⟨rfl, h4⟩))
  refine NoPanic.normal ?_
  have HL5 := Lib.hid h4
  clear h3 h4 td kd RI PU HL2
  obtain ⟨cap, e0⟩ := HL5.out.ta.rf.cell0
  obtain ⟨c0, x0, x1⟩ := HL5.out.cells
  obtain ⟨_, d2, _⟩ := HL5.out.ta.rf.slotc (k := k) hkn
  have f2 := HL5.out.ta.rf.slotf (k := k) hkn 2 (by omega)
  have HS := Lib.hid (slot_at HL5.out.ta.rf.flen' hkn)
  have HLEN := Lib.hid HL5.out.ta.rf.flen'
  go_upto_region 16 with fail
  have HL6 := Lib.hid (HL5.out.cell_ HS.out (j := 2) (by omega) (.int .i64 (-1)) (s' := (R2.slotAt (k : Int)).kid (-1)) rfl)
  clear d2 f2 x0 x1 c0 e0 HL5
  generalize w5.setCell ⟨b, k * 17 + 2, none⟩ (.int .i64 (-1)) = w6 at *
  obtain ⟨cap, e0⟩ := HL6.out.ta.rf.cell0
  obtain ⟨c0, x0, x1⟩ := HL6.out.cells
  obtain ⟨_, d7, d8⟩ := HL6.out.ta.rf.slotd (k := k) hkn
  have f7 := HL6.out.ta.rf.slotf (k := k) hkn 7 (by omega)
  have f8 := HL6.out.ta.rf.slotf (k := k) hkn 8 (by omega)
  go_region
  --AFTER16
  have HL7 := Lib.hid ((HL6.out.cell_ (upd_at HLEN.out hkn _) (j := 7) (by omega) (.int .i64 0) (s' := { (R2.slotAt (k : Int)).kid (-1) with upSlot := 0 }) rfl).cell_ (upd_at (by rw [upd_len]; exact HLEN.out) hkn _) (j := 8) (by omega) (.int .i64 0) (s' := (R2.slotAt (k : Int)).hang 0 0) rfl)
  rw [upd_upd, upd_upd] at HL7
  have HL8 := Lib.hid (HL7.out.read (Below.refl _ _).drew)
  obtain ⟨cap, e0⟩ := HL8.out.ta.rf.cell0
  obtain ⟨c0, x0, x1⟩ := HL8.out.cells
  go_wp2_with (go_at_call 81; fail)
  refine (SE.out _ HL8.out).mono ?_
  rintro e w9 ⟨rfl, a9⟩
  have HA9 := Lib.hid a9
  clear a9 SE
  go_wp2
  go_ret2
  exact ⟨rfl, HA9.out⟩
set_option maxHeartbeats 16000000 in
theorem rtadd_ok_n (hk : R.tused i = 0) (hub : ub ≠ 0) (hi : inR us = true) (he : us ≠ i) (ht : R.there us ub = true) (hz : (R.rpush (R.tring l us ub) i).1.2.1 = 0) (hiR : inR i = true) (w W : World) (a : RTa w q lo h b R l W) : Calls Tryd.prog 49 #[.pointer (some ⟨q, 0, none⟩), .int .i64 i, .agg #[.int .i64 us, .int .i64 ub]] W (RetTD w q lo h b ((0, -1), ((R.rpush (R.tring l us ub) i).2.upd i.toNat (((R.rpush (R.tring l us ub) i).2.slotAt i).hang us ub)).tset l us ub (R.rpush (R.tring l us ub) i).1.1)) := by
  obtain ⟨V, hV⟩ : ∃ V, W.alloc (.cells #[.int .i64 us, .int .i64 ub] 33) = V := ⟨_, rfl⟩
  obtain ⟨bx, hbx⟩ : ∃ bx, W.heap.size = bx := ⟨_, rfl⟩
  have HL := Lib.hid (show RTaB w q lo h b R l bx us ub V by rw [← hV, ← hbx]; exact a.box us ub a.tn.size)
  have HV := Lib.hid hV
  have HBX := Lib.hid hbx
  have HUS := Lib.hid (rused_any i V V HL.out.ta.here)
  have hi0 := hi
  rw [hk] at HUS
  clear hk
  have hubf : (ub == 0) = false := by simpa using hub
  have HT := Lib.hid (fun w => rthereA_any us w)
  rw [hi] at HT
  have hee : (us == i) = false := by simpa using he
  have HTT := Lib.hid (rtthere_any us ub V V HL.out.ta.here)
  rw [ht] at HTT
  clear hi he ht
  have RI := Lib.hid (fun W (t : RTaB w q lo h b R l bx us ub W) => (rring_any (us := us) (ub := ub) (.inr hi0) W W t.ta.here).mono fun e W' ⟨h1, h2⟩ => show e = Ending.returned (.int .i64 (R.tring l us ub)) ∧ RTaB w q lo h b R l bx us ub W' from ⟨h1, t.read h2⟩)
  have PU := Lib.hid (fun W (t : RTaB w q lo h b R l bx us ub W) => (rpush16_any (R.tring l us ub) i W t.ta.rf).mono fun e W' ⟨h1, h2, h3⟩ => show e = Ending.returned (tri (R.rpush (R.tring l us ub) i).1) ∧ RTaB w q lo h b (R.rpush (R.tring l us ub) i).2 l bx us ub W' from ⟨h1, t.next (t.ta.here.turnL h2 h3)⟩)
  generalize R.tring l us ub = ri at *
  generalize (R.rpush ri i).2 = R2 at *
  generalize (R.rpush ri i).1 = r at *
  obtain ⟨r1, no, at_⟩ := r
  dsimp only [tri] at *
  subst hz
  have hir := inR_iff.1 hiR
  obtain ⟨k, rfl⟩ : ∃ k : Nat, i = (k : Int) := ⟨i.toNat, by omega⟩
  have hk32 : (k : Int) < 32 := hir.2
  have hk0 : (0 : Int) ≤ (k : Int) := hir.1
  have hkn : k < 32 := by omega
  have SE := Lib.hid (fun W (t : RTaB w q lo h b (R2.upd k ((R2.slotAt (k : Int)).hang us ub)) l bx us ub W) => (rset_any (last := r1) (.inr hi0) W W t.ta.here).mono fun e W' ⟨h1, h2⟩ => show e = Ending.returned (.tuple #[]) ∧ RTa w q lo h b ((R2.upd k ((R2.slotAt (k : Int)).hang us ub)).tset l us ub r1).1 ((R2.upd k ((R2.slotAt (k : Int)).hang us ub)).tset l us ub r1).2 W' from ⟨h1, ⟨h2.blk, h2.rf, h2.ne, t.ta.tn.trans h2.tn⟩⟩)
  clear hiR hir
  clear hi0 hub
  clear hV hbx a
  go_enter Tryd.func49, Tryd.ntmps49
  go_wp2_with (go_at_call 77; fail)
  rw [HV.out, HBX.out]
  refine HUS.out.mono ?_
  rintro e w2 ⟨rfl, rfl⟩
  obtain ⟨c0, e0, e1⟩ := HL.out.cells
  go_wp2_with (first | (go_at_call 58; refine (HT.out _).mono ?_; rintro e w' ⟨rfl, rfl⟩) | (go_at_call 78; fail))
  refine HTT.out.mono ?_
  rintro e w2 ⟨rfl, hb2⟩
  have HL2 := Lib.hid (HL.out.read hb2)
  clear hb2 HTT c0 e0 e1
  go_upto_region 12 with fail
  refine wp_region_noPanic ?_
  have td := HL2.out.read (Below.refl w2.heap.size w2).drew
  have kd := td.cells
  go_region_held3 (fun W' => W'.cell? ⟨q, 0, none⟩ = some (.pointer (some ⟨h, 0, none⟩)) ∧ W'.cell? ⟨bx, 0, none⟩ = some (.int .i64 us) ∧ W'.cell? ⟨bx, 1, none⟩ = some (.int .i64 ub))
    (first | assumption | exact h3.cells | exact h4.cells)
    (first
      | (go_at_call 80; refine (RI.out _ (by assumption)).mono ?_; rintro e w4 ⟨rfl, h3⟩)
      | (go_at_call 79; refine (PU.out _ (by assumption)).mono ?_; rintro e w5 ⟨rfl, h4⟩))
  refine NoPanic.normal ?_
  have HL5 := Lib.hid h4
  clear h3 h4 td kd RI PU HL2
  obtain ⟨cap, e0⟩ := HL5.out.ta.rf.cell0
  obtain ⟨c0, x0, x1⟩ := HL5.out.cells
  obtain ⟨_, d2, _⟩ := HL5.out.ta.rf.slotc (k := k) hkn
  have f2 := HL5.out.ta.rf.slotf (k := k) hkn 2 (by omega)
  have HS := Lib.hid (slot_at HL5.out.ta.rf.flen' hkn)
  have HLEN := Lib.hid HL5.out.ta.rf.flen'
  go_upto_region 16 with fail
  have HL6 := Lib.hid (HL5.out.cell_ HS.out (j := 2) (by omega) (.int .i64 (-1)) (s' := (R2.slotAt (k : Int)).kid (-1)) rfl)
  clear d2 f2 x0 x1 c0 e0 HL5
  generalize w5.setCell ⟨b, k * 17 + 2, none⟩ (.int .i64 (-1)) = w6 at *
  obtain ⟨cap, e0⟩ := HL6.out.ta.rf.cell0
  obtain ⟨c0, x0, x1⟩ := HL6.out.cells
  obtain ⟨_, d7, d8⟩ := HL6.out.ta.rf.slotd (k := k) hkn
  have f7 := HL6.out.ta.rf.slotf (k := k) hkn 7 (by omega)
  have f8 := HL6.out.ta.rf.slotf (k := k) hkn 8 (by omega)
  go_region
  --AFTER16
  have HL7 := Lib.hid ((HL6.out.cell_ (upd_at HLEN.out hkn _) (j := 7) (by omega) (.int .i64 us) (s' := { (R2.slotAt (k : Int)).kid (-1) with upSlot := us }) rfl).cell_ (upd_at (by rw [upd_len]; exact HLEN.out) hkn _) (j := 8) (by omega) (.int .i64 ub) (s' := (R2.slotAt (k : Int)).hang us ub) rfl)
  rw [upd_upd, upd_upd] at HL7
  have HL8 := Lib.hid (HL7.out.read (Below.refl _ _).drew)
  obtain ⟨cap, e0⟩ := HL8.out.ta.rf.cell0
  obtain ⟨c0, x0, x1⟩ := HL8.out.cells
  go_wp2_with (go_at_call 81; fail)
  refine (SE.out _ HL8.out).mono ?_
  rintro e w9 ⟨rfl, a9⟩
  have HA9 := Lib.hid a9
  clear a9 SE
  go_wp2
  go_ret2
  exact ⟨rfl, HA9.out⟩
set_option maxHeartbeats 16000000 in
theorem rtcut_no (hk : R.tused i = 0) (hus : (R.slotAt i).upSlot = us) (hub0 : (R.slotAt i).upBirth = ub) (hub : ub ≠ 0) (ht : R.there us ub = false) (w W : World) (a : RTa w q lo h b R l W) : Calls Tryd.prog 50 #[.pointer (some ⟨q, 0, none⟩), .int .i64 i] W (RetTD w q lo h b ((10, -1), R, l)) := by
  have hir := inR_iff.1 (tused_in hk).1
  have HUS := Lib.hid (rused_any i W W a.here)
  rw [hk] at HUS
  obtain ⟨k, rfl⟩ : ∃ k : Nat, i = (k : Int) := ⟨i.toNat, by omega⟩
  have hk32 : (k : Int) < 32 := hir.2
  have hk0 : (0 : Int) ≤ (k : Int) := hir.1
  have hkn : k < 32 := by omega
  obtain ⟨V, hV⟩ : ∃ V, W.alloc (.cells #[.int .i64 us, .int .i64 ub] 33) = V := ⟨_, rfl⟩
  obtain ⟨bx, hbx⟩ : ∃ bx, W.heap.size = bx := ⟨_, rfl⟩
  have HL := Lib.hid (show RTaB w q lo h b R l bx us ub V by rw [← hV, ← hbx]; exact a.box us ub a.tn.size)
  have HV := Lib.hid hV
  have HBX := Lib.hid hbx
  obtain ⟨cap, e0⟩ := a.rf.cell0
  obtain ⟨c0, _, _⟩ := a.cells
  obtain ⟨_, d7, d8⟩ := a.rf.slotd (k := k) hkn
  rw [hus] at d7
  rw [hub0] at d8
  clear hk hir hV hbx hus hub0 a
  have hubn : (ub != 0) = true := by simpa using hub
  have HTT := Lib.hid (rtthere_any us ub V V HL.out.ta.here)
  rw [ht] at HTT
  clear hub ht
  go_enter Tryd.func50, Tryd.ntmps50
  go_wp2_with (go_at_call 77; fail)
  refine HUS.out.mono ?_
  rintro e w2 ⟨rfl, rfl⟩
  obtain ⟨_, x0, x1⟩ := HL.out.cells
  go_wp2_with (first | ((with_reducible show wpList _ _ _ (Oper.mk none _ _ _ _ _ :: _) _ (World.alloc _ _)); refine wpList_store_new (ty := 33) rfl rfl rfl rfl rfl (link_one _ _) linkInfo ?_; rw [HV.out, HBX.out]) | (go_at_call 78; fail))
  refine HTT.out.mono ?_
  rintro e w3 ⟨rfl, hb3⟩
  have HL2 := Lib.hid (HL.out.read hb3)
  clear hb3 HTT
  go_wp2
  go_ret2
  exact ⟨rfl, HL2.out.ta⟩
set_option maxHeartbeats 16000000 in
theorem rtcut_err_z (hk : R.tused i = 0) (hus : (R.slotAt i).upSlot = us) (hub0 : (R.slotAt i).upBirth = ub) (hub : ub = 0) (hz : (R.rdrop (R.tring l us ub) i).1.2.1 ≠ 0) (w W : World) (a : RTa w q lo h b R l W) : Calls Tryd.prog 50 #[.pointer (some ⟨q, 0, none⟩), .int .i64 i] W (RetTD w q lo h b (((R.rdrop (R.tring l us ub) i).1.2.1, (R.rdrop (R.tring l us ub) i).1.2.2), (R.rdrop (R.tring l us ub) i).2, l)) := by
  have hir := inR_iff.1 (tused_in hk).1
  have HUS := Lib.hid (rused_any i W W a.here)
  rw [hk] at HUS
  obtain ⟨k, rfl⟩ : ∃ k : Nat, i = (k : Int) := ⟨i.toNat, by omega⟩
  have hk32 : (k : Int) < 32 := hir.2
  have hk0 : (0 : Int) ≤ (k : Int) := hir.1
  have hkn : k < 32 := by omega
  obtain ⟨V, hV⟩ : ∃ V, W.alloc (.cells #[.int .i64 us, .int .i64 ub] 33) = V := ⟨_, rfl⟩
  obtain ⟨bx, hbx⟩ : ∃ bx, W.heap.size = bx := ⟨_, rfl⟩
  have HL := Lib.hid (show RTaB w q lo h b R l bx us ub V by rw [← hV, ← hbx]; exact a.box us ub a.tn.size)
  have HV := Lib.hid hV
  have HBX := Lib.hid hbx
  obtain ⟨cap, e0⟩ := a.rf.cell0
  obtain ⟨c0, _, _⟩ := a.cells
  obtain ⟨_, d7, d8⟩ := a.rf.slotd (k := k) hkn
  rw [hus] at d7
  rw [hub0] at d8
  clear hk hir hV hbx hus hub0 a
  have hubn : (ub != 0) = false := by simpa using hub
  have RI := Lib.hid (fun W (t : RTaB w q lo h b R l bx us ub W) => (rring_any (us := us) (ub := ub) (.inl hub) W W t.ta.here).mono fun e W' ⟨h1, h2⟩ => show e = Ending.returned (.int .i64 (R.tring l us ub)) ∧ RTaB w q lo h b R l bx us ub W' from ⟨h1, t.read h2⟩)
  have PU := Lib.hid (fun W (t : RTaB w q lo h b R l bx us ub W) => (rdrop16_any (R.tring l us ub) (k : Int) W t.ta.rf).mono fun e W' ⟨h1, h2, h3⟩ => show e = Ending.returned (tri (R.rdrop (R.tring l us ub) (k : Int)).1) ∧ RTaB w q lo h b (R.rdrop (R.tring l us ub) (k : Int)).2 l bx us ub W' from ⟨h1, t.next (t.ta.here.turnL h2 h3)⟩)
  generalize R.tring l us ub = ri at *
  generalize (R.rdrop ri (k : Int)).2 = R2 at *
  generalize (R.rdrop ri (k : Int)).1 = r at *
  obtain ⟨r1, no, at_⟩ := r
  dsimp only [tri] at *
  have hnz : (no != 0) = true := by simpa using hz
  clear hz
  clear hub
  go_enter Tryd.func50, Tryd.ntmps50
  go_wp2_with (go_at_call 77; fail)
  refine HUS.out.mono ?_
  rintro e w2 ⟨rfl, rfl⟩
  obtain ⟨_, x0, x1⟩ := HL.out.cells
  go_upto_region 7 with (first | ((with_reducible show wpList _ _ _ (Oper.mk none _ _ _ _ _ :: _) _ (World.alloc _ _)); refine wpList_store_new (ty := 33) rfl rfl rfl rfl rfl (link_one _ _) linkInfo ?_; rw [HV.out, HBX.out]))
  have HL2 := Lib.hid HL.out
  refine wp_region_noPanic ?_
  have td := HL2.out.read (Below.refl V.heap.size V).drew
  have kd := td.cells
  clear e0 c0 d7 d8 x0 x1
  go_region_held3 (fun W' => W'.cell? ⟨q, 0, none⟩ = some (.pointer (some ⟨h, 0, none⟩)) ∧ W'.cell? ⟨bx, 0, none⟩ = some (.int .i64 us) ∧ W'.cell? ⟨bx, 1, none⟩ = some (.int .i64 ub))
    (first | assumption | exact h3.cells | exact h4.cells)
    (first
      | (go_at_call 80; refine (RI.out _ (by assumption)).mono ?_; rintro e w4 ⟨rfl, h3⟩)
      | (go_at_call 82; refine (PU.out _ (by assumption)).mono ?_; rintro e w5 ⟨rfl, h4⟩))
  refine NoPanic.normal ?_
  have HL5 := Lib.hid h4
  clear h3 h4 td kd RI PU HL2
  go_wp2
  go_ret2
  exact ⟨rfl, HL5.out.ta⟩
set_option maxHeartbeats 16000000 in
theorem rtcut_err_n (hk : R.tused i = 0) (hus : (R.slotAt i).upSlot = us) (hub0 : (R.slotAt i).upBirth = ub) (hub : ub ≠ 0) (ht : R.there us ub = true) (hz : (R.rdrop (R.tring l us ub) i).1.2.1 ≠ 0) (w W : World) (a : RTa w q lo h b R l W) : Calls Tryd.prog 50 #[.pointer (some ⟨q, 0, none⟩), .int .i64 i] W (RetTD w q lo h b (((R.rdrop (R.tring l us ub) i).1.2.1, (R.rdrop (R.tring l us ub) i).1.2.2), (R.rdrop (R.tring l us ub) i).2, l)) := by
  have hir := inR_iff.1 (tused_in hk).1
  have HUS := Lib.hid (rused_any i W W a.here)
  rw [hk] at HUS
  obtain ⟨k, rfl⟩ : ∃ k : Nat, i = (k : Int) := ⟨i.toNat, by omega⟩
  have hk32 : (k : Int) < 32 := hir.2
  have hk0 : (0 : Int) ≤ (k : Int) := hir.1
  have hkn : k < 32 := by omega
  obtain ⟨V, hV⟩ : ∃ V, W.alloc (.cells #[.int .i64 us, .int .i64 ub] 33) = V := ⟨_, rfl⟩
  obtain ⟨bx, hbx⟩ : ∃ bx, W.heap.size = bx := ⟨_, rfl⟩
  have HL := Lib.hid (show RTaB w q lo h b R l bx us ub V by rw [← hV, ← hbx]; exact a.box us ub a.tn.size)
  have HV := Lib.hid hV
  have HBX := Lib.hid hbx
  obtain ⟨cap, e0⟩ := a.rf.cell0
  obtain ⟨c0, _, _⟩ := a.cells
  obtain ⟨_, d7, d8⟩ := a.rf.slotd (k := k) hkn
  rw [hus] at d7
  rw [hub0] at d8
  clear hk hir hV hbx hus hub0 a
  have hubn : (ub != 0) = true := by simpa using hub
  have HTT := Lib.hid (rtthere_any us ub V V HL.out.ta.here)
  rw [ht] at HTT
  have RI := Lib.hid (fun W (t : RTaB w q lo h b R l bx us ub W) => (rring_any (us := us) (ub := ub) (.inr (tthere_in ht)) W W t.ta.here).mono fun e W' ⟨h1, h2⟩ => show e = Ending.returned (.int .i64 (R.tring l us ub)) ∧ RTaB w q lo h b R l bx us ub W' from ⟨h1, t.read h2⟩)
  have PU := Lib.hid (fun W (t : RTaB w q lo h b R l bx us ub W) => (rdrop16_any (R.tring l us ub) (k : Int) W t.ta.rf).mono fun e W' ⟨h1, h2, h3⟩ => show e = Ending.returned (tri (R.rdrop (R.tring l us ub) (k : Int)).1) ∧ RTaB w q lo h b (R.rdrop (R.tring l us ub) (k : Int)).2 l bx us ub W' from ⟨h1, t.next (t.ta.here.turnL h2 h3)⟩)
  generalize R.tring l us ub = ri at *
  generalize (R.rdrop ri (k : Int)).2 = R2 at *
  generalize (R.rdrop ri (k : Int)).1 = r at *
  obtain ⟨r1, no, at_⟩ := r
  dsimp only [tri] at *
  have hnz : (no != 0) = true := by simpa using hz
  clear hz
  clear hub ht
  go_enter Tryd.func50, Tryd.ntmps50
  go_wp2_with (go_at_call 77; fail)
  refine HUS.out.mono ?_
  rintro e w2 ⟨rfl, rfl⟩
  obtain ⟨_, x0, x1⟩ := HL.out.cells
  go_wp2_with (first | ((with_reducible show wpList _ _ _ (Oper.mk none _ _ _ _ _ :: _) _ (World.alloc _ _)); refine wpList_store_new (ty := 33) rfl rfl rfl rfl rfl (link_one _ _) linkInfo ?_; rw [HV.out, HBX.out]) | (go_at_call 78; fail))
  refine HTT.out.mono ?_
  rintro e w3 ⟨rfl, hb3⟩
  have HL2 := Lib.hid (HL.out.read hb3)
  clear hb3 HTT
  go_upto_region 7 with fail
  refine wp_region_noPanic ?_
  have td := HL2.out.read (Below.refl w3.heap.size w3).drew
  have kd := td.cells
  clear e0 c0 d7 d8 x0 x1
  go_region_held3 (fun W' => W'.cell? ⟨q, 0, none⟩ = some (.pointer (some ⟨h, 0, none⟩)) ∧ W'.cell? ⟨bx, 0, none⟩ = some (.int .i64 us) ∧ W'.cell? ⟨bx, 1, none⟩ = some (.int .i64 ub))
    (first | assumption | exact h3.cells | exact h4.cells)
    (first
      | (go_at_call 80; refine (RI.out _ (by assumption)).mono ?_; rintro e w4 ⟨rfl, h3⟩)
      | (go_at_call 82; refine (PU.out _ (by assumption)).mono ?_; rintro e w5 ⟨rfl, h4⟩))
  refine NoPanic.normal ?_
  have HL5 := Lib.hid h4
  clear h3 h4 td kd RI PU HL2
  go_wp2
  go_ret2
  exact ⟨rfl, HL5.out.ta⟩
set_option maxHeartbeats 16000000 in
theorem rtcut_ok_z (hk : R.tused i = 0) (hus : (R.slotAt i).upSlot = us) (hub0 : (R.slotAt i).upBirth = ub) (hub : ub = 0) (hz : (R.rdrop (R.tring l us ub) i).1.2.1 = 0) (w W : World) (a : RTa w q lo h b R l W) : Calls Tryd.prog 50 #[.pointer (some ⟨q, 0, none⟩), .int .i64 i] W (RetTD w q lo h b ((0, -1), (R.rdrop (R.tring l us ub) i).2.tset l us ub (R.rdrop (R.tring l us ub) i).1.1)) := by
  have hir := inR_iff.1 (tused_in hk).1
  have HUS := Lib.hid (rused_any i W W a.here)
  rw [hk] at HUS
  obtain ⟨k, rfl⟩ : ∃ k : Nat, i = (k : Int) := ⟨i.toNat, by omega⟩
  have hk32 : (k : Int) < 32 := hir.2
  have hk0 : (0 : Int) ≤ (k : Int) := hir.1
  have hkn : k < 32 := by omega
  obtain ⟨V, hV⟩ : ∃ V, W.alloc (.cells #[.int .i64 us, .int .i64 ub] 33) = V := ⟨_, rfl⟩
  obtain ⟨bx, hbx⟩ : ∃ bx, W.heap.size = bx := ⟨_, rfl⟩
  have HL := Lib.hid (show RTaB w q lo h b R l bx us ub V by rw [← hV, ← hbx]; exact a.box us ub a.tn.size)
  have HV := Lib.hid hV
  have HBX := Lib.hid hbx
  obtain ⟨cap, e0⟩ := a.rf.cell0
  obtain ⟨c0, _, _⟩ := a.cells
  obtain ⟨_, d7, d8⟩ := a.rf.slotd (k := k) hkn
  rw [hus] at d7
  rw [hub0] at d8
  clear hk hir hV hbx hus hub0 a
  have hubn : (ub != 0) = false := by simpa using hub
  have RI := Lib.hid (fun W (t : RTaB w q lo h b R l bx us ub W) => (rring_any (us := us) (ub := ub) (.inl hub) W W t.ta.here).mono fun e W' ⟨h1, h2⟩ => show e = Ending.returned (.int .i64 (R.tring l us ub)) ∧ RTaB w q lo h b R l bx us ub W' from ⟨h1, t.read h2⟩)
  have PU := Lib.hid (fun W (t : RTaB w q lo h b R l bx us ub W) => (rdrop16_any (R.tring l us ub) (k : Int) W t.ta.rf).mono fun e W' ⟨h1, h2, h3⟩ => show e = Ending.returned (tri (R.rdrop (R.tring l us ub) (k : Int)).1) ∧ RTaB w q lo h b (R.rdrop (R.tring l us ub) (k : Int)).2 l bx us ub W' from ⟨h1, t.next (t.ta.here.turnL h2 h3)⟩)
  generalize R.tring l us ub = ri at *
  generalize (R.rdrop ri (k : Int)).2 = R2 at *
  generalize (R.rdrop ri (k : Int)).1 = r at *
  obtain ⟨r1, no, at_⟩ := r
  dsimp only [tri] at *
  subst hz
  have SE := Lib.hid (fun W (t : RTaB w q lo h b R2 l bx us ub W) => (rset_any (last := r1) (.inl hub) W W t.ta.here).mono fun e W' ⟨h1, h2⟩ => show e = Ending.returned (.tuple #[]) ∧ RTa w q lo h b (R2.tset l us ub r1).1 (R2.tset l us ub r1).2 W' from ⟨h1, ⟨h2.blk, h2.rf, h2.ne, t.ta.tn.trans h2.tn⟩⟩)
  clear hub
  go_enter Tryd.func50, Tryd.ntmps50
  go_wp2_with (go_at_call 77; fail)
  refine HUS.out.mono ?_
  rintro e w2 ⟨rfl, rfl⟩
  obtain ⟨_, x0, x1⟩ := HL.out.cells
  go_upto_region 7 with (first | ((with_reducible show wpList _ _ _ (Oper.mk none _ _ _ _ _ :: _) _ (World.alloc _ _)); refine wpList_store_new (ty := 33) rfl rfl rfl rfl rfl (link_one _ _) linkInfo ?_; rw [HV.out, HBX.out]))
  have HL2 := Lib.hid HL.out
  refine wp_region_noPanic ?_
  have td := HL2.out.read (Below.refl V.heap.size V).drew
  have kd := td.cells
  clear e0 c0 d7 d8 x0 x1
  go_region_held3 (fun W' => W'.cell? ⟨q, 0, none⟩ = some (.pointer (some ⟨h, 0, none⟩)) ∧ W'.cell? ⟨bx, 0, none⟩ = some (.int .i64 us) ∧ W'.cell? ⟨bx, 1, none⟩ = some (.int .i64 ub))
    (first | assumption | exact h3.cells | exact h4.cells)
    (first
      | (go_at_call 80; refine (RI.out _ (by assumption)).mono ?_; rintro e w4 ⟨rfl, h3⟩)
      | (go_at_call 82; refine (PU.out _ (by assumption)).mono ?_; rintro e w5 ⟨rfl, h4⟩))
  refine NoPanic.normal ?_
  have HL5 := Lib.hid h4
  clear h3 h4 td kd RI PU HL2
  obtain ⟨c0, x0, x1⟩ := HL5.out.cells
  go_wp2_with (go_at_call 81; fail)
  refine (SE.out _ HL5.out).mono ?_
  rintro e w9 ⟨rfl, a9⟩
  have HA9 := Lib.hid a9
  clear a9 SE
  go_wp2
  go_ret2
  exact ⟨rfl, HA9.out⟩
set_option maxHeartbeats 16000000 in
theorem rtcut_ok_n (hk : R.tused i = 0) (hus : (R.slotAt i).upSlot = us) (hub0 : (R.slotAt i).upBirth = ub) (hub : ub ≠ 0) (ht : R.there us ub = true) (hz : (R.rdrop (R.tring l us ub) i).1.2.1 = 0) (w W : World) (a : RTa w q lo h b R l W) : Calls Tryd.prog 50 #[.pointer (some ⟨q, 0, none⟩), .int .i64 i] W (RetTD w q lo h b ((0, -1), (R.rdrop (R.tring l us ub) i).2.tset l us ub (R.rdrop (R.tring l us ub) i).1.1)) := by
  have hir := inR_iff.1 (tused_in hk).1
  have HUS := Lib.hid (rused_any i W W a.here)
  rw [hk] at HUS
  obtain ⟨k, rfl⟩ : ∃ k : Nat, i = (k : Int) := ⟨i.toNat, by omega⟩
  have hk32 : (k : Int) < 32 := hir.2
  have hk0 : (0 : Int) ≤ (k : Int) := hir.1
  have hkn : k < 32 := by omega
  obtain ⟨V, hV⟩ : ∃ V, W.alloc (.cells #[.int .i64 us, .int .i64 ub] 33) = V := ⟨_, rfl⟩
  obtain ⟨bx, hbx⟩ : ∃ bx, W.heap.size = bx := ⟨_, rfl⟩
  have HL := Lib.hid (show RTaB w q lo h b R l bx us ub V by rw [← hV, ← hbx]; exact a.box us ub a.tn.size)
  have HV := Lib.hid hV
  have HBX := Lib.hid hbx
  obtain ⟨cap, e0⟩ := a.rf.cell0
  obtain ⟨c0, _, _⟩ := a.cells
  obtain ⟨_, d7, d8⟩ := a.rf.slotd (k := k) hkn
  rw [hus] at d7
  rw [hub0] at d8
  clear hk hir hV hbx hus hub0 a
  have hubn : (ub != 0) = true := by simpa using hub
  have HTT := Lib.hid (rtthere_any us ub V V HL.out.ta.here)
  rw [ht] at HTT
  have RI := Lib.hid (fun W (t : RTaB w q lo h b R l bx us ub W) => (rring_any (us := us) (ub := ub) (.inr (tthere_in ht)) W W t.ta.here).mono fun e W' ⟨h1, h2⟩ => show e = Ending.returned (.int .i64 (R.tring l us ub)) ∧ RTaB w q lo h b R l bx us ub W' from ⟨h1, t.read h2⟩)
  have PU := Lib.hid (fun W (t : RTaB w q lo h b R l bx us ub W) => (rdrop16_any (R.tring l us ub) (k : Int) W t.ta.rf).mono fun e W' ⟨h1, h2, h3⟩ => show e = Ending.returned (tri (R.rdrop (R.tring l us ub) (k : Int)).1) ∧ RTaB w q lo h b (R.rdrop (R.tring l us ub) (k : Int)).2 l bx us ub W' from ⟨h1, t.next (t.ta.here.turnL h2 h3)⟩)
  generalize R.tring l us ub = ri at *
  generalize (R.rdrop ri (k : Int)).2 = R2 at *
  generalize (R.rdrop ri (k : Int)).1 = r at *
  obtain ⟨r1, no, at_⟩ := r
  dsimp only [tri] at *
  subst hz
  have SE := Lib.hid (fun W (t : RTaB w q lo h b R2 l bx us ub W) => (rset_any (last := r1) (.inr (tthere_in ht)) W W t.ta.here).mono fun e W' ⟨h1, h2⟩ => show e = Ending.returned (.tuple #[]) ∧ RTa w q lo h b (R2.tset l us ub r1).1 (R2.tset l us ub r1).2 W' from ⟨h1, ⟨h2.blk, h2.rf, h2.ne, t.ta.tn.trans h2.tn⟩⟩)
  clear hub ht
  go_enter Tryd.func50, Tryd.ntmps50
  go_wp2_with (go_at_call 77; fail)
  refine HUS.out.mono ?_
  rintro e w2 ⟨rfl, rfl⟩
  obtain ⟨_, x0, x1⟩ := HL.out.cells
  go_wp2_with (first | ((with_reducible show wpList _ _ _ (Oper.mk none _ _ _ _ _ :: _) _ (World.alloc _ _)); refine wpList_store_new (ty := 33) rfl rfl rfl rfl rfl (link_one _ _) linkInfo ?_; rw [HV.out, HBX.out]) | (go_at_call 78; fail))
  refine HTT.out.mono ?_
  rintro e w3 ⟨rfl, hb3⟩
  have HL2 := Lib.hid (HL.out.read hb3)
  clear hb3 HTT
  go_upto_region 7 with fail
  refine wp_region_noPanic ?_
  have td := HL2.out.read (Below.refl w3.heap.size w3).drew
  have kd := td.cells
  clear e0 c0 d7 d8 x0 x1
  go_region_held3 (fun W' => W'.cell? ⟨q, 0, none⟩ = some (.pointer (some ⟨h, 0, none⟩)) ∧ W'.cell? ⟨bx, 0, none⟩ = some (.int .i64 us) ∧ W'.cell? ⟨bx, 1, none⟩ = some (.int .i64 ub))
    (first | assumption | exact h3.cells | exact h4.cells)
    (first
      | (go_at_call 80; refine (RI.out _ (by assumption)).mono ?_; rintro e w4 ⟨rfl, h3⟩)
      | (go_at_call 82; refine (PU.out _ (by assumption)).mono ?_; rintro e w5 ⟨rfl, h4⟩))
  refine NoPanic.normal ?_
  have HL5 := Lib.hid h4
  clear h3 h4 td kd RI PU HL2
  obtain ⟨c0, x0, x1⟩ := HL5.out.cells
  go_wp2_with (go_at_call 81; fail)
  refine (SE.out _ HL5.out).mono ?_
  rintro e w9 ⟨rfl, a9⟩
  have HA9 := Lib.hid a9
  clear a9 SE
  go_wp2
  go_ret2
  exact ⟨rfl, HA9.out⟩
theorem rtAdd_any (i us ub : Int) (w W : World) (a : RTa w q lo h b R l W) : Calls Tryd.prog 49 #[.pointer (some ⟨q, 0, none⟩), .int .i64 i, .agg #[.int .i64 us, .int .i64 ub]] W (RetTD w q lo h b (R.tadd l i us ub)) := by
  unfold St.tadd
  by_cases hk : R.tused i = 0
  rotate_left
  · rw [if_pos hk]
    exact rtadd_used hk w W a
  rw [if_neg (fun e => e hk)]
  have hiR := (tused_in hk).1
  by_cases hub : ub = 0
  · subst hub
    simp only [ne_eq, not_true_eq_false, false_and, if_false]
    by_cases hz : (R.rpush (R.tring l us 0) i).1.2.1 = 0
    · rw [if_neg (fun e => e hz)]
      exact rtadd_ok_z hk hz hiR w W a
    · rw [if_pos hz]
      exact rtadd_err_z hk hz w W a
  · rcases inR_cases us with hi | hi
    · rw [if_neg (by simp [hi])]
      by_cases he : us = i
      · rw [if_pos ⟨hub, he⟩]
        exact rtadd_twice hk hub hi (Lib.hid he) w W a
      · rw [if_neg (fun e => he e.2)]
        rcases ht : R.there us ub with _ | _
        · rw [if_pos ⟨hub, rfl⟩]
          exact rtadd_no hk hub hi he ht w W a
        · rw [if_neg (by simp)]
          have hup : upOf us ub = us := by unfold upOf; rw [if_neg hub]
          rw [hup]
          by_cases hz : (R.rpush (R.tring l us ub) i).1.2.1 = 0
          · rw [if_neg (fun e => e hz)]
            exact rtadd_ok_n hk hub hi he ht hz hiR w W a
          · rw [if_pos hz]
            exact rtadd_err_n hk hub hi he ht hz w W a
    · rw [if_pos ⟨hub, hi⟩]
      exact rtadd_out hk hub hi w W a
theorem rtCut_any (i : Int) (w W : World) (a : RTa w q lo h b R l W) : Calls Tryd.prog 50 #[.pointer (some ⟨q, 0, none⟩), .int .i64 i] W (RetTD w q lo h b (R.tcut l i)) := by
  unfold St.tcut
  by_cases hk : R.tused i = 0
  rotate_left
  · rw [if_pos hk]
    exact rtcut_used hk w W a
  rw [if_neg (fun e => e hk)]
  by_cases hub : (R.slotAt i).upBirth = 0
  · rw [if_neg (fun e => e.1 hub)]
    by_cases hz : (R.rdrop (R.tring l (R.slotAt i).upSlot (R.slotAt i).upBirth) i).1.2.1 = 0
    · rw [if_neg (fun e => e hz)]
      exact rtcut_ok_z hk rfl rfl hub hz w W a
    · rw [if_pos hz]
      exact rtcut_err_z hk rfl rfl hub hz w W a
  · rcases ht : R.there (R.slotAt i).upSlot (R.slotAt i).upBirth with _ | _
    · rw [if_pos ⟨hub, rfl⟩]
      exact rtcut_no hk rfl rfl hub ht w W a
    · rw [if_neg (by simp)]
      by_cases hz : (R.rdrop (R.tring l (R.slotAt i).upSlot (R.slotAt i).upBirth) i).1.2.1 = 0
      · rw [if_neg (fun e => e hz)]
        exact rtcut_ok_n hk rfl rfl hub ht hz w W a
      · rw [if_pos hz]
        exact rtcut_err_n hk rfl rfl hub ht hz w W a
end
end Go.Proofs.YtbidgpeeogoglaaDoor
