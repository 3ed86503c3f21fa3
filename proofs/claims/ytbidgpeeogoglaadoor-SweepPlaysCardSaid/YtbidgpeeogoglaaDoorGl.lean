/-
  Merged texts: RfSw, RfSw2, Sw19, RfSwAll.
-/
import Derived.Test.YtbidgpeeogoglaaDoorGi
import Derived.Test.YtbidgpeeogoglaaDoorGh
import Derived.Test.YtbidgpeeogoglaaDoorGa
import Derived.Deep.CutRange
import Derived.Test.YtbidgpeeogoglaaDoorGg
import Derived.Test.YtbidgpeeogoglaaDoorGj
import Derived.Test.YtbidgpeeogoglaaDoorGk
/-
  The document's garbage (lineageref19), walked: New, Add, Unit.
-/
namespace Go.Proofs.YtbidgpeeogoglaaDoor
set_option maxRecDepth 100000
open Go.RowKit Go.Sort

/-- The document's garbage at q, its arena's head at h, its slots at b; since w nothing else has turned. -/
structure RGa (w : World) (q lo h b : Nat) (R : St) (l : Int) (W : World) : Prop where
  blk : Blk W q 75 #[.pointer (some ⟨h, 0, none⟩), .int .i64 l]
  rf : IsRB lo h b R W
  ne : q ≠ h ∧ q ≠ b
  tn : Tn (fun k => k = q ∨ k = h ∨ k = b) w W
section
variable {w W W' : World} {q lo h b : Nat} {R R' : St} {l l' : Int}
theorem IsRB.other {t : TypeId} {cs : Array Value} (r : IsRB lo h b R W) (hB : Blk W q t cs) (ht : t ≠ 3) (hq : q ≠ h ∧ q ≠ b) (o : Nat) (v : Value) : IsRB lo h b R (W.setCell ⟨q, o, none⟩ v) := by
  obtain ⟨cap, junk, vF, r⟩ := r
  refine ⟨cap, junk, vF, r.head.far (p := ⟨q, o, none⟩) (show h ≠ q from Ne.symm hq.1) v, r.slots.far (p := ⟨q, o, none⟩) (show b ≠ q from Ne.symm hq.2) v, fkept (grownBy_set W q o v) r.free (fun j hj e => ?_), r.len, r.loh, r.lob, r.cap⟩
  subst e
  rcases r.free.2 with ⟨e, _⟩ | ⟨g, c, cur, e, _, hg, _⟩
  · rw [e] at hj; cases hj
  · rw [e] at hj
    obtain rfl : g = j := by simpa [Value.ownBlock] using hj
    have h1 := hB.eq
    rw [hg] at h1
    injection h1 with h1
    injection h1 with _ h1
    exact ht h1.symm
theorem RGa.read (a : RGa w q lo h b R l W) (hb : Below W.heap.size W W') : RGa w q lo h b R l W' := ⟨a.blk.below hb a.blk.lt, a.rf.call hb, a.ne, a.tn.call hb⟩
theorem RGa.turn (a : RGa w q lo h b R l W) (hR : IsRB lo h b R' W') (hT : Tn (fun k => k = h ∨ k = b) W W') : RGa w q lo h b R' l W' :=
  ⟨⟨(hT.block q a.blk.lt (by have := a.ne; omega)).trans a.blk.eq⟩, hR, a.ne, a.tn.trans (hT.mono fun k hk => .inr hk)⟩
theorem RGa.turnL (a : RGa w q lo h b R l W) (hR : IsRB lo h b R' W') (hG : W.grownBy W' (some b)) : RGa w q lo h b R' l W' := a.turn hR (Tn.ofGrown hG (.inr rfl))
theorem RGa.set (a : RGa w q lo h b R l W) (l' : Int) : RGa w q lo h b R l' (W.setCell ⟨q, 1, none⟩ (.int .i64 l')) :=
  ⟨by have := a.blk.set_ 1 (.int .i64 l'); simpa using this, a.rf.other a.blk (by decide) a.ne 1 _, a.ne, a.tn.grown (grownBy_set W q 1 _) (.inl rfl)⟩
theorem RGa.cells (a : RGa w q lo h b R l W) : W.cell? ⟨q, 0, none⟩ = some (.pointer (some ⟨h, 0, none⟩)) ∧ W.cell? ⟨q, 1, none⟩ = some (.int .i64 l) ∧ W.frozen? ⟨q, 1, none⟩ = false := ⟨(a.blk.cell 0).trans rfl, (a.blk.cell 1).trans rfl, a.blk.frozen 1⟩
theorem IsRB.slotc (r : IsRB lo h b R W) {k : Nat} (hk : k < 32) : W.cell? ⟨b, k * 17, none⟩ = some (.bool (R.slotAt k).used) ∧ W.cell? ⟨b, k * 17 + 2, none⟩ = some (.int .i64 (R.slotAt k).kids) ∧ W.cell? ⟨b, k * 17 + 4, none⟩ = some (.int .i64 (R.slotAt k).next) := by
  obtain ⟨cap, junk, vF, r⟩ := r
  obtain ⟨s, hs⟩ := slot_of r.len hk
  have e : R.slotAt (k : Int) = s := by unfold St.slotAt; rw [if_pos (inR_nat hk), Int.toNat_natCast, hs]
  rw [e]
  exact ⟨(r.row hs).at_ 0 _ rfl, (r.row hs).at_ 2 _ rfl, (r.row hs).at_ 4 _ rfl⟩
end
theorem rswNew_any (h : Nat) (w : World) : Calls Tryd.prog 30 #[.pointer (some ⟨h, 0, none⟩)] w fun e w' => e = .returned (.pointer (some ⟨w.heap.size, 0, none⟩)) ∧ Blk w' w.heap.size 75 #[.pointer (some ⟨h, 0, none⟩), .int .i64 (-1)] ∧ Below w.heap.size w w' := by
  go_enter Tryd.func30, Tryd.ntmps30
  go_wp2
  go_ret
  exact ⟨rfl, Blk.new _ _ _, (Below.refl _ _).alloc (Nat.le_refl _) _⟩
def RetG (v : Value) (w : World) (q lo h b : Nat) (R : St) (l : Int) (e : Ending) (w' : World) : Prop := e = .returned v ∧ RGa w q lo h b R l w'
section
variable {R : St} {q lo h b : Nat} {l i : Int}
set_option maxHeartbeats 4000000 in
theorem rgadd_any (w W : World) (a : RGa w q lo h b R l W) : Calls Tryd.prog 70 #[.pointer (some ⟨q, 0, none⟩), .int .i64 i] W (RetG (.tuple #[.int .i64 (R.gadd l i).1.1, .int .i64 (R.gadd l i).1.2]) w q lo h b (R.gadd l i).2.1 (R.gadd l i).2.2) := by
  have HT := Lib.hid (fun (i : Int) w => rthereA_any i w)
  have HA := Lib.hid a
  obtain ⟨c0, c1, f1⟩ := a.cells
  obtain ⟨cap, e0⟩ := a.rf.cell0
  unfold St.gadd
  rcases inR_cases i with hi | hi
  rotate_left
  · rw [if_pos hi]
    clear a
    go_enter Tryd.func70, Tryd.ntmps70
    go_wp2_with (first | (go_at_call 58; refine (HT.out _ _).mono ?_; rintro e w' ⟨rfl, rfl⟩))
    go_ret2
    exact ⟨rfl, HA.out⟩
  rw [if_neg (by simp [hi])]
  have hir := inR_iff.1 hi
  obtain ⟨k, rfl⟩ : ∃ k : Nat, i = (k : Int) := ⟨i.toNat, by omega⟩
  obtain ⟨d0, _, _⟩ := a.rf.slotc (k := k) (by omega)
  have hk32 : (k : Int) < 32 := hir.2
  have hk0 : (0 : Int) ≤ (k : Int) := hir.1
  rcases hu : (R.slotAt (k : Int)).used with _ | _
  · rw [if_pos rfl]
    rw [hu] at d0
    clear a hu
    go_enter Tryd.func70, Tryd.ntmps70
    go_wp2_with (first | (go_at_call 58; refine (HT.out _ _).mono ?_; rintro e w' ⟨rfl, rfl⟩))
    go_ret2
    exact ⟨rfl, HA.out⟩
  rw [if_neg (by simp)]
  rw [hu] at d0
  have PU := Lib.hid (fun W (a : RGa w q lo h b R l W) => (rpush16_any l (k : Int) W a.rf).mono fun e W' ⟨h1, h2, h3⟩ => show e = Ending.returned (tri (R.rpush l k).1) ∧ RGa w q lo h b (R.rpush l k).2 l W' from ⟨h1, a.turnL h2 h3⟩)
  generalize (R.rpush l k).2 = R2 at *
  generalize (R.rpush l k).1 = r at *
  obtain ⟨r1, no, at_⟩ := r
  dsimp only [tri] at PU ⊢
  have x0 := cell_regrown c0
  have x1 := cell_regrown c1
  clear a hu
  by_cases hz : no = 0
  · rw [if_pos hz]
    subst hz
    go_enter Tryd.func70, Tryd.ntmps70
    go_upto_region 5 with (first | (go_at_call 58; refine (HT.out _ _).mono ?_; rintro e w' ⟨rfl, rfl⟩))
    clear x0 x1 c0 c1 f1 e0 d0
    refine wp_region_noPanic ?_
    have td := HA.out.read (Below.refl W.heap.size W).drew
    have kd := And.intro td.cells.1 td.cells.2.1
    go_region_held3 (fun W' => W'.cell? ⟨q, 0, none⟩ = some (.pointer (some ⟨h, 0, none⟩)) ∧ W'.cell? ⟨q, 1, none⟩ = some (.int .i64 l))
      (first | assumption | exact And.intro h4.cells.1 h4.cells.2.1)
      (first
        | (go_at_call 79; refine (PU.out _ (by assumption)).mono ?_; rintro e w4 ⟨rfl, h4⟩))
    refine NoPanic.normal ?_
    obtain ⟨c0, c1, f1⟩ := h4.cells
    have H5 := Lib.hid (h4.set r1)
    clear h4 PU
    go_wp2
    go_ret2
    exact ⟨rfl, H5.out⟩
  · rw [if_neg hz]
    have hz2 : (no != 0) = true := by simpa using hz
    clear hz
    go_enter Tryd.func70, Tryd.ntmps70
    go_upto_region 5 with (first | (go_at_call 58; refine (HT.out _ _).mono ?_; rintro e w' ⟨rfl, rfl⟩))
    clear x0 x1 c0 c1 f1 e0 d0
    refine wp_region_noPanic ?_
    have td := HA.out.read (Below.refl W.heap.size W).drew
    have kd := And.intro td.cells.1 td.cells.2.1
    go_region_held3 (fun W' => W'.cell? ⟨q, 0, none⟩ = some (.pointer (some ⟨h, 0, none⟩)) ∧ W'.cell? ⟨q, 1, none⟩ = some (.int .i64 l))
      (first | assumption | exact And.intro h4.cells.1 h4.cells.2.1)
      (first
        | (go_at_call 79; refine (PU.out _ (by assumption)).mono ?_; rintro e w4 ⟨rfl, h4⟩))
    refine NoPanic.normal ?_
    have H4 := Lib.hid h4
    clear h4 PU
    go_wp2
    go_ret2
    exact ⟨rfl, H4.out⟩
end
end Go.Proofs.YtbidgpeeogoglaaDoor
/-
  The document's garbage, walked: Unit.
-/
namespace Go.Proofs.YtbidgpeeogoglaaDoor
set_option maxRecDepth 100000
open Go.RowKit Go.Sort

theorem Linked.kids {S R : St} (h : Linked S R) (hl : S.slots.length = 32) (f : Int) : (R.slotAt f).kids = (S.slotAt f).kids := by
  unfold St.slotAt
  by_cases hf : inR f = true
  · rw [if_pos hf, if_pos hf]
    have hr := inR_iff.1 hf
    obtain ⟨s, hs⟩ := slot_of hl (k := f.toNat) (by omega)
    obtain ⟨t, ht⟩ := slot_of (h.len.trans hl) (k := f.toNat) (by omega)
    have := h.rest f.toNat
    rw [hs, ht] at this
    rw [hs, ht]
    simp only [Option.map_some, Option.some.injEq, SlotV.strip, SlotV.mk.injEq] at this
    exact this.2.2.1
  · rw [if_neg hf, if_neg hf]
theorem rsplice_linked (R : St) (a b : Int) : Linked R (R.rsplice a b).2 := by
  unfold St.rsplice
  repeat' split
  all_goals first
    | exact Linked.refl R
    | exact (Linked.rlink R _ _).trans (Linked.rlink _ _ _)
theorem rdrop_linked (R : St) (a i : Int) : Linked R (R.rdrop a i).2 := by
  unfold St.rdrop
  split
  · exact Linked.refl R
  · split
    · exact Linked.refl R
    · exact ((Linked.rlink R _ _).trans (Linked.setP _ _ _)).trans (Linked.setN _ _ _)
theorem rsplice_writes (R : St) (a b : Int) : (R.rsplice a b).2.writes = R.writes := by
  unfold St.rsplice
  repeat' split
  all_goals first
    | rfl
    | exact (rlink_writes _ _ _).trans (rlink_writes _ _ _)
theorem rdrop_writes (R : St) (a i : Int) : (R.rdrop a i).2.writes = R.writes := by
  unfold St.rdrop
  split
  · rfl
  · split
    · rfl
    · exact (setN_writes _ _ _).trans ((setP_writes _ _ _).trans (rlink_writes _ _ _))
theorem IsRB.hne {lo h b : Nat} {R : St} {W : World} (r : IsRB lo h b R W) : h ≠ b := by obtain ⟨_, _, _, r⟩ := r; exact r.ne
theorem IsRB.flen {lo h b : Nat} {R : St} {W : World} (r : IsRB lo h b R W) : R.slots.length = 32 := by obtain ⟨_, _, _, r⟩ := r; exact r.len
section
variable {R : St} {q lo h b : Nat} {l : Int}
set_option maxHeartbeats 8000000 in
theorem rgunit_any (w W : World) (a : RGa w q lo h b R l W) (hl : lastOk l) (hfl : R.free.length ≤ 32) (hlo : lo ≤ w.heap.size) (hw0 : 0 ≤ R.writes) (hw1 : R.writes < 1000000) : Calls Tryd.prog 71 #[.pointer (some ⟨q, 0, none⟩)] W (RetG (.tuple #[.int .i64 (R.gunit l).1.1, .bool (R.gunit l).1.2]) w q lo h b (R.gunit l).2.1 (R.gunit l).2.2) := by
  have HT := Lib.hid (fun (i : Int) w => rthereA_any i w)
  have HA := Lib.hid a
  obtain ⟨c0, c1, f1⟩ := a.cells
  obtain ⟨cap, e0⟩ := a.rf.cell0
  unfold St.gunit
  rcases hl with rfl | hl
  · rw [if_pos (by decide)]
    clear a
    go_enter Tryd.func71, Tryd.ntmps71
    go_wp2
    go_ret2
    exact ⟨rfl, HA.out⟩
  rw [if_neg (by simp [hl])]
  have hlr := inR_iff.1 hl
  obtain ⟨k, rfl⟩ : ∃ k : Nat, l = (k : Int) := ⟨l.toNat, by omega⟩
  obtain ⟨_, _, d4⟩ := a.rf.slotc (k := k) (by omega)
  have hk32 : (k : Int) < 32 := hlr.2
  have hk0 : (0 : Int) ≤ (k : Int) := hlr.1
  have hkn : ((k : Int) == -1) = false := by simp
  generalize hF : (R.slotAt (k : Int)).next = f at *
  rcases inR_cases f with hfr | hfr
  rotate_left
  · rw [if_pos hfr]
    have td := a.read (Below.refl W.heap.size W).drew
    have kd : W.drew.cell? ⟨q, 0, none⟩ = some (.pointer (some ⟨h, 0, none⟩)) ∧ W.drew.cell? ⟨h, 0, none⟩ = some (.slice (some ⟨b, 0, none⟩) 32 cap) ∧ W.drew.cell? ⟨q, 1, none⟩ = some (.int .i64 k) ∧ W.drew.cell? ⟨b, k * 17 + 4, none⟩ = some (.int .i64 f) := ⟨c0, e0, c1, d4⟩
    have HD := Lib.hid (HA.out.read (Below.refl W.heap.size W).drew)
    clear a td
    go_enter Tryd.func71, Tryd.ntmps71
    go_upto_region 3 with fail
    refine wp_region_noPanic ?_
    go_region_held3 (fun W' => W'.cell? ⟨q, 0, none⟩ = some (.pointer (some ⟨h, 0, none⟩)) ∧ W'.cell? ⟨h, 0, none⟩ = some (.slice (some ⟨b, 0, none⟩) 32 cap) ∧ W'.cell? ⟨q, 1, none⟩ = some (.int .i64 k) ∧ W'.cell? ⟨b, k * 17 + 4, none⟩ = some (.int .i64 f))
      (first | assumption)
      (fail)
    refine NoPanic.normal ?_
    go_wp2_with (first | (go_at_call 58; refine (HT.out _ _).mono ?_; rintro e w' ⟨rfl, rfl⟩))
    go_ret2
    exact ⟨rfl, HD.out⟩
  rw [if_neg (by simp [hfr])]
  have hfrr := inR_iff.1 hfr
  obtain ⟨f, rfl⟩ : ∃ k : Nat, f = (k : Int) := ⟨f.toNat, by omega⟩
  obtain ⟨_, d2, _⟩ := a.rf.slotc (k := f) (by omega)
  have hf32 : (f : Int) < 32 := hfrr.2
  have hf0 : (0 : Int) ≤ (f : Int) := hfrr.1
  have hkl := (rsplice_linked R (k : Int) (R.slotAt (f : Int)).kids).kids a.rf.flen (f : Int)
  generalize hKK : (R.slotAt (f : Int)).kids = kd at *
  have SP := Lib.hid (fun (W : World) (a : RGa w q lo h b R k W) (hS : W.cell? ⟨q, 0, none⟩ = some (Value.pointer (some ⟨h, 0, none⟩)) ∧ W.cell? ⟨h, 0, none⟩ = some (Value.slice (some ⟨b, 0, none⟩) 32 cap) ∧ W.cell? ⟨q, 1, none⟩ = some (Value.int .i64 k) ∧ W.cell? ⟨b, f * 17 + 2, none⟩ = some (Value.int .i64 kd)) => (rsplice16_any (k : Int) kd W a.rf).mono fun e (W' : World) ⟨h1, h2, h3⟩ => show e = Ending.returned (tri (R.rsplice k kd).1) ∧ RGa w q lo h b (R.rsplice k kd).2 k W' ∧ (W'.cell? ⟨q, 0, none⟩ = some (Value.pointer (some ⟨h, 0, none⟩)) ∧ W'.cell? ⟨h, 0, none⟩ = some (Value.slice (some ⟨b, 0, none⟩) 32 cap) ∧ W'.cell? ⟨q, 1, none⟩ = some (Value.int .i64 k) ∧ W'.cell? ⟨b, f * 17 + 2, none⟩ = some (Value.int .i64 kd)) from
    have a2 := a.turnL h2 h3
    ⟨h1, a2, a2.cells.1, (World.cell?_of_block (a := ⟨h, 0, none⟩) (h3.block h a.rf.los.2.2.1 (fun e => a.rf.hne (by cases e; rfl)))).trans hS.2.1, a2.cells.2.1, by have := (a2.rf.slotc (k := f) (by omega)).2.1; rw [hkl] at this; exact this⟩)
  have hfree : (R.rsplice k kd).2.free = R.free := (rsplice_linked R k kd).free
  have hwr : (R.rsplice k kd).2.writes = R.writes := rsplice_writes R k kd
  have td := a.read (Below.refl W.heap.size W).drew
  have kd3 : W.drew.cell? ⟨q, 0, none⟩ = some (.pointer (some ⟨h, 0, none⟩)) ∧ W.drew.cell? ⟨h, 0, none⟩ = some (.slice (some ⟨b, 0, none⟩) 32 cap) ∧ W.drew.cell? ⟨q, 1, none⟩ = some (.int .i64 k) ∧ W.drew.cell? ⟨b, k * 17 + 4, none⟩ = some (.int .i64 f) := ⟨c0, e0, c1, d4⟩
  have KD6 := Lib.hid (show W.drew.drew.cell? ⟨q, 0, none⟩ = some (.pointer (some ⟨h, 0, none⟩)) ∧ W.drew.drew.cell? ⟨h, 0, none⟩ = some (.slice (some ⟨b, 0, none⟩) 32 cap) ∧ W.drew.drew.cell? ⟨q, 1, none⟩ = some (.int .i64 k) ∧ W.drew.drew.cell? ⟨b, f * 17 + 2, none⟩ = some (.int .i64 kd) from ⟨c0, e0, c1, d2⟩)
  have HD := Lib.hid td
  generalize (R.rsplice k kd).2 = R1 at *
  generalize (R.rsplice k kd).1 = r at *
  obtain ⟨r1, no, at_⟩ := r
  dsimp only [tri] at SP ⊢
  by_cases hz : no = 0
  rotate_left
  · rw [if_pos hz]
    have hz2 : (no != 0) = true := by simpa using hz
    clear a hz td hkl hKK d2 f1 e0 d4 hfree hwr
    go_enter Tryd.func71, Tryd.ntmps71
    go_upto_region 3 with fail
    refine wp_region_noPanic ?_
    go_region_held3 (fun W' => W'.cell? ⟨q, 0, none⟩ = some (.pointer (some ⟨h, 0, none⟩)) ∧ W'.cell? ⟨h, 0, none⟩ = some (.slice (some ⟨b, 0, none⟩) 32 cap) ∧ W'.cell? ⟨q, 1, none⟩ = some (.int .i64 k) ∧ W'.cell? ⟨b, k * 17 + 4, none⟩ = some (.int .i64 f))
      (first | assumption)
      (fail)
    refine NoPanic.normal ?_
    clear kd3 c0 c1
    go_upto_region 6 with (first | (go_at_call 58; refine (HT.out _ _).mono ?_; rintro e w' ⟨rfl, rfl⟩))
    refine wp_region_noPanic ?_
    have td6 := HD.out.read (Below.refl W.drew.heap.size W.drew).drew
    have kd6 := KD6.out
    go_region_held3 (fun W' => W'.cell? ⟨q, 0, none⟩ = some (.pointer (some ⟨h, 0, none⟩)) ∧ W'.cell? ⟨h, 0, none⟩ = some (.slice (some ⟨b, 0, none⟩) 32 cap) ∧ W'.cell? ⟨q, 1, none⟩ = some (.int .i64 k) ∧ W'.cell? ⟨b, f * 17 + 2, none⟩ = some (.int .i64 kd))
      (first | assumption | exact h4.2)
      (first
        | (go_at_call 98; refine (SP.out _ td6 kd6).mono ?_; rintro e w4 ⟨rfl, h4⟩))
    refine NoPanic.normal ?_
    have H4 := Lib.hid h4.1
    clear h4 SP td6 kd6
    go_wp2
    go_ret2
    exact ⟨rfl, H4.out⟩
  rw [if_neg (fun e => e hz)]
  subst hz
  have DP := Lib.hid (fun W (a : RGa w q lo h b R1 r1 W) => (rdrop16_any r1 (f : Int) W a.rf).mono fun e W' ⟨h1, h2, h3⟩ => show e = Ending.returned (tri (R1.rdrop r1 f).1) ∧ RGa w q lo h b (R1.rdrop r1 f).2 r1 W' from ⟨h1, a.turnL h2 h3⟩)
  have hfree2 : (R1.rdrop r1 f).2.free = R.free := (rdrop_linked R1 r1 f).free.trans hfree
  have hwr2 : (R1.rdrop r1 f).2.writes = R.writes := (rdrop_writes R1 r1 f).trans hwr
  generalize (R1.rdrop r1 f).2 = R2 at *
  generalize (R1.rdrop r1 f).1 = r at *
  obtain ⟨n2, no, at2⟩ := r
  dsimp only [tri] at DP ⊢
  by_cases hz : no = 0
  rotate_left
  · rw [if_pos hz]
    have hz2 : (no != 0) = true := by simpa using hz
    clear a hz td hkl hKK d2 f1 e0 d4 hfree hwr hfree2 hwr2
    go_enter Tryd.func71, Tryd.ntmps71
    go_upto_region 3 with fail
    refine wp_region_noPanic ?_
    go_region_held3 (fun W' => W'.cell? ⟨q, 0, none⟩ = some (.pointer (some ⟨h, 0, none⟩)) ∧ W'.cell? ⟨h, 0, none⟩ = some (.slice (some ⟨b, 0, none⟩) 32 cap) ∧ W'.cell? ⟨q, 1, none⟩ = some (.int .i64 k) ∧ W'.cell? ⟨b, k * 17 + 4, none⟩ = some (.int .i64 f))
      (first | assumption)
      (fail)
    refine NoPanic.normal ?_
    clear kd3 c0 c1
    go_upto_region 6 with (first | (go_at_call 58; refine (HT.out _ _).mono ?_; rintro e w' ⟨rfl, rfl⟩))
    refine wp_region_noPanic ?_
    have td6 := HD.out.read (Below.refl W.drew.heap.size W.drew).drew
    have kd6 := KD6.out
    go_region_held3 (fun W' => W'.cell? ⟨q, 0, none⟩ = some (.pointer (some ⟨h, 0, none⟩)) ∧ W'.cell? ⟨h, 0, none⟩ = some (.slice (some ⟨b, 0, none⟩) 32 cap) ∧ W'.cell? ⟨q, 1, none⟩ = some (.int .i64 k) ∧ W'.cell? ⟨b, f * 17 + 2, none⟩ = some (.int .i64 kd))
      (first | assumption | exact h4.2)
      (first
        | (go_at_call 98; refine (SP.out _ td6 kd6).mono ?_; rintro e w4 ⟨rfl, h4⟩))
    refine NoPanic.normal ?_
    obtain ⟨c0, c1, f1⟩ := h4.1.cells
    have H5 := Lib.hid (h4.1.set r1)
    clear h4 SP td6 kd6
    go_upto_region 10 with fail
    obtain ⟨W5, hW5⟩ : ∃ W5, w4.setCell ⟨q, 1, none⟩ (.int .i64 r1) = W5 := ⟨_, rfl⟩
    rw [hW5] at H5 ⊢
    clear hW5 c0 c1 f1
    refine wp_region_noPanic ?_
    have td := H5.out.read (Below.refl W5.heap.size W5).drew
    have kd9 := And.intro td.cells.1 td.cells.2.1
    go_region_held3 (fun W' => W'.cell? ⟨q, 0, none⟩ = some (.pointer (some ⟨h, 0, none⟩)) ∧ W'.cell? ⟨q, 1, none⟩ = some (.int .i64 r1))
      (first | assumption | exact And.intro h6.cells.1 h6.cells.2.1)
      (first
        | (go_at_call 82; refine (DP.out _ (by assumption)).mono ?_; rintro e w6 ⟨rfl, h6⟩))
    refine NoPanic.normal ?_
    have H6 := Lib.hid h6
    clear h6 DP td kd9
    go_wp2
    go_ret2
    exact ⟨rfl, H6.out⟩
  rw [if_neg (fun e => e hz)]
  subst hz
  have FP := Lib.hid (fun W (a : RGa w q lo h b R2 n2 W) => (freeR (f : Int) W a.rf (by rw [hfree2]; exact hfl) (Nat.le_trans hlo a.tn.size) (by rw [hwr2]; exact hw0) (by rw [hwr2]; omega)).mono fun e W' ⟨h1, h2, h3⟩ => show e = Ending.returned (.int .i64 (giveNo R2 f)) ∧ RGa w q lo h b (R2.giveZ f) n2 W' from ⟨h1, a.turn h2 h3⟩)
  generalize R2.giveZ (f : Int) = R3 at *
  generalize giveNo R2 (f : Int) = gn at *
  by_cases hg : gn = 0
  · rw [if_pos hg]
    subst hg
    clear a td hkl hKK d2 f1 e0 d4 hfree hwr hfree2 hwr2
    go_enter Tryd.func71, Tryd.ntmps71
    go_upto_region 3 with fail
    refine wp_region_noPanic ?_
    go_region_held3 (fun W' => W'.cell? ⟨q, 0, none⟩ = some (.pointer (some ⟨h, 0, none⟩)) ∧ W'.cell? ⟨h, 0, none⟩ = some (.slice (some ⟨b, 0, none⟩) 32 cap) ∧ W'.cell? ⟨q, 1, none⟩ = some (.int .i64 k) ∧ W'.cell? ⟨b, k * 17 + 4, none⟩ = some (.int .i64 f))
      (first | assumption)
      (fail)
    refine NoPanic.normal ?_
    clear kd3 c0 c1
    go_upto_region 6 with (first | (go_at_call 58; refine (HT.out _ _).mono ?_; rintro e w' ⟨rfl, rfl⟩))
    refine wp_region_noPanic ?_
    have td6 := HD.out.read (Below.refl W.drew.heap.size W.drew).drew
    have kd6 := KD6.out
    go_region_held3 (fun W' => W'.cell? ⟨q, 0, none⟩ = some (.pointer (some ⟨h, 0, none⟩)) ∧ W'.cell? ⟨h, 0, none⟩ = some (.slice (some ⟨b, 0, none⟩) 32 cap) ∧ W'.cell? ⟨q, 1, none⟩ = some (.int .i64 k) ∧ W'.cell? ⟨b, f * 17 + 2, none⟩ = some (.int .i64 kd))
      (first | assumption | exact h4.2)
      (first
        | (go_at_call 98; refine (SP.out _ td6 kd6).mono ?_; rintro e w4 ⟨rfl, h4⟩))
    refine NoPanic.normal ?_
    obtain ⟨c0, c1, f1⟩ := h4.1.cells
    have H5 := Lib.hid (h4.1.set r1)
    clear h4 SP td6 kd6
    go_upto_region 10 with fail
    obtain ⟨W5, hW5⟩ : ∃ W5, w4.setCell ⟨q, 1, none⟩ (.int .i64 r1) = W5 := ⟨_, rfl⟩
    rw [hW5] at H5 ⊢
    clear hW5 c0 c1 f1
    refine wp_region_noPanic ?_
    have td := H5.out.read (Below.refl W5.heap.size W5).drew
    have kd9 := And.intro td.cells.1 td.cells.2.1
    go_region_held3 (fun W' => W'.cell? ⟨q, 0, none⟩ = some (.pointer (some ⟨h, 0, none⟩)) ∧ W'.cell? ⟨q, 1, none⟩ = some (.int .i64 r1))
      (first | assumption | exact And.intro h6.cells.1 h6.cells.2.1)
      (first
        | (go_at_call 82; refine (DP.out _ (by assumption)).mono ?_; rintro e w6 ⟨rfl, h6⟩))
    refine NoPanic.normal ?_
    obtain ⟨c0, c1, f1⟩ := h6.cells
    have H7 := Lib.hid (h6.set n2)
    clear h6 DP td kd9
    go_upto_region 14 with fail
    obtain ⟨W7, hW7⟩ : ∃ W7, w6.setCell ⟨q, 1, none⟩ (.int .i64 n2) = W7 := ⟨_, rfl⟩
    rw [hW7] at H7 ⊢
    obtain ⟨e0, _, _⟩ := H7.out.cells
    clear hW7 c0 c1 f1
    go_wp2_with (go_at_call 99; fail)
    refine (FP.out _ H7.out).mono ?_
    rintro e w8 ⟨rfl, h8⟩
    have H8 := Lib.hid h8
    clear h8 FP
    go_wp2
    go_ret2
    exact ⟨rfl, H8.out⟩
  · rw [if_neg hg]
    have hg2 : (gn != 0) = true := by simpa using hg
    clear a td hkl hKK d2 f1 e0 d4 hfree hwr hfree2 hwr2 hg
    go_enter Tryd.func71, Tryd.ntmps71
    go_upto_region 3 with fail
    refine wp_region_noPanic ?_
    go_region_held3 (fun W' => W'.cell? ⟨q, 0, none⟩ = some (.pointer (some ⟨h, 0, none⟩)) ∧ W'.cell? ⟨h, 0, none⟩ = some (.slice (some ⟨b, 0, none⟩) 32 cap) ∧ W'.cell? ⟨q, 1, none⟩ = some (.int .i64 k) ∧ W'.cell? ⟨b, k * 17 + 4, none⟩ = some (.int .i64 f))
      (first | assumption)
      (fail)
    refine NoPanic.normal ?_
    clear kd3 c0 c1
    go_upto_region 6 with (first | (go_at_call 58; refine (HT.out _ _).mono ?_; rintro e w' ⟨rfl, rfl⟩))
    refine wp_region_noPanic ?_
    have td6 := HD.out.read (Below.refl W.drew.heap.size W.drew).drew
    have kd6 := KD6.out
    go_region_held3 (fun W' => W'.cell? ⟨q, 0, none⟩ = some (.pointer (some ⟨h, 0, none⟩)) ∧ W'.cell? ⟨h, 0, none⟩ = some (.slice (some ⟨b, 0, none⟩) 32 cap) ∧ W'.cell? ⟨q, 1, none⟩ = some (.int .i64 k) ∧ W'.cell? ⟨b, f * 17 + 2, none⟩ = some (.int .i64 kd))
      (first | assumption | exact h4.2)
      (first
        | (go_at_call 98; refine (SP.out _ td6 kd6).mono ?_; rintro e w4 ⟨rfl, h4⟩))
    refine NoPanic.normal ?_
    obtain ⟨c0, c1, f1⟩ := h4.1.cells
    have H5 := Lib.hid (h4.1.set r1)
    clear h4 SP td6 kd6
    go_upto_region 10 with fail
    obtain ⟨W5, hW5⟩ : ∃ W5, w4.setCell ⟨q, 1, none⟩ (.int .i64 r1) = W5 := ⟨_, rfl⟩
    rw [hW5] at H5 ⊢
    clear hW5 c0 c1 f1
    refine wp_region_noPanic ?_
    have td := H5.out.read (Below.refl W5.heap.size W5).drew
    have kd9 := And.intro td.cells.1 td.cells.2.1
    go_region_held3 (fun W' => W'.cell? ⟨q, 0, none⟩ = some (.pointer (some ⟨h, 0, none⟩)) ∧ W'.cell? ⟨q, 1, none⟩ = some (.int .i64 r1))
      (first | assumption | exact And.intro h6.cells.1 h6.cells.2.1)
      (first
        | (go_at_call 82; refine (DP.out _ (by assumption)).mono ?_; rintro e w6 ⟨rfl, h6⟩))
    refine NoPanic.normal ?_
    obtain ⟨c0, c1, f1⟩ := h6.cells
    have H7 := Lib.hid (h6.set n2)
    clear h6 DP td kd9
    go_upto_region 14 with fail
    obtain ⟨W7, hW7⟩ : ∃ W7, w6.setCell ⟨q, 1, none⟩ (.int .i64 n2) = W7 := ⟨_, rfl⟩
    rw [hW7] at H7 ⊢
    obtain ⟨e0, _, _⟩ := H7.out.cells
    clear hW7 c0 c1 f1
    go_wp2_with (go_at_call 99; fail)
    refine (FP.out _ H7.out).mono ?_
    rintro e w8 ⟨rfl, h8⟩
    have H8 := Lib.hid h8
    clear h8 FP
    go_wp2
    go_ret2
    exact ⟨rfl, H8.out⟩
end
end Go.Proofs.YtbidgpeeogoglaaDoor
/-
  lineagelaw19: both garbages beside one another, act by act: what each call gives.
-/
namespace Go.Proofs.YtbidgpeeogoglaaDoor
set_option maxRecDepth 100000
open Go.RowKit Go.Sort

theorem gadd_writes (R : St) (l i : Int) : (R.gadd l i).2.1.writes = R.writes := by
  unfold St.gadd
  repeat' split
  all_goals first
    | rfl
    | exact rpush_writes _ _ _
theorem gunit_writes (R : St) (l : Int) : R.writes ≤ (R.gunit l).2.1.writes ∧ (R.gunit l).2.1.writes ≤ R.writes + 1 := by
  have h1 := rsplice_writes R l (R.slotAt (R.slotAt l).next).kids
  have h2 := fun a => rdrop_writes (R.rsplice l (R.slotAt (R.slotAt l).next).kids).2 a (R.slotAt l).next
  have h3 := fun a => giveZ_writes ((R.rsplice l (R.slotAt (R.slotAt l).next).kids).2.rdrop a (R.slotAt l).next).2 (R.slotAt l).next
  unfold St.gunit
  split
  · exact ⟨Int.le_refl _, by dsimp only; omega⟩
  · split
    · exact ⟨Int.le_refl _, by dsimp only; omega⟩
    · split
      · dsimp only; omega
      · split
        · dsimp only; rw [h2, h1]; omega
        · have h4 := h3 (R.rsplice l (R.slotAt (R.slotAt l).next).kids).1.1
          rw [h2, h1] at h4
          split
          · exact h4
          · exact h4
abbrev Gar := Both 111 75
section
variable {w W W' : World} {q g q2 lo h b : Nat} {S R S' R' : St} {l l2 l' : Int}
theorem Gar.call (t : Gar w q g q2 lo h b S R l l2 W) (hb : Below W.heap.size W W') : Gar w q g q2 lo h b S R l l2 W' := Both.call t hb
theorem Gar.from {w0 : World} (t : Gar w q g q2 lo h b S R l l2 W) (hb : Below w0.heap.size w0 w) : Gar w0 q g q2 lo h b S R l l2 W := Both.from t hb
theorem Gar.ga (t : Gar w q g q2 lo h b S R l l2 W) : Ga W q g S l W := Ga.start t.cb t.ar t.ap.qs.1
theorem Gar.rga (t : Gar w q g q2 lo h b S R l l2 W) : RGa W q2 lo h b R l2 W := ⟨t.rb, t.rf, t.ap.q2s.2, Tn.refl _ _⟩
theorem Gar.codes (t : Gar w q g q2 lo h b S R l l2 W) (a : Ga W q g S' l' W') : Gar w q g q2 lo h b S' R l' l2 W' := Both.code t (by decide) a.tn a.blk a.ar
theorem Gar.docs (t : Gar w q g q2 lo h b S R l l2 W) (a : RGa W q2 lo h b R' l' W') : Gar w q g q2 lo h b S R' l l' W' := Both.doc t a.tn a.blk a.rf
end
/-- The document's garbage and its arena behind an act. -/
def St.act19 (R : St) (l : Int) (kind : Int) (n : Int) (s : SlotV) : St × Int :=
  if kind = 0 ∨ kind = 1 then (R.gadd l n).2
  else if kind = 2 ∨ kind = 3 then (R.gunit l).2
  else if kind = 4 then (R.putZ n s, l)
  else (R, l)
theorem act19_last {R : St} {l kind n : Int} {s : SlotV} (hl : lastOk l) : lastOk (R.act19 l kind n s).2 := by
  unfold St.act19
  split
  · exact gadd_last hl
  · split
    · exact gunit_last hl
    · split
      · exact hl
      · exact hl
theorem act19_writes (R : St) (l kind n : Int) (s : SlotV) : R.writes ≤ (R.act19 l kind n s).1.writes ∧ (R.act19 l kind n s).1.writes ≤ R.writes + 1 := by
  unfold St.act19
  split
  · have := gadd_writes R l n
    omega
  · split
    · exact gunit_writes R l
    · split
      · exact putZ_writes R n s
      · exact ⟨Int.le_refl _, by dsimp only; omega⟩
end Go.Proofs.YtbidgpeeogoglaaDoor
/-
  The document's garbage, walked: All.
-/
namespace Go.Proofs.YtbidgpeeogoglaaDoor
set_option maxRecDepth 100000
open Go.RowKit Go.Sort

section
variable {R : St} {q lo h b : Nat} {l : Int}
/-- The document's All, with where its row lies. -/
theorem rall16_at (last : Int) (W : World) (r : IsRB lo h b R W) : Calls Tryd.prog 57 #[.pointer (some ⟨h, 0, none⟩), .int .i64 last] W (fun e w' => ∃ A c, e = .returned (.slice A (R.all last).length c) ∧ IntsAt w' A (natInts (R.all last)) ∧ (∀ a, A = some a → W.heap.size ≤ a.block ∧ a.block < w'.heap.size) ∧ Below W.heap.size W w') :=
  (rall16_any last W r).mono fun e w' ⟨v, h1, h2, h3⟩ => by
    rw [natInts_len] at h2
    obtain ⟨A, c, rfl, hi, ha⟩ := owns_intsFrom h2
    exact ⟨A, c, h1, hi, ha, h3⟩
set_option maxHeartbeats 8000000 in
theorem rswAll_any (w W : World) (a : RGa w q lo h b R l W) : Calls Tryd.prog 40 #[.pointer (some ⟨q, 0, none⟩)] W (RetInts (natInts (R.swAll l)) W) := by
  have HA := Lib.hid a
  obtain ⟨c0, c1, _⟩ := a.cells
  have d0 := cell_regrown c0
  have d1 := cell_regrown c1
  have HS := Lib.hid (fun k => swIt_len R l k)
  have HAL := Lib.hid (fun x => all_len R x)
  clear a
  go_enter Tryd.func40, Tryd.ntmps40
  go_upto_region 1 with fail
  refine wp_region_quiet_tail_below 8 (by kernel_rfl) (by kernel_rfl) ?_
  simp only [List.take_succ_cons, List.take_zero, List.drop_succ_cons, List.drop_zero]
  repeat (first | go_big_quiet_skip | (go_big_quiet_want; go_big_quiet_op; first | go_big_quiet_on))
  refine wpQuiet_nil ?_
  intro v0 hC
  have hb0 := below_class hC
  have H0 := Lib.hid (HA.out.read hb0)
  have HB0 := Lib.hid hb0
  clear hC hb0 d0 d1 c0 c1
  go_wp2_with (go_at_call 57; fail)
  refine (rall16_at l v0 H0.out.rf).mono ?_
  rintro e w1 ⟨A1, k1, rfl, hi1, ha1, hb1⟩
  have hs0 := HB0.out.size
  have hs1 := hb1.size
  have H1 := Lib.hid (H0.out.read hb1)
  have HB1 := Lib.hid (HB0.out.trans (hb1.mono hs0))
  have HW := Lib.hid (rwith19_any W.heap.size (.slice none 0 0) [] (R.all l) A1 k1 w1 (World.ownsRow_nil _ _ _ _) hi1 (fun a e => ⟨by simp [Value.ownBlock], (ha1 a e).2⟩) (by omega) (by have := all_len R l; simp; omega))
  clear hi1 ha1 hb1 H0 HB0
  go_wp2_with (go_at_call 73; fail)
  refine HW.out.mono ?_
  rintro e w2 ⟨v2, rfl, ho2, hb2⟩
  obtain ⟨p2, c2, rfl⟩ := owns_slice ho2
  have HO2 := Lib.hid (show w2.ownsRow W.heap.size 3 1 (.slice p2 (withL [] (R.all l)).length c2) (R.swIt l 0).length (intVs (natInts (R.swIt l 0))) from ho2)
  have HB2 := Lib.hid (HB1.out.trans hb2)
  clear ho2 hb2 HW H1 HB1
  go_wp2
  go_loopw [3, 4] (fun v i wr => ∃ k : Nat, k ≤ 32 ∧ i = .int .i64 k ∧ wr.ownsRow W.heap.size 3 1 v (R.swIt l k).length (intVs (natInts (R.swIt l k))) ∧ Below W.heap.size W wr) (fun _ i _ => 32 - (intOf i).toNat)
  case atStart => exact ⟨0, by omega, rfl, HO2.out, HB2.out⟩
  case round =>
    obtain ⟨k, hk, rfl, hown, hbel⟩ := hrel
    have hs := hbel.size
    have HB := Lib.hid hbel
    obtain ⟨Ar, cp, rfl⟩ := owns_slice hown
    have HO := Lib.hid hown
    have hl32 := HS.out k
    by_cases hlt : k < (R.swIt l k).length
    · have hki : (k : Int) < ((R.swIt l k).length : Int) := by omega
      obtain ⟨x, hx⟩ : ∃ x, (R.swIt l k)[k]? = some x := ⟨_, List.getElem?_eq_getElem hlt⟩
      have hx32 : x < 32 := (swIt_row R l k).2 x (List.mem_of_getElem? hx)
      have hnx := swIt_next R l hx
      obtain ⟨Ao, co, ho, hio⟩ := owns_intsAt hown
      obtain ⟨rfl, rfl⟩ : Ar = Ao ∧ cp = co := by injection ho with h1 _ h3; exact ⟨h1, h3⟩
      obtain ⟨b1, o1, rfl, g1, r1⟩ := hio (by rw [natInts_len]; omega)
      have e1 := r1 k (x : Int) (by simp [natInts, hx])
      have ra := HA.out.read hbel
      obtain ⟨e2, _, _⟩ := ra.cells
      obtain ⟨cap, e3⟩ := ra.rf.cell0
      obtain ⟨_, e4, _⟩ := ra.rf.slotc (k := x) hx32
      have x1 := cell_regrown e1
      have x2 := cell_regrown e2
      have x3 := cell_regrown e3
      have x4 := cell_regrown e4
      have hxi : (x : Int) < 32 := by omega
      have hx0 : (0 : Int) ≤ (x : Int) := by omega
      have HNX := Lib.hid hnx
      have hown2 := HO.out
      obtain ⟨m, hm⟩ : ∃ m, (R.slotAt (x : Int)).kids = m := ⟨_, rfl⟩
      rw [hm] at x4 e4 HNX
      have hlm := HAL.out m
      have HLT := Lib.hid (fun (j : Nat) (hj : (Value.slice (some ⟨b1, o1, none⟩) (R.swIt l k).length cp).ownBlock = some j) => (HO.out.lt j hj).2)
      generalize hE : R.swIt l k = E at *
      clear r1 hx hnx ho hio hown hbel hown2 hm
      go_upto_region 5 with fail
      have hs3 : wr.heap.size = wr.drew.heap.size := rfl
      refine wp_region_held_tail (S := fun W' => W'.cell? ⟨b1, o1 + k, none⟩ = some (.int .i64 (x : Int)) ∧ W'.cell? ⟨q, 0, none⟩ = some (.pointer (some ⟨h, 0, none⟩)) ∧ W'.cell? ⟨h, 0, none⟩ = some (.slice (some ⟨b, 0, none⟩) 32 cap) ∧ W'.cell? ⟨b, x * 17 + 2, none⟩ = some (.int .i64 m)) 19 (by kernel_rfl) (by kernel_rfl) rfl ⟨e1, e2, e3, e4⟩ ?_
      simp only [List.take_succ_cons, List.take_zero, List.drop_succ_cons, List.drop_zero]
      iterate 19 (refine wpHeld_cons (fun _ _ _ h => h) (Or.inl ⟨by rfl, by intro w hSw; (try dsimp only at hSw); obtain ⟨y1, y2, y3, y4⟩ := hSw; go_simp; try with_reducible rfl⟩) ?_; try simp only [Act.put, List.setIfInBounds_toArray, List.set_cons_zero, List.set_cons_succ])
      intro K' hK
      have ra3 : RGa w q lo h b R l wr.drew := ra.read (Below.refl _ wr).drew
      have ho3 := HO.out.kept (grownBy_below (Below.refl wr.heap.size wr).drew none) (.inr (fun e => by cases e))
      have hb3 := (Below.refl wr.heap.size wr).drew
      have f1 : wr.drew.cell? ⟨b1, o1 + k, none⟩ = some (.int .i64 (x : Int)) := e1
      have f2 : wr.drew.cell? ⟨q, 0, none⟩ = some (.pointer (some ⟨h, 0, none⟩)) := e2
      have f3 : wr.drew.cell? ⟨h, 0, none⟩ = some (.slice (some ⟨b, 0, none⟩) 32 cap) := e3
      have f4 : wr.drew.cell? ⟨b, x * 17 + 2, none⟩ = some (.int .i64 m) := e4
      have HB3 := Lib.hid (HB.out.trans (hb3.mono hs))
      have HO3 := Lib.hid ho3
      have RA3 := Lib.hid ra3
      generalize hv3 : wr.drew = v3 at *
      go_simp
      go_at_call 57
      refine (rall16_at m v3 RA3.out.rf).mono ?_
      rintro e w4 ⟨A4, k4, rfl, hi4, ha4, hb4⟩
      refine hK.out _ _ ⟨(hb4.cell (block_lt_of_cell f1)).trans f1, (hb4.cell (block_lt_of_cell f2)).trans f2, (hb4.cell (block_lt_of_cell f3)).trans f3, (hb4.cell (block_lt_of_cell f4)).trans f4⟩ (fun _ => ?_)
      clear x1 x2 x3 x4 e1 e2 e3 e4 f1 f2 f3 f4 ra ra3 ho3 hK
      try simp only [Act.put, List.setIfInBounds_toArray, List.set_cons_zero, List.set_cons_succ]
      have hs4 := hb4.size
      have ho4 := HO3.out.kept (grownBy_below hb4 none) (.inr (fun e => by cases e))
      have HB4 := Lib.hid (HB3.out.trans (hb4.mono (by omega)))
      have HW := Lib.hid (rwith19_any W.heap.size (.slice (some ⟨b1, o1, none⟩) E.length cp) E (R.all m) A4 k4 w4 ho4 hi4 (fun a e => ⟨fun e2 => by have h1 := HLT.out _ e2; have h2 := (ha4 a e).1; omega, (ha4 a e).2⟩) (by omega) (by omega))
      clear hi4 ha4 hb4 ho4 HO3 RA3 HB3
      go_wp2_with (go_at_call 73; fail)
      refine HW.out.mono ?_
      rintro e w5 ⟨v5, rfl, ho5, hb5⟩
      have HB5 := Lib.hid (HB4.out.trans hb5)
      have HO5 := Lib.hid ho5
      clear ho5 hb5 HW HB4
      go_wp2
      go_roundw
      case rel => exact ⟨k + 1, by omega, by go_num, by rw [HNX.out]; exact HO5.out, HB5.out⟩
      case measure => simp [intOf] <;> omega
    · have hki : ¬ (k : Int) < ((R.swIt l k).length : Int) := by omega
      have hall := swAll_at R l hk (by omega)
      have HAE := Lib.hid hall
      clear hown hbel hall
      go_wp2
      go_ret
      exact ⟨_, rfl, by rw [natInts_len, HAE.out]; exact HO.out, HB.out⟩
end
end Go.Proofs.YtbidgpeeogoglaaDoor
