/-
  Merged texts: TrLaw, TrW, TrW2, TrAdd, TrA.
-/
import Derived.Test.YtbidgpeeogoglaaGi
import Derived.Test.YtbidgpeeogoglaaHj
import Derived.Test.YtbidgpeeogoglaaHk
import Derived.Test.YtbidgpeeogoglaaGb
import Derived.BigRegion
/-
  Trees, as the document has them (pure).
-/
namespace Go.Proofs.Ytbidgpeeogoglaa
set_option maxRecDepth 100000
open Go.RowKit Go.Sort

def St.upd (S : St) (k : Nat) (s : SlotV) : St := { S with slots := S.slots.set k s }
def SlotV.hang (s : SlotV) (us ub : Int) : SlotV := { s with kids := -1, upSlot := us, upBirth := ub }
def SlotV.kid (s : SlotV) (v : Int) : SlotV := { s with kids := v }
/-- A slot's error: it is none; it isn't Used. -/
def St.tused (R : St) (i : Int) : Int := if inR i = false then 1 else if (R.slotAt i).used = false then 10 else 0
def St.there (R : St) (us ub : Int) : Bool := inR us && (R.slotAt us).used && ((R.slotAt us).birth == ub)
/-- The last one of the ring in which what has this link hangs. -/
def St.tring (R : St) (l us ub : Int) : Int := if ub = 0 then l else (R.slotAt us).kids
/-- .. turned. -/
def St.tset (R : St) (l us ub last : Int) : St × Int := if ub = 0 then (R, last) else (R.upd us.toNat ((R.slotAt us).kid last), l)
/-- The link that is set. -/
def upOf (us ub : Int) : Int := if ub = 0 then 0 else us
/-- Add, as the document has it. -/
def St.tadd (R : St) (l i us ub : Int) : (Int × Int) × St × Int :=
  if R.tused i ≠ 0 then ((R.tused i, -1), R, l)
  else if ub ≠ 0 ∧ inR us = false then ((1, -1), R, l)
  else if ub ≠ 0 ∧ us = i then ((9, -1), R, l)
  else if ub ≠ 0 ∧ R.there us ub = false then ((10, -1), R, l)
  else if (R.rpush (R.tring l us ub) i).1.2.1 ≠ 0 then (((R.rpush (R.tring l us ub) i).1.2.1, (R.rpush (R.tring l us ub) i).1.2.2), (R.rpush (R.tring l us ub) i).2, l)
  else ((0, -1), ((R.rpush (R.tring l us ub) i).2.upd i.toNat (((R.rpush (R.tring l us ub) i).2.slotAt i).hang (upOf us ub) ub)).tset l us ub (R.rpush (R.tring l us ub) i).1.1)
/-- Cut, as the document has it. -/
def St.tcut (R : St) (l i : Int) : (Int × Int) × St × Int :=
  if R.tused i ≠ 0 then ((R.tused i, -1), R, l)
  else if (R.slotAt i).upBirth ≠ 0 ∧ R.there (R.slotAt i).upSlot (R.slotAt i).upBirth = false then ((10, -1), R, l)
  else if (R.rdrop (R.tring l (R.slotAt i).upSlot (R.slotAt i).upBirth) i).1.2.1 ≠ 0 then (((R.rdrop (R.tring l (R.slotAt i).upSlot (R.slotAt i).upBirth) i).1.2.1, (R.rdrop (R.tring l (R.slotAt i).upSlot (R.slotAt i).upBirth) i).1.2.2), (R.rdrop (R.tring l (R.slotAt i).upSlot (R.slotAt i).upBirth) i).2, l)
  else ((0, -1), (R.rdrop (R.tring l (R.slotAt i).upSlot (R.slotAt i).upBirth) i).2.tset l (R.slotAt i).upSlot (R.slotAt i).upBirth (R.rdrop (R.tring l (R.slotAt i).upSlot (R.slotAt i).upBirth) i).1.1)
theorem tused_congr {S R : St} (h : S.slots = R.slots) (i : Int) : S.tused i = R.tused i := by unfold St.tused; rw [slotAt_congr h]
theorem there_congr {S R : St} (h : S.slots = R.slots) (us ub : Int) : S.there us ub = R.there us ub := by unfold St.there; rw [slotAt_congr h]
theorem tring_congr {S R : St} (h : S.slots = R.slots) (l us ub : Int) : S.tring l us ub = R.tring l us ub := by unfold St.tring; rw [slotAt_congr h]
theorem tused_range (R : St) (i : Int) : 0 ≤ R.tused i ∧ R.tused i ≤ 24 := by
  unfold St.tused
  repeat' split
  all_goals omega
theorem tused_in {R : St} {i : Int} (h : R.tused i = 0) : inR i = true ∧ (R.slotAt i).used = true := by
  unfold St.tused at h
  split at h
  · omega
  · rename_i h1
    split at h
    · omega
    · rename_i h2
      exact ⟨by simpa using h1, by simpa using h2⟩
theorem tthere_in {R : St} {us ub : Int} (h : R.there us ub = true) : inR us = true := by
  unfold St.there at h
  simp only [Bool.and_eq_true] at h
  exact h.1.1
/-- What is set in a slot, alike. -/
theorem Agree.upd {S R : St} (h : Agree S R) (k : Nat) (s : SlotV) : Agree (S.put k s) (R.upd k s) :=
  ⟨by show S.slots.set _ _ = R.slots.set _ _; rw [h.slots], h.free, by show (S.slots.set _ _).length = 32; rw [List.length_set]; exact h.len⟩
theorem put_writes (S : St) (k : Nat) (s : SlotV) : (S.put k s).writes = S.writes + 1 := rfl
theorem upd_writes (S : St) (k : Nat) (s : SlotV) : (S.upd k s).writes = S.writes := rfl
theorem tset_writes (S : St) (l us ub last : Int) : (S.tset l us ub last).1.writes = S.writes := by
  unfold St.tset
  split <;> rfl
theorem tadd_writes (R : St) (l i us ub : Int) : (R.tadd l i us ub).2.1.writes = R.writes := by
  unfold St.tadd
  repeat' split
  all_goals first
    | rfl
    | exact rpush_writes _ _ _
    | (rw [tset_writes, upd_writes]; exact rpush_writes _ _ _)
theorem rdropW (R : St) (a i : Int) : (R.rdrop a i).2.writes = R.writes := by
  unfold St.rdrop
  split
  · rfl
  · split
    · rfl
    · exact (setN_writes _ _ _).trans ((setP_writes _ _ _).trans (rlink_writes _ _ _))
theorem tcut_writes (R : St) (l i : Int) : (R.tcut l i).2.1.writes = R.writes := by
  unfold St.tcut
  repeat' split
  all_goals first
    | rfl
    | exact rdropW _ _ _
    | (rw [tset_writes]; exact rdropW _ _ _)
/-- The code's turn: a slot is put. -/
def St.cset (S : St) (l us ub last : Int) : St × Int := if ub = 0 then (S, last) else (S.put us.toNat ((S.slotAt us).kid last), l)
theorem Agree.cset {S R : St} (h : Agree S R) (l us ub last : Int) : Agree (S.cset l us ub last).1 (R.tset l us ub last).1 ∧ (S.cset l us ub last).2 = (R.tset l us ub last).2 := by
  unfold St.cset St.tset
  split
  · exact ⟨h, rfl⟩
  · rw [slotAt_congr h.slots]
    exact ⟨h.upd _ _, rfl⟩
theorem cset_writes (S : St) (l us ub last : Int) : S.writes ≤ (S.cset l us ub last).1.writes ∧ (S.cset l us ub last).1.writes ≤ S.writes + 1 := by
  unfold St.cset
  split
  · exact ⟨Int.le_refl _, by dsimp only; omega⟩
  · dsimp only; rw [put_writes]; omega
theorem upd_slots (S : St) (k : Nat) (s : SlotV) : (S.upd k s).slots = S.slots.set k s := rfl
/-- A slot that was set, read. -/
theorem slotAt_upd {S : St} (hl : S.slots.length = 32) {k : Nat} (hk : k < 32) (s : SlotV) (j : Int) : (S.upd k s).slotAt j = if j = (k : Int) then s else S.slotAt j := by
  unfold St.slotAt
  rw [upd_slots]
  by_cases hj : inR j = true
  · rw [if_pos hj, if_pos hj]
    have h2 := inR_iff.1 hj
    obtain ⟨m, rfl⟩ : ∃ m : Nat, j = (m : Int) := ⟨j.toNat, by omega⟩
    simp only [Int.toNat_natCast]
    by_cases hm : m = k
    · subst hm
      rw [List.getElem?_set_self (by omega), if_pos rfl]
    · rw [List.getElem?_set_ne (Ne.symm hm), if_neg (by omega)]
  · rw [if_neg hj, if_neg hj]
    rw [if_neg (fun e => hj (by subst e; exact inR_nat hk))]
end Go.Proofs.Ytbidgpeeogoglaa
/-
  Package tree: New, Last, used, ring, parent, turn.
-/
namespace Go.Proofs.Ytbidgpeeogoglaa
set_option maxRecDepth 100000
open Go.RowKit Go.Sort

/-- A tree at q, its arena at g; since w nothing else has turned. -/
structure Ta (w : World) (q g : Nat) (S : St) (l : Int) (W : World) : Prop where
  blk : Blk W q 67 #[.pointer (some ⟨g, 0, none⟩), .int .i64 l]
  ar : IsAr W g S
  ne : q ≠ g
  tn : Tn (fun k => k = q ∨ k = g) w W
section
variable {w W W' : World} {q g : Nat} {S S' : St} {l l' : Int}
theorem Ta.read (h : Ta w q g S l W) (hb : Below W.heap.size W W') : Ta w q g S l W' := ⟨h.blk.below hb h.blk.lt, h.ar.below hb h.ar.lt, h.ne, h.tn.call hb⟩
theorem Ta.turn (h : Ta w q g S l W) (hA : IsAr W' g S') (hG : W.grownBy W' (some g)) : Ta w q g S' l W' := ⟨h.blk.grown hG (fun e => h.ne (by cases e; rfl)), hA, h.ne, h.tn.grown hG (.inr rfl)⟩
theorem Ta.set (h : Ta w q g S l W) (l' : Int) : Ta w q g S l' (W.setCell ⟨q, 1, none⟩ (.int .i64 l')) :=
  ⟨by have := h.blk.set_ 1 (.int .i64 l'); simpa using this, h.ar.block (Below.heap_setCell _ _ _ g (show g ≠ q from Ne.symm h.ne)), h.ne, h.tn.grown (grownBy_set W q 1 _) (.inl rfl)⟩
theorem Ta.cells (h : Ta w q g S l W) : W.cell? ⟨q, 0, none⟩ = some (.pointer (some ⟨g, 0, none⟩)) ∧ W.cell? ⟨q, 1, none⟩ = some (.int .i64 l) ∧ W.frozen? ⟨q, 1, none⟩ = false := ⟨(h.blk.cell 0).trans rfl, (h.blk.cell 1).trans rfl, h.blk.frozen 1⟩
theorem Ta.qlt (h : Ta w q g S l W) : q < W.heap.size ∧ g < W.heap.size := ⟨h.blk.lt, h.ar.lt⟩
/-- Another block is written over. -/
theorem Ta.over {B : Nat} {t : TypeId} {cs : Array Value} (h : Ta w q g S l W) (_ : Blk W B t cs) (ds : Array Value) (hB : w.heap.size ≤ B ∧ q ≠ B ∧ g ≠ B) : Ta w q g S l (W.setRow B ds) :=
  ⟨h.blk.setRow_ne hB.2.1 ds, h.ar.block (setRow_other W B g ds hB.2.2), h.ne, ⟨h.tn.os, h.tn.tape, h.tn.output, Nat.le_trans h.tn.size (grownBy_setRow W B ds).size, fun k hk hx => (setRow_other W B k ds (by omega)).trans (h.tn.block k hk hx)⟩⟩
theorem Ta.start (hB : Blk w q 67 #[.pointer (some ⟨g, 0, none⟩), .int .i64 l]) (hA : IsAr w g S) (hne : q ≠ g) : Ta w q g S l w := ⟨hB, hA, hne, Tn.refl _ _⟩
/-- .. and a link at B. -/
structure TaL (w : World) (q g : Nat) (S : St) (l : Int) (B : Nat) (us ub : Int) (W : World) : Prop where
  ta : Ta w q g S l W
  bs : Blk W B 30 #[.int .i64 us, .int .i64 ub]
variable {B B' : Nat} {us ub : Int}
theorem TaL.read (h : TaL w q g S l B us ub W) (hb : Below W.heap.size W W') : TaL w q g S l B us ub W' := ⟨h.ta.read hb, h.bs.below hb h.bs.lt⟩
theorem TaL.qlt (h : TaL w q g S l B us ub W) : q < W.heap.size ∧ g < W.heap.size ∧ B < W.heap.size := ⟨h.ta.blk.lt, h.ta.ar.lt, h.bs.lt⟩
theorem TaL.tn (h : TaL w q g S l B us ub W) : Tn (fun k => k = q ∨ k = g) w W := h.ta.tn
theorem TaL.over {t : TypeId} {cs : Array Value} (h : TaL w q g S l B us ub W) (hz : Blk W B' t cs) (ds : Array Value) (hB : w.heap.size ≤ B' ∧ q ≠ B' ∧ g ≠ B' ∧ B ≠ B') : TaL w q g S l B us ub (W.setRow B' ds) :=
  ⟨h.ta.over hz ds ⟨hB.1, hB.2.1, hB.2.2.1⟩, h.bs.setRow_ne hB.2.2.2 ds⟩
theorem TaL.cells (h : TaL w q g S l B us ub W) : W.cell? ⟨q, 0, none⟩ = some (.pointer (some ⟨g, 0, none⟩)) ∧ W.cell? ⟨B, 0, none⟩ = some (.int .i64 us) ∧ W.cell? ⟨B, 1, none⟩ = some (.int .i64 ub) := ⟨h.ta.cells.1, (h.bs.cell 0).trans rfl, (h.bs.cell 1).trans rfl⟩
theorem Ta.box (h : Ta w q g S l W) (us ub : Int) : TaL w q g S l W.heap.size us ub (W.alloc (.cells #[.int .i64 us, .int .i64 ub] 30)) :=
  ⟨h.read ((Below.refl _ _).alloc (Nat.le_refl _) _), Blk.new _ _ _⟩
end
def RetT (v : Value) (w : World) (q g : Nat) (S : St) (l : Int) (e : Ending) (w' : World) : Prop := e = .returned v ∧ Ta w q g S l w'
theorem trNew_any (g : Nat) (w : World) : Calls Try.prog 27 #[.pointer (some ⟨g, 0, none⟩)] w fun e w' => e = .returned (.pointer (some ⟨w.heap.size, 0, none⟩)) ∧ Blk w' w.heap.size 67 #[.pointer (some ⟨g, 0, none⟩), .int .i64 (-1)] ∧ Below w.heap.size w w' := by
  go_enter Try.func27, Try.ntmps27
  go_wp2
  go_ret
  exact ⟨rfl, Blk.new _ _ _, (Below.refl _ _).alloc (Nat.le_refl _) _⟩
section
variable {S S' : St} {q g : Nat} {l : Int}
theorem trLast_any (w W : World) (a : Ta w q g S l W) : Calls Try.prog 10 #[.pointer (some ⟨q, 0, none⟩)] W (RetSame (.int .i64 l) W) := by
  obtain ⟨c0, c1, _⟩ := a.cells
  clear a
  go_enter Try.func10, Try.ntmps10
  go_wp2
  go_ret
  exact ⟨rfl, rfl⟩
set_option maxHeartbeats 4000000 in
theorem tused_out {i : Int} (hi : inR i = false) (w W : World) (h : Ta w q g S l W) : Calls Try.prog 28 #[.pointer (some ⟨q, 0, none⟩), .int .i64 i] W (RetT (.tuple #[.agg (S.slotAt i).cells, errno 1]) w q g S l) := by
  have HU := Lib.hid Try.underlying57
  obtain ⟨V, hV⟩ : ∃ V, W.alloc (.cells zeroL 57) = V := ⟨_, rfl⟩
  have hVs : V.heap.size ≤ W.heap.size + 1 ∧ W.heap.size + 1 ≤ V.heap.size := by rw [← hV]; simp
  have hbV : Below W.heap.size W V := by rw [← hV]; exact (Below.refl _ _).alloc (Nat.le_refl _) _
  have HZ := Lib.hid (show Blk V W.heap.size 57 zeroL by rw [← hV]; exact Blk.new _ _ _)
  have HH := Lib.hid (h.read hbV)
  have HV := Lib.hid hV
  have HG := get_gen i g V HH.out.ar
  rw [show errAt i = errno 1 from if_neg (by simp [hi])] at HG
  have HGA := Lib.hid HG
  obtain ⟨s, hs⟩ : ∃ s, S.slotAt i = s := ⟨_, rfl⟩
  rw [hs] at HGA  ⊢
  have hneq := errno_neq 1
  have hgrd : ∀ x y w, (eqGuard .neq 32 x y (errno 1) .nilIface).run Try.prog w = .ok () w := fun x y w => by unfold errno; kernel_rfl
  have hql := HH.out.qlt
  have hwl := h.tn.size
  have hq0 := h.qlt
  clear HG hV hbV h hs hi
  have c0 : (W.alloc (.cells zeroL 57)).cell? ⟨q, 0, none⟩ = some (.pointer (some ⟨g, 0, none⟩)) := by rw [HV.out]; exact HH.out.cells.1
  go_enter Try.func28, Try.ntmps28
  go_wp2_with (go_at_call 23; fail)
  rw [HV.out]
  refine HGA.out.mono ?_
  rintro e w2 ⟨rfl, hb2⟩
  have hs2 := hb2.size
  have HZ2 := Lib.hid (HZ.out.below hb2 HZ.out.lt)
  have H2 := Lib.hid (HH.out.read hb2)
  have d0 : (w2.alloc (.cells s.cells 57)).cell? ⟨w2.heap.size, 0, none⟩ = some (.bool s.used) := ((Blk.new _ _ _).cell 0).trans rfl
  clear hb2 HGA c0 HZ HH
  obtain ⟨V2, hV2⟩ : ∃ V2, w2.alloc (.cells s.cells 57) = V2 := ⟨_, rfl⟩
  have hbV2 : Below w2.heap.size w2 V2 := by rw [← hV2]; exact (Below.refl _ _).alloc (Nat.le_refl _) _
  have HB2 := Lib.hid (show Blk V2 w2.heap.size 57 s.cells by rw [← hV2]; exact Blk.new _ _ _)
  have HZ3 := Lib.hid (HZ2.out.below hbV2 HZ2.out.lt)
  have H3 := Lib.hid (H2.out.read hbV2)
  have HV2 := Lib.hid hV2
  rw [hV2] at d0
  clear hV2 hbV2 HZ2 H2
  go_wp2_with (first
    | ((with_reducible show wpList _ _ _ _ _ (World.alloc _ _)); refine wpList_store_new (ty := 57) rfl rfl rfl rfl rfl (SlotV.one _) slotInfo ?_; rw [HV2.out])
    | ((with_reducible show wpList _ _ _ _ _ V2); refine wpList_load_at (ty := 57) rfl rfl rfl HB2.out.row HU.out rfl slotInfo ?_)
    | ((with_reducible show wpList _ _ _ _ _ V2); refine wpList_store_all (ty := 57) rfl rfl rfl rfl HZ3.out rfl (SlotV.one _) slotInfo ?_))
  exact bodyPost_ret (results_at_tmp rfl rfl (HZ3.out.setRow_same s.cells).row HU.out rfl slotInfo) rfl ⟨rfl, H3.out.over HZ3.out _ ⟨by omega, by omega, by omega⟩⟩
set_option maxHeartbeats 4000000 in
theorem tused_no {i : Int} (hi : inR i = true) (hu : (S.slotAt i).used = false) (w W : World) (h : Ta w q g S l W) : Calls Try.prog 28 #[.pointer (some ⟨q, 0, none⟩), .int .i64 i] W (RetT (.tuple #[.agg (S.slotAt i).cells, errno 10]) w q g S l) := by
  have HU := Lib.hid Try.underlying57
  obtain ⟨V, hV⟩ : ∃ V, W.alloc (.cells zeroL 57) = V := ⟨_, rfl⟩
  have hVs : V.heap.size ≤ W.heap.size + 1 ∧ W.heap.size + 1 ≤ V.heap.size := by rw [← hV]; simp
  have hbV : Below W.heap.size W V := by rw [← hV]; exact (Below.refl _ _).alloc (Nat.le_refl _) _
  have HZ := Lib.hid (show Blk V W.heap.size 57 zeroL by rw [← hV]; exact Blk.new _ _ _)
  have HH := Lib.hid (h.read hbV)
  have HV := Lib.hid hV
  have HG := get_gen i g V HH.out.ar
  rw [show errAt i = .nilIface from if_pos hi] at HG
  have HGA := Lib.hid HG
  obtain ⟨s, hs⟩ : ∃ s, S.slotAt i = s := ⟨_, rfl⟩
  rw [hs] at HGA hu ⊢
  have hneq := nil_neq
  have hgrd : ∀ x y w, (eqGuard .neq 32 x y (errno 1) .nilIface).run Try.prog w = .ok () w := fun x y w => by unfold errno; kernel_rfl
  have hql := HH.out.qlt
  have hwl := h.tn.size
  have hq0 := h.qlt
  clear HG hV hbV h hs hi
  have c0 : (W.alloc (.cells zeroL 57)).cell? ⟨q, 0, none⟩ = some (.pointer (some ⟨g, 0, none⟩)) := by rw [HV.out]; exact HH.out.cells.1
  go_enter Try.func28, Try.ntmps28
  go_wp2_with (go_at_call 23; fail)
  rw [HV.out]
  refine HGA.out.mono ?_
  rintro e w2 ⟨rfl, hb2⟩
  have hs2 := hb2.size
  have HZ2 := Lib.hid (HZ.out.below hb2 HZ.out.lt)
  have H2 := Lib.hid (HH.out.read hb2)
  have d0 : (w2.alloc (.cells s.cells 57)).cell? ⟨w2.heap.size, 0, none⟩ = some (.bool s.used) := ((Blk.new _ _ _).cell 0).trans rfl
  rw [hu] at d0
  clear hu
  clear hb2 HGA c0 HZ HH
  obtain ⟨V2, hV2⟩ : ∃ V2, w2.alloc (.cells s.cells 57) = V2 := ⟨_, rfl⟩
  have hbV2 : Below w2.heap.size w2 V2 := by rw [← hV2]; exact (Below.refl _ _).alloc (Nat.le_refl _) _
  have HB2 := Lib.hid (show Blk V2 w2.heap.size 57 s.cells by rw [← hV2]; exact Blk.new _ _ _)
  have HZ3 := Lib.hid (HZ2.out.below hbV2 HZ2.out.lt)
  have H3 := Lib.hid (H2.out.read hbV2)
  have HV2 := Lib.hid hV2
  rw [hV2] at d0
  clear hV2 hbV2 HZ2 H2
  go_wp2_with (first
    | ((with_reducible show wpList _ _ _ _ _ (World.alloc _ _)); refine wpList_store_new (ty := 57) rfl rfl rfl rfl rfl (SlotV.one _) slotInfo ?_; rw [HV2.out])
    | ((with_reducible show wpList _ _ _ _ _ V2); refine wpList_load_at (ty := 57) rfl rfl rfl HB2.out.row HU.out rfl slotInfo ?_)
    | ((with_reducible show wpList _ _ _ _ _ V2); refine wpList_store_all (ty := 57) rfl rfl rfl rfl HZ3.out rfl (SlotV.one _) slotInfo ?_))
  exact bodyPost_ret (results_at_tmp rfl rfl (HZ3.out.setRow_same s.cells).row HU.out rfl slotInfo) rfl ⟨rfl, H3.out.over HZ3.out _ ⟨by omega, by omega, by omega⟩⟩
set_option maxHeartbeats 4000000 in
theorem tused_ok {i : Int} (hi : inR i = true) (hu : (S.slotAt i).used = true) (w W : World) (h : Ta w q g S l W) : Calls Try.prog 28 #[.pointer (some ⟨q, 0, none⟩), .int .i64 i] W (RetT (.tuple #[.agg (S.slotAt i).cells, .nilIface]) w q g S l) := by
  have HU := Lib.hid Try.underlying57
  obtain ⟨V, hV⟩ : ∃ V, W.alloc (.cells zeroL 57) = V := ⟨_, rfl⟩
  have hVs : V.heap.size ≤ W.heap.size + 1 ∧ W.heap.size + 1 ≤ V.heap.size := by rw [← hV]; simp
  have hbV : Below W.heap.size W V := by rw [← hV]; exact (Below.refl _ _).alloc (Nat.le_refl _) _
  have HZ := Lib.hid (show Blk V W.heap.size 57 zeroL by rw [← hV]; exact Blk.new _ _ _)
  have HH := Lib.hid (h.read hbV)
  have HV := Lib.hid hV
  have HG := get_gen i g V HH.out.ar
  rw [show errAt i = .nilIface from if_pos hi] at HG
  have HGA := Lib.hid HG
  obtain ⟨s, hs⟩ : ∃ s, S.slotAt i = s := ⟨_, rfl⟩
  rw [hs] at HGA hu ⊢
  have hneq := nil_neq
  have hgrd : ∀ x y w, (eqGuard .neq 32 x y (errno 1) .nilIface).run Try.prog w = .ok () w := fun x y w => by unfold errno; kernel_rfl
  have hql := HH.out.qlt
  have hwl := h.tn.size
  have hq0 := h.qlt
  clear HG hV hbV h hs hi
  have c0 : (W.alloc (.cells zeroL 57)).cell? ⟨q, 0, none⟩ = some (.pointer (some ⟨g, 0, none⟩)) := by rw [HV.out]; exact HH.out.cells.1
  go_enter Try.func28, Try.ntmps28
  go_wp2_with (go_at_call 23; fail)
  rw [HV.out]
  refine HGA.out.mono ?_
  rintro e w2 ⟨rfl, hb2⟩
  have hs2 := hb2.size
  have HZ2 := Lib.hid (HZ.out.below hb2 HZ.out.lt)
  have H2 := Lib.hid (HH.out.read hb2)
  have d0 : (w2.alloc (.cells s.cells 57)).cell? ⟨w2.heap.size, 0, none⟩ = some (.bool s.used) := ((Blk.new _ _ _).cell 0).trans rfl
  rw [hu] at d0
  clear hu
  clear hb2 HGA c0 HZ HH
  obtain ⟨V2, hV2⟩ : ∃ V2, w2.alloc (.cells s.cells 57) = V2 := ⟨_, rfl⟩
  have hbV2 : Below w2.heap.size w2 V2 := by rw [← hV2]; exact (Below.refl _ _).alloc (Nat.le_refl _) _
  have HB2 := Lib.hid (show Blk V2 w2.heap.size 57 s.cells by rw [← hV2]; exact Blk.new _ _ _)
  have HZ3 := Lib.hid (HZ2.out.below hbV2 HZ2.out.lt)
  have H3 := Lib.hid (H2.out.read hbV2)
  have HV2 := Lib.hid hV2
  rw [hV2] at d0
  clear hV2 hbV2 HZ2 H2
  go_wp2_with (first
    | ((with_reducible show wpList _ _ _ _ _ (World.alloc _ _)); refine wpList_store_new (ty := 57) rfl rfl rfl rfl rfl (SlotV.one _) slotInfo ?_; rw [HV2.out])
    | ((with_reducible show wpList _ _ _ _ _ V2); refine wpList_load_at (ty := 57) rfl rfl rfl HB2.out.row HU.out rfl slotInfo ?_)
    | ((with_reducible show wpList _ _ _ _ _ V2); refine wpList_store_all (ty := 57) rfl rfl rfl rfl HZ3.out rfl (SlotV.one _) slotInfo ?_))
  exact bodyPost_ret (results_at_tmp rfl rfl (HZ3.out.setRow_same s.cells).row HU.out rfl slotInfo) rfl ⟨rfl, H3.out.over HZ3.out _ ⟨by omega, by omega, by omega⟩⟩
theorem tused_any (i : Int) (w W : World) (h : Ta w q g S l W) : Calls Try.prog 28 #[.pointer (some ⟨q, 0, none⟩), .int .i64 i] W (RetT (.tuple #[.agg (S.slotAt i).cells, errOf (S.tused i)]) w q g S l) := by
  unfold St.tused
  rcases inR_cases i with hi | hi
  · rw [if_neg (by simp [hi])]
    rcases hu : (S.slotAt i).used with _ | _
    · exact tused_no hi hu w W h
    · exact tused_ok hi hu w W h
  · rw [if_pos hi]
    exact tused_out hi w W h
set_option maxHeartbeats 4000000 in
theorem tring_zero (us : Int) (w W : World) (h : Ta w q g S l W) : Calls Try.prog 30 #[.pointer (some ⟨q, 0, none⟩), .agg #[.int .i64 us, .int .i64 0]] W (RetT (.tuple #[.int .i64 l, .nilIface]) w q g S l) := by
  obtain ⟨ub, hub⟩ : ∃ ub : Int, 0 = ub := ⟨_, rfl⟩
  rw [hub]
  obtain ⟨V, hV⟩ : ∃ V, W.alloc (.cells #[.int .i64 us, .int .i64 ub] 30) = V := ⟨_, rfl⟩
  have hVs : V.heap.size ≤ W.heap.size + 1 ∧ W.heap.size + 1 ≤ V.heap.size := by rw [← hV]; simp
  obtain ⟨bx, hbx⟩ : ∃ bx, W.heap.size = bx := ⟨_, rfl⟩
  have HL := Lib.hid (show TaL w q g S l bx us ub V by rw [← hV, ← hbx]; exact h.box us ub)
  have HV := Lib.hid hV
  have c1 : (W.alloc (.cells #[.int .i64 us, .int .i64 ub] 30)).cell? ⟨W.heap.size, 1, none⟩ = some (.int .i64 ub) := by rw [hV, hbx]; exact HL.out.cells.2.2
  have HBX := Lib.hid hbx
  clear hV hbx h
  have c3 : (W.alloc (.cells #[.int .i64 us, .int .i64 ub] 30)).cell? ⟨q, 1, none⟩ = some (.int .i64 l) := by rw [HV.out]; exact HL.out.ta.cells.2.1
  subst hub
  go_enter Try.func30, Try.ntmps30
  go_wp2
  go_ret2
  rw [HV.out]
  exact ⟨rfl, HL.out.ta⟩
set_option maxHeartbeats 8000000 in
theorem tring_out {us ub : Int} (hub : ub ≠ 0) (hi : inR us = false) (w W : World) (h : Ta w q g S l W) : Calls Try.prog 30 #[.pointer (some ⟨q, 0, none⟩), .agg #[.int .i64 us, .int .i64 ub]] W (RetT (.tuple #[.int .i64 (-1), errno 10]) w q g S l) := by
  obtain ⟨V, hV⟩ : ∃ V, W.alloc (.cells #[.int .i64 us, .int .i64 ub] 30) = V := ⟨_, rfl⟩
  have hVs : V.heap.size ≤ W.heap.size + 1 ∧ W.heap.size + 1 ≤ V.heap.size := by rw [← hV]; simp
  obtain ⟨bx, hbx⟩ : ∃ bx, W.heap.size = bx := ⟨_, rfl⟩
  have HL := Lib.hid (show TaL w q g S l bx us ub V by rw [← hV, ← hbx]; exact h.box us ub)
  have HV := Lib.hid hV
  have c1 : (W.alloc (.cells #[.int .i64 us, .int .i64 ub] 30)).cell? ⟨W.heap.size, 1, none⟩ = some (.int .i64 ub) := by rw [hV, hbx]; exact HL.out.cells.2.2
  have HBX := Lib.hid hbx
  clear hV hbx h
  have HG := fun W' (a : Ta w q g S l W') => get_gen us g W' a.ar
  rw [show errAt us = errno 1 from if_neg (by simp [hi])] at HG
  obtain ⟨s, hs⟩ : ∃ s, S.slotAt us = s := ⟨_, rfl⟩
  rw [hs] at HG 
  have GA := Lib.hid (fun W' (a : TaL w q g S l bx us ub W') => (HG W' a.ta).mono fun e w2 ⟨h1, h2⟩ => show e = Ending.returned (.tuple #[.agg s.cells, errno 1]) ∧ TaL w q g S l bx us ub w2 ∧ Below W'.heap.size W' w2 from ⟨h1, a.read h2, h2⟩)
  clear HG
  have hubf : (ub == 0) = false := by simpa using hub
  go_enter Try.func30, Try.ntmps30
  go_upto_region 3 with fail
  rw [HV.out, HBX.out]
  clear c1
  have td := HL.out.read (Below.refl V.heap.size V).drew
  refine wp_region_cut (fun a' w' => ∃ (B : Nat) (z : Nat → Value), (∀ i, z i = a'.tmps.getD i undef) ∧ a'.tmps = #[.pointer (some ⟨q, 0, none⟩), .agg #[.int .i64 us, .int .i64 ub], z 2, .pointer (some ⟨bx, 0, none⟩), .int .i64 0, .nilIface, .pointer (some ⟨B, 0, none⟩), errno 1, z 8, z 9, z 10, z 11, z 12, z 13, z 14, z 15, z 16, z 17, z 18, z 19, z 20, z 21, z 22, z 23, z 24, z 25, z 26, z 27, z 28, z 29, z 30, z 31, z 32, z 33, z 34, z 35, z 36, z 37, z 38, z 39, z 40, z 41, z 42] ∧ a'.defers = [] ∧ (Blk w' B 57 s.cells ∧ TaL w q g S l bx us ub w')) ?_ ?_
  · refine wp_region_held_drew (S := fun W' => W'.cell? ⟨q, 0, none⟩ = some (.pointer (some ⟨g, 0, none⟩)) ∧ W'.cell? ⟨bx, 0, none⟩ = some (.int .i64 us)) (by kernel_rfl) ⟨td.ta.cells.1, td.cells.2.1⟩ (fun hHeld => ?_)
    refine wpAnyH_take (i := 0) (v := _) rfl (by kernel_rfl) (by kernel_rfl) (by kernel_rfl) (fun _ _ _ h => h) (Or.inl ⟨by rfl, by intro w hSw; (try dsimp only at hSw); go_simp; try with_reducible rfl⟩) (by assumption) ?_
    try simp only [put_laws]
    refine wpAnyH_take (i := 1) (v := _) rfl (by kernel_rfl) (by kernel_rfl) (by kernel_rfl) (fun _ _ _ h => h) (Or.inl ⟨by rfl, by intro w hSw; (try dsimp only at hSw); go_simp; try with_reducible rfl⟩) (by assumption) ?_
    try simp only [put_laws]
    refine wpAnyH_take (i := 2) (v := _) rfl (by kernel_rfl) (by kernel_rfl) (by kernel_rfl) (fun _ _ _ h => h) (Or.inl ⟨by rfl, by intro w hSw; (try dsimp only at hSw); go_simp; try with_reducible rfl⟩) (by assumption) ?_
    try simp only [put_laws]
    refine wpAnyH_take (i := 3) (v := _) rfl (by kernel_rfl) (by kernel_rfl) (by kernel_rfl) (fun _ _ _ h => h) (Or.inl ⟨by rfl, by intro w hSw; (try dsimp only at hSw); go_simp; try with_reducible rfl⟩) (by assumption) ?_
    try simp only [put_laws]
    refine wpAnyH_take (i := 4) (v := _) rfl (by kernel_rfl) (by kernel_rfl) (by kernel_rfl) (fun _ _ _ h => h) (Or.inl ⟨by rfl, by intro w hSw; (try dsimp only at hSw); go_simp; try with_reducible rfl⟩) (by assumption) ?_
    try simp only [put_laws]
    refine wpAnyH_take (i := 5) (v := _) rfl (by kernel_rfl) (by kernel_rfl) (by kernel_rfl) (fun _ _ _ h => h) (Or.inl ⟨by rfl, by intro w hSw; (try dsimp only at hSw); go_simp; try with_reducible rfl⟩) (by assumption) ?_
    try simp only [put_laws]
    refine wpAnyH_ready (rs := [6, 10]) (by kernel_rfl) (by simp) ?_
    refine AllReadyH.cons rfl (fun K hK => ?_) ?_
    · go_simp
      go_at_call 23
      refine (GA.out _ td).mono ?_
      rintro e w4 ⟨rfl, h4, hb4⟩
      refine hK.out _ _ ⟨h4.ta.cells.1, h4.cells.2.1⟩ (fun hH => ?_)
      refine wpAnyH_take (i := 7) (v := _) rfl (by kernel_rfl) (by kernel_rfl) (by kernel_rfl) (fun _ _ _ h => h) (Or.inl ⟨by rfl, by intro w hSw; (try dsimp only at hSw); go_simp; try with_reducible rfl⟩) (by assumption) ?_
      try simp only [put_laws]
      refine wpAnyH_take (i := 8) (v := _) rfl (by kernel_rfl) (by kernel_rfl) (by kernel_rfl) (fun _ _ _ h => h) (Or.inl ⟨by rfl, by intro w hSw; (try dsimp only at hSw); go_simp; try with_reducible rfl⟩) (by assumption) ?_
      try simp only [put_laws]
      refine wpAnyH_take (i := 9) (v := _) rfl (by kernel_rfl) (by kernel_rfl) (by kernel_rfl) (fun _ _ _ h => h) (Or.inl ⟨by rfl, by intro w hSw; (try dsimp only at hSw); go_simp; try with_reducible rfl⟩) (by assumption) ?_
      try simp only [put_laws]
      refine wpAnyH_ready (rs := [10]) (by kernel_rfl) (by simp) ?_
      refine AllReadyH.cons rfl (fun K hK => ?_) AllReadyH.nil
      go_simp
      have h5 := h4.read ((Below.refl _ w4).alloc (Nat.le_refl _) (.cells zeroL 57))
      refine hK.out _ _ ⟨h5.ta.cells.1, h5.cells.2.1⟩ (fun hH => ?_)
      refine wpAnyH_ready (rs := [11]) (by kernel_rfl) (by simp) ?_
      refine AllReadyH.cons rfl (fun K hK => ?_) AllReadyH.nil
      refine step_store_new (by rfl) (by rfl) (by rfl) (by rfl) (by rfl) (SlotV.one _) slotInfo ?_
      have h6 := h4.read ((Below.refl _ w4).alloc (Nat.le_refl _) (.cells s.cells 57))
      refine hK.out _ _ ⟨h6.ta.cells.1, h6.cells.2.1⟩ (fun hH => ?_)
      try simp only [put_laws]
      refine wpAnyH_take (i := 12) (v := _) rfl (by kernel_rfl) (by kernel_rfl) (by kernel_rfl) (fun _ _ _ h => h) (Or.inl ⟨by rfl, by intro w hSw; (try dsimp only at hSw); go_simp; try with_reducible rfl⟩) (by assumption) ?_
      try simp only [put_laws]
      refine wpAnyH_done (by kernel_rfl) ?_ _
      exact cutQ.normal ⟨w4.heap.size, fun i => Array.getD _ i undef, fun _ => rfl, by kernel_rfl, rfl, ⟨Blk.new _ _ _, h6⟩⟩
    · refine AllReadyH.cons rfl (fun K hK => ?_) AllReadyH.nil
      go_simp
      have t1 := td.read ((Below.refl _ V.drew).alloc (Nat.le_refl _) (.cells zeroL 57))
      refine hK.out _ _ ⟨t1.ta.cells.1, t1.cells.2.1⟩ (fun hH => ?_)
      refine wpAnyH_ready (rs := [6]) (by kernel_rfl) (by simp) ?_
      refine AllReadyH.cons rfl (fun K hK => ?_) AllReadyH.nil
      go_simp
      go_at_call 23
      refine (GA.out _ t1).mono ?_
      rintro e w4 ⟨rfl, h4, hb4⟩
      have hz : Blk w4 V.heap.size 57 zeroL := (Blk.new V.drew 57 zeroL).below hb4 (by simp)
      refine hK.out _ _ ⟨h4.ta.cells.1, h4.cells.2.1⟩ (fun hH => ?_)
      refine wpAnyH_take (i := 7) (v := _) rfl (by kernel_rfl) (by kernel_rfl) (by kernel_rfl) (fun _ _ _ h => h) (Or.inl ⟨by rfl, by intro w hSw; (try dsimp only at hSw); go_simp; try with_reducible rfl⟩) (by assumption) ?_
      try simp only [put_laws]
      refine wpAnyH_take (i := 8) (v := _) rfl (by kernel_rfl) (by kernel_rfl) (by kernel_rfl) (fun _ _ _ h => h) (Or.inl ⟨by rfl, by intro w hSw; (try dsimp only at hSw); go_simp; try with_reducible rfl⟩) (by assumption) ?_
      try simp only [put_laws]
      refine wpAnyH_take (i := 9) (v := _) rfl (by kernel_rfl) (by kernel_rfl) (by kernel_rfl) (fun _ _ _ h => h) (Or.inl ⟨by rfl, by intro w hSw; (try dsimp only at hSw); go_simp; try with_reducible rfl⟩) (by assumption) ?_
      try simp only [put_laws]
      refine wpAnyH_ready (rs := [11]) (by kernel_rfl) (by simp) ?_
      refine AllReadyH.cons rfl (fun K hK => ?_) AllReadyH.nil
      refine step_store_blk (by rfl) (by rfl) (by rfl) (by rfl) hz (by rfl) (SlotV.one _) slotInfo ?_
      have h6 := h4.over hz s.cells (by have h1 := td.qlt; have h2 := td.tn.size; have h3 : V.drew.heap.size = V.heap.size := rfl; omega)
      refine hK.out _ _ ⟨h6.ta.cells.1, h6.cells.2.1⟩ (fun hH => ?_)
      try simp only [put_laws]
      refine wpAnyH_take (i := 12) (v := _) rfl (by kernel_rfl) (by kernel_rfl) (by kernel_rfl) (fun _ _ _ h => h) (Or.inl ⟨by rfl, by intro w hSw; (try dsimp only at hSw); go_simp; try with_reducible rfl⟩) (by assumption) ?_
      try simp only [put_laws]
      refine wpAnyH_done (by kernel_rfl) ?_ _
      exact cutQ.normal ⟨V.heap.size, fun i => Array.getD _ i undef, fun _ => rfl, by kernel_rfl, rfl, ⟨hz.setRow_same _, h6⟩⟩
  rintro ⟨tm, df⟩ V2 ⟨B, z, hq, hF, hD, HK⟩
  dsimp only at hq hF hD
  clear hq
  subst hF hD
  have H4 := Lib.hid HK.2
  clear HK td
  have hneq := errno_neq 1
  have hgrd : ∀ x y w, (eqGuard .neq 32 x y (errno 1) .nilIface).run Try.prog w = .ok () w := fun x y w => by unfold errno; kernel_rfl
  go_wp2
  go_ret2
  exact ⟨rfl, H4.out.ta⟩
set_option maxHeartbeats 8000000 in
theorem tring_unused {us ub : Int} (hub : ub ≠ 0) (hi : inR us = true) (hu : (S.slotAt us).used = false) (w W : World) (h : Ta w q g S l W) : Calls Try.prog 30 #[.pointer (some ⟨q, 0, none⟩), .agg #[.int .i64 us, .int .i64 ub]] W (RetT (.tuple #[.int .i64 (-1), errno 10]) w q g S l) := by
  obtain ⟨V, hV⟩ : ∃ V, W.alloc (.cells #[.int .i64 us, .int .i64 ub] 30) = V := ⟨_, rfl⟩
  have hVs : V.heap.size ≤ W.heap.size + 1 ∧ W.heap.size + 1 ≤ V.heap.size := by rw [← hV]; simp
  obtain ⟨bx, hbx⟩ : ∃ bx, W.heap.size = bx := ⟨_, rfl⟩
  have HL := Lib.hid (show TaL w q g S l bx us ub V by rw [← hV, ← hbx]; exact h.box us ub)
  have HV := Lib.hid hV
  have c1 : (W.alloc (.cells #[.int .i64 us, .int .i64 ub] 30)).cell? ⟨W.heap.size, 1, none⟩ = some (.int .i64 ub) := by rw [hV, hbx]; exact HL.out.cells.2.2
  have HBX := Lib.hid hbx
  clear hV hbx h
  have HG := fun W' (a : Ta w q g S l W') => get_gen us g W' a.ar
  rw [show errAt us = .nilIface from if_pos hi] at HG
  obtain ⟨s, hs⟩ : ∃ s, S.slotAt us = s := ⟨_, rfl⟩
  rw [hs] at HG hu
  have GA := Lib.hid (fun W' (a : TaL w q g S l bx us ub W') => (HG W' a.ta).mono fun e w2 ⟨h1, h2⟩ => show e = Ending.returned (.tuple #[.agg s.cells, .nilIface]) ∧ TaL w q g S l bx us ub w2 ∧ Below W'.heap.size W' w2 from ⟨h1, a.read h2, h2⟩)
  clear HG
  have hubf : (ub == 0) = false := by simpa using hub
  go_enter Try.func30, Try.ntmps30
  go_upto_region 3 with fail
  rw [HV.out, HBX.out]
  clear c1
  have td := HL.out.read (Below.refl V.heap.size V).drew
  refine wp_region_cut (fun a' w' => ∃ (B : Nat) (z : Nat → Value), (∀ i, z i = a'.tmps.getD i undef) ∧ a'.tmps = #[.pointer (some ⟨q, 0, none⟩), .agg #[.int .i64 us, .int .i64 ub], z 2, .pointer (some ⟨bx, 0, none⟩), .int .i64 0, .nilIface, .pointer (some ⟨B, 0, none⟩), .nilIface, z 8, z 9, z 10, z 11, z 12, z 13, z 14, z 15, z 16, z 17, z 18, z 19, z 20, z 21, z 22, z 23, z 24, z 25, z 26, z 27, z 28, z 29, z 30, z 31, z 32, z 33, z 34, z 35, z 36, z 37, z 38, z 39, z 40, z 41, z 42] ∧ a'.defers = [] ∧ (Blk w' B 57 s.cells ∧ TaL w q g S l bx us ub w')) ?_ ?_
  · refine wp_region_held_drew (S := fun W' => W'.cell? ⟨q, 0, none⟩ = some (.pointer (some ⟨g, 0, none⟩)) ∧ W'.cell? ⟨bx, 0, none⟩ = some (.int .i64 us)) (by kernel_rfl) ⟨td.ta.cells.1, td.cells.2.1⟩ (fun hHeld => ?_)
    refine wpAnyH_take (i := 0) (v := _) rfl (by kernel_rfl) (by kernel_rfl) (by kernel_rfl) (fun _ _ _ h => h) (Or.inl ⟨by rfl, by intro w hSw; (try dsimp only at hSw); go_simp; try with_reducible rfl⟩) (by assumption) ?_
    try simp only [put_laws]
    refine wpAnyH_take (i := 1) (v := _) rfl (by kernel_rfl) (by kernel_rfl) (by kernel_rfl) (fun _ _ _ h => h) (Or.inl ⟨by rfl, by intro w hSw; (try dsimp only at hSw); go_simp; try with_reducible rfl⟩) (by assumption) ?_
    try simp only [put_laws]
    refine wpAnyH_take (i := 2) (v := _) rfl (by kernel_rfl) (by kernel_rfl) (by kernel_rfl) (fun _ _ _ h => h) (Or.inl ⟨by rfl, by intro w hSw; (try dsimp only at hSw); go_simp; try with_reducible rfl⟩) (by assumption) ?_
    try simp only [put_laws]
    refine wpAnyH_take (i := 3) (v := _) rfl (by kernel_rfl) (by kernel_rfl) (by kernel_rfl) (fun _ _ _ h => h) (Or.inl ⟨by rfl, by intro w hSw; (try dsimp only at hSw); go_simp; try with_reducible rfl⟩) (by assumption) ?_
    try simp only [put_laws]
    refine wpAnyH_take (i := 4) (v := _) rfl (by kernel_rfl) (by kernel_rfl) (by kernel_rfl) (fun _ _ _ h => h) (Or.inl ⟨by rfl, by intro w hSw; (try dsimp only at hSw); go_simp; try with_reducible rfl⟩) (by assumption) ?_
    try simp only [put_laws]
    refine wpAnyH_take (i := 5) (v := _) rfl (by kernel_rfl) (by kernel_rfl) (by kernel_rfl) (fun _ _ _ h => h) (Or.inl ⟨by rfl, by intro w hSw; (try dsimp only at hSw); go_simp; try with_reducible rfl⟩) (by assumption) ?_
    try simp only [put_laws]
    refine wpAnyH_ready (rs := [6, 10]) (by kernel_rfl) (by simp) ?_
    refine AllReadyH.cons rfl (fun K hK => ?_) ?_
    · go_simp
      go_at_call 23
      refine (GA.out _ td).mono ?_
      rintro e w4 ⟨rfl, h4, hb4⟩
      refine hK.out _ _ ⟨h4.ta.cells.1, h4.cells.2.1⟩ (fun hH => ?_)
      refine wpAnyH_take (i := 7) (v := _) rfl (by kernel_rfl) (by kernel_rfl) (by kernel_rfl) (fun _ _ _ h => h) (Or.inl ⟨by rfl, by intro w hSw; (try dsimp only at hSw); go_simp; try with_reducible rfl⟩) (by assumption) ?_
      try simp only [put_laws]
      refine wpAnyH_take (i := 8) (v := _) rfl (by kernel_rfl) (by kernel_rfl) (by kernel_rfl) (fun _ _ _ h => h) (Or.inl ⟨by rfl, by intro w hSw; (try dsimp only at hSw); go_simp; try with_reducible rfl⟩) (by assumption) ?_
      try simp only [put_laws]
      refine wpAnyH_take (i := 9) (v := _) rfl (by kernel_rfl) (by kernel_rfl) (by kernel_rfl) (fun _ _ _ h => h) (Or.inl ⟨by rfl, by intro w hSw; (try dsimp only at hSw); go_simp; try with_reducible rfl⟩) (by assumption) ?_
      try simp only [put_laws]
      refine wpAnyH_ready (rs := [10]) (by kernel_rfl) (by simp) ?_
      refine AllReadyH.cons rfl (fun K hK => ?_) AllReadyH.nil
      go_simp
      have h5 := h4.read ((Below.refl _ w4).alloc (Nat.le_refl _) (.cells zeroL 57))
      refine hK.out _ _ ⟨h5.ta.cells.1, h5.cells.2.1⟩ (fun hH => ?_)
      refine wpAnyH_ready (rs := [11]) (by kernel_rfl) (by simp) ?_
      refine AllReadyH.cons rfl (fun K hK => ?_) AllReadyH.nil
      refine step_store_new (by rfl) (by rfl) (by rfl) (by rfl) (by rfl) (SlotV.one _) slotInfo ?_
      have h6 := h4.read ((Below.refl _ w4).alloc (Nat.le_refl _) (.cells s.cells 57))
      refine hK.out _ _ ⟨h6.ta.cells.1, h6.cells.2.1⟩ (fun hH => ?_)
      try simp only [put_laws]
      refine wpAnyH_take (i := 12) (v := _) rfl (by kernel_rfl) (by kernel_rfl) (by kernel_rfl) (fun _ _ _ h => h) (Or.inl ⟨by rfl, by intro w hSw; (try dsimp only at hSw); go_simp; try with_reducible rfl⟩) (by assumption) ?_
      try simp only [put_laws]
      refine wpAnyH_done (by kernel_rfl) ?_ _
      exact cutQ.normal ⟨w4.heap.size, fun i => Array.getD _ i undef, fun _ => rfl, by kernel_rfl, rfl, ⟨Blk.new _ _ _, h6⟩⟩
    · refine AllReadyH.cons rfl (fun K hK => ?_) AllReadyH.nil
      go_simp
      have t1 := td.read ((Below.refl _ V.drew).alloc (Nat.le_refl _) (.cells zeroL 57))
      refine hK.out _ _ ⟨t1.ta.cells.1, t1.cells.2.1⟩ (fun hH => ?_)
      refine wpAnyH_ready (rs := [6]) (by kernel_rfl) (by simp) ?_
      refine AllReadyH.cons rfl (fun K hK => ?_) AllReadyH.nil
      go_simp
      go_at_call 23
      refine (GA.out _ t1).mono ?_
      rintro e w4 ⟨rfl, h4, hb4⟩
      have hz : Blk w4 V.heap.size 57 zeroL := (Blk.new V.drew 57 zeroL).below hb4 (by simp)
      refine hK.out _ _ ⟨h4.ta.cells.1, h4.cells.2.1⟩ (fun hH => ?_)
      refine wpAnyH_take (i := 7) (v := _) rfl (by kernel_rfl) (by kernel_rfl) (by kernel_rfl) (fun _ _ _ h => h) (Or.inl ⟨by rfl, by intro w hSw; (try dsimp only at hSw); go_simp; try with_reducible rfl⟩) (by assumption) ?_
      try simp only [put_laws]
      refine wpAnyH_take (i := 8) (v := _) rfl (by kernel_rfl) (by kernel_rfl) (by kernel_rfl) (fun _ _ _ h => h) (Or.inl ⟨by rfl, by intro w hSw; (try dsimp only at hSw); go_simp; try with_reducible rfl⟩) (by assumption) ?_
      try simp only [put_laws]
      refine wpAnyH_take (i := 9) (v := _) rfl (by kernel_rfl) (by kernel_rfl) (by kernel_rfl) (fun _ _ _ h => h) (Or.inl ⟨by rfl, by intro w hSw; (try dsimp only at hSw); go_simp; try with_reducible rfl⟩) (by assumption) ?_
      try simp only [put_laws]
      refine wpAnyH_ready (rs := [11]) (by kernel_rfl) (by simp) ?_
      refine AllReadyH.cons rfl (fun K hK => ?_) AllReadyH.nil
      refine step_store_blk (by rfl) (by rfl) (by rfl) (by rfl) hz (by rfl) (SlotV.one _) slotInfo ?_
      have h6 := h4.over hz s.cells (by have h1 := td.qlt; have h2 := td.tn.size; have h3 : V.drew.heap.size = V.heap.size := rfl; omega)
      refine hK.out _ _ ⟨h6.ta.cells.1, h6.cells.2.1⟩ (fun hH => ?_)
      try simp only [put_laws]
      refine wpAnyH_take (i := 12) (v := _) rfl (by kernel_rfl) (by kernel_rfl) (by kernel_rfl) (fun _ _ _ h => h) (Or.inl ⟨by rfl, by intro w hSw; (try dsimp only at hSw); go_simp; try with_reducible rfl⟩) (by assumption) ?_
      try simp only [put_laws]
      refine wpAnyH_done (by kernel_rfl) ?_ _
      exact cutQ.normal ⟨V.heap.size, fun i => Array.getD _ i undef, fun _ => rfl, by kernel_rfl, rfl, ⟨hz.setRow_same _, h6⟩⟩
  rintro ⟨tm, df⟩ V2 ⟨B, z, hq, hF, hD, HK⟩
  dsimp only at hq hF hD
  clear hq
  subst hF hD
  have d0 : V2.cell? ⟨B, 0, none⟩ = some (.bool s.used) := (HK.1.cell 0).trans rfl
  rw [hu] at d0
  have H4 := Lib.hid HK.2
  clear HK td
  have hneq := nil_neq
  go_wp2
  go_ret2
  exact ⟨rfl, H4.out.ta⟩
set_option maxHeartbeats 8000000 in
theorem tring_birth {us ub : Int} (hub : ub ≠ 0) (hi : inR us = true) (hu : (S.slotAt us).used = true) (hb : ((S.slotAt us).birth == ub) = false) (w W : World) (h : Ta w q g S l W) : Calls Try.prog 30 #[.pointer (some ⟨q, 0, none⟩), .agg #[.int .i64 us, .int .i64 ub]] W (RetT (.tuple #[.int .i64 (-1), errno 10]) w q g S l) := by
  obtain ⟨V, hV⟩ : ∃ V, W.alloc (.cells #[.int .i64 us, .int .i64 ub] 30) = V := ⟨_, rfl⟩
  have hVs : V.heap.size ≤ W.heap.size + 1 ∧ W.heap.size + 1 ≤ V.heap.size := by rw [← hV]; simp
  obtain ⟨bx, hbx⟩ : ∃ bx, W.heap.size = bx := ⟨_, rfl⟩
  have HL := Lib.hid (show TaL w q g S l bx us ub V by rw [← hV, ← hbx]; exact h.box us ub)
  have HV := Lib.hid hV
  have c1 : (W.alloc (.cells #[.int .i64 us, .int .i64 ub] 30)).cell? ⟨W.heap.size, 1, none⟩ = some (.int .i64 ub) := by rw [hV, hbx]; exact HL.out.cells.2.2
  have HBX := Lib.hid hbx
  clear hV hbx h
  have HG := fun W' (a : Ta w q g S l W') => get_gen us g W' a.ar
  rw [show errAt us = .nilIface from if_pos hi] at HG
  obtain ⟨s, hs⟩ : ∃ s, S.slotAt us = s := ⟨_, rfl⟩
  rw [hs] at HG hu hb
  have GA := Lib.hid (fun W' (a : TaL w q g S l bx us ub W') => (HG W' a.ta).mono fun e w2 ⟨h1, h2⟩ => show e = Ending.returned (.tuple #[.agg s.cells, .nilIface]) ∧ TaL w q g S l bx us ub w2 ∧ Below W'.heap.size W' w2 from ⟨h1, a.read h2, h2⟩)
  clear HG
  have hubf : (ub == 0) = false := by simpa using hub
  go_enter Try.func30, Try.ntmps30
  go_upto_region 3 with fail
  rw [HV.out, HBX.out]
  clear c1
  have td := HL.out.read (Below.refl V.heap.size V).drew
  refine wp_region_cut (fun a' w' => ∃ (B : Nat) (z : Nat → Value), (∀ i, z i = a'.tmps.getD i undef) ∧ a'.tmps = #[.pointer (some ⟨q, 0, none⟩), .agg #[.int .i64 us, .int .i64 ub], z 2, .pointer (some ⟨bx, 0, none⟩), .int .i64 0, .nilIface, .pointer (some ⟨B, 0, none⟩), .nilIface, z 8, z 9, z 10, z 11, z 12, z 13, z 14, z 15, z 16, z 17, z 18, z 19, z 20, z 21, z 22, z 23, z 24, z 25, z 26, z 27, z 28, z 29, z 30, z 31, z 32, z 33, z 34, z 35, z 36, z 37, z 38, z 39, z 40, z 41, z 42] ∧ a'.defers = [] ∧ (Blk w' B 57 s.cells ∧ TaL w q g S l bx us ub w')) ?_ ?_
  · refine wp_region_held_drew (S := fun W' => W'.cell? ⟨q, 0, none⟩ = some (.pointer (some ⟨g, 0, none⟩)) ∧ W'.cell? ⟨bx, 0, none⟩ = some (.int .i64 us)) (by kernel_rfl) ⟨td.ta.cells.1, td.cells.2.1⟩ (fun hHeld => ?_)
    refine wpAnyH_take (i := 0) (v := _) rfl (by kernel_rfl) (by kernel_rfl) (by kernel_rfl) (fun _ _ _ h => h) (Or.inl ⟨by rfl, by intro w hSw; (try dsimp only at hSw); go_simp; try with_reducible rfl⟩) (by assumption) ?_
    try simp only [put_laws]
    refine wpAnyH_take (i := 1) (v := _) rfl (by kernel_rfl) (by kernel_rfl) (by kernel_rfl) (fun _ _ _ h => h) (Or.inl ⟨by rfl, by intro w hSw; (try dsimp only at hSw); go_simp; try with_reducible rfl⟩) (by assumption) ?_
    try simp only [put_laws]
    refine wpAnyH_take (i := 2) (v := _) rfl (by kernel_rfl) (by kernel_rfl) (by kernel_rfl) (fun _ _ _ h => h) (Or.inl ⟨by rfl, by intro w hSw; (try dsimp only at hSw); go_simp; try with_reducible rfl⟩) (by assumption) ?_
    try simp only [put_laws]
    refine wpAnyH_take (i := 3) (v := _) rfl (by kernel_rfl) (by kernel_rfl) (by kernel_rfl) (fun _ _ _ h => h) (Or.inl ⟨by rfl, by intro w hSw; (try dsimp only at hSw); go_simp; try with_reducible rfl⟩) (by assumption) ?_
    try simp only [put_laws]
    refine wpAnyH_take (i := 4) (v := _) rfl (by kernel_rfl) (by kernel_rfl) (by kernel_rfl) (fun _ _ _ h => h) (Or.inl ⟨by rfl, by intro w hSw; (try dsimp only at hSw); go_simp; try with_reducible rfl⟩) (by assumption) ?_
    try simp only [put_laws]
    refine wpAnyH_take (i := 5) (v := _) rfl (by kernel_rfl) (by kernel_rfl) (by kernel_rfl) (fun _ _ _ h => h) (Or.inl ⟨by rfl, by intro w hSw; (try dsimp only at hSw); go_simp; try with_reducible rfl⟩) (by assumption) ?_
    try simp only [put_laws]
    refine wpAnyH_ready (rs := [6, 10]) (by kernel_rfl) (by simp) ?_
    refine AllReadyH.cons rfl (fun K hK => ?_) ?_
    · go_simp
      go_at_call 23
      refine (GA.out _ td).mono ?_
      rintro e w4 ⟨rfl, h4, hb4⟩
      refine hK.out _ _ ⟨h4.ta.cells.1, h4.cells.2.1⟩ (fun hH => ?_)
      refine wpAnyH_take (i := 7) (v := _) rfl (by kernel_rfl) (by kernel_rfl) (by kernel_rfl) (fun _ _ _ h => h) (Or.inl ⟨by rfl, by intro w hSw; (try dsimp only at hSw); go_simp; try with_reducible rfl⟩) (by assumption) ?_
      try simp only [put_laws]
      refine wpAnyH_take (i := 8) (v := _) rfl (by kernel_rfl) (by kernel_rfl) (by kernel_rfl) (fun _ _ _ h => h) (Or.inl ⟨by rfl, by intro w hSw; (try dsimp only at hSw); go_simp; try with_reducible rfl⟩) (by assumption) ?_
      try simp only [put_laws]
      refine wpAnyH_take (i := 9) (v := _) rfl (by kernel_rfl) (by kernel_rfl) (by kernel_rfl) (fun _ _ _ h => h) (Or.inl ⟨by rfl, by intro w hSw; (try dsimp only at hSw); go_simp; try with_reducible rfl⟩) (by assumption) ?_
      try simp only [put_laws]
      refine wpAnyH_ready (rs := [10]) (by kernel_rfl) (by simp) ?_
      refine AllReadyH.cons rfl (fun K hK => ?_) AllReadyH.nil
      go_simp
      have h5 := h4.read ((Below.refl _ w4).alloc (Nat.le_refl _) (.cells zeroL 57))
      refine hK.out _ _ ⟨h5.ta.cells.1, h5.cells.2.1⟩ (fun hH => ?_)
      refine wpAnyH_ready (rs := [11]) (by kernel_rfl) (by simp) ?_
      refine AllReadyH.cons rfl (fun K hK => ?_) AllReadyH.nil
      refine step_store_new (by rfl) (by rfl) (by rfl) (by rfl) (by rfl) (SlotV.one _) slotInfo ?_
      have h6 := h4.read ((Below.refl _ w4).alloc (Nat.le_refl _) (.cells s.cells 57))
      refine hK.out _ _ ⟨h6.ta.cells.1, h6.cells.2.1⟩ (fun hH => ?_)
      try simp only [put_laws]
      refine wpAnyH_take (i := 12) (v := _) rfl (by kernel_rfl) (by kernel_rfl) (by kernel_rfl) (fun _ _ _ h => h) (Or.inl ⟨by rfl, by intro w hSw; (try dsimp only at hSw); go_simp; try with_reducible rfl⟩) (by assumption) ?_
      try simp only [put_laws]
      refine wpAnyH_done (by kernel_rfl) ?_ _
      exact cutQ.normal ⟨w4.heap.size, fun i => Array.getD _ i undef, fun _ => rfl, by kernel_rfl, rfl, ⟨Blk.new _ _ _, h6⟩⟩
    · refine AllReadyH.cons rfl (fun K hK => ?_) AllReadyH.nil
      go_simp
      have t1 := td.read ((Below.refl _ V.drew).alloc (Nat.le_refl _) (.cells zeroL 57))
      refine hK.out _ _ ⟨t1.ta.cells.1, t1.cells.2.1⟩ (fun hH => ?_)
      refine wpAnyH_ready (rs := [6]) (by kernel_rfl) (by simp) ?_
      refine AllReadyH.cons rfl (fun K hK => ?_) AllReadyH.nil
      go_simp
      go_at_call 23
      refine (GA.out _ t1).mono ?_
      rintro e w4 ⟨rfl, h4, hb4⟩
      have hz : Blk w4 V.heap.size 57 zeroL := (Blk.new V.drew 57 zeroL).below hb4 (by simp)
      refine hK.out _ _ ⟨h4.ta.cells.1, h4.cells.2.1⟩ (fun hH => ?_)
      refine wpAnyH_take (i := 7) (v := _) rfl (by kernel_rfl) (by kernel_rfl) (by kernel_rfl) (fun _ _ _ h => h) (Or.inl ⟨by rfl, by intro w hSw; (try dsimp only at hSw); go_simp; try with_reducible rfl⟩) (by assumption) ?_
      try simp only [put_laws]
      refine wpAnyH_take (i := 8) (v := _) rfl (by kernel_rfl) (by kernel_rfl) (by kernel_rfl) (fun _ _ _ h => h) (Or.inl ⟨by rfl, by intro w hSw; (try dsimp only at hSw); go_simp; try with_reducible rfl⟩) (by assumption) ?_
      try simp only [put_laws]
      refine wpAnyH_take (i := 9) (v := _) rfl (by kernel_rfl) (by kernel_rfl) (by kernel_rfl) (fun _ _ _ h => h) (Or.inl ⟨by rfl, by intro w hSw; (try dsimp only at hSw); go_simp; try with_reducible rfl⟩) (by assumption) ?_
      try simp only [put_laws]
      refine wpAnyH_ready (rs := [11]) (by kernel_rfl) (by simp) ?_
      refine AllReadyH.cons rfl (fun K hK => ?_) AllReadyH.nil
      refine step_store_blk (by rfl) (by rfl) (by rfl) (by rfl) hz (by rfl) (SlotV.one _) slotInfo ?_
      have h6 := h4.over hz s.cells (by have h1 := td.qlt; have h2 := td.tn.size; have h3 : V.drew.heap.size = V.heap.size := rfl; omega)
      refine hK.out _ _ ⟨h6.ta.cells.1, h6.cells.2.1⟩ (fun hH => ?_)
      try simp only [put_laws]
      refine wpAnyH_take (i := 12) (v := _) rfl (by kernel_rfl) (by kernel_rfl) (by kernel_rfl) (fun _ _ _ h => h) (Or.inl ⟨by rfl, by intro w hSw; (try dsimp only at hSw); go_simp; try with_reducible rfl⟩) (by assumption) ?_
      try simp only [put_laws]
      refine wpAnyH_done (by kernel_rfl) ?_ _
      exact cutQ.normal ⟨V.heap.size, fun i => Array.getD _ i undef, fun _ => rfl, by kernel_rfl, rfl, ⟨hz.setRow_same _, h6⟩⟩
  rintro ⟨tm, df⟩ V2 ⟨B, z, hq, hF, hD, HK⟩
  dsimp only at hq hF hD
  clear hq
  subst hF hD
  have d0 : V2.cell? ⟨B, 0, none⟩ = some (.bool s.used) := (HK.1.cell 0).trans rfl
  have d6 : V2.cell? ⟨B, 6, none⟩ = some (.int .i64 s.birth) := (HK.1.cell 6).trans rfl
  have e1 := HK.2.cells.2.2
  rw [hu] at d0
  have hbb : (s.birth != ub) = true := by unfold bne; rw [hb]; rfl
  clear hb
  have H4 := Lib.hid HK.2
  clear HK td
  have hneq := nil_neq
  go_wp2
  go_ret2
  exact ⟨rfl, H4.out.ta⟩
set_option maxHeartbeats 8000000 in
theorem tring_ok {us ub : Int} (hub : ub ≠ 0) (hi : inR us = true) (hu : (S.slotAt us).used = true) (hb : ((S.slotAt us).birth == ub) = true) (w W : World) (h : Ta w q g S l W) : Calls Try.prog 30 #[.pointer (some ⟨q, 0, none⟩), .agg #[.int .i64 us, .int .i64 ub]] W (RetT (.tuple #[.int .i64 (S.slotAt us).kids, .nilIface]) w q g S l) := by
  obtain ⟨V, hV⟩ : ∃ V, W.alloc (.cells #[.int .i64 us, .int .i64 ub] 30) = V := ⟨_, rfl⟩
  have hVs : V.heap.size ≤ W.heap.size + 1 ∧ W.heap.size + 1 ≤ V.heap.size := by rw [← hV]; simp
  obtain ⟨bx, hbx⟩ : ∃ bx, W.heap.size = bx := ⟨_, rfl⟩
  have HL := Lib.hid (show TaL w q g S l bx us ub V by rw [← hV, ← hbx]; exact h.box us ub)
  have HV := Lib.hid hV
  have c1 : (W.alloc (.cells #[.int .i64 us, .int .i64 ub] 30)).cell? ⟨W.heap.size, 1, none⟩ = some (.int .i64 ub) := by rw [hV, hbx]; exact HL.out.cells.2.2
  have HBX := Lib.hid hbx
  clear hV hbx h
  have HG := fun W' (a : Ta w q g S l W') => get_gen us g W' a.ar
  rw [show errAt us = .nilIface from if_pos hi] at HG
  obtain ⟨s, hs⟩ : ∃ s, S.slotAt us = s := ⟨_, rfl⟩
  rw [hs] at HG hu hb ⊢
  have GA := Lib.hid (fun W' (a : TaL w q g S l bx us ub W') => (HG W' a.ta).mono fun e w2 ⟨h1, h2⟩ => show e = Ending.returned (.tuple #[.agg s.cells, .nilIface]) ∧ TaL w q g S l bx us ub w2 ∧ Below W'.heap.size W' w2 from ⟨h1, a.read h2, h2⟩)
  clear HG
  have hubf : (ub == 0) = false := by simpa using hub
  go_enter Try.func30, Try.ntmps30
  go_upto_region 3 with fail
  rw [HV.out, HBX.out]
  clear c1
  have td := HL.out.read (Below.refl V.heap.size V).drew
  refine wp_region_cut (fun a' w' => ∃ (B : Nat) (z : Nat → Value), (∀ i, z i = a'.tmps.getD i undef) ∧ a'.tmps = #[.pointer (some ⟨q, 0, none⟩), .agg #[.int .i64 us, .int .i64 ub], z 2, .pointer (some ⟨bx, 0, none⟩), .int .i64 0, .nilIface, .pointer (some ⟨B, 0, none⟩), .nilIface, z 8, z 9, z 10, z 11, z 12, z 13, z 14, z 15, z 16, z 17, z 18, z 19, z 20, z 21, z 22, z 23, z 24, z 25, z 26, z 27, z 28, z 29, z 30, z 31, z 32, z 33, z 34, z 35, z 36, z 37, z 38, z 39, z 40, z 41, z 42] ∧ a'.defers = [] ∧ (Blk w' B 57 s.cells ∧ TaL w q g S l bx us ub w')) ?_ ?_
  · refine wp_region_held_drew (S := fun W' => W'.cell? ⟨q, 0, none⟩ = some (.pointer (some ⟨g, 0, none⟩)) ∧ W'.cell? ⟨bx, 0, none⟩ = some (.int .i64 us)) (by kernel_rfl) ⟨td.ta.cells.1, td.cells.2.1⟩ (fun hHeld => ?_)
    refine wpAnyH_take (i := 0) (v := _) rfl (by kernel_rfl) (by kernel_rfl) (by kernel_rfl) (fun _ _ _ h => h) (Or.inl ⟨by rfl, by intro w hSw; (try dsimp only at hSw); go_simp; try with_reducible rfl⟩) (by assumption) ?_
    try simp only [put_laws]
    refine wpAnyH_take (i := 1) (v := _) rfl (by kernel_rfl) (by kernel_rfl) (by kernel_rfl) (fun _ _ _ h => h) (Or.inl ⟨by rfl, by intro w hSw; (try dsimp only at hSw); go_simp; try with_reducible rfl⟩) (by assumption) ?_
    try simp only [put_laws]
    refine wpAnyH_take (i := 2) (v := _) rfl (by kernel_rfl) (by kernel_rfl) (by kernel_rfl) (fun _ _ _ h => h) (Or.inl ⟨by rfl, by intro w hSw; (try dsimp only at hSw); go_simp; try with_reducible rfl⟩) (by assumption) ?_
    try simp only [put_laws]
    refine wpAnyH_take (i := 3) (v := _) rfl (by kernel_rfl) (by kernel_rfl) (by kernel_rfl) (fun _ _ _ h => h) (Or.inl ⟨by rfl, by intro w hSw; (try dsimp only at hSw); go_simp; try with_reducible rfl⟩) (by assumption) ?_
    try simp only [put_laws]
    refine wpAnyH_take (i := 4) (v := _) rfl (by kernel_rfl) (by kernel_rfl) (by kernel_rfl) (fun _ _ _ h => h) (Or.inl ⟨by rfl, by intro w hSw; (try dsimp only at hSw); go_simp; try with_reducible rfl⟩) (by assumption) ?_
    try simp only [put_laws]
    refine wpAnyH_take (i := 5) (v := _) rfl (by kernel_rfl) (by kernel_rfl) (by kernel_rfl) (fun _ _ _ h => h) (Or.inl ⟨by rfl, by intro w hSw; (try dsimp only at hSw); go_simp; try with_reducible rfl⟩) (by assumption) ?_
    try simp only [put_laws]
    refine wpAnyH_ready (rs := [6, 10]) (by kernel_rfl) (by simp) ?_
    refine AllReadyH.cons rfl (fun K hK => ?_) ?_
    · go_simp
      go_at_call 23
      refine (GA.out _ td).mono ?_
      rintro e w4 ⟨rfl, h4, hb4⟩
      refine hK.out _ _ ⟨h4.ta.cells.1, h4.cells.2.1⟩ (fun hH => ?_)
      refine wpAnyH_take (i := 7) (v := _) rfl (by kernel_rfl) (by kernel_rfl) (by kernel_rfl) (fun _ _ _ h => h) (Or.inl ⟨by rfl, by intro w hSw; (try dsimp only at hSw); go_simp; try with_reducible rfl⟩) (by assumption) ?_
      try simp only [put_laws]
      refine wpAnyH_take (i := 8) (v := _) rfl (by kernel_rfl) (by kernel_rfl) (by kernel_rfl) (fun _ _ _ h => h) (Or.inl ⟨by rfl, by intro w hSw; (try dsimp only at hSw); go_simp; try with_reducible rfl⟩) (by assumption) ?_
      try simp only [put_laws]
      refine wpAnyH_take (i := 9) (v := _) rfl (by kernel_rfl) (by kernel_rfl) (by kernel_rfl) (fun _ _ _ h => h) (Or.inl ⟨by rfl, by intro w hSw; (try dsimp only at hSw); go_simp; try with_reducible rfl⟩) (by assumption) ?_
      try simp only [put_laws]
      refine wpAnyH_ready (rs := [10]) (by kernel_rfl) (by simp) ?_
      refine AllReadyH.cons rfl (fun K hK => ?_) AllReadyH.nil
      go_simp
      have h5 := h4.read ((Below.refl _ w4).alloc (Nat.le_refl _) (.cells zeroL 57))
      refine hK.out _ _ ⟨h5.ta.cells.1, h5.cells.2.1⟩ (fun hH => ?_)
      refine wpAnyH_ready (rs := [11]) (by kernel_rfl) (by simp) ?_
      refine AllReadyH.cons rfl (fun K hK => ?_) AllReadyH.nil
      refine step_store_new (by rfl) (by rfl) (by rfl) (by rfl) (by rfl) (SlotV.one _) slotInfo ?_
      have h6 := h4.read ((Below.refl _ w4).alloc (Nat.le_refl _) (.cells s.cells 57))
      refine hK.out _ _ ⟨h6.ta.cells.1, h6.cells.2.1⟩ (fun hH => ?_)
      try simp only [put_laws]
      refine wpAnyH_take (i := 12) (v := _) rfl (by kernel_rfl) (by kernel_rfl) (by kernel_rfl) (fun _ _ _ h => h) (Or.inl ⟨by rfl, by intro w hSw; (try dsimp only at hSw); go_simp; try with_reducible rfl⟩) (by assumption) ?_
      try simp only [put_laws]
      refine wpAnyH_done (by kernel_rfl) ?_ _
      exact cutQ.normal ⟨w4.heap.size, fun i => Array.getD _ i undef, fun _ => rfl, by kernel_rfl, rfl, ⟨Blk.new _ _ _, h6⟩⟩
    · refine AllReadyH.cons rfl (fun K hK => ?_) AllReadyH.nil
      go_simp
      have t1 := td.read ((Below.refl _ V.drew).alloc (Nat.le_refl _) (.cells zeroL 57))
      refine hK.out _ _ ⟨t1.ta.cells.1, t1.cells.2.1⟩ (fun hH => ?_)
      refine wpAnyH_ready (rs := [6]) (by kernel_rfl) (by simp) ?_
      refine AllReadyH.cons rfl (fun K hK => ?_) AllReadyH.nil
      go_simp
      go_at_call 23
      refine (GA.out _ t1).mono ?_
      rintro e w4 ⟨rfl, h4, hb4⟩
      have hz : Blk w4 V.heap.size 57 zeroL := (Blk.new V.drew 57 zeroL).below hb4 (by simp)
      refine hK.out _ _ ⟨h4.ta.cells.1, h4.cells.2.1⟩ (fun hH => ?_)
      refine wpAnyH_take (i := 7) (v := _) rfl (by kernel_rfl) (by kernel_rfl) (by kernel_rfl) (fun _ _ _ h => h) (Or.inl ⟨by rfl, by intro w hSw; (try dsimp only at hSw); go_simp; try with_reducible rfl⟩) (by assumption) ?_
      try simp only [put_laws]
      refine wpAnyH_take (i := 8) (v := _) rfl (by kernel_rfl) (by kernel_rfl) (by kernel_rfl) (fun _ _ _ h => h) (Or.inl ⟨by rfl, by intro w hSw; (try dsimp only at hSw); go_simp; try with_reducible rfl⟩) (by assumption) ?_
      try simp only [put_laws]
      refine wpAnyH_take (i := 9) (v := _) rfl (by kernel_rfl) (by kernel_rfl) (by kernel_rfl) (fun _ _ _ h => h) (Or.inl ⟨by rfl, by intro w hSw; (try dsimp only at hSw); go_simp; try with_reducible rfl⟩) (by assumption) ?_
      try simp only [put_laws]
      refine wpAnyH_ready (rs := [11]) (by kernel_rfl) (by simp) ?_
      refine AllReadyH.cons rfl (fun K hK => ?_) AllReadyH.nil
      refine step_store_blk (by rfl) (by rfl) (by rfl) (by rfl) hz (by rfl) (SlotV.one _) slotInfo ?_
      have h6 := h4.over hz s.cells (by have h1 := td.qlt; have h2 := td.tn.size; have h3 : V.drew.heap.size = V.heap.size := rfl; omega)
      refine hK.out _ _ ⟨h6.ta.cells.1, h6.cells.2.1⟩ (fun hH => ?_)
      try simp only [put_laws]
      refine wpAnyH_take (i := 12) (v := _) rfl (by kernel_rfl) (by kernel_rfl) (by kernel_rfl) (fun _ _ _ h => h) (Or.inl ⟨by rfl, by intro w hSw; (try dsimp only at hSw); go_simp; try with_reducible rfl⟩) (by assumption) ?_
      try simp only [put_laws]
      refine wpAnyH_done (by kernel_rfl) ?_ _
      exact cutQ.normal ⟨V.heap.size, fun i => Array.getD _ i undef, fun _ => rfl, by kernel_rfl, rfl, ⟨hz.setRow_same _, h6⟩⟩
  rintro ⟨tm, df⟩ V2 ⟨B, z, hq, hF, hD, HK⟩
  dsimp only at hq hF hD
  clear hq
  subst hF hD
  have d0 : V2.cell? ⟨B, 0, none⟩ = some (.bool s.used) := (HK.1.cell 0).trans rfl
  have d6 : V2.cell? ⟨B, 6, none⟩ = some (.int .i64 s.birth) := (HK.1.cell 6).trans rfl
  have d2 : V2.cell? ⟨B, 2, none⟩ = some (.int .i64 s.kids) := (HK.1.cell 2).trans rfl
  have e1 := HK.2.cells.2.2
  rw [hu] at d0
  have hbb : (s.birth != ub) = false := by unfold bne; rw [hb]; rfl
  clear hb
  have H4 := Lib.hid HK.2
  clear HK td
  have hneq := nil_neq
  go_wp2
  go_ret2
  exact ⟨rfl, H4.out.ta⟩
set_option maxHeartbeats 4000000 in
theorem tparent_zero (i us : Int) (w W : World) (h : Ta w q g S l W) : Calls Try.prog 29 #[.pointer (some ⟨q, 0, none⟩), .int .i64 i, .agg #[.int .i64 us, .int .i64 0]] W (RetT .nilIface w q g S l) := by
  obtain ⟨ub, hub⟩ : ∃ ub : Int, 0 = ub := ⟨_, rfl⟩
  rw [hub]
  obtain ⟨V, hV⟩ : ∃ V, W.alloc (.cells #[.int .i64 us, .int .i64 ub] 30) = V := ⟨_, rfl⟩
  have hVs : V.heap.size ≤ W.heap.size + 1 ∧ W.heap.size + 1 ≤ V.heap.size := by rw [← hV]; simp
  obtain ⟨bx, hbx⟩ : ∃ bx, W.heap.size = bx := ⟨_, rfl⟩
  have HL := Lib.hid (show TaL w q g S l bx us ub V by rw [← hV, ← hbx]; exact h.box us ub)
  have HV := Lib.hid hV
  have c1 : (W.alloc (.cells #[.int .i64 us, .int .i64 ub] 30)).cell? ⟨W.heap.size, 1, none⟩ = some (.int .i64 ub) := by rw [hV, hbx]; exact HL.out.cells.2.2
  have HBX := Lib.hid hbx
  clear hV hbx h
  subst hub
  go_enter Try.func29, Try.ntmps29
  go_wp2
  go_ret
  rw [HV.out]
  exact ⟨rfl, HL.out.ta⟩
set_option maxHeartbeats 8000000 in
theorem tparent_out {us ub i : Int} (hub : ub ≠ 0) (hi : inR us = false) (w W : World) (h : Ta w q g S l W) : Calls Try.prog 29 #[.pointer (some ⟨q, 0, none⟩), .int .i64 i, .agg #[.int .i64 us, .int .i64 ub]] W (RetT (errno 1) w q g S l) := by
  obtain ⟨V, hV⟩ : ∃ V, W.alloc (.cells #[.int .i64 us, .int .i64 ub] 30) = V := ⟨_, rfl⟩
  have hVs : V.heap.size ≤ W.heap.size + 1 ∧ W.heap.size + 1 ≤ V.heap.size := by rw [← hV]; simp
  obtain ⟨bx, hbx⟩ : ∃ bx, W.heap.size = bx := ⟨_, rfl⟩
  have HL := Lib.hid (show TaL w q g S l bx us ub V by rw [← hV, ← hbx]; exact h.box us ub)
  have HV := Lib.hid hV
  have c1 : (W.alloc (.cells #[.int .i64 us, .int .i64 ub] 30)).cell? ⟨W.heap.size, 1, none⟩ = some (.int .i64 ub) := by rw [hV, hbx]; exact HL.out.cells.2.2
  have HBX := Lib.hid hbx
  clear hV hbx h
  have HG := fun W' (a : Ta w q g S l W') => get_gen us g W' a.ar
  rw [show errAt us = errno 1 from if_neg (by simp [hi])] at HG
  obtain ⟨s, hs⟩ : ∃ s, S.slotAt us = s := ⟨_, rfl⟩
  rw [hs] at HG 
  have GA := Lib.hid (fun W' (a : TaL w q g S l bx us ub W') => (HG W' a.ta).mono fun e w2 ⟨h1, h2⟩ => show e = Ending.returned (.tuple #[.agg s.cells, errno 1]) ∧ TaL w q g S l bx us ub w2 ∧ Below W'.heap.size W' w2 from ⟨h1, a.read h2, h2⟩)
  clear HG
  have hubf : (ub == 0) = false := by simpa using hub
  go_enter Try.func29, Try.ntmps29
  go_upto_region 3 with fail
  rw [HV.out, HBX.out]
  clear c1
  have td := HL.out.read (Below.refl V.heap.size V).drew
  refine wp_region_cut (fun a' w' => ∃ (B : Nat) (z : Nat → Value), (∀ i, z i = a'.tmps.getD i undef) ∧ a'.tmps = #[.pointer (some ⟨q, 0, none⟩), .int .i64 i, .agg #[.int .i64 us, .int .i64 ub], z 3, z 4, .pointer (some ⟨bx, 0, none⟩), .nilIface, .pointer (some ⟨B, 0, none⟩), errno 1, z 9, z 10, z 11, z 12, z 13, z 14, z 15, z 16, z 17, z 18, z 19, z 20, z 21, z 22, z 23, z 24, z 25, z 26, z 27, z 28, z 29] ∧ a'.defers = [] ∧ (Blk w' B 57 s.cells ∧ TaL w q g S l bx us ub w')) ?_ ?_
  · refine wp_region_held_drew (S := fun W' => W'.cell? ⟨q, 0, none⟩ = some (.pointer (some ⟨g, 0, none⟩)) ∧ W'.cell? ⟨bx, 0, none⟩ = some (.int .i64 us)) (by kernel_rfl) ⟨td.ta.cells.1, td.cells.2.1⟩ (fun hHeld => ?_)
    refine wpAnyH_take (i := 0) (v := _) rfl (by kernel_rfl) (by kernel_rfl) (by kernel_rfl) (fun _ _ _ h => h) (Or.inl ⟨by rfl, by intro w hSw; (try dsimp only at hSw); go_simp; try with_reducible rfl⟩) (by assumption) ?_
    try simp only [put_laws]
    refine wpAnyH_take (i := 1) (v := _) rfl (by kernel_rfl) (by kernel_rfl) (by kernel_rfl) (fun _ _ _ h => h) (Or.inl ⟨by rfl, by intro w hSw; (try dsimp only at hSw); go_simp; try with_reducible rfl⟩) (by assumption) ?_
    try simp only [put_laws]
    refine wpAnyH_take (i := 2) (v := _) rfl (by kernel_rfl) (by kernel_rfl) (by kernel_rfl) (fun _ _ _ h => h) (Or.inl ⟨by rfl, by intro w hSw; (try dsimp only at hSw); go_simp; try with_reducible rfl⟩) (by assumption) ?_
    try simp only [put_laws]
    refine wpAnyH_take (i := 3) (v := _) rfl (by kernel_rfl) (by kernel_rfl) (by kernel_rfl) (fun _ _ _ h => h) (Or.inl ⟨by rfl, by intro w hSw; (try dsimp only at hSw); go_simp; try with_reducible rfl⟩) (by assumption) ?_
    try simp only [put_laws]
    refine wpAnyH_take (i := 4) (v := _) rfl (by kernel_rfl) (by kernel_rfl) (by kernel_rfl) (fun _ _ _ h => h) (Or.inl ⟨by rfl, by intro w hSw; (try dsimp only at hSw); go_simp; try with_reducible rfl⟩) (by assumption) ?_
    try simp only [put_laws]
    refine wpAnyH_take (i := 5) (v := _) rfl (by kernel_rfl) (by kernel_rfl) (by kernel_rfl) (fun _ _ _ h => h) (Or.inl ⟨by rfl, by intro w hSw; (try dsimp only at hSw); go_simp; try with_reducible rfl⟩) (by assumption) ?_
    try simp only [put_laws]
    refine wpAnyH_ready (rs := [6, 10]) (by kernel_rfl) (by simp) ?_
    refine AllReadyH.cons rfl (fun K hK => ?_) ?_
    · go_simp
      go_at_call 23
      refine (GA.out _ td).mono ?_
      rintro e w4 ⟨rfl, h4, hb4⟩
      refine hK.out _ _ ⟨h4.ta.cells.1, h4.cells.2.1⟩ (fun hH => ?_)
      refine wpAnyH_take (i := 7) (v := _) rfl (by kernel_rfl) (by kernel_rfl) (by kernel_rfl) (fun _ _ _ h => h) (Or.inl ⟨by rfl, by intro w hSw; (try dsimp only at hSw); go_simp; try with_reducible rfl⟩) (by assumption) ?_
      try simp only [put_laws]
      refine wpAnyH_take (i := 8) (v := _) rfl (by kernel_rfl) (by kernel_rfl) (by kernel_rfl) (fun _ _ _ h => h) (Or.inl ⟨by rfl, by intro w hSw; (try dsimp only at hSw); go_simp; try with_reducible rfl⟩) (by assumption) ?_
      try simp only [put_laws]
      refine wpAnyH_take (i := 9) (v := _) rfl (by kernel_rfl) (by kernel_rfl) (by kernel_rfl) (fun _ _ _ h => h) (Or.inl ⟨by rfl, by intro w hSw; (try dsimp only at hSw); go_simp; try with_reducible rfl⟩) (by assumption) ?_
      try simp only [put_laws]
      refine wpAnyH_ready (rs := [10]) (by kernel_rfl) (by simp) ?_
      refine AllReadyH.cons rfl (fun K hK => ?_) AllReadyH.nil
      go_simp
      have h5 := h4.read ((Below.refl _ w4).alloc (Nat.le_refl _) (.cells zeroL 57))
      refine hK.out _ _ ⟨h5.ta.cells.1, h5.cells.2.1⟩ (fun hH => ?_)
      refine wpAnyH_ready (rs := [11]) (by kernel_rfl) (by simp) ?_
      refine AllReadyH.cons rfl (fun K hK => ?_) AllReadyH.nil
      refine step_store_new (by rfl) (by rfl) (by rfl) (by rfl) (by rfl) (SlotV.one _) slotInfo ?_
      have h6 := h4.read ((Below.refl _ w4).alloc (Nat.le_refl _) (.cells s.cells 57))
      refine hK.out _ _ ⟨h6.ta.cells.1, h6.cells.2.1⟩ (fun hH => ?_)
      try simp only [put_laws]
      refine wpAnyH_take (i := 12) (v := _) rfl (by kernel_rfl) (by kernel_rfl) (by kernel_rfl) (fun _ _ _ h => h) (Or.inl ⟨by rfl, by intro w hSw; (try dsimp only at hSw); go_simp; try with_reducible rfl⟩) (by assumption) ?_
      try simp only [put_laws]
      refine wpAnyH_done (by kernel_rfl) ?_ _
      exact cutQ.normal ⟨w4.heap.size, fun i => Array.getD _ i undef, fun _ => rfl, by kernel_rfl, rfl, ⟨Blk.new _ _ _, h6⟩⟩
    · refine AllReadyH.cons rfl (fun K hK => ?_) AllReadyH.nil
      go_simp
      have t1 := td.read ((Below.refl _ V.drew).alloc (Nat.le_refl _) (.cells zeroL 57))
      refine hK.out _ _ ⟨t1.ta.cells.1, t1.cells.2.1⟩ (fun hH => ?_)
      refine wpAnyH_ready (rs := [6]) (by kernel_rfl) (by simp) ?_
      refine AllReadyH.cons rfl (fun K hK => ?_) AllReadyH.nil
      go_simp
      go_at_call 23
      refine (GA.out _ t1).mono ?_
      rintro e w4 ⟨rfl, h4, hb4⟩
      have hz : Blk w4 V.heap.size 57 zeroL := (Blk.new V.drew 57 zeroL).below hb4 (by simp)
      refine hK.out _ _ ⟨h4.ta.cells.1, h4.cells.2.1⟩ (fun hH => ?_)
      refine wpAnyH_take (i := 7) (v := _) rfl (by kernel_rfl) (by kernel_rfl) (by kernel_rfl) (fun _ _ _ h => h) (Or.inl ⟨by rfl, by intro w hSw; (try dsimp only at hSw); go_simp; try with_reducible rfl⟩) (by assumption) ?_
      try simp only [put_laws]
      refine wpAnyH_take (i := 8) (v := _) rfl (by kernel_rfl) (by kernel_rfl) (by kernel_rfl) (fun _ _ _ h => h) (Or.inl ⟨by rfl, by intro w hSw; (try dsimp only at hSw); go_simp; try with_reducible rfl⟩) (by assumption) ?_
      try simp only [put_laws]
      refine wpAnyH_take (i := 9) (v := _) rfl (by kernel_rfl) (by kernel_rfl) (by kernel_rfl) (fun _ _ _ h => h) (Or.inl ⟨by rfl, by intro w hSw; (try dsimp only at hSw); go_simp; try with_reducible rfl⟩) (by assumption) ?_
      try simp only [put_laws]
      refine wpAnyH_ready (rs := [11]) (by kernel_rfl) (by simp) ?_
      refine AllReadyH.cons rfl (fun K hK => ?_) AllReadyH.nil
      refine step_store_blk (by rfl) (by rfl) (by rfl) (by rfl) hz (by rfl) (SlotV.one _) slotInfo ?_
      have h6 := h4.over hz s.cells (by have h1 := td.qlt; have h2 := td.tn.size; have h3 : V.drew.heap.size = V.heap.size := rfl; omega)
      refine hK.out _ _ ⟨h6.ta.cells.1, h6.cells.2.1⟩ (fun hH => ?_)
      try simp only [put_laws]
      refine wpAnyH_take (i := 12) (v := _) rfl (by kernel_rfl) (by kernel_rfl) (by kernel_rfl) (fun _ _ _ h => h) (Or.inl ⟨by rfl, by intro w hSw; (try dsimp only at hSw); go_simp; try with_reducible rfl⟩) (by assumption) ?_
      try simp only [put_laws]
      refine wpAnyH_done (by kernel_rfl) ?_ _
      exact cutQ.normal ⟨V.heap.size, fun i => Array.getD _ i undef, fun _ => rfl, by kernel_rfl, rfl, ⟨hz.setRow_same _, h6⟩⟩
  rintro ⟨tm, df⟩ V2 ⟨B, z, hq, hF, hD, HK⟩
  dsimp only at hq hF hD
  clear hq
  subst hF hD
  have H4 := Lib.hid HK.2
  clear HK td
  have hneq := errno_neq 1
  have hgrd : ∀ x y w, (eqGuard .neq 32 x y (errno 1) .nilIface).run Try.prog w = .ok () w := fun x y w => by unfold errno; kernel_rfl
  go_wp2
  go_ret
  exact ⟨rfl, H4.out.ta⟩
set_option maxHeartbeats 8000000 in
theorem tparent_twice {us ub i : Int} (hub : ub ≠ 0) (hi : inR us = true) (he0 : Hid (us = i)) (w W : World) (h : Ta w q g S l W) : Calls Try.prog 29 #[.pointer (some ⟨q, 0, none⟩), .int .i64 i, .agg #[.int .i64 us, .int .i64 ub]] W (RetT (errno 9) w q g S l) := by
  obtain ⟨V, hV⟩ : ∃ V, W.alloc (.cells #[.int .i64 us, .int .i64 ub] 30) = V := ⟨_, rfl⟩
  have hVs : V.heap.size ≤ W.heap.size + 1 ∧ W.heap.size + 1 ≤ V.heap.size := by rw [← hV]; simp
  obtain ⟨bx, hbx⟩ : ∃ bx, W.heap.size = bx := ⟨_, rfl⟩
  have HL := Lib.hid (show TaL w q g S l bx us ub V by rw [← hV, ← hbx]; exact h.box us ub)
  have HV := Lib.hid hV
  have c1 : (W.alloc (.cells #[.int .i64 us, .int .i64 ub] 30)).cell? ⟨W.heap.size, 1, none⟩ = some (.int .i64 ub) := by rw [hV, hbx]; exact HL.out.cells.2.2
  have HBX := Lib.hid hbx
  clear hV hbx h
  have HG := fun W' (a : Ta w q g S l W') => get_gen us g W' a.ar
  rw [show errAt us = .nilIface from if_pos hi] at HG
  obtain ⟨s, hs⟩ : ∃ s, S.slotAt us = s := ⟨_, rfl⟩
  rw [hs] at HG 
  have GA := Lib.hid (fun W' (a : TaL w q g S l bx us ub W') => (HG W' a.ta).mono fun e w2 ⟨h1, h2⟩ => show e = Ending.returned (.tuple #[.agg s.cells, .nilIface]) ∧ TaL w q g S l bx us ub w2 ∧ Below W'.heap.size W' w2 from ⟨h1, a.read h2, h2⟩)
  clear HG
  have hubf : (ub == 0) = false := by simpa using hub
  go_enter Try.func29, Try.ntmps29
  go_upto_region 3 with fail
  rw [HV.out, HBX.out]
  clear c1
  have td := HL.out.read (Below.refl V.heap.size V).drew
  refine wp_region_cut (fun a' w' => ∃ (B : Nat) (z : Nat → Value), (∀ i, z i = a'.tmps.getD i undef) ∧ a'.tmps = #[.pointer (some ⟨q, 0, none⟩), .int .i64 i, .agg #[.int .i64 us, .int .i64 ub], z 3, z 4, .pointer (some ⟨bx, 0, none⟩), .nilIface, .pointer (some ⟨B, 0, none⟩), .nilIface, z 9, z 10, z 11, z 12, z 13, z 14, z 15, z 16, z 17, z 18, z 19, z 20, z 21, z 22, z 23, z 24, z 25, z 26, z 27, z 28, z 29] ∧ a'.defers = [] ∧ (Blk w' B 57 s.cells ∧ TaL w q g S l bx us ub w')) ?_ ?_
  · refine wp_region_held_drew (S := fun W' => W'.cell? ⟨q, 0, none⟩ = some (.pointer (some ⟨g, 0, none⟩)) ∧ W'.cell? ⟨bx, 0, none⟩ = some (.int .i64 us)) (by kernel_rfl) ⟨td.ta.cells.1, td.cells.2.1⟩ (fun hHeld => ?_)
    refine wpAnyH_take (i := 0) (v := _) rfl (by kernel_rfl) (by kernel_rfl) (by kernel_rfl) (fun _ _ _ h => h) (Or.inl ⟨by rfl, by intro w hSw; (try dsimp only at hSw); go_simp; try with_reducible rfl⟩) (by assumption) ?_
    try simp only [put_laws]
    refine wpAnyH_take (i := 1) (v := _) rfl (by kernel_rfl) (by kernel_rfl) (by kernel_rfl) (fun _ _ _ h => h) (Or.inl ⟨by rfl, by intro w hSw; (try dsimp only at hSw); go_simp; try with_reducible rfl⟩) (by assumption) ?_
    try simp only [put_laws]
    refine wpAnyH_take (i := 2) (v := _) rfl (by kernel_rfl) (by kernel_rfl) (by kernel_rfl) (fun _ _ _ h => h) (Or.inl ⟨by rfl, by intro w hSw; (try dsimp only at hSw); go_simp; try with_reducible rfl⟩) (by assumption) ?_
    try simp only [put_laws]
    refine wpAnyH_take (i := 3) (v := _) rfl (by kernel_rfl) (by kernel_rfl) (by kernel_rfl) (fun _ _ _ h => h) (Or.inl ⟨by rfl, by intro w hSw; (try dsimp only at hSw); go_simp; try with_reducible rfl⟩) (by assumption) ?_
    try simp only [put_laws]
    refine wpAnyH_take (i := 4) (v := _) rfl (by kernel_rfl) (by kernel_rfl) (by kernel_rfl) (fun _ _ _ h => h) (Or.inl ⟨by rfl, by intro w hSw; (try dsimp only at hSw); go_simp; try with_reducible rfl⟩) (by assumption) ?_
    try simp only [put_laws]
    refine wpAnyH_take (i := 5) (v := _) rfl (by kernel_rfl) (by kernel_rfl) (by kernel_rfl) (fun _ _ _ h => h) (Or.inl ⟨by rfl, by intro w hSw; (try dsimp only at hSw); go_simp; try with_reducible rfl⟩) (by assumption) ?_
    try simp only [put_laws]
    refine wpAnyH_ready (rs := [6, 10]) (by kernel_rfl) (by simp) ?_
    refine AllReadyH.cons rfl (fun K hK => ?_) ?_
    · go_simp
      go_at_call 23
      refine (GA.out _ td).mono ?_
      rintro e w4 ⟨rfl, h4, hb4⟩
      refine hK.out _ _ ⟨h4.ta.cells.1, h4.cells.2.1⟩ (fun hH => ?_)
      refine wpAnyH_take (i := 7) (v := _) rfl (by kernel_rfl) (by kernel_rfl) (by kernel_rfl) (fun _ _ _ h => h) (Or.inl ⟨by rfl, by intro w hSw; (try dsimp only at hSw); go_simp; try with_reducible rfl⟩) (by assumption) ?_
      try simp only [put_laws]
      refine wpAnyH_take (i := 8) (v := _) rfl (by kernel_rfl) (by kernel_rfl) (by kernel_rfl) (fun _ _ _ h => h) (Or.inl ⟨by rfl, by intro w hSw; (try dsimp only at hSw); go_simp; try with_reducible rfl⟩) (by assumption) ?_
      try simp only [put_laws]
      refine wpAnyH_take (i := 9) (v := _) rfl (by kernel_rfl) (by kernel_rfl) (by kernel_rfl) (fun _ _ _ h => h) (Or.inl ⟨by rfl, by intro w hSw; (try dsimp only at hSw); go_simp; try with_reducible rfl⟩) (by assumption) ?_
      try simp only [put_laws]
      refine wpAnyH_ready (rs := [10]) (by kernel_rfl) (by simp) ?_
      refine AllReadyH.cons rfl (fun K hK => ?_) AllReadyH.nil
      go_simp
      have h5 := h4.read ((Below.refl _ w4).alloc (Nat.le_refl _) (.cells zeroL 57))
      refine hK.out _ _ ⟨h5.ta.cells.1, h5.cells.2.1⟩ (fun hH => ?_)
      refine wpAnyH_ready (rs := [11]) (by kernel_rfl) (by simp) ?_
      refine AllReadyH.cons rfl (fun K hK => ?_) AllReadyH.nil
      refine step_store_new (by rfl) (by rfl) (by rfl) (by rfl) (by rfl) (SlotV.one _) slotInfo ?_
      have h6 := h4.read ((Below.refl _ w4).alloc (Nat.le_refl _) (.cells s.cells 57))
      refine hK.out _ _ ⟨h6.ta.cells.1, h6.cells.2.1⟩ (fun hH => ?_)
      try simp only [put_laws]
      refine wpAnyH_take (i := 12) (v := _) rfl (by kernel_rfl) (by kernel_rfl) (by kernel_rfl) (fun _ _ _ h => h) (Or.inl ⟨by rfl, by intro w hSw; (try dsimp only at hSw); go_simp; try with_reducible rfl⟩) (by assumption) ?_
      try simp only [put_laws]
      refine wpAnyH_done (by kernel_rfl) ?_ _
      exact cutQ.normal ⟨w4.heap.size, fun i => Array.getD _ i undef, fun _ => rfl, by kernel_rfl, rfl, ⟨Blk.new _ _ _, h6⟩⟩
    · refine AllReadyH.cons rfl (fun K hK => ?_) AllReadyH.nil
      go_simp
      have t1 := td.read ((Below.refl _ V.drew).alloc (Nat.le_refl _) (.cells zeroL 57))
      refine hK.out _ _ ⟨t1.ta.cells.1, t1.cells.2.1⟩ (fun hH => ?_)
      refine wpAnyH_ready (rs := [6]) (by kernel_rfl) (by simp) ?_
      refine AllReadyH.cons rfl (fun K hK => ?_) AllReadyH.nil
      go_simp
      go_at_call 23
      refine (GA.out _ t1).mono ?_
      rintro e w4 ⟨rfl, h4, hb4⟩
      have hz : Blk w4 V.heap.size 57 zeroL := (Blk.new V.drew 57 zeroL).below hb4 (by simp)
      refine hK.out _ _ ⟨h4.ta.cells.1, h4.cells.2.1⟩ (fun hH => ?_)
      refine wpAnyH_take (i := 7) (v := _) rfl (by kernel_rfl) (by kernel_rfl) (by kernel_rfl) (fun _ _ _ h => h) (Or.inl ⟨by rfl, by intro w hSw; (try dsimp only at hSw); go_simp; try with_reducible rfl⟩) (by assumption) ?_
      try simp only [put_laws]
      refine wpAnyH_take (i := 8) (v := _) rfl (by kernel_rfl) (by kernel_rfl) (by kernel_rfl) (fun _ _ _ h => h) (Or.inl ⟨by rfl, by intro w hSw; (try dsimp only at hSw); go_simp; try with_reducible rfl⟩) (by assumption) ?_
      try simp only [put_laws]
      refine wpAnyH_take (i := 9) (v := _) rfl (by kernel_rfl) (by kernel_rfl) (by kernel_rfl) (fun _ _ _ h => h) (Or.inl ⟨by rfl, by intro w hSw; (try dsimp only at hSw); go_simp; try with_reducible rfl⟩) (by assumption) ?_
      try simp only [put_laws]
      refine wpAnyH_ready (rs := [11]) (by kernel_rfl) (by simp) ?_
      refine AllReadyH.cons rfl (fun K hK => ?_) AllReadyH.nil
      refine step_store_blk (by rfl) (by rfl) (by rfl) (by rfl) hz (by rfl) (SlotV.one _) slotInfo ?_
      have h6 := h4.over hz s.cells (by have h1 := td.qlt; have h2 := td.tn.size; have h3 : V.drew.heap.size = V.heap.size := rfl; omega)
      refine hK.out _ _ ⟨h6.ta.cells.1, h6.cells.2.1⟩ (fun hH => ?_)
      try simp only [put_laws]
      refine wpAnyH_take (i := 12) (v := _) rfl (by kernel_rfl) (by kernel_rfl) (by kernel_rfl) (fun _ _ _ h => h) (Or.inl ⟨by rfl, by intro w hSw; (try dsimp only at hSw); go_simp; try with_reducible rfl⟩) (by assumption) ?_
      try simp only [put_laws]
      refine wpAnyH_done (by kernel_rfl) ?_ _
      exact cutQ.normal ⟨V.heap.size, fun i => Array.getD _ i undef, fun _ => rfl, by kernel_rfl, rfl, ⟨hz.setRow_same _, h6⟩⟩
  rintro ⟨tm, df⟩ V2 ⟨B, z, hq, hF, hD, HK⟩
  dsimp only at hq hF hD
  clear hq
  subst hF hD
  have e0 := HK.2.cells.2.1
  have hee : (us == i) = true := by simpa using he0.out
  have H4 := Lib.hid HK.2
  clear HK td
  have hneq := nil_neq
  go_wp2
  go_ret
  exact ⟨rfl, H4.out.ta⟩
set_option maxHeartbeats 8000000 in
theorem tparent_ok {us ub i : Int} (hub : ub ≠ 0) (hi : inR us = true) (he : us ≠ i) (w W : World) (h : Ta w q g S l W) : Calls Try.prog 29 #[.pointer (some ⟨q, 0, none⟩), .int .i64 i, .agg #[.int .i64 us, .int .i64 ub]] W (RetT (.nilIface) w q g S l) := by
  obtain ⟨V, hV⟩ : ∃ V, W.alloc (.cells #[.int .i64 us, .int .i64 ub] 30) = V := ⟨_, rfl⟩
  have hVs : V.heap.size ≤ W.heap.size + 1 ∧ W.heap.size + 1 ≤ V.heap.size := by rw [← hV]; simp
  obtain ⟨bx, hbx⟩ : ∃ bx, W.heap.size = bx := ⟨_, rfl⟩
  have HL := Lib.hid (show TaL w q g S l bx us ub V by rw [← hV, ← hbx]; exact h.box us ub)
  have HV := Lib.hid hV
  have c1 : (W.alloc (.cells #[.int .i64 us, .int .i64 ub] 30)).cell? ⟨W.heap.size, 1, none⟩ = some (.int .i64 ub) := by rw [hV, hbx]; exact HL.out.cells.2.2
  have HBX := Lib.hid hbx
  clear hV hbx h
  have HG := fun W' (a : Ta w q g S l W') => get_gen us g W' a.ar
  rw [show errAt us = .nilIface from if_pos hi] at HG
  obtain ⟨s, hs⟩ : ∃ s, S.slotAt us = s := ⟨_, rfl⟩
  rw [hs] at HG 
  have GA := Lib.hid (fun W' (a : TaL w q g S l bx us ub W') => (HG W' a.ta).mono fun e w2 ⟨h1, h2⟩ => show e = Ending.returned (.tuple #[.agg s.cells, .nilIface]) ∧ TaL w q g S l bx us ub w2 ∧ Below W'.heap.size W' w2 from ⟨h1, a.read h2, h2⟩)
  clear HG
  have hubf : (ub == 0) = false := by simpa using hub
  go_enter Try.func29, Try.ntmps29
  go_upto_region 3 with fail
  rw [HV.out, HBX.out]
  clear c1
  have td := HL.out.read (Below.refl V.heap.size V).drew
  refine wp_region_cut (fun a' w' => ∃ (B : Nat) (z : Nat → Value), (∀ i, z i = a'.tmps.getD i undef) ∧ a'.tmps = #[.pointer (some ⟨q, 0, none⟩), .int .i64 i, .agg #[.int .i64 us, .int .i64 ub], z 3, z 4, .pointer (some ⟨bx, 0, none⟩), .nilIface, .pointer (some ⟨B, 0, none⟩), .nilIface, z 9, z 10, z 11, z 12, z 13, z 14, z 15, z 16, z 17, z 18, z 19, z 20, z 21, z 22, z 23, z 24, z 25, z 26, z 27, z 28, z 29] ∧ a'.defers = [] ∧ (Blk w' B 57 s.cells ∧ TaL w q g S l bx us ub w')) ?_ ?_
  · refine wp_region_held_drew (S := fun W' => W'.cell? ⟨q, 0, none⟩ = some (.pointer (some ⟨g, 0, none⟩)) ∧ W'.cell? ⟨bx, 0, none⟩ = some (.int .i64 us)) (by kernel_rfl) ⟨td.ta.cells.1, td.cells.2.1⟩ (fun hHeld => ?_)
    refine wpAnyH_take (i := 0) (v := _) rfl (by kernel_rfl) (by kernel_rfl) (by kernel_rfl) (fun _ _ _ h => h) (Or.inl ⟨by rfl, by intro w hSw; (try dsimp only at hSw); go_simp; try with_reducible rfl⟩) (by assumption) ?_
    try simp only [put_laws]
    refine wpAnyH_take (i := 1) (v := _) rfl (by kernel_rfl) (by kernel_rfl) (by kernel_rfl) (fun _ _ _ h => h) (Or.inl ⟨by rfl, by intro w hSw; (try dsimp only at hSw); go_simp; try with_reducible rfl⟩) (by assumption) ?_
    try simp only [put_laws]
    refine wpAnyH_take (i := 2) (v := _) rfl (by kernel_rfl) (by kernel_rfl) (by kernel_rfl) (fun _ _ _ h => h) (Or.inl ⟨by rfl, by intro w hSw; (try dsimp only at hSw); go_simp; try with_reducible rfl⟩) (by assumption) ?_
    try simp only [put_laws]
    refine wpAnyH_take (i := 3) (v := _) rfl (by kernel_rfl) (by kernel_rfl) (by kernel_rfl) (fun _ _ _ h => h) (Or.inl ⟨by rfl, by intro w hSw; (try dsimp only at hSw); go_simp; try with_reducible rfl⟩) (by assumption) ?_
    try simp only [put_laws]
    refine wpAnyH_take (i := 4) (v := _) rfl (by kernel_rfl) (by kernel_rfl) (by kernel_rfl) (fun _ _ _ h => h) (Or.inl ⟨by rfl, by intro w hSw; (try dsimp only at hSw); go_simp; try with_reducible rfl⟩) (by assumption) ?_
    try simp only [put_laws]
    refine wpAnyH_take (i := 5) (v := _) rfl (by kernel_rfl) (by kernel_rfl) (by kernel_rfl) (fun _ _ _ h => h) (Or.inl ⟨by rfl, by intro w hSw; (try dsimp only at hSw); go_simp; try with_reducible rfl⟩) (by assumption) ?_
    try simp only [put_laws]
    refine wpAnyH_ready (rs := [6, 10]) (by kernel_rfl) (by simp) ?_
    refine AllReadyH.cons rfl (fun K hK => ?_) ?_
    · go_simp
      go_at_call 23
      refine (GA.out _ td).mono ?_
      rintro e w4 ⟨rfl, h4, hb4⟩
      refine hK.out _ _ ⟨h4.ta.cells.1, h4.cells.2.1⟩ (fun hH => ?_)
      refine wpAnyH_take (i := 7) (v := _) rfl (by kernel_rfl) (by kernel_rfl) (by kernel_rfl) (fun _ _ _ h => h) (Or.inl ⟨by rfl, by intro w hSw; (try dsimp only at hSw); go_simp; try with_reducible rfl⟩) (by assumption) ?_
      try simp only [put_laws]
      refine wpAnyH_take (i := 8) (v := _) rfl (by kernel_rfl) (by kernel_rfl) (by kernel_rfl) (fun _ _ _ h => h) (Or.inl ⟨by rfl, by intro w hSw; (try dsimp only at hSw); go_simp; try with_reducible rfl⟩) (by assumption) ?_
      try simp only [put_laws]
      refine wpAnyH_take (i := 9) (v := _) rfl (by kernel_rfl) (by kernel_rfl) (by kernel_rfl) (fun _ _ _ h => h) (Or.inl ⟨by rfl, by intro w hSw; (try dsimp only at hSw); go_simp; try with_reducible rfl⟩) (by assumption) ?_
      try simp only [put_laws]
      refine wpAnyH_ready (rs := [10]) (by kernel_rfl) (by simp) ?_
      refine AllReadyH.cons rfl (fun K hK => ?_) AllReadyH.nil
      go_simp
      have h5 := h4.read ((Below.refl _ w4).alloc (Nat.le_refl _) (.cells zeroL 57))
      refine hK.out _ _ ⟨h5.ta.cells.1, h5.cells.2.1⟩ (fun hH => ?_)
      refine wpAnyH_ready (rs := [11]) (by kernel_rfl) (by simp) ?_
      refine AllReadyH.cons rfl (fun K hK => ?_) AllReadyH.nil
      refine step_store_new (by rfl) (by rfl) (by rfl) (by rfl) (by rfl) (SlotV.one _) slotInfo ?_
      have h6 := h4.read ((Below.refl _ w4).alloc (Nat.le_refl _) (.cells s.cells 57))
      refine hK.out _ _ ⟨h6.ta.cells.1, h6.cells.2.1⟩ (fun hH => ?_)
      try simp only [put_laws]
      refine wpAnyH_take (i := 12) (v := _) rfl (by kernel_rfl) (by kernel_rfl) (by kernel_rfl) (fun _ _ _ h => h) (Or.inl ⟨by rfl, by intro w hSw; (try dsimp only at hSw); go_simp; try with_reducible rfl⟩) (by assumption) ?_
      try simp only [put_laws]
      refine wpAnyH_done (by kernel_rfl) ?_ _
      exact cutQ.normal ⟨w4.heap.size, fun i => Array.getD _ i undef, fun _ => rfl, by kernel_rfl, rfl, ⟨Blk.new _ _ _, h6⟩⟩
    · refine AllReadyH.cons rfl (fun K hK => ?_) AllReadyH.nil
      go_simp
      have t1 := td.read ((Below.refl _ V.drew).alloc (Nat.le_refl _) (.cells zeroL 57))
      refine hK.out _ _ ⟨t1.ta.cells.1, t1.cells.2.1⟩ (fun hH => ?_)
      refine wpAnyH_ready (rs := [6]) (by kernel_rfl) (by simp) ?_
      refine AllReadyH.cons rfl (fun K hK => ?_) AllReadyH.nil
      go_simp
      go_at_call 23
      refine (GA.out _ t1).mono ?_
      rintro e w4 ⟨rfl, h4, hb4⟩
      have hz : Blk w4 V.heap.size 57 zeroL := (Blk.new V.drew 57 zeroL).below hb4 (by simp)
      refine hK.out _ _ ⟨h4.ta.cells.1, h4.cells.2.1⟩ (fun hH => ?_)
      refine wpAnyH_take (i := 7) (v := _) rfl (by kernel_rfl) (by kernel_rfl) (by kernel_rfl) (fun _ _ _ h => h) (Or.inl ⟨by rfl, by intro w hSw; (try dsimp only at hSw); go_simp; try with_reducible rfl⟩) (by assumption) ?_
      try simp only [put_laws]
      refine wpAnyH_take (i := 8) (v := _) rfl (by kernel_rfl) (by kernel_rfl) (by kernel_rfl) (fun _ _ _ h => h) (Or.inl ⟨by rfl, by intro w hSw; (try dsimp only at hSw); go_simp; try with_reducible rfl⟩) (by assumption) ?_
      try simp only [put_laws]
      refine wpAnyH_take (i := 9) (v := _) rfl (by kernel_rfl) (by kernel_rfl) (by kernel_rfl) (fun _ _ _ h => h) (Or.inl ⟨by rfl, by intro w hSw; (try dsimp only at hSw); go_simp; try with_reducible rfl⟩) (by assumption) ?_
      try simp only [put_laws]
      refine wpAnyH_ready (rs := [11]) (by kernel_rfl) (by simp) ?_
      refine AllReadyH.cons rfl (fun K hK => ?_) AllReadyH.nil
      refine step_store_blk (by rfl) (by rfl) (by rfl) (by rfl) hz (by rfl) (SlotV.one _) slotInfo ?_
      have h6 := h4.over hz s.cells (by have h1 := td.qlt; have h2 := td.tn.size; have h3 : V.drew.heap.size = V.heap.size := rfl; omega)
      refine hK.out _ _ ⟨h6.ta.cells.1, h6.cells.2.1⟩ (fun hH => ?_)
      try simp only [put_laws]
      refine wpAnyH_take (i := 12) (v := _) rfl (by kernel_rfl) (by kernel_rfl) (by kernel_rfl) (fun _ _ _ h => h) (Or.inl ⟨by rfl, by intro w hSw; (try dsimp only at hSw); go_simp; try with_reducible rfl⟩) (by assumption) ?_
      try simp only [put_laws]
      refine wpAnyH_done (by kernel_rfl) ?_ _
      exact cutQ.normal ⟨V.heap.size, fun i => Array.getD _ i undef, fun _ => rfl, by kernel_rfl, rfl, ⟨hz.setRow_same _, h6⟩⟩
  rintro ⟨tm, df⟩ V2 ⟨B, z, hq, hF, hD, HK⟩
  dsimp only at hq hF hD
  clear hq
  subst hF hD
  have e0 := HK.2.cells.2.1
  have hee : (us == i) = false := by simpa using he
  clear he
  have H4 := Lib.hid HK.2
  clear HK td
  have hneq := nil_neq
  go_wp2
  go_ret
  exact ⟨rfl, H4.out.ta⟩
end
end Go.Proofs.Ytbidgpeeogoglaa
/-
  Package tree: turn; what ring and parent give.
-/
namespace Go.Proofs.Ytbidgpeeogoglaa
set_option maxRecDepth 100000
open Go.RowKit Go.Sort

/-- A struct's load, as a read of a class of worlds. -/
theorem yieldsIf_row {P : Program} {ops : Array Oper} {S : World → Prop} {o' : Oper} {a : Act} {ty : TypeId} {x : Operand} (hw : Region.wanted o' (yielded ops a.tmps) = true) (ho : o'.op = .load ty x)
    {g o : Nat} {cs : Array Value} {d : TypeDesc} (hx : a.eval x = .pointer (some ⟨g, o, none⟩)) (h : ∀ w, S w → RowAt w g o cs) (hu : P.underlying ty = some d) (hd : isAggD d = true) (hi : (P.info? ty).map (·.size) = some cs.size) : YieldsIf P ops S o' (.agg cs) a := by
  refine .inl ⟨hw, fun w hS => ?_⟩
  unfold execOp
  simp only [ho, hx, Sem.run_bind, run_loadAt_at w hu hd hi (h w hS), Result.andThen_ok, Sem.run_pure]
theorem TaL.far {w W : World} {q g B bx : Nat} {S : St} {l us ub : Int} (h : TaL w q g S l bx us ub W) (hB : q ≠ B ∧ g ≠ B ∧ bx ≠ B ∧ w.heap.size ≤ B) {o : Nat} (v : Value) : TaL w q g S l bx us ub (W.setCell ⟨B, o, none⟩ v) :=
  ⟨⟨h.ta.blk.far (p := ⟨B, o, none⟩) (show q ≠ B from hB.1) v, h.ta.ar.block (Below.heap_setCell _ _ _ g (show g ≠ B from hB.2.1)), h.ta.ne, ⟨(grownBy_set W B o v).os.trans h.ta.tn.os, (grownBy_set W B o v).tape.trans h.ta.tn.tape, (grownBy_set W B o v).output.trans h.ta.tn.output, Nat.le_trans h.ta.tn.size (grownBy_set W B o v).size, fun k hk hx => (Below.heap_setCell W ⟨B, o, none⟩ v k (by show k ≠ B; omega)).trans (h.ta.tn.block k hk hx)⟩⟩, h.bs.far (p := ⟨B, o, none⟩) (show bx ≠ B from hB.2.2.1) v⟩
section
variable {S S' : St} {q g : Nat} {l : Int}
/-- What ring gives. -/
theorem tring_any (us ub : Int) (w W : World) (h : Ta w q g S l W) : Calls Try.prog 30 #[.pointer (some ⟨q, 0, none⟩), .agg #[.int .i64 us, .int .i64 ub]] W
    (RetT (.tuple #[.int .i64 (if ub = 0 ∨ S.there us ub = true then S.tring l us ub else -1), errOf (if ub = 0 ∨ S.there us ub = true then 0 else 10)]) w q g S l) := by
  unfold St.tring
  by_cases hub : ub = 0
  · subst hub
    simp only [true_or, if_true]
    exact tring_zero us w W h
  · simp only [hub, false_or, if_false]
    unfold St.there
    rcases inR_cases us with hi | hi
    · rcases hu : (S.slotAt us).used with _ | _
      · simp only [hi, Bool.and_false, Bool.false_and, Bool.false_eq_true, if_false]
        exact tring_unused hub hi hu w W h
      · rcases hb : ((S.slotAt us).birth == ub) with _ | _
        · simp only [hi, Bool.and_false, Bool.false_eq_true, if_false]
          exact tring_birth hub hi hu hb w W h
        · simp only [hi, Bool.and_self, if_true]
          exact tring_ok hub hi hu hb w W h
    · simp only [hi, Bool.false_and, Bool.false_eq_true, if_false]
      exact tring_out hub hi w W h
theorem tparent_any (i us ub : Int) (w W : World) (h : Ta w q g S l W) : Calls Try.prog 29 #[.pointer (some ⟨q, 0, none⟩), .int .i64 i, .agg #[.int .i64 us, .int .i64 ub]] W
    (RetT (errOf (if ub ≠ 0 ∧ inR us = false then 1 else if ub ≠ 0 ∧ us = i then 9 else 0)) w q g S l) := by
  by_cases hub : ub = 0
  · subst hub
    simp only [ne_eq, not_true_eq_false, false_and, if_false]
    exact tparent_zero i us w W h
  · rcases inR_cases us with hi | hi
    · rw [if_neg (by simp [hi])]
      by_cases he : us = i
      · rw [if_pos ⟨hub, he⟩]
        exact tparent_twice hub hi (Lib.hid he) w W h
      · rw [if_neg (fun e => he e.2)]
        exact tparent_ok hub hi he w W h
    · rw [if_pos ⟨hub, hi⟩]
      exact tparent_out hub hi w W h
set_option maxHeartbeats 4000000 in
theorem tturn_zero (us last : Int) (w W : World) (h : Ta w q g S l W) : Calls Try.prog 32 #[.pointer (some ⟨q, 0, none⟩), .agg #[.int .i64 us, .int .i64 0], .int .i64 last] W (RetT .nilIface w q g S last) := by
  obtain ⟨ub, hub⟩ : ∃ ub : Int, 0 = ub := ⟨_, rfl⟩
  rw [hub]
  obtain ⟨V, hV⟩ : ∃ V, W.alloc (.cells #[.int .i64 us, .int .i64 ub] 30) = V := ⟨_, rfl⟩
  have hVs : V.heap.size ≤ W.heap.size + 1 ∧ W.heap.size + 1 ≤ V.heap.size := by rw [← hV]; simp
  obtain ⟨bx, hbx⟩ : ∃ bx, W.heap.size = bx := ⟨_, rfl⟩
  have HL := Lib.hid (show TaL w q g S l bx us ub V by rw [← hV, ← hbx]; exact h.box us ub)
  have HV := Lib.hid hV
  have c1 : (W.alloc (.cells #[.int .i64 us, .int .i64 ub] 30)).cell? ⟨W.heap.size, 1, none⟩ = some (.int .i64 ub) := by rw [hV, hbx]; exact HL.out.cells.2.2
  have HBX := Lib.hid hbx
  clear hV hbx h
  have c3 : (W.alloc (.cells #[.int .i64 us, .int .i64 ub] 30)).frozen? ⟨q, 1, none⟩ = false := by rw [HV.out]; exact HL.out.ta.cells.2.2
  have c4 : (W.alloc (.cells #[.int .i64 us, .int .i64 ub] 30)).cell? ⟨q, 1, none⟩ = some (.int .i64 l) := by rw [HV.out]; exact HL.out.ta.cells.2.1
  subst hub
  go_enter Try.func32, Try.ntmps32
  go_wp2
  go_ret
  rw [HV.out]
  exact ⟨rfl, HL.out.ta.set last⟩
set_option maxHeartbeats 8000000 in
theorem tturn_set {us ub last : Int} (hub : ub ≠ 0) (hi : inR us = true) (hw0 : 0 ≤ S.writes) (hw1 : S.writes < 900000000) (w W : World) (h : Ta w q g S l W) : Calls Try.prog 32 #[.pointer (some ⟨q, 0, none⟩), .agg #[.int .i64 us, .int .i64 ub], .int .i64 last] W (RetT .nilIface w q g (S.put us.toNat ((S.slotAt us).kid last)) l) := by
  have hw2 := h.tn.size
  have hq0 := h.qlt
  obtain ⟨V, hV⟩ : ∃ V, W.alloc (.cells #[.int .i64 us, .int .i64 ub] 30) = V := ⟨_, rfl⟩
  have hVs : V.heap.size ≤ W.heap.size + 1 ∧ W.heap.size + 1 ≤ V.heap.size := by rw [← hV]; simp
  obtain ⟨bx, hbx⟩ : ∃ bx, W.heap.size = bx := ⟨_, rfl⟩
  have HL := Lib.hid (show TaL w q g S l bx us ub V by rw [← hV, ← hbx]; exact h.box us ub)
  have HV := Lib.hid hV
  have c1 : (W.alloc (.cells #[.int .i64 us, .int .i64 ub] 30)).cell? ⟨W.heap.size, 1, none⟩ = some (.int .i64 ub) := by rw [hV, hbx]; exact HL.out.cells.2.2
  have HBX := Lib.hid hbx
  clear hV hbx h
  have HG := fun W' (a : Ta w q g S l W') => get_gen us g W' a.ar
  rw [show errAt us = .nilIface from if_pos hi] at HG
  obtain ⟨s, hs⟩ : ∃ s, S.slotAt us = s := ⟨_, rfl⟩
  rw [hs] at HG ⊢
  have GA := Lib.hid (fun W' (a : TaL w q g S l bx us ub W') => (HG W' a.ta).mono fun e w2 ⟨h1, h2⟩ => show e = Ending.returned (.tuple #[.agg s.cells, .nilIface]) ∧ TaL w q g S l bx us ub w2 ∧ Below W'.heap.size W' w2 from ⟨h1, a.read h2, h2⟩)
  clear HG
  have hubf : (ub == 0) = false := by simpa using hub
  have PA := Lib.hid (fun W' (a : TaL w q g S l bx us ub W') => (putA us (s.kid last) W' a.ta.ar hw0 (by omega)).mono fun e w2 ⟨h1, h2, h3⟩ => show e = Ending.returned .nilIface ∧ Ta w q g (S.put us.toNat (s.kid last)) l w2 from ⟨by rw [h1]; unfold putNo; rw [if_pos hi]; rfl, by
    have h4 : S.putZ us (s.kid last) = S.put us.toNat (s.kid last) := by unfold St.putZ; rw [if_pos hi]
    rw [h4] at h2
    exact a.ta.turn h2 h3⟩)
  go_enter Try.func32, Try.ntmps32
  go_upto_region 4 with fail
  rw [HV.out, HBX.out]
  clear c1
  have td := HL.out.read (Below.refl V.heap.size V).drew
  refine wp_region_cut (fun a' w' => ∃ (B : Nat) (z : Nat → Value), (∀ i, z i = a'.tmps.getD i undef) ∧ a'.tmps = #[.pointer (some ⟨q, 0, none⟩), .agg #[.int .i64 us, .int .i64 ub], .int .i64 last, z 3, .pointer (some ⟨bx, 0, none⟩), z 5, .nilIface, .pointer (some ⟨B, 0, none⟩), .nilIface, z 9, z 10, z 11, z 12, z 13, z 14, z 15, z 16, z 17, z 18, z 19, z 20, z 21, z 22, z 23, z 24, z 25, z 26, z 27, z 28, z 29, z 30, z 31, z 32, z 33, z 34, z 35, z 36, z 37, z 38] ∧ a'.defers = [] ∧ (Blk w' B 57 s.cells ∧ TaL w q g S l bx us ub w' ∧ (q ≠ B ∧ g ≠ B ∧ bx ≠ B ∧ w.heap.size ≤ B))) ?_ ?_
  · refine wp_region_held_drew (S := fun W' => W'.cell? ⟨q, 0, none⟩ = some (.pointer (some ⟨g, 0, none⟩)) ∧ W'.cell? ⟨bx, 0, none⟩ = some (.int .i64 us)) (by kernel_rfl) ⟨td.ta.cells.1, td.cells.2.1⟩ (fun hHeld => ?_)
    refine wpAnyH_take (i := 0) (v := _) rfl (by kernel_rfl) (by kernel_rfl) (by kernel_rfl) (fun _ _ _ h => h) (Or.inl ⟨by rfl, by intro w hSw; (try dsimp only at hSw); go_simp; try with_reducible rfl⟩) (by assumption) ?_
    try simp only [put_laws]
    refine wpAnyH_take (i := 1) (v := _) rfl (by kernel_rfl) (by kernel_rfl) (by kernel_rfl) (fun _ _ _ h => h) (Or.inl ⟨by rfl, by intro w hSw; (try dsimp only at hSw); go_simp; try with_reducible rfl⟩) (by assumption) ?_
    try simp only [put_laws]
    refine wpAnyH_take (i := 2) (v := _) rfl (by kernel_rfl) (by kernel_rfl) (by kernel_rfl) (fun _ _ _ h => h) (Or.inl ⟨by rfl, by intro w hSw; (try dsimp only at hSw); go_simp; try with_reducible rfl⟩) (by assumption) ?_
    try simp only [put_laws]
    refine wpAnyH_take (i := 3) (v := _) rfl (by kernel_rfl) (by kernel_rfl) (by kernel_rfl) (fun _ _ _ h => h) (Or.inl ⟨by rfl, by intro w hSw; (try dsimp only at hSw); go_simp; try with_reducible rfl⟩) (by assumption) ?_
    try simp only [put_laws]
    refine wpAnyH_take (i := 4) (v := _) rfl (by kernel_rfl) (by kernel_rfl) (by kernel_rfl) (fun _ _ _ h => h) (Or.inl ⟨by rfl, by intro w hSw; (try dsimp only at hSw); go_simp; try with_reducible rfl⟩) (by assumption) ?_
    try simp only [put_laws]
    refine wpAnyH_take (i := 5) (v := _) rfl (by kernel_rfl) (by kernel_rfl) (by kernel_rfl) (fun _ _ _ h => h) (Or.inl ⟨by rfl, by intro w hSw; (try dsimp only at hSw); go_simp; try with_reducible rfl⟩) (by assumption) ?_
    try simp only [put_laws]
    refine wpAnyH_ready (rs := [6, 10]) (by kernel_rfl) (by simp) ?_
    refine AllReadyH.cons rfl (fun K hK => ?_) ?_
    · go_simp
      go_at_call 23
      refine (GA.out _ td).mono ?_
      rintro e w4 ⟨rfl, h4, hb4⟩
      refine hK.out _ _ ⟨h4.ta.cells.1, h4.cells.2.1⟩ (fun hH => ?_)
      refine wpAnyH_take (i := 7) (v := _) rfl (by kernel_rfl) (by kernel_rfl) (by kernel_rfl) (fun _ _ _ h => h) (Or.inl ⟨by rfl, by intro w hSw; (try dsimp only at hSw); go_simp; try with_reducible rfl⟩) (by assumption) ?_
      try simp only [put_laws]
      refine wpAnyH_take (i := 8) (v := _) rfl (by kernel_rfl) (by kernel_rfl) (by kernel_rfl) (fun _ _ _ h => h) (Or.inl ⟨by rfl, by intro w hSw; (try dsimp only at hSw); go_simp; try with_reducible rfl⟩) (by assumption) ?_
      try simp only [put_laws]
      refine wpAnyH_take (i := 9) (v := _) rfl (by kernel_rfl) (by kernel_rfl) (by kernel_rfl) (fun _ _ _ h => h) (Or.inl ⟨by rfl, by intro w hSw; (try dsimp only at hSw); go_simp; try with_reducible rfl⟩) (by assumption) ?_
      try simp only [put_laws]
      refine wpAnyH_ready (rs := [10]) (by kernel_rfl) (by simp) ?_
      refine AllReadyH.cons rfl (fun K hK => ?_) AllReadyH.nil
      go_simp
      have h5 := h4.read ((Below.refl _ w4).alloc (Nat.le_refl _) (.cells zeroL 57))
      refine hK.out _ _ ⟨h5.ta.cells.1, h5.cells.2.1⟩ (fun hH => ?_)
      refine wpAnyH_ready (rs := [11]) (by kernel_rfl) (by simp) ?_
      refine AllReadyH.cons rfl (fun K hK => ?_) AllReadyH.nil
      refine step_store_new (by rfl) (by rfl) (by rfl) (by rfl) (by rfl) (SlotV.one _) slotInfo ?_
      have h6 := h4.read ((Below.refl _ w4).alloc (Nat.le_refl _) (.cells s.cells 57))
      refine hK.out _ _ ⟨h6.ta.cells.1, h6.cells.2.1⟩ (fun hH => ?_)
      try simp only [put_laws]
      refine wpAnyH_take (i := 12) (v := _) rfl (by kernel_rfl) (by kernel_rfl) (by kernel_rfl) (fun _ _ _ h => h) (Or.inl ⟨by rfl, by intro w hSw; (try dsimp only at hSw); go_simp; try with_reducible rfl⟩) (by assumption) ?_
      try simp only [put_laws]
      refine wpAnyH_done (by kernel_rfl) ?_ _
      exact cutQ.normal ⟨w4.heap.size, fun i => Array.getD _ i undef, fun _ => rfl, by kernel_rfl, rfl, ⟨Blk.new _ _ _, h6, by have h1 := h4.qlt; have h2 := h4.tn.size; omega⟩⟩
    · refine AllReadyH.cons rfl (fun K hK => ?_) AllReadyH.nil
      go_simp
      have t1 := td.read ((Below.refl _ V.drew).alloc (Nat.le_refl _) (.cells zeroL 57))
      refine hK.out _ _ ⟨t1.ta.cells.1, t1.cells.2.1⟩ (fun hH => ?_)
      refine wpAnyH_ready (rs := [6]) (by kernel_rfl) (by simp) ?_
      refine AllReadyH.cons rfl (fun K hK => ?_) AllReadyH.nil
      go_simp
      go_at_call 23
      refine (GA.out _ t1).mono ?_
      rintro e w4 ⟨rfl, h4, hb4⟩
      have hz : Blk w4 V.heap.size 57 zeroL := (Blk.new V.drew 57 zeroL).below hb4 (by simp)
      refine hK.out _ _ ⟨h4.ta.cells.1, h4.cells.2.1⟩ (fun hH => ?_)
      refine wpAnyH_take (i := 7) (v := _) rfl (by kernel_rfl) (by kernel_rfl) (by kernel_rfl) (fun _ _ _ h => h) (Or.inl ⟨by rfl, by intro w hSw; (try dsimp only at hSw); go_simp; try with_reducible rfl⟩) (by assumption) ?_
      try simp only [put_laws]
      refine wpAnyH_take (i := 8) (v := _) rfl (by kernel_rfl) (by kernel_rfl) (by kernel_rfl) (fun _ _ _ h => h) (Or.inl ⟨by rfl, by intro w hSw; (try dsimp only at hSw); go_simp; try with_reducible rfl⟩) (by assumption) ?_
      try simp only [put_laws]
      refine wpAnyH_take (i := 9) (v := _) rfl (by kernel_rfl) (by kernel_rfl) (by kernel_rfl) (fun _ _ _ h => h) (Or.inl ⟨by rfl, by intro w hSw; (try dsimp only at hSw); go_simp; try with_reducible rfl⟩) (by assumption) ?_
      try simp only [put_laws]
      refine wpAnyH_ready (rs := [11]) (by kernel_rfl) (by simp) ?_
      refine AllReadyH.cons rfl (fun K hK => ?_) AllReadyH.nil
      refine step_store_blk (by rfl) (by rfl) (by rfl) (by rfl) hz (by rfl) (SlotV.one _) slotInfo ?_
      have h6 := h4.over hz s.cells (by have h1 := td.qlt; have h2 := td.tn.size; have h3 : V.drew.heap.size = V.heap.size := rfl; omega)
      refine hK.out _ _ ⟨h6.ta.cells.1, h6.cells.2.1⟩ (fun hH => ?_)
      try simp only [put_laws]
      refine wpAnyH_take (i := 12) (v := _) rfl (by kernel_rfl) (by kernel_rfl) (by kernel_rfl) (fun _ _ _ h => h) (Or.inl ⟨by rfl, by intro w hSw; (try dsimp only at hSw); go_simp; try with_reducible rfl⟩) (by assumption) ?_
      try simp only [put_laws]
      refine wpAnyH_done (by kernel_rfl) ?_ _
      exact cutQ.normal ⟨V.heap.size, fun i => Array.getD _ i undef, fun _ => rfl, by kernel_rfl, rfl, ⟨hz.setRow_same _, h6, by have h1 := td.qlt; have h2 := td.tn.size; have h3 : V.drew.heap.size = V.heap.size := rfl; omega⟩⟩
  rintro ⟨tm, df⟩ V2 ⟨B, z, hq, hF, hD, HK⟩
  dsimp only at hq hF hD
  clear hq
  subst hF hD
  have H4 := Lib.hid HK.2.1
  have K4 := Lib.hid HK.1
  have d2 : V2.cell? ⟨B, 2, none⟩ = some (.int .i64 s.kids) := (HK.1.cell 2).trans rfl
  have f2 : V2.frozen? ⟨B, 2, none⟩ = false := HK.1.frozen 2
  have hne : q ≠ B ∧ g ≠ B ∧ bx ≠ B ∧ w.heap.size ≤ B := HK.2.2
  clear HK td
  have hneq := nil_neq
  go_upto_region 8 with fail
  have K5 := Lib.hid (show Blk (V2.setCell ⟨B, 2, none⟩ (.int .i64 last)) B 57 (s.kid last).cells from by have := K4.out.set_ 2 (.int .i64 last); simpa [SlotV.cells, SlotV.kid] using this)
  have H5 := Lib.hid (show TaL w q g S l bx us ub (V2.setCell ⟨B, 2, none⟩ (.int .i64 last)) from H4.out.far hne (.int .i64 last))
  generalize V2.setCell ⟨B, 2, none⟩ (.int .i64 last) = V3 at *
  clear d2 f2 H4 K4
  have HU := Lib.hid Try.underlying57
  have H6 := Lib.hid (H5.out.read (Below.refl V3.heap.size V3).drew)
  have K6 := Lib.hid (K5.out.below (Below.refl V3.heap.size V3).drew K5.out.lt)
  refine wp_region_phase (S := fun W' => RowAt W' B 0 (s.kid last).cells ∧ W'.cell? ⟨q, 0, none⟩ = some (.pointer (some ⟨g, 0, none⟩)) ∧ W'.cell? ⟨bx, 0, none⟩ = some (.int .i64 us)) 7 1 #[true, true, true, true, true, true, true, true, false] (by kernel_rfl) (by kernel_rfl) rfl (by kernel_rfl) rfl ⟨K6.out.row, H6.out.ta.cells.1, H6.out.cells.2.1⟩ ?_
  simp only [List.take_succ_cons, List.take_zero]
  iterate 6 (refine wpHeld_cons (fun _ _ _ h => h) (Or.inl ⟨by rfl, by intro w hSw; (try dsimp only at hSw); go_simp; try with_reducible rfl⟩) ?_; try simp only [put_laws])
  refine wpHeld_cons (fun _ _ _ h => h) (yieldsIf_row (by rfl) rfl rfl (fun w h => h.1) HU.out rfl slotInfo) ?_
  try simp only [put_laws]
  intro K' hK
  go_simp
  go_at_call 26
  refine (PA.out _ H6.out).mono ?_
  rintro e w5 ⟨rfl, a5⟩
  have H7 := Lib.hid a5
  refine hK.out _ _ (fun _ => True) trivial (fun hH => ?_)
  clear hK K' a5
  try simp only [put_laws]
  refine wpAnyH_take (i := 8) (v := _) rfl (by kernel_rfl) (by kernel_rfl) (by kernel_rfl) (fun _ _ _ h => h) (Or.inl ⟨by rfl, by intro w hSw; (try dsimp only at hSw); go_simp; try with_reducible rfl⟩) (by assumption) ?_
  try simp only [put_laws]
  refine wpAnyH_done (by kernel_rfl) ?_ _
  clear hH
  go_wp2
  go_ret
  exact ⟨rfl, H7.out⟩
/-- What turn gives. -/
theorem tturn_any {us ub last : Int} (hi : ub = 0 ∨ inR us = true) (hw0 : 0 ≤ S.writes) (hw1 : S.writes < 900000000) (w W : World) (h : Ta w q g S l W) : Calls Try.prog 32 #[.pointer (some ⟨q, 0, none⟩), .agg #[.int .i64 us, .int .i64 ub], .int .i64 last] W (RetT .nilIface w q g (S.cset l us ub last).1 (S.cset l us ub last).2) := by
  unfold St.cset
  by_cases hub : ub = 0
  · subst hub
    rw [if_pos rfl]
    exact tturn_zero us last w W h
  · rw [if_neg hub]
    exact tturn_set hub (hi.resolve_left hub) hw0 hw1 w W h
end
end Go.Proofs.Ytbidgpeeogoglaa
/-
  Package tree: Add, Cut.
-/
namespace Go.Proofs.Ytbidgpeeogoglaa
set_option maxRecDepth 100000
open Go.RowKit Go.Sort

theorem linkInfo : (Try.prog.info? 30).map (·.size) = some 2 := by kernel_rfl
theorem link_one (a b : Int) : ∀ v ∈ (#[.int .i64 a, .int .i64 b] : Array Value).toList, v.oneCell' = true := by
  intro v hv
  simp at hv
  rcases hv with rfl | rfl <;> rfl
theorem built_link : Try.prog.built 30 (#[] : Array (Nat × Value)).toList = some #[.int .i64 0, .int .i64 0] := by kernel_rfl
theorem errOf_neq {k : Int} (h : k ≠ 0) (w : World) : (binOp .neq 32 (errOf k) .nilIface).run Try.prog w = .ok (.bool true) w := by unfold errOf; rw [if_neg h]; exact errno_neq k w
theorem errOf_grd {k : Int} (h : k ≠ 0) (x y : Operand) (w : World) : (eqGuard .neq 32 x y (errOf k) .nilIface).run Try.prog w = .ok () w := by unfold errOf errno; rw [if_neg h]; kernel_rfl
theorem Ta.here {w W : World} {q g : Nat} {S : St} {l : Int} (h : Ta w q g S l W) : Ta W q g S l W := ⟨h.blk, h.ar, h.ne, Tn.refl _ _⟩
/-- A link at bx; since w. -/
structure TaB (w : World) (q g : Nat) (S : St) (l : Int) (bx : Nat) (us ub : Int) (W : World) : Prop where
  ta : Ta w q g S l W
  bs : Blk W bx 30 #[.int .i64 us, .int .i64 ub]
  ne : bx ≠ q ∧ bx ≠ g ∧ w.heap.size ≤ bx
section
variable {w W W' : World} {q g bx B : Nat} {S S' : St} {l l' us ub : Int} {s s' : SlotV}
theorem TaB.next (h : TaB w q g S l bx us ub W) (a : Ta W q g S' l' W') : TaB w q g S' l' bx us ub W' :=
  ⟨⟨a.blk, a.ar, a.ne, h.ta.tn.trans a.tn⟩, ⟨(a.tn.block bx h.bs.lt (by have := h.ne; omega)).trans h.bs.eq⟩, h.ne⟩
theorem TaB.read (h : TaB w q g S l bx us ub W) (hb : Below W.heap.size W W') : TaB w q g S l bx us ub W' := ⟨h.ta.read hb, h.bs.below hb h.bs.lt, h.ne⟩
theorem TaB.cells (h : TaB w q g S l bx us ub W) : W.cell? ⟨q, 0, none⟩ = some (.pointer (some ⟨g, 0, none⟩)) ∧ W.cell? ⟨bx, 0, none⟩ = some (.int .i64 us) ∧ W.cell? ⟨bx, 1, none⟩ = some (.int .i64 ub) := ⟨h.ta.cells.1, (h.bs.cell 0).trans rfl, (h.bs.cell 1).trans rfl⟩
theorem TaB.far (h : TaB w q g S l bx us ub W) (hB : q ≠ B ∧ g ≠ B ∧ bx ≠ B ∧ w.heap.size ≤ B) {o : Nat} (v : Value) : TaB w q g S l bx us ub (W.setCell ⟨B, o, none⟩ v) :=
  ⟨(TaL.far ⟨h.ta, h.bs⟩ hB v).ta, (TaL.far ⟨h.ta, h.bs⟩ hB v).bs, h.ne⟩
theorem TaB.zero (h : TaB w q g S l bx us ub W) (a b : Int) : TaB w q g S l bx a b (W.setRow bx #[.int .i64 a, .int .i64 b]) :=
  ⟨h.ta.over h.bs _ ⟨h.ne.2.2, Ne.symm h.ne.1, Ne.symm h.ne.2.1⟩, h.bs.setRow_same _, h.ne⟩
/-- .. and a slot at B. -/
structure TaS (w : World) (q g : Nat) (S : St) (l : Int) (B : Nat) (s : SlotV) (W : World) : Prop where
  ta : Ta w q g S l W
  bs : Blk W B 57 s.cells
  ne : B ≠ q ∧ B ≠ g ∧ w.heap.size ≤ B
theorem TaS.next (h : TaS w q g S l B s W) (a : Ta W q g S' l' W') : TaS w q g S' l' B s W' :=
  ⟨⟨a.blk, a.ar, a.ne, h.ta.tn.trans a.tn⟩, ⟨(a.tn.block B h.bs.lt (by have := h.ne; omega)).trans h.bs.eq⟩, h.ne⟩
theorem TaS.cells (h : TaS w q g S l B s W) : W.cell? ⟨q, 0, none⟩ = some (.pointer (some ⟨g, 0, none⟩)) ∧ W.cell? ⟨B, 7, none⟩ = some (.int .i64 s.upSlot) ∧ W.cell? ⟨B, 8, none⟩ = some (.int .i64 s.upBirth) := ⟨h.ta.cells.1, (h.bs.cell 7).trans rfl, (h.bs.cell 8).trans rfl⟩
theorem Ta.slot (h : Ta w q g S l W) (hw : w.heap.size ≤ W.heap.size) (s : SlotV) : TaS w q g S l W.heap.size s (W.alloc (.cells s.cells 57)) :=
  ⟨h.read ((Below.refl _ _).alloc (Nat.le_refl _) _), Blk.new _ _ _, by have := h.qlt; omega⟩
end
section
variable {S R : St} {q g : Nat} {l i us ub : Int}
set_option maxHeartbeats 8000000 in
theorem tadd_used (hk : S.tused i ≠ 0) (w W : World) (h : Ta w q g S l W) : Calls Try.prog 8 #[.pointer (some ⟨q, 0, none⟩), .int .i64 i, .agg #[.int .i64 us, .int .i64 ub]] W (RetT (errOf (S.tused i)) w q g S l) := by
  have HUS := Lib.hid (fun W (a : Ta W q g S l W) => tused_any i W W a)
  have hneq := fun w => errOf_neq hk w
  have hgrd := fun x y w => errOf_grd hk x y w
  generalize errOf (S.tused i) = ev at *
  have hq0 := h.qlt
  have hw0' := h.tn.size
  obtain ⟨V, hV⟩ : ∃ V, W.alloc (.cells #[.int .i64 us, .int .i64 ub] 30) = V := ⟨_, rfl⟩
  obtain ⟨bx, hbx⟩ : ∃ bx, W.heap.size = bx := ⟨_, rfl⟩
  have HL := Lib.hid (show TaB w q g S l bx us ub V by rw [← hV, ← hbx]; exact ⟨(h.box us ub).ta, (h.box us ub).bs, by omega⟩)
  have HV := Lib.hid hV
  have HBX := Lib.hid hbx
  clear hV hbx h
  go_enter Try.func8, Try.ntmps8
  go_wp2_with (go_at_call 28; fail)
  rw [HV.out, HBX.out]
  refine (HUS.out V HL.out.ta.here).mono ?_
  rintro e w2 ⟨rfl, a2⟩
  obtain ⟨V2, hV2⟩ : ∃ V2, w2.alloc (.cells (S.slotAt i).cells 57) = V2 := ⟨_, rfl⟩
  have hb2 : Below w2.heap.size w2 V2 := by rw [← hV2]; exact (Below.refl _ _).alloc (Nat.le_refl _) _
  have HL2 := Lib.hid ((HL.out.next a2).read hb2)
  have HV2 := Lib.hid hV2
  clear hV2 hb2 a2 HUS
  go_wp2_with (first
    | ((with_reducible show wpList _ _ _ _ _ (World.alloc _ _)); refine wpList_store_new (ty := 57) rfl rfl rfl rfl rfl (SlotV.one _) slotInfo ?_; rw [HV2.out]))
  go_ret
  exact ⟨rfl, HL2.out.ta⟩
set_option maxHeartbeats 8000000 in
theorem tadd_parent {k : Int} (hk : S.tused i = 0) (hp : (if ub ≠ 0 ∧ inR us = false then 1 else if ub ≠ 0 ∧ us = i then 9 else 0 : Int) = k) (hk0 : k ≠ 0) (w W : World) (h : Ta w q g S l W) : Calls Try.prog 8 #[.pointer (some ⟨q, 0, none⟩), .int .i64 i, .agg #[.int .i64 us, .int .i64 ub]] W (RetT (errOf k) w q g S l) := by
  have HUS := Lib.hid (fun W (a : Ta W q g S l W) => tused_any i W W a)
  rw [show errOf (S.tused i) = .nilIface from by rw [hk]; rfl] at HUS
  have hneq0 := nil_neq
  have HPA := Lib.hid (fun W (a : Ta W q g S l W) => tparent_any i us ub W W a)
  rw [hp] at HPA
  have hneq := fun w => errOf_neq hk0 w
  have hgrd := fun x y w => errOf_grd hk0 x y w
  generalize errOf k = ev at *
  clear hp hk hk0
  have hq0 := h.qlt
  have hw0' := h.tn.size
  obtain ⟨V, hV⟩ : ∃ V, W.alloc (.cells #[.int .i64 us, .int .i64 ub] 30) = V := ⟨_, rfl⟩
  obtain ⟨bx, hbx⟩ : ∃ bx, W.heap.size = bx := ⟨_, rfl⟩
  have HL := Lib.hid (show TaB w q g S l bx us ub V by rw [← hV, ← hbx]; exact ⟨(h.box us ub).ta, (h.box us ub).bs, by omega⟩)
  have HV := Lib.hid hV
  have HBX := Lib.hid hbx
  clear hV hbx h
  go_enter Try.func8, Try.ntmps8
  go_wp2_with (go_at_call 28; fail)
  rw [HV.out, HBX.out]
  refine (HUS.out V HL.out.ta.here).mono ?_
  rintro e w2 ⟨rfl, a2⟩
  obtain ⟨V2, hV2⟩ : ∃ V2, w2.alloc (.cells (S.slotAt i).cells 57) = V2 := ⟨_, rfl⟩
  have hb2 : Below w2.heap.size w2 V2 := by rw [← hV2]; exact (Below.refl _ _).alloc (Nat.le_refl _) _
  have HL2 := Lib.hid ((HL.out.next a2).read hb2)
  have HV2 := Lib.hid hV2
  clear hV2 hb2 a2 HUS
  obtain ⟨_, e0, e1⟩ := HL2.out.cells
  go_wp2_with (first
    | ((with_reducible show wpList _ _ _ _ _ (World.alloc _ _)); refine wpList_store_new (ty := 57) rfl rfl rfl rfl rfl (SlotV.one _) slotInfo ?_; rw [HV2.out])
    | (go_at_call 29; fail))
  refine (HPA.out V2 HL2.out.ta.here).mono ?_
  rintro e w3 ⟨rfl, a3⟩
  have HL3 := Lib.hid (HL2.out.next a3)
  clear a3 HPA
  go_wp2
  go_ret
  exact ⟨rfl, HL3.out.ta⟩
set_option maxHeartbeats 8000000 in
theorem tadd_ring (hk : S.tused i = 0) (hp : (if ub ≠ 0 ∧ inR us = false then 1 else if ub ≠ 0 ∧ us = i then 9 else 0 : Int) = 0) (hub : ub ≠ 0) (ht : S.there us ub = false) (w W : World) (h : Ta w q g S l W) : Calls Try.prog 8 #[.pointer (some ⟨q, 0, none⟩), .int .i64 i, .agg #[.int .i64 us, .int .i64 ub]] W (RetT (errno 10) w q g S l) := by
  have HUS := Lib.hid (fun W (a : Ta W q g S l W) => tused_any i W W a)
  rw [show errOf (S.tused i) = .nilIface from by rw [hk]; rfl] at HUS
  have hneq0 := nil_neq
  have HPA := Lib.hid (fun W (a : Ta W q g S l W) => tparent_any i us ub W W a)
  rw [hp, show errOf 0 = .nilIface from rfl] at HPA
  have HRI := Lib.hid (fun W (a : Ta W q g S l W) => tring_any us ub W W a)
  rw [if_neg (by simp [hub, ht]), if_neg (by simp [hub, ht]), show errOf 10 = errno 10 from rfl] at HRI
  have hneq := errno_neq 10
  have hgrd : ∀ x y w, (eqGuard .neq 32 x y (errno 10) .nilIface).run Try.prog w = .ok () w := fun x y w => by unfold errno; kernel_rfl
  have hubf : (ub == 0) = false := by simpa using hub
  clear hp hk ht
  have hq0 := h.qlt
  have hw0' := h.tn.size
  obtain ⟨V, hV⟩ : ∃ V, W.alloc (.cells #[.int .i64 us, .int .i64 ub] 30) = V := ⟨_, rfl⟩
  obtain ⟨bx, hbx⟩ : ∃ bx, W.heap.size = bx := ⟨_, rfl⟩
  have HL := Lib.hid (show TaB w q g S l bx us ub V by rw [← hV, ← hbx]; exact ⟨(h.box us ub).ta, (h.box us ub).bs, by omega⟩)
  have HV := Lib.hid hV
  have HBX := Lib.hid hbx
  clear hV hbx h
  go_enter Try.func8, Try.ntmps8
  go_wp2_with (go_at_call 28; fail)
  rw [HV.out, HBX.out]
  refine (HUS.out V HL.out.ta.here).mono ?_
  rintro e w2 ⟨rfl, a2⟩
  obtain ⟨V2, hV2⟩ : ∃ V2, w2.alloc (.cells (S.slotAt i).cells 57) = V2 := ⟨_, rfl⟩
  have hb2 : Below w2.heap.size w2 V2 := by rw [← hV2]; exact (Below.refl _ _).alloc (Nat.le_refl _) _
  have HL2 := Lib.hid ((HL.out.next a2).read hb2)
  have HV2 := Lib.hid hV2
  clear hV2 hb2 a2 HUS
  obtain ⟨_, e0, e1⟩ := HL2.out.cells
  go_wp2_with (first
    | ((with_reducible show wpList _ _ _ _ _ (World.alloc _ _)); refine wpList_store_new (ty := 57) rfl rfl rfl rfl rfl (SlotV.one _) slotInfo ?_; rw [HV2.out])
    | (go_at_call 29; fail))
  refine (HPA.out V2 HL2.out.ta.here).mono ?_
  rintro e w3 ⟨rfl, a3⟩
  have HL3 := Lib.hid (HL2.out.next a3)
  clear a3 HPA e0 e1
  obtain ⟨_, e0, e1⟩ := HL3.out.cells
  go_wp2_with (go_at_call 30; fail)
  refine (HRI.out w3 HL3.out.ta.here).mono ?_
  rintro e w4 ⟨rfl, a4⟩
  have HL4 := Lib.hid (HL3.out.next a4)
  clear a4 HRI e0 e1
  go_wp2
  go_ret
  exact ⟨rfl, HL4.out.ta⟩
set_option maxHeartbeats 16000000 in
theorem tadd_err_z {m : Int} {ev : Value} (hk : S.tused i = 0) (hpush : (S.push (S.tring l us 0) i).1 = .tuple #[.int .i64 m, ev]) (hneq : ∀ w, (binOp .neq 32 ev .nilIface).run Try.prog w = .ok (.bool true) w) (hgrd : ∀ x y w, (eqGuard .neq 32 x y ev .nilIface).run Try.prog w = .ok () w) (hw0 : 0 ≤ S.writes) (hw1 : S.writes < 900000000) (w W : World) (h : Ta w q g S l W) : Calls Try.prog 8 #[.pointer (some ⟨q, 0, none⟩), .int .i64 i, .agg #[.int .i64 us, .int .i64 0]] W (RetT ev w q g (S.push (S.tring l us 0) i).2 l) := by
  have HUS := Lib.hid (fun W (a : Ta W q g S l W) => tused_any i W W a)
  rw [show errOf (S.tused i) = .nilIface from by rw [hk]; rfl] at HUS
  have hneq0 := nil_neq
  obtain ⟨ub, hub⟩ : ∃ ub : Int, 0 = ub := ⟨_, rfl⟩
  have HPA := Lib.hid (fun W (a : Ta W q g S l W) => tparent_any i us ub W W a)
  rw [if_neg (by simp [← hub]), if_neg (by simp [← hub]), show errOf 0 = .nilIface from rfl] at HPA
  have HRI := Lib.hid (fun W (a : Ta W q g S l W) => tring_any 0 0 W W a)
  rw [if_pos (.inl rfl), if_pos (.inl rfl), show errOf 0 = .nilIface from rfl, show S.tring l 0 0 = S.tring l us 0 from rfl] at HRI
  have hubt : (ub == 0) = true := by simp [← hub]
  have PU := Lib.hid (fun W (a : Ta W q g S l W) => (push_any (S.tring l us 0) i g W a.ar hw0 hw1).mono fun e W' hh => show e = Ending.returned (.tuple #[.int .i64 m, ev]) ∧ Ta W q g (S.push (S.tring l us 0) i).2 l W' from by
    rw [hpush] at hh
    exact ⟨hh.1, a.turn hh.2.ar hh.2.grown⟩)
  generalize hS1 : (S.push (S.tring l us 0) i).2 = S1 at *
  clear hS1 hpush hk hw0 hw1
  generalize S.tring l us 0 = ri at *
  rw [show (#[.pointer (some ⟨q, 0, none⟩), .int .i64 i, .agg #[.int .i64 us, .int .i64 0]] : Array Value) = #[.pointer (some ⟨q, 0, none⟩), .int .i64 i, .agg #[.int .i64 us, .int .i64 ub]] by rw [← hub]]
  have HUB := Lib.hid hub
  clear hub
  have hq0 := h.qlt
  have hw0' := h.tn.size
  obtain ⟨V, hV⟩ : ∃ V, W.alloc (.cells #[.int .i64 us, .int .i64 ub] 30) = V := ⟨_, rfl⟩
  obtain ⟨bx, hbx⟩ : ∃ bx, W.heap.size = bx := ⟨_, rfl⟩
  have HL := Lib.hid (show TaB w q g S l bx us ub V by rw [← hV, ← hbx]; exact ⟨(h.box us ub).ta, (h.box us ub).bs, by omega⟩)
  have HV := Lib.hid hV
  have HBX := Lib.hid hbx
  clear hV hbx h
  go_enter Try.func8, Try.ntmps8
  go_wp2_with (go_at_call 28; fail)
  rw [HV.out, HBX.out]
  refine (HUS.out V HL.out.ta.here).mono ?_
  rintro e w2 ⟨rfl, a2⟩
  obtain ⟨V2, hV2⟩ : ∃ V2, w2.alloc (.cells (S.slotAt i).cells 57) = V2 := ⟨_, rfl⟩
  have hb2 : Below w2.heap.size w2 V2 := by rw [← hV2]; exact (Below.refl _ _).alloc (Nat.le_refl _) _
  have HL2 := Lib.hid ((HL.out.next a2).read hb2)
  have HV2 := Lib.hid hV2
  clear hV2 hb2 a2 HUS
  obtain ⟨_, e0, e1⟩ := HL2.out.cells
  go_wp2_with (first
    | ((with_reducible show wpList _ _ _ _ _ (World.alloc _ _)); refine wpList_store_new (ty := 57) rfl rfl rfl rfl rfl (SlotV.one _) slotInfo ?_; rw [HV2.out])
    | (go_at_call 29; fail))
  refine (HPA.out V2 HL2.out.ta.here).mono ?_
  rintro e w3 ⟨rfl, a3⟩
  have HL3 := Lib.hid (HL2.out.next a3)
  clear a3 HPA e0 e1
  obtain ⟨_, e0, e1⟩ := HL3.out.cells
  have HLZ := Lib.hid (HL3.out.zero 0 0)
  have HB3 := Lib.hid HL3.out.bs
  obtain ⟨w3z, hw3z⟩ : ∃ w3z, w3.setRow bx #[.int .i64 0, .int .i64 0] = w3z := ⟨_, rfl⟩
  have HW3 := Lib.hid hw3z
  rw [hw3z] at HLZ
  obtain ⟨_, z0, z1⟩ := HLZ.out.cells
  clear hw3z
  go_wp2_with (first
    | ((with_reducible show wpList _ _ _ (Oper.mk (some 33) _ _ _ _ _ :: _) _ w3); refine wpList_build_as rfl rfl rfl built_link ?_; simp only [put_laws])
    | ((with_reducible show wpList _ _ _ (Oper.mk none _ _ _ _ _ :: _) _ w3); refine wpList_store_all (ty := 30) rfl rfl rfl rfl HB3.out rfl (link_one 0 0) linkInfo ?_; rw [HW3.out])
    | (go_at_call 30; fail))
  refine (HRI.out w3z HLZ.out.ta.here).mono ?_
  rintro e w4 ⟨rfl, a4⟩
  have HL4 := Lib.hid (HLZ.out.next a4)
  clear a4 HRI e0 e1 z0 z1 HB3 HW3 HLZ
  obtain ⟨c0, e0, e1⟩ := HL4.out.cells
  go_wp2_with (go_at_call 31; fail)
  refine (PU.out w4 HL4.out.ta.here).mono ?_
  rintro e w5 ⟨rfl, a5⟩
  have HL5 := Lib.hid (HL4.out.next a5)
  clear a5 PU c0 e0 e1
  go_wp2
  go_ret
  exact ⟨rfl, HL5.out.ta⟩
set_option maxHeartbeats 16000000 in
theorem tadd_err_n {m : Int} {ev : Value} (hk : S.tused i = 0) (hp : (if ub ≠ 0 ∧ inR us = false then 1 else if ub ≠ 0 ∧ us = i then 9 else 0 : Int) = 0) (hub : ub ≠ 0) (ht : S.there us ub = true) (hpush : (S.push (S.tring l us ub) i).1 = .tuple #[.int .i64 m, ev]) (hneq : ∀ w, (binOp .neq 32 ev .nilIface).run Try.prog w = .ok (.bool true) w) (hgrd : ∀ x y w, (eqGuard .neq 32 x y ev .nilIface).run Try.prog w = .ok () w) (hw0 : 0 ≤ S.writes) (hw1 : S.writes < 900000000) (w W : World) (h : Ta w q g S l W) : Calls Try.prog 8 #[.pointer (some ⟨q, 0, none⟩), .int .i64 i, .agg #[.int .i64 us, .int .i64 ub]] W (RetT ev w q g (S.push (S.tring l us ub) i).2 l) := by
  have HUS := Lib.hid (fun W (a : Ta W q g S l W) => tused_any i W W a)
  rw [show errOf (S.tused i) = .nilIface from by rw [hk]; rfl] at HUS
  have hneq0 := nil_neq
  have HPA := Lib.hid (fun W (a : Ta W q g S l W) => tparent_any i us ub W W a)
  rw [hp, show errOf 0 = .nilIface from rfl] at HPA
  have HRI := Lib.hid (fun W (a : Ta W q g S l W) => tring_any us ub W W a)
  rw [if_pos (.inr ht), if_pos (.inr ht), show errOf 0 = .nilIface from rfl] at HRI
  have hubf : (ub == 0) = false := by simpa using hub
  have hin := tthere_in ht
  have PU := Lib.hid (fun W (a : Ta W q g S l W) => (push_any (S.tring l us ub) i g W a.ar hw0 hw1).mono fun e W' hh => show e = Ending.returned (.tuple #[.int .i64 m, ev]) ∧ Ta W q g (S.push (S.tring l us ub) i).2 l W' from by
    rw [hpush] at hh
    exact ⟨hh.1, a.turn hh.2.ar hh.2.grown⟩)
  generalize hS1 : (S.push (S.tring l us ub) i).2 = S1 at *
  clear hS1 hpush hk hw0 hw1 hp ht hin
  generalize S.tring l us ub = ri at *
  have hq0 := h.qlt
  have hw0' := h.tn.size
  obtain ⟨V, hV⟩ : ∃ V, W.alloc (.cells #[.int .i64 us, .int .i64 ub] 30) = V := ⟨_, rfl⟩
  obtain ⟨bx, hbx⟩ : ∃ bx, W.heap.size = bx := ⟨_, rfl⟩
  have HL := Lib.hid (show TaB w q g S l bx us ub V by rw [← hV, ← hbx]; exact ⟨(h.box us ub).ta, (h.box us ub).bs, by omega⟩)
  have HV := Lib.hid hV
  have HBX := Lib.hid hbx
  clear hV hbx h
  go_enter Try.func8, Try.ntmps8
  go_wp2_with (go_at_call 28; fail)
  rw [HV.out, HBX.out]
  refine (HUS.out V HL.out.ta.here).mono ?_
  rintro e w2 ⟨rfl, a2⟩
  obtain ⟨V2, hV2⟩ : ∃ V2, w2.alloc (.cells (S.slotAt i).cells 57) = V2 := ⟨_, rfl⟩
  have hb2 : Below w2.heap.size w2 V2 := by rw [← hV2]; exact (Below.refl _ _).alloc (Nat.le_refl _) _
  have HL2 := Lib.hid ((HL.out.next a2).read hb2)
  have HV2 := Lib.hid hV2
  clear hV2 hb2 a2 HUS
  obtain ⟨_, e0, e1⟩ := HL2.out.cells
  go_wp2_with (first
    | ((with_reducible show wpList _ _ _ _ _ (World.alloc _ _)); refine wpList_store_new (ty := 57) rfl rfl rfl rfl rfl (SlotV.one _) slotInfo ?_; rw [HV2.out])
    | (go_at_call 29; fail))
  refine (HPA.out V2 HL2.out.ta.here).mono ?_
  rintro e w3 ⟨rfl, a3⟩
  have HL3 := Lib.hid (HL2.out.next a3)
  clear a3 HPA e0 e1
  obtain ⟨_, e0, e1⟩ := HL3.out.cells
  go_wp2_with (go_at_call 30; fail)
  refine (HRI.out w3 HL3.out.ta.here).mono ?_
  rintro e w4 ⟨rfl, a4⟩
  have HL4 := Lib.hid (HL3.out.next a4)
  clear a4 HRI e0 e1
  obtain ⟨c0, e0, e1⟩ := HL4.out.cells
  go_wp2_with (go_at_call 31; fail)
  refine (PU.out w4 HL4.out.ta.here).mono ?_
  rintro e w5 ⟨rfl, a5⟩
  have HL5 := Lib.hid (HL4.out.next a5)
  clear a5 PU c0 e0 e1
  go_wp2
  go_ret
  exact ⟨rfl, HL5.out.ta⟩
set_option maxHeartbeats 16000000 in
theorem tadd_ok_z {m : Int} (hk : S.tused i = 0) (hpush : (S.push (S.tring l us 0) i).1 = .tuple #[.int .i64 m, .nilIface]) (hiR : inR i = true) (h2 : (S.push (S.tring l us 0) i).2.writes < 800000000) (h20 : 0 ≤ (S.push (S.tring l us 0) i).2.writes) (hw0 : 0 ≤ S.writes) (hw1 : S.writes < 900000000) (w W : World) (h : Ta w q g S l W) : Calls Try.prog 8 #[.pointer (some ⟨q, 0, none⟩), .int .i64 i, .agg #[.int .i64 us, .int .i64 0]] W (RetT .nilIface w q g (((S.push (S.tring l us 0) i).2.put i.toNat (((S.push (S.tring l us 0) i).2.slotAt i).hang 0 0)).cset l us 0 m).1 (((S.push (S.tring l us 0) i).2.put i.toNat (((S.push (S.tring l us 0) i).2.slotAt i).hang 0 0)).cset l us 0 m).2) := by
  have HUS := Lib.hid (fun W (a : Ta W q g S l W) => tused_any i W W a)
  rw [show errOf (S.tused i) = .nilIface from by rw [hk]; rfl] at HUS
  have hneq0 := nil_neq
  obtain ⟨ub, hub⟩ : ∃ ub : Int, 0 = ub := ⟨_, rfl⟩
  have HPA := Lib.hid (fun W (a : Ta W q g S l W) => tparent_any i us ub W W a)
  rw [if_neg (by simp [← hub]), if_neg (by simp [← hub]), show errOf 0 = .nilIface from rfl] at HPA
  have HRI := Lib.hid (fun W (a : Ta W q g S l W) => tring_any 0 0 W W a)
  rw [if_pos (.inl rfl), if_pos (.inl rfl), show errOf 0 = .nilIface from rfl, show S.tring l 0 0 = S.tring l us 0 from rfl] at HRI
  have hubt : (ub == 0) = true := by simp [← hub]
  have PU := Lib.hid (fun W (a : Ta W q g S l W) => (push_any (S.tring l us 0) i g W a.ar hw0 hw1).mono fun e W' hh => show e = Ending.returned (.tuple #[.int .i64 m, .nilIface]) ∧ Ta W q g (S.push (S.tring l us 0) i).2 l W' from by
    rw [hpush] at hh
    exact ⟨hh.1, a.turn hh.2.ar hh.2.grown⟩)
  generalize hS1 : (S.push (S.tring l us 0) i).2 = S1 at *
  have TU := Lib.hid (fun W (a : Ta W q g (S1.put i.toNat ((S1.slotAt i).hang 0 0)) l W) => tturn_any (us := 0) (ub := 0) (last := m) (.inl rfl) (by rw [put_writes]; omega) (by rw [put_writes]; omega) W W a)
  have HG := fun W' (a : Ta W' q g S1 l W') => get_gen i g W' a.ar
  rw [show errAt i = .nilIface from if_pos hiR] at HG
  have PA := Lib.hid (fun W' (a : Ta W' q g S1 l W') => (putA i ((S1.slotAt i).hang 0 0) W' a.ar h20 (by omega)).mono fun e w2 ⟨h1, h2, h3⟩ => show e = Ending.returned .nilIface ∧ Ta W' q g (S1.put i.toNat ((S1.slotAt i).hang 0 0)) l w2 from ⟨by rw [h1]; unfold putNo; rw [if_pos hiR]; rfl, by
    have h4 : S1.putZ i ((S1.slotAt i).hang 0 0) = S1.put i.toNat ((S1.slotAt i).hang 0 0) := by unfold St.putZ; rw [if_pos hiR]
    rw [h4] at h2
    exact a.turn h2 h3⟩)
  have HGA := Lib.hid HG
  clear HG hS1 h2 h20 hiR hpush hk hw0 hw1
  generalize S.tring l us 0 = ri at *
  rw [show (#[.pointer (some ⟨q, 0, none⟩), .int .i64 i, .agg #[.int .i64 us, .int .i64 0]] : Array Value) = #[.pointer (some ⟨q, 0, none⟩), .int .i64 i, .agg #[.int .i64 us, .int .i64 ub]] by rw [← hub]]
  have HUB := Lib.hid hub
  clear hub
  have hq0 := h.qlt
  have hw0' := h.tn.size
  obtain ⟨V, hV⟩ : ∃ V, W.alloc (.cells #[.int .i64 us, .int .i64 ub] 30) = V := ⟨_, rfl⟩
  obtain ⟨bx, hbx⟩ : ∃ bx, W.heap.size = bx := ⟨_, rfl⟩
  have HL := Lib.hid (show TaB w q g S l bx us ub V by rw [← hV, ← hbx]; exact ⟨(h.box us ub).ta, (h.box us ub).bs, by omega⟩)
  have HV := Lib.hid hV
  have HBX := Lib.hid hbx
  clear hV hbx h
  go_enter Try.func8, Try.ntmps8
  go_wp2_with (go_at_call 28; fail)
  rw [HV.out, HBX.out]
  refine (HUS.out V HL.out.ta.here).mono ?_
  rintro e w2 ⟨rfl, a2⟩
  obtain ⟨V2, hV2⟩ : ∃ V2, w2.alloc (.cells (S.slotAt i).cells 57) = V2 := ⟨_, rfl⟩
  have hb2 : Below w2.heap.size w2 V2 := by rw [← hV2]; exact (Below.refl _ _).alloc (Nat.le_refl _) _
  have HL2 := Lib.hid ((HL.out.next a2).read hb2)
  have HV2 := Lib.hid hV2
  clear hV2 hb2 a2 HUS
  obtain ⟨_, e0, e1⟩ := HL2.out.cells
  go_wp2_with (first
    | ((with_reducible show wpList _ _ _ _ _ (World.alloc _ _)); refine wpList_store_new (ty := 57) rfl rfl rfl rfl rfl (SlotV.one _) slotInfo ?_; rw [HV2.out])
    | (go_at_call 29; fail))
  refine (HPA.out V2 HL2.out.ta.here).mono ?_
  rintro e w3 ⟨rfl, a3⟩
  have HL3 := Lib.hid (HL2.out.next a3)
  clear a3 HPA e0 e1
  obtain ⟨_, e0, e1⟩ := HL3.out.cells
  have HLZ := Lib.hid (HL3.out.zero 0 0)
  have HB3 := Lib.hid HL3.out.bs
  obtain ⟨w3z, hw3z⟩ : ∃ w3z, w3.setRow bx #[.int .i64 0, .int .i64 0] = w3z := ⟨_, rfl⟩
  have HW3 := Lib.hid hw3z
  rw [hw3z] at HLZ
  obtain ⟨_, z0, z1⟩ := HLZ.out.cells
  clear hw3z
  go_wp2_with (first
    | ((with_reducible show wpList _ _ _ (Oper.mk (some 33) _ _ _ _ _ :: _) _ w3); refine wpList_build_as rfl rfl rfl built_link ?_; simp only [put_laws])
    | ((with_reducible show wpList _ _ _ (Oper.mk none _ _ _ _ _ :: _) _ w3); refine wpList_store_all (ty := 30) rfl rfl rfl rfl HB3.out rfl (link_one 0 0) linkInfo ?_; rw [HW3.out])
    | (go_at_call 30; fail))
  refine (HRI.out w3z HLZ.out.ta.here).mono ?_
  rintro e w4 ⟨rfl, a4⟩
  have HL4 := Lib.hid (HLZ.out.next a4)
  clear a4 HRI e0 e1 z0 z1 HB3 HW3 HLZ
  obtain ⟨c0, e0, e1⟩ := HL4.out.cells
  go_wp2_with (go_at_call 31; fail)
  refine (PU.out w4 HL4.out.ta.here).mono ?_
  rintro e w5 ⟨rfl, a5⟩
  have HL5 := Lib.hid (HL4.out.next a5)
  clear a5 PU c0 e0 e1
  obtain ⟨c0, e0, e1⟩ := HL5.out.cells
  go_wp2_with (go_at_call 23; fail)
  refine (HGA.out w5 HL5.out.ta.here).mono ?_
  rintro e w6 ⟨rfl, hb6⟩
  have HL6 := Lib.hid (HL5.out.read hb6)
  clear hb6 c0 e0 e1 HGA
  generalize S1.slotAt i = s1 at *
  obtain ⟨B, hB⟩ : ∃ B, w6.heap.size = B := ⟨_, rfl⟩
  have hql := HL6.out.ta.qlt
  have hwl := HL6.out.ta.tn.size
  have hbl := HL6.out.bs.lt
  have hbn := HL6.out.ne
  obtain ⟨V6, hV6⟩ : ∃ V6, w6.alloc (.cells s1.cells 57) = V6 := ⟨_, rfl⟩
  have hb6 : Below w6.heap.size w6 V6 := by rw [← hV6]; exact (Below.refl _ _).alloc (Nat.le_refl _) _
  have K6 := Lib.hid (show Blk V6 B 57 s1.cells by rw [← hV6, ← hB]; exact Blk.new _ _ _)
  have HL7 := Lib.hid (HL6.out.read hb6)
  have HV6 := Lib.hid hV6
  have HB6 := Lib.hid hB
  have hne : q ≠ B ∧ g ≠ B ∧ bx ≠ B ∧ w.heap.size ≤ B := by omega
  have HNE := Lib.hid hne
  clear hV6 hb6 HL6 hql hwl hbl hbn hB hne
  obtain ⟨c0, e0, e1⟩ := HL7.out.cells
  have d2 : V6.cell? ⟨B, 2, none⟩ = some (.int .i64 s1.kids) := (K6.out.cell 2).trans rfl
  have d7 : V6.cell? ⟨B, 7, none⟩ = some (.int .i64 s1.upSlot) := (K6.out.cell 7).trans rfl
  have d8 : V6.cell? ⟨B, 8, none⟩ = some (.int .i64 s1.upBirth) := (K6.out.cell 8).trans rfl
  have f2 := K6.out.frozen 2
  have f7 := K6.out.frozen 7
  have f8 := K6.out.frozen 8
  go_wp2_with (first
    | ((with_reducible show wpList _ _ _ _ _ (World.alloc _ _)); refine wpList_store_new (ty := 57) rfl rfl rfl rfl rfl (SlotV.one _) slotInfo ?_; rw [HV6.out, HB6.out]))
  go_region
  go_upto_region 19 with fail
  have K7 := Lib.hid (show Blk (((V6.setCell ⟨B, 2, none⟩ (.int .i64 (-1))).setCell ⟨B, 7, none⟩ (.int .i64 0)).setCell ⟨B, 8, none⟩ (.int .i64 0)) B 57 (s1.hang 0 0).cells from by have := ((K6.out.set_ 2 (.int .i64 (-1))).set_ 7 (.int .i64 0)).set_ 8 (.int .i64 0); simpa [SlotV.cells, SlotV.hang] using this)
  have HL8 := Lib.hid (show TaB w q g S1 l bx 0 0 (((V6.setCell ⟨B, 2, none⟩ (.int .i64 (-1))).setCell ⟨B, 7, none⟩ (.int .i64 0)).setCell ⟨B, 8, none⟩ (.int .i64 0)) from ((HL7.out.far HNE.out (.int .i64 (-1))).far HNE.out (.int .i64 0)).far HNE.out (.int .i64 0))
  generalize ((V6.setCell ⟨B, 2, none⟩ (.int .i64 (-1))).setCell ⟨B, 7, none⟩ (.int .i64 0)).setCell ⟨B, 8, none⟩ (.int .i64 0) = V7 at *
  clear d2 d7 d8 f2 f7 f8 HL7 K6 c0 e0 e1
  have HU := Lib.hid Try.underlying57
  have H9 := Lib.hid ((HL8.out.read (Below.refl V7.heap.size V7).drew).read (Below.refl V7.drew.heap.size V7.drew).drew)
  have K9 := Lib.hid (show Blk V7.drew.drew B 57 (s1.hang 0 0).cells from (K7.out.below (Below.refl V7.heap.size V7).drew K7.out.lt).below (Below.refl V7.drew.heap.size V7.drew).drew K7.out.lt)
  refine wp_region_phase (S := fun W' => RowAt W' B 0 (s1.hang 0 0).cells ∧ W'.cell? ⟨q, 0, none⟩ = some (.pointer (some ⟨g, 0, none⟩))) 6 1 #[true, true, true, true, true, true, true, false] (by kernel_rfl) (by kernel_rfl) rfl (by kernel_rfl) rfl ⟨K9.out.row, H9.out.ta.cells.1⟩ ?_
  simp only [List.take_succ_cons, List.take_zero]
  iterate 5 (refine wpHeld_cons (fun _ _ _ h => h) (Or.inl ⟨by rfl, by intro w hSw; (try dsimp only at hSw); go_simp; try with_reducible rfl⟩) ?_; try simp only [put_laws])
  refine wpHeld_cons (fun _ _ _ h => h) (yieldsIf_row (by rfl) rfl rfl (fun w h => h.1) HU.out rfl slotInfo) ?_
  try simp only [put_laws]
  intro K' hK
  go_simp
  go_at_call 26
  refine (PA.out _ H9.out.ta.here).mono ?_
  rintro e w8 ⟨rfl, a8⟩
  have HA8 := Lib.hid (H9.out.next a8)
  refine hK.out _ _ (fun _ => True) trivial (fun hH => ?_)
  clear hK K' a8 PA
  try simp only [put_laws]
  refine wpAnyH_take (i := 7) (v := _) rfl (by kernel_rfl) (by kernel_rfl) (by kernel_rfl) (fun _ _ _ h => h) (Or.inl ⟨by rfl, by intro w hSw; (try dsimp only at hSw); go_simp; try with_reducible rfl⟩) (by assumption) ?_
  try simp only [put_laws]
  refine wpAnyH_done (by kernel_rfl) ?_ _
  clear hH
  obtain ⟨c0, e0, e1⟩ := HA8.out.cells
  go_wp2_with (go_at_call 32; fail)
  refine (TU.out w8 HA8.out.ta.here).mono ?_
  rintro e w9 ⟨rfl, a9⟩
  have HA9 := Lib.hid (HA8.out.next a9)
  clear a9 TU c0 e0 e1
  go_wp2
  go_ret
  exact ⟨rfl, HA9.out.ta⟩
set_option maxHeartbeats 16000000 in
theorem tadd_ok_n {m : Int} (hk : S.tused i = 0) (hp : (if ub ≠ 0 ∧ inR us = false then 1 else if ub ≠ 0 ∧ us = i then 9 else 0 : Int) = 0) (hub : ub ≠ 0) (ht : S.there us ub = true) (hpush : (S.push (S.tring l us ub) i).1 = .tuple #[.int .i64 m, .nilIface]) (hiR : inR i = true) (h2 : (S.push (S.tring l us ub) i).2.writes < 800000000) (h20 : 0 ≤ (S.push (S.tring l us ub) i).2.writes) (hw0 : 0 ≤ S.writes) (hw1 : S.writes < 900000000) (w W : World) (h : Ta w q g S l W) : Calls Try.prog 8 #[.pointer (some ⟨q, 0, none⟩), .int .i64 i, .agg #[.int .i64 us, .int .i64 ub]] W (RetT .nilIface w q g (((S.push (S.tring l us ub) i).2.put i.toNat (((S.push (S.tring l us ub) i).2.slotAt i).hang us ub)).cset l us ub m).1 (((S.push (S.tring l us ub) i).2.put i.toNat (((S.push (S.tring l us ub) i).2.slotAt i).hang us ub)).cset l us ub m).2) := by
  have HUS := Lib.hid (fun W (a : Ta W q g S l W) => tused_any i W W a)
  rw [show errOf (S.tused i) = .nilIface from by rw [hk]; rfl] at HUS
  have hneq0 := nil_neq
  have HPA := Lib.hid (fun W (a : Ta W q g S l W) => tparent_any i us ub W W a)
  rw [hp, show errOf 0 = .nilIface from rfl] at HPA
  have HRI := Lib.hid (fun W (a : Ta W q g S l W) => tring_any us ub W W a)
  rw [if_pos (.inr ht), if_pos (.inr ht), show errOf 0 = .nilIface from rfl] at HRI
  have hubf : (ub == 0) = false := by simpa using hub
  have hin := tthere_in ht
  have PU := Lib.hid (fun W (a : Ta W q g S l W) => (push_any (S.tring l us ub) i g W a.ar hw0 hw1).mono fun e W' hh => show e = Ending.returned (.tuple #[.int .i64 m, .nilIface]) ∧ Ta W q g (S.push (S.tring l us ub) i).2 l W' from by
    rw [hpush] at hh
    exact ⟨hh.1, a.turn hh.2.ar hh.2.grown⟩)
  generalize hS1 : (S.push (S.tring l us ub) i).2 = S1 at *
  have TU := Lib.hid (fun W (a : Ta W q g (S1.put i.toNat ((S1.slotAt i).hang us ub)) l W) => tturn_any (us := us) (ub := ub) (last := m) (.inr hin) (by rw [put_writes]; omega) (by rw [put_writes]; omega) W W a)
  have HG := fun W' (a : Ta W' q g S1 l W') => get_gen i g W' a.ar
  rw [show errAt i = .nilIface from if_pos hiR] at HG
  have PA := Lib.hid (fun W' (a : Ta W' q g S1 l W') => (putA i ((S1.slotAt i).hang us ub) W' a.ar h20 (by omega)).mono fun e w2 ⟨h1, h2, h3⟩ => show e = Ending.returned .nilIface ∧ Ta W' q g (S1.put i.toNat ((S1.slotAt i).hang us ub)) l w2 from ⟨by rw [h1]; unfold putNo; rw [if_pos hiR]; rfl, by
    have h4 : S1.putZ i ((S1.slotAt i).hang us ub) = S1.put i.toNat ((S1.slotAt i).hang us ub) := by unfold St.putZ; rw [if_pos hiR]
    rw [h4] at h2
    exact a.turn h2 h3⟩)
  have HGA := Lib.hid HG
  clear HG hS1 h2 h20 hiR hpush hk hw0 hw1 hp ht hin
  generalize S.tring l us ub = ri at *
  have hq0 := h.qlt
  have hw0' := h.tn.size
  obtain ⟨V, hV⟩ : ∃ V, W.alloc (.cells #[.int .i64 us, .int .i64 ub] 30) = V := ⟨_, rfl⟩
  obtain ⟨bx, hbx⟩ : ∃ bx, W.heap.size = bx := ⟨_, rfl⟩
  have HL := Lib.hid (show TaB w q g S l bx us ub V by rw [← hV, ← hbx]; exact ⟨(h.box us ub).ta, (h.box us ub).bs, by omega⟩)
  have HV := Lib.hid hV
  have HBX := Lib.hid hbx
  clear hV hbx h
  go_enter Try.func8, Try.ntmps8
  go_wp2_with (go_at_call 28; fail)
  rw [HV.out, HBX.out]
  refine (HUS.out V HL.out.ta.here).mono ?_
  rintro e w2 ⟨rfl, a2⟩
  obtain ⟨V2, hV2⟩ : ∃ V2, w2.alloc (.cells (S.slotAt i).cells 57) = V2 := ⟨_, rfl⟩
  have hb2 : Below w2.heap.size w2 V2 := by rw [← hV2]; exact (Below.refl _ _).alloc (Nat.le_refl _) _
  have HL2 := Lib.hid ((HL.out.next a2).read hb2)
  have HV2 := Lib.hid hV2
  clear hV2 hb2 a2 HUS
  obtain ⟨_, e0, e1⟩ := HL2.out.cells
  go_wp2_with (first
    | ((with_reducible show wpList _ _ _ _ _ (World.alloc _ _)); refine wpList_store_new (ty := 57) rfl rfl rfl rfl rfl (SlotV.one _) slotInfo ?_; rw [HV2.out])
    | (go_at_call 29; fail))
  refine (HPA.out V2 HL2.out.ta.here).mono ?_
  rintro e w3 ⟨rfl, a3⟩
  have HL3 := Lib.hid (HL2.out.next a3)
  clear a3 HPA e0 e1
  obtain ⟨_, e0, e1⟩ := HL3.out.cells
  go_wp2_with (go_at_call 30; fail)
  refine (HRI.out w3 HL3.out.ta.here).mono ?_
  rintro e w4 ⟨rfl, a4⟩
  have HL4 := Lib.hid (HL3.out.next a4)
  clear a4 HRI e0 e1
  obtain ⟨c0, e0, e1⟩ := HL4.out.cells
  go_wp2_with (go_at_call 31; fail)
  refine (PU.out w4 HL4.out.ta.here).mono ?_
  rintro e w5 ⟨rfl, a5⟩
  have HL5 := Lib.hid (HL4.out.next a5)
  clear a5 PU c0 e0 e1
  obtain ⟨c0, e0, e1⟩ := HL5.out.cells
  go_wp2_with (go_at_call 23; fail)
  refine (HGA.out w5 HL5.out.ta.here).mono ?_
  rintro e w6 ⟨rfl, hb6⟩
  have HL6 := Lib.hid (HL5.out.read hb6)
  clear hb6 c0 e0 e1 HGA
  generalize S1.slotAt i = s1 at *
  obtain ⟨B, hB⟩ : ∃ B, w6.heap.size = B := ⟨_, rfl⟩
  have hql := HL6.out.ta.qlt
  have hwl := HL6.out.ta.tn.size
  have hbl := HL6.out.bs.lt
  have hbn := HL6.out.ne
  obtain ⟨V6, hV6⟩ : ∃ V6, w6.alloc (.cells s1.cells 57) = V6 := ⟨_, rfl⟩
  have hb6 : Below w6.heap.size w6 V6 := by rw [← hV6]; exact (Below.refl _ _).alloc (Nat.le_refl _) _
  have K6 := Lib.hid (show Blk V6 B 57 s1.cells by rw [← hV6, ← hB]; exact Blk.new _ _ _)
  have HL7 := Lib.hid (HL6.out.read hb6)
  have HV6 := Lib.hid hV6
  have HB6 := Lib.hid hB
  have hne : q ≠ B ∧ g ≠ B ∧ bx ≠ B ∧ w.heap.size ≤ B := by omega
  have HNE := Lib.hid hne
  clear hV6 hb6 HL6 hql hwl hbl hbn hB hne
  obtain ⟨c0, e0, e1⟩ := HL7.out.cells
  have d2 : V6.cell? ⟨B, 2, none⟩ = some (.int .i64 s1.kids) := (K6.out.cell 2).trans rfl
  have d7 : V6.cell? ⟨B, 7, none⟩ = some (.int .i64 s1.upSlot) := (K6.out.cell 7).trans rfl
  have d8 : V6.cell? ⟨B, 8, none⟩ = some (.int .i64 s1.upBirth) := (K6.out.cell 8).trans rfl
  have f2 := K6.out.frozen 2
  have f7 := K6.out.frozen 7
  have f8 := K6.out.frozen 8
  go_wp2_with (first
    | ((with_reducible show wpList _ _ _ _ _ (World.alloc _ _)); refine wpList_store_new (ty := 57) rfl rfl rfl rfl rfl (SlotV.one _) slotInfo ?_; rw [HV6.out, HB6.out]))
  go_region
  go_upto_region 19 with fail
  have K7 := Lib.hid (show Blk (((V6.setCell ⟨B, 2, none⟩ (.int .i64 (-1))).setCell ⟨B, 7, none⟩ (.int .i64 us)).setCell ⟨B, 8, none⟩ (.int .i64 ub)) B 57 (s1.hang us ub).cells from by have := ((K6.out.set_ 2 (.int .i64 (-1))).set_ 7 (.int .i64 us)).set_ 8 (.int .i64 ub); simpa [SlotV.cells, SlotV.hang] using this)
  have HL8 := Lib.hid (show TaB w q g S1 l bx us ub (((V6.setCell ⟨B, 2, none⟩ (.int .i64 (-1))).setCell ⟨B, 7, none⟩ (.int .i64 us)).setCell ⟨B, 8, none⟩ (.int .i64 ub)) from ((HL7.out.far HNE.out (.int .i64 (-1))).far HNE.out (.int .i64 us)).far HNE.out (.int .i64 ub))
  generalize ((V6.setCell ⟨B, 2, none⟩ (.int .i64 (-1))).setCell ⟨B, 7, none⟩ (.int .i64 us)).setCell ⟨B, 8, none⟩ (.int .i64 ub) = V7 at *
  clear d2 d7 d8 f2 f7 f8 HL7 K6 c0 e0 e1
  have HU := Lib.hid Try.underlying57
  have H9 := Lib.hid ((HL8.out.read (Below.refl V7.heap.size V7).drew).read (Below.refl V7.drew.heap.size V7.drew).drew)
  have K9 := Lib.hid (show Blk V7.drew.drew B 57 (s1.hang us ub).cells from (K7.out.below (Below.refl V7.heap.size V7).drew K7.out.lt).below (Below.refl V7.drew.heap.size V7.drew).drew K7.out.lt)
  refine wp_region_phase (S := fun W' => RowAt W' B 0 (s1.hang us ub).cells ∧ W'.cell? ⟨q, 0, none⟩ = some (.pointer (some ⟨g, 0, none⟩))) 6 1 #[true, true, true, true, true, true, true, false] (by kernel_rfl) (by kernel_rfl) rfl (by kernel_rfl) rfl ⟨K9.out.row, H9.out.ta.cells.1⟩ ?_
  simp only [List.take_succ_cons, List.take_zero]
  iterate 5 (refine wpHeld_cons (fun _ _ _ h => h) (Or.inl ⟨by rfl, by intro w hSw; (try dsimp only at hSw); go_simp; try with_reducible rfl⟩) ?_; try simp only [put_laws])
  refine wpHeld_cons (fun _ _ _ h => h) (yieldsIf_row (by rfl) rfl rfl (fun w h => h.1) HU.out rfl slotInfo) ?_
  try simp only [put_laws]
  intro K' hK
  go_simp
  go_at_call 26
  refine (PA.out _ H9.out.ta.here).mono ?_
  rintro e w8 ⟨rfl, a8⟩
  have HA8 := Lib.hid (H9.out.next a8)
  refine hK.out _ _ (fun _ => True) trivial (fun hH => ?_)
  clear hK K' a8 PA
  try simp only [put_laws]
  refine wpAnyH_take (i := 7) (v := _) rfl (by kernel_rfl) (by kernel_rfl) (by kernel_rfl) (fun _ _ _ h => h) (Or.inl ⟨by rfl, by intro w hSw; (try dsimp only at hSw); go_simp; try with_reducible rfl⟩) (by assumption) ?_
  try simp only [put_laws]
  refine wpAnyH_done (by kernel_rfl) ?_ _
  clear hH
  obtain ⟨c0, e0, e1⟩ := HA8.out.cells
  go_wp2_with (go_at_call 32; fail)
  refine (TU.out w8 HA8.out.ta.here).mono ?_
  rintro e w9 ⟨rfl, a9⟩
  have HA9 := Lib.hid (HA8.out.next a9)
  clear a9 TU c0 e0 e1
  go_wp2
  go_ret
  exact ⟨rfl, HA9.out.ta⟩
set_option maxHeartbeats 8000000 in
theorem tcut_used (hk : S.tused i ≠ 0) (w W : World) (h : Ta w q g S l W) : Calls Try.prog 11 #[.pointer (some ⟨q, 0, none⟩), .int .i64 i] W (RetT (errOf (S.tused i)) w q g S l) := by
  have HUS := Lib.hid (fun W (a : Ta W q g S l W) => tused_any i W W a)
  have hneq := fun w => errOf_neq hk w
  have hgrd := fun x y w => errOf_grd hk x y w
  generalize errOf (S.tused i) = ev at *
  clear hk
  have hq0 := h.qlt
  have hw0' := h.tn.size
  obtain ⟨c0, _, _⟩ := h.cells
  have HL := Lib.hid h
  clear h
  go_enter Try.func11, Try.ntmps11
  go_wp2_with (go_at_call 28; fail)
  refine (HUS.out W HL.out.here).mono ?_
  rintro e w2 ⟨rfl, a2⟩
  have HA2 := Lib.hid (show Ta w q g S l w2 from ⟨a2.blk, a2.ar, a2.ne, HL.out.tn.trans a2.tn⟩)
  obtain ⟨B, hB⟩ : ∃ B, w2.heap.size = B := ⟨_, rfl⟩
  obtain ⟨V2, hV2⟩ : ∃ V2, w2.alloc (.cells (S.slotAt i).cells 57) = V2 := ⟨_, rfl⟩
  have HL2 := Lib.hid (show TaS w q g S l B (S.slotAt i) V2 from by rw [← hV2, ← hB]; exact HA2.out.slot (Nat.le_trans hw0' a2.tn.size) _)
  have HV2 := Lib.hid hV2
  have HB := Lib.hid hB
  clear hV2 a2 HUS HA2 hB HL c0
  go_wp2_with (first
    | ((with_reducible show wpList _ _ _ _ _ (World.alloc _ _)); refine wpList_store_new (ty := 57) rfl rfl rfl rfl rfl (SlotV.one _) slotInfo ?_; rw [HV2.out, HB.out]))
  go_ret
  exact ⟨rfl, HL2.out.ta⟩
set_option maxHeartbeats 16000000 in
theorem tcut_ring (hk : S.tused i = 0) (hub : (S.slotAt i).upBirth ≠ 0) (ht : S.there (S.slotAt i).upSlot (S.slotAt i).upBirth = false) (w W : World) (h : Ta w q g S l W) : Calls Try.prog 11 #[.pointer (some ⟨q, 0, none⟩), .int .i64 i] W (RetT (errno 10) w q g S l) := by
  have HUS := Lib.hid (fun W (a : Ta W q g S l W) => tused_any i W W a)
  rw [show errOf (S.tused i) = .nilIface from by rw [hk]; rfl] at HUS
  have hneq0 := nil_neq
  have HRI := Lib.hid (fun W (a : Ta W q g S l W) => tring_any (S.slotAt i).upSlot (S.slotAt i).upBirth W W a)
  rw [if_neg (by simp [hub, ht]), if_neg (by simp [hub, ht]), show errOf 10 = errno 10 from rfl] at HRI
  have hneq := errno_neq 10
  have hgrd : ∀ x y w, (eqGuard .neq 32 x y (errno 10) .nilIface).run Try.prog w = .ok () w := fun x y w => by unfold errno; kernel_rfl
  clear hk ht hub
  have hq0 := h.qlt
  have hw0' := h.tn.size
  obtain ⟨c0, _, _⟩ := h.cells
  have HL := Lib.hid h
  clear h
  go_enter Try.func11, Try.ntmps11
  go_wp2_with (go_at_call 28; fail)
  refine (HUS.out W HL.out.here).mono ?_
  rintro e w2 ⟨rfl, a2⟩
  have HA2 := Lib.hid (show Ta w q g S l w2 from ⟨a2.blk, a2.ar, a2.ne, HL.out.tn.trans a2.tn⟩)
  obtain ⟨B, hB⟩ : ∃ B, w2.heap.size = B := ⟨_, rfl⟩
  obtain ⟨V2, hV2⟩ : ∃ V2, w2.alloc (.cells (S.slotAt i).cells 57) = V2 := ⟨_, rfl⟩
  have HL2 := Lib.hid (show TaS w q g S l B (S.slotAt i) V2 from by rw [← hV2, ← hB]; exact HA2.out.slot (Nat.le_trans hw0' a2.tn.size) _)
  have HV2 := Lib.hid hV2
  have HB := Lib.hid hB
  clear hV2 a2 HUS HA2 hB HL c0
  obtain ⟨_, e0, e1⟩ := HL2.out.cells
  go_wp2_with (first
    | ((with_reducible show wpList _ _ _ _ _ (World.alloc _ _)); refine wpList_store_new (ty := 57) rfl rfl rfl rfl rfl (SlotV.one _) slotInfo ?_; rw [HV2.out, HB.out])
    | (go_at_call 30; fail))
  refine (HRI.out V2 HL2.out.ta.here).mono ?_
  rintro e w3 ⟨rfl, a3⟩
  have HL3 := Lib.hid (HL2.out.next a3)
  clear a3 HRI e0 e1
  go_wp2
  go_ret
  exact ⟨rfl, HL3.out.ta⟩
set_option maxHeartbeats 16000000 in
theorem tcut_err {ev : Value} {m : Int} (hpush : (S.dropR (S.tring l (S.slotAt i).upSlot (S.slotAt i).upBirth) i).1 = .tuple #[.int .i64 m, ev]) (hneq : ∀ w, (binOp .neq 32 ev .nilIface).run Try.prog w = .ok (.bool true) w) (hgrd : ∀ x y w, (eqGuard .neq 32 x y ev .nilIface).run Try.prog w = .ok () w) (hw0 : 0 ≤ S.writes) (hw1 : S.writes < 900000000) (hk : S.tused i = 0) (ht : (S.slotAt i).upBirth = 0 ∨ S.there (S.slotAt i).upSlot (S.slotAt i).upBirth = true) (w W : World) (h : Ta w q g S l W) : Calls Try.prog 11 #[.pointer (some ⟨q, 0, none⟩), .int .i64 i] W (RetT ev w q g (S.dropR (S.tring l (S.slotAt i).upSlot (S.slotAt i).upBirth) i).2 l) := by
  have HUS := Lib.hid (fun W (a : Ta W q g S l W) => tused_any i W W a)
  rw [show errOf (S.tused i) = .nilIface from by rw [hk]; rfl] at HUS
  have hneq0 := nil_neq
  have HRI := Lib.hid (fun W (a : Ta W q g S l W) => tring_any (S.slotAt i).upSlot (S.slotAt i).upBirth W W a)
  rw [if_pos ht, if_pos ht, show errOf 0 = .nilIface from rfl] at HRI
  have PU := Lib.hid (fun W (a : Ta W q g S l W) => (drop_any (S.tring l (S.slotAt i).upSlot (S.slotAt i).upBirth) i g W a.ar hw0 hw1).mono fun e W' hh => show e = Ending.returned (.tuple #[.int .i64 m, ev]) ∧ Ta W q g (S.dropR (S.tring l (S.slotAt i).upSlot (S.slotAt i).upBirth) i).2 l W' from by
    rw [hpush] at hh
    exact ⟨hh.1, a.turn hh.2.ar hh.2.grown⟩)
  generalize hS1 : (S.dropR (S.tring l (S.slotAt i).upSlot (S.slotAt i).upBirth) i).2 = S1 at *
  generalize S.tring l (S.slotAt i).upSlot (S.slotAt i).upBirth = ri at *
  clear hS1 hpush hk hw0 hw1 ht
  have hq0 := h.qlt
  have hw0' := h.tn.size
  obtain ⟨c0, _, _⟩ := h.cells
  have HL := Lib.hid h
  clear h
  go_enter Try.func11, Try.ntmps11
  go_wp2_with (go_at_call 28; fail)
  refine (HUS.out W HL.out.here).mono ?_
  rintro e w2 ⟨rfl, a2⟩
  have HA2 := Lib.hid (show Ta w q g S l w2 from ⟨a2.blk, a2.ar, a2.ne, HL.out.tn.trans a2.tn⟩)
  obtain ⟨B, hB⟩ : ∃ B, w2.heap.size = B := ⟨_, rfl⟩
  obtain ⟨V2, hV2⟩ : ∃ V2, w2.alloc (.cells (S.slotAt i).cells 57) = V2 := ⟨_, rfl⟩
  have HL2 := Lib.hid (show TaS w q g S l B (S.slotAt i) V2 from by rw [← hV2, ← hB]; exact HA2.out.slot (Nat.le_trans hw0' a2.tn.size) _)
  have HV2 := Lib.hid hV2
  have HB := Lib.hid hB
  clear hV2 a2 HUS HA2 hB HL c0
  obtain ⟨_, e0, e1⟩ := HL2.out.cells
  go_wp2_with (first
    | ((with_reducible show wpList _ _ _ _ _ (World.alloc _ _)); refine wpList_store_new (ty := 57) rfl rfl rfl rfl rfl (SlotV.one _) slotInfo ?_; rw [HV2.out, HB.out])
    | (go_at_call 30; fail))
  refine (HRI.out V2 HL2.out.ta.here).mono ?_
  rintro e w3 ⟨rfl, a3⟩
  have HL3 := Lib.hid (HL2.out.next a3)
  clear a3 HRI e0 e1
  obtain ⟨c0, e0, e1⟩ := HL3.out.cells
  go_wp2_with (go_at_call 36; fail)
  refine (PU.out w3 HL3.out.ta.here).mono ?_
  rintro e w4 ⟨rfl, a4⟩
  have HL4 := Lib.hid (HL3.out.next a4)
  clear a4 PU c0 e0 e1
  go_wp2
  go_ret
  exact ⟨rfl, HL4.out.ta⟩
set_option maxHeartbeats 16000000 in
theorem tcut_ok {m : Int} (hpush : (S.dropR (S.tring l (S.slotAt i).upSlot (S.slotAt i).upBirth) i).1 = .tuple #[.int .i64 m, .nilIface]) (h20 : 0 ≤ (S.dropR (S.tring l (S.slotAt i).upSlot (S.slotAt i).upBirth) i).2.writes) (h2 : (S.dropR (S.tring l (S.slotAt i).upSlot (S.slotAt i).upBirth) i).2.writes < 900000000) (hw0 : 0 ≤ S.writes) (hw1 : S.writes < 900000000) (hk : S.tused i = 0) (ht : (S.slotAt i).upBirth = 0 ∨ S.there (S.slotAt i).upSlot (S.slotAt i).upBirth = true) (w W : World) (h : Ta w q g S l W) : Calls Try.prog 11 #[.pointer (some ⟨q, 0, none⟩), .int .i64 i] W (RetT .nilIface w q g ((S.dropR (S.tring l (S.slotAt i).upSlot (S.slotAt i).upBirth) i).2.cset l (S.slotAt i).upSlot (S.slotAt i).upBirth m).1 ((S.dropR (S.tring l (S.slotAt i).upSlot (S.slotAt i).upBirth) i).2.cset l (S.slotAt i).upSlot (S.slotAt i).upBirth m).2) := by
  have HUS := Lib.hid (fun W (a : Ta W q g S l W) => tused_any i W W a)
  rw [show errOf (S.tused i) = .nilIface from by rw [hk]; rfl] at HUS
  have hneq0 := nil_neq
  have HRI := Lib.hid (fun W (a : Ta W q g S l W) => tring_any (S.slotAt i).upSlot (S.slotAt i).upBirth W W a)
  rw [if_pos ht, if_pos ht, show errOf 0 = .nilIface from rfl] at HRI
  have PU := Lib.hid (fun W (a : Ta W q g S l W) => (drop_any (S.tring l (S.slotAt i).upSlot (S.slotAt i).upBirth) i g W a.ar hw0 hw1).mono fun e W' hh => show e = Ending.returned (.tuple #[.int .i64 m, .nilIface]) ∧ Ta W q g (S.dropR (S.tring l (S.slotAt i).upSlot (S.slotAt i).upBirth) i).2 l W' from by
    rw [hpush] at hh
    exact ⟨hh.1, a.turn hh.2.ar hh.2.grown⟩)
  have TU := Lib.hid (fun W (a : Ta W q g (S.dropR (S.tring l (S.slotAt i).upSlot (S.slotAt i).upBirth) i).2 l W) => tturn_any (us := (S.slotAt i).upSlot) (ub := (S.slotAt i).upBirth) (last := m) (ht.imp id tthere_in) h20 h2 W W a)
  generalize hS1 : (S.dropR (S.tring l (S.slotAt i).upSlot (S.slotAt i).upBirth) i).2 = S1 at *
  generalize S.tring l (S.slotAt i).upSlot (S.slotAt i).upBirth = ri at *
  clear hS1 hpush hk hw0 hw1 ht h20 h2
  have hq0 := h.qlt
  have hw0' := h.tn.size
  obtain ⟨c0, _, _⟩ := h.cells
  have HL := Lib.hid h
  clear h
  go_enter Try.func11, Try.ntmps11
  go_wp2_with (go_at_call 28; fail)
  refine (HUS.out W HL.out.here).mono ?_
  rintro e w2 ⟨rfl, a2⟩
  have HA2 := Lib.hid (show Ta w q g S l w2 from ⟨a2.blk, a2.ar, a2.ne, HL.out.tn.trans a2.tn⟩)
  obtain ⟨B, hB⟩ : ∃ B, w2.heap.size = B := ⟨_, rfl⟩
  obtain ⟨V2, hV2⟩ : ∃ V2, w2.alloc (.cells (S.slotAt i).cells 57) = V2 := ⟨_, rfl⟩
  have HL2 := Lib.hid (show TaS w q g S l B (S.slotAt i) V2 from by rw [← hV2, ← hB]; exact HA2.out.slot (Nat.le_trans hw0' a2.tn.size) _)
  have HV2 := Lib.hid hV2
  have HB := Lib.hid hB
  clear hV2 a2 HUS HA2 hB HL c0
  obtain ⟨_, e0, e1⟩ := HL2.out.cells
  go_wp2_with (first
    | ((with_reducible show wpList _ _ _ _ _ (World.alloc _ _)); refine wpList_store_new (ty := 57) rfl rfl rfl rfl rfl (SlotV.one _) slotInfo ?_; rw [HV2.out, HB.out])
    | (go_at_call 30; fail))
  refine (HRI.out V2 HL2.out.ta.here).mono ?_
  rintro e w3 ⟨rfl, a3⟩
  have HL3 := Lib.hid (HL2.out.next a3)
  clear a3 HRI e0 e1
  obtain ⟨c0, e0, e1⟩ := HL3.out.cells
  go_wp2_with (go_at_call 36; fail)
  refine (PU.out w3 HL3.out.ta.here).mono ?_
  rintro e w4 ⟨rfl, a4⟩
  have HL4 := Lib.hid (HL3.out.next a4)
  clear a4 PU c0 e0 e1
  obtain ⟨c0, e0, e1⟩ := HL4.out.cells
  go_wp2_with (go_at_call 32; fail)
  refine (TU.out w4 HL4.out.ta.here).mono ?_
  rintro e w5 ⟨rfl, a5⟩
  have HL5 := Lib.hid (HL4.out.next a5)
  clear a5 TU c0 e0 e1
  go_wp2
  go_ret
  exact ⟨rfl, HL5.out.ta⟩
end
end Go.Proofs.Ytbidgpeeogoglaa
/-
  Package tree: Add and Cut answer as the document's pure law says.
-/
namespace Go.Proofs.Ytbidgpeeogoglaa
set_option maxRecDepth 100000
open Go.RowKit Go.Sort

theorem errOf_P (k : Int) : errOf k = errP k (-1) := by unfold errP errOf; split <;> rfl
section
variable {S R : St} {q g : Nat} {l : Int}
/-- What an act gives. -/
def DidT (w : World) (q g : Nat) (S : St) (r : (Int × Int) × St × Int) (e : Ending) (W' : World) : Prop :=
  e = .returned (errP r.1.1 r.1.2) ∧ ∃ S', Ta w q g S' r.2.2 W' ∧ Agree S' r.2.1 ∧ S.writes ≤ S'.writes ∧ S'.writes ≤ S.writes + (if r.1.1 = 0 then 5 else 0)
theorem DidT.stay {w W' : World} (hag : Agree S R) {e : Ending} {k : Int} (h1 : e = .returned (errOf k)) (h2 : Ta w q g S l W') : DidT w q g S ((k, -1), R, l) e W' :=
  ⟨by rw [h1, errOf_P], S, h2, hag, Int.le_refl _, by dsimp only; split <;> omega⟩
set_option maxHeartbeats 2000000 in
theorem tAdd_any (hag : Agree S R) (i us ub : Int) (w W : World) (h : Ta w q g S l W) (hw0 : 0 ≤ S.writes) (hw1 : S.writes < 700000000) :
    Calls Try.prog 8 #[.pointer (some ⟨q, 0, none⟩), .int .i64 i, .agg #[.int .i64 us, .int .i64 ub]] W (DidT w q g S (R.tadd l i us ub)) := by
  unfold St.tadd
  rw [← tused_congr hag.slots i, ← there_congr hag.slots, ← tring_congr hag.slots]
  by_cases hk : S.tused i = 0
  rotate_left
  · rw [if_pos hk]
    exact (tadd_used hk w W h).mono fun e W' ⟨h1, h2⟩ => DidT.stay hag h1 h2
  rw [if_neg (fun e => e hk)]
  have hiR := (tused_in hk).1
  by_cases hp1 : ub ≠ 0 ∧ inR us = false
  · rw [if_pos hp1]
    exact (tadd_parent (k := 1) hk (by rw [if_pos hp1]) (by decide) w W h).mono fun e W' ⟨h1, h2⟩ => DidT.stay hag h1 h2
  rw [if_neg hp1]
  by_cases hp2 : ub ≠ 0 ∧ us = i
  · rw [if_pos hp2]
    exact (tadd_parent (k := 9) hk (by rw [if_neg hp1, if_pos hp2]) (by decide) w W h).mono fun e W' ⟨h1, h2⟩ => DidT.stay hag h1 h2
  rw [if_neg hp2]
  have hp : (if ub ≠ 0 ∧ inR us = false then 1 else if ub ≠ 0 ∧ us = i then 9 else 0 : Int) = 0 := by rw [if_neg hp1, if_neg hp2]
  by_cases hp3 : ub ≠ 0 ∧ S.there us ub = false
  · rw [if_pos hp3]
    exact (tadd_ring hk hp hp3.1 hp3.2 w W h).mono fun e W' ⟨h1, h2⟩ => DidT.stay (k := 10) hag h1 h2
  rw [if_neg hp3]
  obtain ⟨hv, ha, h0, h3, hno⟩ := push_same hag (S.tring l us ub) i
  by_cases hz : (R.rpush (S.tring l us ub) i).1.2.1 = 0
  rotate_left
  · rw [if_pos hz]
    rw [if_neg hz] at h3
    have hfin : ∀ (e : Ending) (W' : World), RetT (errP (R.rpush (S.tring l us ub) i).1.2.1 (R.rpush (S.tring l us ub) i).1.2.2) w q g (S.push (S.tring l us ub) i).2 l e W' → DidT w q g S (((R.rpush (S.tring l us ub) i).1.2.1, (R.rpush (S.tring l us ub) i).1.2.2), (R.rpush (S.tring l us ub) i).2, l) e W' :=
      fun e W' hh => ⟨hh.1, _, hh.2, ha, h0, by dsimp only; rw [if_neg hz]; exact h3⟩
    by_cases hub : ub = 0
    · subst hub
      exact (tadd_err_z hk hv (fun w => errP_neq hz w) (fun x y w => errP_grd hz x y w) hw0 (by omega) w W h).mono hfin
    · have ht : S.there us ub = true := by
        rcases hth : S.there us ub with _ | _
        · exact absurd ⟨hub, hth⟩ hp3
        · rfl
      exact (tadd_err_n hk hp hub ht hv (fun w => errP_neq hz w) (fun x y w => errP_grd hz x y w) hw0 (by omega) w W h).mono hfin
  rw [if_neg (fun e => e hz)]
  rw [hz, errP_ok] at hv
  rw [if_pos hz] at h3
  have ha2 := ha.upd i.toNat (((S.push (S.tring l us ub) i).2.slotAt i).hang (upOf us ub) ub)
  have ha3 := ha2.cset l us ub (R.rpush (S.tring l us ub) i).1.1
  have hw3 := cset_writes ((S.push (S.tring l us ub) i).2.put i.toNat (((S.push (S.tring l us ub) i).2.slotAt i).hang (upOf us ub) ub)) l us ub (R.rpush (S.tring l us ub) i).1.1
  rw [put_writes] at hw3
  rw [slotAt_congr ha.slots] at ha3 hw3
  by_cases hub : ub = 0
  · subst hub
    refine (tadd_ok_z hk hv hiR (by omega) (by omega) hw0 (by omega) w W h).mono fun e W' hh => ⟨hh.1, _, ?_, ha3.1, by omega, by dsimp only; rw [if_pos rfl]; omega⟩
    have h2 := hh.2
    rw [slotAt_congr ha.slots] at h2
    rw [← ha3.2]
    exact h2
  · have ht : S.there us ub = true := by
      rcases hth : S.there us ub with _ | _
      · exact absurd ⟨hub, hth⟩ hp3
      · rfl
    have hup : upOf us ub = us := by unfold upOf; rw [if_neg hub]
    rw [hup] at ha3 hw3 ⊢
    refine (tadd_ok_n hk hp hub ht hv hiR (by omega) (by omega) hw0 (by omega) w W h).mono fun e W' hh => ⟨hh.1, _, ?_, ha3.1, by omega, by dsimp only; rw [if_pos rfl]; omega⟩
    have h2 := hh.2
    rw [slotAt_congr ha.slots] at h2
    rw [← ha3.2]
    exact h2
set_option maxHeartbeats 2000000 in
theorem tCut_any (hag : Agree S R) (i : Int) (w W : World) (h : Ta w q g S l W) (hw0 : 0 ≤ S.writes) (hw1 : S.writes < 700000000) :
    Calls Try.prog 11 #[.pointer (some ⟨q, 0, none⟩), .int .i64 i] W (DidT w q g S (R.tcut l i)) := by
  unfold St.tcut
  rw [← tused_congr hag.slots i, ← slotAt_congr hag.slots, ← there_congr hag.slots, ← tring_congr hag.slots]
  by_cases hk : S.tused i = 0
  rotate_left
  · rw [if_pos hk]
    exact (tcut_used hk w W h).mono fun e W' ⟨h1, h2⟩ => DidT.stay hag h1 h2
  rw [if_neg (fun e => e hk)]
  by_cases hp3 : (S.slotAt i).upBirth ≠ 0 ∧ S.there (S.slotAt i).upSlot (S.slotAt i).upBirth = false
  · rw [if_pos hp3]
    exact (tcut_ring hk hp3.1 hp3.2 w W h).mono fun e W' ⟨h1, h2⟩ => DidT.stay (k := 10) hag h1 h2
  rw [if_neg hp3]
  have ht : (S.slotAt i).upBirth = 0 ∨ S.there (S.slotAt i).upSlot (S.slotAt i).upBirth = true := by
    by_cases h0 : (S.slotAt i).upBirth = 0
    · exact .inl h0
    · rcases hth : S.there (S.slotAt i).upSlot (S.slotAt i).upBirth with _ | _
      · exact absurd ⟨h0, hth⟩ hp3
      · exact .inr rfl
  obtain ⟨hv, ha, h0, h3, hno⟩ := drop_same hag (S.tring l (S.slotAt i).upSlot (S.slotAt i).upBirth) i
  by_cases hz : (R.rdrop (S.tring l (S.slotAt i).upSlot (S.slotAt i).upBirth) i).1.2.1 = 0
  rotate_left
  · rw [if_pos hz]
    rw [if_neg hz] at h3
    exact (tcut_err hv (fun w => errP_neq hz w) (fun x y w => errP_grd hz x y w) hw0 (by omega) hk ht w W h).mono fun e W' hh => ⟨hh.1, _, hh.2, ha, h0, by dsimp only; rw [if_neg hz]; exact h3⟩
  rw [if_neg (fun e => e hz)]
  rw [hz, errP_ok] at hv
  rw [if_pos hz] at h3
  have ha3 := ha.cset l (S.slotAt i).upSlot (S.slotAt i).upBirth (R.rdrop (S.tring l (S.slotAt i).upSlot (S.slotAt i).upBirth) i).1.1
  have hw3 := cset_writes (S.dropR (S.tring l (S.slotAt i).upSlot (S.slotAt i).upBirth) i).2 l (S.slotAt i).upSlot (S.slotAt i).upBirth (R.rdrop (S.tring l (S.slotAt i).upSlot (S.slotAt i).upBirth) i).1.1
  refine (tcut_ok hv (by omega) (by omega) hw0 (by omega) hk ht w W h).mono fun e W' hh => ⟨hh.1, _, ?_, ha3.1, by omega, by dsimp only; rw [if_pos rfl]; omega⟩
  rw [← ha3.2]
  exact hh.2
theorem tadd_no (hag : Agree S R) (i us ub : Int) : ((R.tadd l i us ub).1.2 = -1 ∧ 0 ≤ (R.tadd l i us ub).1.1 ∧ (R.tadd l i us ub).1.1 ≤ 24) ∨ ((R.tadd l i us ub).1.1 = 24 ∧ 0 ≤ (R.tadd l i us ub).1.2 ∧ (R.tadd l i us ub).1.2 < 32) := by
  have hp := (push_same hag (R.tring l us ub) i).no
  have hu := tused_range R i
  unfold St.tadd
  repeat' split
  all_goals first
    | exact hp
    | exact .inl ⟨rfl, by dsimp only; omega, by dsimp only; omega⟩
theorem tcut_no (hag : Agree S R) (i : Int) : ((R.tcut l i).1.2 = -1 ∧ 0 ≤ (R.tcut l i).1.1 ∧ (R.tcut l i).1.1 ≤ 24) ∨ ((R.tcut l i).1.1 = 24 ∧ 0 ≤ (R.tcut l i).1.2 ∧ (R.tcut l i).1.2 < 32) := by
  have hp := (drop_same hag (R.tring l (R.slotAt i).upSlot (R.slotAt i).upBirth) i).no
  have hu := tused_range R i
  unfold St.tcut
  repeat' split
  all_goals first
    | exact hp
    | exact .inl ⟨rfl, by dsimp only; omega, by dsimp only; omega⟩
end
end Go.Proofs.Ytbidgpeeogoglaa
