/-
  Package sweep: New, Add, first, unit, Unit: walked.
-/
import Derived.Test.YtbidgpeeogoglaaGh
import Derived.Test.YtbidgpeeogoglaaGe
import Derived.Test.YtbidgpeeogoglaaGg
import Derived.Test.YtbidgpeeogoglaaGa
import Derived.Test.YtbidgpeeogoglaaGd
import Derived.Deep.CutRange
namespace Go.Proofs.Ytbidgpeeogoglaa
set_option maxRecDepth 100000
open Go.RowKit Go.Sort

/-- A slot's cells, written out. -/
@[reducible] def slotL (s : SlotV) : Array Value := #[.bool s.used, .bool s.dead, .int .i64 s.kids, .int .i64 s.prev, .int .i64 s.next, .int .i64 s.slot, .int .i64 s.birth, .int .i64 s.upSlot, .int .i64 s.upBirth, .int .i64 s.kind, .string s.user, .string s.label, .int .u64 s.scopes, .int .i64 s.level, .int .i64 s.born, .int .i64 s.deadline, .int .i64 s.depth]
/-- A state and a listing, laid out anew behind an operation. -/
theorem put_laws : (∀ (a : Act) (d : Nat) (v : Value), a.put (some d) v = { a with tmps := a.tmps.setIfInBounds d v }) ∧ (∀ (a : Act) (v : Value), a.put none v = a) ∧
    (∀ (l : List Value) (i : Nat) (x : Value), l.toArray.setIfInBounds i x = (l.set i x).toArray) ∧ (∀ (x y : Value) (l : List Value), (x :: l).set 0 y = y :: l) ∧ (∀ (x y : Value) (l : List Value) (i : Nat), (x :: l).set (i + 1) y = x :: l.set i y) ∧
    (∀ (l : List Bool) (i : Nat) (x : Bool), l.toArray.setIfInBounds i x = (l.set i x).toArray) ∧ (∀ (x y : Bool) (l : List Bool), (x :: l).set 0 y = y :: l) ∧ (∀ (x y : Bool) (l : List Bool) (i : Nat), (x :: l).set (i + 1) y = x :: l.set i y) ∧
    (∀ (l : List Oper) (i : Nat) (h : i < l.toArray.size), l.toArray[i] = l[i]) ∧ (∀ (x : Oper) (l : List Oper) (h : 0 < (x :: l).length), (x :: l)[0] = x) ∧ (∀ (x : Oper) (l : List Oper) (i : Nat) (h : i + 1 < (x :: l).length), (x :: l)[i + 1] = l[i]'(by simpa using h)) :=
  ⟨fun _ _ _ => rfl, fun _ _ => rfl, fun l i x => by simp, fun _ _ _ => rfl, fun _ _ _ _ => rfl, fun l i x => by simp, fun _ _ _ => rfl, fun _ _ _ _ => rfl, fun l i h => by simp, fun _ _ _ => rfl, fun _ _ _ _ => rfl⟩
def cutQ (I : Act → World → Prop) : Exit → Act → World → Prop
  | .normal, a, w => I a w
  | _, _, _ => False
/-- A region, and behind it what it leaves. -/
theorem wp_region_cut {P : Program} {id : Nat} {ops : Array Oper} {b : Bool} {Q : Exit → Act → World → Prop} {a : Act} {w : World} (I : Act → World → Prop) (h1 : (Code.region id ops b).wp P (cutQ I) a w) (h2 : ∀ a' w', I a' w' → Q .normal a' w') : (Code.region id ops b).wp P Q a w :=
  Code.wp_mono (fun e a w h => by cases e <;> first | exact h2 _ _ h | exact (h : False).elim) h1
theorem cutQ.normal {I : Act → World → Prop} {a : Act} {w : World} (h : I a w) : cutQ I .normal a w := h
/-- Garbage at q, its arena at g; since w nothing else has turned. -/
structure Ga (w : World) (q g : Nat) (S : St) (l : Int) (W : World) : Prop where
  blk : Blk W q 72 #[.pointer (some ⟨g, 0, none⟩), .int .i64 l]
  ar : IsAr W g S
  ne : q ≠ g
  tn : Tn (fun k => k = q ∨ k = g) w W
section
variable {w W W' : World} {q g : Nat} {S S' : St} {l l' : Int}
theorem Ga.read (h : Ga w q g S l W) (hb : Below W.heap.size W W') : Ga w q g S l W' := ⟨h.blk.below hb h.blk.lt, h.ar.below hb h.ar.lt, h.ne, h.tn.call hb⟩
theorem Ga.turn (h : Ga w q g S l W) (hA : IsAr W' g S') (hG : W.grownBy W' (some g)) : Ga w q g S' l W' := ⟨h.blk.grown hG (fun e => h.ne (by cases e; rfl)), hA, h.ne, h.tn.grown hG (.inr rfl)⟩
theorem Ga.set (h : Ga w q g S l W) (l' : Int) : Ga w q g S l' (W.setCell ⟨q, 1, none⟩ (.int .i64 l')) :=
  ⟨by have := h.blk.set_ 1 (.int .i64 l'); simpa using this, h.ar.block (Below.heap_setCell _ _ _ g (show g ≠ q from Ne.symm h.ne)), h.ne, h.tn.grown (grownBy_set W q 1 _) (.inl rfl)⟩
theorem Ga.cells (h : Ga w q g S l W) : W.cell? ⟨q, 0, none⟩ = some (.pointer (some ⟨g, 0, none⟩)) ∧ W.cell? ⟨q, 1, none⟩ = some (.int .i64 l) ∧ W.frozen? ⟨q, 1, none⟩ = false := ⟨(h.blk.cell 0).trans rfl, (h.blk.cell 1).trans rfl, h.blk.frozen 1⟩
theorem Ga.qlt (h : Ga w q g S l W) : q < W.heap.size ∧ g < W.heap.size := ⟨h.blk.lt, h.ar.lt⟩
/-- Another block is written over. -/
theorem Ga.over {B : Nat} {t : TypeId} {cs : Array Value} (h : Ga w q g S l W) (_ : Blk W B t cs) (ds : Array Value) (hB : w.heap.size ≤ B ∧ q ≠ B ∧ g ≠ B) : Ga w q g S l (W.setRow B ds) :=
  ⟨h.blk.setRow_ne hB.2.1 ds, h.ar.block (setRow_other W B g ds hB.2.2), h.ne, ⟨h.tn.os, h.tn.tape, h.tn.output, Nat.le_trans h.tn.size (grownBy_setRow W B ds).size, fun k hk hx => (setRow_other W B k ds (by omega)).trans (h.tn.block k hk hx)⟩⟩
/-- .. and a slot at B. -/
structure GaB (w : World) (q g : Nat) (S : St) (l : Int) (B : Nat) (s : SlotV) (W : World) : Prop where
  ga : Ga w q g S l W
  bs : Blk W B 57 s.cells
theorem GaB.read {B : Nat} {s : SlotV} (h : GaB w q g S l B s W) (hb : Below W.heap.size W W') : GaB w q g S l B s W' := ⟨h.ga.read hb, h.bs.below hb h.bs.lt⟩
theorem GaB.qlt {B : Nat} {s : SlotV} (h : GaB w q g S l B s W) : q < W.heap.size ∧ g < W.heap.size ∧ B < W.heap.size := ⟨h.ga.blk.lt, h.ga.ar.lt, h.bs.lt⟩
theorem GaB.tn {B : Nat} {s : SlotV} (h : GaB w q g S l B s W) : Tn (fun k => k = q ∨ k = g) w W := h.ga.tn
theorem GaB.over {B B' : Nat} {s : SlotV} {t : TypeId} {cs : Array Value} (h : GaB w q g S l B s W) (hz : Blk W B' t cs) (ds : Array Value) (hB : w.heap.size ≤ B' ∧ q ≠ B' ∧ g ≠ B' ∧ B ≠ B') : GaB w q g S l B s (W.setRow B' ds) :=
  ⟨h.ga.over hz ds ⟨hB.1, hB.2.1, hB.2.2.1⟩, h.bs.setRow_ne hB.2.2.2 ds⟩
theorem GaB.cells {B : Nat} {s : SlotV} (h : GaB w q g S l B s W) : W.cell? ⟨q, 0, none⟩ = some (.pointer (some ⟨g, 0, none⟩)) ∧ W.cell? ⟨B, 4, none⟩ = some (.int .i64 s.next) := ⟨h.ga.cells.1, (h.bs.cell 4).trans rfl⟩
theorem Ga.start (hB : Blk w q 72 #[.pointer (some ⟨g, 0, none⟩), .int .i64 l]) (hA : IsAr w g S) (hne : q ≠ g) : Ga w q g S l w := ⟨hB, hA, hne, Tn.refl _ _⟩
end
/-- The store of a struct over a block that is known whole, at a step of a region that draws its order. -/
theorem step_store_blk {P : Program} {w : World} {ops : Array Oper} {o' : Oper} {a : Act} {K : Act → World → Prop} {Q : Exit → Act → World → Prop} {E : Prop} {t : TypeId} {cur vs : Array Value} {ty : TypeId} {x y : Operand} {g : Nat} (hw : Region.wanted o' (yielded ops a.tmps) = true) (ho : o'.op = .store ty x y)
    (hx : a.eval x = .pointer (some ⟨g, 0, none⟩)) (hy : a.eval y = .agg vs) (hB : Blk w g t cur) (hfit : vs.size = cur.size) (h1 : ∀ v ∈ vs.toList, v.oneCell' = true) (hi : (P.info? ty).map (·.size) = some vs.size)
    (hK : K (a.put o'.dst undef) (w.setRow g vs)) : if Region.wanted o' (yielded ops a.tmps) = true then Oper.wp P o' a w K Q else E := by
  rw [if_pos hw]
  have hsp : splice cur 0 vs = vs := by
    unfold splice
    simp only [Nat.zero_add, List.take_zero, List.nil_append, hfit]
    rw [List.drop_of_length_le (by simp)]
    simp
  unfold Oper.wp execOp
  simp only [ho, hx, hy, Instr.storeAt, Instr.sureAddr, Sem.run_bind, Sem.run_pure, Result.andThen_ok, run_storeVar_at _ hi hB (by omega : 0 + vs.size ≤ cur.size) h1, hsp]
  exact hK
/-- The store of a struct into the block that was made last. -/
theorem step_store_new {P : Program} {w : World} {ops : Array Oper} {o' : Oper} {a : Act} {K : Act → World → Prop} {Q : Exit → Act → World → Prop} {E : Prop} {t : TypeId} {cur vs : Array Value} {ty : TypeId} {x y : Operand} (hw : Region.wanted o' (yielded ops a.tmps) = true) (ho : o'.op = .store ty x y)
    (hx : a.eval x = .pointer (some ⟨w.heap.size, 0, none⟩)) (hy : a.eval y = .agg vs) (hfit : vs.size = cur.size) (h1 : ∀ v ∈ vs.toList, v.oneCell' = true) (hi : (P.info? ty).map (·.size) = some vs.size)
    (hK : K (a.put o'.dst undef) (w.alloc (.cells vs t))) : if Region.wanted o' (yielded ops a.tmps) = true then Oper.wp P o' a (w.alloc (.cells cur t)) K Q else E :=
  step_store_blk hw ho hx hy (Blk.new w t cur) hfit h1 hi (by rw [setRow_alloc_new]; exact hK)
theorem errP_neq {no at_ : Int} (h : no ≠ 0) (w : World) : (binOp .neq 32 (errP no at_) .nilIface).run Try.prog w = .ok (.bool true) w := by
  unfold errP
  rw [if_neg h]
  split
  · unfold errno; kernel_rfl
  · unfold faultV; kernel_rfl
theorem errP_grd {no at_ : Int} (h : no ≠ 0) (x y : Operand) (w : World) : (eqGuard .neq 32 x y (errP no at_) .nilIface).run Try.prog w = .ok () w := by
  unfold errP
  rw [if_neg h]
  split
  · unfold errno; kernel_rfl
  · unfold faultV; kernel_rfl
theorem errno_neq (k : Int) (w : World) : (binOp .neq 32 (errno k) .nilIface).run Try.prog w = .ok (.bool true) w := by unfold errno; kernel_rfl
theorem nil_neq (w : World) : (binOp .neq 32 .nilIface .nilIface).run Try.prog w = .ok (.bool false) w := by kernel_rfl
theorem swNew_any (g : Nat) (w : World) : Calls Try.prog 17 #[.pointer (some ⟨g, 0, none⟩)] w fun e w' => e = .returned (.pointer (some ⟨w.heap.size, 0, none⟩)) ∧ Blk w' w.heap.size 72 #[.pointer (some ⟨g, 0, none⟩), .int .i64 (-1)] ∧ Below w.heap.size w w' := by
  go_enter Try.func17, Try.ntmps17
  go_wp2
  go_ret
  exact ⟨rfl, Blk.new _ _ _, (Below.refl _ _).alloc (Nat.le_refl _) _⟩
section
variable {S S' : St} {q g : Nat} {l i n no at_ : Int}
set_option maxHeartbeats 4000000 in
theorem gadd_out (hi : inR i = false) (w W : World) (h : Ga w q g S l W) : Calls Try.prog 18 #[.pointer (some ⟨q, 0, none⟩), .int .i64 i] W (fun e W' => e = .returned (errno 1) ∧ Ga w q g S l W') := by
  have HG := get_gen i g W h.ar
  rw [show errAt i = errno 1 from if_neg (by simp [hi])] at HG
  have HGA := Lib.hid HG
  generalize S.slotAt i = s at *
  obtain ⟨c0, c1, _⟩ := h.cells
  have HH := Lib.hid h
  have hneq := errno_neq
  clear h HG
  go_enter Try.func18, Try.ntmps18
  go_wp2_with (go_at_call 23; fail)
  refine HGA.out.mono ?_
  rintro e w2 ⟨rfl, hb2⟩
  have HB := Lib.hid (hb2.alloc hb2.size (.cells s.cells 57))
  clear hb2 HGA c0 c1
  simp only [errno]
  go_wp2_with (first
    | ((with_reducible show wpList _ _ _ _ _ (World.alloc _ _)); refine wpList_store_new (ty := 57) rfl rfl rfl rfl rfl (SlotV.one _) slotInfo ?_))
  go_ret
  exact ⟨rfl, HH.out.read HB.out⟩
set_option maxHeartbeats 4000000 in
theorem gadd_unused (hi : inR i = true) (hu : (S.slotAt i).used = false) (w W : World) (h : Ga w q g S l W) : Calls Try.prog 18 #[.pointer (some ⟨q, 0, none⟩), .int .i64 i] W (fun e W' => e = .returned (errno 10) ∧ Ga w q g S l W') := by
  have HG := get_gen i g W h.ar
  rw [show errAt i = .nilIface from if_pos hi] at HG
  have HGA := Lib.hid HG
  generalize S.slotAt i = s at *
  obtain ⟨c0, c1, _⟩ := h.cells
  have HH := Lib.hid h
  have hneq := nil_neq
  clear h HG
  go_enter Try.func18, Try.ntmps18
  go_wp2_with (go_at_call 23; fail)
  refine HGA.out.mono ?_
  rintro e w2 ⟨rfl, hb2⟩
  have HB := Lib.hid (hb2.alloc hb2.size (.cells s.cells 57))
  have d0 : (w2.alloc (.cells s.cells 57)).cell? ⟨w2.heap.size, 0, none⟩ = some (.bool s.used) := ((Blk.new _ _ _).cell 0).trans rfl
  rw [hu] at d0
  clear hb2 HGA c0 c1
  go_wp2_with (first
    | ((with_reducible show wpList _ _ _ _ _ (World.alloc _ _)); refine wpList_store_new (ty := 57) rfl rfl rfl rfl rfl (SlotV.one _) slotInfo ?_))
  go_ret
  exact ⟨rfl, HH.out.read HB.out⟩
set_option maxHeartbeats 4000000 in
theorem gadd_err (hi : inR i = true) (hu : (S.slotAt i).used = true) (hp : S.push l i = (.tuple #[.int .i64 n, errP no at_], S')) (hno : no ≠ 0) (w W : World) (h : Ga w q g S l W) (hw0 : 0 ≤ S.writes) (hw1 : S.writes < 900000000) :
    Calls Try.prog 18 #[.pointer (some ⟨q, 0, none⟩), .int .i64 i] W (fun e W' => e = .returned (errP no at_) ∧ Ga w q g S' l W') := by
  have HG := get_gen i g W h.ar
  rw [show errAt i = .nilIface from if_pos hi] at HG
  have HGA := Lib.hid HG
  have PU := Lib.hid (fun W (a : Ga w q g S l W) => (push_any l i g W a.ar hw0 hw1).mono fun e W' hh => show e = Ending.returned (.tuple #[.int .i64 n, errP no at_]) ∧ Ga w q g S' l W' from by
    rw [hp] at hh
    exact ⟨hh.1, a.turn hh.2.ar hh.2.grown⟩)
  have hneq2 := fun w => errP_neq (at_ := at_) hno w
  have hgrd := fun x y w => errP_grd (at_ := at_) hno x y w
  generalize errP no at_ = ev at *
  clear hp
  generalize S.slotAt i = s at *
  obtain ⟨c0, c1, _⟩ := h.cells
  have HH := Lib.hid h
  have hneq := nil_neq
  clear h HG
  go_enter Try.func18, Try.ntmps18
  go_wp2_with (go_at_call 23; fail)
  refine HGA.out.mono ?_
  rintro e w2 ⟨rfl, hb2⟩
  have H2 := Lib.hid (HH.out.read (hb2.alloc hb2.size (.cells s.cells 57)))
  have d0 : (w2.alloc (.cells s.cells 57)).cell? ⟨w2.heap.size, 0, none⟩ = some (.bool s.used) := ((Blk.new _ _ _).cell 0).trans rfl
  rw [hu] at d0
  obtain ⟨e0, e1, _⟩ := H2.out.cells
  have d1 := cell_regrown e0
  have d2 := cell_regrown e1
  clear hb2 HGA c0 c1
  go_wp2_with (first
    | ((with_reducible show wpList _ _ _ _ _ (World.alloc _ _)); refine wpList_store_new (ty := 57) rfl rfl rfl rfl rfl (SlotV.one _) slotInfo ?_))
  clear d0 d1 d2 e0 e1
  refine wp_region_noPanic ?_
  have td := H2.out.read (Below.refl (w2.alloc (.cells s.cells 57)).heap.size (w2.alloc (.cells s.cells 57))).drew
  have kd := And.intro td.cells.1 td.cells.2.1
  go_region_held3 (fun W' => W'.cell? ⟨q, 0, none⟩ = some (.pointer (some ⟨g, 0, none⟩)) ∧ W'.cell? ⟨q, 1, none⟩ = some (.int .i64 l))
    (first | assumption | exact And.intro h4.cells.1 h4.cells.2.1)
    (first
      | (go_at_call 31; refine (PU.out _ (by assumption)).mono ?_; rintro e w4 ⟨rfl, h4⟩))
  refine NoPanic.normal ?_
  have H4 := Lib.hid h4
  clear h4 PU
  go_wp2
  go_ret
  exact ⟨rfl, H4.out⟩
set_option maxHeartbeats 4000000 in
theorem gadd_ok (hi : inR i = true) (hu : (S.slotAt i).used = true) (hp : S.push l i = (.tuple #[.int .i64 n, .nilIface], S')) (w W : World) (h : Ga w q g S l W) (hw0 : 0 ≤ S.writes) (hw1 : S.writes < 900000000) :
    Calls Try.prog 18 #[.pointer (some ⟨q, 0, none⟩), .int .i64 i] W (fun e W' => e = .returned .nilIface ∧ Ga w q g S' n W') := by
  have HG := get_gen i g W h.ar
  rw [show errAt i = .nilIface from if_pos hi] at HG
  have HGA := Lib.hid HG
  have PU := Lib.hid (fun W (a : Ga w q g S l W) => (push_any l i g W a.ar hw0 hw1).mono fun e W' hh => show e = Ending.returned (.tuple #[.int .i64 n, .nilIface]) ∧ Ga w q g S' l W' from by
    rw [hp] at hh
    exact ⟨hh.1, a.turn hh.2.ar hh.2.grown⟩)
  clear hp
  generalize S.slotAt i = s at *
  obtain ⟨c0, c1, _⟩ := h.cells
  have HH := Lib.hid h
  have hneq := nil_neq
  clear h HG
  go_enter Try.func18, Try.ntmps18
  go_wp2_with (go_at_call 23; fail)
  refine HGA.out.mono ?_
  rintro e w2 ⟨rfl, hb2⟩
  have H2 := Lib.hid (HH.out.read (hb2.alloc hb2.size (.cells s.cells 57)))
  have d0 : (w2.alloc (.cells s.cells 57)).cell? ⟨w2.heap.size, 0, none⟩ = some (.bool s.used) := ((Blk.new _ _ _).cell 0).trans rfl
  rw [hu] at d0
  obtain ⟨e0, e1, _⟩ := H2.out.cells
  have d1 := cell_regrown e0
  have d2 := cell_regrown e1
  clear hb2 HGA c0 c1
  go_wp2_with (first
    | ((with_reducible show wpList _ _ _ _ _ (World.alloc _ _)); refine wpList_store_new (ty := 57) rfl rfl rfl rfl rfl (SlotV.one _) slotInfo ?_))
  clear d0 d1 d2 e0 e1
  refine wp_region_noPanic ?_
  have td := H2.out.read (Below.refl (w2.alloc (.cells s.cells 57)).heap.size (w2.alloc (.cells s.cells 57))).drew
  have kd := And.intro td.cells.1 td.cells.2.1
  go_region_held3 (fun W' => W'.cell? ⟨q, 0, none⟩ = some (.pointer (some ⟨g, 0, none⟩)) ∧ W'.cell? ⟨q, 1, none⟩ = some (.int .i64 l))
    (first | assumption | exact And.intro h4.cells.1 h4.cells.2.1)
    (first
      | (go_at_call 31; refine (PU.out _ (by assumption)).mono ?_; rintro e w4 ⟨rfl, h4⟩))
  refine NoPanic.normal ?_
  obtain ⟨c0, c1, f1⟩ := h4.cells
  have H5 := Lib.hid (h4.set n)
  clear h4 PU
  go_wp2
  go_ret
  exact ⟨rfl, H5.out⟩
set_option maxHeartbeats 4000000 in
theorem gfirst_out (hl : inR l = false) (w W : World) (h : Ga w q g S l W) : Calls Try.prog 53 #[.pointer (some ⟨q, 0, none⟩)] W (fun e W' => e = .returned (.tuple #[.int .i64 (-1), .int .i64 (-1), errno 1]) ∧ Ga w q g S l W') := by
  have HGA := Lib.hid (fun W (a : Ga w q g S l W) => get_gen l g W a.ar)
  rw [show errAt l = errno 1 from if_neg (by simp [hl])] at HGA
  generalize S.slotAt l = s at *
  obtain ⟨c0, c1, _⟩ := h.cells
  have d0 := cell_regrown c0
  have d1 := cell_regrown c1
  have HH := Lib.hid h
  clear h hl
  go_enter Try.func53, Try.ntmps53
  have GA := Lib.hid (fun W' (a : Ga w q g S l W') => (HGA.out W' a).mono fun e w2 ⟨h1, h2⟩ => show e = Ending.returned (.tuple #[.agg s.cells, errno 1]) ∧ Ga w q g S l w2 ∧ Below W'.heap.size W' w2 from ⟨h1, a.read h2, h2⟩)
  clear c0 c1 d0 d1
  go_upto_region 1 with fail
  have td := HH.out.read (Below.refl W.heap.size W).drew
  refine wp_region_cut (fun a' w' => ∃ (B : Nat) (z : Nat → Value), (∀ i, z i = a'.tmps.getD i undef) ∧ a'.tmps = #[.pointer (some ⟨q, 0, none⟩), undef, .int .i64 0, .int .i64 0, .nilIface, .pointer (some ⟨B, 0, none⟩), errno 1, undef, z 8, z 9, z 10, z 11, z 12, z 13, z 14, z 15, z 16, z 17, z 18, z 19, undef, undef, undef, undef, undef, undef, undef, undef, undef, undef, undef, undef, undef, undef, undef, undef, undef, undef] ∧ a'.defers = [] ∧ (Blk w' B 57 s.cells ∧ Ga w q g S l w')) ?_ ?_
  · refine wp_region_held_drew (S := fun W' => W'.cell? ⟨q, 0, none⟩ = some (.pointer (some ⟨g, 0, none⟩)) ∧ W'.cell? ⟨q, 1, none⟩ = some (.int .i64 l)) (by kernel_rfl) ⟨td.cells.1, td.cells.2.1⟩ (fun hHeld => ?_)
    refine wpAnyH_take (i := 0) (v := _) rfl (by kernel_rfl) (by kernel_rfl) (by kernel_rfl) (fun _ _ _ h => h) (Or.inl ⟨by rfl, by intro w hSw; (try dsimp only at hSw); go_simp; try with_reducible rfl⟩) (by assumption) ?_
    try simp only [put_laws]
    refine wpAnyH_take (i := 1) (v := _) rfl (by kernel_rfl) (by kernel_rfl) (by kernel_rfl) (fun _ _ _ h => h) (Or.inl ⟨by rfl, by intro w hSw; (try dsimp only at hSw); go_simp; try with_reducible rfl⟩) (by assumption) ?_
    try simp only [put_laws]
    refine wpAnyH_take (i := 2) (v := _) rfl (by kernel_rfl) (by kernel_rfl) (by kernel_rfl) (fun _ _ _ h => h) (Or.inl ⟨by rfl, by intro w hSw; (try dsimp only at hSw); go_simp; try with_reducible rfl⟩) (by assumption) ?_
    try simp only [put_laws]
    refine wpAnyH_take (i := 3) (v := _) rfl (by kernel_rfl) (by kernel_rfl) (by kernel_rfl) (fun _ _ _ h => h) (Or.inl ⟨by rfl, by intro w hSw; (try dsimp only at hSw); go_simp; try with_reducible rfl⟩) (by assumption) ?_
    try simp only [put_laws]
    refine wpAnyH_take (i := 4) (v := _) rfl (by kernel_rfl) (by kernel_rfl) (by kernel_rfl) (fun _ _ _ h => h) (Or.inl ⟨by rfl, by intro w hSw; (try dsimp only at hSw); go_simp; try with_reducible rfl⟩) (by assumption) ?_
    try simp only [put_laws]
    refine wpAnyH_take (i := 5) (v := _) rfl (by kernel_rfl) (by kernel_rfl) (by kernel_rfl) (fun _ _ _ h => h) (Or.inl ⟨by rfl, by intro w hSw; (try dsimp only at hSw); go_simp; try with_reducible rfl⟩) (by assumption) ?_
    try simp only [put_laws]
    refine wpAnyH_take (i := 6) (v := _) rfl (by kernel_rfl) (by kernel_rfl) (by kernel_rfl) (fun _ _ _ h => h) (Or.inl ⟨by rfl, by intro w hSw; (try dsimp only at hSw); go_simp; try with_reducible rfl⟩) (by assumption) ?_
    try simp only [put_laws]
    refine wpAnyH_take (i := 7) (v := _) rfl (by kernel_rfl) (by kernel_rfl) (by kernel_rfl) (fun _ _ _ h => h) (Or.inl ⟨by rfl, by intro w hSw; (try dsimp only at hSw); go_simp; try with_reducible rfl⟩) (by assumption) ?_
    try simp only [put_laws]
    refine wpAnyH_ready (rs := [8, 12]) (by kernel_rfl) (by simp) ?_
    refine AllReadyH.cons rfl (fun K hK => ?_) ?_
    · go_simp
      go_at_call 23
      refine (GA.out _ td).mono ?_
      rintro e w4 ⟨rfl, h4, hb4⟩
      refine hK.out _ _ ⟨h4.cells.1, h4.cells.2.1⟩ (fun hH => ?_)
      refine wpAnyH_take (i := 9) (v := _) rfl (by kernel_rfl) (by kernel_rfl) (by kernel_rfl) (fun _ _ _ h => h) (Or.inl ⟨by rfl, by intro w hSw; (try dsimp only at hSw); go_simp; try with_reducible rfl⟩) (by assumption) ?_
      try simp only [put_laws]
      refine wpAnyH_take (i := 10) (v := _) rfl (by kernel_rfl) (by kernel_rfl) (by kernel_rfl) (fun _ _ _ h => h) (Or.inl ⟨by rfl, by intro w hSw; (try dsimp only at hSw); go_simp; try with_reducible rfl⟩) (by assumption) ?_
      try simp only [put_laws]
      refine wpAnyH_take (i := 11) (v := _) rfl (by kernel_rfl) (by kernel_rfl) (by kernel_rfl) (fun _ _ _ h => h) (Or.inl ⟨by rfl, by intro w hSw; (try dsimp only at hSw); go_simp; try with_reducible rfl⟩) (by assumption) ?_
      try simp only [put_laws]
      refine wpAnyH_ready (rs := [12]) (by kernel_rfl) (by simp) ?_
      refine AllReadyH.cons rfl (fun K hK => ?_) AllReadyH.nil
      go_simp
      have h5 := h4.read ((Below.refl _ w4).alloc (Nat.le_refl _) (.cells zeroL 57))
      refine hK.out _ _ ⟨h5.cells.1, h5.cells.2.1⟩ (fun hH => ?_)
      refine wpAnyH_ready (rs := [13]) (by kernel_rfl) (by simp) ?_
      refine AllReadyH.cons rfl (fun K hK => ?_) AllReadyH.nil
      refine step_store_new (by rfl) (by rfl) (by rfl) (by rfl) (by rfl) (SlotV.one _) slotInfo ?_
      have h6 := h4.read ((Below.refl _ w4).alloc (Nat.le_refl _) (.cells s.cells 57))
      refine hK.out _ _ ⟨h6.cells.1, h6.cells.2.1⟩ (fun hH => ?_)
      try simp only [put_laws]
      refine wpAnyH_take (i := 14) (v := _) rfl (by kernel_rfl) (by kernel_rfl) (by kernel_rfl) (fun _ _ _ h => h) (Or.inl ⟨by rfl, by intro w hSw; (try dsimp only at hSw); go_simp; try with_reducible rfl⟩) (by assumption) ?_
      try simp only [put_laws]
      refine wpAnyH_done (by kernel_rfl) ?_ _
      exact cutQ.normal ⟨w4.heap.size, fun i => Array.getD _ i undef, fun _ => rfl, by kernel_rfl, rfl, ⟨Blk.new _ _ _, h6⟩⟩
    · refine AllReadyH.cons rfl (fun K hK => ?_) AllReadyH.nil
      go_simp
      have t1 := td.read ((Below.refl _ W.drew).alloc (Nat.le_refl _) (.cells zeroL 57))
      refine hK.out _ _ ⟨t1.cells.1, t1.cells.2.1⟩ (fun hH => ?_)
      refine wpAnyH_ready (rs := [8]) (by kernel_rfl) (by simp) ?_
      refine AllReadyH.cons rfl (fun K hK => ?_) AllReadyH.nil
      go_simp
      go_at_call 23
      refine (GA.out _ t1).mono ?_
      rintro e w4 ⟨rfl, h4, hb4⟩
      have hz : Blk w4 W.heap.size 57 zeroL := (Blk.new W.drew 57 zeroL).below hb4 (by simp)
      refine hK.out _ _ ⟨h4.cells.1, h4.cells.2.1⟩ (fun hH => ?_)
      refine wpAnyH_take (i := 9) (v := _) rfl (by kernel_rfl) (by kernel_rfl) (by kernel_rfl) (fun _ _ _ h => h) (Or.inl ⟨by rfl, by intro w hSw; (try dsimp only at hSw); go_simp; try with_reducible rfl⟩) (by assumption) ?_
      try simp only [put_laws]
      refine wpAnyH_take (i := 10) (v := _) rfl (by kernel_rfl) (by kernel_rfl) (by kernel_rfl) (fun _ _ _ h => h) (Or.inl ⟨by rfl, by intro w hSw; (try dsimp only at hSw); go_simp; try with_reducible rfl⟩) (by assumption) ?_
      try simp only [put_laws]
      refine wpAnyH_take (i := 11) (v := _) rfl (by kernel_rfl) (by kernel_rfl) (by kernel_rfl) (fun _ _ _ h => h) (Or.inl ⟨by rfl, by intro w hSw; (try dsimp only at hSw); go_simp; try with_reducible rfl⟩) (by assumption) ?_
      try simp only [put_laws]
      refine wpAnyH_ready (rs := [13]) (by kernel_rfl) (by simp) ?_
      refine AllReadyH.cons rfl (fun K hK => ?_) AllReadyH.nil
      refine step_store_blk (by rfl) (by rfl) (by rfl) (by rfl) hz (by rfl) (SlotV.one _) slotInfo ?_
      have h6 := h4.over hz s.cells (by have h1 := td.qlt; have h2 := td.tn.size; have h3 : W.drew.heap.size = W.heap.size := rfl; omega)
      refine hK.out _ _ ⟨h6.cells.1, h6.cells.2.1⟩ (fun hH => ?_)
      try simp only [put_laws]
      refine wpAnyH_take (i := 14) (v := _) rfl (by kernel_rfl) (by kernel_rfl) (by kernel_rfl) (fun _ _ _ h => h) (Or.inl ⟨by rfl, by intro w hSw; (try dsimp only at hSw); go_simp; try with_reducible rfl⟩) (by assumption) ?_
      try simp only [put_laws]
      refine wpAnyH_done (by kernel_rfl) ?_ _
      exact cutQ.normal ⟨W.heap.size, fun i => Array.getD _ i undef, fun _ => rfl, by kernel_rfl, rfl, ⟨hz.setRow_same _, h6⟩⟩
  rintro ⟨tm, df⟩ V ⟨B, z, hq, hF, hD, HK⟩
  dsimp only at hq hF hD
  clear hq
  subst hF hD
  have H4 := Lib.hid HK.2
  clear HK td
  simp only [errno]
  go_wp2
  go_ret3
  exact ⟨rfl, H4.out⟩
set_option maxHeartbeats 4000000 in
theorem gfirst_in (hl : inR l = true) (w W : World) (h : Ga w q g S l W) : Calls Try.prog 53 #[.pointer (some ⟨q, 0, none⟩)] W (fun e W' => e = .returned (.tuple #[.int .i64 (S.slotAt l).next, .int .i64 (S.slotAt (S.slotAt l).next).kids, errAt (S.slotAt l).next]) ∧ Ga w q g S l W') := by
  have HGA := Lib.hid (fun W (a : Ga w q g S l W) => get_gen l g W a.ar)
  rw [show errAt l = .nilIface from if_pos hl] at HGA
  have HGB := Lib.hid (fun W (a : Ga w q g S l W) => get_gen (S.slotAt l).next g W a.ar)
  generalize errAt (S.slotAt l).next = ev at *
  generalize S.slotAt (S.slotAt l).next = t at *
  generalize S.slotAt l = s at *
  obtain ⟨c0, c1, _⟩ := h.cells
  have d0 := cell_regrown c0
  have d1 := cell_regrown c1
  have HH := Lib.hid h
  clear h hl
  go_enter Try.func53, Try.ntmps53
  have GA := Lib.hid (fun W' (a : Ga w q g S l W') => (HGA.out W' a).mono fun e w2 ⟨h1, h2⟩ => show e = Ending.returned (.tuple #[.agg s.cells, .nilIface]) ∧ Ga w q g S l w2 ∧ Below W'.heap.size W' w2 from ⟨h1, a.read h2, h2⟩)
  clear c0 c1 d0 d1
  go_upto_region 1 with fail
  have td := HH.out.read (Below.refl W.heap.size W).drew
  refine wp_region_cut (fun a' w' => ∃ (B : Nat) (z : Nat → Value), (∀ i, z i = a'.tmps.getD i undef) ∧ a'.tmps = #[.pointer (some ⟨q, 0, none⟩), undef, .int .i64 0, .int .i64 0, .nilIface, .pointer (some ⟨B, 0, none⟩), .nilIface, undef, z 8, z 9, z 10, z 11, z 12, z 13, z 14, z 15, z 16, z 17, z 18, z 19, undef, undef, undef, undef, undef, undef, undef, undef, undef, undef, undef, undef, undef, undef, undef, undef, undef, undef] ∧ a'.defers = [] ∧ (Blk w' B 57 s.cells ∧ Ga w q g S l w')) ?_ ?_
  · refine wp_region_held_drew (S := fun W' => W'.cell? ⟨q, 0, none⟩ = some (.pointer (some ⟨g, 0, none⟩)) ∧ W'.cell? ⟨q, 1, none⟩ = some (.int .i64 l)) (by kernel_rfl) ⟨td.cells.1, td.cells.2.1⟩ (fun hHeld => ?_)
    refine wpAnyH_take (i := 0) (v := _) rfl (by kernel_rfl) (by kernel_rfl) (by kernel_rfl) (fun _ _ _ h => h) (Or.inl ⟨by rfl, by intro w hSw; (try dsimp only at hSw); go_simp; try with_reducible rfl⟩) (by assumption) ?_
    try simp only [put_laws]
    refine wpAnyH_take (i := 1) (v := _) rfl (by kernel_rfl) (by kernel_rfl) (by kernel_rfl) (fun _ _ _ h => h) (Or.inl ⟨by rfl, by intro w hSw; (try dsimp only at hSw); go_simp; try with_reducible rfl⟩) (by assumption) ?_
    try simp only [put_laws]
    refine wpAnyH_take (i := 2) (v := _) rfl (by kernel_rfl) (by kernel_rfl) (by kernel_rfl) (fun _ _ _ h => h) (Or.inl ⟨by rfl, by intro w hSw; (try dsimp only at hSw); go_simp; try with_reducible rfl⟩) (by assumption) ?_
    try simp only [put_laws]
    refine wpAnyH_take (i := 3) (v := _) rfl (by kernel_rfl) (by kernel_rfl) (by kernel_rfl) (fun _ _ _ h => h) (Or.inl ⟨by rfl, by intro w hSw; (try dsimp only at hSw); go_simp; try with_reducible rfl⟩) (by assumption) ?_
    try simp only [put_laws]
    refine wpAnyH_take (i := 4) (v := _) rfl (by kernel_rfl) (by kernel_rfl) (by kernel_rfl) (fun _ _ _ h => h) (Or.inl ⟨by rfl, by intro w hSw; (try dsimp only at hSw); go_simp; try with_reducible rfl⟩) (by assumption) ?_
    try simp only [put_laws]
    refine wpAnyH_take (i := 5) (v := _) rfl (by kernel_rfl) (by kernel_rfl) (by kernel_rfl) (fun _ _ _ h => h) (Or.inl ⟨by rfl, by intro w hSw; (try dsimp only at hSw); go_simp; try with_reducible rfl⟩) (by assumption) ?_
    try simp only [put_laws]
    refine wpAnyH_take (i := 6) (v := _) rfl (by kernel_rfl) (by kernel_rfl) (by kernel_rfl) (fun _ _ _ h => h) (Or.inl ⟨by rfl, by intro w hSw; (try dsimp only at hSw); go_simp; try with_reducible rfl⟩) (by assumption) ?_
    try simp only [put_laws]
    refine wpAnyH_take (i := 7) (v := _) rfl (by kernel_rfl) (by kernel_rfl) (by kernel_rfl) (fun _ _ _ h => h) (Or.inl ⟨by rfl, by intro w hSw; (try dsimp only at hSw); go_simp; try with_reducible rfl⟩) (by assumption) ?_
    try simp only [put_laws]
    refine wpAnyH_ready (rs := [8, 12]) (by kernel_rfl) (by simp) ?_
    refine AllReadyH.cons rfl (fun K hK => ?_) ?_
    · go_simp
      go_at_call 23
      refine (GA.out _ td).mono ?_
      rintro e w4 ⟨rfl, h4, hb4⟩
      refine hK.out _ _ ⟨h4.cells.1, h4.cells.2.1⟩ (fun hH => ?_)
      refine wpAnyH_take (i := 9) (v := _) rfl (by kernel_rfl) (by kernel_rfl) (by kernel_rfl) (fun _ _ _ h => h) (Or.inl ⟨by rfl, by intro w hSw; (try dsimp only at hSw); go_simp; try with_reducible rfl⟩) (by assumption) ?_
      try simp only [put_laws]
      refine wpAnyH_take (i := 10) (v := _) rfl (by kernel_rfl) (by kernel_rfl) (by kernel_rfl) (fun _ _ _ h => h) (Or.inl ⟨by rfl, by intro w hSw; (try dsimp only at hSw); go_simp; try with_reducible rfl⟩) (by assumption) ?_
      try simp only [put_laws]
      refine wpAnyH_take (i := 11) (v := _) rfl (by kernel_rfl) (by kernel_rfl) (by kernel_rfl) (fun _ _ _ h => h) (Or.inl ⟨by rfl, by intro w hSw; (try dsimp only at hSw); go_simp; try with_reducible rfl⟩) (by assumption) ?_
      try simp only [put_laws]
      refine wpAnyH_ready (rs := [12]) (by kernel_rfl) (by simp) ?_
      refine AllReadyH.cons rfl (fun K hK => ?_) AllReadyH.nil
      go_simp
      have h5 := h4.read ((Below.refl _ w4).alloc (Nat.le_refl _) (.cells zeroL 57))
      refine hK.out _ _ ⟨h5.cells.1, h5.cells.2.1⟩ (fun hH => ?_)
      refine wpAnyH_ready (rs := [13]) (by kernel_rfl) (by simp) ?_
      refine AllReadyH.cons rfl (fun K hK => ?_) AllReadyH.nil
      refine step_store_new (by rfl) (by rfl) (by rfl) (by rfl) (by rfl) (SlotV.one _) slotInfo ?_
      have h6 := h4.read ((Below.refl _ w4).alloc (Nat.le_refl _) (.cells s.cells 57))
      refine hK.out _ _ ⟨h6.cells.1, h6.cells.2.1⟩ (fun hH => ?_)
      try simp only [put_laws]
      refine wpAnyH_take (i := 14) (v := _) rfl (by kernel_rfl) (by kernel_rfl) (by kernel_rfl) (fun _ _ _ h => h) (Or.inl ⟨by rfl, by intro w hSw; (try dsimp only at hSw); go_simp; try with_reducible rfl⟩) (by assumption) ?_
      try simp only [put_laws]
      refine wpAnyH_done (by kernel_rfl) ?_ _
      exact cutQ.normal ⟨w4.heap.size, fun i => Array.getD _ i undef, fun _ => rfl, by kernel_rfl, rfl, ⟨Blk.new _ _ _, h6⟩⟩
    · refine AllReadyH.cons rfl (fun K hK => ?_) AllReadyH.nil
      go_simp
      have t1 := td.read ((Below.refl _ W.drew).alloc (Nat.le_refl _) (.cells zeroL 57))
      refine hK.out _ _ ⟨t1.cells.1, t1.cells.2.1⟩ (fun hH => ?_)
      refine wpAnyH_ready (rs := [8]) (by kernel_rfl) (by simp) ?_
      refine AllReadyH.cons rfl (fun K hK => ?_) AllReadyH.nil
      go_simp
      go_at_call 23
      refine (GA.out _ t1).mono ?_
      rintro e w4 ⟨rfl, h4, hb4⟩
      have hz : Blk w4 W.heap.size 57 zeroL := (Blk.new W.drew 57 zeroL).below hb4 (by simp)
      refine hK.out _ _ ⟨h4.cells.1, h4.cells.2.1⟩ (fun hH => ?_)
      refine wpAnyH_take (i := 9) (v := _) rfl (by kernel_rfl) (by kernel_rfl) (by kernel_rfl) (fun _ _ _ h => h) (Or.inl ⟨by rfl, by intro w hSw; (try dsimp only at hSw); go_simp; try with_reducible rfl⟩) (by assumption) ?_
      try simp only [put_laws]
      refine wpAnyH_take (i := 10) (v := _) rfl (by kernel_rfl) (by kernel_rfl) (by kernel_rfl) (fun _ _ _ h => h) (Or.inl ⟨by rfl, by intro w hSw; (try dsimp only at hSw); go_simp; try with_reducible rfl⟩) (by assumption) ?_
      try simp only [put_laws]
      refine wpAnyH_take (i := 11) (v := _) rfl (by kernel_rfl) (by kernel_rfl) (by kernel_rfl) (fun _ _ _ h => h) (Or.inl ⟨by rfl, by intro w hSw; (try dsimp only at hSw); go_simp; try with_reducible rfl⟩) (by assumption) ?_
      try simp only [put_laws]
      refine wpAnyH_ready (rs := [13]) (by kernel_rfl) (by simp) ?_
      refine AllReadyH.cons rfl (fun K hK => ?_) AllReadyH.nil
      refine step_store_blk (by rfl) (by rfl) (by rfl) (by rfl) hz (by rfl) (SlotV.one _) slotInfo ?_
      have h6 := h4.over hz s.cells (by have h1 := td.qlt; have h2 := td.tn.size; have h3 : W.drew.heap.size = W.heap.size := rfl; omega)
      refine hK.out _ _ ⟨h6.cells.1, h6.cells.2.1⟩ (fun hH => ?_)
      try simp only [put_laws]
      refine wpAnyH_take (i := 14) (v := _) rfl (by kernel_rfl) (by kernel_rfl) (by kernel_rfl) (fun _ _ _ h => h) (Or.inl ⟨by rfl, by intro w hSw; (try dsimp only at hSw); go_simp; try with_reducible rfl⟩) (by assumption) ?_
      try simp only [put_laws]
      refine wpAnyH_done (by kernel_rfl) ?_ _
      exact cutQ.normal ⟨W.heap.size, fun i => Array.getD _ i undef, fun _ => rfl, by kernel_rfl, rfl, ⟨hz.setRow_same _, h6⟩⟩
  rintro ⟨tm, df⟩ V ⟨B1, z, hq, hF, hD, HK⟩
  dsimp only at hq hF hD
  clear hq
  subst hF hD
  have H4 := Lib.hid (GaB.mk HK.2 HK.1)
  clear HK td
  have GB := Lib.hid (fun W' (a : GaB w q g S l B1 s W') => (HGB.out W' a.ga).mono fun e w2 ⟨h1, h2⟩ => show e = Ending.returned (.tuple #[.agg t.cells, ev]) ∧ GaB w q g S l B1 s w2 ∧ Below W'.heap.size W' w2 from ⟨h1, a.read h2, h2⟩)
  clear GA
  go_upto_region 4 with fail
  have td := H4.out.read (Below.refl V.heap.size V).drew
  refine wp_region_cut (fun a' w' => ∃ (B : Nat) (z : Nat → Value), (∀ i, z i = a'.tmps.getD i undef) ∧ a'.tmps = #[.pointer (some ⟨q, 0, none⟩), undef, .int .i64 0, .int .i64 0, .nilIface, .pointer (some ⟨B1, 0, none⟩), ev, .pointer (some ⟨B, 0, none⟩), z 8, z 9, z 10, z 11, z 12, z 13, z 14, z 15, z 16, z 17, z 18, z 19, z 20, z 21, z 22, z 23, z 24, z 25, z 26, z 27, z 28, z 29, z 30, z 31, z 32, undef, undef, undef, undef, undef] ∧ a'.defers = [] ∧ (Blk w' B 57 t.cells ∧ GaB w q g S l B1 s w')) ?_ ?_
  · refine wp_region_held_drew (S := fun W' => W'.cell? ⟨q, 0, none⟩ = some (.pointer (some ⟨g, 0, none⟩)) ∧ W'.cell? ⟨B1, 4, none⟩ = some (.int .i64 s.next)) (by kernel_rfl) td.cells (fun hHeld => ?_)
    refine wpAnyH_take (i := 0) (v := _) rfl (by kernel_rfl) (by kernel_rfl) (by kernel_rfl) (fun _ _ _ h => h) (Or.inl ⟨by rfl, by intro w hSw; (try dsimp only at hSw); go_simp; try with_reducible rfl⟩) (by assumption) ?_
    try simp only [put_laws]
    refine wpAnyH_take (i := 1) (v := _) rfl (by kernel_rfl) (by kernel_rfl) (by kernel_rfl) (fun _ _ _ h => h) (Or.inl ⟨by rfl, by intro w hSw; (try dsimp only at hSw); go_simp; try with_reducible rfl⟩) (by assumption) ?_
    try simp only [put_laws]
    refine wpAnyH_take (i := 2) (v := _) rfl (by kernel_rfl) (by kernel_rfl) (by kernel_rfl) (fun _ _ _ h => h) (Or.inl ⟨by rfl, by intro w hSw; (try dsimp only at hSw); go_simp; try with_reducible rfl⟩) (by assumption) ?_
    try simp only [put_laws]
    refine wpAnyH_take (i := 3) (v := _) rfl (by kernel_rfl) (by kernel_rfl) (by kernel_rfl) (fun _ _ _ h => h) (Or.inl ⟨by rfl, by intro w hSw; (try dsimp only at hSw); go_simp; try with_reducible rfl⟩) (by assumption) ?_
    try simp only [put_laws]
    refine wpAnyH_take (i := 4) (v := _) rfl (by kernel_rfl) (by kernel_rfl) (by kernel_rfl) (fun _ _ _ h => h) (Or.inl ⟨by rfl, by intro w hSw; (try dsimp only at hSw); go_simp; try with_reducible rfl⟩) (by assumption) ?_
    try simp only [put_laws]
    refine wpAnyH_take (i := 5) (v := _) rfl (by kernel_rfl) (by kernel_rfl) (by kernel_rfl) (fun _ _ _ h => h) (Or.inl ⟨by rfl, by intro w hSw; (try dsimp only at hSw); go_simp; try with_reducible rfl⟩) (by assumption) ?_
    try simp only [put_laws]
    refine wpAnyH_ready (rs := [6, 10]) (by kernel_rfl) (by simp) ?_
    refine AllReadyH.cons rfl (fun K hK => ?_) ?_
    · go_simp
      go_at_call 23
      refine (GB.out _ td).mono ?_
      rintro e w4 ⟨rfl, h4, hb4⟩
      refine hK.out _ _ h4.cells (fun hH => ?_)
      refine wpAnyH_take (i := 7) (v := _) rfl (by kernel_rfl) (by kernel_rfl) (by kernel_rfl) (fun _ _ _ h => h) (Or.inl ⟨by rfl, by intro w hSw; (try dsimp only at hSw); go_simp; try with_reducible rfl⟩) (by assumption) ?_
      try simp only [put_laws]
      refine wpAnyH_take (i := 8) (v := _) rfl (by kernel_rfl) (by kernel_rfl) (by kernel_rfl) (fun _ _ _ h => h) (Or.inl ⟨by rfl, by intro w hSw; (try dsimp only at hSw); go_simp; try with_reducible rfl⟩) (by assumption) ?_
      try simp only [put_laws]
      refine wpAnyH_take (i := 9) (v := _) rfl (by kernel_rfl) (by kernel_rfl) (by kernel_rfl) (fun _ _ _ h => h) (Or.inl ⟨by rfl, by intro w hSw; (try dsimp only at hSw); go_simp; try with_reducible rfl⟩) (by assumption) ?_
      try simp only [put_laws]
      refine wpAnyH_ready (rs := [10]) (by kernel_rfl) (by simp) ?_
      refine AllReadyH.cons rfl (fun K hK => ?_) AllReadyH.nil
      go_simp
      have h5 := h4.read ((Below.refl _ w4).alloc (Nat.le_refl _) (.cells zeroL 57))
      refine hK.out _ _ h5.cells (fun hH => ?_)
      refine wpAnyH_ready (rs := [11]) (by kernel_rfl) (by simp) ?_
      refine AllReadyH.cons rfl (fun K hK => ?_) AllReadyH.nil
      refine step_store_new (by rfl) (by rfl) (by rfl) (by rfl) (by rfl) (SlotV.one _) slotInfo ?_
      have h6 := h4.read ((Below.refl _ w4).alloc (Nat.le_refl _) (.cells t.cells 57))
      refine hK.out _ _ h6.cells (fun hH => ?_)
      try simp only [put_laws]
      refine wpAnyH_take (i := 12) (v := _) rfl (by kernel_rfl) (by kernel_rfl) (by kernel_rfl) (fun _ _ _ h => h) (Or.inl ⟨by rfl, by intro w hSw; (try dsimp only at hSw); go_simp; try with_reducible rfl⟩) (by assumption) ?_
      try simp only [put_laws]
      refine wpAnyH_done (by kernel_rfl) ?_ _
      exact cutQ.normal ⟨w4.heap.size, fun i => Array.getD _ i undef, fun _ => rfl, by kernel_rfl, rfl, ⟨Blk.new _ _ _, h6⟩⟩
    · refine AllReadyH.cons rfl (fun K hK => ?_) AllReadyH.nil
      go_simp
      have t1 := td.read ((Below.refl _ V.drew).alloc (Nat.le_refl _) (.cells zeroL 57))
      refine hK.out _ _ t1.cells (fun hH => ?_)
      refine wpAnyH_ready (rs := [6]) (by kernel_rfl) (by simp) ?_
      refine AllReadyH.cons rfl (fun K hK => ?_) AllReadyH.nil
      go_simp
      go_at_call 23
      refine (GB.out _ t1).mono ?_
      rintro e w4 ⟨rfl, h4, hb4⟩
      have hz : Blk w4 V.heap.size 57 zeroL := (Blk.new V.drew 57 zeroL).below hb4 (by simp)
      refine hK.out _ _ h4.cells (fun hH => ?_)
      refine wpAnyH_take (i := 7) (v := _) rfl (by kernel_rfl) (by kernel_rfl) (by kernel_rfl) (fun _ _ _ h => h) (Or.inl ⟨by rfl, by intro w hSw; (try dsimp only at hSw); go_simp; try with_reducible rfl⟩) (by assumption) ?_
      try simp only [put_laws]
      refine wpAnyH_take (i := 8) (v := _) rfl (by kernel_rfl) (by kernel_rfl) (by kernel_rfl) (fun _ _ _ h => h) (Or.inl ⟨by rfl, by intro w hSw; (try dsimp only at hSw); go_simp; try with_reducible rfl⟩) (by assumption) ?_
      try simp only [put_laws]
      refine wpAnyH_take (i := 9) (v := _) rfl (by kernel_rfl) (by kernel_rfl) (by kernel_rfl) (fun _ _ _ h => h) (Or.inl ⟨by rfl, by intro w hSw; (try dsimp only at hSw); go_simp; try with_reducible rfl⟩) (by assumption) ?_
      try simp only [put_laws]
      refine wpAnyH_ready (rs := [11]) (by kernel_rfl) (by simp) ?_
      refine AllReadyH.cons rfl (fun K hK => ?_) AllReadyH.nil
      refine step_store_blk (by rfl) (by rfl) (by rfl) (by rfl) hz (by rfl) (SlotV.one _) slotInfo ?_
      have h6 := h4.over hz t.cells (by have h1 := td.qlt; have h2 := td.tn.size; have h3 : V.drew.heap.size = V.heap.size := rfl; omega)
      refine hK.out _ _ h6.cells (fun hH => ?_)
      try simp only [put_laws]
      refine wpAnyH_take (i := 12) (v := _) rfl (by kernel_rfl) (by kernel_rfl) (by kernel_rfl) (fun _ _ _ h => h) (Or.inl ⟨by rfl, by intro w hSw; (try dsimp only at hSw); go_simp; try with_reducible rfl⟩) (by assumption) ?_
      try simp only [put_laws]
      refine wpAnyH_done (by kernel_rfl) ?_ _
      exact cutQ.normal ⟨V.heap.size, fun i => Array.getD _ i undef, fun _ => rfl, by kernel_rfl, rfl, ⟨hz.setRow_same _, h6⟩⟩
  rintro ⟨tm, df⟩ V2 ⟨B2, z, hq, hF, hD, HK⟩
  dsimp only at hq hF hD
  clear hq
  subst hF hD
  have H6 := Lib.hid HK.2
  have y4 : V2.cell? ⟨B1, 4, none⟩ = some (.int .i64 s.next) := HK.2.cells.2
  have y2 : V2.cell? ⟨B2, 2, none⟩ = some (.int .i64 t.kids) := (HK.1.cell 2).trans rfl
  clear HK td GB HGB
  go_upto_region 5 with fail
  refine wp_region_noPanic ?_
  go_region_held3 (fun W' => W'.cell? ⟨B1, 4, none⟩ = some (.int .i64 s.next) ∧ W'.cell? ⟨B2, 2, none⟩ = some (.int .i64 t.kids))
    (first | assumption | exact And.intro y4 y2)
    (fail)
  refine NoPanic.normal ?_
  have H7 := Lib.hid (H6.out.ga.read (Below.refl V2.heap.size V2).drew)
  go_wp2
  go_ret3
  exact ⟨rfl, H7.out⟩
end
end Go.Proofs.Ytbidgpeeogoglaa
