/-
  lineagelaw17: works, TreeKnown (closed).
-/
import Derived.Test.YtbidgpeeogoglaaDoorTrUsed
import Derived.Test.YtbidgpeeogoglaaDoorGg
namespace Go.Proofs.YtbidgpeeogoglaaDoor
set_option maxRecDepth 100000
open Go.RowKit Go.Sort

section
variable {c : Nat} {w w0 W W' : World} {q g : Nat} {R : St} {l : Int}
theorem TS.add0 (t : TS c w q g R l W) {i us ub l' at_ : Int} {R' : St} (hr : R.tadd l i us ub = ((0, at_), R', l')) (hc : c < 1000) :
    Calls Tryd.prog 22 #[.pointer (some ⟨q, 0, none⟩), .int .i64 i, .agg #[.int .i64 us, .int .i64 ub]] W (fun e W' => e = .returned .nilIface ∧ TS (c + 5) w q g R' l' W') :=
  (t.add hr hc).mono fun e W' ⟨h1, h2⟩ => ⟨by rw [h1, errP_ok], h2⟩
theorem TS.cut0 (t : TS c w q g R l W) {i l' at_ : Int} {R' : St} (hr : R.tcut l i = ((0, at_), R', l')) (hc : c < 1000) :
    Calls Tryd.prog 26 #[.pointer (some ⟨q, 0, none⟩), .int .i64 i] W (fun e W' => e = .returned .nilIface ∧ TS (c + 5) w q g R' l' W') :=
  (t.cut hr hc).mono fun e W' ⟨h1, h2⟩ => ⟨by rw [h1, errP_ok], h2⟩
theorem TS.here (t : TS c w q g R l W) : TS c W q g R l W := by
  obtain ⟨S, h1, h2⟩ := t
  exact ⟨S, h1.here, h2⟩
theorem TS.blk (t : TS c w q g R l W) {B : Nat} {ty : TypeId} {cs : Array Value} (hB : Blk w B ty cs) (hne : B ≠ q ∧ B ≠ g) : Blk W B ty cs := by
  obtain ⟨S, h1, _⟩ := t
  exact ⟨(h1.tn.block B hB.lt (by omega)).trans hB.eq⟩
theorem TS.lts (t : TS c w q g R l W) : q < W.heap.size ∧ g < W.heap.size := by
  obtain ⟨S, h1, _⟩ := t
  exact h1.qlt
end
theorem nil_eql (w : World) : (binOp .eql 55 .nilIface .nilIface).run Tryd.prog w = .ok (.bool true) w := by kernel_rfl
def kW0 : St := usedS 2
def kW1 : St := (kW0.tadd (-1) 0 0 0).2.1
def kW2 : St := (kW1.tadd 0 1 0 1).2.1
def kK0 : St := usedS 5
def kK1 : St := (kK0.tadd (-1) 0 77 0).2.1
def kK2 : St := (kK1.tadd 0 1 0 1).2.1
def kK3 : St := (kK2.tadd 0 2 0 1).2.1
def kK4 : St := (kK3.tadd 0 3 1 2).2.1
def kK5 : St := (kK4.tcut 0 1).2.1
def kK6 : St := (kK5.tcut 0 0).2.1
theorem kWl : kW0.slots.length = 32 := by kernel_rfl
theorem kWa : kW0.tadd (-1) 0 0 0 = ((0, -1), kW1, 0) := by kernel_rfl
theorem kWb : kW1.tadd 0 1 0 1 = ((0, -1), kW2, 0) := by kernel_rfl
theorem kWc : kW2.underOf 0 = [0, 1] := by kernel_rfl
theorem kKl : kK0.slots.length = 32 := by kernel_rfl
theorem kA0 : kK0.tadd (-1) 0 77 0 = ((0, -1), kK1, 0) := by kernel_rfl
theorem kA1 : kK1.tadd 0 1 0 1 = ((0, -1), kK2, 0) := by kernel_rfl
theorem kA2 : kK2.tadd 0 2 0 1 = ((0, -1), kK3, 0) := by kernel_rfl
theorem kA3 : kK3.tadd 0 3 1 2 = ((0, -1), kK4, 0) := by kernel_rfl
theorem kL0 : kK4.kidsOf 0 = [1, 2] := by kernel_rfl
theorem kL1 : kK4.underOf 0 = [0, 1, 3, 2] := by kernel_rfl
theorem kL2 : kK4.underOf 32 = [] := by kernel_rfl
theorem kL3 : kK4.kidsOf (-1) = [] := by kernel_rfl
theorem kE0 : kK4.tadd 0 9 0 0 = ((10, -1), kK4, 0) := by kernel_rfl
theorem kE1 : kK4.tadd 0 32 0 0 = ((1, -1), kK4, 0) := by kernel_rfl
theorem kE2 : kK4.tadd 0 4 0 7 = ((10, -1), kK4, 0) := by kernel_rfl
theorem kE3 : kK4.tadd 0 4 4 5 = ((9, -1), kK4, 0) := by kernel_rfl
theorem kE4 : kK4.tadd 0 2 0 1 = ((9, -1), kK4, 0) := by kernel_rfl
theorem kE5 : kK4.tadd 0 4 32 1 = ((1, -1), kK4, 0) := by kernel_rfl
theorem kE6 : kK4.tcut 0 9 = ((10, -1), kK4, 0) := by kernel_rfl
theorem kC0 : kK4.tcut 0 1 = ((0, -1), kK5, 0) := by kernel_rfl
theorem kL4 : kK5.kidsOf 0 = [2] := by kernel_rfl
theorem kL5 : kK5.underOf 0 = [0, 2] := by kernel_rfl
theorem kL6 : kK5.underOf 1 = [1, 3] := by kernel_rfl
theorem kE7 : kK5.tcut 0 1 = ((24, 1), kK5, 0) := by kernel_rfl
theorem kC1 : kK5.tcut 0 0 = ((0, -1), kK6, -1) := by kernel_rfl
theorem kL7 : kK6.all (-1) = [] := by kernel_rfl
set_option maxHeartbeats 8000000 in
theorem works17_any (w : World) : Calls Tryd.prog 21 #[] w (RetB (.bool true) w) := by
  have hn1 := nil_neq
  have hn2 := nil_eql
  go_enter Tryd.func21, Tryd.ntmps21
  go_wp2_with (go_at_call 20; fail)
  refine (tusedN_any 2 (by decide) w).mono ?_
  rintro e v0 ⟨g, q, rfl, hT, hg, hq, hb⟩
  have T0 := Lib.hid (show TS 2 v0 q g kW0 (-1) v0 from ⟨kW0, hT, ⟨rfl, rfl, kWl⟩, by rw [show kW0.writes = 2 from usedS_writes 2]; decide, by rw [show kW0.writes = 2 from usedS_writes 2]; decide⟩)
  have HB0 := Lib.hid hb
  have HQG := Lib.hid (And.intro hq hg)
  clear hT hb hg hq
  go_wp2_with (go_at_call 23; fail)
  refine T0.out.last.mono ?_
  rintro e w' ⟨rfl, rfl⟩
  go_wp2_with (go_at_call 22; fail)
  refine (T0.out.add0 kWa (by omega)).mono ?_
  rintro e u1 ⟨rfl, t1⟩
  have TT1 := Lib.hid t1
  clear t1
  go_wp2_with (go_at_call 22; fail)
  refine (TT1.out.add0 kWb (by omega)).mono ?_
  rintro e u2 ⟨rfl, t2⟩
  have TT2 := Lib.hid t2
  clear t2
  go_wp2_with (go_at_call 23; fail)
  refine TT2.out.last.mono ?_
  rintro e w' ⟨rfl, rfl⟩
  go_wp2_with (go_at_call 25; fail)
  refine (TT2.out.list2 (0) kWc rfl).mono ?_
  rintro e u3 ⟨A3, k3, rfl, hi3, hb3⟩
  have TT3 := Lib.hid (TT2.out.read hb3)
  have HI3 := Lib.hid hi3
  clear hb3 hi3
  have HQ4 := Lib.hid (sameI_eq A3 (some ⟨u3.heap.size, 0, none⟩) k3 2 2 (natInts [0, 1]) rfl (by decide) (u3.alloc (.cells #[.int .i64 0, .int .i64 1] 3)) (HI3.out.below ((Below.refl u3.heap.size u3).alloc (Nat.le_refl _) _) (Nat.le_refl _)) (show IntsAt (u3.alloc (.cells #[.int .i64 0, .int .i64 1] 3)) _ _ from ints_new u3 [0, 1]))
  go_wp2_with (go_at_call 24; fail)
  refine HQ4.out.mono ?_
  rintro e u4 ⟨rfl, hb4⟩
  have TT4 := Lib.hid ((TT3.out.read ((Below.refl u3.heap.size u3).alloc (Nat.le_refl _) (.cells #[.int .i64 0, .int .i64 1] 3))).read hb4)
  clear hb4 HQ4 HI3
  go_wp2
  go_ret
  exact ⟨rfl, TT4.out.below HB0.out HQG.out (Nat.le_refl _)⟩
theorem topc {W : World} {B : Nat} (h : Blk W B 33 #[.int .i64 0, .int .i64 1]) : W.cell? ⟨B, 0, none⟩ = some (.int .i64 0) ∧ W.cell? ⟨B, 1, none⟩ = some (.int .i64 1) := ⟨(h.cell 0).trans rfl, (h.cell 1).trans rfl⟩
set_option maxHeartbeats 16000000 in
theorem treeKnown_any (w : World) (hL : Laid w) : Calls Tryd.prog 4 #[] w (RetB (.bool true) w) := by
  have hge := hL.pos
  have HL := Lib.hid hL
  have hn1 := nil_neq
  have hn2 := nil_eql
  clear hL
  go_enter Tryd.func4, Tryd.ntmps4
  go_wp2_with (go_at_call 20; fail)
  refine (tusedN_any 5 (by decide) w).mono ?_
  rintro e v0 ⟨g, q, rfl, hT, hg, hq, hb⟩
  have hsz0 := hb.size
  obtain ⟨B, hBB⟩ : ∃ B, v0.heap.size = B := ⟨_, rfl⟩
  obtain ⟨v1, hv1⟩ : ∃ v1, v0.alloc (.cells #[.int .i64 0, .int .i64 1] 33) = v1 := ⟨_, rfl⟩
  have hb1 : Below v0.heap.size v0 v1 := by rw [← hv1]; exact (Below.refl _ _).alloc (Nat.le_refl _) _
  have hs1 := hb1.size
  have TX : TS 5 v0 q g kK0 (-1) v0 := ⟨kK0, hT, ⟨rfl, rfl, kKl⟩, by rw [show kK0.writes = 5 from usedS_writes 5]; decide, by rw [show kK0.writes = 5 from usedS_writes 5]; decide⟩
  have hlt := TX.lts
  have T0 := Lib.hid (TX.read hb1).here
  have BT := Lib.hid (show Blk v1 B 33 #[.int .i64 0, .int .i64 1] by rw [← hv1, ← hBB]; exact Blk.new _ _ _)
  have HNE := Lib.hid (show B ≠ q ∧ B ≠ g by omega)
  have HB0 := Lib.hid (hb.trans (hb1.mono hsz0))
  have HQG := Lib.hid (And.intro hq hg)
  have HQN := Lib.hid (show w.heap.size ≤ w.heap.size from Nat.le_refl _)
  have HV1 := Lib.hid hv1
  have HBB := Lib.hid hBB
  clear TX hT hb hg hq hb1 hv1 hlt hs1 hBB
  go_upto_region 3 with (first
    | ((with_reducible show wpList _ _ _ (Oper.mk none _ _ _ _ _ :: _) _ (World.alloc _ _)); refine wpList_store_new (ty := 33) rfl rfl rfl rfl rfl (link_one 0 1) linkInfo ?_))
  rw [HV1.out, HBB.out]
  go_wp2_with (go_at_call 21; fail)
  refine (works17_any v1).mono ?_
  rintro e v2 ⟨rfl, hbw⟩
  have T1 := Lib.hid (T0.out.read hbw)
  clear hbw
  go_wp2_with (go_at_call 22; fail)
  refine (T1.out.add0 kA0 (by omega)).mono ?_
  rintro e u1 ⟨rfl, t1⟩
  have TT1 := Lib.hid t1
  clear t1
  obtain ⟨e0, e1⟩ := topc (TT1.out.blk BT.out HNE.out)
  go_wp2_with (go_at_call 22; fail)
  refine (TT1.out.add0 kA1 (by omega)).mono ?_
  rintro e u2 ⟨rfl, t2⟩
  have TT2 := Lib.hid t2
  clear t2 e0 e1
  obtain ⟨e0, e1⟩ := topc (TT2.out.blk BT.out HNE.out)
  go_wp2_with (go_at_call 22; fail)
  refine (TT2.out.add0 kA2 (by omega)).mono ?_
  rintro e u3 ⟨rfl, t3⟩
  have TT3 := Lib.hid t3
  clear t3 e0 e1
  go_wp2_with (go_at_call 22; fail)
  refine (TT3.out.add0 kA3 (by omega)).mono ?_
  rintro e u4 ⟨rfl, t4⟩
  have TT4 := Lib.hid t4
  clear t4
  go_wp2_with (go_at_call 23; fail)
  refine TT4.out.last.mono ?_
  rintro e w' ⟨rfl, rfl⟩
  go_wp2_with (go_at_call 25; fail)
  refine (TT4.out.list1 (0) kL0 rfl).mono ?_
  rintro e u5 ⟨A5, k5, rfl, hi5, hb5⟩
  have TT5 := Lib.hid (TT4.out.read hb5)
  have HI5 := Lib.hid hi5
  clear hb5 hi5
  have HQ6 := Lib.hid (sameI_eq A5 (some ⟨u5.heap.size, 0, none⟩) k5 2 2 (natInts [1, 2]) rfl (by decide) (u5.alloc (.cells #[.int .i64 1, .int .i64 2] 3)) (HI5.out.below ((Below.refl u5.heap.size u5).alloc (Nat.le_refl _) _) (Nat.le_refl _)) (show IntsAt (u5.alloc (.cells #[.int .i64 1, .int .i64 2] 3)) _ _ from ints_new u5 [1, 2]))
  go_wp2_with (go_at_call 24; fail)
  refine HQ6.out.mono ?_
  rintro e u6 ⟨rfl, hb6⟩
  have TT6 := Lib.hid ((TT5.out.read ((Below.refl u5.heap.size u5).alloc (Nat.le_refl _) (.cells #[.int .i64 1, .int .i64 2] 3))).read hb6)
  clear hb6 HQ6 HI5
  go_wp2_with (go_at_call 25; fail)
  refine (TT6.out.list2 (0) kL1 rfl).mono ?_
  rintro e u7 ⟨A7, k7, rfl, hi7, hb7⟩
  have TT7 := Lib.hid (TT6.out.read hb7)
  have HI7 := Lib.hid hi7
  clear hb7 hi7
  have HQ8 := Lib.hid (sameI_eq A7 (some ⟨u7.heap.size, 0, none⟩) k7 4 4 (natInts [0, 1, 3, 2]) rfl (by decide) (u7.alloc (.cells #[.int .i64 0, .int .i64 1, .int .i64 3, .int .i64 2] 3)) (HI7.out.below ((Below.refl u7.heap.size u7).alloc (Nat.le_refl _) _) (Nat.le_refl _)) (show IntsAt (u7.alloc (.cells #[.int .i64 0, .int .i64 1, .int .i64 3, .int .i64 2] 3)) _ _ from ints_new u7 [0, 1, 3, 2]))
  go_wp2_with (go_at_call 24; fail)
  refine HQ8.out.mono ?_
  rintro e u8 ⟨rfl, hb8⟩
  have TT8 := Lib.hid ((TT7.out.read ((Below.refl u7.heap.size u7).alloc (Nat.le_refl _) (.cells #[.int .i64 0, .int .i64 1, .int .i64 3, .int .i64 2] 3))).read hb8)
  clear hb8 HQ8 HI7
  go_wp2_with (go_at_call 25; fail)
  refine (TT8.out.list2 (32) kL2 rfl).mono ?_
  rintro e u9 ⟨A9, k9, rfl, hi9, hb9⟩
  have TT9 := Lib.hid (TT8.out.read hb9)
  have HI9 := Lib.hid hi9
  clear hb9 hi9
  go_wp2_with (go_at_call 25; fail)
  refine (TT9.out.list1 (-1) kL3 rfl).mono ?_
  rintro e u10 ⟨A10, k10, rfl, hi10, hb10⟩
  have TT10 := Lib.hid (TT9.out.read hb10)
  have HI10 := Lib.hid hi10
  clear hb10 hi10
  go_wp2_with (go_at_call 22; fail)
  refine (TT10.out.add kE0 (by omega)).mono ?_
  rintro e u11 ⟨rfl, t11⟩
  have TT11 := Lib.hid t11
  clear t11
  go_wp2_with (go_at_call 22; fail)
  refine (TT11.out.add kE1 (by omega)).mono ?_
  rintro e u12 ⟨rfl, t12⟩
  have TT12 := Lib.hid t12
  clear t12
  go_wp2_with (go_at_call 22; fail)
  refine (TT12.out.add kE2 (by omega)).mono ?_
  rintro e u13 ⟨rfl, t13⟩
  have TT13 := Lib.hid t13
  clear t13
  go_wp2_with (go_at_call 22; fail)
  refine (TT13.out.add kE3 (by omega)).mono ?_
  rintro e u14 ⟨rfl, t14⟩
  have TT14 := Lib.hid t14
  clear t14
  obtain ⟨e0, e1⟩ := topc (TT14.out.blk BT.out HNE.out)
  go_wp2_with (go_at_call 22; fail)
  refine (TT14.out.add kE4 (by omega)).mono ?_
  rintro e u15 ⟨rfl, t15⟩
  have TT15 := Lib.hid t15
  clear t15 e0 e1
  go_wp2_with (go_at_call 22; fail)
  refine (TT15.out.add kE5 (by omega)).mono ?_
  rintro e u16 ⟨rfl, t16⟩
  have TT16 := Lib.hid t16
  clear t16
  go_wp2_with (go_at_call 26; fail)
  refine (TT16.out.cut kE6 (by omega)).mono ?_
  rintro e u17 ⟨rfl, t17⟩
  have TT17 := Lib.hid t17
  clear t17
  have HQ18 := Lib.hid (told17_any 10 (-1) (by decide) u17 (HL.out.below (TT17.out.below HB0.out HQG.out HQN.out) hge))
  go_wp2_with (go_at_call 27; fail)
  refine HQ18.out.mono ?_
  rintro e u18 ⟨rfl, hb18⟩
  have TT18 := Lib.hid (TT17.out.read hb18)
  clear hb18 HQ18
  have HQ19 := Lib.hid (told17_any 1 (-1) (by decide) u18 (HL.out.below (TT18.out.below HB0.out HQG.out HQN.out) hge))
  go_wp2_with (go_at_call 27; fail)
  refine HQ19.out.mono ?_
  rintro e u19 ⟨rfl, hb19⟩
  have TT19 := Lib.hid (TT18.out.read hb19)
  clear hb19 HQ19
  have HQ20 := Lib.hid (told17_any 10 (-1) (by decide) u19 (HL.out.below (TT19.out.below HB0.out HQG.out HQN.out) hge))
  go_wp2_with (go_at_call 27; fail)
  refine HQ20.out.mono ?_
  rintro e u20 ⟨rfl, hb20⟩
  have TT20 := Lib.hid (TT19.out.read hb20)
  clear hb20 HQ20
  have HQ21 := Lib.hid (told17_any 9 (-1) (by decide) u20 (HL.out.below (TT20.out.below HB0.out HQG.out HQN.out) hge))
  go_wp2_with (go_at_call 27; fail)
  refine HQ21.out.mono ?_
  rintro e u21 ⟨rfl, hb21⟩
  have TT21 := Lib.hid (TT20.out.read hb21)
  clear hb21 HQ21
  have HQ22 := Lib.hid (told17_any 9 (-1) (by decide) u21 (HL.out.below (TT21.out.below HB0.out HQG.out HQN.out) hge))
  go_wp2_with (go_at_call 27; fail)
  refine HQ22.out.mono ?_
  rintro e u22 ⟨rfl, hb22⟩
  have TT22 := Lib.hid (TT21.out.read hb22)
  clear hb22 HQ22
  have HQ23 := Lib.hid (told17_any 1 (-1) (by decide) u22 (HL.out.below (TT22.out.below HB0.out HQG.out HQN.out) hge))
  go_wp2_with (go_at_call 27; fail)
  refine HQ23.out.mono ?_
  rintro e u23 ⟨rfl, hb23⟩
  have TT23 := Lib.hid (TT22.out.read hb23)
  clear hb23 HQ23
  have HQ24 := Lib.hid (told17_any 10 (-1) (by decide) u23 (HL.out.below (TT23.out.below HB0.out HQG.out HQN.out) hge))
  go_wp2_with (go_at_call 27; fail)
  refine HQ24.out.mono ?_
  rintro e u24 ⟨rfl, hb24⟩
  have TT24 := Lib.hid (TT23.out.read hb24)
  clear hb24 HQ24
  go_wp2_with (go_at_call 26; fail)
  refine (TT24.out.cut0 kC0 (by omega)).mono ?_
  rintro e u25 ⟨rfl, t25⟩
  have TT25 := Lib.hid t25
  clear t25
  go_wp2_with (go_at_call 25; fail)
  refine (TT25.out.list1 (0) kL4 rfl).mono ?_
  rintro e u26 ⟨A26, k26, rfl, hi26, hb26⟩
  have TT26 := Lib.hid (TT25.out.read hb26)
  have HI26 := Lib.hid hi26
  clear hb26 hi26
  have HQ27 := Lib.hid (sameI_eq A26 (some ⟨u26.heap.size, 0, none⟩) k26 1 1 (natInts [2]) rfl (by decide) (u26.alloc (.cells #[.int .i64 2] 3)) (HI26.out.below ((Below.refl u26.heap.size u26).alloc (Nat.le_refl _) _) (Nat.le_refl _)) (show IntsAt (u26.alloc (.cells #[.int .i64 2] 3)) _ _ from ints_new u26 [2]))
  go_wp2_with (go_at_call 24; fail)
  refine HQ27.out.mono ?_
  rintro e u27 ⟨rfl, hb27⟩
  have TT27 := Lib.hid ((TT26.out.read ((Below.refl u26.heap.size u26).alloc (Nat.le_refl _) (.cells #[.int .i64 2] 3))).read hb27)
  clear hb27 HQ27 HI26
  go_wp2_with (go_at_call 25; fail)
  refine (TT27.out.list2 (0) kL5 rfl).mono ?_
  rintro e u28 ⟨A28, k28, rfl, hi28, hb28⟩
  have TT28 := Lib.hid (TT27.out.read hb28)
  have HI28 := Lib.hid hi28
  clear hb28 hi28
  have HQ29 := Lib.hid (sameI_eq A28 (some ⟨u28.heap.size, 0, none⟩) k28 2 2 (natInts [0, 2]) rfl (by decide) (u28.alloc (.cells #[.int .i64 0, .int .i64 2] 3)) (HI28.out.below ((Below.refl u28.heap.size u28).alloc (Nat.le_refl _) _) (Nat.le_refl _)) (show IntsAt (u28.alloc (.cells #[.int .i64 0, .int .i64 2] 3)) _ _ from ints_new u28 [0, 2]))
  go_wp2_with (go_at_call 24; fail)
  refine HQ29.out.mono ?_
  rintro e u29 ⟨rfl, hb29⟩
  have TT29 := Lib.hid ((TT28.out.read ((Below.refl u28.heap.size u28).alloc (Nat.le_refl _) (.cells #[.int .i64 0, .int .i64 2] 3))).read hb29)
  clear hb29 HQ29 HI28
  go_wp2_with (go_at_call 25; fail)
  refine (TT29.out.list2 (1) kL6 rfl).mono ?_
  rintro e u30 ⟨A30, k30, rfl, hi30, hb30⟩
  have TT30 := Lib.hid (TT29.out.read hb30)
  have HI30 := Lib.hid hi30
  clear hb30 hi30
  have HQ31 := Lib.hid (sameI_eq A30 (some ⟨u30.heap.size, 0, none⟩) k30 2 2 (natInts [1, 3]) rfl (by decide) (u30.alloc (.cells #[.int .i64 1, .int .i64 3] 3)) (HI30.out.below ((Below.refl u30.heap.size u30).alloc (Nat.le_refl _) _) (Nat.le_refl _)) (show IntsAt (u30.alloc (.cells #[.int .i64 1, .int .i64 3] 3)) _ _ from ints_new u30 [1, 3]))
  go_wp2_with (go_at_call 24; fail)
  refine HQ31.out.mono ?_
  rintro e u31 ⟨rfl, hb31⟩
  have TT31 := Lib.hid ((TT30.out.read ((Below.refl u30.heap.size u30).alloc (Nat.le_refl _) (.cells #[.int .i64 1, .int .i64 3] 3))).read hb31)
  clear hb31 HQ31 HI30
  go_wp2_with (go_at_call 26; fail)
  refine (TT31.out.cut kE7 (by omega)).mono ?_
  rintro e u32 ⟨rfl, t32⟩
  have TT32 := Lib.hid t32
  clear t32
  have HQ33 := Lib.hid (told17_any 24 (1) (by decide) u32 (HL.out.below (TT32.out.below HB0.out HQG.out HQN.out) hge))
  go_wp2_with (go_at_call 27; fail)
  refine HQ33.out.mono ?_
  rintro e u33 ⟨rfl, hb33⟩
  have TT33 := Lib.hid (TT32.out.read hb33)
  clear hb33 HQ33
  go_wp2_with (go_at_call 26; fail)
  refine (TT33.out.cut0 kC1 (by omega)).mono ?_
  rintro e u34 ⟨rfl, t34⟩
  have TT34 := Lib.hid t34
  clear t34
  go_wp2_with (go_at_call 23; fail)
  refine TT34.out.last.mono ?_
  rintro e w' ⟨rfl, rfl⟩
  go_wp2_with (go_at_call 25; fail)
  refine (TT34.out.list0 (0) kL7 rfl).mono ?_
  rintro e u35 ⟨A35, k35, rfl, hi35, hb35⟩
  have TT35 := Lib.hid (TT34.out.read hb35)
  have HI35 := Lib.hid hi35
  clear hb35 hi35
  go_wp2
  go_ret
  exact ⟨rfl, TT35.out.below HB0.out HQG.out HQN.out⟩
end Go.Proofs.YtbidgpeeogoglaaDoor
