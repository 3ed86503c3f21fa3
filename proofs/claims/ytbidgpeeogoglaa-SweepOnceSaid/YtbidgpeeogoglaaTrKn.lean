/-
  lineagelaw17: works, TreeKnown (closed).
-/
import Derived.Test.YtbidgpeeogoglaaTrUsed
import Derived.Test.YtbidgpeeogoglaaGg
namespace Go.Proofs.Ytbidgpeeogoglaa
set_option maxRecDepth 100000
open Go.RowKit Go.Sort

section
variable {c : Nat} {w w0 W W' : World} {q g : Nat} {R : St} {l : Int}
theorem TS.add0 (t : TS c w q g R l W) {i us ub l' at_ : Int} {R' : St} (hr : R.tadd l i us ub = ((0, at_), R', l')) (hc : c < 1000) :
    Calls Try.prog 8 #[.pointer (some ⟨q, 0, none⟩), .int .i64 i, .agg #[.int .i64 us, .int .i64 ub]] W (fun e W' => e = .returned .nilIface ∧ TS (c + 5) w q g R' l' W') :=
  (t.add hr hc).mono fun e W' ⟨h1, h2⟩ => ⟨by rw [h1, errP_ok], h2⟩
theorem TS.cut0 (t : TS c w q g R l W) {i l' at_ : Int} {R' : St} (hr : R.tcut l i = ((0, at_), R', l')) (hc : c < 1000) :
    Calls Try.prog 11 #[.pointer (some ⟨q, 0, none⟩), .int .i64 i] W (fun e W' => e = .returned .nilIface ∧ TS (c + 5) w q g R' l' W') :=
  (t.cut hr hc).mono fun e W' ⟨h1, h2⟩ => ⟨by rw [h1, errP_ok], h2⟩
theorem TS.here (t : TS c w q g R l W) : TS c W q g R l W := by
  obtain ⟨S, h1, h2⟩ := t
  exact ⟨S, h1.here, h2⟩
theorem TS.blk (t : TS c w q g R l W) {B : Nat} {ty : TypeId} {cs : Array Value} (hB : Blk w B ty cs) (hne : B ≠ q ∧ B ≠ g) : Blk W B ty cs := by
  obtain ⟨S, h1, _⟩ := t
  exact ⟨(h1.tn.block B hB.lt (by omega)).trans hB.eq⟩
theorem TS.lts (t : TS c w q g R l W) : q < W.heap.size ∧ g < W.heap.size := by
  obtain ⟨S, h1, _⟩ := t
  exact h1.qlt
end
theorem nil_eql (w : World) : (binOp .eql 32 .nilIface .nilIface).run Try.prog w = .ok (.bool true) w := by kernel_rfl
def kW0 : St := usedS 2
def kW1 : St := (kW0.tadd (-1) 0 0 0).2.1
def kW2 : St := (kW1.tadd 0 1 0 1).2.1
def kK0 : St := usedS 5
def kK1 : St := (kK0.tadd (-1) 0 77 0).2.1
def kK2 : St := (kK1.tadd 0 1 0 1).2.1
def kK3 : St := (kK2.tadd 0 2 0 1).2.1
def kK4 : St := (kK3.tadd 0 3 1 2).2.1
def kK5 : St := (kK4.tcut 0 1).2.1
def kK6 : St := (kK5.tcut 0 0).2.1
theorem kWl : kW0.slots.length = 32 := by kernel_rfl
theorem kWa : kW0.tadd (-1) 0 0 0 = ((0, -1), kW1, 0) := by kernel_rfl
theorem kWb : kW1.tadd 0 1 0 1 = ((0, -1), kW2, 0) := by kernel_rfl
theorem kWc : kW2.underOf 0 = [0, 1] := by kernel_rfl
theorem kKl : kK0.slots.length = 32 := by kernel_rfl
theorem kA0 : kK0.tadd (-1) 0 77 0 = ((0, -1), kK1, 0) := by kernel_rfl
theorem kA1 : kK1.tadd 0 1 0 1 = ((0, -1), kK2, 0) := by kernel_rfl
theorem kA2 : kK2.tadd 0 2 0 1 = ((0, -1), kK3, 0) := by kernel_rfl
theorem kA3 : kK3.tadd 0 3 1 2 = ((0, -1), kK4, 0) := by kernel_rfl
theorem kL0 : kK4.kidsOf 0 = [1, 2] := by kernel_rfl
theorem kL1 : kK4.underOf 0 = [0, 1, 3, 2] := by kernel_rfl
theorem kL2 : kK4.underOf 32 = [] := by kernel_rfl
theorem kL3 : kK4.kidsOf (-1) = [] := by kernel_rfl
theorem kE0 : kK4.tadd 0 9 0 0 = ((10, -1), kK4, 0) := by kernel_rfl
theorem kE1 : kK4.tadd 0 32 0 0 = ((1, -1), kK4, 0) := by kernel_rfl
theorem kE2 : kK4.tadd 0 4 0 7 = ((10, -1), kK4, 0) := by kernel_rfl
theorem kE3 : kK4.tadd 0 4 4 5 = ((9, -1), kK4, 0) := by kernel_rfl
theorem kE4 : kK4.tadd 0 2 0 1 = ((9, -1), kK4, 0) := by kernel_rfl
theorem kE5 : kK4.tadd 0 4 32 1 = ((1, -1), kK4, 0) := by kernel_rfl
theorem kE6 : kK4.tcut 0 9 = ((10, -1), kK4, 0) := by kernel_rfl
theorem kC0 : kK4.tcut 0 1 = ((0, -1), kK5, 0) := by kernel_rfl
theorem kL4 : kK5.kidsOf 0 = [2] := by kernel_rfl
theorem kL5 : kK5.underOf 0 = [0, 2] := by kernel_rfl
theorem kL6 : kK5.underOf 1 = [1, 3] := by kernel_rfl
theorem kE7 : kK5.tcut 0 1 = ((24, 1), kK5, 0) := by kernel_rfl
theorem kC1 : kK5.tcut 0 0 = ((0, -1), kK6, -1) := by kernel_rfl
theorem kL7 : kK6.all (-1) = [] := by kernel_rfl
set_option maxHeartbeats 8000000 in
theorem works17_any (w : World) : Calls Try.prog 5 #[] w (RetB (.bool true) w) := by
  have hn1 := nil_neq
  have hn2 := nil_eql
  go_enter Try.func5, Try.ntmps5
  go_wp2_with (go_at_call 6; fail)
  refine (tusedN_any 2 (by decide) w).mono ?_
  rintro e v0 ⟨g, q, rfl, hT, hg, hq, hb⟩
  have T0 := Lib.hid (show TS 2 v0 q g kW0 (-1) v0 from ⟨kW0, hT, ⟨rfl, rfl, kWl⟩, by rw [show kW0.writes = 2 from usedS_writes 2]; decide, by rw [show kW0.writes = 2 from usedS_writes 2]; decide⟩)
  have HB0 := Lib.hid hb
  have HQG := Lib.hid (And.intro hq hg)
  clear hT hb hg hq
  go_wp2_with (go_at_call 10; fail)
  refine T0.out.last.mono ?_
  rintro e w' ⟨rfl, rfl⟩
  go_wp2_with (go_at_call 8; fail)
  refine (T0.out.add0 kWa (by omega)).mono ?_
  rintro e u1 ⟨rfl, t1⟩
  have TT1 := Lib.hid t1
  clear t1
  go_wp2_with (go_at_call 8; fail)
  refine (TT1.out.add0 kWb (by omega)).mono ?_
  rintro e u2 ⟨rfl, t2⟩
  have TT2 := Lib.hid t2
  clear t2
  go_wp2_with (go_at_call 10; fail)
  refine TT2.out.last.mono ?_
  rintro e w' ⟨rfl, rfl⟩
  go_wp2_with (go_at_call 9; fail)
  refine (TT2.out.list2 (0) kWc rfl).mono ?_
  rintro e u3 ⟨A3, k3, rfl, hi3, hb3⟩
  have TT3 := Lib.hid (TT2.out.read hb3)
  have HI3 := Lib.hid hi3
  clear hb3 hi3
  have HQ4 := Lib.hid (sameI_eq A3 (some ⟨u3.heap.size, 0, none⟩) k3 2 2 (natInts [0, 1]) rfl (by decide) (u3.alloc (.cells #[.int .i64 0, .int .i64 1] 3)) (HI3.out.below ((Below.refl u3.heap.size u3).alloc (Nat.le_refl _) _) (Nat.le_refl _)) (show IntsAt (u3.alloc (.cells #[.int .i64 0, .int .i64 1] 3)) _ _ from ints_new u3 [0, 1]))
  go_wp2_with (go_at_call 12; fail)
  refine HQ4.out.mono ?_
  rintro e u4 ⟨rfl, hb4⟩
  have TT4 := Lib.hid ((TT3.out.read ((Below.refl u3.heap.size u3).alloc (Nat.le_refl _) (.cells #[.int .i64 0, .int .i64 1] 3))).read hb4)
  clear hb4 HQ4 HI3
  go_wp2
  go_ret
  exact ⟨rfl, TT4.out.below HB0.out HQG.out (Nat.le_refl _)⟩
theorem topc {W : World} {B : Nat} (h : Blk W B 30 #[.int .i64 0, .int .i64 1]) : W.cell? ⟨B, 0, none⟩ = some (.int .i64 0) ∧ W.cell? ⟨B, 1, none⟩ = some (.int .i64 1) := ⟨(h.cell 0).trans rfl, (h.cell 1).trans rfl⟩
end Go.Proofs.Ytbidgpeeogoglaa
