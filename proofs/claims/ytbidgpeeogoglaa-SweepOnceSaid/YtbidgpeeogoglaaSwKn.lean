/-
  lineagelaw19: works, SweepKnown (closed).
-/
import Derived.Test.YtbidgpeeogoglaaGS
import Derived.Test.YtbidgpeeogoglaaTold19
import Derived.Test.YtbidgpeeogoglaaSwH
import Derived.Test.YtbidgpeeogoglaaGa
namespace Go.Proofs.Ytbidgpeeogoglaa
set_option maxRecDepth 100000
open Go.RowKit Go.Sort

def hW : St × Int := hungR [0, 1] 2
def hW1 : St × Int := (hW.1.tcut hW.2 0).2
def hW2 : St × Int := (hW1.1.gadd (-1) 0).2
def hW3 : St × Int := (hW2.1.gunit hW2.2).2
def hW4 : St × Int := (hW3.1.gunit hW3.2).2
theorem hWok : ∀ k, k < 2 → hungOk [0, 1] k
  | 0, _ => ⟨⟨(hungR [0, 1] 0).1.free.tail, by kernel_rfl⟩, by kernel_rfl⟩
  | 1, _ => ⟨⟨(hungR [0, 1] 1).1.free.tail, by kernel_rfl⟩, by kernel_rfl⟩
theorem hWc : hW.1.tcut hW.2 0 = ((0, -1), hW1.1, hW1.2) := by kernel_rfl
theorem hWa : hW1.1.gadd (-1) 0 = ((0, -1), hW2.1, hW2.2) := by kernel_rfl
theorem hWu : hW2.1.gunit hW2.2 = ((0, true), hW3.1, hW3.2) := by kernel_rfl
theorem hWv : hW3.1.gunit hW3.2 = ((1, true), hW4.1, hW4.2) := by kernel_rfl
theorem hWx : hW4.1.gunit hW4.2 = ((0, false), hW4.1, hW4.2) := by kernel_rfl
theorem frees_neq (b : Option Addr) (w : World) : (binOp .neq 50 (.func (.func 41) #[] #[.pointer b]) .nilFunc).run Try.prog w = .ok (.bool true) w := by kernel_rfl
theorem vals_neq (b : Option Addr) (w : World) : (binOp .neq 50 (.func (.func 60) #[] #[.pointer b]) .nilFunc).run Try.prog w = .ok (.bool true) w := by kernel_rfl
theorem GS.frees {c : Nat} {w W : World} {q3 q g : Nat} {R : St} {l3 l : Int} (t : GS c w q3 q g R l3 l W) : Calls Try.prog 22 #[.pointer (some ⟨g, 0, none⟩)] W fun e w' =>
    ∃ B, e = .returned (.func (.func 41) #[] #[.pointer (some ⟨B, 0, none⟩)]) ∧ (∀ n₀, Seqs Try.prog 41 #[.pointer (some ⟨B, 0, none⟩)] natV n₀ (fun k => W.heap.size ≤ k ∧ k < w'.heap.size) 0 R.free w') ∧ Below W.heap.size W w' := by
  obtain ⟨S, h1, h2, _⟩ := t
  rw [← h2.free]
  exact frees_st g W h1.ar
theorem GS.gall {c : Nat} {w W : World} {q3 q g : Nat} {R : St} {l3 l : Int} (t : GS c w q3 q g R l3 l W) : Calls Try.prog 37 #[.pointer (some ⟨q3, 0, none⟩)] W fun e w' =>
    ∃ B, e = .returned (.func (.func 60) #[] #[.pointer (some ⟨B, 0, none⟩)]) ∧ Below W.heap.size W w' := by
  obtain ⟨S, h1, h2, _⟩ := t
  refine (gall_any W W h1.ga).mono ?_
  rintro e w' ⟨B, h3, _, h4⟩
  exact ⟨B, h3, h4⟩
set_option maxHeartbeats 8000000 in
theorem works19_any (w : World) : Calls Try.prog 15 #[] w (RetB (.bool true) w) := by
  have hn1 := nil_neq
  have hn2 := nil_eql
  have hn3 := frees_neq
  have hn4 := vals_neq
  obtain ⟨v, hv⟩ : ∃ v, w.alloc (.cells #[.int .i64 0, .int .i64 1] 3) = v := ⟨_, rfl⟩
  have hbv : Below w.heap.size w v := by rw [← hv]; exact (Below.refl _ _).alloc (Nat.le_refl _) _
  have hiv : IntsAt v (some ⟨w.heap.size, 0, none⟩) [0, 1] := by rw [← hv]; exact ints_new w [0, 1]
  have HU := Lib.hid (fun c => hung_any [0, 1] 2 2 rfl (by decide) rfl hWok (some ⟨w.heap.size, 0, none⟩) c v hiv)
  have hsv := hbv.size
  have HV := Lib.hid hv
  have HBV := Lib.hid hbv
  clear hv hbv hiv
  go_enter Try.func15, Try.ntmps15
  go_wp2_with (go_at_call 16; fail)
  rw [HV.out]
  refine (HU.out _).mono ?_
  rintro e u0 ⟨g, q, x, n0, rfl, hT, hrow, hq, hb⟩
  have T0 := Lib.hid (show TS 12 u0 q g hW.1 hW.2 u0 from hT)
  have hs0 := hb.size
  have HB0 := Lib.hid (HBV.out.trans (hb.mono hsv))
  have HQG := Lib.hid (show w.heap.size ≤ g ∧ w.heap.size ≤ q by omega)
  clear hT hrow hq hb HBV HU HV
  go_wp2_with (go_at_call 11; fail)
  refine (T0.out.cut0 hWc (by omega)).mono ?_
  rintro e u1 ⟨rfl, t1⟩
  have hk1 := t1.keep
  have hs1 := hk1.size
  have B1 := Lib.hid (t1.below HB0.out (by have := HQG.out; omega) (Nat.le_refl _))
  have T1 := Lib.hid t1.here
  clear t1 hk1 T0
  go_wp2_with (go_at_call 17; fail)
  refine (swNew_any g u1).mono ?_
  rintro e u2 ⟨rfl, hB2, hb2⟩
  have G2 := Lib.hid (T1.out.gs hB2 hb2)
  have B2 := Lib.hid (B1.out.trans (hb2.mono B1.out.size))
  obtain ⟨q3, hq3⟩ : ∃ q3, u1.heap.size = q3 := ⟨_, rfl⟩
  have HQ3 := Lib.hid (show w.heap.size ≤ q3 ∧ w.heap.size ≤ q ∧ w.heap.size ≤ g by have := HQG.out; have := B1.out.size; omega)
  rw [hq3] at G2 ⊢
  have hs2 := hb2.size
  clear hb2 hB2 T1 B1 hq3
  go_wp2_with (go_at_call 18; fail)
  refine (G2.out.add0 hWa (by omega)).mono ?_
  rintro e u3 ⟨rfl, t1⟩
  have Gu3 := Lib.hid t1
  clear t1
  go_wp2_with (go_at_call 21; fail)
  refine (Gu3.out.unit hWu (by omega)).mono ?_
  rintro e u4 ⟨rfl, t1⟩
  have Gu4 := Lib.hid t1
  clear t1
  go_wp2_with (go_at_call 21; fail)
  refine (Gu4.out.unit hWv (by omega)).mono ?_
  rintro e u5 ⟨rfl, t1⟩
  have Gu5 := Lib.hid t1
  clear t1
  go_wp2_with (go_at_call 21; fail)
  refine (Gu5.out.unit hWx (by omega)).mono ?_
  rintro e u6 ⟨rfl, t1⟩
  have Gu6 := Lib.hid t1
  clear t1
  go_wp2_with (go_at_call 22; fail)
  refine Gu6.out.frees.mono ?_
  rintro e u7 ⟨BF, rfl, _, hb7⟩
  have G7 := Lib.hid (Gu6.out.read hb7)
  clear hb7
  go_wp2_with (go_at_call 37; fail)
  refine G7.out.gall.mono ?_
  rintro e u8 ⟨BA, rfl, hb8⟩
  have G8 := Lib.hid (G7.out.read hb8)
  clear hb8
  go_wp2
  go_ret
  exact ⟨rfl, G8.out.below B2.out HQ3.out (Nat.le_refl _)⟩
end Go.Proofs.Ytbidgpeeogoglaa
