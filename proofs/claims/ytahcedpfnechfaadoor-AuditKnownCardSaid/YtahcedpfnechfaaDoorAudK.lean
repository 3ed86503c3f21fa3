/-
  The audit: Check and Parts, as the code has them.
-/
import Derived.Test.YtahcedpfnechfaaDoorAudC
namespace Go.Proofs.YtahcedpfnechfaaDoor
set_option maxRecDepth 100000
open Go.RowKit Go.Sort

/-- Where lists lie: each is there, or has no address. -/
structure DumpIn (w : World) (d : DumpV) (As Af : Option Addr) : Prop where
  slots : SlotsIn w As d.slots
  free : IntsAt w Af d.free
  lt : (∀ a, As = some a → a.block < w.heap.size) ∧ (∀ a, Af = some a → a.block < w.heap.size)
set_option maxHeartbeats 8000000 in
theorem cCheck_any (d : DumpV) (As : Option Addr) (cs : Nat) (Af : Option Addr) (cf : Nat) (hsm : d.slots.length ≤ maxLen) (hnm : d.free.length ≤ maxLen) (w : World) (h : DumpIn w d As Af) :
    Calls Tryd.prog 9 #[.agg (d.dc As cs Af cf).toArray] w (RetB (checkV d) w) := by
  obtain ⟨hsl, hfr, hlt⟩ := h
  have HU := Lib.hid Tryd.underlying25
  obtain ⟨v1, hv1⟩ : ∃ v1, w.alloc (.cells #[.int .i64 d.clock, .int .i64 d.births, .slice As d.slots.length cs, .slice Af d.free.length cf, .int .i64 d.garbage, .int .i64 d.roots] 25) = v1 := ⟨_, rfl⟩
  obtain ⟨v2, hv2⟩ : ∃ v2, v1.alloc (.cells #[.int .i64 d.clock, .int .i64 d.births, .slice As d.slots.length cs, .slice Af d.free.length cf, .int .i64 d.garbage, .int .i64 d.roots, .int .i64 0, .int .i64 0, .int .i64 0, .int .i64 0, .int .i64 0, .int .i64 0, .int .i64 0, .int .i64 0, .int .i64 0, .int .i64 0, .int .i64 0, .int .i64 0, .int .i64 0, .int .i64 0, .int .i64 0, .int .i64 0, .int .i64 0, .int .i64 0, .int .i64 0, .int .i64 0, .int .i64 0, .int .i64 0, .int .i64 0, .int .i64 0, .int .i64 0, .int .i64 0, .int .i64 0, .int .i64 0, .int .i64 0, .int .i64 0, .int .i64 0, .int .i64 0] 58) = v2 := ⟨_, rfl⟩
  have hs1 : v1.heap.size ≤ w.heap.size + 1 ∧ w.heap.size + 1 ≤ v1.heap.size := by rw [← hv1]; simp
  have hs2 : v2.heap.size ≤ v1.heap.size + 1 ∧ v1.heap.size + 1 ≤ v2.heap.size := by rw [← hv2]; simp
  have hb1 : Below w.heap.size w v1 := by rw [← hv1]; exact (Below.refl _ _).alloc (Nat.le_refl _) _
  have hb2 : Below v1.heap.size v1 v2 := by rw [← hv2]; exact (Below.refl _ _).alloc (Nat.le_refl _) _
  have hb12 := hb1.trans (hb2.mono hb1.size)
  have HLK := Lib.hid (show LookAt v2 v1.heap.size 58 [] d As cs Af cf M0 from
    ⟨by rw [← hv2]; exact (Blk.new v1 58 #[.int .i64 d.clock, .int .i64 d.births, .slice As d.slots.length cs, .slice Af d.free.length cf, .int .i64 d.garbage, .int .i64 d.roots, .int .i64 0, .int .i64 0, .int .i64 0, .int .i64 0, .int .i64 0, .int .i64 0, .int .i64 0, .int .i64 0, .int .i64 0, .int .i64 0, .int .i64 0, .int .i64 0, .int .i64 0, .int .i64 0, .int .i64 0, .int .i64 0, .int .i64 0, .int .i64 0, .int .i64 0, .int .i64 0, .int .i64 0, .int .i64 0, .int .i64 0, .int .i64 0, .int .i64 0, .int .i64 0, .int .i64 0, .int .i64 0, .int .i64 0, .int .i64 0, .int .i64 0, .int .i64 0]), rfl, hsl.kept hb12.size fun a _ hlt => hb12.block a.block hlt, hfr.below hb12 (Nat.le_refl _),
      fun a e => by have := hlt.1 a e; omega, fun a e => by have := hlt.2 a e; omega⟩)
  have HCK := Lib.hid (ccheck_any d v1.heap.size As cs Af cf _ _ rfl rfl hsm hnm v2 HLK.out)
  have RD := Lib.hid (show RowAt v1 w.heap.size 0 #[.int .i64 d.clock, .int .i64 d.births, .slice As d.slots.length cs, .slice Af d.free.length cf, .int .i64 d.garbage, .int .i64 d.roots] by rw [← hv1]; exact (Blk.new w 25 #[.int .i64 d.clock, .int .i64 d.births, .slice As d.slots.length cs, .slice Af d.free.length cf, .int .i64 d.garbage, .int .i64 d.roots]).row)
  have HV1 := Lib.hid hv1
  have HV2 := Lib.hid hv2
  have BB := Lib.hid hb12
  clear hv1 hv2 hb1 hb2 hb12 hsl hfr hlt
  unfold DumpV.dc
  go_enter Tryd.func9, Tryd.ntmps9
  go_wp2_with (first
    | ((with_reducible show wpList _ _ _ (Oper.mk (some 3) (Op.load _ _) _ _ _ _ :: _) _ _); rw [HV1.out]; refine wpList_load_at (ty := 25) rfl rfl rfl RD.out HU.out rfl dumpInfo ?_)
    | (go_at_call 24; fail))
  rw [HV2.out]
  refine HCK.out.mono ?_
  rintro e w3 ⟨rfl, _, t3⟩
  have B3 := Lib.hid (BB.out.trans (t3.toBelow (by omega) (by omega)))
  clear t3
  go_wp2
  go_ret
  exact ⟨rfl, B3.out⟩
end Go.Proofs.YtahcedpfnechfaaDoor
