import Derived.Test.YtnofnolkdijocaaRBest
import Derived.Test.YtnofnolkdijocaaKept
namespace Go.Proofs.Ytnofnolkdijocaa
open Go.RowKit Go.Sort

theorem lent_in {w : World} {B g cap : Nat} {xs : List Sess} (h : w.ownsRow B 28 12 (.slice (some ⟨g, 0, none⟩) (fullSess xs).length cap) (fullSess xs).length (flat Sess.cells (fullSess xs))) : SessIn w (some ⟨g, 0, none⟩) xs :=
  fun _ => ⟨g, 0, rfl, (own_cap h).2.2.2, fun k s hs => by rw [Nat.zero_add]; exact own_row Sess.cells_size h (fullSess_lo hs)⟩

set_option maxHeartbeats 1000000 in
theorem levelBest_any (A : Option Addr) (cap : Nat) (xs : List Sess) (now : Int) (w : World) (hr : SessIn w A xs) (hl : xs.length * 112 ≤ 140737488351232) :
    Calls Try.prog 3 #[.slice A xs.length cap, .int .i64 now] w (RetBelow (.bool true) w) := by
  have HR := Lib.hid hr
  have HL := Lib.hid hl
  have HL1 := Lib.hid (show xs.length ≤ 9223372036854775807 by omega)
  clear hr hl
  go_enter Try.func3, Try.ntmps3
  go_wp2_with (first
    | (go_at_call 7; fail))
  refine (rbest_any A cap xs now w HR.out HL1.out).mono ?_
  rintro e w1 ⟨rfl, hb1⟩
  have HR1 := Lib.hid (HR.out.below hb1)
  go_wp2_with (first
    | (refine wpList_store_new rfl rfl rfl rfl rfl (Sess.one _) info28 ?_)
    | (go_at_call 8; fail))
  have HZ := Lib.hid (Blk.new w1 28 (bestOf now xs).1.cells)
  have hbel1 : Below w.heap.size w (w1.alloc (.cells (bestOf now xs).1.cells 28)) := hb1.alloc hb1.size _
  have HR2 := Lib.hid (HR1.out.below ((Below.refl w1.heap.size w1).alloc (Nat.le_refl _) (.cells (bestOf now xs).1.cells 28)))
  refine (lent_any A cap xs _ HR2.out HL.out).mono ?_
  rintro e w2 ⟨g, cp, rfl, hown, hb2⟩
  have hbel2 := hbel1.trans (hb2.mono hbel1.size)
  have HZ2 := Lib.hid (HZ.out.below hb2 HZ.out.lt)
  have HR3 := Lib.hid (HR2.out.below hb2)
  have HO := Lib.hid hown
  clear hown hb2 HR1 HR2 HZ
  go_wp2_with (first
    | (go_at_call 9; fail))
  refine (best_any _ cp xs now w2 (lent_in HO.out) HL1.out).mono ?_
  rintro e w3 ⟨rfl, hb3⟩
  have hbel3 := hbel2.trans (hb3.mono hbel2.size)
  have HZ3 := Lib.hid (HZ2.out.below hb3 HZ2.out.lt)
  have HO3 := Lib.hid (own_below HO.out hb3)
  have HR4 := Lib.hid (HR3.out.below hb3)
  have hz3 := HZ3.out.lt
  clear hb3 HZ2 HO HR3 hbel2 hbel1
  have hsm := Sess.same_refl (bestOf now xs).1
  have heq := fun s t w => eql_sess s t w
  go_wp2_with (first
    | (refine wpList_store_new rfl rfl rfl rfl rfl (Sess.one _) info28 ?_)
    | (refine wpList_load_at rfl rfl rfl (Blk.new w3 28 _).row rfl rfl info28 ?_)
    | (refine wpList_load_at rfl rfl rfl (HZ3.out.alloc _).row rfl rfl info28 ?_)
    | (go_at_call 10; fail))
  refine (kept_any g cp _ cap A xs _ (HO3.out.alloc _) (HR4.out.below ((Below.refl w3.heap.size w3).alloc (Nat.le_refl _) _)) HL.out).mono ?_
  rintro e w4 ⟨rfl, hb4⟩
  have hbel4 : Below w.heap.size w w4 := (hbel3.alloc hbel3.size _).trans (hb4.mono (by simp; have := hbel3.size; omega))
  go_wp2
  go_ret
  exact ⟨rfl, hbel4⟩
end Go.Proofs.Ytnofnolkdijocaa
