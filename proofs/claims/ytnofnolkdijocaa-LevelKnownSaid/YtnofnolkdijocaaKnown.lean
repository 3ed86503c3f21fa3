import Derived.Test.YtnofnolkdijocaaBack
import Derived.Test.YtnofnolkdijocaaKept
namespace Go.Proofs.Ytnofnolkdijocaa
open Go.RowKit Go.Sort

def kn1 : Sess := { Sess.zero with level := 1, deadline := 9, birth := 2 }
def kn2 : Sess := { Sess.zero with level := 1, deadline := 9, birth := 1 }
def kn3 : Sess := { Sess.zero with level := 2, deadline := 5, birth := 3 }
def knRow : Array Value := #[.int .i64 0, .int .i64 2, .int .i64 0, .int .i64 0, .int .i64 0, .string ⟨#[]⟩, .string ⟨#[]⟩, .int .u64 0, .int .i64 1, .int .i64 0, .int .i64 9, .int .i64 0,
  .int .i64 0, .int .i64 1, .int .i64 0, .int .i64 0, .int .i64 0, .string ⟨#[]⟩, .string ⟨#[]⟩, .int .u64 0, .int .i64 1, .int .i64 0, .int .i64 9, .int .i64 0,
  .int .i64 0, .int .i64 3, .int .i64 0, .int .i64 0, .int .i64 0, .string ⟨#[]⟩, .string ⟨#[]⟩, .int .u64 0, .int .i64 2, .int .i64 0, .int .i64 5, .int .i64 0]
theorem kn_own (w : World) : (w.alloc (.cells knRow 28)).ownsRow 0 28 12 (.slice (some ⟨w.heap.size, 0, none⟩) 3 3) 3 (flat Sess.cells [kn1, kn2, kn3]) := World.ownsRow_lit (base := 0) (e := 28) (size := 12) w knRow 3 (Nat.zero_le _) (by decide) rfl
theorem kn_best5 : bestOf 5 [kn1, kn2, kn3] = (kn2, true) := by kernel_rfl
theorem kn_best4 : bestOf 4 [kn1, kn2, kn3] = (kn3, true) := by kernel_rfl

set_option maxHeartbeats 4000000 in
set_option maxRecDepth 10000 in
theorem levelKnown_any (w : World) : Calls Try.prog 6 #[] w (RetB (.bool true) w) := by
  have hbel := Below.refl w.heap.size w
  have n1 : levErr 3 = .iface 49 (.int .i64 13) := rfl
  have n2 : levErr (-1) = .iface 49 (.int .i64 13) := rfl
  have n3 : (levParse ⟨#[77, 105, 100]⟩).2 = .iface 49 (.int .i64 4) := by kernel_rfl
  have n4 : (levParse ⟨#[]⟩).2 = .iface 49 (.int .i64 4) := by kernel_rfl
  have n5 : levErr 0 = .nilIface := rfl
  have n6 : levErr 2 = .nilIface := rfl
  have n7 : levName 0 = lowS := rfl
  have n8 : levName 2 = highS := rfl
  have n9 : lowS.toList = [108, 111, 119] := by decide +kernel
  have n10 : highS.toList = [104, 105, 103, 104] := by decide +kernel
  have m1 : enoughB 1 1 = true := rfl
  have m2 : enoughB 3 1 = false := rfl
  have m3 : enoughB 1 (-1) = false := rfl
  have m4 : raiseV 0 1 300 = .nilIface := rfl
  have m5 : raiseV 1 2 1 = .nilIface := rfl
  have m6 : raiseV 0 1 301 = .iface 49 (.int .i64 12) := rfl
  have m7 : raiseV 1 1 0 = .iface 49 (.int .i64 13) := rfl
  have m8 : raiseV 2 3 5 = .iface 49 (.int .i64 13) := rfl
  have m9 : raiseV 0 2 0 = .iface 49 (.int .i64 12) := rfl
  go_enter Try.func6, Try.ntmps6
  go_wp2_with (first
    | (go_at_call 13; refine (name_any _ _).mono ?_; rintro e w1 ⟨rfl, hb⟩; have hbel2 := hbel.trans (hb.mono hbel.size); clear hbel hb; have hbel := hbel2; clear hbel2)
    | (go_at_call 14; refine (parse_any _ _).mono ?_; rintro e w1 ⟨rfl, hb⟩; have hbel2 := hbel.trans (hb.mono hbel.size); clear hbel hb; have hbel := hbel2; clear hbel2)
    | (go_at_call 15; refine (raise_any _ _ _ _).mono ?_; rintro e w1 ⟨rfl, hb⟩; have hbel2 := hbel.trans (hb.mono hbel.size); clear hbel hb; have hbel := hbel2; clear hbel2)
    | (go_at_call 16; refine (enough_any _ _ _).mono ?_; rintro e w' ⟨rfl, rfl⟩)
    | (go_at_call 17; refine (Num_errno _ (by decide) (by decide) _).mono ?_; rintro e w' ⟨rfl, rfl⟩)
    | (go_at_call 9; fail))
  have HO := Lib.hid (kn_own w1)
  have HB1 := hbel.alloc hbel.size (.cells knRow 28)
  obtain ⟨w2, HW⟩ : ∃ w2, Hid (w1.alloc (.cells knRow 28) = w2) := ⟨_, rfl⟩
  rw [HW.out] at HO HB1
  have hin : ∀ w', Below w2.heap.size w2 w' → SessIn w' (some ⟨w1.heap.size, 0, none⟩) [kn1, kn2, kn3] := fun w' h _ => ⟨_, 0, rfl, (own_cap (own_below HO.out h)).2.2.2, fun k s hs => by rw [Nat.zero_add]; exact own_row Sess.cells_size (own_below HO.out h) hs⟩
  have HI := Lib.hid hin
  clear hin n1 n2 n3 n4 n5 n6 n7 n8 n9 n10 m1 m2 m3 m4 m5 m6 m7 m8 m9
  refine (best_any _ 3 [kn1, kn2, kn3] 5 _ (by show SessIn (w1.alloc (.cells knRow 28)) _ _; rw [HW.out]; exact HI.out _ (Below.refl _ _)) (by decide)).mono ?_
  rintro e w3 ⟨rfl, hb⟩
  have hb3 : Below w2.heap.size w2 w3 := by rw [← HW.out]; exact hb
  have hbel3 := HB1.trans (hb3.mono HB1.size)
  clear hb HW hbel HB1
  have b5 := kn_best5
  have b4 := kn_best4
  go_wp2_with (first
    | (refine wpList_store_new rfl rfl rfl rfl rfl (Sess.one _) info28 ?_)
    | (go_at_call 9; fail))
  have h4 := Lib.hid (Blk.new w3 28 kn2.cells)
  have hbx : Below w2.heap.size w2 (w3.alloc (.cells kn2.cells 28)) := hb3.alloc hb3.size _
  have hby : Below w.heap.size w (w3.alloc (.cells kn2.cells 28)) := hbel3.alloc hbel3.size _
  refine (best_any _ 3 [kn1, kn2, kn3] 4 _ (HI.out _ hbx) (by decide)).mono ?_
  rintro e w4 ⟨rfl, hb⟩
  have hb4 := hbx.trans (hb.mono hbx.size)
  have hbel4 := hby.trans (hb.mono hby.size)
  have H4 := Lib.hid (h4.out.below hb h4.out.lt)
  clear hb hb3 hbel3 hbx hby h4
  go_wp2_with (first
    | (refine wpList_store_new rfl rfl rfl rfl rfl (Sess.one _) info28 ?_)
    | (go_at_call 9; fail))
  have h5 := Lib.hid (Blk.new w4 28 kn3.cells)
  have h45 := Lib.hid (H4.out.alloc (.cells kn3.cells 28))
  have hbx : Below w2.heap.size w2 (w4.alloc (.cells kn3.cells 28)) := hb4.alloc hb4.size _
  have hby : Below w.heap.size w (w4.alloc (.cells kn3.cells 28)) := hbel4.alloc hbel4.size _
  refine (best_any none 0 [] 0 _ (fun h => absurd h (by decide)) (by decide)).mono ?_
  rintro e w5 ⟨rfl, hb⟩
  have hb5 := hbx.trans (hb.mono hbx.size)
  have hbel5 := hby.trans (hb.mono hby.size)
  have H45 := Lib.hid ((h45.out.below hb h45.out.lt).alloc (.cells Sess.zero.cells 28))
  have H5 := Lib.hid ((h5.out.below hb h5.out.lt).alloc (.cells Sess.zero.cells 28))
  have hbz : Below w2.heap.size w2 (w5.alloc (.cells Sess.zero.cells 28)) := hb5.alloc hb5.size _
  have hbelz : Below w.heap.size w (w5.alloc (.cells Sess.zero.cells 28)) := hbel5.alloc hbel5.size _
  have HO5 := Lib.hid (own_below HO.out hbz)
  clear hb hb4 hbel4 hbx hby h5 h45 H4 hb5 hbel5 hbz
  have bn : bestOf 0 [] = (Sess.zero, false) := rfl
  go_wp2_with (first
    | (refine wpList_store_new rfl rfl rfl rfl rfl (Sess.one _) info28 ?_)
    | (go_at_call 9; fail))
  have HL1 := Lib.hid ((own_row (k := 1) Sess.cells_size HO5.out rfl).class_ (own_cap HO5.out).2.2.2)
  have HL2 := Lib.hid ((own_row (k := 2) Sess.cells_size HO5.out rfl).class_ (own_cap HO5.out).2.2.2)
  have HX := Lib.hid (H45.out.row.class_ H45.out.lt)
  have HY := Lib.hid (H5.out.row.class_ H5.out.lt)
  have hsm := fun x => Sess.same_refl x
  have heq := fun s t w => eql_sess s t w
  clear H45 H5 HO5 HO HI b5 b4 bn
  refine wp_region_quiet_below (by kernel_rfl) (by kernel_rfl) ?_
  repeat (first
    | go_big_quiet_skip
    | (refine wpQuiet_load_at rfl rfl rfl HX.out rfl rfl info28 ?_; simp only [Act.put, List.setIfInBounds_toArray, List.set_cons_zero, List.set_cons_succ])
    | (refine wpQuiet_load_at rfl rfl rfl HY.out rfl rfl info28 ?_; simp only [Act.put, List.setIfInBounds_toArray, List.set_cons_zero, List.set_cons_succ])
    | (refine wpQuiet_load_at rfl rfl rfl HL1.out rfl rfl info28 ?_; simp only [Act.put, List.setIfInBounds_toArray, List.set_cons_zero, List.set_cons_succ])
    | (refine wpQuiet_load_at rfl rfl rfl HL2.out rfl rfl info28 ?_; simp only [Act.put, List.setIfInBounds_toArray, List.set_cons_zero, List.set_cons_succ])
    | (go_big_quiet_want; go_big_quiet_op; go_big_quiet_on))
  refine wpQuiet_nil ?_
  intro w6 hC
  have hb6 := below_class hC
  clear hC
  go_wp2
  go_ret
  exact ⟨rfl, hbelz.trans (hb6.mono hbelz.size)⟩
end Go.Proofs.Ytnofnolkdijocaa
