/-
  lineagelaw22: knownOrder.
-/
import Derived.Test.YthoibafhbacfiaaDoorGKn1
import Derived.BigRegion
namespace Go.Proofs.YthoibafhbacfiaaDoor
set_option maxRecDepth 100000
open Go.RowKit

def NB : Array Value := #[.string ⟨#[]⟩, .string ⟨#[97, 110, 110]⟩]
def LB : Array Value := #[.int .i64 (-1), .int .i64 0, .int .i64 1, .int .i64 2, .int .i64 3]
def FB : Array Value := #[.int .i64 0, .int .i64 1, .int .i64 300, .int .i64 301]
theorem NB_str (k : Nat) (h : k < 2) : ∃ s, NB[k]? = some (.string s) := by
  match k, h with
  | 0, _ | 1, _ => exact ⟨_, rfl⟩
theorem LB_int (k : Nat) (h : k < 5) : ∃ s, LB[k]? = some (.int .i64 s) := by
  match k, h with
  | 0, _ | 1, _ | 2, _ | 3, _ | 4, _ => exact ⟨_, rfl⟩
theorem FB_int (k : Nat) (h : k < 4) : ∃ s, FB[k]? = some (.int .i64 s) := by
  match k, h with
  | 0, _ | 1, _ | 2, _ | 3, _ => exact ⟨_, rfl⟩
structure KOrd (w wr : World) : Prop where
  b0 : Blk wr w.heap.size 9 NB
  b1 : Blk wr (w.heap.size + 1) 3 LB
  b2 : Blk wr (w.heap.size + 1 + 1) 3 FB
  bel : Below w.heap.size w wr
theorem KOrd.call {w wr w' : World} (h : KOrd w wr) (hb : Below wr.heap.size wr w') : KOrd w w' :=
  ⟨h.b0.below hb h.b0.lt, h.b1.below hb h.b1.lt, h.b2.below hb h.b2.lt, h.bel.trans (hb.mono h.bel.size)⟩
structure ORel (w : World) (n : Nat) (i : Value) (wr : World) : Prop where
  ex : ∃ k : Nat, k ≤ n ∧ i = .int .i64 k ∧ KOrd w wr
theorem thereC_one (a b : Int) (f : Bool) : ∀ u ∈ (thereC a b f).toList, u.oneCell' = true := by
  intro u hu; simp [thereC] at hu; rcases hu with rfl | rfl | rfl <;> rfl
theorem thereInfo : (Tryd.prog.info? 27).map (·.size) = some 3 := by kernel_rfl
set_option maxHeartbeats 4000000 in
theorem knownOrder_any (w : World) (hg : Laid w) : Calls Tryd.prog 15 #[] w (RetB (.bool true) w) := by
  have HG := Lib.hid hg
  have HUS := Lib.hid Tryd.underlying31
  have HUR := Lib.hid Tryd.underlying25
  have HUX := Lib.hid Tryd.underlying27
  have HK0 := Lib.hid (show KOrd w (((w.alloc (.cells NB 9)).alloc (.cells LB 3)).alloc (.cells FB 3)) from ⟨((Blk.new w _ _).alloc _).alloc _, (Blk.new_at (by simp)).alloc _, Blk.new_at (by simp), bel_alloc (bel_alloc (bel_alloc (Below.refl _ _) _) _) _⟩)
  clear hg
  go_enter Tryd.func15, Tryd.ntmps15
  go_wp2
  go_loopw [4] (ORel w 2) (fun i _ => 2 - (intOf i).toNat)
  case atStart => exact ⟨⟨0, Nat.zero_le _, rfl, HK0.out⟩⟩
  case round =>
    clear HK0
    obtain ⟨⟨i, hi, rfl, hk⟩⟩ := hrel
    have HK := Lib.hid hk
    clear hk
    by_cases hlt : i < 2
    · have hi2 : (i : Int) < 2 := by omega
      go_wp2
      go_loopw [5] (ORel w 5) (fun i _ => 5 - (intOf i).toNat)
      case atStart => exact ⟨⟨0, Nat.zero_le _, rfl, HK.out⟩⟩
      case round =>
        clear HK
        obtain ⟨⟨k, hkk, rfl, hk⟩⟩ := hrel
        have HK := Lib.hid hk
        clear hk
        by_cases hlt5 : k < 5
        · have hk5 : (k : Int) < 5 := by omega
          go_wp2
          go_loopw [6] (ORel w 4) (fun i _ => 4 - (intOf i).toNat)
          case atStart => exact ⟨⟨0, Nat.zero_le _, rfl, HK.out⟩⟩
          case round =>
            clear HK
            obtain ⟨⟨j, hjj, rfl, hk⟩⟩ := hrel
            have HK := Lib.hid hk
            clear hk
            by_cases hlt4 : j < 4
            · have hj4 : (j : Int) < 4 := by omega
              go_wp2
              go_loopw [7] (ORel w 16) (fun i _ => 16 - (intOf i).toNat)
              case atStart => exact ⟨⟨0, Nat.zero_le _, rfl, HK.out⟩⟩
              case round =>
                clear HK
                obtain ⟨⟨n, hnn, rfl, hk⟩⟩ := hrel
                have HK := Lib.hid hk
                clear hk
                by_cases hlt16 : n < 16
                · have hn16 : (n : Int) < 16 := by omega
                  obtain ⟨s1, hs1⟩ := NB_str i hlt
                  obtain ⟨m, hm⟩ : ∃ m, n % 2 = m := ⟨_, rfl⟩
                  obtain ⟨m2, hm2⟩ : ∃ m, n / 2 % 2 = m := ⟨_, rfl⟩
                  obtain ⟨m3, hm3⟩ : ∃ m, n / 4 % 2 = m := ⟨_, rfl⟩
                  obtain ⟨m4, hm4⟩ : ∃ m, n / 8 = m := ⟨_, rfl⟩
                  have t1 : (n : Int).tmod 2 = (m : Int) := by rw [← hm]; rfl
                  have t2 : ((n : Int).tdiv 2).tmod 2 = (m2 : Int) := by rw [← hm2]; rfl
                  have t3 : ((n : Int).tdiv 4).tmod 2 = (m3 : Int) := by rw [← hm3]; rfl
                  have t4 : (n : Int).tdiv 8 = (m4 : Int) := by rw [← hm4]; rfl
                  have u1 : (m : Int) < 2 := by omega
                  have u2 : (m2 : Int) < 2 := by omega
                  have u3 : (m3 : Int) < 2 := by omega
                  have u4 : (m4 : Int) < 2 := by omega
                  obtain ⟨s2, hs2⟩ := NB_str m (by omega)
                  have z0 := HK.out.b0.lt
                  have z1 := HK.out.b1.lt
                  have z2 := HK.out.b2.lt
                  obtain ⟨lv, hlv⟩ := LB_int k hlt5
                  obtain ⟨lf, hlf⟩ := FB_int j hlt4
                  have c0 := (HK.out.b0.cell i).trans hs1
                  have c1 := (HK.out.b0.cell m).trans hs2
                  have c2 := (HK.out.b1.cell k).trans hlv
                  have c3 := (HK.out.b2.cell j).trans hlf
                  clear hs1 hs2 hlv hlf hm hm2 hm3 hm4
                  go_wp2
                  go_region
                  have z3 := HK.out.bel.size
                  obtain ⟨x, hx⟩ := word_of (a := (n : Int)) (by omega) (by omega)
                  obtain ⟨V1, hV1⟩ : ∃ V, (wr.alloc (.cells #[.string s1, .string s2, .int .u64 (n : Int), .int .i64 lv, .int .i64 lf] 25)).drew = V := ⟨_, rfl⟩
                  have BR1 := Lib.hid (show Blk V1 wr.heap.size 25 (Req.cells ⟨s1, s2, x, lv, lf⟩) from by rw [← hV1, hx]; exact (Blk.new wr _ _).drew)
                  have HB1 := Lib.hid (show Below wr.heap.size wr V1 from by rw [← hV1]; exact (bel_alloc (Below.refl _ _) _).trans ((bel_drewN _ 1).mono (by simp)))
                  have HK1 := Lib.hid (HK.out.call HB1.out)
                  clear c0 c1 c2 c3 z0 z1 z2 z3 hx HK
                  go_wp2_with (first
                    | (go_at_call 38; fail)
                    | ((with_reducible show wpList _ _ _ (Oper.mk _ (Op.store 27 _ _) _ _ _ _ :: _) _ (World.alloc _ _)); refine wpList_store_new (ty := 27) rfl rfl rfl rfl rfl (thereC_one _ _ _) thereInfo ?_))
                  clear hV1
                  refine (parent_any _).mono ?_
                  rintro e w3 ⟨rfl, h3⟩
                  obtain ⟨B, hB⟩ : ∃ B : Int, 1048575 + (n : Int) / 2 % 2 = B := ⟨_, rfl⟩
                  obtain ⟨F, hF⟩ : ∃ F : Bool, ((n : Int) / 4 % 2 == 1) = F := ⟨_, rfl⟩
                  obtain ⟨D, hD⟩ : ∃ D : Int, 5 + (n : Int) / 8 = D := ⟨_, rfl⟩
                  rw [hB, hF] at h3
                  obtain ⟨V3, hV3⟩ : ∃ V, w3.alloc (.cells (parentS.cells.setIfInBounds 11 (.int .i64 D)) 31) = V := ⟨_, rfl⟩
                  have bx : Blk (V1.alloc (.cells (thereC 40 B F) 27)) V1.heap.size 27 (thereC 40 B F) := Blk.new V1 _ _
                  have br := BR1.out.alloc (.cells (thereC 40 B F) 27)
                  have bk : KOrd w (V1.alloc (.cells (thereC 40 B F) 27)) := HK1.out.call (bel_alloc (Below.refl _ _) _)
                  obtain ⟨p, hp⟩ : ∃ p : Sess, { parentS with depth := D } = p := ⟨_, rfl⟩
                  have hc : parentS.cells.setIfInBounds 11 (.int .i64 D) = p.cells := by rw [← hp]; rfl
                  have BX3 := Lib.hid (show Blk V3 V1.heap.size 27 (thereC 40 B F) from hV3 ▸ (bx.below h3 bx.lt).alloc _)
                  have BR3 := Lib.hid (show Blk V3 wr.heap.size 25 (Req.cells ⟨s1, s2, x, lv, lf⟩) from hV3 ▸ (br.below h3 br.lt).alloc _)
                  have BP3 := Lib.hid (show Blk V3 w3.heap.size 31 p.cells from by rw [← hV3, hc]; exact Blk.new w3 _ _)
                  have HK3 := Lib.hid (show KOrd w V3 from hV3 ▸ (bk.call h3).call (bel_alloc (Below.refl _ _) _))
                  clear bx br bk h3 BR1 HB1 HK1 hB hF hp hc t1 t2 t3 t4 u1 u2 u3 u4
                  generalize Req.mk s1 s2 x lv lf = r at BR3
                  go_wp2_with (first
                    | (go_at_call 3; fail)
                    | ((with_reducible show wpList _ _ _ (Oper.mk _ (Op.load 25 (Operand.tmp 8)) _ _ _ _ :: _) _ V3); refine wpList_load_at (ty := 25) rfl rfl rfl BR3.out.row HUR.out rfl reqInfo ?_)
                    | ((with_reducible show wpList _ _ _ (Oper.mk _ (Op.load 27 (Operand.tmp 9)) _ _ _ _ :: _) _ V3); refine wpList_load_at (ty := 27) rfl rfl rfl BX3.out.row HUX.out rfl thereInfo ?_)
                    | ((with_reducible show wpList _ _ _ (Oper.mk _ (Op.load 31 (Operand.tmp 10)) _ _ _ _ :: _) _ V3); refine wpList_load_at (ty := 31) rfl rfl rfl BP3.out.row HUS.out rfl sessInfo ?_)
                    | ((with_reducible show wpList _ _ _ (Oper.mk _ (Op.store 31 _ _) _ _ _ _ :: _) _ (World.alloc _ _)); refine wpList_store_new (ty := 31) rfl rfl rfl rfl rfl (Sess.one parentS) sessInfo ?_))
                  clear hV3 hD
                  refine (grantLogins_any r 40 B F _ (HG.out.below HK3.out.bel HG.out.pos)).mono ?_
                  rintro e V4 ⟨rfl, h⟩
                  have BR4 := Lib.hid (BR3.out.below h BR3.out.lt)
                  have BX4 := Lib.hid (BX3.out.below h BX3.out.lt)
                  have BP4 := Lib.hid (BP3.out.below h BP3.out.lt)
                  have HK4 := Lib.hid (HK3.out.call h)
                  clear h BR3 BX3 BP3 HK3
                  go_wp2_with (first
                    | (go_at_call 4; fail)
                    | ((with_reducible show wpList _ _ _ (Oper.mk _ (Op.load 25 (Operand.tmp 8)) _ _ _ _ :: _) _ V4); refine wpList_load_at (ty := 25) rfl rfl rfl BR4.out.row HUR.out rfl reqInfo ?_)
                    | ((with_reducible show wpList _ _ _ (Oper.mk _ (Op.load 27 (Operand.tmp 9)) _ _ _ _ :: _) _ V4); refine wpList_load_at (ty := 27) rfl rfl rfl BX4.out.row HUX.out rfl thereInfo ?_)
                    | ((with_reducible show wpList _ _ _ (Oper.mk _ (Op.load 31 (Operand.tmp 10)) _ _ _ _ :: _) _ V4); refine wpList_load_at (ty := 31) rfl rfl rfl BP4.out.row HUS.out rfl sessInfo ?_))
                  refine (grantChildren_any p r 40 B F _ (HG.out.below HK4.out.bel HG.out.pos)).mono ?_
                  rintro e V5 ⟨rfl, h⟩
                  have BR5 := Lib.hid (BR4.out.below h BR4.out.lt)
                  have BX5 := Lib.hid (BX4.out.below h BX4.out.lt)
                  have BP5 := Lib.hid (BP4.out.below h BP4.out.lt)
                  have HK5 := Lib.hid (HK4.out.call h)
                  clear h BR4 BX4 BP4 HK4
                  go_wp2_with (first
                    | (go_at_call 5; fail)
                    | ((with_reducible show wpList _ _ _ (Oper.mk _ (Op.load 25 (Operand.tmp 8)) _ _ _ _ :: _) _ V5); refine wpList_load_at (ty := 25) rfl rfl rfl BR5.out.row HUR.out rfl reqInfo ?_)
                    | ((with_reducible show wpList _ _ _ (Oper.mk _ (Op.load 27 (Operand.tmp 9)) _ _ _ _ :: _) _ V5); refine wpList_load_at (ty := 27) rfl rfl rfl BX5.out.row HUX.out rfl thereInfo ?_)
                    | ((with_reducible show wpList _ _ _ (Oper.mk _ (Op.load 31 (Operand.tmp 10)) _ _ _ _ :: _) _ V5); refine wpList_load_at (ty := 31) rfl rfl rfl BP5.out.row HUS.out rfl sessInfo ?_))
                  refine (grantRaises_any p r 40 B F _ (HG.out.below HK5.out.bel HG.out.pos)).mono ?_
                  rintro e V6 ⟨rfl, h⟩
                  have BR6 := Lib.hid (BR5.out.below h BR5.out.lt)
                  have BX6 := Lib.hid (BX5.out.below h BX5.out.lt)
                  have BP6 := Lib.hid (BP5.out.below h BP5.out.lt)
                  have HK6 := Lib.hid (HK5.out.call h)
                  clear h BR5 BX5 BP5 HK5
                  go_wp2_with (first
                    | (go_at_call 42; fail)
                    | ((with_reducible show wpList _ _ _ (Oper.mk _ (Op.load 25 (Operand.tmp 8)) _ _ _ _ :: _) _ V6); refine wpList_load_at (ty := 25) rfl rfl rfl BR6.out.row HUR.out rfl reqInfo ?_)
                    | ((with_reducible show wpList _ _ _ (Oper.mk _ (Op.load 27 (Operand.tmp 9)) _ _ _ _ :: _) _ V6); refine wpList_load_at (ty := 27) rfl rfl rfl BX6.out.row HUX.out rfl thereInfo ?_)
                    | ((with_reducible show wpList _ _ _ (Oper.mk _ (Op.load 31 (Operand.tmp 10)) _ _ _ _ :: _) _ V6); refine wpList_load_at (ty := 31) rfl rfl rfl BP6.out.row HUS.out rfl sessInfo ?_))
                  refine (grantOrder_any p r 40 B F _).mono ?_
                  rintro e V7 ⟨rfl, h⟩
                  have BR7 := Lib.hid (BR6.out.below h BR6.out.lt)
                  have BX7 := Lib.hid (BX6.out.below h BX6.out.lt)
                  have BP7 := Lib.hid (BP6.out.below h BP6.out.lt)
                  have HK7 := Lib.hid (HK6.out.call h)
                  clear h BR6 BX6 BP6 HK6
                  clear BR7 BX7 BP7
                  go_wp2
                  go_roundw
                  case rel => exact ⟨⟨n + 1, by omega, by go_num, HK7.out⟩⟩
                  case measure => simp [intOf]; omega
                · go_wp2
                  go_roundw
                  case rel => exact ⟨⟨j + 1, by omega, by go_num, HK.out⟩⟩
                  case measure => simp [intOf]; omega
            · go_wp2
              go_roundw
              case rel => exact ⟨⟨k + 1, by omega, by go_num, HK.out⟩⟩
              case measure => simp [intOf]; omega
        · go_wp2
          go_roundw
          case rel => exact ⟨⟨i + 1, by omega, by go_num, HK.out⟩⟩
          case measure => simp [intOf]; omega
    · go_wp2
      go_ret
      exact ⟨rfl, HK.out.bel⟩
end Go.Proofs.YthoibafhbacfiaaDoor
