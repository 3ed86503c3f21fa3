/-
  lineagelaw22: knownEnds.
-/
import Derived.Test.YthoibafhbacfiaaDoorGKn2
import Derived.Deep.CutRange
namespace Go.Proofs.YthoibafhbacfiaaDoor
set_option maxRecDepth 100000
open Go.RowKit

def EB : Array Value := #[.int .i64 (-9223372036854775808), .int .i64 (-1), .int .i64 0, .int .i64 1, .int .i64 300, .int .i64 301, .int .i64 1073741824, .int .i64 1073741825, .int .i64 1099511627775, .int .i64 1099511627776, .int .i64 1099511627777, .int .i64 9223372036854775807]
theorem EB_int (k : Nat) (h : k < 12) : ∃ s, EB[k]? = some (.int .i64 s) := by
  match k, h with
  | 0, _ | 1, _ | 2, _ | 3, _ | 4, _ | 5, _ | 6, _ | 7, _ | 8, _ | 9, _ | 10, _ | 11, _ => exact ⟨_, rfl⟩
structure KEnd (w wr : World) : Prop where
  b0 : Blk wr w.heap.size 3 EB
  bel : Below w.heap.size w wr
theorem KEnd.call {w wr w' : World} (h : KEnd w wr) (hb : Below wr.heap.size wr w') : KEnd w w' :=
  ⟨h.b0.below hb h.b0.lt, h.bel.trans (hb.mono h.bel.size)⟩
structure ERel (w : World) (n : Nat) (i : Value) (wr : World) : Prop where
  ex : ∃ k : Nat, k ≤ n ∧ i = .int .i64 k ∧ KEnd w wr
set_option maxHeartbeats 4000000 in
theorem knownEnds_any (w : World) (hg : Laid w) : Calls Tryd.prog 16 #[] w (RetB (.bool true) w) := by
  have HG := Lib.hid hg
  have HUS := Lib.hid Tryd.underlying31
  have HUR := Lib.hid Tryd.underlying25
  have HUX := Lib.hid Tryd.underlying27
  have HK0 := Lib.hid (show KEnd w (w.alloc (.cells EB 3)) from ⟨Blk.new w _ _, bel_alloc (Below.refl _ _) _⟩)
  clear hg
  go_enter Tryd.func16, Tryd.ntmps16
  go_wp2
  go_loopw [2] (ERel w 12) (fun i _ => 12 - (intOf i).toNat)
  case atStart => exact ⟨⟨0, Nat.zero_le _, rfl, HK0.out⟩⟩
  case round =>
    clear HK0
    obtain ⟨⟨i, hi, rfl, hk⟩⟩ := hrel
    have HK := Lib.hid hk
    clear hk
    by_cases hlt : i < 12
    · have hi2 : (i : Int) < 12 := by omega
      go_wp2
      go_loopw [3] (ERel w 12) (fun i _ => 12 - (intOf i).toNat)
      case atStart => exact ⟨⟨0, Nat.zero_le _, rfl, HK.out⟩⟩
      case round =>
        clear HK
        obtain ⟨⟨k, hkk, rfl, hk⟩⟩ := hrel
        have HK := Lib.hid hk
        clear hk
        by_cases hlt5 : k < 12
        · have hk5 : (k : Int) < 12 := by omega
          obtain ⟨a, ha⟩ := EB_int i hlt
          obtain ⟨b, hb⟩ := EB_int k hlt5
          have Ha := Lib.hid ha
          have Hb := Lib.hid hb
          have z0 := HK.out.b0.lt
          have c0 := (HK.out.b0.cell i).trans ha
          have c1 := (HK.out.b0.cell k).trans hb
          clear ha hb
          go_upto_region 8 with fail
          go_cut [4] from 16 to 115 (fun s4 wx => s4 = .pointer (some ⟨wr.heap.size, 0, none⟩) ∧ wx = (wr.alloc (.cells #[.int .i64 a, .int .i64 b, .int .i64 0, .int .i64 0, .int .i64 0, .string ⟨#[97, 110, 110]⟩, .string ⟨#[]⟩, .int .u64 15, .int .i64 (bits BinOp.and IntKind.i64 a 3), .int .i64 0, .int .i64 b, .int .i64 a] 31)).drew)
          case first =>
            go_region
            all_goals (go_wp2_with fail; go_meet; exact ⟨rfl, rfl⟩)
          case rest =>
          obtain ⟨rfl, rfl⟩ := hcut
          have z1 := HK.out.bel.size
          obtain ⟨l, hl⟩ : ∃ l, bits BinOp.and IntKind.i64 a 3 = l := ⟨_, rfl⟩
          obtain ⟨pp, hpp⟩ : ∃ p : Sess, (⟨a, b, 0, 0, 0, ⟨#[97, 110, 110]⟩, ⟨#[]⟩, 15#64, l, 0, b, a⟩ : Sess) = p := ⟨_, rfl⟩
          obtain ⟨q, hq⟩ : ∃ p : Sess, (⟨1, 2, 0, 0, 0, ⟨#[120, 32, 121]⟩, ⟨#[]⟩, 18446744073709551615#64, 0, 0, a, 3⟩ : Sess) = p := ⟨_, rfl⟩
          obtain ⟨r, hr⟩ : ∃ r : Req, (⟨⟨#[97, 110, 110]⟩, ⟨#[98, 45, 50]⟩, 3#64, 1, b⟩ : Req) = r := ⟨_, rfl⟩
          have ep : #[.int .i64 a, .int .i64 b, .int .i64 0, .int .i64 0, .int .i64 0, .string ⟨#[97, 110, 110]⟩, .string ⟨#[]⟩, .int .u64 15, .int .i64 l, .int .i64 0, .int .i64 b, .int .i64 a] = pp.cells := by rw [← hpp]; rfl
          have eq : #[.int .i64 1, .int .i64 2, .int .i64 0, .int .i64 0, .int .i64 0, .string ⟨#[120, 32, 121]⟩, .string ⟨#[]⟩, .int .u64 18446744073709551615, .int .i64 0, .int .i64 0, .int .i64 a, .int .i64 3] = q.cells := by rw [← hq]; rfl
          have er : #[.string ⟨#[97, 110, 110]⟩, .string ⟨#[98, 45, 50]⟩, .int .u64 3, .int .i64 1, .int .i64 b] = r.cells := by rw [← hr]; rfl
          rw [hl]
          obtain ⟨V1, hV1⟩ : ∃ V, (wr.alloc (.cells #[.int .i64 a, .int .i64 b, .int .i64 0, .int .i64 0, .int .i64 0, .string ⟨#[97, 110, 110]⟩, .string ⟨#[]⟩, .int .u64 15, .int .i64 l, .int .i64 0, .int .i64 b, .int .i64 a] 31)).drew = V := ⟨_, rfl⟩
          have BP1 := Lib.hid (show Blk V1 wr.heap.size 31 pp.cells from by rw [← hV1, ep]; exact (Blk.new wr _ _).drew)
          have HB1 : Below wr.heap.size wr V1 := by rw [← hV1]; exact (bel_alloc (Below.refl _ _) _).trans ((bel_drewN _ 1).mono (by simp))
          have HK1 := Lib.hid (HK.out.call HB1)
          obtain ⟨VQ, hVQ⟩ : ∃ V, V1.alloc (.cells #[.int .i64 1, .int .i64 2, .int .i64 0, .int .i64 0, .int .i64 0, .string ⟨#[120, 32, 121]⟩, .string ⟨#[]⟩, .int .u64 18446744073709551615, .int .i64 0, .int .i64 0, .int .i64 a, .int .i64 3] 31) = V := ⟨_, rfl⟩
          have BQ2 := Lib.hid (show Blk VQ V1.heap.size 31 q.cells from by rw [← hVQ, eq]; exact Blk.new V1 _ _)
          have BP2 := Lib.hid (show Blk VQ wr.heap.size 31 pp.cells from hVQ ▸ BP1.out.alloc _)
          have HK2 := Lib.hid (show KEnd w VQ from hVQ ▸ HK1.out.call (bel_alloc (Below.refl _ _) _))
          obtain ⟨VR, hVR⟩ : ∃ V, VQ.alloc (.cells #[.string ⟨#[97, 110, 110]⟩, .string ⟨#[98, 45, 50]⟩, .int .u64 3, .int .i64 1, .int .i64 b] 25) = V := ⟨_, rfl⟩
          have BR3 := Lib.hid (show Blk VR VQ.heap.size 25 r.cells from by rw [← hVR, er]; exact Blk.new VQ _ _)
          have BQ3 := Lib.hid (show Blk VR V1.heap.size 31 q.cells from hVR ▸ BQ2.out.alloc _)
          have BP3 := Lib.hid (show Blk VR wr.heap.size 31 pp.cells from hVR ▸ BP2.out.alloc _)
          have HK3 := Lib.hid (show KEnd w VR from hVR ▸ HK2.out.call (bel_alloc (Below.refl _ _) _))
          have s1 := hV1 ▸ HK1.out.b0.lt
          clear hpp hq hr ep eq er c0 c1 HB1 BP1 BP2 BQ2 s1 HK
          have c0 := (HK1.out.b0.cell i).trans Ha.out
          have d1 := (HK2.out.b0.cell k).trans Hb.out
          have e0 := (HK3.out.b0.cell i).trans Ha.out
          have e1 := (HK3.out.b0.cell k).trans Hb.out
          have z2 := HK3.out.b0.lt
          have z3 := HK2.out.b0.lt
          have z4 := HK1.out.b0.lt
          go_wp2_with (first
            | ((with_reducible show wpList _ _ _ (Oper.mk _ (Op.store 31 _ _) _ _ _ _ :: _) _ (World.alloc _ _)); refine wpList_store_new (ty := 31) rfl rfl rfl rfl rfl (by intro u hu; simp at hu; rcases hu with rfl | rfl | rfl | rfl | rfl | rfl | rfl | rfl | rfl | rfl | rfl | rfl <;> rfl) sessInfo ?_)
            | ((with_reducible show wpList _ _ _ (Oper.mk _ (Op.store 25 _ _) _ _ _ _ :: _) _ (World.alloc _ _)); refine wpList_store_new (ty := 25) rfl rfl rfl rfl rfl (by intro u hu; simp at hu; rcases hu with rfl | rfl | rfl | rfl | rfl <;> rfl) reqInfo ?_))
          simp only [Act.put]
          go_cut [7] from 16 to 115 (fun s7 wx => s7 = .pointer (some ⟨VR.heap.size, 0, none⟩) ∧ wx = (VR.alloc (.cells #[.int .i64 a, .int .i64 b, .bool false] 27)).drew)
          case first =>
            go_region
            all_goals (go_wp2_with fail; go_meet; exact ⟨rfl, rfl⟩)
          case rest =>
          obtain ⟨rfl, rfl⟩ := hcut
          clear c0 d1 e0 e1 z0 z1 z2 z3 z4 hV1 hVQ hVR hl HK1 HK2
          obtain ⟨VX, hVX⟩ : ∃ V, (VR.alloc (.cells #[.int .i64 a, .int .i64 b, .bool false] 27)).drew = V := ⟨_, rfl⟩
          obtain ⟨V4, hV4⟩ : ∃ V, VX.alloc (.cells #[.int .i64 5, .int .i64 7, .bool false] 27) = V := ⟨_, rfl⟩
          have hB4 : Below VR.heap.size VR V4 := hV4 ▸ hVX ▸ bel_alloc ((bel_alloc (Below.refl _ _) _).trans ((bel_drewN _ 1).mono (by simp))) _
          have BX4 := Lib.hid (show Blk V4 VR.heap.size 27 (thereC a b false) from hV4 ▸ hVX ▸ (Blk.new VR _ _).drew.alloc _)
          have BY4 := Lib.hid (show Blk V4 VX.heap.size 27 (thereC 5 7 false) from hV4 ▸ Blk.new_at rfl)
          have BR4 := Lib.hid (BR3.out.below hB4 BR3.out.lt)
          have BQ4 := Lib.hid (BQ3.out.below hB4 BQ3.out.lt)
          have BP4 := Lib.hid (BP3.out.below hB4 BP3.out.lt)
          have HK4 := Lib.hid (HK3.out.call hB4)
          clear hB4 BR3 BQ3 BP3 HK3
          go_wp2_with (first
            | (go_at_call 3; fail)
            | ((with_reducible show wpList _ _ _ (Oper.mk _ (Op.load 25 (Operand.tmp 6)) _ _ _ _ :: _) _ V4); refine wpList_load_at (ty := 25) rfl rfl rfl BR4.out.row HUR.out rfl reqInfo ?_)
            | ((with_reducible show wpList _ _ _ (Oper.mk _ (Op.load 27 (Operand.tmp 7)) _ _ _ _ :: _) _ V4); refine wpList_load_at (ty := 27) rfl rfl rfl BX4.out.row HUX.out rfl thereInfo ?_)
            | ((with_reducible show wpList _ _ _ (Oper.mk _ (Op.load 27 (Operand.tmp 8)) _ _ _ _ :: _) _ V4); refine wpList_load_at (ty := 27) rfl rfl rfl BY4.out.row HUX.out rfl thereInfo ?_)
            | ((with_reducible show wpList _ _ _ (Oper.mk _ (Op.load 31 (Operand.tmp 4)) _ _ _ _ :: _) _ V4); refine wpList_load_at (ty := 31) rfl rfl rfl BP4.out.row HUS.out rfl sessInfo ?_)
            | ((with_reducible show wpList _ _ _ (Oper.mk _ (Op.load 31 (Operand.tmp 5)) _ _ _ _ :: _) _ V4); refine wpList_load_at (ty := 31) rfl rfl rfl BQ4.out.row HUS.out rfl sessInfo ?_)
            | ((with_reducible show wpList _ _ _ (Oper.mk _ (Op.store 27 _ _) _ _ _ _ :: _) _ (World.alloc _ _)); refine wpList_store_new (ty := 27) rfl rfl rfl rfl rfl (thereC_one _ _ _) thereInfo ?_)
            | ((with_reducible show wpList _ _ _ (Oper.mk (some 64) _ _ _ _ _ :: _) _ _); rw [hV4]))
          clear hV4 hVX
          refine (grantLogins_any r a b false _ (HG.out.below HK4.out.bel HG.out.pos)).mono ?_
          rintro e V5 ⟨rfl, h⟩
          have BR5 := Lib.hid (BR4.out.below h BR4.out.lt)
          have BX5 := Lib.hid (BX4.out.below h BX4.out.lt)
          have BY5 := Lib.hid (BY4.out.below h BY4.out.lt)
          have BP5 := Lib.hid (BP4.out.below h BP4.out.lt)
          have BQ5 := Lib.hid (BQ4.out.below h BQ4.out.lt)
          have HK5 := Lib.hid (HK4.out.call h)
          clear h BR4 BX4 BY4 BP4 BQ4 HK4
          go_wp2_with (first
            | (go_at_call 3; fail)
            | ((with_reducible show wpList _ _ _ (Oper.mk _ (Op.load 25 (Operand.tmp 6)) _ _ _ _ :: _) _ V5); refine wpList_load_at (ty := 25) rfl rfl rfl BR5.out.row HUR.out rfl reqInfo ?_)
            | ((with_reducible show wpList _ _ _ (Oper.mk _ (Op.load 27 (Operand.tmp 7)) _ _ _ _ :: _) _ V5); refine wpList_load_at (ty := 27) rfl rfl rfl BX5.out.row HUX.out rfl thereInfo ?_)
            | ((with_reducible show wpList _ _ _ (Oper.mk _ (Op.load 27 (Operand.tmp 8)) _ _ _ _ :: _) _ V5); refine wpList_load_at (ty := 27) rfl rfl rfl BY5.out.row HUX.out rfl thereInfo ?_)
            | ((with_reducible show wpList _ _ _ (Oper.mk _ (Op.load 31 (Operand.tmp 4)) _ _ _ _ :: _) _ V5); refine wpList_load_at (ty := 31) rfl rfl rfl BP5.out.row HUS.out rfl sessInfo ?_)
            | ((with_reducible show wpList _ _ _ (Oper.mk _ (Op.load 31 (Operand.tmp 5)) _ _ _ _ :: _) _ V5); refine wpList_load_at (ty := 31) rfl rfl rfl BQ5.out.row HUS.out rfl sessInfo ?_))
          refine (grantLogins_any r 5 7 false _ (HG.out.below HK5.out.bel HG.out.pos)).mono ?_
          rintro e V6 ⟨rfl, h⟩
          have BR6 := Lib.hid (BR5.out.below h BR5.out.lt)
          have BX6 := Lib.hid (BX5.out.below h BX5.out.lt)
          have BY6 := Lib.hid (BY5.out.below h BY5.out.lt)
          have BP6 := Lib.hid (BP5.out.below h BP5.out.lt)
          have BQ6 := Lib.hid (BQ5.out.below h BQ5.out.lt)
          have HK6 := Lib.hid (HK5.out.call h)
          clear h BR5 BX5 BY5 BP5 BQ5 HK5
          go_wp2_with (first
            | (go_at_call 4; fail)
            | ((with_reducible show wpList _ _ _ (Oper.mk _ (Op.load 25 (Operand.tmp 6)) _ _ _ _ :: _) _ V6); refine wpList_load_at (ty := 25) rfl rfl rfl BR6.out.row HUR.out rfl reqInfo ?_)
            | ((with_reducible show wpList _ _ _ (Oper.mk _ (Op.load 27 (Operand.tmp 7)) _ _ _ _ :: _) _ V6); refine wpList_load_at (ty := 27) rfl rfl rfl BX6.out.row HUX.out rfl thereInfo ?_)
            | ((with_reducible show wpList _ _ _ (Oper.mk _ (Op.load 27 (Operand.tmp 8)) _ _ _ _ :: _) _ V6); refine wpList_load_at (ty := 27) rfl rfl rfl BY6.out.row HUX.out rfl thereInfo ?_)
            | ((with_reducible show wpList _ _ _ (Oper.mk _ (Op.load 31 (Operand.tmp 4)) _ _ _ _ :: _) _ V6); refine wpList_load_at (ty := 31) rfl rfl rfl BP6.out.row HUS.out rfl sessInfo ?_)
            | ((with_reducible show wpList _ _ _ (Oper.mk _ (Op.load 31 (Operand.tmp 5)) _ _ _ _ :: _) _ V6); refine wpList_load_at (ty := 31) rfl rfl rfl BQ6.out.row HUS.out rfl sessInfo ?_))
          refine (grantChildren_any pp r a b false _ (HG.out.below HK6.out.bel HG.out.pos)).mono ?_
          rintro e V7 ⟨rfl, h⟩
          have BR7 := Lib.hid (BR6.out.below h BR6.out.lt)
          have BX7 := Lib.hid (BX6.out.below h BX6.out.lt)
          have BY7 := Lib.hid (BY6.out.below h BY6.out.lt)
          have BP7 := Lib.hid (BP6.out.below h BP6.out.lt)
          have BQ7 := Lib.hid (BQ6.out.below h BQ6.out.lt)
          have HK7 := Lib.hid (HK6.out.call h)
          clear h BR6 BX6 BY6 BP6 BQ6 HK6
          go_wp2_with (first
            | (go_at_call 4; fail)
            | ((with_reducible show wpList _ _ _ (Oper.mk _ (Op.load 25 (Operand.tmp 6)) _ _ _ _ :: _) _ V7); refine wpList_load_at (ty := 25) rfl rfl rfl BR7.out.row HUR.out rfl reqInfo ?_)
            | ((with_reducible show wpList _ _ _ (Oper.mk _ (Op.load 27 (Operand.tmp 7)) _ _ _ _ :: _) _ V7); refine wpList_load_at (ty := 27) rfl rfl rfl BX7.out.row HUX.out rfl thereInfo ?_)
            | ((with_reducible show wpList _ _ _ (Oper.mk _ (Op.load 27 (Operand.tmp 8)) _ _ _ _ :: _) _ V7); refine wpList_load_at (ty := 27) rfl rfl rfl BY7.out.row HUX.out rfl thereInfo ?_)
            | ((with_reducible show wpList _ _ _ (Oper.mk _ (Op.load 31 (Operand.tmp 4)) _ _ _ _ :: _) _ V7); refine wpList_load_at (ty := 31) rfl rfl rfl BP7.out.row HUS.out rfl sessInfo ?_)
            | ((with_reducible show wpList _ _ _ (Oper.mk _ (Op.load 31 (Operand.tmp 5)) _ _ _ _ :: _) _ V7); refine wpList_load_at (ty := 31) rfl rfl rfl BQ7.out.row HUS.out rfl sessInfo ?_))
          refine (grantChildren_any q r 5 7 false _ (HG.out.below HK7.out.bel HG.out.pos)).mono ?_
          rintro e V8 ⟨rfl, h⟩
          have BR8 := Lib.hid (BR7.out.below h BR7.out.lt)
          have BX8 := Lib.hid (BX7.out.below h BX7.out.lt)
          have BY8 := Lib.hid (BY7.out.below h BY7.out.lt)
          have BP8 := Lib.hid (BP7.out.below h BP7.out.lt)
          have BQ8 := Lib.hid (BQ7.out.below h BQ7.out.lt)
          have HK8 := Lib.hid (HK7.out.call h)
          clear h BR7 BX7 BY7 BP7 BQ7 HK7
          go_wp2_with (first
            | (go_at_call 5; fail)
            | ((with_reducible show wpList _ _ _ (Oper.mk _ (Op.load 25 (Operand.tmp 6)) _ _ _ _ :: _) _ V8); refine wpList_load_at (ty := 25) rfl rfl rfl BR8.out.row HUR.out rfl reqInfo ?_)
            | ((with_reducible show wpList _ _ _ (Oper.mk _ (Op.load 27 (Operand.tmp 7)) _ _ _ _ :: _) _ V8); refine wpList_load_at (ty := 27) rfl rfl rfl BX8.out.row HUX.out rfl thereInfo ?_)
            | ((with_reducible show wpList _ _ _ (Oper.mk _ (Op.load 27 (Operand.tmp 8)) _ _ _ _ :: _) _ V8); refine wpList_load_at (ty := 27) rfl rfl rfl BY8.out.row HUX.out rfl thereInfo ?_)
            | ((with_reducible show wpList _ _ _ (Oper.mk _ (Op.load 31 (Operand.tmp 4)) _ _ _ _ :: _) _ V8); refine wpList_load_at (ty := 31) rfl rfl rfl BP8.out.row HUS.out rfl sessInfo ?_)
            | ((with_reducible show wpList _ _ _ (Oper.mk _ (Op.load 31 (Operand.tmp 5)) _ _ _ _ :: _) _ V8); refine wpList_load_at (ty := 31) rfl rfl rfl BQ8.out.row HUS.out rfl sessInfo ?_))
          refine (grantRaises_any pp r 5 7 false _ (HG.out.below HK8.out.bel HG.out.pos)).mono ?_
          rintro e V9 ⟨rfl, h⟩
          have BR9 := Lib.hid (BR8.out.below h BR8.out.lt)
          have BX9 := Lib.hid (BX8.out.below h BX8.out.lt)
          have BY9 := Lib.hid (BY8.out.below h BY8.out.lt)
          have BP9 := Lib.hid (BP8.out.below h BP8.out.lt)
          have BQ9 := Lib.hid (BQ8.out.below h BQ8.out.lt)
          have HK9 := Lib.hid (HK8.out.call h)
          clear h BR8 BX8 BY8 BP8 BQ8 HK8
          go_wp2_with (first
            | (go_at_call 5; fail)
            | ((with_reducible show wpList _ _ _ (Oper.mk _ (Op.load 25 (Operand.tmp 6)) _ _ _ _ :: _) _ V9); refine wpList_load_at (ty := 25) rfl rfl rfl BR9.out.row HUR.out rfl reqInfo ?_)
            | ((with_reducible show wpList _ _ _ (Oper.mk _ (Op.load 27 (Operand.tmp 7)) _ _ _ _ :: _) _ V9); refine wpList_load_at (ty := 27) rfl rfl rfl BX9.out.row HUX.out rfl thereInfo ?_)
            | ((with_reducible show wpList _ _ _ (Oper.mk _ (Op.load 27 (Operand.tmp 8)) _ _ _ _ :: _) _ V9); refine wpList_load_at (ty := 27) rfl rfl rfl BY9.out.row HUX.out rfl thereInfo ?_)
            | ((with_reducible show wpList _ _ _ (Oper.mk _ (Op.load 31 (Operand.tmp 4)) _ _ _ _ :: _) _ V9); refine wpList_load_at (ty := 31) rfl rfl rfl BP9.out.row HUS.out rfl sessInfo ?_)
            | ((with_reducible show wpList _ _ _ (Oper.mk _ (Op.load 31 (Operand.tmp 5)) _ _ _ _ :: _) _ V9); refine wpList_load_at (ty := 31) rfl rfl rfl BQ9.out.row HUS.out rfl sessInfo ?_))
          refine (grantRaises_any q r a b false _ (HG.out.below HK9.out.bel HG.out.pos)).mono ?_
          rintro e V10 ⟨rfl, h⟩
          have BR10 := Lib.hid (BR9.out.below h BR9.out.lt)
          have BX10 := Lib.hid (BX9.out.below h BX9.out.lt)
          have BY10 := Lib.hid (BY9.out.below h BY9.out.lt)
          have BP10 := Lib.hid (BP9.out.below h BP9.out.lt)
          have BQ10 := Lib.hid (BQ9.out.below h BQ9.out.lt)
          have HK10 := Lib.hid (HK9.out.call h)
          clear h BR9 BX9 BY9 BP9 BQ9 HK9
          go_wp2_with (first
            | (go_at_call 4; fail)
            | ((with_reducible show wpList _ _ _ (Oper.mk _ (Op.load 25 (Operand.tmp 6)) _ _ _ _ :: _) _ V10); refine wpList_load_at (ty := 25) rfl rfl rfl BR10.out.row HUR.out rfl reqInfo ?_)
            | ((with_reducible show wpList _ _ _ (Oper.mk _ (Op.load 27 (Operand.tmp 7)) _ _ _ _ :: _) _ V10); refine wpList_load_at (ty := 27) rfl rfl rfl BX10.out.row HUX.out rfl thereInfo ?_)
            | ((with_reducible show wpList _ _ _ (Oper.mk _ (Op.load 27 (Operand.tmp 8)) _ _ _ _ :: _) _ V10); refine wpList_load_at (ty := 27) rfl rfl rfl BY10.out.row HUX.out rfl thereInfo ?_)
            | ((with_reducible show wpList _ _ _ (Oper.mk _ (Op.load 31 (Operand.tmp 4)) _ _ _ _ :: _) _ V10); refine wpList_load_at (ty := 31) rfl rfl rfl BP10.out.row HUS.out rfl sessInfo ?_)
            | ((with_reducible show wpList _ _ _ (Oper.mk _ (Op.load 31 (Operand.tmp 5)) _ _ _ _ :: _) _ V10); refine wpList_load_at (ty := 31) rfl rfl rfl BQ10.out.row HUS.out rfl sessInfo ?_))
          refine (grantChildren_any pp r 5 7 false _ (HG.out.below HK10.out.bel HG.out.pos)).mono ?_
          rintro e V11 ⟨rfl, h⟩
          have BR11 := Lib.hid (BR10.out.below h BR10.out.lt)
          have BX11 := Lib.hid (BX10.out.below h BX10.out.lt)
          have BY11 := Lib.hid (BY10.out.below h BY10.out.lt)
          have BP11 := Lib.hid (BP10.out.below h BP10.out.lt)
          have BQ11 := Lib.hid (BQ10.out.below h BQ10.out.lt)
          have HK11 := Lib.hid (HK10.out.call h)
          clear h BR10 BX10 BY10 BP10 BQ10 HK10
          go_wp2_with (first
            | (go_at_call 5; fail)
            | ((with_reducible show wpList _ _ _ (Oper.mk _ (Op.load 25 (Operand.tmp 6)) _ _ _ _ :: _) _ V11); refine wpList_load_at (ty := 25) rfl rfl rfl BR11.out.row HUR.out rfl reqInfo ?_)
            | ((with_reducible show wpList _ _ _ (Oper.mk _ (Op.load 27 (Operand.tmp 7)) _ _ _ _ :: _) _ V11); refine wpList_load_at (ty := 27) rfl rfl rfl BX11.out.row HUX.out rfl thereInfo ?_)
            | ((with_reducible show wpList _ _ _ (Oper.mk _ (Op.load 27 (Operand.tmp 8)) _ _ _ _ :: _) _ V11); refine wpList_load_at (ty := 27) rfl rfl rfl BY11.out.row HUX.out rfl thereInfo ?_)
            | ((with_reducible show wpList _ _ _ (Oper.mk _ (Op.load 31 (Operand.tmp 4)) _ _ _ _ :: _) _ V11); refine wpList_load_at (ty := 31) rfl rfl rfl BP11.out.row HUS.out rfl sessInfo ?_)
            | ((with_reducible show wpList _ _ _ (Oper.mk _ (Op.load 31 (Operand.tmp 5)) _ _ _ _ :: _) _ V11); refine wpList_load_at (ty := 31) rfl rfl rfl BQ11.out.row HUS.out rfl sessInfo ?_))
          refine (grantRaises_any q r 5 7 false _ (HG.out.below HK11.out.bel HG.out.pos)).mono ?_
          rintro e V12 ⟨rfl, h⟩
          have BR12 := Lib.hid (BR11.out.below h BR11.out.lt)
          have BX12 := Lib.hid (BX11.out.below h BX11.out.lt)
          have BY12 := Lib.hid (BY11.out.below h BY11.out.lt)
          have BP12 := Lib.hid (BP11.out.below h BP11.out.lt)
          have BQ12 := Lib.hid (BQ11.out.below h BQ11.out.lt)
          have HK12 := Lib.hid (HK11.out.call h)
          clear h BR11 BX11 BY11 BP11 BQ11 HK11
          clear BR12 BX12 BY12 BP12 BQ12
          go_wp2
          go_roundw
          case rel =>
            first
              | exact ⟨⟨k + 1, by omega, by go_num, HK12.out⟩⟩
              | exact ⟨_, _, _, _, _, ⟨⟨k + 1, by omega, by go_num, HK12.out⟩⟩, rfl⟩
          case measure => simp [intOf]; omega
        · go_wp2
          go_roundw
          case rel => exact ⟨⟨i + 1, by omega, by go_num, HK.out⟩⟩
          case measure => simp [intOf]; omega
    · go_wp2
      go_ret
      exact ⟨rfl, HK.out.bel⟩
end Go.Proofs.YthoibafhbacfiaaDoor
