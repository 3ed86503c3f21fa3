/-
  lineagelaw16.knownLinks; RingKnown.
-/
import Derived.Test.YtdgdbcapojgnlaaDoorRgPlays
import Derived.Test.YtdgdbcapojgnlaaDoorRgKn
import Derived.Test.YtdgdbcapojgnlaaDoorGj
namespace Go.Proofs.YtdgdbcapojgnlaaDoor
set_option maxRecDepth 100000
open Go.RowKit Go.Shelf
attribute [local go_sem] Oper.semAt_some

def flat16 (l : List Act16) : List Value := l.flatMap fun (x : Act16) => x.cells.toList
theorem flat16_at : ∀ (l : List Act16) (k j : Nat) (x : Act16), l[k]? = some x → j < 4 → (flat16 l)[k * 4 + j]? = x.cells[j]?
  | [], k, j, x, h, _ => by simp at h
  | a :: l, 0, j, x, h, hj => by
    simp only [List.getElem?_cons_zero, Option.some.injEq] at h
    subst h
    have e : a.cells.toList.length = 4 := rfl
    unfold flat16
    rw [List.flatMap_cons, List.getElem?_append_left (by omega)]
    simp
  | a :: l, k + 1, j, x, h, hj => by
    have e : a.cells.toList.length = 4 := rfl
    unfold flat16
    rw [List.flatMap_cons, List.getElem?_append_right (by omega), e, show (k + 1) * 4 + j - 4 = k * 4 + j by omega]
    exact flat16_at l k j x (by simpa using h) hj
theorem acts16_of {w : World} {B : Nat} {t : TypeId} {l : List Act16} (h : Blk w B t (flat16 l).toArray) : Acts16At w (some ⟨B, 0, none⟩) l := fun _ =>
  ⟨B, 0, rfl, h.lt, fun k y hy => ⟨fun j v hv => by
    have hj : j < 4 := (Array.getElem?_eq_some_iff.1 hv).1
    rw [Nat.zero_add, h.cell, List.getElem?_toArray, flat16_at l k j y hy hj]
    exact hv⟩⟩
def endsL : List Int := [-9223372036854775808, -2, -1, 0, 1, 2, 31, 32, 9223372036854775807]
def linksL (X Y : Int) : List Act16 := [⟨0, 0, -1, 0⟩, ⟨0, 1, 0, 0⟩, ⟨0, 2, 1, 0⟩, ⟨0, X, Y, 0⟩, ⟨2, X, Y, 0⟩, ⟨3, X, Y, 0⟩, ⟨4, X, 99, 0⟩, ⟨5, 1, X, Y⟩, ⟨4, 2, 39, 0⟩, ⟨2, 2, 0, 0⟩, ⟨2, 0, 2, 0⟩, ⟨0, 5, 2, 0⟩, ⟨3, 2, 5, 0⟩, ⟨5, Y, X, 0⟩, ⟨3, 0, Y, 0⟩]
def linksPs (X Y : Int) : Array (Nat × Value) := #[(0, .agg #[.int .i64 0, .int .i64 0, .int .i64 (-1), .int .i64 0]), (1, .agg #[.int .i64 0, .int .i64 1, .int .i64 0, .int .i64 0]), (2, .agg #[.int .i64 0, .int .i64 2, .int .i64 1, .int .i64 0]), (3, .agg #[.int .i64 0, .int .i64 X, .int .i64 Y, .int .i64 0]), (4, .agg #[.int .i64 2, .int .i64 X, .int .i64 Y, .int .i64 0]), (5, .agg #[.int .i64 3, .int .i64 X, .int .i64 Y, .int .i64 0]), (6, .agg #[.int .i64 4, .int .i64 X, .int .i64 99, .int .i64 0]), (7, .agg #[.int .i64 5, .int .i64 1, .int .i64 X, .int .i64 Y]), (8, .agg #[.int .i64 4, .int .i64 2, .int .i64 39, .int .i64 0]), (9, .agg #[.int .i64 2, .int .i64 2, .int .i64 0, .int .i64 0]), (10, .agg #[.int .i64 2, .int .i64 0, .int .i64 2, .int .i64 0]), (11, .agg #[.int .i64 0, .int .i64 5, .int .i64 2, .int .i64 0]), (12, .agg #[.int .i64 3, .int .i64 2, .int .i64 5, .int .i64 0]), (13, .agg #[.int .i64 5, .int .i64 Y, .int .i64 X, .int .i64 0]), (14, .agg #[.int .i64 3, .int .i64 0, .int .i64 Y, .int .i64 0])]
theorem built_links (X Y : Int) : ∀ w : World, (Instr.buildSlice 51 15 (linksPs X Y)).run Tryd.prog w = .ok (.slice (some ⟨w.heap.size, 0, none⟩) 15 15) (w.alloc (.cells (flat16 (linksL X Y)).toArray 53)) := fun w => by kernel_rfl
set_option maxHeartbeats 8000000 in
theorem knownLinks16_any (w : World) (hL : Laid w) : Calls Tryd.prog 23 #[] w (RetB (.bool true) w) := by
  have hge := hL.pos
  have HL := Lib.hid hL
  clear hL
  go_enter Tryd.func23, Tryd.ntmps23
  go_wp2
  obtain ⟨V, hV⟩ : ∃ V, w.alloc (.cells #[.int .i64 (-9223372036854775808), .int .i64 (-2), .int .i64 (-1), .int .i64 0, .int .i64 1, .int .i64 2, .int .i64 31, .int .i64 32, .int .i64 9223372036854775807] 3) = V := ⟨_, rfl⟩
  have hB : Blk V w.heap.size 3 #[.int .i64 (-9223372036854775808), .int .i64 (-2), .int .i64 (-1), .int .i64 0, .int .i64 1, .int .i64 2, .int .i64 31, .int .i64 32, .int .i64 9223372036854775807] := by rw [← hV]; exact Blk.new _ _ _
  have hbV : Below w.heap.size w V := by rw [← hV]; exact (Below.refl _ _).alloc (Nat.le_refl _) _
  have hends : ∀ (k : Nat) (x : Int), endsL[k]? = some x → V.cell? ⟨w.heap.size, k, none⟩ = some (.int .i64 x) := by
    intro k x hx
    rw [hB.cell]
    match k, hx with
    | 0, hj => simp [endsL] at hj; subst hj; rfl
    | 1, hj => simp [endsL] at hj; subst hj; rfl
    | 2, hj => simp [endsL] at hj; subst hj; rfl
    | 3, hj => simp [endsL] at hj; subst hj; rfl
    | 4, hj => simp [endsL] at hj; subst hj; rfl
    | 5, hj => simp [endsL] at hj; subst hj; rfl
    | 6, hj => simp [endsL] at hj; subst hj; rfl
    | 7, hj => simp [endsL] at hj; subst hj; rfl
    | 8, hj => simp [endsL] at hj; subst hj; rfl
    | k + 9, hj => simp [endsL] at hj
  have hVs : w.heap.size < V.heap.size := by rw [← hV]; simp
  have HE := Lib.hid hends
  have BV := Lib.hid hbV
  have LV := Lib.hid (HL.out.below hbV hge)
  rw [hV]
  clear hV hB hbV hends
  go_loopw [2] (fun i wr => ∃ n : Nat, n ≤ 9 ∧ i = .int .i64 n ∧ Below V.heap.size V wr) (fun i _ => 9 - (intOf i).toNat)
  case atStart => exact ⟨0, by omega, rfl, Below.refl _ _⟩
  case round =>
    obtain ⟨n, hn, rfl, hb⟩ := hrel
    have HB := Lib.hid hb
    clear hb
    by_cases hlt : n < 9
    · have hni : (n : Int) < 9 := by omega
      obtain ⟨X, hX⟩ : ∃ X, endsL[n]? = some X := ⟨_, List.getElem?_eq_getElem hlt⟩
      have HX := Lib.hid hX
      clear hX
      go_wp2
      go_loopw [3] (fun i wr' => ∃ m : Nat, m ≤ 9 ∧ i = .int .i64 m ∧ Below V.heap.size V wr') (fun i _ => 9 - (intOf i).toNat)
      case atStart => exact ⟨0, by omega, rfl, HB.out⟩
      case round =>
        obtain ⟨m, hm, rfl, hb⟩ := hrel
        have HB2 := Lib.hid hb
        by_cases hlt2 : m < 9
        · have hmi : (m : Int) < 9 := by omega
          obtain ⟨Y, hY⟩ : ∃ Y, endsL[m]? = some Y := ⟨_, List.getElem?_eq_getElem hlt2⟩
          have cX : wr.cell? ⟨w.heap.size, n, none⟩ = some (.int .i64 X) := (hb.cell (p := ⟨w.heap.size, n, none⟩) hVs).trans (HE.out n X HX.out)
          have cY : wr.cell? ⟨w.heap.size, m, none⟩ = some (.int .i64 Y) := (hb.cell (p := ⟨w.heap.size, m, none⟩) hVs).trans (HE.out m Y hY)
          clear hY hb
          go_upto_region 8 with fail
          have dX := cell_regrown cX
          have dY := cell_regrown cY
          refine wp_region_quiet_tail_below 63 (by kernel_rfl) (by kernel_rfl) ?_
          simp only [List.append, List.take_succ_cons, List.take_zero, List.drop_succ_cons, List.drop_zero]
          repeat (first | go_big_quiet_skip | (go_big_quiet_want; go_big_quiet_op; first | go_big_quiet_on))
          refine wpQuiet_nil ?_
          intro v0 hC
          have hb0 := HB2.out.trans ((below_class hC).mono HB2.out.size)
          clear hC dX dY cX cY
          refine wpList_buildSlice_run (ps := linksPs X Y) rfl rfl (by kernel_rfl) (built_links X Y) ?_
          have hbV' : Below V.heap.size V (v0.alloc (.cells (flat16 (linksL X Y)).toArray 53)) := hb0.alloc hb0.size _
          have HRP := Lib.hid (rplays_any (some ⟨v0.heap.size, 0, none⟩) 15 (linksL X Y) (v0.alloc (.cells (flat16 (linksL X Y)).toArray 53)) (acts16_of (Blk.new _ _ _)) (by simp [linksL]) (LV.out.below hbV' (by omega)))
          have HBV := Lib.hid hbV'
          clear hb0 hbV'
          simp only [Act.put]
          generalize (v0.alloc (.cells (flat16 (linksL X Y)).toArray 53)) = V9 at *
          go_wp2_with (go_at_call 5; fail)
          refine HRP.out.mono ?_
          rintro e w5 ⟨rfl, hb5⟩
          have HB5 := Lib.hid (HBV.out.trans (hb5.mono HBV.out.size))
          clear hb5 HRP
          go_wp2
          go_roundw
          case rel => exact ⟨m + 1, by omega, by go_num, HB5.out⟩
          case measure => simp [intOf] <;> omega
        · obtain rfl : m = 9 := by omega
          clear hb
          go_wp2
          go_roundw
          case rel => exact ⟨n + 1, by omega, by go_num, HB2.out⟩
          case measure => simp [intOf] <;> omega
    · obtain rfl : n = 9 := by omega
      go_wp2
      go_ret
      exact ⟨rfl, BV.out.trans (HB.out.mono BV.out.size)⟩
theorem ringKnown_any (w : World) (hL : Laid w) : Calls Tryd.prog 6 #[] w (RetB (.bool true) w) := by
  have hge := hL.pos
  have HL := Lib.hid hL
  clear hL
  go_enter Tryd.func6, Tryd.ntmps6
  go_wp2_with (go_at_call 21; fail)
  refine (knownSaid16_any w HL.out).mono ?_
  rintro e w1 ⟨rfl, hb1⟩
  have B1 := Lib.hid hb1
  clear hb1
  go_wp2_with (go_at_call 22; fail)
  refine (knownSmall16_any w1).mono ?_
  rintro e w2 ⟨rfl, hb2⟩
  have B2 := Lib.hid (B1.out.trans (hb2.mono B1.out.size))
  clear hb2 B1
  go_wp2_with (go_at_call 23; fail)
  refine (knownLinks16_any w2 (HL.out.below B2.out hge)).mono ?_
  rintro e w3 ⟨rfl, hb3⟩
  have B3 := Lib.hid (B2.out.trans (hb3.mono B2.out.size))
  clear hb3 B2
  go_wp2
  go_ret
  exact ⟨rfl, B3.out⟩
end Go.Proofs.YtdgdbcapojgnlaaDoor
