/-
  The document's Login; a session below another one.
-/
import Derived.Test.YthoibafhbacfiaaDoorGRef1
import Derived.Test.YthoibafhbacfiaaDoorGBorn
import Derived.Test.YthoibafhbacfiaaDoorGLogin
import Derived.Test.YthoibafhbacfiaaDoorGChild
import Derived.Deep.RegionHeld3
namespace Go.Proofs.YthoibafhbacfiaaDoor
set_option maxRecDepth 100000
open Go.RowKit

/-- What the document's below tells. -/
def belowQ (p : Sess) (r : Req) (now births : Int) : Sess := if belowNo p r now = 0 then ⟨0, wrap64 (births + 1), p.slot, p.birth, 0, p.user, r.label, 0#64, 0, now, tillZ now r.life p.deadline, p.depth + 1⟩ else Sess.zero
theorem q_of (d : Int) : ∃ q : Int, (if d = 0 then 12 else 0 : Int) = q := ⟨_, rfl⟩
set_option maxHeartbeats 4000000 in
theorem rlogin_any (r : Req) (now births : Int) (full : Bool) (w : World) : Calls Tryd.prog 8 #[.agg r.cells, .int .i64 now, .int .i64 births, .bool full] w (RetB (.tuple #[.agg (loginR r now births full).cells, .int .i64 (loginNo r now births full)]) w) := by
  have HUS := Lib.hid Tryd.underlying31
  have HT0 := Lib.hid (fun w => runtil_any now r.life 1099511627776 w)
  have HN0 := Lib.hid (fun w => rname_any r.user w)
  have HL0 := Lib.hid (fun w => risL_any r.level w)
  have HRm := Lib.hid (fun w => rroom_any births full w)
  obtain ⟨d, hd⟩ : ∃ d, tillZ now r.life 1099511627776 = d := ⟨_, rfl⟩
  obtain ⟨m, hm⟩ : ∃ m, roomNo births full = m := ⟨_, rfl⟩
  by_cases hn : nameB r.user = true
  · rw [hn] at HN0
    by_cases hl : isLev r.level = true
    · rw [hl] at HL0
      by_cases hz : d = 0
      · have hno : loginNo r now births full = 12 := by unfold loginNo; rw [if_neg (by simp [hn]), if_neg (by simp [hl]), if_pos (hd.trans hz)]
        rw [(show loginR r now births full = Sess.zero from if_neg (by rw [hno]; decide)), hno]
        obtain ⟨W, hW⟩ : ∃ W, (w.alloc (.cells r.cells 25)).alloc (.cells zeroC 31) = W := ⟨_, rfl⟩
        have bR : Blk W w.heap.size 25 r.cells := hW ▸ (Blk.new w _ _).alloc _
        have HZ := Lib.hid (show Blk W (w.heap.size + 1) 31 zeroC from hW ▸ Blk.new_at (by simp))
        have HB := Lib.hid (show Below w.heap.size w W from hW ▸ bel_alloc (bel_alloc (Below.refl _ _) _) _)
        have c0 := (bR.cell 0).trans r.c0
        have c2 := (bR.cell 2).trans r.c2
        have c3 := (bR.cell 3).trans r.c3
        have c4 := (bR.cell 4).trans r.c4
        have HT := HT0
        have HNm := HN0
        have HLv := HL0
        rw [hd] at HT
        unfold untilR at HT
        rw [hm] at HRm
        rw [if_pos hz] at HT
        clear hn hl hz
        clear hno hd hm
        clear bR
        unfold zeroC at hW
        go_enter Tryd.func8, Tryd.ntmps8
        go_wp2_with (first
          | (go_at_call 25; refine (HT.out _).mono ?_; rintro e w' ⟨rfl, rfl⟩)
          | (go_at_call 26; refine (HNm.out _).mono ?_; rintro e w' ⟨rfl, rfl⟩)
          | (go_at_call 27; refine (HLv.out _).mono ?_; rintro e w' ⟨rfl, rfl⟩)
          | (go_at_call 28; refine (HRm.out _).mono ?_; rintro e w' ⟨rfl, rfl⟩)
          | (refine wpList_store_all (ty := 31) (vs := Sess.zero.cells) rfl rfl rfl rfl HZ.out rfl (Sess.one _) sessInfo ?_))
        exact bodyPost_ret (results_at_tmp rfl rfl (Blk.setRow_same HZ.out _).row HUS.out rfl sessInfo) rfl ⟨rfl, bel_setRow HB.out (by omega) _⟩
      · by_cases hmz : m = 0
        · have hno : loginNo r now births full = 0 := by unfold loginNo; rw [if_neg (by simp [hn]), if_neg (by simp [hl]), if_neg (fun e => hz (hd.symm.trans e)), hm, hmz]
          have hS : loginS r now births = ⟨0, births + 1, 0, 0, 0, r.user, ⟨#[]⟩, r.scopes, r.level, now, d, 0⟩ := by unfold loginS; rw [hd]
          have hwr : IntKind.i64.wrap (births + 1) = births + 1 := IntWalk.i64_in _ (by have := roomNo_ok (hm.trans hmz); omega)
          rw [(show loginR r now births full = loginS r now births from if_pos hno), hS, hno]
          obtain ⟨W, hW⟩ : ∃ W, (w.alloc (.cells r.cells 25)).alloc (.cells zeroC 31) = W := ⟨_, rfl⟩
          have bR : Blk W w.heap.size 25 r.cells := hW ▸ (Blk.new w _ _).alloc _
          have HZ := Lib.hid (show Blk W (w.heap.size + 1) 31 zeroC from hW ▸ Blk.new_at (by simp))
          have HB := Lib.hid (show Below w.heap.size w W from hW ▸ bel_alloc (bel_alloc (Below.refl _ _) _) _)
          have c0 := (bR.cell 0).trans r.c0
          have c2 := (bR.cell 2).trans r.c2
          have c3 := (bR.cell 3).trans r.c3
          have c4 := (bR.cell 4).trans r.c4
          have HT := HT0
          have HNm := HN0
          have HLv := HL0
          rw [hd] at HT
          unfold untilR at HT
          rw [hm] at HRm
          rw [if_neg hz] at HT
          rw [hmz] at HRm
          clear hn hl hz
          clear hno hd hm hmz hS
          clear bR
          unfold zeroC at hW
          go_enter Tryd.func8, Tryd.ntmps8
          go_wp2_with (first
            | (go_at_call 25; refine (HT.out _).mono ?_; rintro e w' ⟨rfl, rfl⟩)
            | (go_at_call 26; refine (HNm.out _).mono ?_; rintro e w' ⟨rfl, rfl⟩)
            | (go_at_call 27; refine (HLv.out _).mono ?_; rintro e w' ⟨rfl, rfl⟩)
            | (go_at_call 28; refine (HRm.out _).mono ?_; rintro e w' ⟨rfl, rfl⟩)
            | (refine wpList_store_all (ty := 31) (vs := (⟨0, births + 1, 0, 0, 0, r.user, ⟨#[]⟩, r.scopes, r.level, now, d, 0⟩ : Sess).cells) rfl rfl rfl rfl HZ.out rfl (Sess.one _) sessInfo ?_))
          exact bodyPost_ret (results_at_tmp rfl rfl (Blk.setRow_same HZ.out _).row HUS.out rfl sessInfo) rfl ⟨rfl, bel_setRow HB.out (by omega) _⟩
        · have hno : loginNo r now births full = m := by unfold loginNo; rw [if_neg (by simp [hn]), if_neg (by simp [hl]), if_neg (fun e => hz (hd.symm.trans e)), hm]
          rw [(show loginR r now births full = Sess.zero from if_neg (by rw [hno]; exact hmz)), hno]
          obtain ⟨W, hW⟩ : ∃ W, (w.alloc (.cells r.cells 25)).alloc (.cells zeroC 31) = W := ⟨_, rfl⟩
          have bR : Blk W w.heap.size 25 r.cells := hW ▸ (Blk.new w _ _).alloc _
          have HZ := Lib.hid (show Blk W (w.heap.size + 1) 31 zeroC from hW ▸ Blk.new_at (by simp))
          have HB := Lib.hid (show Below w.heap.size w W from hW ▸ bel_alloc (bel_alloc (Below.refl _ _) _) _)
          have c0 := (bR.cell 0).trans r.c0
          have c2 := (bR.cell 2).trans r.c2
          have c3 := (bR.cell 3).trans r.c3
          have c4 := (bR.cell 4).trans r.c4
          have HT := HT0
          have HNm := HN0
          have HLv := HL0
          rw [hd] at HT
          unfold untilR at HT
          rw [hm] at HRm
          rw [if_neg hz] at HT
          have hm0 : (m != 0) = true := by simp [hmz]
          clear hn hl hz
          clear hno hd hm hmz
          clear bR
          unfold zeroC at hW
          go_enter Tryd.func8, Tryd.ntmps8
          go_wp2_with (first
            | (go_at_call 25; refine (HT.out _).mono ?_; rintro e w' ⟨rfl, rfl⟩)
            | (go_at_call 26; refine (HNm.out _).mono ?_; rintro e w' ⟨rfl, rfl⟩)
            | (go_at_call 27; refine (HLv.out _).mono ?_; rintro e w' ⟨rfl, rfl⟩)
            | (go_at_call 28; refine (HRm.out _).mono ?_; rintro e w' ⟨rfl, rfl⟩)
            | (refine wpList_store_all (ty := 31) (vs := Sess.zero.cells) rfl rfl rfl rfl HZ.out rfl (Sess.one _) sessInfo ?_))
          exact bodyPost_ret (results_at_tmp rfl rfl (Blk.setRow_same HZ.out _).row HUS.out rfl sessInfo) rfl ⟨rfl, bel_setRow HB.out (by omega) _⟩
    · rw [Bool.not_eq_true] at hl
      rw [hl] at HL0
      have hno : loginNo r now births full = 13 := by unfold loginNo; rw [if_neg (by simp [hn]), if_pos hl]
      rw [(show loginR r now births full = Sess.zero from if_neg (by rw [hno]; decide)), hno]
      obtain ⟨W, hW⟩ : ∃ W, (w.alloc (.cells r.cells 25)).alloc (.cells zeroC 31) = W := ⟨_, rfl⟩
      have bR : Blk W w.heap.size 25 r.cells := hW ▸ (Blk.new w _ _).alloc _
      have HZ := Lib.hid (show Blk W (w.heap.size + 1) 31 zeroC from hW ▸ Blk.new_at (by simp))
      have HB := Lib.hid (show Below w.heap.size w W from hW ▸ bel_alloc (bel_alloc (Below.refl _ _) _) _)
      have c0 := (bR.cell 0).trans r.c0
      have c2 := (bR.cell 2).trans r.c2
      have c3 := (bR.cell 3).trans r.c3
      have c4 := (bR.cell 4).trans r.c4
      have HT := HT0
      have HNm := HN0
      have HLv := HL0
      rw [hd] at HT
      unfold untilR at HT
      rw [hm] at HRm
      obtain ⟨q, hq⟩ := q_of d
      rw [hq] at HT
      clear hq
      clear hn hl
      clear hno hd hm
      clear bR
      unfold zeroC at hW
      go_enter Tryd.func8, Tryd.ntmps8
      go_wp2_with (first
        | (go_at_call 25; refine (HT.out _).mono ?_; rintro e w' ⟨rfl, rfl⟩)
        | (go_at_call 26; refine (HNm.out _).mono ?_; rintro e w' ⟨rfl, rfl⟩)
        | (go_at_call 27; refine (HLv.out _).mono ?_; rintro e w' ⟨rfl, rfl⟩)
        | (go_at_call 28; refine (HRm.out _).mono ?_; rintro e w' ⟨rfl, rfl⟩)
        | (refine wpList_store_all (ty := 31) (vs := Sess.zero.cells) rfl rfl rfl rfl HZ.out rfl (Sess.one _) sessInfo ?_))
      exact bodyPost_ret (results_at_tmp rfl rfl (Blk.setRow_same HZ.out _).row HUS.out rfl sessInfo) rfl ⟨rfl, bel_setRow HB.out (by omega) _⟩
  · rw [Bool.not_eq_true] at hn
    rw [hn] at HN0
    have hno : loginNo r now births full = 8 := by unfold loginNo; rw [if_pos hn]
    rw [(show loginR r now births full = Sess.zero from if_neg (by rw [hno]; decide)), hno]
    obtain ⟨W, hW⟩ : ∃ W, (w.alloc (.cells r.cells 25)).alloc (.cells zeroC 31) = W := ⟨_, rfl⟩
    have bR : Blk W w.heap.size 25 r.cells := hW ▸ (Blk.new w _ _).alloc _
    have HZ := Lib.hid (show Blk W (w.heap.size + 1) 31 zeroC from hW ▸ Blk.new_at (by simp))
    have HB := Lib.hid (show Below w.heap.size w W from hW ▸ bel_alloc (bel_alloc (Below.refl _ _) _) _)
    have c0 := (bR.cell 0).trans r.c0
    have c2 := (bR.cell 2).trans r.c2
    have c3 := (bR.cell 3).trans r.c3
    have c4 := (bR.cell 4).trans r.c4
    have HT := HT0
    have HNm := HN0
    have HLv := HL0
    rw [hd] at HT
    unfold untilR at HT
    rw [hm] at HRm
    obtain ⟨q, hq⟩ := q_of d
    rw [hq] at HT
    clear hq
    clear hn
    clear hno hd hm
    clear bR
    unfold zeroC at hW
    go_enter Tryd.func8, Tryd.ntmps8
    go_wp2_with (first
      | (go_at_call 25; refine (HT.out _).mono ?_; rintro e w' ⟨rfl, rfl⟩)
      | (go_at_call 26; refine (HNm.out _).mono ?_; rintro e w' ⟨rfl, rfl⟩)
      | (go_at_call 27; refine (HLv.out _).mono ?_; rintro e w' ⟨rfl, rfl⟩)
      | (go_at_call 28; refine (HRm.out _).mono ?_; rintro e w' ⟨rfl, rfl⟩)
      | (refine wpList_store_all (ty := 31) (vs := Sess.zero.cells) rfl rfl rfl rfl HZ.out rfl (Sess.one _) sessInfo ?_))
    exact bodyPost_ret (results_at_tmp rfl rfl (Blk.setRow_same HZ.out _).row HUS.out rfl sessInfo) rfl ⟨rfl, bel_setRow HB.out (by omega) _⟩
set_option maxHeartbeats 4000000 in
theorem rbelow_any (p : Sess) (r : Req) (now births : Int) (w : World) : Calls Tryd.prog 34 #[.agg p.cells, .agg r.cells, .int .i64 now, .int .i64 births] w (RetB (.tuple #[.agg (belowQ p r now births).cells, .int .i64 (belowNo p r now)]) w) := by
  have HUS := Lib.hid Tryd.underlying31
  have HT0 := Lib.hid (fun w => runtil_any now r.life p.deadline w)
  have HN0 := Lib.hid (fun w => rname_any r.label w)
  obtain ⟨d, hd⟩ : ∃ d, tillZ now r.life p.deadline = d := ⟨_, rfl⟩
  by_cases hn : nameB r.label = true
  · rw [hn] at HN0
    by_cases hz : d = 0
    · have hno : belowNo p r now = 12 := by unfold belowNo; rw [if_neg (by simp [hn]), if_pos (hd.trans hz)]
      rw [(show belowQ p r now births = Sess.zero from if_neg (by rw [hno]; decide)), hno]
      obtain ⟨W, hW⟩ : ∃ W, ((w.alloc (.cells p.cells 31)).alloc (.cells r.cells 25)).alloc (.cells zeroC 31) = W := ⟨_, rfl⟩
      have bP : Blk W w.heap.size 31 p.cells := hW ▸ ((Blk.new w _ _).alloc _).alloc _
      have bR : Blk W (w.heap.size + 1) 25 r.cells := hW ▸ (Blk.new_at (by simp)).alloc _
      have HZ := Lib.hid (show Blk W (w.heap.size + 1 + 1) 31 zeroC from hW ▸ Blk.new_at (by simp))
      have HB := Lib.hid (show Below w.heap.size w W from hW ▸ bel_alloc (bel_alloc (bel_alloc (Below.refl _ _) _) _) _)
      have c1 := (bR.cell 1).trans r.c1
      have c4 := (bR.cell 4).trans r.c4
      have d0 := (bP.cell 0).trans p.c0
      have d1 := (bP.cell 1).trans p.c1
      have d5 := (bP.cell 5).trans p.c5
      have d10 := (bP.cell 10).trans p.c10
      have d11 := (bP.cell 11).trans p.c11
      have HT := HT0
      have HNm := HN0
      rw [hd] at HT
      unfold untilR at HT
      rw [if_pos hz] at HT
      clear hn hz
      clear hno hd
      clear bR bP
      unfold zeroC at hW
      go_enter Tryd.func34, Tryd.ntmps34
      go_wp2_with (first
        | (go_at_call 25; refine (HT.out _).mono ?_; rintro e w' ⟨rfl, rfl⟩)
        | (go_at_call 26; refine (HNm.out _).mono ?_; rintro e w' ⟨rfl, rfl⟩)
        | (refine wpList_store_all (ty := 31) (vs := Sess.zero.cells) rfl rfl rfl rfl HZ.out rfl (Sess.one _) sessInfo ?_))
      exact bodyPost_ret (results_at_tmp rfl rfl (Blk.setRow_same HZ.out _).row HUS.out rfl sessInfo) rfl ⟨rfl, bel_setRow HB.out (by omega) _⟩
    · by_cases h0 : p.depth < 0
      · have hno : belowNo p r now = 17 := by unfold belowNo; rw [if_neg (by simp [hn]), if_neg (fun e => hz (hd.symm.trans e)), if_pos (.inl h0)]
        rw [(show belowQ p r now births = Sess.zero from if_neg (by rw [hno]; decide)), hno]
        obtain ⟨W, hW⟩ : ∃ W, ((w.alloc (.cells p.cells 31)).alloc (.cells r.cells 25)).alloc (.cells zeroC 31) = W := ⟨_, rfl⟩
        have bP : Blk W w.heap.size 31 p.cells := hW ▸ ((Blk.new w _ _).alloc _).alloc _
        have bR : Blk W (w.heap.size + 1) 25 r.cells := hW ▸ (Blk.new_at (by simp)).alloc _
        have HZ := Lib.hid (show Blk W (w.heap.size + 1 + 1) 31 zeroC from hW ▸ Blk.new_at (by simp))
        have HB := Lib.hid (show Below w.heap.size w W from hW ▸ bel_alloc (bel_alloc (bel_alloc (Below.refl _ _) _) _) _)
        have c1 := (bR.cell 1).trans r.c1
        have c4 := (bR.cell 4).trans r.c4
        have d0 := (bP.cell 0).trans p.c0
        have d1 := (bP.cell 1).trans p.c1
        have d5 := (bP.cell 5).trans p.c5
        have d10 := (bP.cell 10).trans p.c10
        have d11 := (bP.cell 11).trans p.c11
        have HT := HT0
        have HNm := HN0
        rw [hd] at HT
        unfold untilR at HT
        rw [if_neg hz] at HT
        clear hn hz
        clear hno hd
        clear bR bP
        unfold zeroC at hW
        go_enter Tryd.func34, Tryd.ntmps34
        go_wp2_with (first
          | (go_at_call 25; refine (HT.out _).mono ?_; rintro e w' ⟨rfl, rfl⟩)
          | (go_at_call 26; refine (HNm.out _).mono ?_; rintro e w' ⟨rfl, rfl⟩)
          | (refine wpList_store_all (ty := 31) (vs := Sess.zero.cells) rfl rfl rfl rfl HZ.out rfl (Sess.one _) sessInfo ?_))
        exact bodyPost_ret (results_at_tmp rfl rfl (Blk.setRow_same HZ.out _).row HUS.out rfl sessInfo) rfl ⟨rfl, bel_setRow HB.out (by omega) _⟩
      · by_cases h6 : 6 ≤ p.depth
        · have hno : belowNo p r now = 17 := by unfold belowNo; rw [if_neg (by simp [hn]), if_neg (fun e => hz (hd.symm.trans e)), if_pos (.inr h6)]
          rw [(show belowQ p r now births = Sess.zero from if_neg (by rw [hno]; decide)), hno]
          obtain ⟨W, hW⟩ : ∃ W, ((w.alloc (.cells p.cells 31)).alloc (.cells r.cells 25)).alloc (.cells zeroC 31) = W := ⟨_, rfl⟩
          have bP : Blk W w.heap.size 31 p.cells := hW ▸ ((Blk.new w _ _).alloc _).alloc _
          have bR : Blk W (w.heap.size + 1) 25 r.cells := hW ▸ (Blk.new_at (by simp)).alloc _
          have HZ := Lib.hid (show Blk W (w.heap.size + 1 + 1) 31 zeroC from hW ▸ Blk.new_at (by simp))
          have HB := Lib.hid (show Below w.heap.size w W from hW ▸ bel_alloc (bel_alloc (bel_alloc (Below.refl _ _) _) _) _)
          have c1 := (bR.cell 1).trans r.c1
          have c4 := (bR.cell 4).trans r.c4
          have d0 := (bP.cell 0).trans p.c0
          have d1 := (bP.cell 1).trans p.c1
          have d5 := (bP.cell 5).trans p.c5
          have d10 := (bP.cell 10).trans p.c10
          have d11 := (bP.cell 11).trans p.c11
          have HT := HT0
          have HNm := HN0
          rw [hd] at HT
          unfold untilR at HT
          rw [if_neg hz] at HT
          clear hn hz
          clear hno hd
          clear bR bP
          unfold zeroC at hW
          go_enter Tryd.func34, Tryd.ntmps34
          go_wp2_with (first
            | (go_at_call 25; refine (HT.out _).mono ?_; rintro e w' ⟨rfl, rfl⟩)
            | (go_at_call 26; refine (HNm.out _).mono ?_; rintro e w' ⟨rfl, rfl⟩)
            | (refine wpList_store_all (ty := 31) (vs := Sess.zero.cells) rfl rfl rfl rfl HZ.out rfl (Sess.one _) sessInfo ?_))
          exact bodyPost_ret (results_at_tmp rfl rfl (Blk.setRow_same HZ.out _).row HUS.out rfl sessInfo) rfl ⟨rfl, bel_setRow HB.out (by omega) _⟩
        · have hno : belowNo p r now = 0 := by unfold belowNo; rw [if_neg (by simp [hn]), if_neg (fun e => hz (hd.symm.trans e)), if_neg (by omega)]
          rw [(show belowQ p r now births = ⟨0, wrap64 (births + 1), p.slot, p.birth, 0, p.user, r.label, 0#64, 0, now, tillZ now r.life p.deadline, p.depth + 1⟩ from if_pos hno), hd, hno]
          obtain ⟨W, hW⟩ : ∃ W, ((w.alloc (.cells p.cells 31)).alloc (.cells r.cells 25)).alloc (.cells zeroC 31) = W := ⟨_, rfl⟩
          have bP : Blk W w.heap.size 31 p.cells := hW ▸ ((Blk.new w _ _).alloc _).alloc _
          have bR : Blk W (w.heap.size + 1) 25 r.cells := hW ▸ (Blk.new_at (by simp)).alloc _
          have HZ := Lib.hid (show Blk W (w.heap.size + 1 + 1) 31 zeroC from hW ▸ Blk.new_at (by simp))
          have HB := Lib.hid (show Below w.heap.size w W from hW ▸ bel_alloc (bel_alloc (bel_alloc (Below.refl _ _) _) _) _)
          have c1 := (bR.cell 1).trans r.c1
          have c4 := (bR.cell 4).trans r.c4
          have d0 := (bP.cell 0).trans p.c0
          have d1 := (bP.cell 1).trans p.c1
          have d5 := (bP.cell 5).trans p.c5
          have d10 := (bP.cell 10).trans p.c10
          have d11 := (bP.cell 11).trans p.c11
          have HT := HT0
          have HNm := HN0
          rw [hd] at HT
          unfold untilR at HT
          rw [if_neg hz] at HT
          have hwd : IntKind.i64.wrap (p.depth + 1) = p.depth + 1 := IntWalk.i64_in _ (by omega)
          clear hn hz
          clear hno hd
          clear bR bP
          unfold zeroC at hW
          go_enter Tryd.func34, Tryd.ntmps34
          go_wp2_with (first
            | (go_at_call 25; refine (HT.out _).mono ?_; rintro e w' ⟨rfl, rfl⟩)
            | (go_at_call 26; refine (HNm.out _).mono ?_; rintro e w' ⟨rfl, rfl⟩)
            | (refine wpList_store_all (ty := 31) (vs := (⟨0, wrap64 (births + 1), p.slot, p.birth, 0, p.user, r.label, 0#64, 0, now, d, p.depth + 1⟩ : Sess).cells) rfl rfl rfl rfl HZ.out rfl (Sess.one _) sessInfo ?_))
          exact bodyPost_ret (results_at_tmp rfl rfl (Blk.setRow_same HZ.out _).row HUS.out rfl sessInfo) rfl ⟨rfl, bel_setRow HB.out (by omega) _⟩
  · rw [Bool.not_eq_true] at hn
    rw [hn] at HN0
    have hno : belowNo p r now = 8 := by unfold belowNo; rw [if_pos hn]
    rw [(show belowQ p r now births = Sess.zero from if_neg (by rw [hno]; decide)), hno]
    obtain ⟨W, hW⟩ : ∃ W, ((w.alloc (.cells p.cells 31)).alloc (.cells r.cells 25)).alloc (.cells zeroC 31) = W := ⟨_, rfl⟩
    have bP : Blk W w.heap.size 31 p.cells := hW ▸ ((Blk.new w _ _).alloc _).alloc _
    have bR : Blk W (w.heap.size + 1) 25 r.cells := hW ▸ (Blk.new_at (by simp)).alloc _
    have HZ := Lib.hid (show Blk W (w.heap.size + 1 + 1) 31 zeroC from hW ▸ Blk.new_at (by simp))
    have HB := Lib.hid (show Below w.heap.size w W from hW ▸ bel_alloc (bel_alloc (bel_alloc (Below.refl _ _) _) _) _)
    have c1 := (bR.cell 1).trans r.c1
    have c4 := (bR.cell 4).trans r.c4
    have d0 := (bP.cell 0).trans p.c0
    have d1 := (bP.cell 1).trans p.c1
    have d5 := (bP.cell 5).trans p.c5
    have d10 := (bP.cell 10).trans p.c10
    have d11 := (bP.cell 11).trans p.c11
    have HT := HT0
    have HNm := HN0
    rw [hd] at HT
    unfold untilR at HT
    obtain ⟨q, hq⟩ := q_of d
    rw [hq] at HT
    clear hq
    clear hn
    clear hno hd
    clear bR bP
    unfold zeroC at hW
    go_enter Tryd.func34, Tryd.ntmps34
    go_wp2_with (first
      | (go_at_call 25; refine (HT.out _).mono ?_; rintro e w' ⟨rfl, rfl⟩)
      | (go_at_call 26; refine (HNm.out _).mono ?_; rintro e w' ⟨rfl, rfl⟩)
      | (refine wpList_store_all (ty := 31) (vs := Sess.zero.cells) rfl rfl rfl rfl HZ.out rfl (Sess.one _) sessInfo ?_))
    exact bodyPost_ret (results_at_tmp rfl rfl (Blk.setRow_same HZ.out _).row HUS.out rfl sessInfo) rfl ⟨rfl, bel_setRow HB.out (by omega) _⟩
end Go.Proofs.YthoibafhbacfiaaDoor
