import Derived.Test.YtnofnolkdijocaaMost2
namespace Go.Proofs.Ytnofnolkdijocaa
open Go.RowKit Go.Sort

set_option maxRecDepth 100000 in
set_option maxHeartbeats 8000000 in
theorem most_A (A B : Option Addr) (ca cb : Nat) (xs ys : List Sess) (now : Int) (w : World) (hA : SessIn w A xs) (hB : SessIn w B ys) (hx : xs.length ≤ 1000) (hy : ys.length ≤ 1000) (x y : Sess) (fine : Bool) (ex : bestOf now xs = (x, true)) (ey : bestOf now ys = (y, fine)) (ez : bestOf now (xs ++ ys) = (x, true)) :
    Calls Try.prog 4 #[.slice A xs.length ca, .slice B ys.length cb, .int .i64 now] w (RetBelow (.bool true) w) := by
  have HXS := Lib.hid hA
  have HYS := Lib.hid hB
  have HX := Lib.hid hx
  have HY := Lib.hid hy
  have HBX : Hid (∀ w, SessIn w A xs → Calls Try.prog 9 #[.slice A xs.length ca, .int .i64 now] w (RetBelow (.tuple #[.agg (Sess.cells x), .bool true]) w)) := Lib.hid fun w h => by have := best_any A ca xs now w h (by omega); rw [ex] at this; exact this
  have HBY : Hid (∀ w, SessIn w B ys → Calls Try.prog 9 #[.slice B ys.length cb, .int .i64 now] w (RetBelow (.tuple #[.agg (Sess.cells y), .bool fine]) w)) := Lib.hid fun w h => by have := best_any B cb ys now w h (by omega); rw [ey] at this; exact this
  have HBZ : Hid (∀ w C cc n, n = (xs ++ ys).length → SessIn w C (xs ++ ys) → Calls Try.prog 9 #[.slice C n cc, .int .i64 now] w (RetBelow (.tuple #[.agg (Sess.cells x), .bool true]) w)) := Lib.hid fun w C cc n hn h => by have := best_any C cc (xs ++ ys) now w h (by rw [List.length_append]; omega); rw [ez, ← hn] at this; exact this
  have HBT : Hid (∀ w C cc n, n = (xs ++ xs).length → SessIn w C (xs ++ xs) → Calls Try.prog 9 #[.slice C n cc, .int .i64 now] w (RetBelow (.tuple #[.agg (Sess.cells x), .bool true]) w)) := Lib.hid fun w C cc n hn h => by have := best_any C cc (xs ++ xs) now w h (by rw [List.length_append]; omega); rw [best_twice, ex, ← hn] at this; exact this
  have hx' : ¬ (1000 : Int) < (xs.length : Int) := by omega
  have hy' : ¬ (1000 : Int) < (ys.length : Int) := by omega
  have hx1 : (xs.length : Int) ≤ 1000 := by omega
  have HLIVE : Hid (∀ s ∈ xs, now < s.deadline → s.level ≤ x.level) := Lib.hid (fun s hs hd => by have := (best_live now xs s hs hd).2; rw [ex] at this; exact this)
  have HAM : Hid (xs.any (·.same x) = true) := Lib.hid (among_in (by have := (best_one now xs (by rw [ex])).1; rw [ex] at this; exact this))
  have HDL : Hid (¬ x.deadline ≤ now) := Lib.hid (by have := (best_one now xs (by rw [ex])).2; rw [ex] at this; simp only at this; omega)
  clear hA hB hx hy ex ey ez
  go_enter Try.func4, Try.ntmps4
  go_wp2_with (first | (go_at_call 11; refine (works_any _).mono ?_; rintro e w1 ⟨rfl, hb1⟩) | (go_at_call 9; fail))
  have HB1 := Lib.hid hb1
  have s1 := hb1.size
  refine (HBX.out w1 (SessIn.below HXS.out hb1)).mono ?_
  rintro e w2 ⟨rfl, hb2⟩
  have HB2 := Lib.hid (HB1.out.trans (hb2.mono s1))
  have s2 := HB2.out.size
  clear hb1 hb2 HB1 s1
  have HXB := Lib.hid (Blk.new w2 28 (Sess.cells x))
  have HB3 := Lib.hid (HB2.out.alloc s2 (.cells (Sess.cells x) 28))
  go_wp2_with (first | (refine wpList_store_new rfl rfl rfl rfl rfl (Sess.one _) info28 ?_))
  go_loopw [9] (MostRel w w2.heap.size xs.length x) (fun i _ => xs.length - (intOf i).toNat)
  case atStart => exact ⟨⟨0, Nat.zero_le _, rfl, HXB.out, HB3.out⟩⟩
  case round =>
    clear HXB HB3 HB2
    obtain ⟨⟨k, hk, rfl, hXB, hbel⟩⟩ := hrel
    have HXB := Lib.hid hXB
    have BEL := Lib.hid hbel
    have hsz := hbel.size
    have hxlt := hXB.lt
    by_cases hlt : k < xs.length
    · obtain ⟨t, ht⟩ : ∃ t, xs[k]? = some t := ⟨_, List.getElem?_eq_getElem hlt⟩
      obtain ⟨b, off, rfl, hb, hrow⟩ := HXS.out (by omega)
      have hbw : b < wr.heap.size := Nat.lt_of_lt_of_le hb hsz
      have hat := (hrow k t ht).below hbel hb
      have h9 : wr.cell? ⟨b, off + k * 12 + 10, none⟩ = some (.int .i64 t.deadline) := hat.at_ 10 _ rfl
      have h8 : wr.cell? ⟨b, off + k * 12 + 8, none⟩ = some (.int .i64 t.level) := hat.at_ 8 _ rfl
      have hx8 : wr.cell? ⟨w2.heap.size, 8, none⟩ = some (.int .i64 (Sess.level x)) := hXB.cell 8
      have hlv := HLIVE.out t (List.mem_of_getElem? ht)
      have hcr := cells_regrown wr
      have hkl : (k : Int) < (xs.length : Int) := by omega
      clear ht hrow hXB hbel hat
      by_cases hd : now < t.deadline
      · have hl := hlv hd
        have hnl : decide (Sess.level x < t.level) = false := by simp; omega
        clear hlv
        go_wp2
        refine wp_region_quiet_below (by kernel_rfl) (by kernel_rfl) ?_
        repeat (first
          | go_big_quiet_skip
          | (go_big_quiet_want; go_big_quiet_op; go_big_quiet_on))
        refine wpQuiet_nil ?_
        intro v1 hC1
        have hb1 := below_class hC1
        clear hC1 hcr h9 h8 hx8
        go_wp2
        go_roundw
        case rel => exact ⟨⟨k + 1, by omega, by go_num, HXB.out.below hb1 hxlt, BEL.out.trans (hb1.mono hsz)⟩⟩
        case measure => simp [intOf]; omega
      · have hd' : decide (now < t.deadline) = false := by simpa using hd
        clear hlv hd
        go_wp2
        refine wp_region_quiet_below (by kernel_rfl) (by kernel_rfl) ?_
        repeat (first
          | go_big_quiet_skip
          | (go_big_quiet_want; go_big_quiet_op; go_big_quiet_on))
        refine wpQuiet_nil ?_
        intro v1 hC1
        have hb1 := below_class hC1
        clear hC1 hcr h9 h8 hx8
        go_wp2
        go_roundw
        case rel => exact ⟨⟨k + 1, by omega, by go_num, HXB.out.below hb1 hxlt, BEL.out.trans (hb1.mono hsz)⟩⟩
        case measure => simp [intOf]; omega
    · have hkl : ¬ (k : Int) < (xs.length : Int) := by omega
      clear hXB hbel
      have hx10 : wr.cell? ⟨w2.heap.size, 10, none⟩ = some (.int .i64 (Sess.deadline x)) := HXB.out.cell 10
      go_wp2_with (first | (refine wpList_load_at rfl rfl rfl HXB.out.row rfl rfl info28 ?_) | (go_at_call 12; fail))
      refine (among_any A ca xs x wr (SessIn.below HXS.out BEL.out) HX.out).mono ?_
      rintro e w3 ⟨rfl, hb3⟩
      rw [HAM.out]
      have BEL3 := Lib.hid (BEL.out.trans (hb3.mono hsz))
      have s3 := BEL3.out.size
      have HXB3 := Lib.hid (HXB.out.below hb3 hxlt)
      have hx10' : w3.cell? ⟨w2.heap.size, 10, none⟩ = some (.int .i64 (Sess.deadline x)) := HXB3.out.cell 10
      have hl3 := HXB3.out.lt
      have hdl := HDL.out
      clear hb3 HXB BEL hsz hx10
      go_wp2_with (first | (refine wpList_load_at rfl rfl rfl HXB3.out.row rfl rfl info28 ?_) | (go_at_call 9; fail))
      clear hx10' hdl
      refine (HBY.out w3 (SessIn.below HYS.out BEL3.out)).mono ?_
      rintro e w4 ⟨rfl, hb4⟩
      have BEL4 := Lib.hid (BEL3.out.trans (hb4.mono s3))
      have s4 := BEL4.out.size
      have HXB4 := Lib.hid (HXB3.out.below hb4 hl3)
      have l4 := HXB4.out.lt
      clear hb4 HXB3 BEL3 s3 hl3
      have HYB5 : Hid (Blk (w4.alloc (.cells (Sess.cells y) 28)) w4.heap.size 28 (Sess.cells y)) := Lib.hid (Blk.new _ _ _)
      have HXB5 : Hid (Blk (w4.alloc (.cells (Sess.cells y) 28)) w2.heap.size 28 (Sess.cells x)) := Lib.hid (HXB4.out.alloc _)
      have BEL5 : Hid (RowKit.Below w.heap.size w (w4.alloc (.cells (Sess.cells y) 28))) := Lib.hid (BEL4.out.alloc s4 _)
      have s5 := BEL5.out.size
      clear HXB4 BEL4 l4
      obtain ⟨base, hbase⟩ : ∃ base, (w4.alloc (.cells (Sess.cells y) 28)).heap.size = base := ⟨_, rfl⟩
      have H0 : Hid ((w4.alloc (.cells (Sess.cells y) 28)).ownsRow base 28 12 (.slice none 0 0) 0 (flat Sess.cells [])) := Lib.hid ⟨rfl, .inl ⟨rfl, rfl⟩⟩
      have HXI := Lib.hid (SessIn.below HXS.out BEL5.out)
      have HYI := Lib.hid (SessIn.below HYS.out BEL5.out)
      have HXL := Lib.hid (show xs.length ≤ 2000 by have := HX.out; omega)
      have HXL2 := Lib.hid (show xs.length + ys.length ≤ 2000 by have := HX.out; have := HY.out; omega)
      have HBS := Lib.hid hbase
      go_wp2_with (first
        | (refine wpList_store_new rfl rfl rfl rfl rfl (Sess.one _) info28 ?_)
        | (at_builtin; refine wpList_append_first rfl _ _ rfl (v := .slice none 0 0) (xs := xs) rfl H0.out rfl rfl HXI.out HXL.out (Nat.le_of_eq HBS.out.symm) ?_; intro A1 c1 w6 hown1 hin1 hgr1; have hb6 : RowKit.Below base _ w6 := bel_grown (Below.refl _ _) hgr1 H0.out (Nat.le_refl _) (Nat.le_of_eq HBS.out.symm))
        | (at_builtin; refine wpList_append_list rfl _ _ rfl (zs := xs) (xs := ys) rfl rfl hown1 rfl rfl (SessIn.below HYI.out (hb6.mono (Nat.le_of_eq HBS.out))) HXL2.out (hbase ▸ hb6.size) ?_; intro A2 c2 w7 hown2 hin2 hgr2; have hb7 : RowKit.Below base _ w7 := bel_grown hb6 hgr2 hown1 (Nat.le_refl _) (hbase ▸ hb6.size))
        | (go_at_call 9; fail))
      have BEL7 := Lib.hid (BEL5.out.trans (hb7.mono (HBS.out ▸ s5)))
      have s7 := BEL7.out.size
      have HXB7 := Lib.hid (HXB5.out.below hb7 (HBS.out ▸ HXB5.out.lt))
      have HYB7 := Lib.hid (HYB5.out.below hb7 (HBS.out ▸ HYB5.out.lt))
      refine (HBZ.out w7 A2 c2 _ (by simp) hin2).mono ?_
      rintro e w8 ⟨rfl, hb8⟩
      have HXB8 := Lib.hid (HXB7.out.below hb8 HXB7.out.lt)
      have HYB8 := Lib.hid (HYB7.out.below hb8 HYB7.out.lt)
      have BEL8 := Lib.hid (BEL7.out.trans (hb8.mono s7))
      have s8 := BEL8.out.size
      clear hown1 hin1 hgr1 hb6 hown2 hin2 hgr2 hb7 hb8 H0 HXI HYI HXB7 HYB7 BEL7 s7 HXB5 HYB5 BEL5 s5 hbase HBS
      have HZB10 : Hid (Blk ((w8.alloc (.cells (Sess.cells x) 28)).alloc (.cells #[] 28)) w8.heap.size 28 (Sess.cells x)) := Lib.hid ((Blk.new _ _ _).alloc _)
      have HXB10 : Hid (Blk ((w8.alloc (.cells (Sess.cells x) 28)).alloc (.cells #[] 28)) w2.heap.size 28 (Sess.cells x)) := Lib.hid ((HXB8.out.alloc _).alloc _)
      have HYB10 : Hid (Blk ((w8.alloc (.cells (Sess.cells x) 28)).alloc (.cells #[] 28)) w4.heap.size 28 (Sess.cells y)) := Lib.hid ((HYB8.out.alloc _).alloc _)
      have BEL10 : Hid (RowKit.Below w.heap.size w ((w8.alloc (.cells (Sess.cells x) 28)).alloc (.cells #[] 28))) := Lib.hid ((BEL8.out.alloc s8 _).alloc (by simp; omega) _)
      have lx8 := HXB8.out.lt
      have ly8 := HYB8.out.lt
      have H0 : Hid (((w8.alloc (.cells (Sess.cells x) 28)).alloc (.cells #[] 28)).ownsRow (w8.heap.size + 1) 28 12 (.slice (some ⟨w8.heap.size + 1, 0, none⟩) 0 0) 0 (flat Sess.cells [])) := Lib.hid ⟨rfl, .inr ⟨w8.heap.size + 1, 0, #[], rfl, Nat.le_refl _, by have := heap_alloc_new (w8.alloc (.cells (Sess.cells x) 28)) (.cells #[] 28); simpa using this, Nat.le_refl _, by decide, rfl, rfl⟩⟩
      have HXI := Lib.hid (SessIn.below HXS.out BEL10.out)
      have HXL2 := Lib.hid (show xs.length + xs.length ≤ 2000 by have := HX.out; omega)
      have hz10 : w8.heap.size + 1 ≤ ((w8.alloc (.cells (Sess.cells x) 28)).alloc (.cells #[] 28)).heap.size := by simp
      have HZ10 := Lib.hid hz10
      clear hz10
      go_wp2_with (first
        | (refine wpList_store_new rfl rfl rfl rfl rfl (Sess.one _) info28 ?_)
        | (at_builtin; refine wpList_append_first rfl _ _ rfl (xs := xs) rfl H0.out rfl rfl HXI.out HXL.out HZ10.out ?_; intro A1 c1 w11 hown1 hin1 hgr1; have hb11 : RowKit.Below (w8.heap.size + 1) _ w11 := bel_grown (Below.refl _ _) hgr1 H0.out (Nat.le_refl _) HZ10.out)
        | (at_builtin; refine wpList_append_list rfl _ _ rfl (zs := xs) (xs := xs) rfl rfl hown1 rfl rfl (SessIn.below HXS.out (BEL10.out.trans (hb11.mono (Nat.le_succ_of_le s8)))) HXL2.out (Nat.le_trans HZ10.out hb11.size) ?_; intro A2 c2 w12 hown2 hin2 hgr2; have hb12 : RowKit.Below (w8.heap.size + 1) _ w12 := bel_grown hb11 hgr2 hown1 (Nat.le_refl _) (Nat.le_trans HZ10.out hb11.size))
        | (go_at_call 9; fail))
      have BEL12 := Lib.hid (BEL10.out.trans (hb12.mono (Nat.le_succ_of_le s8)))
      have s12 := BEL12.out.size
      have HXB12 := Lib.hid (HXB10.out.below hb12 (Nat.lt_succ_of_lt lx8))
      have HYB12 := Lib.hid (HYB10.out.below hb12 (Nat.lt_succ_of_lt ly8))
      have HZB12 := Lib.hid (HZB10.out.below hb12 (Nat.lt_succ_self _))
      refine (HBT.out w12 A2 c2 _ (by simp) hin2).mono ?_
      rintro e w13 ⟨rfl, hb13⟩
      have HXB13 := Lib.hid (HXB12.out.below hb13 HXB12.out.lt)
      have HYB13 := Lib.hid (HYB12.out.below hb13 HYB12.out.lt)
      have HZB13 := Lib.hid (HZB12.out.below hb13 HZB12.out.lt)
      have BEL13 := Lib.hid (BEL12.out.trans (hb13.mono s12))
      have s13 := BEL13.out.size
      clear hown1 hin1 hgr1 hb11 hown2 hin2 hgr2 hb12 hb13 H0 HXI HXB10 HYB10 HZB10 BEL10 HXB12 HYB12 HZB12 BEL12 s12 HXB8 HYB8 BEL8 HZ10 lx8 ly8
      have hsm := fun x => Sess.same_refl x
      have heq := fun s t w => eql_sess s t w
      have hnq := fun s t w => neq_sess s t w
      have lx13 := HXB13.out.lt
      have ly13 := HYB13.out.lt
      have lz13 := HZB13.out.lt
      skip
      all_goals go_wp2_with (first
        | (refine wpList_store_new rfl rfl rfl rfl rfl (Sess.one _) info28 ?_)
        | (refine wpList_load_at rfl rfl rfl (Blk.new w13 28 _).row rfl rfl info28 ?_)
        | (refine wpList_load_at rfl rfl rfl (HXB13.out.alloc _).row rfl rfl info28 ?_)
        | (refine wpList_load_at rfl rfl rfl (HZB13.out.alloc _).row rfl rfl info28 ?_)
        | (refine wpList_load_at rfl rfl rfl (HYB13.out.alloc _).row rfl rfl info28 ?_))
      all_goals go_ret
      all_goals exact ⟨rfl, BEL13.out.alloc s13 _⟩
end Go.Proofs.Ytnofnolkdijocaa
