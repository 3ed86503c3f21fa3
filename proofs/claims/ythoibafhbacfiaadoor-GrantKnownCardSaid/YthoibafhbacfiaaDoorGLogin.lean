/-
  Package grant: Login.
-/
import Derived.Test.YthoibafhbacfiaaDoorGFirst2
import Derived.Test.YthoibafhbacfiaaDoorGBorn
import Derived.Shelf.Abstract
import Derived.Deep.RegionHeld3
namespace Go.Proofs.YthoibafhbacfiaaDoor
set_option maxRecDepth 100000
open Go.RowKit Go.Shelf

theorem RulesAt.nil (b : Nat) (w : World) : RulesAt b w [] := ⟨fun j r h => by simp at h, fun j r h => by simp at h⟩
theorem RulesAt.cons {b : Nat} {w : World} {r : Rule} {l : List Rule} (h1 : ∀ args w', (callFunc r.f args).run Tryd.prog w' = .ok (.enter r.f args) w')
    (h2 : ∀ w', Below w.heap.size w w' → Calls Tryd.prog r.f #[.pointer (some ⟨b, 0, none⟩)] w' (RetB (.bool r.c) w')) (h : RulesAt b w l) : RulesAt b w (r :: l) :=
  ⟨fun j x hx => by
    cases j with
    | zero => simp at hx; subst hx; exact h1
    | succ j => exact h.fn j x (by simpa using hx),
   fun j x hx => by
    cases j with
    | zero => simp at hx; subst hx; exact h2
    | succ j => exact h.calls j x (by simpa using hx)⟩
theorem room_rules (x : Int) (f : Bool) (a b : FuncId) : firstNo [⟨18, a, decide (x < 0) || decide (1048576 ≤ x)⟩, ⟨19, b, f⟩] = roomNo x f := by
  unfold firstNo roomNo firstNo firstNo
  by_cases h : x < 0 ∨ 1048576 ≤ x
  · rw [if_pos h, if_pos (by simpa using h)]
  · rw [if_neg h, if_neg (by simpa using h)]
theorem roomNo_ok {x : Int} {f : Bool} (h : roomNo x f = 0) : 0 ≤ x ∧ x < 1048576 := by
  unfold roomNo at h
  split at h
  · cases h
  · omega
def rulesLogin (B : Bir) : List Rule :=
  [⟨8, 19, !nameB B.r.user⟩, ⟨13, 20, !isLev B.r.level⟩, ⟨12, 21, decide (B.till = 0)⟩, ⟨18, 22, decide (B.births < 0) || decide (1048576 ≤ B.births)⟩, ⟨19, 23, B.full⟩]
theorem rulesLogin_at {B : Bir} {b : Nat} {w : World} (h : Blk w b 70 B.cells) : RulesAt b w (rulesLogin B) := by
  have hb : ∀ w', Below w.heap.size w w' → Blk w' b 70 B.cells := fun w' hw => h.below hw h.lt
  refine .cons (enters_of Tryd.func19 (by kernel_rfl) rfl) (fun w' hw => noUser_any (hb w' hw)) ?_
  refine .cons (enters_of Tryd.func20 (by kernel_rfl) rfl) (fun w' hw => noLevel_any (hb w' hw)) ?_
  refine .cons (enters_of Tryd.func21 (by kernel_rfl) rfl) (fun w' hw => noTime_any (hb w' hw)) ?_
  refine .cons (enters_of Tryd.func22 (by kernel_rfl) rfl) (fun w' hw => noBirths_any (hb w' hw)) ?_
  exact .cons (enters_of Tryd.func23 (by kernel_rfl) rfl) (fun w' hw => noRoom_any (hb w' hw)) (.nil b w)
theorem rulesLogin_pos (B : Bir) : ∀ (j : Nat) (r : Rule), (rulesLogin B)[j]? = some r → r.no ≠ 0 := fun j r h => by
  have hm := List.mem_of_getElem? h
  simp only [rulesLogin, List.mem_cons, List.not_mem_nil, or_false] at hm
  rcases hm with rfl | rfl | rfl | rfl | rfl <;> simp
theorem rulesLogin_no (p : Sess) (r : Req) (now births : Int) (full : Bool) : firstNo (rulesLogin (askedB p r now births full (tillZ now r.life 1099511627776))) = loginNo r now births full := by
  unfold rulesLogin loginNo
  rw [firstNo, firstNo, firstNo, room_rules]
  simp only [askedB]
  by_cases hn : nameB r.user = true <;> by_cases hl : isLev r.level = true <;> by_cases h : tillZ now r.life 1099511627776 = 0 <;> simp [h, hn, hl]
def cellsLogin : Array Value := #[.int .i64 8, .func (.func 19) #[] #[], .int .i64 13, .func (.func 20) #[] #[], .int .i64 12, .func (.func 21) #[] #[], .int .i64 18, .func (.func 22) #[] #[], .int .i64 19, .func (.func 23) #[] #[]]
theorem bs_login (w : World) : (Instr.buildSlice 73 5 #[(0, .agg #[.int .i64 8, .func (.func 19) #[] #[]]), (1, .agg #[.int .i64 13, .func (.func 20) #[] #[]]), (2, .agg #[.int .i64 12, .func (.func 21) #[] #[]]), (3, .agg #[.int .i64 18, .func (.func 22) #[] #[]]), (4, .agg #[.int .i64 19, .func (.func 23) #[] #[]])]).run Tryd.prog w = .ok (.slice (some ⟨w.heap.size, 0, none⟩) 5 5) (w.alloc (.cells cellsLogin 50)) := by kernel_rfl
theorem cellsLogin_eq (B : Bir) : cellsLogin = (flat Rule.cells (rulesLogin B)).toArray := rfl
theorem login_ok {r : Req} {now births : Int} {full : Bool} (h : loginNo r now births full = 0) : 0 ≤ births ∧ births < 1048576 := by
  unfold loginNo at h
  repeat' split at h
  all_goals first | (cases h; done) | exact roomNo_ok h
set_option maxHeartbeats 4000000 in
theorem login_any (r : Req) (now births : Int) (full : Bool) (w : World) : Calls Tryd.prog 7 #[.agg r.cells, .int .i64 now, .int .i64 births, .bool full] w (RetB (.tuple #[.agg (loginR r now births full).cells, errK (loginNo r now births full)]) w) := by
  by_cases hz : loginNo r now births full = 0
  · have hS : loginR r now births full = (loginS r now births) := if_pos hz
    rw [hS, hz, errK_zero]
    have HZ0 := Lib.hid hz
    clear hS hz
    have HUS := Lib.hid Tryd.underlying31
    have HUR := Lib.hid Tryd.underlying25
    obtain ⟨W, hW⟩ : ∃ W, (w.alloc (.cells r.cells 25)).alloc (.cells zeroC 31) = W := ⟨_, rfl⟩
    have bR : Blk W w.heap.size 25 r.cells := hW ▸ (Blk.new w _ _).alloc _
    have bZ : Blk W (w.heap.size + 1) 31 zeroC := hW ▸ Blk.new_at (by simp)
    have hB : Below w.heap.size w W := hW ▸ bel_alloc (bel_alloc (Below.refl _ _) _) _
    have HR := Lib.hid bR.row
    have HBR := Lib.hid bR
    have HBZ := Lib.hid bZ
    have HB := Lib.hid hB
    clear bR bZ hB
    have HA := Lib.hid (asked_any Sess.zero r now births full 1099511627776 W)
    unfold zeroC at hW
    go_enter Tryd.func7, Tryd.ntmps7
    go_wp2_with (first
      | (refine wpList_load_at (ty := 25) rfl rfl rfl HR.out HUR.out rfl reqInfo ?_)
      | (refine wpList_build_as (ty := 31) rfl rfl rfl built_zeroS ?_)
      | (go_at_call 17; fail))
    refine HA.out.mono ?_
    rintro e W1 ⟨hb1, b, hbge, rfl, hblk⟩
    have HB1 := Lib.hid (HB.out.trans (hb1.mono HB.out.size))
    have HBR1 := Lib.hid (HBR.out.below hb1 HBR.out.lt)
    have HBZ1 := Lib.hid (HBZ.out.below hb1 HBZ.out.lt)
    have hne : (w.heap.size + 1) ≠ b := by have := HBZ.out.lt; omega
    have hblk2 := hblk.alloc (.cells cellsLogin 50)
    have HF := Lib.hid (first_any (rulesLogin (askedB Sess.zero r now births full (tillZ now r.life 1099511627776))) b W1.heap.size (W1.alloc (.cells cellsLogin 50)) (by simp [rulesLogin]) (Blk.new W1 _ _) (rulesLogin_at hblk2) (rulesLogin_pos _))
    rw [rulesLogin_no, HZ0.out, errK_zero] at HF
    have HK := Lib.hid hblk2
    clear hb1 hbge hblk hblk2 HA HB HBR HBZ HR hW
    go_wp2_with (first
      | (refine wpList_buildSlice_run rfl rfl (by simp [Act.eval, Act.put]) bs_login ?_)
      | (go_at_call 18; fail))
    refine HF.out.mono ?_
    rintro e W2 ⟨rfl, h2⟩
    have hA := bel_alloc HB1.out (.cells cellsLogin 50)
    have HB2 := Lib.hid (hA.trans (h2.mono hA.size))
    have HBR2 := Lib.hid ((HBR1.out.alloc _).below h2 (HBR1.out.alloc (.cells cellsLogin 50)).lt)
    have HBZ2 := Lib.hid ((HBZ1.out.alloc _).below h2 (HBZ1.out.alloc (.cells cellsLogin 50)).lt)
    have HK2 := Lib.hid (HK.out.below h2 HK.out.lt)
    clear h2 hA HF HB1 HBR1 HBZ1 HK hne
    obtain ⟨S, hS⟩ : ∃ S : Sess, ({ bornS (askedB Sess.zero r now births full (tillZ now r.life 1099511627776)) 0 with user := r.user } : Sess) = S := ⟨_, rfl⟩
    have HFIN := Lib.hid (show (({ S with scopes := r.scopes, level := r.level } : Sess)) = (loginS r now births) from by rw [← hS]; rfl)
    have HQ := Lib.hid (born_login HK2.out (login_ok HZ0.out).1 (login_ok HZ0.out).2)
    have HQ := Lib.hid (show Calls Tryd.prog 24 #[.pointer (some ⟨b, 0, none⟩), .int .i64 0] W2 (RetB (.agg S.cells) W2) from hS ▸ HQ.out)
    clear hS
    go_wp2_with (go_at_call 24; fail)
    refine HQ.out.mono ?_
    rintro e W3 ⟨rfl, h3⟩
    obtain ⟨V, hV⟩ : ∃ V, W3.alloc (.cells S.cells 31) = V := ⟨_, rfl⟩
    have bN : Blk V W3.heap.size 31 S.cells := hV ▸ Blk.new W3 _ _
    have bR3 : Blk V w.heap.size 25 r.cells := hV ▸ ((HBR2.out.below h3 HBR2.out.lt).alloc _)
    have bZ3 : Blk V (w.heap.size + 1) 31 zeroC := hV ▸ ((HBZ2.out.below h3 HBZ2.out.lt).alloc _)
    have HB3 := Lib.hid (show Below w.heap.size w V from hV ▸ bel_alloc (HB2.out.trans (h3.mono HB2.out.size)) _)
    have HNE := Lib.hid (show (w.heap.size + 1) ≠ W3.heap.size from Nat.ne_of_lt (HBZ2.out.below h3 HBZ2.out.lt).lt)
    have HW3 := Lib.hid (show w.heap.size ≤ W3.heap.size from (HB2.out.trans (h3.mono HB2.out.size)).size)
    have e1 := (bR3.cell 2).trans r.c2
    have e2 := (bR3.cell 3).trans r.c3
    have k7 := (bN.cell 7).trans S.c7
    have k8 := (bN.cell 8).trans S.c8
    have f7 := bN.frozen 7
    have f8 := bN.frozen 8
    have HN := Lib.hid bN
    have HZ3 := Lib.hid bZ3
    clear h3 bN bR3 bZ3 HQ HB2 HBR2 HBZ2 HK2
    go_wp2_with (refine wpList_store_new (ty := 31) rfl rfl rfl rfl rfl (Sess.one _) sessInfo ?_)
    refine wp_region_noPanic ?_
    go_region
    all_goals (
      refine NoPanic.normal ?_
      obtain ⟨V2, hV2⟩ : ∃ V2, ((V.setCell ⟨W3.heap.size, 7, none⟩ (.int .u64 (wd r.scopes))).setCell ⟨W3.heap.size, 8, none⟩ (.int .i64 r.level)).drew = V2 := ⟨_, rfl⟩
      rw [hV2]
      have hR := Lib.hid (show RowAt V2 W3.heap.size 0 (loginS r now births).cells from by rw [← HFIN.out]; exact hV2 ▸ ((HN.out.set_ 7 (.int .u64 (wd r.scopes))).set_ 8 (.int .i64 r.level)).drew.row)
      have hZ4 := Lib.hid (show Blk V2 (w.heap.size + 1) 31 zeroC from hV2 ▸ ((HZ3.out.far (p := ⟨W3.heap.size, 7, none⟩) HNE.out _).far (p := ⟨W3.heap.size, 8, none⟩) HNE.out _).drew)
      have HB4 := Lib.hid (show Below w.heap.size w V2 from hV2 ▸ (bel_set (bel_set HB3.out (p := ⟨W3.heap.size, 7, none⟩) HW3.out _) (p := ⟨W3.heap.size, 8, none⟩) HW3.out _).drew)
      clear hV2 hV e1 e2 k7 k8 f7 f8 HN HZ3 HB3 HFIN
      go_wp2_with (first
        | (refine wpList_load_at (ty := 31) rfl rfl rfl hR.out HUS.out rfl sessInfo ?_)
        | (refine wpList_store_all (ty := 31) rfl rfl rfl rfl hZ4.out rfl (Sess.one _) sessInfo ?_))
      exact bodyPost_ret (results_at_tmp rfl rfl (Blk.setRow_same hZ4.out _).row HUS.out rfl sessInfo) rfl ⟨rfl, bel_setRow HB4.out (by omega) _⟩)
  · have hS : loginR r now births full = Sess.zero := if_neg hz
    obtain ⟨k, hk⟩ : ∃ k, loginNo r now births full = k := ⟨_, rfl⟩
    rw [hk] at hz
    rw [hS, hk, errK_pos hz]
    unfold errno
    have HKK := Lib.hid hk
    have HNK := Lib.hid hz
    clear hS hk hz
    have HUS := Lib.hid Tryd.underlying31
    have HUR := Lib.hid Tryd.underlying25
    obtain ⟨W, hW⟩ : ∃ W, (w.alloc (.cells r.cells 25)).alloc (.cells zeroC 31) = W := ⟨_, rfl⟩
    have bR : Blk W w.heap.size 25 r.cells := hW ▸ (Blk.new w _ _).alloc _
    have bZ : Blk W (w.heap.size + 1) 31 zeroC := hW ▸ Blk.new_at (by simp)
    have hB : Below w.heap.size w W := hW ▸ bel_alloc (bel_alloc (Below.refl _ _) _) _
    have HR := Lib.hid bR.row
    have HBR := Lib.hid bR
    have HBZ := Lib.hid bZ
    have HB := Lib.hid hB
    clear bR bZ hB
    have HA := Lib.hid (asked_any Sess.zero r now births full 1099511627776 W)
    unfold zeroC at hW
    go_enter Tryd.func7, Tryd.ntmps7
    go_wp2_with (first
      | (refine wpList_load_at (ty := 25) rfl rfl rfl HR.out HUR.out rfl reqInfo ?_)
      | (refine wpList_build_as (ty := 31) rfl rfl rfl built_zeroS ?_)
      | (go_at_call 17; fail))
    refine HA.out.mono ?_
    rintro e W1 ⟨hb1, b, hbge, rfl, hblk⟩
    have HB1 := Lib.hid (HB.out.trans (hb1.mono HB.out.size))
    have HBR1 := Lib.hid (HBR.out.below hb1 HBR.out.lt)
    have HBZ1 := Lib.hid (HBZ.out.below hb1 HBZ.out.lt)
    have hne : (w.heap.size + 1) ≠ b := by have := HBZ.out.lt; omega
    have hblk2 := hblk.alloc (.cells cellsLogin 50)
    have HF := Lib.hid (first_any (rulesLogin (askedB Sess.zero r now births full (tillZ now r.life 1099511627776))) b W1.heap.size (W1.alloc (.cells cellsLogin 50)) (by simp [rulesLogin]) (Blk.new W1 _ _) (rulesLogin_at hblk2) (rulesLogin_pos _))
    rw [rulesLogin_no, HKK.out, errK_pos HNK.out] at HF
    unfold errno at HF
    have HK := Lib.hid hblk2
    clear hb1 hbge hblk hblk2 HA HB HBR HBZ HR hW
    go_wp2_with (first
      | (refine wpList_buildSlice_run rfl rfl (by simp [Act.eval, Act.put]) bs_login ?_)
      | (go_at_call 18; fail))
    refine HF.out.mono ?_
    rintro e W2 ⟨rfl, h2⟩
    have hA := bel_alloc HB1.out (.cells cellsLogin 50)
    have HB2 := Lib.hid (hA.trans (h2.mono hA.size))
    have HBR2 := Lib.hid ((HBR1.out.alloc _).below h2 (HBR1.out.alloc (.cells cellsLogin 50)).lt)
    have HBZ2 := Lib.hid ((HBZ1.out.alloc _).below h2 (HBZ1.out.alloc (.cells cellsLogin 50)).lt)
    have HK2 := Lib.hid (HK.out.below h2 HK.out.lt)
    clear h2 hA HF HB1 HBR1 HBZ1 HK hne
    have HZ := Lib.hid HBZ2.out
    go_wp2_with (first
      | (refine wpList_build_as (ty := 31) rfl rfl rfl built_zeroS ?_)
      | (refine wpList_store_all (ty := 31) (vs := Sess.zero.cells) rfl rfl rfl rfl HZ.out rfl (Sess.one _) sessInfo ?_))
    exact bodyPost_ret (results_at_tmp rfl rfl (Blk.setRow_same HZ.out _).row HUS.out rfl sessInfo) rfl ⟨rfl, bel_setRow HB2.out (by omega) _⟩
end Go.Proofs.YthoibafhbacfiaaDoor
