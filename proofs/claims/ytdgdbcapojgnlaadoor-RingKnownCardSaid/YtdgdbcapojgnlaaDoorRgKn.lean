/-
  lineagelaw16.knownSaid.
-/
import Derived.Test.YtdgdbcapojgnlaaDoorRgHelp3
import Derived.Test.YtdgdbcapojgnlaaDoorGb
namespace Go.Proofs.YtdgdbcapojgnlaaDoor
set_option maxRecDepth 100000
open Go.RowKit Go.Shelf
attribute [local go_sem] Oper.semAt_some

theorem RetA.of {S : St} {r : Value × St} {v : Value} {S' : St} {w : World} {g : Nat} {e : Ending} {w' : World} (hr : r = (v, S')) (h : RetA r.1 w g r.2 e w') : e = .returned v ∧ At w g S' w' := by subst hr; exact h
set_option maxHeartbeats 8000000 in
theorem knownSaid16_any (w : World) (hL : Laid w) : Calls Tryd.prog 21 #[] w (RetB (.bool true) w) := by
  have hge := hL.pos
  have HL := Lib.hid hL
  clear hL
  go_enter Tryd.func21, Tryd.ntmps21
  go_wp2_with (go_at_call 7; fail)
  refine (new_st w).mono ?_
  rintro e w1 ⟨g, rfl, hg, hS1, hb1⟩
  have hs1 := hb1.size
  have hgl := hS1.lt
  obtain ⟨V, hV⟩ : ∃ V, w1.alloc (.cells #[.int .i64 4, .int .i64 7, .int .i64 1] 3) = V := ⟨_, rfl⟩
  have hbV : Below w1.heap.size w1 V := by rw [← hV]; exact (Below.refl _ _).alloc (Nat.le_refl _) _
  have hVs : V.heap.size ≤ w1.heap.size + 1 ∧ w1.heap.size + 1 ≤ V.heap.size := by rw [← hV]; simp
  have hin : IntsAt V (some ⟨w1.heap.size, 0, none⟩) (natInts [4, 7, 1]) := fun _ => ⟨w1.heap.size, 0, rfl, by omega, fun k i hk => by
    have hB : Blk V w1.heap.size 3 #[.int .i64 4, .int .i64 7, .int .i64 1] := by rw [← hV]; exact Blk.new _ _ _
    rw [Nat.zero_add, hB.cell]
    match k, hk with
    | 0, hk => simp [natInts] at hk; subst hk; rfl
    | 1, hk => simp [natInts] at hk; subst hk; rfl
    | 2, hk => simp [natInts] at hk; subst hk; rfl
    | k + 3, hk => simp [natInts] at hk⟩
  have HLA := Lib.hid (laid_any (S := St.new) (some ⟨w1.heap.size, 0, none⟩) 3 [4, 7, 1] g V (hS1.below hbV hgl) ⟨by decide, by decide⟩ hin (fun a e => by cases e; show w1.heap.size ≠ g; omega) (by decide) (by decide))
  have HV := Lib.hid hV
  have BV := Lib.hid (hb1.trans (hbV.mono hs1))
  clear hS1 hb1 hV hbV hin
  go_wp2_with (go_at_call 52; fail)
  rw [HV.out]
  refine HLA.out.mono ?_
  rintro e w2 ⟨rfl, S1, at1, ring1, mv1⟩
  simp only [lsI]
  have hl1 : S1.slots.length = 32 := mv1.len.trans (by decide)
  have lk9 : S1.lk ((9 : Nat) : Int) = (-1, -1) := (mv1.lk 9 (by decide)).trans (by decide +kernel)
  have hw9 : S1.well 9 = false := by unfold St.well; rw [show S1.lk 9 = (-1, -1) from lk9]; rfl
  have hw1 : S1.well 1 = true := ring1.wellm (i := 1) (by simp)
  have hn1 : (S1.lk 1).2 = 4 := ring1.last (by simp)
  have P1 : S1.push 1 1 = (.tuple #[.int .i64 0, errno 9], S1) := by unfold St.push; rw [hw1]; simp [inR]
  have P2 : S1.push 1 4 = (.tuple #[.int .i64 0, errno 9], S1) := by unfold St.push; rw [hw1, hn1]; simp [inR]
  have P3 : S1.push 1 32 = (.tuple #[.int .i64 0, errno 1], S1) := by unfold St.push; simp [inR]
  have P4 : S1.push 9 5 = (.tuple #[.int .i64 0, faultV 24 9], S1) := by unfold St.push; rw [hw9]; simp [inR]
  obtain ⟨S2, D1, ring2, _, mv2⟩ := drop_ring hl1 (A := [4]) (i := 7) (B := [1]) ring1
  have hl2 : S2.slots.length = 32 := mv2.len.trans hl1
  obtain ⟨S3, D2, ring3, _, mv3⟩ := drop_ring hl2 (A := [4]) (i := 1) (B := []) ring2
  have hl3 : S3.slots.length = 32 := mv3.len.trans hl2
  obtain ⟨S4, D3, ring4, hno4, mv4⟩ := drop_ring hl3 (A := []) (i := 4) (B := []) ring3
  have hw4 : S4.well 4 = false := by unfold St.well; rw [show S4.lk 4 = (-1, -1) from hno4]; rfl
  have D4 : S4.dropR 4 4 = (.tuple #[.int .i64 0, faultV 24 4], S4) := by unfold St.dropR; rw [hw4]; simp [inR]
  have hw1' := mv1.lo
  have hw1h := mv1.hi
  have hw2l := mv2.lo
  have hw2h := mv2.hi
  have hw3l := mv3.lo
  have hw3h := mv3.hi
  have hw4l := mv4.lo
  have hw4h := mv4.hi
  simp only [List.length_cons, List.length_nil, show St.new.writes = 0 from rfl] at hw1' hw1h
  have PU := Lib.hid (fun (W : World) (last i : Int) (v : Value) (hp : S1.push last i = (v, S1)) (a : At V g S1 W) => (push_any last i g W a.ar (by omega) (by omega)).mono fun e W' h => show e = Ending.returned v ∧ At V g S1 W' from by
    rw [hp] at h
    exact ⟨h.1, a.trans h.2⟩)
  have DU := Lib.hid (fun (S S' : St) (W : World) (last i : Int) (v : Value) (h0 : 0 ≤ S.writes) (h1 : S.writes < 1000) (hp : S.dropR last i = (v, S')) (a : At V g S W) => (drop_any last i g W a.ar h0 (by omega)).mono fun e W' h => show e = Ending.returned v ∧ At V g S' W' from by
    rw [hp] at h
    exact ⟨h.1, a.trans h.2⟩)
  have A1 := Lib.hid at1
  have HP1 := Lib.hid P1
  have HP2 := Lib.hid P2
  have HP3 := Lib.hid P3
  have HP4 := Lib.hid P4
  have HD1 := Lib.hid D1
  have HD2 := Lib.hid D2
  have HD3 := Lib.hid D3
  have HD4 := Lib.hid D4
  have LF := Lib.hid (fun (S : St) (W : World) (a : At V g S W) => show Laid W from (World.cell?_of_block (a := ⟨0, 0, none⟩) (a.grown.block 0 (by have := BV.out.size; omega) (fun e => by cases e; omega))).trans (HL.out.below BV.out hge))
  have bN : ∀ w, (binOp .eql 68 .nilIface .nilIface).run Tryd.prog w = .ok (.bool true) w := fun w => by kernel_rfl
  clear at1 P1 P2 P3 P4 D1 D2 D3 D4 hw9 hw1 hn1 hw4 lk9 ring1 ring2 ring3 ring4 hno4 mv1 mv2 mv3 mv4 HLA
  go_wp2_with (go_at_call 49; fail)
  refine (PU.out _ 1 1 _ HP1.out A1.out).mono ?_
  rintro e w3 ⟨rfl, a3⟩
  have A3 := Lib.hid a3
  clear a3
  go_wp2_with (go_at_call 49; fail)
  refine (PU.out _ 1 4 _ HP2.out A3.out).mono ?_
  rintro e w4 ⟨rfl, a4⟩
  have A4 := Lib.hid a4
  clear a4
  go_wp2_with (go_at_call 49; fail)
  refine (PU.out _ 1 32 _ HP3.out A4.out).mono ?_
  rintro e w5 ⟨rfl, a5⟩
  have A5 := Lib.hid a5
  clear a5
  go_wp2_with (go_at_call 49; fail)
  refine (PU.out _ 9 5 _ HP4.out A5.out).mono ?_
  rintro e w6 ⟨rfl, a6⟩
  have A6 := Lib.hid a6
  clear a6
  go_wp2_with (go_at_call 28; fail)
  refine (plain_same 9 (by decide) (by decide) _ (LF.out _ _ A6.out)).mono ?_
  rintro e w7 ⟨rfl, b7⟩
  have A7 := Lib.hid (A6.out.read b7)
  clear b7
  go_wp2_with (go_at_call 28; fail)
  refine (plain_same 9 (by decide) (by decide) _ (LF.out _ _ A7.out)).mono ?_
  rintro e w8 ⟨rfl, b8⟩
  have A8 := Lib.hid (A7.out.read b8)
  clear b8
  go_wp2_with (go_at_call 28; fail)
  refine (plain_same 1 (by decide) (by decide) _ (LF.out _ _ A8.out)).mono ?_
  rintro e w9 ⟨rfl, b9⟩
  have A9 := Lib.hid (A8.out.read b9)
  clear b9
  go_wp2_with (go_at_call 53; fail)
  refine (at_fault 24 9 (by decide) (by decide) _ (LF.out _ _ A9.out)).mono ?_
  rintro e w10 ⟨rfl, b10⟩
  have A10 := Lib.hid (A9.out.read b10)
  clear b10
  go_wp2_with (go_at_call 45; fail)
  refine (DU.out _ _ _ 1 7 _ (by omega) (by omega) HD1.out A10.out).mono ?_
  rintro e w11 ⟨rfl, a11⟩
  have A11 := Lib.hid a11
  clear a11
  go_wp2_with (go_at_call 45; fail)
  refine (DU.out _ _ _ 1 1 _ (by omega) (by omega) HD2.out A11.out).mono ?_
  rintro e w12 ⟨rfl, a12⟩
  have A12 := Lib.hid a12
  clear a12
  go_wp2_with (go_at_call 45; fail)
  refine (DU.out _ _ _ 4 4 _ (by omega) (by omega) HD3.out A12.out).mono ?_
  rintro e w13 ⟨rfl, a13⟩
  have A13 := Lib.hid a13
  clear a13
  go_wp2_with (go_at_call 45; fail)
  refine (DU.out _ _ _ 4 4 _ (by omega) (by omega) HD4.out A13.out).mono ?_
  rintro e w14 ⟨rfl, a14⟩
  have A14 := Lib.hid a14
  clear a14
  go_wp2_with (go_at_call 54; fail)
  refine (rworks_any _).mono ?_
  rintro e w15 ⟨rfl, b15⟩
  have A15 := Lib.hid (A14.out.read b15)
  clear b15
  go_wp2_with (go_at_call 53; fail)
  refine (at_fault 24 4 (by decide) (by decide) _ (LF.out _ _ A15.out)).mono ?_
  rintro e w16 ⟨rfl, b16⟩
  have A16 := Lib.hid (A15.out.read b16)
  clear b16
  go_wp2
  go_ret
  exact ⟨rfl, BV.out.grown A16.out.grown BV.out.size (fun k e => by cases e; exact hg)⟩
end Go.Proofs.YtdgdbcapojgnlaaDoor
