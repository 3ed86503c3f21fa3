/-
  lineagelaw15.does: one act, on the arena and as the document has it: both answer alike, and are alike behind it.
-/
import Derived.Test.YtdgdbcapojgnlaaDoorDoes15D
import Derived.Test.YtdgdbcapojgnlaaDoorDoes15P
namespace Go.Proofs.YtdgdbcapojgnlaaDoor
set_option maxRecDepth 100000
open Go.RowKit Go.Shelf Go.Sort
attribute [local go_sem] Oper.semAt_some

set_option maxHeartbeats 8000000 in
theorem does0 {S : St} {g lo h b : Nat} (x : ActV) (w : World) (hA : IsAr w g S) (hR : IsRB lo h b S w) (hg : g < lo) (hlo : lo ≤ w.heap.size) (hL : Laid w) (hge : 0 < g) (hw0 : 0 ≤ S.writes) (hw1 : S.writes < 1000000) (hcK : pickZ x.kind 7 = (0 : Nat)) :
    Calls Tryd.prog 10 #[.pointer (some ⟨g, 0, none⟩), .pointer (some ⟨h, 0, none⟩), .agg x.cells] w (fun e w' => e = .returned (.bool true) ∧ Two w g lo h b (S.act x) (S.act x) w') := by
  have hfl : S.free.length ≤ 32 := nodup_len 32 _ hA.nodup hA.free_lt
  have hls := hR.los
  have hgl := hA.lt
  have hact : S.act x = S.actC 0 x := by unfold St.act; rw [hcK]; rfl
  rw [hact]
  clear hact
  have HC := Lib.hid (fun w => show Calls Tryd.prog 9 #[.int .i64 x.kind, .int .i64 7] w (RetSame (.int .i64 ((0 : Nat) : Int)) w) from by
    have h := pick_any x.kind 7 (by decide) (by decide) w
    rwa [show pickZ x.kind ((7 : Nat) : Int) = ((0 : Nat) : Int) from hcK] at h)
  obtain ⟨w1, hw⟩ : ∃ w1, w.alloc (.cells x.cells 38) = w1 := ⟨_, rfl⟩
  have BX : Blk w1 w.heap.size 38 x.cells := by rw [← hw]; exact Blk.new _ _ _
  have hb1 : Below w.heap.size w w1 := by rw [← hw]; exact (Below.refl _ _).alloc (Nat.le_refl _) _
  have hs1 : w1.heap.size ≤ w.heap.size + 1 ∧ w.heap.size + 1 ≤ w1.heap.size := by rw [← hw]; simp
  have cx0 : (w.alloc (.cells x.cells 38)).cell? ⟨w.heap.size, 0, none⟩ = some (.int .i64 x.kind) := ((Blk.new _ _ _).cell 0).trans x.at0
  have cx1 : w1.cell? ⟨w.heap.size, 1, none⟩ = some (.int .i64 x.n) := (BX.cell 1).trans x.at1
  have T1 := Lib.hid (Two.start (hA.below hb1 hgl) (hR.call hb1))
  have L1 := Lib.hid (hL.below hb1 hL.pos)
  have HRX := Lib.hid (x.row BX)
  have HB1 := Lib.hid hb1
  have HW := Lib.hid hw
  have HU := Lib.hid Tryd.underlying36
  have HPL := Lib.hid (fun (k : Int) h1 h2 W hg => plain_same k h1 h2 W hg)
  have HNO := Lib.hid (fun n => no_ok S n)
  have hnew : w.heap.size ≠ g ∧ w.heap.size ≠ h ∧ w.heap.size ≠ b := by omega
  have hgne : 0 ≠ g ∧ 0 ≠ h ∧ 0 ≠ b := by omega
  have HGN := Lib.hid hgne
  -- behind a region that ends in Plain
  have fin : ∀ (S' : St) (W W' : World), Two w1 g lo h b S' S' W → Below W.heap.size W W' → Two w g lo h b S' S' W' := fun S' W W' t hb =>
    have t' := t.call hb
    ⟨t'.ar, t'.rf, (Tn.ofBelow _ HB1.out).trans t'.tn⟩
  have FIN := Lib.hid fin
  clear hw BX hb1 hA hR hL hcK hgne fin
  obtain ⟨s, hs⟩ : ∃ s, S.slotAt x.n = s := ⟨_, rfl⟩
  obtain ⟨eV, heV⟩ : ∃ eV, errAt x.n = eV := ⟨_, rfl⟩
  obtain ⟨nV, hnV⟩ : ∃ nV, noAt x.n = nV := ⟨_, rfl⟩
  have HPA := Lib.hid (fun W hg => plain_at x.n W hg)
  have HGA := Lib.hid (fun (W : World) (hA : IsAr W g S) => get_gen x.n g W hA)
  have hG := rget_any x.n w1 T1.out.rf.ref
  rw [hs, hnV] at hG
  rw [hs, heV] at HGA
  rw [heV, hnV] at HPA
  have HG := Lib.hid hG
  have heql := eql_slot s
  clear hG hs heV hnV HPL HNO
  go_enter Tryd.func10, Tryd.ntmps10
  go_wp2_with (go_at_call 9; fail)
  refine (HC.out _).mono ?_
  rintro e w' ⟨rfl, rfl⟩
  rw [HW.out]
  go_wp2_with (go_at_call 26; fail)
  refine HG.out.mono ?_
  rintro e w2 ⟨rfl, hb2⟩
  have hs2 := hb2.size
  have hb2V : Below w1.heap.size w1 (w2.alloc (.cells s.cells 36)) := hb2.alloc hb2.size _
  have H2 := Lib.hid hb2V
  have A2 := Lib.hid (T1.out.ar.below hb2V T1.out.ar.lt)
  have cy1 : (w2.alloc (.cells s.cells 36)).cell? ⟨w.heap.size, 1, none⟩ = some (.int .i64 x.n) := (hb2V.cell (p := ⟨w.heap.size, 1, none⟩) (by show w.heap.size < w1.heap.size; omega)).trans cx1
  clear hb2 hb2V HG cx1
  go_wp2_with (first
    | (refine wpList_store_new (ty := 36) rfl rfl rfl rfl rfl (SlotV.one _) slotInfo ?_)
    | (go_at_call 27; fail))
  refine (HGA.out _ A2.out).mono ?_
  rintro e w3 ⟨rfl, hb3⟩
  have hs3 := hb3.size
  rw [World.size_alloc] at hs3
  have hb3V : Below w1.heap.size w1 (w3.alloc (.cells s.cells 36)) := (H2.out.trans (hb3.mono H2.out.size)).alloc (by have := H2.out.size; rw [World.size_alloc] at this; omega) _
  have H3 := Lib.hid hb3V
  have L3 := Lib.hid (L1.out.below hb3V (by omega))
  have R2 := Lib.hid (((Blk.new w2 36 s.cells).below hb3 (by simp)).alloc (.cells s.cells 36))
  have R3 := Lib.hid (Blk.new w3 36 s.cells)
  clear hb3 hb3V A2 HGA H2 cy1
  go_wp2_with (first
    | (refine wpList_store_new (ty := 36) rfl rfl rfl rfl rfl (SlotV.one _) slotInfo ?_)
    | (go_at_call 28; fail))
  refine (HPA.out _ L3.out).mono ?_
  rintro e w4 ⟨rfl, hb4⟩
  have hs4 := hb4.size
  rw [World.size_alloc] at hs4
  have H4 := Lib.hid (H3.out.trans (hb4.mono H3.out.size))
  have R2' := Lib.hid ((R2.out.below hb4 R2.out.lt).row)
  have R3' := Lib.hid ((R3.out.below hb4 R3.out.lt).row)
  clear hb4 L3 R2 R3 H3 HPA
  go_wp2_with (first
    | (refine wpList_load_at (ty := 36) rfl rfl rfl R3'.out HU.out rfl slotInfo ?_)
    | (refine wpList_load_at (ty := 36) rfl rfl rfl R2'.out HU.out rfl slotInfo ?_))
  go_ret
  exact ⟨rfl, FIN.out _ _ _ T1.out H4.out⟩
set_option maxHeartbeats 8000000 in
theorem does2 {S : St} {g lo h b : Nat} (x : ActV) (w : World) (hA : IsAr w g S) (hR : IsRB lo h b S w) (hg : g < lo) (hlo : lo ≤ w.heap.size) (hL : Laid w) (hge : 0 < g) (hw0 : 0 ≤ S.writes) (hw1 : S.writes < 1000000) (hcK : pickZ x.kind 7 = (2 : Nat)) :
    Calls Tryd.prog 10 #[.pointer (some ⟨g, 0, none⟩), .pointer (some ⟨h, 0, none⟩), .agg x.cells] w (fun e w' => e = .returned (.bool true) ∧ Two w g lo h b (S.act x) (S.act x) w') := by
  have hfl : S.free.length ≤ 32 := nodup_len 32 _ hA.nodup hA.free_lt
  have hls := hR.los
  have hgl := hA.lt
  have hact : S.act x = S.actC 2 x := by unfold St.act; rw [hcK]; rfl
  rw [hact]
  clear hact
  have HC := Lib.hid (fun w => show Calls Tryd.prog 9 #[.int .i64 x.kind, .int .i64 7] w (RetSame (.int .i64 ((2 : Nat) : Int)) w) from by
    have h := pick_any x.kind 7 (by decide) (by decide) w
    rwa [show pickZ x.kind ((7 : Nat) : Int) = ((2 : Nat) : Int) from hcK] at h)
  obtain ⟨w1, hw⟩ : ∃ w1, w.alloc (.cells x.cells 38) = w1 := ⟨_, rfl⟩
  have BX : Blk w1 w.heap.size 38 x.cells := by rw [← hw]; exact Blk.new _ _ _
  have hb1 : Below w.heap.size w w1 := by rw [← hw]; exact (Below.refl _ _).alloc (Nat.le_refl _) _
  have hs1 : w1.heap.size ≤ w.heap.size + 1 ∧ w.heap.size + 1 ≤ w1.heap.size := by rw [← hw]; simp
  have cx0 : (w.alloc (.cells x.cells 38)).cell? ⟨w.heap.size, 0, none⟩ = some (.int .i64 x.kind) := ((Blk.new _ _ _).cell 0).trans x.at0
  have cx1 : w1.cell? ⟨w.heap.size, 1, none⟩ = some (.int .i64 x.n) := (BX.cell 1).trans x.at1
  have T1 := Lib.hid (Two.start (hA.below hb1 hgl) (hR.call hb1))
  have L1 := Lib.hid (hL.below hb1 hL.pos)
  have HRX := Lib.hid (x.row BX)
  have HB1 := Lib.hid hb1
  have HW := Lib.hid hw
  have HU := Lib.hid Tryd.underlying36
  have HPL := Lib.hid (fun (k : Int) h1 h2 W hg => plain_same k h1 h2 W hg)
  have HNO := Lib.hid (fun n => no_ok S n)
  have hnew : w.heap.size ≠ g ∧ w.heap.size ≠ h ∧ w.heap.size ≠ b := by omega
  have hgne : 0 ≠ g ∧ 0 ≠ h ∧ 0 ≠ b := by omega
  have HGN := Lib.hid hgne
  -- behind a region that ends in Plain
  have fin : ∀ (S' : St) (W W' : World), Two w1 g lo h b S' S' W → Below W.heap.size W W' → Two w g lo h b S' S' W' := fun S' W W' t hb =>
    have t' := t.call hb
    ⟨t'.ar, t'.rf, (Tn.ofBelow _ HB1.out).trans t'.tn⟩
  have FIN := Lib.hid fin
  clear hw BX hb1 hA hR hL hcK hgne fin
  have PR := Lib.hid ((takeR w1 T1.out.rf hfl (by omega)).mono fun e W' ⟨h1, h2, h3⟩ => show e = Ending.returned (.tuple #[.int .i64 S.takeI, .int .i64 (takeNo S)]) ∧ Two w1 g lo h b S S.takeZ W' from ⟨h1, T1.out.turnR hg h2 h3⟩)
  have PA := Lib.hid (fun W (t : Two w1 g lo h b S S.takeZ W) => (takeA W t.ar).mono fun e W' ⟨h1, h2, h3⟩ => show e = Ending.returned (.tuple #[.int .i64 S.takeI, errOf (takeNo S)]) ∧ Two w1 g lo h b S.takeZ S.takeZ W' from ⟨h1, t.turnA hg h2 h3⟩)
  have hno : 0 ≤ takeNo S ∧ takeNo S ≤ 24 := by unfold takeNo; split <;> omega
  have PP := Lib.hid (fun (S' : St) W (t : Two w1 g lo h b S' S' W) => (HPL.out (takeNo S) hno.1 hno.2 W (t.laid L1.out HGN.out)).mono fun e W' ⟨h1, h2⟩ => show e = Ending.returned (.bool true) ∧ Two w1 g lo h b S' S' W' from ⟨h1, t.call h2⟩)
  obtain ⟨ek, hek⟩ : ∃ ek, errOf (takeNo S) = ek := ⟨_, rfl⟩
  rw [hek] at PA PP
  obtain ⟨nk, hnk⟩ : ∃ nk, takeNo S = nk := ⟨_, rfl⟩
  rw [hnk] at PR PP
  obtain ⟨ik, hik⟩ : ∃ ik, S.takeI = ik := ⟨_, rfl⟩
  rw [hik] at PR PA
  clear hek HNO HPL hno hnk hik
  go_enter Tryd.func10, Tryd.ntmps10
  go_wp2_with (go_at_call 9; fail)
  refine (HC.out _).mono ?_
  rintro e w' ⟨rfl, rfl⟩
  rw [HW.out]
  go_wp2_with (go_at_call 31; fail)
  refine PR.out.mono ?_
  rintro e w2 ⟨rfl, t2⟩
  have T2 := Lib.hid t2
  clear t2 PR
  go_wp2_with (go_at_call 32; fail)
  refine (PA.out _ T2.out).mono ?_
  rintro e w3 ⟨rfl, t3⟩
  have T3 := Lib.hid t3
  clear t3 PA
  go_wp2_with (go_at_call 28; fail)
  refine (PP.out _ _ T3.out).mono ?_
  rintro e w4 ⟨rfl, t4⟩
  have T4 := Lib.hid t4
  clear t4 PP
  go_wp2
  go_ret
  exact ⟨rfl, FIN.out _ _ _ T4.out (Below.refl _ _)⟩
set_option maxHeartbeats 8000000 in
theorem does3 {S : St} {g lo h b : Nat} (x : ActV) (w : World) (hA : IsAr w g S) (hR : IsRB lo h b S w) (hg : g < lo) (hlo : lo ≤ w.heap.size) (hL : Laid w) (hge : 0 < g) (hw0 : 0 ≤ S.writes) (hw1 : S.writes < 1000000) (hcK : pickZ x.kind 7 = (3 : Nat)) :
    Calls Tryd.prog 10 #[.pointer (some ⟨g, 0, none⟩), .pointer (some ⟨h, 0, none⟩), .agg x.cells] w (fun e w' => e = .returned (.bool true) ∧ Two w g lo h b (S.act x) (S.act x) w') := by
  have hfl : S.free.length ≤ 32 := nodup_len 32 _ hA.nodup hA.free_lt
  have hls := hR.los
  have hgl := hA.lt
  have hact : S.act x = S.actC 3 x := by unfold St.act; rw [hcK]; rfl
  rw [hact]
  clear hact
  have HC := Lib.hid (fun w => show Calls Tryd.prog 9 #[.int .i64 x.kind, .int .i64 7] w (RetSame (.int .i64 ((3 : Nat) : Int)) w) from by
    have h := pick_any x.kind 7 (by decide) (by decide) w
    rwa [show pickZ x.kind ((7 : Nat) : Int) = ((3 : Nat) : Int) from hcK] at h)
  obtain ⟨w1, hw⟩ : ∃ w1, w.alloc (.cells x.cells 38) = w1 := ⟨_, rfl⟩
  have BX : Blk w1 w.heap.size 38 x.cells := by rw [← hw]; exact Blk.new _ _ _
  have hb1 : Below w.heap.size w w1 := by rw [← hw]; exact (Below.refl _ _).alloc (Nat.le_refl _) _
  have hs1 : w1.heap.size ≤ w.heap.size + 1 ∧ w.heap.size + 1 ≤ w1.heap.size := by rw [← hw]; simp
  have cx0 : (w.alloc (.cells x.cells 38)).cell? ⟨w.heap.size, 0, none⟩ = some (.int .i64 x.kind) := ((Blk.new _ _ _).cell 0).trans x.at0
  have cx1 : w1.cell? ⟨w.heap.size, 1, none⟩ = some (.int .i64 x.n) := (BX.cell 1).trans x.at1
  have T1 := Lib.hid (Two.start (hA.below hb1 hgl) (hR.call hb1))
  have L1 := Lib.hid (hL.below hb1 hL.pos)
  have HRX := Lib.hid (x.row BX)
  have HB1 := Lib.hid hb1
  have HW := Lib.hid hw
  have HU := Lib.hid Tryd.underlying36
  have HPL := Lib.hid (fun (k : Int) h1 h2 W hg => plain_same k h1 h2 W hg)
  have HNO := Lib.hid (fun n => no_ok S n)
  have hnew : w.heap.size ≠ g ∧ w.heap.size ≠ h ∧ w.heap.size ≠ b := by omega
  have hgne : 0 ≠ g ∧ 0 ≠ h ∧ 0 ≠ b := by omega
  have HGN := Lib.hid hgne
  -- behind a region that ends in Plain
  have fin : ∀ (S' : St) (W W' : World), Two w1 g lo h b S' S' W → Below W.heap.size W W' → Two w g lo h b S' S' W' := fun S' W W' t hb =>
    have t' := t.call hb
    ⟨t'.ar, t'.rf, (Tn.ofBelow _ HB1.out).trans t'.tn⟩
  have FIN := Lib.hid fin
  clear hw BX hb1 hA hR hL hcK hgne fin
  have PR := Lib.hid ((takeR w1 T1.out.rf hfl (by omega)).mono fun e W' ⟨h1, h2, h3⟩ => show e = Ending.returned (.tuple #[.int .i64 S.takeI, .int .i64 (takeNo S)]) ∧ Two w1 g lo h b S S.takeZ W' from ⟨h1, T1.out.turnR hg h2 h3⟩)
  have PA := Lib.hid (fun W (t : Two w1 g lo h b S S.takeZ W) => (takeA W t.ar).mono fun e W' ⟨h1, h2, h3⟩ => show e = Ending.returned (.tuple #[.int .i64 S.takeI, errOf (takeNo S)]) ∧ Two w1 g lo h b S.takeZ S.takeZ W' from ⟨h1, t.turnA hg h2 h3⟩)
  have hno : 0 ≤ takeNo S ∧ takeNo S ≤ 24 := by unfold takeNo; split <;> omega
  have PP := Lib.hid (fun (S' : St) W (t : Two w1 g lo h b S' S' W) => (HPL.out (takeNo S) hno.1 hno.2 W (t.laid L1.out HGN.out)).mono fun e W' ⟨h1, h2⟩ => show e = Ending.returned (.bool true) ∧ Two w1 g lo h b S' S' W' from ⟨h1, t.call h2⟩)
  obtain ⟨ek, hek⟩ : ∃ ek, errOf (takeNo S) = ek := ⟨_, rfl⟩
  rw [hek] at PA PP
  obtain ⟨nk, hnk⟩ : ∃ nk, takeNo S = nk := ⟨_, rfl⟩
  rw [hnk] at PR PP
  obtain ⟨ik, hik⟩ : ∃ ik, S.takeI = ik := ⟨_, rfl⟩
  rw [hik] at PR PA
  clear hek HNO HPL hno hnk hik
  go_enter Tryd.func10, Tryd.ntmps10
  go_wp2_with (go_at_call 9; fail)
  refine (HC.out _).mono ?_
  rintro e w' ⟨rfl, rfl⟩
  rw [HW.out]
  go_wp2_with (go_at_call 31; fail)
  refine PR.out.mono ?_
  rintro e w2 ⟨rfl, t2⟩
  have T2 := Lib.hid t2
  clear t2 PR
  go_wp2_with (go_at_call 32; fail)
  refine (PA.out _ T2.out).mono ?_
  rintro e w3 ⟨rfl, t3⟩
  have T3 := Lib.hid t3
  clear t3 PA
  go_wp2_with (go_at_call 28; fail)
  refine (PP.out _ _ T3.out).mono ?_
  rintro e w4 ⟨rfl, t4⟩
  have T4 := Lib.hid t4
  clear t4 PP
  go_wp2
  go_ret
  exact ⟨rfl, FIN.out _ _ _ T4.out (Below.refl _ _)⟩
set_option maxHeartbeats 8000000 in
theorem does4 {S : St} {g lo h b : Nat} (x : ActV) (w : World) (hA : IsAr w g S) (hR : IsRB lo h b S w) (hg : g < lo) (hlo : lo ≤ w.heap.size) (hL : Laid w) (hge : 0 < g) (hw0 : 0 ≤ S.writes) (hw1 : S.writes < 1000000) (hcK : pickZ x.kind 7 = (4 : Nat)) :
    Calls Tryd.prog 10 #[.pointer (some ⟨g, 0, none⟩), .pointer (some ⟨h, 0, none⟩), .agg x.cells] w (fun e w' => e = .returned (.bool true) ∧ Two w g lo h b (S.act x) (S.act x) w') := by
  have hfl : S.free.length ≤ 32 := nodup_len 32 _ hA.nodup hA.free_lt
  have hls := hR.los
  have hgl := hA.lt
  have hact : S.act x = S.actC 4 x := by unfold St.act; rw [hcK]; rfl
  rw [hact]
  clear hact
  have HC := Lib.hid (fun w => show Calls Tryd.prog 9 #[.int .i64 x.kind, .int .i64 7] w (RetSame (.int .i64 ((4 : Nat) : Int)) w) from by
    have h := pick_any x.kind 7 (by decide) (by decide) w
    rwa [show pickZ x.kind ((7 : Nat) : Int) = ((4 : Nat) : Int) from hcK] at h)
  obtain ⟨w1, hw⟩ : ∃ w1, w.alloc (.cells x.cells 38) = w1 := ⟨_, rfl⟩
  have BX : Blk w1 w.heap.size 38 x.cells := by rw [← hw]; exact Blk.new _ _ _
  have hb1 : Below w.heap.size w w1 := by rw [← hw]; exact (Below.refl _ _).alloc (Nat.le_refl _) _
  have hs1 : w1.heap.size ≤ w.heap.size + 1 ∧ w.heap.size + 1 ≤ w1.heap.size := by rw [← hw]; simp
  have cx0 : (w.alloc (.cells x.cells 38)).cell? ⟨w.heap.size, 0, none⟩ = some (.int .i64 x.kind) := ((Blk.new _ _ _).cell 0).trans x.at0
  have cx1 : w1.cell? ⟨w.heap.size, 1, none⟩ = some (.int .i64 x.n) := (BX.cell 1).trans x.at1
  have T1 := Lib.hid (Two.start (hA.below hb1 hgl) (hR.call hb1))
  have L1 := Lib.hid (hL.below hb1 hL.pos)
  have HRX := Lib.hid (x.row BX)
  have HB1 := Lib.hid hb1
  have HW := Lib.hid hw
  have HU := Lib.hid Tryd.underlying36
  have HPL := Lib.hid (fun (k : Int) h1 h2 W hg => plain_same k h1 h2 W hg)
  have HNO := Lib.hid (fun n => no_ok S n)
  have hnew : w.heap.size ≠ g ∧ w.heap.size ≠ h ∧ w.heap.size ≠ b := by omega
  have hgne : 0 ≠ g ∧ 0 ≠ h ∧ 0 ≠ b := by omega
  have HGN := Lib.hid hgne
  -- behind a region that ends in Plain
  have fin : ∀ (S' : St) (W W' : World), Two w1 g lo h b S' S' W → Below W.heap.size W W' → Two w g lo h b S' S' W' := fun S' W W' t hb =>
    have t' := t.call hb
    ⟨t'.ar, t'.rf, (Tn.ofBelow _ HB1.out).trans t'.tn⟩
  have FIN := Lib.hid fin
  clear hw BX hb1 hA hR hL hcK hgne fin
  have PA := Lib.hid (fun (SR : St) W (t : Two w1 g lo h b S SR W) => (placeA x.n W t.ar).mono fun e W' ⟨h1, h2, h3⟩ => show e = Ending.returned (errOf (dropNo S x.n)) ∧ Two w1 g lo h b (S.dropZ x.n) SR W' from ⟨h1, t.turnA hg h2 h3⟩)
  have PR := Lib.hid (fun (SA : St) W (t : Two w1 g lo h b SA S W) => (placeR x.n W t.rf hfl (by have := t.tn.size; omega)).mono fun e W' ⟨h1, h2, h3⟩ => show e = Ending.returned (.int .i64 (dropNo S x.n)) ∧ Two w1 g lo h b SA (S.dropZ x.n) W' from ⟨h1, t.turnR hg h2 h3⟩)
  have KS := Lib.hid (fun (SA SR : St) W (t : Two w1 g lo h b SA SR W) => show W.cell? ⟨w.heap.size, 1, none⟩ = some (.int .i64 x.n) from t.cell (by omega) hnew cx1)
  have PP := Lib.hid (fun (S' : St) W (t : Two w1 g lo h b S' S' W) => (HPL.out (dropNo S x.n) (HNO.out x.n).2.1.1 (HNO.out x.n).2.1.2 W (t.laid L1.out HGN.out)).mono fun e W' ⟨h1, h2⟩ => show e = Ending.returned (.bool true) ∧ Two w1 g lo h b S' S' W' from ⟨h1, t.call h2⟩)
  have TD := Lib.hid (T1.out.call (Below.refl _ _).drew)
  obtain ⟨ek, hek⟩ : ∃ ek, errOf (dropNo S x.n) = ek := ⟨_, rfl⟩
  rw [hek] at PA PP
  clear hek HNO HPL
  go_enter Tryd.func10, Tryd.ntmps10
  go_wp2_with (go_at_call 9; fail)
  refine (HC.out _).mono ?_
  rintro e w' ⟨rfl, rfl⟩
  rw [HW.out]
  go_wp2
  refine wp_region_noPanic ?_
  have td := TD.out
  have kd := KS.out _ _ _ td
  go_region_held3 (fun W' => W'.cell? ⟨w.heap.size, 1, none⟩ = some (.int .i64 x.n))
    (first | assumption | exact KS.out _ _ _ (by assumption))
    (first
      | (go_at_call 33; refine (PA.out _ _ (by assumption)).mono ?_; rintro e wA ⟨rfl, hA⟩)
      | (go_at_call 34; refine (PR.out _ _ (by assumption)).mono ?_; rintro e wB ⟨rfl, hB⟩)
      | (go_at_call 28; refine (PP.out _ _ (by assumption)).mono ?_; rintro e wC ⟨rfl, hC⟩))
  all_goals refine NoPanic.normal ?_
  all_goals go_wp2
  all_goals go_ret
  all_goals exact ⟨rfl, FIN.out _ _ _ hC (Below.refl _ _)⟩
set_option maxHeartbeats 8000000 in
theorem does5 {S : St} {g lo h b : Nat} (x : ActV) (w : World) (hA : IsAr w g S) (hR : IsRB lo h b S w) (hg : g < lo) (hlo : lo ≤ w.heap.size) (hL : Laid w) (hge : 0 < g) (hw0 : 0 ≤ S.writes) (hw1 : S.writes < 1000000) (hcK : pickZ x.kind 7 = (5 : Nat)) :
    Calls Tryd.prog 10 #[.pointer (some ⟨g, 0, none⟩), .pointer (some ⟨h, 0, none⟩), .agg x.cells] w (fun e w' => e = .returned (.bool true) ∧ Two w g lo h b (S.act x) (S.act x) w') := by
  have hfl : S.free.length ≤ 32 := nodup_len 32 _ hA.nodup hA.free_lt
  have hls := hR.los
  have hgl := hA.lt
  have hact : S.act x = S.actC 5 x := by unfold St.act; rw [hcK]; rfl
  rw [hact]
  clear hact
  have HC := Lib.hid (fun w => show Calls Tryd.prog 9 #[.int .i64 x.kind, .int .i64 7] w (RetSame (.int .i64 ((5 : Nat) : Int)) w) from by
    have h := pick_any x.kind 7 (by decide) (by decide) w
    rwa [show pickZ x.kind ((7 : Nat) : Int) = ((5 : Nat) : Int) from hcK] at h)
  obtain ⟨w1, hw⟩ : ∃ w1, w.alloc (.cells x.cells 38) = w1 := ⟨_, rfl⟩
  have BX : Blk w1 w.heap.size 38 x.cells := by rw [← hw]; exact Blk.new _ _ _
  have hb1 : Below w.heap.size w w1 := by rw [← hw]; exact (Below.refl _ _).alloc (Nat.le_refl _) _
  have hs1 : w1.heap.size ≤ w.heap.size + 1 ∧ w.heap.size + 1 ≤ w1.heap.size := by rw [← hw]; simp
  have cx0 : (w.alloc (.cells x.cells 38)).cell? ⟨w.heap.size, 0, none⟩ = some (.int .i64 x.kind) := ((Blk.new _ _ _).cell 0).trans x.at0
  have cx1 : w1.cell? ⟨w.heap.size, 1, none⟩ = some (.int .i64 x.n) := (BX.cell 1).trans x.at1
  have T1 := Lib.hid (Two.start (hA.below hb1 hgl) (hR.call hb1))
  have L1 := Lib.hid (hL.below hb1 hL.pos)
  have HRX := Lib.hid (x.row BX)
  have HB1 := Lib.hid hb1
  have HW := Lib.hid hw
  have HU := Lib.hid Tryd.underlying36
  have HPL := Lib.hid (fun (k : Int) h1 h2 W hg => plain_same k h1 h2 W hg)
  have HNO := Lib.hid (fun n => no_ok S n)
  have hnew : w.heap.size ≠ g ∧ w.heap.size ≠ h ∧ w.heap.size ≠ b := by omega
  have hgne : 0 ≠ g ∧ 0 ≠ h ∧ 0 ≠ b := by omega
  have HGN := Lib.hid hgne
  -- behind a region that ends in Plain
  have fin : ∀ (S' : St) (W W' : World), Two w1 g lo h b S' S' W → Below W.heap.size W W' → Two w g lo h b S' S' W' := fun S' W W' t hb =>
    have t' := t.call hb
    ⟨t'.ar, t'.rf, (Tn.ofBelow _ HB1.out).trans t'.tn⟩
  have FIN := Lib.hid fin
  clear hw BX hb1 hA hR hL hcK hgne fin
  have PA := Lib.hid (fun (SR : St) W (t : Two w1 g lo h b S SR W) => (freeA x.n W t.ar hw0 (by omega)).mono fun e W' ⟨h1, h2, h3⟩ => show e = Ending.returned (errOf (giveNo S x.n)) ∧ Two w1 g lo h b (S.giveZ x.n) SR W' from ⟨h1, t.turnA hg h2 h3⟩)
  have PR := Lib.hid (fun (SA : St) W (t : Two w1 g lo h b SA S W) => (freeR x.n W t.rf hfl (by have := t.tn.size; omega) hw0 (by omega)).mono fun e W' ⟨h1, h2, h3⟩ => show e = Ending.returned (.int .i64 (giveNo S x.n)) ∧ Two w1 g lo h b SA (S.giveZ x.n) W' from ⟨h1, t.turnR hg h2 h3⟩)
  have KS := Lib.hid (fun (SA SR : St) W (t : Two w1 g lo h b SA SR W) => show W.cell? ⟨w.heap.size, 1, none⟩ = some (.int .i64 x.n) from t.cell (by omega) hnew cx1)
  have PP := Lib.hid (fun (S' : St) W (t : Two w1 g lo h b S' S' W) => (HPL.out (giveNo S x.n) (HNO.out x.n).2.2.1 (HNO.out x.n).2.2.2 W (t.laid L1.out HGN.out)).mono fun e W' ⟨h1, h2⟩ => show e = Ending.returned (.bool true) ∧ Two w1 g lo h b S' S' W' from ⟨h1, t.call h2⟩)
  have TD := Lib.hid (T1.out.call (Below.refl _ _).drew)
  obtain ⟨ek, hek⟩ : ∃ ek, errOf (giveNo S x.n) = ek := ⟨_, rfl⟩
  rw [hek] at PA PP
  clear hek HNO HPL
  go_enter Tryd.func10, Tryd.ntmps10
  go_wp2_with (go_at_call 9; fail)
  refine (HC.out _).mono ?_
  rintro e w' ⟨rfl, rfl⟩
  rw [HW.out]
  go_wp2
  refine wp_region_noPanic ?_
  have td := TD.out
  have kd := KS.out _ _ _ td
  go_region_held3 (fun W' => W'.cell? ⟨w.heap.size, 1, none⟩ = some (.int .i64 x.n))
    (first | assumption | exact KS.out _ _ _ (by assumption))
    (first
      | (go_at_call 35; refine (PA.out _ _ (by assumption)).mono ?_; rintro e wA ⟨rfl, hA⟩)
      | (go_at_call 36; refine (PR.out _ _ (by assumption)).mono ?_; rintro e wB ⟨rfl, hB⟩)
      | (go_at_call 28; refine (PP.out _ _ (by assumption)).mono ?_; rintro e wC ⟨rfl, hC⟩))
  all_goals refine NoPanic.normal ?_
  all_goals go_wp2
  all_goals go_ret
  all_goals exact ⟨rfl, FIN.out _ _ _ hC (Below.refl _ _)⟩
set_option maxHeartbeats 8000000 in
theorem does6 {S : St} {g lo h b : Nat} (x : ActV) (w : World) (hA : IsAr w g S) (hR : IsRB lo h b S w) (hg : g < lo) (hlo : lo ≤ w.heap.size) (hL : Laid w) (hge : 0 < g) (hw0 : 0 ≤ S.writes) (hw1 : S.writes < 1000000) (hcK : pickZ x.kind 7 = (6 : Nat)) :
    Calls Tryd.prog 10 #[.pointer (some ⟨g, 0, none⟩), .pointer (some ⟨h, 0, none⟩), .agg x.cells] w (fun e w' => e = .returned (.bool true) ∧ Two w g lo h b (S.act x) (S.act x) w') := by
  have hfl : S.free.length ≤ 32 := nodup_len 32 _ hA.nodup hA.free_lt
  have hls := hR.los
  have hgl := hA.lt
  have hact : S.act x = S.actC 6 x := by unfold St.act; rw [hcK]; rfl
  rw [hact]
  clear hact
  have HC := Lib.hid (fun w => show Calls Tryd.prog 9 #[.int .i64 x.kind, .int .i64 7] w (RetSame (.int .i64 ((6 : Nat) : Int)) w) from by
    have h := pick_any x.kind 7 (by decide) (by decide) w
    rwa [show pickZ x.kind ((7 : Nat) : Int) = ((6 : Nat) : Int) from hcK] at h)
  obtain ⟨w1, hw⟩ : ∃ w1, w.alloc (.cells x.cells 38) = w1 := ⟨_, rfl⟩
  have BX : Blk w1 w.heap.size 38 x.cells := by rw [← hw]; exact Blk.new _ _ _
  have hb1 : Below w.heap.size w w1 := by rw [← hw]; exact (Below.refl _ _).alloc (Nat.le_refl _) _
  have hs1 : w1.heap.size ≤ w.heap.size + 1 ∧ w.heap.size + 1 ≤ w1.heap.size := by rw [← hw]; simp
  have cx0 : (w.alloc (.cells x.cells 38)).cell? ⟨w.heap.size, 0, none⟩ = some (.int .i64 x.kind) := ((Blk.new _ _ _).cell 0).trans x.at0
  have cx1 : w1.cell? ⟨w.heap.size, 1, none⟩ = some (.int .i64 x.n) := (BX.cell 1).trans x.at1
  have T1 := Lib.hid (Two.start (hA.below hb1 hgl) (hR.call hb1))
  have L1 := Lib.hid (hL.below hb1 hL.pos)
  have HRX := Lib.hid (x.row BX)
  have HB1 := Lib.hid hb1
  have HW := Lib.hid hw
  have HU := Lib.hid Tryd.underlying36
  have HPL := Lib.hid (fun (k : Int) h1 h2 W hg => plain_same k h1 h2 W hg)
  have HNO := Lib.hid (fun n => no_ok S n)
  have hnew : w.heap.size ≠ g ∧ w.heap.size ≠ h ∧ w.heap.size ≠ b := by omega
  have hgne : 0 ≠ g ∧ 0 ≠ h ∧ 0 ≠ b := by omega
  have HGN := Lib.hid hgne
  -- behind a region that ends in Plain
  have fin : ∀ (S' : St) (W W' : World), Two w1 g lo h b S' S' W → Below W.heap.size W W' → Two w g lo h b S' S' W' := fun S' W W' t hb =>
    have t' := t.call hb
    ⟨t'.ar, t'.rf, (Tn.ofBelow _ HB1.out).trans t'.tn⟩
  have FIN := Lib.hid fin
  clear hw BX hb1 hA hR hL hcK hgne fin
  have HK := Lib.hid (asked_any w1 T1.out.ar T1.out.rf L1.out)
  clear HPL HNO
  go_enter Tryd.func10, Tryd.ntmps10
  go_wp2_with (go_at_call 9; fail)
  refine (HC.out _).mono ?_
  rintro e w' ⟨rfl, rfl⟩
  rw [HW.out]
  go_wp2_with (go_at_call 11; fail)
  refine HK.out.mono ?_
  rintro e w2 ⟨rfl, hb2⟩
  have HB2 := Lib.hid hb2
  clear hb2
  go_wp2
  go_ret
  exact ⟨rfl, FIN.out _ _ _ T1.out HB2.out⟩
theorem does_any {S : St} {g lo h b : Nat} (x : ActV) (w : World) (hA : IsAr w g S) (hR : IsRB lo h b S w) (hg : g < lo) (hlo : lo ≤ w.heap.size) (hL : Laid w) (hge : 0 < g) (hw0 : 0 ≤ S.writes) (hw1 : S.writes < 1000000) :
    Calls Tryd.prog 10 #[.pointer (some ⟨g, 0, none⟩), .pointer (some ⟨h, 0, none⟩), .agg x.cells] w (fun e w' => e = .returned (.bool true) ∧ Two w g lo h b (S.act x) (S.act x) w') := by
  have h0 : 0 ≤ pickZ x.kind 7 ∧ pickZ x.kind 7 < 7 := by unfold pickZ; omega
  rcases (show pickZ x.kind 7 = (0 : Nat) ∨ pickZ x.kind 7 = (1 : Nat) ∨ pickZ x.kind 7 = (2 : Nat) ∨ pickZ x.kind 7 = (3 : Nat) ∨ pickZ x.kind 7 = (4 : Nat) ∨ pickZ x.kind 7 = (5 : Nat) ∨ pickZ x.kind 7 = (6 : Nat) by omega) with hc | hc | hc | hc | hc | hc | hc
  · exact does0 x w hA hR hg hlo hL hge hw0 hw1 hc
  · exact does1 x w hA hR hg hlo hL hge hw0 hw1 hc
  · exact does2 x w hA hR hg hlo hL hge hw0 hw1 hc
  · exact does3 x w hA hR hg hlo hL hge hw0 hw1 hc
  · exact does4 x w hA hR hg hlo hL hge hw0 hw1 hc
  · exact does5 x w hA hR hg hlo hL hge hw0 hw1 hc
  · exact does6 x w hA hR hg hlo hL hge hw0 hw1 hc
end Go.Proofs.YtdgdbcapojgnlaaDoor
