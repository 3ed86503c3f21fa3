/-
  Package ring: Drop at any arena.
-/
import Derived.Test.YtdgdbcapojgnlaaRgPush
namespace Go.Proofs.Ytdgdbcapojgnlaa
set_option maxRecDepth 100000
open Go.RowKit

/-- The ring's two neighbours made one another's. -/
def St.joined (S : St) (i p n : Int) : St :=
  if p = i then S else if p = n then S.link p n n
  else
    let S1 := S.link p (S.lk p).1 n
    S1.link n p (S1.lk n).2
/-- Drop, as the code has it: what is answered, and the arena then. -/
def St.dropR (S : St) (last i : Int) : Value × St :=
  if inR i = false ∨ inR last = false then (.tuple #[.int .i64 0, errno 1], S)
  else if S.well i = false then (.tuple #[.int .i64 0, faultV 24 i], S)
  else (.tuple #[.int .i64 (if i ≠ last then last else if (S.lk i).1 = i then -1 else (S.lk i).1), .nilIface], (S.joined i (S.lk i).1 (S.lk i).2).link i (-1) (-1))
/-- .. and the links that were read lie at b. -/
structure Dr (w : World) (g : Nat) (S : St) (b : Nat) (p n : Int) (W : World) : Prop where
  at_ : At w g S W
  c0 : W.cell? ⟨b, 0, none⟩ = some (.int .i64 p)
  c1 : W.cell? ⟨b, 1, none⟩ = some (.int .i64 n)
  gb : g ≠ b
  lt : b < W.heap.size
section
variable {w W W' : World} {g b : Nat} {S S' : St} {p n : Int}
theorem Dr.read (h : Dr w g S b p n W) (hb : Below W.heap.size W W') : Dr w g S b p n W' :=
  ⟨h.at_.read hb, (hb.cell (p := ⟨b, 0, none⟩) h.lt).trans h.c0, (hb.cell (p := ⟨b, 1, none⟩) h.lt).trans h.c1, h.gb, Nat.lt_of_lt_of_le h.lt hb.size⟩
theorem Dr.turn (h : Dr w g S b p n W) (hA : IsAr W' g S') (hG : W.grownBy W' (some g)) : Dr w g S' b p n W' :=
  ⟨h.at_.turn hA hG, (World.cell?_of_block (a := ⟨b, 0, none⟩) (hG.block b h.lt (fun e => h.gb (by cases e; rfl)))).trans h.c0, (World.cell?_of_block (a := ⟨b, 1, none⟩) (hG.block b h.lt (fun e => h.gb (by cases e; rfl)))).trans h.c1, h.gb, Nat.lt_of_lt_of_le h.lt hG.size⟩
theorem Dr.drew (h : Dr w g S b p n W) : Dr w g S b p n W.drew := h.read (Below.refl _ _).drew
end
theorem links_one (p n : Int) : ∀ v ∈ (#[Value.int .i64 p, .int .i64 n] : Array Value).toList, v.oneCell' = true := by intro v hv; simp at hv; rcases hv with rfl | rfl <;> rfl
set_option maxHeartbeats 8000000 in
theorem drop_any {S : St} (last i : Int) (g : Nat) (w : World) (h : IsAr w g S) (hw0 : 0 ≤ S.writes) (hw1 : S.writes < 900000000) :
    Calls Try.prog 26 #[.pointer (some ⟨g, 0, none⟩), .int .i64 last, .int .i64 i] w (RetA (S.dropR last i).1 w g (S.dropR last i).2) := by
  have H0 := Lib.hid (At.start h)
  have HW := Lib.hid (And.intro hw0 hw1)
  have fl0 := field0
  have fl1 := field1
  clear h hw0 hw1
  have TH := Lib.hid rthere_any
  by_cases hin : inR i = false ∨ inR last = false
  · rw [show S.dropR last i = (.tuple #[.int .i64 0, errno 1], S) from by simp only [St.dropR, if_pos hin]]
    have key : inR i = false ∨ (inR i = true ∧ inR last = false) := by
      rcases hb : inR i with _ | _
      · exact .inl rfl
      · exact .inr ⟨rfl, by rw [hb] at hin; simpa using hin⟩
    clear hin
    rcases key with h1 | ⟨h1, h2⟩
    all_goals
      go_enter Try.func26, Try.ntmps26
      go_wp2_with (go_at_call 35; refine (TH.out _ _).mono ?_; rintro e w' ⟨rfl, rfl⟩)
      go_ret2
      exact ⟨rfl, H0.out⟩
  · have hi : inR i = true := by simpa using fun e => hin (.inl e)
    have hl : inR last = true := by simpa using fun e => hin (.inr e)
    by_cases hwl : S.well i = false
    · rw [show S.dropR last i = (.tuple #[.int .i64 0, faultV 24 i], S) from by simp only [St.dropR, if_neg hin, if_pos hwl]]
      clear hin
      go_enter Try.func26, Try.ntmps26
      go_wp2_with (first | (go_at_call 35; refine (TH.out _ _).mono ?_; rintro e w' ⟨rfl, rfl⟩) | (go_at_call 36; fail))
      refine (well_at H0.out i).mono ?_
      rintro e w1 ⟨rfl, h1, _⟩
      have H1 := Lib.hid h1
      clear h1
      go_wp2
      go_ret2
      exact ⟨rfl, H1.out⟩
    · have hwl' : S.well i = true := by simpa using hwl
      obtain ⟨x, hx⟩ : ∃ x, S.lk i = x := ⟨_, rfl⟩
      obtain ⟨p, n⟩ := x
      have HLK := Lib.hid hx
      have ST := Lib.hid (links_one p n)
      have e : S.dropR last i = (.tuple #[.int .i64 (if i ≠ last then last else if p = i then -1 else p), .nilIface], (S.joined i p n).link i (-1) (-1)) := by
        simp only [St.dropR, if_neg hin, if_neg hwl, hx]
      rw [e]
      clear e hin hwl hx
      obtain ⟨r, hr⟩ : ∃ r : Int, (if i ≠ last then last else if p = i then -1 else p) = r := ⟨_, rfl⟩
      rw [hr]
      have tail : ((i != last) = true ∧ r = last) ∨ ((i != last) = false ∧ (p == i) = true ∧ r = -1) ∨ ((i != last) = false ∧ (p == i) = false ∧ r = p) := by
        by_cases e1 : i = last
        · by_cases e2 : p = i
          · exact .inr (.inl ⟨by simp [e1], by simp [e2], by rw [← hr, if_neg (by simp [e1]), if_pos e2]⟩)
          · exact .inr (.inr ⟨by simp [e1], by simpa using e2, by rw [← hr, if_neg (by simp [e1]), if_neg e2]⟩)
        · exact .inl ⟨by simpa using e1, by rw [← hr, if_pos e1]⟩
      clear hr
      obtain ⟨SJ, hSJ⟩ : ∃ SJ, S.joined i p n = SJ := ⟨_, rfl⟩
      rw [hSJ]
      have HSJ := Lib.hid hSJ
      clear hSJ
      by_cases h1 : p = i
      · have k1 : (p == i) = true := by simp [h1]
        have e : SJ = S := by rw [← HSJ.out]; simp only [St.joined, if_pos h1]
        rw [e]
        clear h1 HSJ e
        rcases tail with ⟨t1, tr⟩ | ⟨t1, t2, tr⟩ | ⟨t1, t2, tr⟩
        · rw [tr]
          clear tr
          go_enter Try.func26, Try.ntmps26
          go_wp2_with (first | (go_at_call 35; refine (TH.out _ _).mono ?_; rintro e w' ⟨rfl, rfl⟩) | (go_at_call 36; fail))
          refine (well_at H0.out i).mono ?_
          rintro e w1 ⟨rfl, hA1, _⟩
          have H1 := Lib.hid hA1
          clear hA1
          go_wp2_with (go_at_call 37; fail)
          refine (of_at H1.out i).mono ?_
          rintro e w2 ⟨rfl, hA2, _⟩
          rw [HLK.out]
          unfold lkV
          have BS := Blk.new w2 77 #[.int .i64 p, .int .i64 n]
          have D3 := Lib.hid (show Dr w g S w2.heap.size p n (w2.alloc (.cells #[.int .i64 p, .int .i64 n] 77)) from ⟨hA2.read ((Below.refl _ _).alloc (Nat.le_refl _) _), BS.cell 0, BS.cell 1, Nat.ne_of_lt hA2.ar.lt, by simp⟩)
          have c0 := D3.out.c0
          have c1 := D3.out.c1
          clear hA2 BS
          go_wp2_with (first | (refine wpList_store_new (ty := 77) rfl rfl rfl rfl rfl ST.out linksInfo ?_) | (go_at_call 38; fail))
          refine (set_any i (-1) (-1) g _ D3.out.at_.ar HW.out.1 (by have := HW.out.2; omega)).mono ?_
          rintro e w4 ⟨rfl, hA4, hG4⟩
          have D4 := Lib.hid (D3.out.turn hA4 hG4)
          clear hA4 hG4 c0 c1 D3
          have c0 := D4.out.c0
          have c1 := D4.out.c1
          go_wp2
          go_ret2
          exact ⟨rfl, D4.out.at_⟩
        · rw [tr]
          clear tr
          go_enter Try.func26, Try.ntmps26
          go_wp2_with (first | (go_at_call 35; refine (TH.out _ _).mono ?_; rintro e w' ⟨rfl, rfl⟩) | (go_at_call 36; fail))
          refine (well_at H0.out i).mono ?_
          rintro e w1 ⟨rfl, hA1, _⟩
          have H1 := Lib.hid hA1
          clear hA1
          go_wp2_with (go_at_call 37; fail)
          refine (of_at H1.out i).mono ?_
          rintro e w2 ⟨rfl, hA2, _⟩
          rw [HLK.out]
          unfold lkV
          have BS := Blk.new w2 77 #[.int .i64 p, .int .i64 n]
          have D3 := Lib.hid (show Dr w g S w2.heap.size p n (w2.alloc (.cells #[.int .i64 p, .int .i64 n] 77)) from ⟨hA2.read ((Below.refl _ _).alloc (Nat.le_refl _) _), BS.cell 0, BS.cell 1, Nat.ne_of_lt hA2.ar.lt, by simp⟩)
          have c0 := D3.out.c0
          have c1 := D3.out.c1
          clear hA2 BS
          go_wp2_with (first | (refine wpList_store_new (ty := 77) rfl rfl rfl rfl rfl ST.out linksInfo ?_) | (go_at_call 38; fail))
          refine (set_any i (-1) (-1) g _ D3.out.at_.ar HW.out.1 (by have := HW.out.2; omega)).mono ?_
          rintro e w4 ⟨rfl, hA4, hG4⟩
          have D4 := Lib.hid (D3.out.turn hA4 hG4)
          clear hA4 hG4 c0 c1 D3
          have c0 := D4.out.c0
          have c1 := D4.out.c1
          go_wp2
          go_ret2
          exact ⟨rfl, D4.out.at_⟩
        · exact absurd (t2.symm.trans k1) (by simp)
      · have k1 : (p == i) = false := by simpa using h1
        by_cases h2 : p = n
        · have k2 : (p == n) = true := by simp [h2]
          have e : S.link p n n = SJ := by rw [← HSJ.out]; simp only [St.joined, if_neg h1, if_pos h2]
          have HSJ := Lib.hid e
          clear h1 h2 e
          rcases tail with ⟨t1, tr⟩ | ⟨t1, t2, tr⟩ | ⟨t1, t2, tr⟩
          · rw [tr]
            clear tr
            go_enter Try.func26, Try.ntmps26
            go_wp2_with (first | (go_at_call 35; refine (TH.out _ _).mono ?_; rintro e w' ⟨rfl, rfl⟩) | (go_at_call 36; fail))
            refine (well_at H0.out i).mono ?_
            rintro e w1 ⟨rfl, hA1, _⟩
            have H1 := Lib.hid hA1
            clear hA1
            go_wp2_with (go_at_call 37; fail)
            refine (of_at H1.out i).mono ?_
            rintro e w2 ⟨rfl, hA2, _⟩
            rw [HLK.out]
            unfold lkV
            have BS := Blk.new w2 77 #[.int .i64 p, .int .i64 n]
            have D3 := Lib.hid (show Dr w g S w2.heap.size p n (w2.alloc (.cells #[.int .i64 p, .int .i64 n] 77)) from ⟨hA2.read ((Below.refl _ _).alloc (Nat.le_refl _) _), BS.cell 0, BS.cell 1, Nat.ne_of_lt hA2.ar.lt, by simp⟩)
            have c0 := D3.out.c0
            have c1 := D3.out.c1
            clear hA2 BS
            go_wp2_with (first | (refine wpList_store_new (ty := 77) rfl rfl rfl rfl rfl ST.out linksInfo ?_) | (go_at_call 38; fail))
            refine (set_any p n n g _ D3.out.at_.ar HW.out.1 (by have := HW.out.2; omega)).mono ?_
            rintro e w4 ⟨rfl, hA4, hG4⟩
            have D4 := Lib.hid (D3.out.turn hA4 hG4)
            clear hA4 hG4 c0 c1 D3
            have c0 := D4.out.c0
            have c1 := D4.out.c1
            have HW4 := Lib.hid (link_writes S p n n)
            rw [HSJ.out] at D4 HW4
            go_wp2_with (go_at_call 38; fail)
            refine (set_any i (-1) (-1) g _ D4.out.at_.ar (by have := HW.out.1; have := HW4.out.1; omega) (by have := HW.out.2; have := HW4.out.2; omega)).mono ?_
            rintro e w5 ⟨rfl, hA5, hG5⟩
            have D5 := Lib.hid (D4.out.turn hA5 hG5)
            clear hA5 hG5 c0 c1 D4
            have c0 := D5.out.c0
            have c1 := D5.out.c1
            go_wp2
            go_ret2
            exact ⟨rfl, D5.out.at_⟩
          · exact absurd (t2.symm.trans k1) (by simp)
          · rw [tr]
            clear tr
            go_enter Try.func26, Try.ntmps26
            go_wp2_with (first | (go_at_call 35; refine (TH.out _ _).mono ?_; rintro e w' ⟨rfl, rfl⟩) | (go_at_call 36; fail))
            refine (well_at H0.out i).mono ?_
            rintro e w1 ⟨rfl, hA1, _⟩
            have H1 := Lib.hid hA1
            clear hA1
            go_wp2_with (go_at_call 37; fail)
            refine (of_at H1.out i).mono ?_
            rintro e w2 ⟨rfl, hA2, _⟩
            rw [HLK.out]
            unfold lkV
            have BS := Blk.new w2 77 #[.int .i64 p, .int .i64 n]
            have D3 := Lib.hid (show Dr w g S w2.heap.size p n (w2.alloc (.cells #[.int .i64 p, .int .i64 n] 77)) from ⟨hA2.read ((Below.refl _ _).alloc (Nat.le_refl _) _), BS.cell 0, BS.cell 1, Nat.ne_of_lt hA2.ar.lt, by simp⟩)
            have c0 := D3.out.c0
            have c1 := D3.out.c1
            clear hA2 BS
            go_wp2_with (first | (refine wpList_store_new (ty := 77) rfl rfl rfl rfl rfl ST.out linksInfo ?_) | (go_at_call 38; fail))
            refine (set_any p n n g _ D3.out.at_.ar HW.out.1 (by have := HW.out.2; omega)).mono ?_
            rintro e w4 ⟨rfl, hA4, hG4⟩
            have D4 := Lib.hid (D3.out.turn hA4 hG4)
            clear hA4 hG4 c0 c1 D3
            have c0 := D4.out.c0
            have c1 := D4.out.c1
            have HW4 := Lib.hid (link_writes S p n n)
            rw [HSJ.out] at D4 HW4
            go_wp2_with (go_at_call 38; fail)
            refine (set_any i (-1) (-1) g _ D4.out.at_.ar (by have := HW.out.1; have := HW4.out.1; omega) (by have := HW.out.2; have := HW4.out.2; omega)).mono ?_
            rintro e w5 ⟨rfl, hA5, hG5⟩
            have D5 := Lib.hid (D4.out.turn hA5 hG5)
            clear hA5 hG5 c0 c1 D4
            have c0 := D5.out.c0
            have c1 := D5.out.c1
            go_wp2
            go_ret2
            exact ⟨rfl, D5.out.at_⟩
        · have k2 : (p == n) = false := by simpa using h2
          obtain ⟨y, hy⟩ : ∃ y, S.lk p = y := ⟨_, rfl⟩
          obtain ⟨y1, y2⟩ := y
          obtain ⟨S1, hS1⟩ : ∃ S1, S.link p y1 n = S1 := ⟨_, rfl⟩
          obtain ⟨z, hz⟩ : ∃ z, S1.lk n = z := ⟨_, rfl⟩
          obtain ⟨z1, z2⟩ := z
          have e : S1.link n p z2 = SJ := by rw [← HSJ.out]; simp only [St.joined, if_neg h1, if_neg h2, hy, hS1, hz]
          have HSJ := Lib.hid e
          have HY := Lib.hid hy
          have HS1 := Lib.hid hS1
          have HZ := Lib.hid hz
          clear h1 h2 e hy hS1 hz
          rcases tail with ⟨t1, tr⟩ | ⟨t1, t2, tr⟩ | ⟨t1, t2, tr⟩
          · rw [tr]
            clear tr
            go_enter Try.func26, Try.ntmps26
            go_wp2_with (first | (go_at_call 35; refine (TH.out _ _).mono ?_; rintro e w' ⟨rfl, rfl⟩) | (go_at_call 36; fail))
            refine (well_at H0.out i).mono ?_
            rintro e w1 ⟨rfl, hA1, _⟩
            have H1 := Lib.hid hA1
            clear hA1
            go_wp2_with (go_at_call 37; fail)
            refine (of_at H1.out i).mono ?_
            rintro e w2 ⟨rfl, hA2, _⟩
            rw [HLK.out]
            unfold lkV
            have BS := Blk.new w2 77 #[.int .i64 p, .int .i64 n]
            have D3 := Lib.hid (show Dr w g S w2.heap.size p n (w2.alloc (.cells #[.int .i64 p, .int .i64 n] 77)) from ⟨hA2.read ((Below.refl _ _).alloc (Nat.le_refl _) _), BS.cell 0, BS.cell 1, Nat.ne_of_lt hA2.ar.lt, by simp⟩)
            have c0 := D3.out.c0
            have c1 := D3.out.c1
            clear hA2 BS
            go_wp2_with (refine wpList_store_new (ty := 77) rfl rfl rfl rfl rfl ST.out linksInfo ?_)
            refine wp_region_noPanic ?_
            have OF4 := Lib.hid (of_any p g _ D3.out.drew.at_.ar)
            rw [HY.out] at OF4
            have d0 := D3.out.drew.c0
            have d1 := D3.out.drew.c1
            go_region_held3 (fun W' => W'.cell? ⟨w2.heap.size, 0, none⟩ = some (.int .i64 p) ∧ W'.cell? ⟨w2.heap.size, 1, none⟩ = some (.int .i64 n))
              (first | assumption | exact ⟨d0, d1⟩ | exact ⟨(D3.out.drew.read hb4).c0, (D3.out.drew.read hb4).c1⟩ | exact ⟨((D3.out.drew.read hb4).turn hA4 hG4).c0, ((D3.out.drew.read hb4).turn hA4 hG4).c1⟩)
              (first
                | (go_at_call 37; refine OF4.out.mono ?_; rintro e wo4 ⟨rfl, hb4⟩; unfold lkV)
                | (go_at_call 38; refine (set_any p y1 n g _ (D3.out.drew.read hb4).at_.ar HW.out.1 (by have := HW.out.2; omega)).mono ?_; rintro e w4 ⟨rfl, hA4, hG4⟩))
            refine NoPanic.normal ?_
            have D4 := Lib.hid ((D3.out.drew.read hb4).turn hA4 hG4)
            clear hA4 hG4 hb4 OF4 c0 c1 d0 d1 D3
            have c0 := D4.out.c0
            have c1 := D4.out.c1
            have HW4 := Lib.hid (link_writes S p y1 n)
            rw [HS1.out] at D4 HW4
            go_wp2
            refine wp_region_noPanic ?_
            have OF5 := Lib.hid (of_any n g _ D4.out.drew.at_.ar)
            rw [HZ.out] at OF5
            have d0 := D4.out.drew.c0
            have d1 := D4.out.drew.c1
            go_region_held3 (fun W' => W'.cell? ⟨w2.heap.size, 0, none⟩ = some (.int .i64 p) ∧ W'.cell? ⟨w2.heap.size, 1, none⟩ = some (.int .i64 n))
              (first | assumption | exact ⟨d0, d1⟩ | exact ⟨(D4.out.drew.read hb5).c0, (D4.out.drew.read hb5).c1⟩ | exact ⟨((D4.out.drew.read hb5).turn hA5 hG5).c0, ((D4.out.drew.read hb5).turn hA5 hG5).c1⟩)
              (first
                | (go_at_call 37; refine OF5.out.mono ?_; rintro e wo5 ⟨rfl, hb5⟩; unfold lkV)
                | (go_at_call 38; refine (set_any n p z2 g _ (D4.out.drew.read hb5).at_.ar (by have := HW.out.1; have := HW4.out.1; omega) (by have := HW.out.2; have := HW4.out.2; omega)).mono ?_; rintro e w5 ⟨rfl, hA5, hG5⟩))
            refine NoPanic.normal ?_
            have D5 := Lib.hid ((D4.out.drew.read hb5).turn hA5 hG5)
            clear hA5 hG5 hb5 OF5 c0 c1 d0 d1 D4
            have c0 := D5.out.c0
            have c1 := D5.out.c1
            have HW5 := Lib.hid (link_writes S1 n p z2)
            rw [HSJ.out] at D5 HW5
            go_wp2_with (go_at_call 38; fail)
            refine (set_any i (-1) (-1) g _ D5.out.at_.ar (by have := HW.out.1; have := HW4.out.1; have := HW5.out.1; omega) (by have := HW.out.2; have := HW4.out.2; have := HW5.out.2; omega)).mono ?_
            rintro e w6 ⟨rfl, hA6, hG6⟩
            have D6 := Lib.hid (D5.out.turn hA6 hG6)
            clear hA6 hG6 c0 c1 D5
            have c0 := D6.out.c0
            have c1 := D6.out.c1
            go_wp2
            go_ret2
            exact ⟨rfl, D6.out.at_⟩
          · exact absurd (t2.symm.trans k1) (by simp)
          · rw [tr]
            clear tr
            go_enter Try.func26, Try.ntmps26
            go_wp2_with (first | (go_at_call 35; refine (TH.out _ _).mono ?_; rintro e w' ⟨rfl, rfl⟩) | (go_at_call 36; fail))
            refine (well_at H0.out i).mono ?_
            rintro e w1 ⟨rfl, hA1, _⟩
            have H1 := Lib.hid hA1
            clear hA1
            go_wp2_with (go_at_call 37; fail)
            refine (of_at H1.out i).mono ?_
            rintro e w2 ⟨rfl, hA2, _⟩
            rw [HLK.out]
            unfold lkV
            have BS := Blk.new w2 77 #[.int .i64 p, .int .i64 n]
            have D3 := Lib.hid (show Dr w g S w2.heap.size p n (w2.alloc (.cells #[.int .i64 p, .int .i64 n] 77)) from ⟨hA2.read ((Below.refl _ _).alloc (Nat.le_refl _) _), BS.cell 0, BS.cell 1, Nat.ne_of_lt hA2.ar.lt, by simp⟩)
            have c0 := D3.out.c0
            have c1 := D3.out.c1
            clear hA2 BS
            go_wp2_with (refine wpList_store_new (ty := 77) rfl rfl rfl rfl rfl ST.out linksInfo ?_)
            refine wp_region_noPanic ?_
            have OF4 := Lib.hid (of_any p g _ D3.out.drew.at_.ar)
            rw [HY.out] at OF4
            have d0 := D3.out.drew.c0
            have d1 := D3.out.drew.c1
            go_region_held3 (fun W' => W'.cell? ⟨w2.heap.size, 0, none⟩ = some (.int .i64 p) ∧ W'.cell? ⟨w2.heap.size, 1, none⟩ = some (.int .i64 n))
              (first | assumption | exact ⟨d0, d1⟩ | exact ⟨(D3.out.drew.read hb4).c0, (D3.out.drew.read hb4).c1⟩ | exact ⟨((D3.out.drew.read hb4).turn hA4 hG4).c0, ((D3.out.drew.read hb4).turn hA4 hG4).c1⟩)
              (first
                | (go_at_call 37; refine OF4.out.mono ?_; rintro e wo4 ⟨rfl, hb4⟩; unfold lkV)
                | (go_at_call 38; refine (set_any p y1 n g _ (D3.out.drew.read hb4).at_.ar HW.out.1 (by have := HW.out.2; omega)).mono ?_; rintro e w4 ⟨rfl, hA4, hG4⟩))
            refine NoPanic.normal ?_
            have D4 := Lib.hid ((D3.out.drew.read hb4).turn hA4 hG4)
            clear hA4 hG4 hb4 OF4 c0 c1 d0 d1 D3
            have c0 := D4.out.c0
            have c1 := D4.out.c1
            have HW4 := Lib.hid (link_writes S p y1 n)
            rw [HS1.out] at D4 HW4
            go_wp2
            refine wp_region_noPanic ?_
            have OF5 := Lib.hid (of_any n g _ D4.out.drew.at_.ar)
            rw [HZ.out] at OF5
            have d0 := D4.out.drew.c0
            have d1 := D4.out.drew.c1
            go_region_held3 (fun W' => W'.cell? ⟨w2.heap.size, 0, none⟩ = some (.int .i64 p) ∧ W'.cell? ⟨w2.heap.size, 1, none⟩ = some (.int .i64 n))
              (first | assumption | exact ⟨d0, d1⟩ | exact ⟨(D4.out.drew.read hb5).c0, (D4.out.drew.read hb5).c1⟩ | exact ⟨((D4.out.drew.read hb5).turn hA5 hG5).c0, ((D4.out.drew.read hb5).turn hA5 hG5).c1⟩)
              (first
                | (go_at_call 37; refine OF5.out.mono ?_; rintro e wo5 ⟨rfl, hb5⟩; unfold lkV)
                | (go_at_call 38; refine (set_any n p z2 g _ (D4.out.drew.read hb5).at_.ar (by have := HW.out.1; have := HW4.out.1; omega) (by have := HW.out.2; have := HW4.out.2; omega)).mono ?_; rintro e w5 ⟨rfl, hA5, hG5⟩))
            refine NoPanic.normal ?_
            have D5 := Lib.hid ((D4.out.drew.read hb5).turn hA5 hG5)
            clear hA5 hG5 hb5 OF5 c0 c1 d0 d1 D4
            have c0 := D5.out.c0
            have c1 := D5.out.c1
            have HW5 := Lib.hid (link_writes S1 n p z2)
            rw [HSJ.out] at D5 HW5
            go_wp2_with (go_at_call 38; fail)
            refine (set_any i (-1) (-1) g _ D5.out.at_.ar (by have := HW.out.1; have := HW4.out.1; have := HW5.out.1; omega) (by have := HW.out.2; have := HW4.out.2; have := HW5.out.2; omega)).mono ?_
            rintro e w6 ⟨rfl, hA6, hG6⟩
            have D6 := Lib.hid (D5.out.turn hA6 hG6)
            clear hA6 hG6 c0 c1 D5
            have c0 := D6.out.c0
            have c1 := D6.out.c1
            go_wp2
            go_ret2
            exact ⟨rfl, D6.out.at_⟩
end Go.Proofs.Ytdgdbcapojgnlaa
