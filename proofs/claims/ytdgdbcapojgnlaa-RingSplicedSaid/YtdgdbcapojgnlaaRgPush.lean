/-
  Package ring: Push, Drop at any arena.
-/
import Derived.Test.YtdgdbcapojgnlaaRgOps
import Derived.Deep.RegionHeld3
namespace Go.Proofs.Ytdgdbcapojgnlaa
set_option maxRecDepth 100000
open Go.RowKit

/-- Since w: the arena at g is S; nothing else that lay has turned. -/
structure At (w : World) (g : Nat) (S : St) (W : World) : Prop where
  ar : IsAr W g S
  grown : w.grownBy W (some g)
section
variable {w W W' : World} {g : Nat} {S S' : St}
theorem At.start (h : IsAr w g S) : At w g S w := ⟨h, turned_refl w g⟩
theorem At.read (h : At w g S W) (hb : Below W.heap.size W W') : At w g S W' := ⟨h.ar.below hb h.ar.lt, grownBy_trans h.grown (grownBy_below hb _)⟩
theorem At.turn (h : At w g S W) (hA : IsAr W' g S') (hG : W.grownBy W' (some g)) : At w g S' W' := ⟨hA, grownBy_trans h.grown hG⟩
theorem At.trans (h : At w g S W) (k : At W g S' W') : At w g S' W' := ⟨k.ar, grownBy_trans h.grown k.grown⟩
theorem At.same (h : At w g S W) (hb : W'.heap[g]? = W.heap[g]?) (hG : W.grownBy W' (some g)) : At w g S W' := ⟨h.ar.block hb, grownBy_trans h.grown hG⟩
end
def RetA (v : Value) (w : World) (g : Nat) (S : St) (e : Ending) (w' : World) : Prop := e = .returned v ∧ At w g S w'
theorem link_writes (S : St) (i p n : Int) : S.writes ≤ (S.link i p n).writes ∧ (S.link i p n).writes ≤ S.writes + 1 := by
  unfold St.link
  split
  · split
    · simp [St.put]; omega
    · omega
  · omega
theorem link_len (S : St) (i p n : Int) : (S.link i p n).slots.length = S.slots.length := by
  unfold St.link
  split
  · split
    · simp [St.put]
    · rfl
  · rfl
theorem set_at {S : St} {w W : World} {g : Nat} (h : At w g S W) (i p n : Int) (hw0 : 0 ≤ S.writes) (hw1 : S.writes < 1000000000) :
    Calls Try.prog 38 #[.pointer (some ⟨g, 0, none⟩), .int .i64 i, lkV (p, n)] W (RetA (.tuple #[]) w g (S.link i p n)) :=
  (set_any i p n g W h.ar hw0 hw1).mono fun e W' ⟨h1, h2, h3⟩ => ⟨h1, h.turn h2 h3⟩
theorem of_at {S : St} {w W : World} {g : Nat} (h : At w g S W) (i : Int) : Calls Try.prog 37 #[.pointer (some ⟨g, 0, none⟩), .int .i64 i] W (fun e W' => e = .returned (lkV (S.lk i)) ∧ At w g S W' ∧ Below W.heap.size W W') :=
  (of_any i g W h.ar).mono fun e W' ⟨h1, h2⟩ => ⟨h1, h.read h2, h2⟩
theorem well_at {S : St} {w W : World} {g : Nat} (h : At w g S W) (i : Int) : Calls Try.prog 36 #[.pointer (some ⟨g, 0, none⟩), .int .i64 i] W (fun e W' => e = .returned (.bool (S.well i)) ∧ At w g S W' ∧ Below W.heap.size W W') :=
  (well_any i g W h.ar).mono fun e W' ⟨h1, h2⟩ => ⟨h1, h.read h2, h2⟩
/-- The fault with this number, at a slot. -/
def faultV (k at_ : Int) : Value := .iface 75 (.agg #[.int .i64 k, .int .i64 at_])
/-- Push, as the code has it: what is answered, and the arena then. -/
def St.push (S : St) (last i : Int) : Value × St :=
  if inR i = false then (.tuple #[.int .i64 0, errno 1], S)
  else if last = -1 then (.tuple #[.int .i64 i, .nilIface], S.link i i i)
  else if inR last = false then (.tuple #[.int .i64 0, errno 1], S)
  else if S.well last = false then (.tuple #[.int .i64 0, faultV 24 last], S)
  else if i = last ∨ i = (S.lk last).2 then (.tuple #[.int .i64 0, errno 9], S)
  else if (S.lk last).2 = last then (.tuple #[.int .i64 i, .nilIface], (S.link i last (S.lk last).2).link last i i)
  else
    let S1 := S.link i last (S.lk last).2
    let S2 := S1.link last (S1.lk last).1 i
    (.tuple #[.int .i64 i, .nilIface], S2.link (S.lk last).2 i (S2.lk (S.lk last).2).2)
set_option maxHeartbeats 8000000 in
theorem push_any {S : St} (last i : Int) (g : Nat) (w : World) (h : IsAr w g S) (hw0 : 0 ≤ S.writes) (hw1 : S.writes < 900000000) :
    Calls Try.prog 27 #[.pointer (some ⟨g, 0, none⟩), .int .i64 last, .int .i64 i] w (RetA (S.push last i).1 w g (S.push last i).2) := by
  have H0 := Lib.hid (At.start h)
  have HW := Lib.hid (And.intro hw0 hw1)
  have fl0 := field0
  have fl1 := field1
  clear h hw0 hw1
  have there := rthere_any
  have TH := Lib.hid there
  clear there
  by_cases hi : inR i = false
  · rw [show S.push last i = (.tuple #[.int .i64 0, errno 1], S) from by simp [St.push, hi]]
    go_enter Try.func27, Try.ntmps27
    go_wp2_with (go_at_call 35; refine (TH.out _ _).mono ?_; rintro e w' ⟨rfl, rfl⟩)
    go_ret2
    exact ⟨rfl, H0.out⟩
  · have hi' : inR i = true := by simpa using hi
    by_cases hl : last = -1
    · rw [show S.push last i = (.tuple #[.int .i64 i, .nilIface], S.link i i i) from by simp [St.push, hi', hl]]
      have hl1 : (last == -1) = true := by simp [hl]
      have hl2 : (last != -1) = false := by simp [hl]
      clear hi hl
      go_enter Try.func27, Try.ntmps27
      go_wp2_with (first | (go_at_call 35; refine (TH.out _ _).mono ?_; rintro e w' ⟨rfl, rfl⟩) | (go_at_call 38; fail))
      refine (set_at H0.out i i i HW.out.1 (by have := HW.out.2; omega)).mono ?_
      rintro e w1 ⟨rfl, h1⟩
      have H1 := Lib.hid h1
      clear h1
      go_wp2
      go_ret2
      exact ⟨rfl, H1.out⟩
    · have hl1 : (last == -1) = false := by simpa using hl
      have hl2 : (last != -1) = true := by simpa using hl
      by_cases hr : inR last = false
      · rw [show S.push last i = (.tuple #[.int .i64 0, errno 1], S) from by simp [St.push, hi', hl, hr]]
        clear hi hl
        go_enter Try.func27, Try.ntmps27
        go_wp2_with (go_at_call 35; refine (TH.out _ _).mono ?_; rintro e w' ⟨rfl, rfl⟩)
        go_ret2
        exact ⟨rfl, H0.out⟩
      · have hr' : inR last = true := by simpa using hr
        by_cases hwl : S.well last = false
        · rw [show S.push last i = (.tuple #[.int .i64 0, faultV 24 last], S) from by simp [St.push, hi', hl, hr', hwl]]
          clear hi hl hr
          go_enter Try.func27, Try.ntmps27
          go_wp2_with (first | (go_at_call 35; refine (TH.out _ _).mono ?_; rintro e w' ⟨rfl, rfl⟩) | (go_at_call 36; fail))
          refine (well_at H0.out last).mono ?_
          rintro e w1 ⟨rfl, h1, _⟩
          have H1 := Lib.hid h1
          clear h1
          go_wp2
          go_ret2
          exact ⟨rfl, H1.out⟩
        · have hwl' : S.well last = true := by simpa using hwl
          obtain ⟨first, hf⟩ : ∃ f, (S.lk last).2 = f := ⟨_, rfl⟩
          obtain ⟨prev, hp⟩ : ∃ f, (S.lk last).1 = f := ⟨_, rfl⟩
          have hlk : S.lk last = (prev, first) := by rw [← hf, ← hp]
          have HLK := Lib.hid hlk
          by_cases he : i = last ∨ i = first
          · rw [show S.push last i = (.tuple #[.int .i64 0, errno 9], S) from by simp only [St.push, hi', hl, hr', hwl', hf, if_pos he]; simp]
            have key : (i == last) = true ∨ ((i == last) = false ∧ (i == first) = true) := by
              by_cases e : i = last
              · exact .inl (by simp [e])
              · exact .inr ⟨by simpa using e, by have := he.resolve_left e; simp [this]⟩
            clear hi hl hr hwl hf hp hlk he
            rcases key with h1 | ⟨h1, h2⟩
            all_goals
              go_enter Try.func27, Try.ntmps27
              go_wp2_with (first | (go_at_call 35; refine (TH.out _ _).mono ?_; rintro e w' ⟨rfl, rfl⟩) | (go_at_call 36; fail))
              refine (well_at H0.out last).mono ?_
              rintro e w1 ⟨rfl, hA1, _⟩
              have H1 := Lib.hid hA1
              clear hA1
              go_wp2_with (go_at_call 37; fail)
              refine (of_at H1.out last).mono ?_
              rintro e w2 ⟨rfl, hA2, _⟩
              have H2 := Lib.hid hA2
              clear hA2
              rw [HLK.out]
              unfold lkV
              go_wp2
              go_ret2
              exact ⟨rfl, H2.out⟩
          · have h1 : (i == last) = false := by simpa using fun e => he (.inl e)
            have h2 : (i == first) = false := by simpa using fun e => he (.inr e)
            by_cases hfl : first = last
            · rw [show S.push last i = (.tuple #[.int .i64 i, .nilIface], (S.link i last first).link last i i) from by simp only [St.push, hi', hl, hr', hwl', hf, if_neg he, if_pos hfl]; simp]
              have h3 : (first == last) = true := by simpa using hfl
              clear hi hl hr hwl hf hp hlk he hfl
              go_enter Try.func27, Try.ntmps27
              go_wp2_with (first | (go_at_call 35; refine (TH.out _ _).mono ?_; rintro e w' ⟨rfl, rfl⟩) | (go_at_call 36; fail))
              refine (well_at H0.out last).mono ?_
              rintro e w1 ⟨rfl, hA1, _⟩
              have H1 := Lib.hid hA1
              clear hA1
              go_wp2_with (go_at_call 37; fail)
              refine (of_at H1.out last).mono ?_
              rintro e w2 ⟨rfl, hA2, _⟩
              have H2 := Lib.hid hA2
              clear hA2
              rw [HLK.out]
              unfold lkV
              go_wp2_with (go_at_call 38; fail)
              refine (set_at H2.out i last first HW.out.1 (by have := HW.out.2; omega)).mono ?_
              rintro e w3 ⟨rfl, hA3⟩
              have H3 := Lib.hid hA3
              clear hA3
              have HW3 := Lib.hid (link_writes S i last first)
              go_wp2_with (go_at_call 38; fail)
              refine (set_at H3.out last i i (by have := HW.out.1; have := HW3.out.1; omega) (by have := HW.out.2; have := HW3.out.2; omega)).mono ?_
              rintro e w4 ⟨rfl, hA4⟩
              have H4 := Lib.hid hA4
              clear hA4
              go_wp2
              go_ret2
              exact ⟨rfl, H4.out⟩
            · rw [show S.push last i = (.tuple #[.int .i64 i, .nilIface], ((S.link i last first).link last ((S.link i last first).lk last).1 i).link first i (((S.link i last first).link last ((S.link i last first).lk last).1 i).lk first).2) from by simp only [St.push, hi', hl, hr', hwl', hf, if_neg he, if_neg hfl]; simp]
              have h3 : (first == last) = false := by simpa using hfl
              obtain ⟨S1, hS1⟩ : ∃ S1, S.link i last first = S1 := ⟨_, rfl⟩
              obtain ⟨x, hx⟩ : ∃ x, S1.lk last = x := ⟨_, rfl⟩
              obtain ⟨x1, x2⟩ := x
              have HS1 := Lib.hid hS1
              have HX := Lib.hid hx
              rw [hS1, hx]
              obtain ⟨S2, hS2⟩ : ∃ S2, S1.link last x1 i = S2 := ⟨_, rfl⟩
              obtain ⟨y, hy⟩ : ∃ y, S2.lk first = y := ⟨_, rfl⟩
              obtain ⟨y1, y2⟩ := y
              have HS2 := Lib.hid hS2
              have HY := Lib.hid hy
              simp only [hS2, hy]
              clear hi hl hr hwl hf hp hlk he hfl hS1 hx hS2 hy
              go_enter Try.func27, Try.ntmps27
              go_wp2_with (first | (go_at_call 35; refine (TH.out _ _).mono ?_; rintro e w' ⟨rfl, rfl⟩) | (go_at_call 36; fail))
              refine (well_at H0.out last).mono ?_
              rintro e w1 ⟨rfl, hA1, _⟩
              have H1 := Lib.hid hA1
              clear hA1
              go_wp2_with (go_at_call 37; fail)
              refine (of_at H1.out last).mono ?_
              rintro e w2 ⟨rfl, hA2, _⟩
              have H2 := Lib.hid hA2
              clear hA2
              rw [HLK.out]
              unfold lkV
              go_wp2_with (go_at_call 38; fail)
              refine (set_at H2.out i last first HW.out.1 (by have := HW.out.2; omega)).mono ?_
              rintro e w3 ⟨rfl, hA3⟩
              have H3 := Lib.hid hA3
              clear hA3
              have HW3 := Lib.hid (link_writes S i last first)
              rw [HS1.out] at H3 HW3
              go_wp2_with (go_at_call 37; fail)
              refine (of_at H3.out last).mono ?_
              rintro e w4 ⟨rfl, hA4, _⟩
              have H4 := Lib.hid hA4
              clear hA4
              rw [HX.out]
              unfold lkV
              go_wp2_with (go_at_call 38; fail)
              refine (set_at H4.out last x1 i (by have := HW.out.1; have := HW3.out.1; omega) (by have := HW.out.2; have := HW3.out.2; omega)).mono ?_
              rintro e w5 ⟨rfl, hA5⟩
              have H5 := Lib.hid hA5
              clear hA5
              have HW5 := Lib.hid (link_writes S1 last x1 i)
              rw [HS2.out] at H5 HW5
              go_wp2_with (go_at_call 37; fail)
              refine (of_at H5.out first).mono ?_
              rintro e w6 ⟨rfl, hA6, _⟩
              have H6 := Lib.hid hA6
              clear hA6
              rw [HY.out]
              unfold lkV
              go_wp2_with (go_at_call 38; fail)
              refine (set_at H6.out first i y2 (by have := HW.out.1; have := HW3.out.1; have := HW5.out.1; omega) (by have := HW.out.2; have := HW3.out.2; have := HW5.out.2; omega)).mono ?_
              rintro e w7 ⟨rfl, hA7⟩
              have H7 := Lib.hid hA7
              clear hA7
              go_wp2
              go_ret2
              exact ⟨rfl, H7.out⟩
end Go.Proofs.Ytdgdbcapojgnlaa
