/-
  lineagelaw16.works.
-/
import Derived.Test.YtdgdbcapojgnlaaDoorGf
namespace Go.Proofs.YtdgdbcapojgnlaaDoor
set_option maxRecDepth 100000
open Go.RowKit Go.Shelf
attribute [local go_sem] Oper.semAt_some

theorem Ring.len {f : Int → Int × Int} {L : List Nat} (h : Ring f L) : L.length ≤ 32 := nodup_len 32 _ h.nodup h.lt
/-- What All hands out of a ring, listed by the law. -/
theorem ring_list {S : St} {L : List Nat} (h : Ring S.lk L) {m : Nat} (hm : 32 ≤ m) : (S.all (lsI (-1) L)).take m = L := by
  rw [all_ring h h.len]
  exact List.take_of_length_le (Nat.le_trans h.len hm)
set_option maxHeartbeats 4000000 in
theorem rworks_any (w : World) : Calls Tryd.prog 54 #[] w (RetB (.bool true) w) := by
  go_enter Tryd.func54, Tryd.ntmps54
  go_wp2_with (go_at_call 7; fail)
  refine (new_st w).mono ?_
  rintro e w1 ⟨g, rfl, hg, h1, b1⟩
  have B1 := Lib.hid b1
  have K1 := Lib.hid h1
  clear b1 h1
  have hs1 := B1.out.size
  obtain ⟨V, hV⟩ : ∃ V, w1.alloc (.cells #[.int .i64 4, .int .i64 7] 3) = V := ⟨_, rfl⟩
  have hi : IntsAt V (some ⟨w1.heap.size, 0, none⟩) (natInts [4, 7]) := by rw [← hV]; exact intsNew w1 (natInts [4, 7]) _ rfl
  have HI := Lib.hid hi
  have HV := Lib.hid hV
  have K2 := Lib.hid (show IsAr V g St.new from by rw [← hV]; exact K1.out.block (Below.heap_alloc _ _ _ K1.out.lt))
  have B2 := Lib.hid (show Below w.heap.size w V from by rw [← hV]; exact B1.out.alloc hs1 _)
  have hsV : V.heap.size = w1.heap.size + 1 := by rw [← hV]; simp
  have HSV := Lib.hid hsV
  clear hi hV hsV
  go_wp2_with (go_at_call 52; fail)
  rw [HV.out]
  refine (laid_any (some ⟨w1.heap.size, 0, none⟩) 2 [4, 7] g V K2.out ⟨by decide, by decide⟩ HI.out (fun a e => by cases e; show w1.heap.size ≠ g; have := K1.out.lt; omega) (by decide) (by decide)).mono ?_
  rintro e w3 ⟨rfl, S', hA3, hR3, hM3⟩
  have A3 := Lib.hid hA3
  have R3 := Lib.hid hR3
  have B3 := Lib.hid (B2.out.grown hA3.grown B2.out.size (fun k e => by cases e; exact hg))
  clear hA3 hR3 hM3 B2 K2
  rw [show lsI (-1) [4, 7] = 7 from rfl]
  go_wp2_with (go_at_call 17; fail)
  refine (rall_any 7 99 g w3 A3.out.ar).mono ?_
  rw [show (S'.all 7).take (99 : Int).toNat = [4, 7] from ring_list (L := [4, 7]) R3.out (by decide)]
  rintro e w4 ⟨v, rfl, hown, b4⟩
  obtain ⟨A4, c4, rfl, hin⟩ := owns_intsAt hown
  have HO := Lib.hid (hin.below ((Below.refl w4.heap.size w4).alloc (Nat.le_refl _) (.cells #[.int .i64 4, .int .i64 7] 3)) (Nat.le_refl _))
  have B4 := Lib.hid ((B3.out.trans (b4.mono B3.out.size)).alloc (by have := b4.size; have := B3.out.size; omega) (.cells #[.int .i64 4, .int .i64 7] 3))
  have HN := Lib.hid (intsNew w4 (natInts [4, 7]) #[.int .i64 4, .int .i64 7] rfl)
  clear hown hin b4
  go_wp2_with (go_at_call 14; fail)
  refine (sameI_eq A4 (some ⟨w4.heap.size, 0, none⟩) c4 2 2 (natInts [4, 7]) rfl (by decide) _ HO.out HN.out).mono ?_
  rintro e w5 ⟨rfl, b5⟩
  have B5 := Lib.hid (B4.out.trans (b5.mono B4.out.size))
  clear b5
  go_wp2
  go_ret
  exact ⟨rfl, B5.out⟩
end Go.Proofs.YtdgdbcapojgnlaaDoor
