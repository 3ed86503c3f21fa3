/-
  The document's arena: There, Bare, Get.
-/
import Derived.Test.YtdgdbcapojgnlaaDoorRefAr
namespace Go.Proofs.YtdgdbcapojgnlaaDoor
set_option maxRecDepth 100000
open Go.RowKit

theorem refArInfo : (Tryd.prog.info? 48).map (·.size) = some 3 := by kernel_rfl
theorem rthereA_any (i : Int) (w : World) : Calls Tryd.prog 40 #[.int .i64 i] w (RetSame (.bool (inR i)) w) := by
  by_cases h0 : 0 ≤ i
  · by_cases h1 : i < 32
    · have e : inR i = true := by simp [inR, h0, h1]
      rw [e]
      go_enter Tryd.func40, Tryd.ntmps40
      go_wp2
      go_ret
      exact ⟨rfl, rfl⟩
    · have e : inR i = false := by simp [inR, h1]
      rw [e]
      go_enter Tryd.func40, Tryd.ntmps40
      go_wp2
      go_ret
      exact ⟨rfl, rfl⟩
  · have e : inR i = false := by simp [inR, h0]
    rw [e]
    go_enter Tryd.func40, Tryd.ntmps40
    go_wp2
    go_ret
    exact ⟨rfl, rfl⟩
theorem rbare_any (w : World) : Calls Tryd.prog 25 #[] w (RetB (.agg SlotV.bare.cells) w) := by
  have HU := Lib.hid Tryd.underlying36
  go_enter Tryd.func25, Tryd.ntmps25
  go_wp2_with (first
    | (refine wpList_build_as rfl rfl rfl built_bare ?_)
    | (refine wpList_store_new rfl rfl rfl rfl rfl (SlotV.one _) slotInfo ?_))
  exact bodyPost_ret (results_at rfl rfl (Blk.new w 36 SlotV.bare.cells).row HU.out rfl slotInfo) rfl ⟨rfl, (Below.refl _ _).alloc (Nat.le_refl _) _⟩
/-- A slot's zero cells, written out. -/
@[reducible] def zeroL : Array Value := #[.bool false, .bool false, .int .i64 0, .int .i64 0, .int .i64 0, .int .i64 0, .int .i64 0, .int .i64 0, .int .i64 0, .int .i64 0, .string ⟨#[]⟩, .string ⟨#[]⟩, .int .u64 0, .int .i64 0, .int .i64 0, .int .i64 0, .int .i64 0]
/-- The error's number of a place. -/
def noAt (j : Int) : Value := .int .i64 (if inR j = true then 0 else 1)
set_option maxHeartbeats 2000000 in
theorem rget_any {S : St} {lo h : Nat} (j : Int) (w : World) (r : IsRef lo h S w) : Calls Tryd.prog 26 #[.pointer (some ⟨h, 0, none⟩), .int .i64 j] w (RetB (.tuple #[.agg (S.slotAt j).cells, noAt j]) w) := by
  have HU := Lib.hid Tryd.underlying36
  have TH := Lib.hid rthereA_any
  rcases hj : inR j with _ | _
  · rw [show S.slotAt j = SlotV.zero from if_neg (by simp [hj]), show noAt j = .int .i64 1 from by unfold noAt; rw [if_neg (by simp [hj])]]
    have hz : ∀ w, (zeroValue 36).run Tryd.prog w = .ok (.agg SlotV.zero.cells) w := fun w => by kernel_rfl
    go_enter Tryd.func26, Tryd.ntmps26
    go_wp2_with (first
      | (go_at_call 40; refine (TH.out _ _).mono ?_; rintro e w' ⟨rfl, rfl⟩)
      | (refine wpList_store_new rfl rfl rfl rfl rfl (SlotV.one _) slotInfo ?_))
    exact bodyPost_ret (results_at_tmp rfl rfl (Blk.new w 36 SlotV.zero.cells).row HU.out rfl slotInfo) rfl ⟨rfl, (Below.refl _ _).alloc (Nat.le_refl _) _⟩
  · have h2 := inR_iff.1 hj
    obtain ⟨k, rfl⟩ : ∃ k : Nat, j = (k : Int) := ⟨j.toNat, by omega⟩
    obtain ⟨b, cap, junk, vF, r⟩ := r
    have hk : k < S.slots.length := by rw [r.len]; omega
    have hs : S.slots[k]? = some S.slots[k] := List.getElem?_eq_getElem hk
    have e1 : S.slotAt (k : Int) = S.slots[k] := by unfold St.slotAt; rw [if_pos hj, Int.toNat_natCast, hs]
    rw [e1, show noAt (k : Int) = .int .i64 0 from by unfold noAt; rw [if_pos hj]]
    generalize S.slots[k] = s at hs
    have hrow := r.row hs
    have HR := Lib.hid (hrow.alloc r.slots.lt (.cells SlotV.zero.cells 36))
    have c0 : (w.alloc (.cells zeroL 36)).cell? ⟨h, 0, none⟩ = _ := (r.head.alloc (.cells SlotV.zero.cells 36)).cell 0
    have hk1 : (k : Int) < 32 := by omega
    have hk0 : (0 : Int) ≤ (k : Int) := by omega
    simp only [List.getElem?_toArray, List.getElem?_cons_zero, zeroL] at c0
    clear r hs hrow e1 hk h2
    go_enter Tryd.func26, Tryd.ntmps26
    go_wp2_with (first
      | (go_at_call 40; refine (TH.out _ _).mono ?_; rintro e w' ⟨rfl, rfl⟩)
      | (refine wpList_load_at (ty := 36) rfl rfl rfl HR.out HU.out rfl slotInfo ?_)
      | (refine wpList_store_new rfl rfl rfl rfl rfl (SlotV.one _) slotInfo ?_))
    exact bodyPost_ret (results_at_tmp rfl rfl (Blk.new w 36 s.cells).row HU.out rfl slotInfo) rfl ⟨rfl, (Below.refl _ _).alloc (Nat.le_refl _) _⟩
end Go.Proofs.YtdgdbcapojgnlaaDoor
