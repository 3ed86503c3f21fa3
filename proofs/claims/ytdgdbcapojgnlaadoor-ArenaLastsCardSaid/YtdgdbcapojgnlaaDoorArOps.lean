/-
  Package arena: Get, Put, Take, Free, Writes.
-/
import Derived.Test.YtdgdbcapojgnlaaDoorArNew
import Derived.BigRegion
namespace Go.Proofs.YtdgdbcapojgnlaaDoor
set_option maxRecDepth 100000
open Go.RowKit Go.Sort

/-- Only block g of what lay has turned. -/
def Turned (w : World) (g : Nat) (w' : World) : Prop := w.grownBy w' (some g)
theorem turned_refl (w : World) (g : Nat) : w.grownBy w (some g) := ⟨rfl, rfl, rfl, Nat.le_refl _, fun _ _ _ => rfl⟩
theorem grownBy_trans {A B C : World} {r : Option Nat} (h : A.grownBy B r) (k : B.grownBy C r) : A.grownBy C r :=
  ⟨k.os.trans h.os, k.tape.trans h.tape, k.output.trans h.output, Nat.le_trans h.size k.size, fun j hj hn => (k.block j (Nat.lt_of_lt_of_le hj h.size) hn).trans (h.block j hj hn)⟩
theorem grownBy_below {A B : World} (h : Below A.heap.size A B) (r : Option Nat) : A.grownBy B r := ⟨h.os, h.tape, h.output, h.size, fun j hj _ => h.block j hj⟩
theorem grownBy_setRow (w : World) (g : Nat) (cs : Array Value) : w.grownBy (w.setRow g cs) (some g) :=
  ⟨rfl, rfl, rfl, by simp [World.setRow], fun k _ hk => setRow_other w g k cs (fun e => hk (by rw [e]))⟩
theorem grownBy_set (w : World) (g o : Nat) (v : Value) : w.grownBy (w.setCell ⟨g, o, none⟩ v) (some g) :=
  ⟨rfl, rfl, rfl, by simp [World.setCell], fun k _ hk => Below.heap_setCell _ _ _ _ (fun e => hk (by rw [e]))⟩

theorem there_in {i : Nat} (h : i < 32) (w : World) : Calls Tryd.prog 58 #[.int .i64 i] w (RetSame (.bool true) w) := by
  have := there_any i w
  rwa [show (decide (0 ≤ (i : Int)) && decide ((i : Int) < 32)) = true by simp; omega] at this
theorem there_out {i : Int} (h : i < 0 ∨ 32 ≤ i) (w : World) : Calls Tryd.prog 58 #[.int .i64 i] w (RetSame (.bool false) w) := by
  have := there_any i w
  rwa [show (decide (0 ≤ i) && decide (i < 32)) = false by simp; omega] at this

theorem writes_any (g : Nat) (A : Ar) (w : World) (hA : ArAt w g A) : Calls Tryd.prog 37 #[.pointer (some ⟨g, 0, none⟩)] w (RetSame (.int .i64 A.writes) w) := by
  have c := (hA.blk.cell 577).trans hA.full.writes_at
  clear hA
  go_enter Tryd.func37, Tryd.ntmps37
  go_wp2
  go_ret
  exact ⟨rfl, rfl⟩

set_option maxHeartbeats 2000000 in
theorem get_in {i : Nat} (hi : i < 32) (g : Nat) (A : Ar) {s : SlotV} (hs : A.slots[i]? = some s) (w : World) (hA : ArAt w g A) :
    Calls Tryd.prog 27 #[.pointer (some ⟨g, 0, none⟩), .int .i64 i] w (RetB (.tuple #[.agg s.cells, .nilIface]) w) := by
  have hrow := hA.full.row hs hA.blk
  have hlt := hA.blk.lt
  have HR := Lib.hid (hrow.alloc hlt (.cells SlotV.zero.cells 36))
  have hi1 : (i : Int) < 32 := by omega
  have hi0 : (0 : Int) ≤ (i : Int) := by omega
  have hU := Tryd.underlying36
  have HU := Lib.hid hU
  clear hA hrow hs hU
  go_enter Tryd.func27, Tryd.ntmps27
  go_wp2_with (first
    | (go_at_call 58; refine (there_in hi _).mono ?_; rintro e w' ⟨rfl, rfl⟩)
    | (refine wpList_load_at rfl rfl rfl HR.out HU.out rfl slotInfo ?_)
    | (refine wpList_store_new rfl rfl rfl rfl rfl (SlotV.one _) slotInfo ?_))
  exact bodyPost_ret (results_at_tmp rfl rfl (Blk.new w 36 s.cells).row HU.out rfl slotInfo) rfl ⟨rfl, (Below.refl _ _).alloc (Nat.le_refl _) _⟩
set_option maxHeartbeats 2000000 in
theorem get_out {i : Int} (hi : i < 0 ∨ 32 ≤ i) (p : Option Addr) (w : World) :
    Calls Tryd.prog 27 #[.pointer p, .int .i64 i] w (RetB (.tuple #[.agg SlotV.zero.cells, errno 1]) w) := by
  have HU := Lib.hid Tryd.underlying36
  have hz : ∀ w, (zeroValue 36).run Tryd.prog w = .ok (.agg SlotV.zero.cells) w := fun w => by kernel_rfl
  go_enter Tryd.func27, Tryd.ntmps27
  go_wp2_with (first
    | (go_at_call 58; refine (there_out hi _).mono ?_; rintro e w' ⟨rfl, rfl⟩)
    | (refine wpList_store_new rfl rfl rfl rfl rfl (SlotV.one _) slotInfo ?_))
  exact bodyPost_ret (results_at_tmp rfl rfl (Blk.new w 36 SlotV.zero.cells).row HU.out rfl slotInfo) rfl ⟨rfl, (Below.refl _ _).alloc (Nat.le_refl _) _⟩
end Go.Proofs.YtdgdbcapojgnlaaDoor
