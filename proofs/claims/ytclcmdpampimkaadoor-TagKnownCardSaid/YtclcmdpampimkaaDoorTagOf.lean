/-
  lineagelaw07: the walk of TagOf.
-/
import Derived.Test.YtclcmdpampimkaaDoorTagRef3
import Derived.Test.YtclcmdpampimkaaDoorPlain
import Derived.ChangeKeysEq
namespace Go.Proofs.YtclcmdpampimkaaDoor
set_option maxRecDepth 100000
open Go.RowKit

theorem eql_one (x y : Int) (w : World) : (Op.equalIn 10000 56 (.agg #[.int .u64 x]) (.agg #[.int .u64 y])).run Tryd.prog w = .ok (x == y) w := by
  obtain ⟨i, hi, _⟩ : ∃ i, Tryd.prog.info? 30 = some i ∧ i.size = 1 := by
    have h : (Tryd.prog.info? 30).map (·.size) = some 1 := by kernel_rfl
    obtain ⟨i, h1, h2⟩ := Option.map_eq_some_iff.1 h
    exact ⟨i, h1, h2⟩
  have hc : Tryd.prog.cellsOf 30 = 1 := by kernel_rfl
  have hp : ∀ v : Int, (part 30 #[.int .u64 v] (0 * 1)).run Tryd.prog w = .ok (.int .u64 v) w := fun v => by kernel_rfl
  have hq := run_equalIn_int (P := Tryd.prog) w 9998 30 .u64 .u64 x y Tryd.underlying30
  rw [run_equalIn_array w 9999 _ _ Tryd.underlying56 hi, hc]
  show (Op.eqItems 9999 30 1 _ _ [0]).run _ _ = _
  simp only [Op.eqItems, Sem.run_bind, hp, Result.andThen_ok]
  rw [show (9999 : Nat) = 9998 + 1 from rfl, hq]
  simp only [Result.andThen_ok]
  cases (x == y) <;> rfl
theorem same_any (a b : BitVec 64) (w : World) : Calls Tryd.prog 13 #[.int .u64 (wd a), .int .u64 (wd b)] w (RetSame (.bool (a == b)) w) := by
  have hq : (wd a == wd b) = (a == b) := by
    rw [Bool.eq_iff_iff]
    simp only [beq_iff_eq]
    constructor
    · intro h; unfold wd at h; exact BitVec.eq_of_toNat_eq (by omega)
    · intro h; rw [h]
  have heq := eql_one
  go_enter Tryd.func13, Tryd.ntmps13
  go_wp2
  go_ret
  exact ⟨rfl, rfl⟩
set_option maxHeartbeats 2000000 in
theorem tagOf_wrong (key : ByteArray) (hk : key.size ≠ 16) (slot birth : Int) (a b : BitVec 64) (w : World) (hg : Laid w) : Calls Tryd.prog 5 #[.string key, .int .i64 slot, .int .i64 birth, .int .u64 (wd a), .int .u64 (wd b)] w (RetB (.bool true) w) := by
  have h1 : ((key.size : Int) != 16) = true := by simp; omega
  have h2 : ¬ (key.size : Int) = 16 := by omega
  have hq : (wd a == wd b) = (a == b) := by
    rw [Bool.eq_iff_iff]
    simp only [beq_iff_eq]
    constructor
    · intro h; unfold wd at h; exact BitVec.eq_of_toNat_eq (by omega)
    · intro h; rw [h]
  have HK := Lib.hid hk
  have HG := Lib.hid hg
  have hpos := hg.pos
  clear hk hg
  go_enter Tryd.func5, Tryd.ntmps5
  go_wp2_with (first
    | (go_at_call 13; refine (same_any _ _ _).mono ?_; rintro e w' ⟨rfl, rfl⟩)
    | (go_at_call 6; fail))
  refine (new_wrong key HK.out _).mono ?_
  rintro e w1 ⟨rfl, h1'⟩
  have HB1 := Lib.hid h1'
  have s1 := h1'.size
  clear h1'
  go_wp2_with (first
    | (go_at_call 7; fail))
  refine (plain_errno 14 14 (by decide) (by decide) _ (HG.out.below HB1.out hpos)).mono ?_
  rintro e w2 ⟨rfl, h2'⟩
  have HB2 := HB1.out.trans (h2'.mono s1)
  clear h2' HB1
  go_wp2
  go_ret
  exact ⟨rfl, HB2⟩
set_option maxHeartbeats 2000000 in
theorem tagOf_right (key : ByteArray) (hk : key.size = 16) (slot birth : Int) (a b : BitVec 64) (w : World) : Calls Tryd.prog 5 #[.string key, .int .i64 slot, .int .i64 birth, .int .u64 (wd a), .int .u64 (wd b)] w (RetB (.bool true) w) := by
  have h2 : (key.size : Int) = 16 := by omega
  have hq : (wd a == wd b) = (a == b) := by
    rw [Bool.eq_iff_iff]
    simp only [beq_iff_eq]
    constructor
    · intro h; unfold wd at h; exact BitVec.eq_of_toNat_eq (by omega)
    · intro h; rw [h]
  obtain ⟨ks, hks⟩ : ∃ ks, keySt key.data.toList = ks := ⟨_, rfl⟩
  have hnew : ∀ w, Calls Tryd.prog 6 #[.string key] w (fun e w' => ∃ g, e = .returned (newV g) ∧ Blk w' g 45 ks.cells ∧ w.heap.size ≤ g ∧ Below w.heap.size w w') := fun w => by rw [← hks]; exact new_right key hk w
  obtain ⟨X, hX⟩ : ∃ X, sipSum ks (ofL (low32 slot) (low64 birth)) = X := ⟨_, rfl⟩
  have hrof : ∀ w, Calls Tryd.prog 15 #[.string key, .int .i64 slot, .int .i64 birth] w (RetB (.int .u64 (wd X)) w) := fun w => by rw [← hX, ← hks]; exact rof_any key hk slot birth w
  have HN := Lib.hid hnew
  have HR := Lib.hid hrof
  have HX := Lib.hid hX
  clear hk hks hnew hrof hX
  go_enter Tryd.func5, Tryd.ntmps5
  go_wp2_with (first
    | (go_at_call 13; refine (same_any _ _ _).mono ?_; rintro e w' ⟨rfl, rfl⟩)
    | (go_at_call 6; fail))
  refine (HN.out _).mono ?_
  rintro e w1 ⟨g1, rfl, hK1, hg1, hb1⟩
  have HK1 := Lib.hid hK1
  have HB1 := Lib.hid hb1
  have s1 := hb1.size
  unfold newV
  clear hK1 hb1 hg1
  go_wp2_with (first | (go_at_call 14; fail))
  refine (of_any g1 ks slot birth w1 HK1.out.row HK1.out.lt).mono ?_
  rintro e w2 ⟨rfl, h2'⟩
  rw [HX.out]
  have HB2 := Lib.hid (HB1.out.trans (h2'.mono s1))
  have s2 := HB2.out.size
  clear h2' HB1 s1 HK1
  go_wp2_with (first | (go_at_call 15; fail))
  refine (HR.out _).mono ?_
  rintro e w3 ⟨rfl, h3'⟩
  have HB3 := HB2.out.trans (h3'.mono s2)
  have hxx : (X == X) = true := by simp
  clear h3' HB2 s2
  go_wp2
  go_ret
  exact ⟨rfl, HB3⟩
theorem tagOf_any (key : ByteArray) (slot birth : Int) (a b : BitVec 64) (w : World) (hg : Laid w) : Calls Tryd.prog 5 #[.string key, .int .i64 slot, .int .i64 birth, .int .u64 (wd a), .int .u64 (wd b)] w (RetB (.bool true) w) := by
  by_cases h : key.size = 16
  · exact tagOf_right key h slot birth a b w
  · exact tagOf_wrong key h slot birth a b w hg
end Go.Proofs.YtclcmdpampimkaaDoor
