/-
  lineageref0.SameInts of a list and itself; the document's Runs.
-/
import Derived.Test.YtfdhkalallcfgaaDoorOf
import Derived.Test.YtfdhkalallcfgaaDoorRunL
namespace Go.Proofs.YtfdhkalallcfgaaDoor
set_option maxRecDepth 100000
open Go.RowKit

set_option maxHeartbeats 1000000 in
theorem sameI_eq (A1 A2 : Option Addr) (c1 c2 n : Nat) (l : List Int) (hl : l.length = n) (hn : n * 8 ≤ 140737488355328) (w : World) (h1 : IntsAt w A1 l) (h2 : IntsAt w A2 l) :
    Calls Tryd.prog 11 #[.slice A1 n c1, .slice A2 n c2] w (RetB (.bool true) w) := by
  have H1 := Lib.hid h1
  have H2 := Lib.hid h2
  have HL := Lib.hid hl
  have hn' : (n : Int) * 8 ≤ 140737488355328 := by omega
  clear h1 h2 hl
  go_enter Tryd.func11, Tryd.ntmps11
  go_wp2
  go_loopw [5] (fun i wr => ∃ k : Nat, k ≤ n ∧ i = .int .i64 k ∧ Below w.heap.size w wr) (fun i _ => n - (intOf i).toNat)
  case atStart => exact ⟨0, Nat.zero_le _, rfl, Below.refl _ _⟩
  case round =>
    obtain ⟨k, hk, rfl, hbel⟩ := hrel
    have BEL := Lib.hid hbel
    by_cases hlt : k < n
    · have hlt' : (k : Int) < (n : Int) := by omega
      obtain ⟨x, hx⟩ : ∃ x, l[k]? = some x := ⟨_, List.getElem?_eq_getElem (by rw [HL.out]; exact hlt)⟩
      obtain ⟨b1, o1, rfl, g1, r1⟩ := (H1.out.below hbel (Nat.le_refl _)) (by have := HL.out; omega)
      obtain ⟨b2, o2, rfl, g2, r2⟩ := (H2.out.below hbel (Nat.le_refl _)) (by have := HL.out; omega)
      have d1 := cell_regrown (r1 k x hx)
      have d2 := cell_regrown (r2 k x hx)
      clear r1 r2 hx H1 H2 hbel
      go_wp2
      refine wp_region_quiet_below (by kernel_rfl) (by kernel_rfl) ?_
      repeat (first | go_big_quiet_skip | (go_big_quiet_want; go_big_quiet_op; first | go_big_quiet_on))
      refine wpQuiet_nil ?_
      intro w1 hC
      have B1 := Lib.hid (BEL.out.trans ((below_class hC).mono BEL.out.size))
      clear hC d1 d2 BEL
      go_wp2
      go_roundw
      case rel => exact ⟨k + 1, by omega, by go_num, B1.out⟩
      case measure => simp [intOf]; omega
    · have hlt' : ¬ (k : Int) < (n : Int) := by omega
      clear H1 H2
      go_wp2
      go_ret
      exact ⟨rfl, BEL.out⟩

/-! ### the document's row of the bounds -/
theorem rhas_pred (x : BitVec 64) (i : Nat) (w : World) : Calls Tryd.prog 25 #[.int .u64 (wd x), .int .i64 ((i : Int) - 1)] w (RetSame (.bool (hasZ x ((i : Int) - 1))) w) := rhas_any x _ w
theorem edge_ne {x : BitVec 64} {i : Nat} : (hasZ x (i : Int) != hasZ x ((i : Int) - 1)) = edge x i := by
  rw [hasZ_nat]
  cases i with
  | zero => simp [hasZ, edge]
  | succ j => rw [show ((j + 1 : Nat) : Int) - 1 = (j : Int) by omega, hasZ_nat]; rfl
def RunsRel (w : World) (x : BitVec 64) (l i : Value) (wr : World) : Prop :=
  ∃ k : Nat, k ≤ 65 ∧ i = .int .i64 k ∧ wr.ownsRow w.heap.size 3 1 l (edgesB x k).length (intVs (edgesB x k)) ∧ Below w.heap.size w wr
set_option maxHeartbeats 1000000 in
theorem rruns_any (x : BitVec 64) (w : World) : Calls Tryd.prog 12 #[.int .u64 (wd x)] w (RetInts (edgesB x 65) w) := by
  obtain ⟨ii, iz, hi, hz0, hz1, hz2, hz3⟩ := intInfo
  go_enter Tryd.func12, Tryd.ntmps12
  go_wp2
  go_loopw [3, 4] (RunsRel w x) (fun _ i _ => 65 - (intOf i).toNat)
  case atStart => exact ⟨0, by omega, rfl, ownsInts_nil w, Below.refl _ _⟩
  case round =>
    obtain ⟨k, hk, rfl, hown, hbel⟩ := hrel
    by_cases hlt : k < 65
    · have hsz := hbel.size
      have hle : (k : Int) ≤ 64 := by omega
      have hed := @edge_ne x k
      obtain ⟨b1, e1⟩ : ∃ b, hasZ x (k : Int) = b := ⟨_, rfl⟩
      obtain ⟨b2, e2⟩ : ∃ b, hasZ x ((k : Int) - 1) = b := ⟨_, rfl⟩
      rw [e1, e2] at hed
      have hx := hed.symm
      clear hed
      cases b1 <;> cases b2
      · have HO := Lib.hid hown
        have HX : edge x k = false := hx
        have HX := Lib.hid HX
        clear hown hx
        go_wp2_with (go_at_call 25; refine (rhas_any x _ _).mono ?_; rintro e w' ⟨rfl, rfl⟩)
        go_roundw
        case rel => exact ⟨k + 1, by omega, by go_num, by rw [edgesB_f HX.out]; exact HO.out, hbel⟩
        case measure => simp [intOf]; omega
      · have HL := Lib.hid (edgesB_len x k)
        have h1 : (edgesB x k).length + 1 ≤ maxLen := by unfold maxLen; have := HL.out; omega
        have h2 : ((edgesB x k).length + 1) * 8 ≤ 140737488355328 := by have := HL.out; omega
        have H1 := Lib.hid h1
        have H2 := Lib.hid h2
        have HX : edge x k = true := hx
        have HX := Lib.hid HX
        clear h1 h2 hx
        go_wp2_with (first
          | (go_at_call 25; refine (rhas_any x _ _).mono ?_; rintro e w' ⟨rfl, rfl⟩)
          | (at_builtin; refine wpList_append_one (v := u3) rfl _ _ _ rfl Tryd.underlying24 hi hz0 hz1 hz2 hz3 (by decide) rfl hown rfl rfl (int_one _) H1.out H2.out hsz ?_; intro g' cap' w1 hown1 hgr1))
        go_roundw
        case rel => exact ⟨k + 1, by omega, by go_num, by rw [edgesB_t HX.out, List.length_append]; simpa [intVs] using hown1, bel_grown hbel hgr1 hown (Nat.le_refl _) hsz⟩
        case measure => simp [intOf]; omega
      · have HL := Lib.hid (edgesB_len x k)
        have h1 : (edgesB x k).length + 1 ≤ maxLen := by unfold maxLen; have := HL.out; omega
        have h2 : ((edgesB x k).length + 1) * 8 ≤ 140737488355328 := by have := HL.out; omega
        have H1 := Lib.hid h1
        have H2 := Lib.hid h2
        have HX : edge x k = true := hx
        have HX := Lib.hid HX
        clear h1 h2 hx
        go_wp2_with (first
          | (go_at_call 25; refine (rhas_any x _ _).mono ?_; rintro e w' ⟨rfl, rfl⟩)
          | (at_builtin; refine wpList_append_one (v := u3) rfl _ _ _ rfl Tryd.underlying24 hi hz0 hz1 hz2 hz3 (by decide) rfl hown rfl rfl (int_one _) H1.out H2.out hsz ?_; intro g' cap' w1 hown1 hgr1))
        go_roundw
        case rel => exact ⟨k + 1, by omega, by go_num, by rw [edgesB_t HX.out, List.length_append]; simpa [intVs] using hown1, bel_grown hbel hgr1 hown (Nat.le_refl _) hsz⟩
        case measure => simp [intOf]; omega
      · have HO := Lib.hid hown
        have HX : edge x k = false := hx
        have HX := Lib.hid HX
        clear hown hx
        go_wp2_with (go_at_call 25; refine (rhas_any x _ _).mono ?_; rintro e w' ⟨rfl, rfl⟩)
        go_roundw
        case rel => exact ⟨k + 1, by omega, by go_num, by rw [edgesB_f HX.out]; exact HO.out, hbel⟩
        case measure => simp [intOf]; omega
    · have hk' : k = 65 := by omega
      subst hk'
      clear hk hlt
      go_wp2
      go_ret
      exact ⟨_, rfl, hown, hbel⟩
end Go.Proofs.YtfdhkalallcfgaaDoor
