/-
  lineageref0.CopyBytes.
-/
import Derived.Test.YtpdpdojaaaipcaaDoorRTaken
namespace Go.Proofs.YtpdpdojaaaipcaaDoor
set_option maxRecDepth 100000
open Go.RowKit
structure CBRel (w : World) (n : Nat) (L : List UInt8) (l i : Value) (wr : World) : Prop where
  ex : ∃ k, k ≤ n ∧ i = .int .i64 (k : Nat) ∧ wr.ownsRow w.heap.size 5 1 l k (byv (L.take k)) ∧ Below w.heap.size w wr
set_option maxHeartbeats 4000000 in
theorem copyB_any (A : Option Addr) (n cap : Nat) (l : List UInt8) (hl : l.length = n) (hn : n ≤ 140737488355000) (w : World) (hb : BytesAt w A l) :
    Calls Tryd.prog 8 #[.slice A n cap] w (fun e w' => ∃ v, e = .returned v ∧ w'.ownsRow w.heap.size 5 1 v n (byv l) ∧ Below w.heap.size w w') := by
  obtain ⟨ii, iz, hi0, hz0, hz1, hz2, hz3⟩ := u8Info
  have HBB := Lib.hid hb
  have HL := Lib.hid hl
  have HN := Lib.hid hn
  clear hb hl hn
  go_enter Tryd.func8, Tryd.ntmps8
  go_wp2
  go_loopw [3, 4] (CBRel w n l) (fun _ i _ => n - (intOf i).toNat)
  case atStart => exact ⟨⟨0, Nat.zero_le _, rfl, ⟨rfl, .inl ⟨rfl, rfl⟩⟩, Below.refl _ _⟩⟩
  case round =>
    obtain ⟨⟨k, hk, rfl, hown, hbel⟩⟩ := hrel
    have BEL := Lib.hid hbel
    by_cases hlt : k < n
    · have hkn : (k : Int) < (n : Int) := by omega
      have hkl : k < l.length := by rw [HL.out]; exact hlt
      obtain ⟨x, hx⟩ : ∃ x, l[k]? = some x := ⟨_, List.getElem?_eq_getElem hkl⟩
      obtain ⟨b, off, rfl, hblt, hc⟩ := HBB.out (by omega)
      have hcell : wr.cell? ⟨b, off + k, none⟩ = some (.int .u8 (x.toNat : Int)) := (hbel.cell (p := ⟨b, off + k, none⟩) hblt).trans (hc k x hx)
      have HXX := Lib.hid hx
      have HX1 := Lib.hid (show k + 1 ≤ maxLen by have := HN.out; unfold maxLen; omega)
      have HX2 := Lib.hid (show (k + 1) * 1 ≤ 140737488355328 by have := HN.out; omega)
      have hsz : w.heap.size ≤ wr.heap.size := hbel.size
      have hkb : (k : Int) + 1 ≤ 4611686018427387904 := by have := HN.out; omega
      clear hbel hx hc HBB
      go_wp2_with (first
        | (at_builtin; refine wpList_append_grows (v := u3) rfl _ _ _ rfl Tryd.underlying22 hi0 hz0 hz1 hz2 hz3 (by decide) rfl hown rfl rfl (byte_one _) HX1.out HX2.out hsz ?_; intro g' cap' w4 hown1 hgr1))
      go_roundw
      case rel =>
        refine ⟨⟨k + 1, by omega, rfl, ?_, bel_grows BEL.out hgr1 hown (Nat.le_refl _) hsz⟩⟩
        rw [List.take_add_one, HXX.out, Option.toList_some, byv_append]
        exact hown1
      case measure => simp only [intOf]; omega
    · have hkn : k = n := by omega
      have hn2 : ¬ (k : Int) < (n : Int) := by omega
      rw [hkn, ← HL.out, List.take_length, HL.out] at hown
      have HO := Lib.hid hown
      clear hown hbel
      go_wp2
      go_ret
      exact ⟨u3, rfl, HO.out, BEL.out⟩
end Go.Proofs.YtpdpdojaaaipcaaDoor
