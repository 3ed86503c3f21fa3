/-
  lineagekit: lists of ints, lent and kept. 
-/
import Derived.Test.YtahcedpfnechfaaDoorInts
namespace Go.Proofs.YtahcedpfnechfaaDoor
set_option maxRecDepth 100000
open Go.RowKit

def markI (j : Nat) : Int := -91000000 - (j : Int)
/-- Some numbers, and the sixteen marks behind them. -/
def fullI (l : List Int) : List Int := l ++ (List.range 16).map markI
theorem fullI_len (l : List Int) : (fullI l).length = l.length + 16 := by simp [fullI]
theorem fullI_take (l : List Int) : (fullI l).take l.length = l := by simp [fullI]
theorem fullI_lo {l : List Int} {k : Nat} {x : Int} (h : l[k]? = some x) : (fullI l)[k]? = some x := by
  have hk : k < l.length := (List.getElem?_eq_some_iff.1 h).1
  unfold fullI; rw [List.getElem?_append_left hk, h]
theorem fullI_hi {l : List Int} {j : Nat} (h : j < 16) : (fullI l)[l.length + j]? = some (markI j) := by
  unfold fullI
  rw [List.getElem?_append_right (by simp)]
  simp [h]
set_option maxHeartbeats 1000000 in
theorem markI_any (i : Int) (h1 : -1000000000000000000 ≤ i) (h2 : i ≤ 1000000000000000000) (w : World) : Calls Tryd.prog 51 #[.int .i64 90, .int .i64 i] w (RetSame (.int .i64 (-91000000 - i)) w) := by
  go_enter Tryd.func51, Tryd.ntmps51
  go_wp2
  go_ret
  exact ⟨rfl, rfl⟩

structure FRelI (w : World) (base off n : Nat) (L : Nat → List Int) (l i : Value) (wr : World) : Prop where
  ex : ∃ k m, k ≤ n ∧ m = off + k ∧ i = .int .i64 (k : Nat) ∧ wr.ownsRow base 3 1 l m (intVs (L k)) ∧ Below w.heap.size w wr ∧ base ≤ wr.heap.size
set_option maxHeartbeats 4000000 in
theorem fullI_any (A : Option Addr) (n cap : Nat) (l : List Int) (hl : l.length = n) (hn : n * 8 ≤ 140737488351232) (w : World) (hb : IntsAt w A l) :
    Calls Tryd.prog 38 #[.slice A n cap] w (fun e w' => ∃ g c, e = .returned (.slice (some ⟨g, 0, none⟩) (n + 16) c) ∧ n + 16 ≤ c ∧ c ≤ 9223372036854775807 ∧ IntsAt w' (some ⟨g, 0, none⟩) (fullI l) ∧ Below w.heap.size w w' ∧ w.heap.size ≤ g) := by
  obtain ⟨ii, iz, hi0, hz0, hz1, hz2, hz3⟩ := intInfo
  have HBB := Lib.hid hb
  have HL := Lib.hid hl
  have HN := Lib.hid hn
  have hn' : (n : Int) * 8 ≤ 140737488351232 := by omega
  clear hb hl hn
  go_enter Tryd.func38, Tryd.ntmps38
  go_wp2
  go_loopw [3, 4] (FRelI w w.heap.size 0 n (fun k => l.take k)) (fun _ i _ => n - (intOf i).toNat)
  case atStart => exact ⟨⟨0, 0, Nat.zero_le _, rfl, rfl, ⟨rfl, .inl ⟨rfl, rfl⟩⟩, Below.refl _ _, Nat.le_refl _⟩⟩
  case round =>
    obtain ⟨⟨k, m, hk, hm, rfl, hown, hbel, hsz⟩⟩ := hrel
    have BEL := Lib.hid hbel
    have HM := Lib.hid hm
    by_cases hlt : k < n
    · have hkn : (k : Int) < (n : Int) := by omega
      have hkl : k < l.length := by rw [HL.out]; exact hlt
      obtain ⟨x, hx⟩ : ∃ x, l[k]? = some x := ⟨_, List.getElem?_eq_getElem hkl⟩
      obtain ⟨b, off, rfl, hblt, hc⟩ := HBB.out (by omega)
      have hcell : wr.cell? ⟨b, off + k, none⟩ = some (.int .i64 x) := (hbel.cell (p := ⟨b, off + k, none⟩) hblt).trans (hc k x hx)
      have HXX := Lib.hid hx
      have HX1 := Lib.hid (show m + 1 ≤ maxLen by have := HN.out; unfold maxLen; omega)
      have HX2 := Lib.hid (show (m + 1) * 8 ≤ 140737488355328 by have := HN.out; omega)
      clear hbel hm hx hc HBB
      go_wp2_with (first
        | (at_builtin; refine wpList_append_grows (v := u3) rfl _ _ _ rfl Tryd.underlying23 hi0 hz0 hz1 hz2 hz3 (by decide) rfl hown rfl rfl (int_one _) HX1.out HX2.out hsz ?_; intro g' cap' w4 hown1 hgr1))
      go_roundw
      case rel =>
        refine ⟨⟨k + 1, m + 1, by omega, by rw [HM.out]; omega, by go_num, ?_, bel_grows BEL.out hgr1 hown (Nat.le_refl _) hsz, Nat.le_trans hsz hgr1.grown.size⟩⟩
        rw [List.take_add_one, HXX.out]
        simpa [intVs] using hown1
      case measure => simp [intOf]; omega
    · have hkn : k = n := by omega
      have hmn : m = n := by omega
      have hn2 : ¬ (k : Int) < (n : Int) := by omega
      rw [hmn, hkn, ← HL.out, List.take_length] at hown
      have HO := Lib.hid hown
      clear hown hbel hm
      go_wp2
      go_loopw [3, 5] (FRelI w w.heap.size n 16 (fun k => l ++ (List.range k).map markI)) (fun _ i _ => 16 - (intOf i).toNat)
      case atStart => exact ⟨⟨0, n, by omega, rfl, rfl, by rw [← HL.out]; simpa using HO.out, BEL.out, hsz⟩⟩
      case round =>
        clear HO BEL hsz HM hk hmn
        obtain ⟨⟨j, m, hj, hm, rfl, hown, hbel, hsz⟩⟩ := hrel
        have BEL := Lib.hid hbel
        have HM := Lib.hid hm
        clear hbel
        by_cases hlt : j < 16
        · have hj16 : (j : Int) < 16 := by omega
          have hmk : -91000000 - (j : Int) = markI j := rfl
          have HX1 := Lib.hid (show m + 1 ≤ maxLen by have := HN.out; unfold maxLen; omega)
          have HX2 := Lib.hid (show (m + 1) * 8 ≤ 140737488355328 by have := HN.out; omega)
          have HMK := Lib.hid hmk
          clear hm hmk
          go_wp2_with (first
            | (go_at_call 51; refine (markI_any _ (by omega) (by omega) _).mono ?_; rintro e w' ⟨rfl, rfl⟩; rw [HMK.out])
            | (at_builtin; refine wpList_append_grows (v := u3) rfl _ _ _ rfl Tryd.underlying23 hi0 hz0 hz1 hz2 hz3 (by decide) rfl hown rfl rfl (int_one _) HX1.out HX2.out hsz ?_; intro g' cap' w4 hown1 hgr1))
          go_roundw
          case rel =>
            refine ⟨⟨j + 1, m + 1, by omega, by rw [HM.out]; omega, by go_num, ?_, bel_grows BEL.out hgr1 hown (Nat.le_refl _) hsz, Nat.le_trans hsz hgr1.grown.size⟩⟩
            rw [List.range_succ, List.map_append, ← List.append_assoc]
            simpa [intVs] using hown1
          case measure => simp [intOf]; omega
        · have hj16 : j = 16 := by omega
          have hm16 : m = n + 16 := by omega
          subst hj16 hm16
          obtain ⟨g, c, rfl⟩ := own_form hown (by omega)
          have hcp := own_cap hown
          have HBA := Lib.hid (own_ints (l := fullI l) hown)
          have HCM := Lib.hid (show c ≤ 9223372036854775807 by have := hcp.2.1; unfold maxLen at this; omega)
          have HC12 := Lib.hid hcp.1
          have HCG := Lib.hid hcp.2.2.1
          clear hown hcp hm hj hlt HM
          go_wp2
          go_ret
          exact ⟨g, c, rfl, HC12.out, HCM.out, HBA.out, BEL.out, HCG.out⟩
set_option maxHeartbeats 1000000 in
theorem lentI_any (A : Option Addr) (n cap : Nat) (l : List Int) (hl : l.length = n) (hn : n * 8 ≤ 140737488351232) (w : World) (hb : IntsAt w A l) :
    Calls Tryd.prog 23 #[.slice A n cap] w (fun e w' => ∃ g c, e = .returned (.slice (some ⟨g, 0, none⟩) n c) ∧ n + 16 ≤ c ∧ c ≤ 9223372036854775807 ∧ IntsAt w' (some ⟨g, 0, none⟩) (fullI l) ∧ Below w.heap.size w w' ∧ w.heap.size ≤ g) := by
  go_enter Tryd.func23, Tryd.ntmps23
  go_wp2_with (first | (go_at_call 38; fail))
  refine (fullI_any A n cap l hl hn w hb).mono ?_
  rintro e w1 ⟨g, c, rfl, h1, h2, h3, h4, h5⟩
  have H3 := Lib.hid h3
  have H4 := Lib.hid h4
  have hc1 : (n : Int) ≤ (c : Int) := by omega
  clear h3 h4 hb
  go_wp2
  go_ret
  exact ⟨g, c, rfl, h1, h2, H3.out, H4.out, h5⟩
structure KRelI (w : World) (n : Nat) (i : Value) (wr : World) : Prop where
  ex : ∃ k : Nat, k ≤ n ∧ i = .int .i64 (k : Nat) ∧ w = wr
set_option maxHeartbeats 2000000 in
theorem keptFullI_any (g c : Nat) (A : Option Addr) (n cap : Nat) (l : List Int) (hl : l.length = n) (hn : n * 8 ≤ 140737488351232) (w : World) (ho : IntsAt w (some ⟨g, 0, none⟩) (fullI l)) (hb : IntsAt w A l) :
    Calls Tryd.prog 43 #[.slice (some ⟨g, 0, none⟩) (n + 16) c, .slice A n cap] w (RetSame (.bool true) w) := by
  have HBB := Lib.hid hb
  have HOO := Lib.hid ho
  have HL := Lib.hid hl
  have hn' : (n : Int) * 8 ≤ 140737488351232 := by omega
  clear hb ho hl
  go_enter Tryd.func43, Tryd.ntmps43
  go_wp2
  go_loopw [5] (KRelI w (n + 16)) (fun i _ => n + 16 - (intOf i).toNat)
  case atStart => exact ⟨⟨0, Nat.zero_le _, rfl, rfl⟩⟩
  case round =>
    obtain ⟨⟨k, hk, rfl, rfl⟩⟩ := hrel
    by_cases hlt : k < n + 16
    · have hk16 : (k : Int) < (n : Int) + 16 := by omega
      obtain ⟨g', o', e', _, hoc⟩ := HOO.out (by rw [fullI_len]; omega)
      injection e' with e'
      injection e' with e1 e2
      subst e1 e2
      by_cases hkn : k < n
      · have hkn' : (k : Int) < (n : Int) := by omega
        obtain ⟨x, hx⟩ : ∃ x, l[k]? = some x := ⟨_, List.getElem?_eq_getElem (by rw [HL.out]; exact hkn)⟩
        obtain ⟨b, off, rfl, _, hc⟩ := HBB.out (by have := HL.out; omega)
        have c1 := hc k x hx
        have c2 := hoc k x (fullI_lo hx)
        rw [Nat.zero_add] at c2
        clear hc hoc hx HBB HOO
        go_wp2_with (first
          | (go_at_call 51; refine (markI_any _ (by omega) (by omega) _).mono ?_; rintro e w' ⟨rfl, rfl⟩))
        go_roundw
        case rel => exact ⟨⟨k + 1, by omega, by go_num, rfl⟩⟩
        case measure => simp [intOf]; omega
      · obtain ⟨j, hj⟩ : ∃ j, k = n + j := ⟨k - n, by omega⟩
        have hkn' : ¬ (k : Int) < (n : Int) := by omega
        have hj16 : j < 16 := by omega
        have hkj : (k : Int) - (n : Int) = (j : Int) := by omega
        have c2 := hoc (l.length + j) _ (fullI_hi hj16)
        rw [Nat.zero_add, HL.out, ← hj] at c2
        have hmk : -91000000 - (j : Int) = markI j := rfl
        have HMK := Lib.hid hmk
        clear hoc HBB HOO hmk hj
        go_wp2_with (first
          | (go_at_call 51; refine (markI_any _ (by omega) (by omega) _).mono ?_; rintro e w' ⟨rfl, rfl⟩; rw [HMK.out]))
        go_roundw
        case rel => exact ⟨⟨k + 1, by omega, by go_num, rfl⟩⟩
        case measure => simp [intOf]; omega
    · have hk16 : ¬ (k : Int) < (n : Int) + 16 := by omega
      clear HBB HOO
      go_wp2
      go_ret
      exact ⟨rfl, rfl⟩
set_option maxHeartbeats 1000000 in
theorem keptI_any (g c : Nat) (A : Option Addr) (n cap : Nat) (l : List Int) (hl : l.length = n) (hn : n * 8 ≤ 140737488351232) (hc : n + 16 ≤ c) (w : World) (ho : IntsAt w (some ⟨g, 0, none⟩) (fullI l)) (hb : IntsAt w A l) :
    Calls Tryd.prog 26 #[.slice (some ⟨g, 0, none⟩) n c, .slice A n cap] w (RetSame (.bool true) w) := by
  have HK := Lib.hid (fun w ho hb => keptFullI_any g c A n cap l hl hn w ho hb)
  have hc' : (n : Int) + 16 ≤ (c : Int) := by omega
  have hn' : (n : Int) * 8 ≤ 140737488351232 := by omega
  have HO := Lib.hid ho
  have HB := Lib.hid hb
  clear ho hb
  go_enter Tryd.func26, Tryd.ntmps26
  go_wp2_with (first | (go_at_call 43; fail))
  refine (HK.out w HO.out HB.out).mono ?_
  rintro e w' ⟨rfl, rfl⟩
  go_wp2
  go_ret
  exact ⟨rfl, rfl⟩
end Go.Proofs.YtahcedpfnechfaaDoor
