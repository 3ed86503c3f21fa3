/-
  lineagekit: lists of bytes, lent and kept.
-/
import Derived.Test.YtpdpdojaaaipcaaDoorU8
namespace Go.Proofs.YtpdpdojaaaipcaaDoor
set_option maxRecDepth 100000
open Go.RowKit

def markN (j : Nat) : Nat := (3367 + j) % 256
/-- Some bytes, and the sixteen marks behind them. -/
def fullN (l : List UInt8) : List Nat := l.map UInt8.toNat ++ (List.range 16).map markN
def fullB (l : List UInt8) : List UInt8 := (fullN l).map UInt8.ofNat
theorem fullN_lt (l : List UInt8) : ∀ x ∈ fullN l, x < 256 := fun x hx => by
  unfold fullN at hx
  rcases List.mem_append.1 hx with h | h
  · obtain ⟨y, _, rfl⟩ := List.mem_map.1 h; exact y.toNat_lt
  · obtain ⟨y, _, rfl⟩ := List.mem_map.1 h; unfold markN; omega
theorem fullB_len (l : List UInt8) : (fullB l).length = l.length + 16 := by simp [fullB, fullN]
theorem fullB_take (l : List UInt8) : (fullB l).take l.length = l := by
  have e : (l.map UInt8.toNat).map UInt8.ofNat = l := by simp [Function.comp_def]
  unfold fullB fullN
  rw [List.map_append, e]
  simp
theorem fullB_lo {l : List UInt8} {k : Nat} {x : UInt8} (h : l[k]? = some x) : (fullB l)[k]? = some x := by
  have hk : k < l.length := (List.getElem?_eq_some_iff.1 h).1
  rw [← h]
  conv => rhs; rw [← fullB_take l]
  rw [List.getElem?_take, if_pos hk]
theorem fullB_hi {l : List UInt8} {j : Nat} (h : j < 16) : (fullB l)[l.length + j]? = some (UInt8.ofNat (markN j)) := by
  unfold fullB fullN
  rw [List.map_append, List.getElem?_append_right (by simp)]
  simp [h]

set_option maxHeartbeats 1000000 in
theorem mark_any (i : Int) (h1 : -140737488351232 ≤ i) (h2 : i ≤ 140737488351232) (w : World) : Calls Tryd.prog 33 #[.int .i64 90, .int .i64 i] w (RetSame (.int .u8 ((3367 + i) % 256)) w) := by
  have e : IntKind.u8.wrap (3367 + i) = (3367 + i) % 256 := IntKind.wrap_u8 _
  go_enter Tryd.func33, Tryd.ntmps33
  go_wp2
  go_ret
  exact ⟨rfl, rfl⟩
structure FRel (w : World) (base off n : Nat) (L : Nat → List Nat) (l i : Value) (wr : World) : Prop where
  ex : ∃ k m, k ≤ n ∧ m = off + k ∧ i = .int .i64 (k : Nat) ∧ wr.ownsRow base 5 1 l m (u8v (L k)) ∧ Below w.heap.size w wr ∧ base ≤ wr.heap.size
set_option maxHeartbeats 4000000 in
theorem full_any (A : Option Addr) (n cap : Nat) (l : List UInt8) (hl : l.length = n) (hn : n ≤ 140737488351232) (w : World) (hb : BytesAt w A l) :
    Calls Tryd.prog 19 #[.slice A n cap] w (fun e w' => ∃ g c, e = .returned (.slice (some ⟨g, 0, none⟩) (n + 16) c) ∧ n + 16 ≤ c ∧ c ≤ 9223372036854775807 ∧ BytesAt w' (some ⟨g, 0, none⟩) (fullB l) ∧ Below w.heap.size w w' ∧ w'.ownsRow w.heap.size 5 1 (.slice (some ⟨g, 0, none⟩) (n + 16) c) (n + 16) (u8v (fullN l))) := by
  obtain ⟨ii, iz, hi0, hz0, hz1, hz2, hz3⟩ := u8Info
  have HBB := Lib.hid hb
  have HL := Lib.hid hl
  have HN := Lib.hid hn
  have hn' : (n : Int) ≤ 140737488351232 := by omega
  clear hb hl hn
  go_enter Tryd.func19, Tryd.ntmps19
  go_wp2
  go_loopw [3, 4] (FRel w w.heap.size 0 n (fun k => (l.take k).map UInt8.toNat)) (fun _ i _ => n - (intOf i).toNat)
  case atStart => exact ⟨⟨0, 0, Nat.zero_le _, rfl, rfl, ⟨rfl, .inl ⟨rfl, rfl⟩⟩, Below.refl _ _, Nat.le_refl _⟩⟩
  case round =>
    obtain ⟨⟨k, m, hk, hm, rfl, hown, hbel, hsz⟩⟩ := hrel
    have BEL := Lib.hid hbel
    have HM := Lib.hid hm
    by_cases hlt : k < n
    · have hkn : (k : Int) < (n : Int) := by omega
      have hkl : k < l.length := by rw [HL.out]; exact hlt
      obtain ⟨x, hx⟩ : ∃ x, l[k]? = some x := ⟨_, List.getElem?_eq_getElem hkl⟩
      obtain ⟨b, off, rfl, hblt, hc⟩ := HBB.out (by omega)
      have hcell : wr.cell? ⟨b, off + k, none⟩ = some (.int .u8 (x.toNat : Int)) := (hbel.cell (p := ⟨b, off + k, none⟩) hblt).trans (hc k x hx)
      have HXX := Lib.hid hx
      have HX1 := Lib.hid (show m + 1 ≤ maxLen by have := HN.out; unfold maxLen; omega)
      have HX2 := Lib.hid (show (m + 1) * 1 ≤ 140737488355328 by have := HN.out; omega)
      clear hbel hm hx hc HBB
      go_wp2_with (first
        | (at_builtin; refine wpList_append_grows (v := u3) rfl _ _ _ rfl Tryd.underlying22 hi0 hz0 hz1 hz2 hz3 (by decide) rfl hown rfl rfl (byte_one _) HX1.out HX2.out hsz ?_; intro g' cap' w4 hown1 hgr1))
      go_roundw
      case rel =>
        refine ⟨⟨k + 1, m + 1, by omega, by rw [HM.out]; omega, by go_num, ?_, bel_grows BEL.out hgr1 hown (Nat.le_refl _) hsz, Nat.le_trans hsz hgr1.grown.size⟩⟩
        rw [List.take_add_one, HXX.out, List.map_append]
        simpa [u8v] using hown1
      case measure => simp [intOf]; omega
    · have hkn : k = n := by omega
      have hmn : m = n := by omega
      have hn2 : ¬ (k : Int) < (n : Int) := by omega
      rw [hmn, hkn, ← HL.out, List.take_length] at hown
      have HO := Lib.hid hown
      clear hown hbel hm
      go_wp2
      go_loopw [3, 5] (FRel w w.heap.size n 16 (fun k => l.map UInt8.toNat ++ (List.range k).map markN)) (fun _ i _ => 16 - (intOf i).toNat)
      case atStart => exact ⟨⟨0, n, by omega, rfl, rfl, by rw [← HL.out]; simpa using HO.out, BEL.out, hsz⟩⟩
      case round =>
        clear HO BEL hsz HM hk hmn
        obtain ⟨⟨j, m, hj, hm, rfl, hown, hbel, hsz⟩⟩ := hrel
        have BEL := Lib.hid hbel
        have HM := Lib.hid hm
        clear hbel
        by_cases hlt : j < 16
        · have hj16 : (j : Int) < 16 := by omega
          have hmk : (3367 + (j : Int)) % 256 = ((markN j : Nat) : Int) := by unfold markN; omega
          have HX1 := Lib.hid (show m + 1 ≤ maxLen by have := HN.out; unfold maxLen; omega)
          have HX2 := Lib.hid (show (m + 1) * 1 ≤ 140737488355328 by have := HN.out; omega)
          have HMK := Lib.hid hmk
          clear hm hmk
          go_wp2_with (first
            | (go_at_call 33; refine (mark_any _ (by omega) (by omega) _).mono ?_; rintro e w' ⟨rfl, rfl⟩; rw [HMK.out])
            | (at_builtin; refine wpList_append_grows (v := u3) rfl _ _ _ rfl Tryd.underlying22 hi0 hz0 hz1 hz2 hz3 (by decide) rfl hown rfl rfl (byte_one _) HX1.out HX2.out hsz ?_; intro g' cap' w4 hown1 hgr1))
          go_roundw
          case rel =>
            refine ⟨⟨j + 1, m + 1, by omega, by rw [HM.out]; omega, by go_num, ?_, bel_grows BEL.out hgr1 hown (Nat.le_refl _) hsz, Nat.le_trans hsz hgr1.grown.size⟩⟩
            rw [List.range_succ, List.map_append, ← List.append_assoc]
            simpa [u8v] using hown1
          case measure => simp [intOf]; omega
        · have hj16 : j = 16 := by omega
          have hm16 : m = n + 16 := by omega
          subst hj16 hm16
          obtain ⟨g, c, rfl⟩ := own_form hown (by omega)
          have hcp := own_cap hown
          have HOWN := Lib.hid hown
          have HBA := Lib.hid (own_bytes (l := fullN l) hown (fullN_lt l))
          have HCM := Lib.hid (show c ≤ 9223372036854775807 by have := hcp.2.1; unfold maxLen at this; omega)
          have HC12 := Lib.hid hcp.1
          clear hown hcp hm hj hlt HM
          go_wp2
          go_ret
          exact ⟨g, c, rfl, HC12.out, HCM.out, HBA.out, BEL.out, HOWN.out⟩
set_option maxHeartbeats 1000000 in
theorem lentB_any (A : Option Addr) (n cap : Nat) (l : List UInt8) (hl : l.length = n) (hn : n ≤ 140737488351232) (w : World) (hb : BytesAt w A l) :
    Calls Tryd.prog 5 #[.slice A n cap] w (fun e w' => ∃ g c, e = .returned (.slice (some ⟨g, 0, none⟩) n c) ∧ n + 16 ≤ c ∧ c ≤ 9223372036854775807 ∧ BytesAt w' (some ⟨g, 0, none⟩) (fullB l) ∧ Below w.heap.size w w' ∧ w'.ownsRow w.heap.size 5 1 (.slice (some ⟨g, 0, none⟩) (n + 16) c) (n + 16) (u8v (fullN l))) := by
  go_enter Tryd.func5, Tryd.ntmps5
  go_wp2_with (first | (go_at_call 19; fail))
  refine (full_any A n cap l hl hn w hb).mono ?_
  rintro e w1 ⟨g, c, rfl, h1, h2, h3, h4, h5⟩
  have H3 := Lib.hid h3
  have H4 := Lib.hid h4
  have H5 := Lib.hid h5
  have hc1 : (n : Int) ≤ (c : Int) := by omega
  clear h3 h4 h5 hb
  go_wp2
  go_ret
  exact ⟨g, c, rfl, h1, h2, H3.out, H4.out, H5.out⟩
structure KRel (w : World) (n : Nat) (i : Value) (wr : World) : Prop where
  ex : ∃ k : Nat, k ≤ n ∧ i = .int .i64 (k : Nat) ∧ w = wr
set_option maxHeartbeats 2000000 in
theorem keptFull_any (g c : Nat) (A : Option Addr) (n cap : Nat) (l : List UInt8) (hl : l.length = n) (hn : n ≤ 140737488351232) (w : World) (ho : BytesAt w (some ⟨g, 0, none⟩) (fullB l)) (hb : BytesAt w A l) :
    Calls Tryd.prog 21 #[.slice (some ⟨g, 0, none⟩) (n + 16) c, .slice A n cap] w (RetSame (.bool true) w) := by
  have HBB := Lib.hid hb
  have HOO := Lib.hid ho
  have HL := Lib.hid hl
  have hn' : (n : Int) ≤ 140737488351232 := by omega
  clear hb ho hl
  go_enter Tryd.func21, Tryd.ntmps21
  go_wp2
  go_loopw [5] (KRel w (n + 16)) (fun i _ => n + 16 - (intOf i).toNat)
  case atStart => exact ⟨⟨0, Nat.zero_le _, rfl, rfl⟩⟩
  case round =>
    obtain ⟨⟨k, hk, rfl, rfl⟩⟩ := hrel
    by_cases hlt : k < n + 16
    · have hk16 : (k : Int) < (n : Int) + 16 := by omega
      obtain ⟨g', o', e', _, hoc⟩ := HOO.out (by rw [fullB_len]; omega)
      injection e' with e'
      injection e' with e1 e2
      subst e1 e2
      by_cases hkn : k < n
      · have hkn' : (k : Int) < (n : Int) := by omega
        obtain ⟨x, hx⟩ : ∃ x, l[k]? = some x := ⟨_, List.getElem?_eq_getElem (by rw [HL.out]; exact hkn)⟩
        obtain ⟨b, off, rfl, _, hc⟩ := HBB.out (by have := HL.out; omega)
        have c1 := hc k x hx
        have c2 := hoc k x (fullB_lo hx)
        rw [Nat.zero_add] at c2
        clear hc hoc hx HBB HOO
        go_wp2_with (first
          | (go_at_call 33; refine (mark_any _ (by omega) (by omega) _).mono ?_; rintro e w' ⟨rfl, rfl⟩))
        go_roundw
        case rel => exact ⟨⟨k + 1, by omega, by go_num, rfl⟩⟩
        case measure => simp [intOf]; omega
      · obtain ⟨j, hj⟩ : ∃ j, k = n + j := ⟨k - n, by omega⟩
        have hkn' : ¬ (k : Int) < (n : Int) := by omega
        have hj16 : j < 16 := by omega
        have hkj : (k : Int) - (n : Int) = (j : Int) := by omega
        have c2 := hoc (l.length + j) _ (fullB_hi hj16)
        rw [Nat.zero_add, HL.out, ← hj] at c2
        have hmk : (3367 + (j : Int)) % 256 = ((UInt8.ofNat (markN j)).toNat : Int) := by
          rw [UInt8.toNat_ofNat', Nat.mod_eq_of_lt (by unfold markN; omega)]; unfold markN; omega
        have HMK := Lib.hid hmk
        clear hoc HBB HOO hmk hj
        go_wp2_with (first
          | (go_at_call 33; refine (mark_any _ (by omega) (by omega) _).mono ?_; rintro e w' ⟨rfl, rfl⟩; rw [HMK.out]))
        go_roundw
        case rel => exact ⟨⟨k + 1, by omega, by go_num, rfl⟩⟩
        case measure => simp [intOf]; omega
    · have hk16 : ¬ (k : Int) < (n : Int) + 16 := by omega
      clear HBB HOO
      go_wp2
      go_ret
      exact ⟨rfl, rfl⟩
set_option maxHeartbeats 1000000 in
theorem keptB_any (g c : Nat) (A : Option Addr) (n cap : Nat) (l : List UInt8) (hl : l.length = n) (hn : n ≤ 140737488351232) (hc : n + 16 ≤ c) (w : World) (ho : BytesAt w (some ⟨g, 0, none⟩) (fullB l)) (hb : BytesAt w A l) :
    Calls Tryd.prog 7 #[.slice (some ⟨g, 0, none⟩) n c, .slice A n cap] w (RetSame (.bool true) w) := by
  have HK := Lib.hid (fun w ho hb => keptFull_any g c A n cap l hl hn w ho hb)
  have hc' : (n : Int) + 16 ≤ (c : Int) := by omega
  have hn' : (n : Int) ≤ 140737488351232 := by omega
  have HO := Lib.hid ho
  have HB := Lib.hid hb
  clear ho hb
  go_enter Tryd.func7, Tryd.ntmps7
  go_wp2_with (first | (go_at_call 21; fail))
  refine (HK.out w HO.out HB.out).mono ?_
  rintro e w' ⟨rfl, rfl⟩
  go_wp2
  go_ret
  exact ⟨rfl, rfl⟩
end Go.Proofs.YtpdpdojaaaipcaaDoor
