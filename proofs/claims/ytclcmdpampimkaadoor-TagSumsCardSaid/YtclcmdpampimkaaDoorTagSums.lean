/-
  lineagelaw07: the walk of TagSums.
-/
import Derived.Test.YtclcmdpampimkaaDoorTagRef4
import Derived.Test.YtclcmdpampimkaaDoorKeptB
import Derived.Test.YtclcmdpampimkaaDoorPlain
namespace Go.Proofs.YtclcmdpampimkaaDoor
set_option maxRecDepth 100000
open Go.RowKit

set_option maxHeartbeats 1000000 in
theorem tagSums_wrong (key : ByteArray) (hk : key.size ≠ 16) (b o : Value) (w : World) (hg : Laid w) : Calls Tryd.prog 3 #[.string key, b, o] w (RetB (.bool true) w) := by
  have h1 : ((key.size : Int) != 16) = true := by simp; omega
  have h2 : ¬ (key.size : Int) = 16 := by omega
  have HK := Lib.hid hk
  have HG := Lib.hid hg
  have hpos := hg.pos
  clear hk hg
  go_enter Tryd.func3, Tryd.ntmps3
  go_wp2_with (first
    | (go_at_call 6; fail))
  refine (new_wrong key HK.out _).mono ?_
  rintro e w1 ⟨rfl, h1'⟩
  have HB1 := Lib.hid h1'
  have s1 := h1'.size
  clear h1'
  go_wp2_with (first
    | (go_at_call 7; fail))
  refine (plain_errno 14 14 (by decide) (by decide) _ (HG.out.below HB1.out hpos)).mono ?_
  rintro e w2 ⟨rfl, h2'⟩
  have HB2 := HB1.out.trans (h2'.mono s1)
  clear h2' HB1
  go_wp2
  go_ret
  exact ⟨rfl, HB2⟩
set_option maxHeartbeats 1000000 in
theorem tagSums_big (key : ByteArray) (hk : key.size = 16) (A B : Option Addr) (n ca m cb : Nat) (h : 16777216 < n ∨ 16777216 < m) (w : World) : Calls Tryd.prog 3 #[.string key, .slice A n ca, .slice B m cb] w (RetB (.bool true) w) := by
  have h2 : (key.size : Int) = 16 := by omega
  have HK := Lib.hid hk
  clear hk
  by_cases hn : 16777216 < n
  · have hn' : (16777216 : Int) < n := by omega
    clear h hn
    go_enter Tryd.func3, Tryd.ntmps3
    go_wp2_with (first | (go_at_call 6; fail))
    refine (new_right key HK.out _).mono ?_
    rintro e w1 ⟨g1, rfl, hK1, hg1, hb1⟩
    unfold newV
    clear hK1 hg1
    go_wp2
    go_ret
    exact ⟨rfl, hb1⟩
  · have hn' : ¬ (16777216 : Int) < n := by omega
    have hm' : (16777216 : Int) < m := by omega
    clear h hn
    go_enter Tryd.func3, Tryd.ntmps3
    go_wp2_with (first | (go_at_call 6; fail))
    refine (new_right key HK.out _).mono ?_
    rintro e w1 ⟨g1, rfl, hK1, hg1, hb1⟩
    unfold newV
    clear hK1 hg1
    go_wp2
    go_ret
    exact ⟨rfl, hb1⟩
set_option maxHeartbeats 2000000 in
theorem tagSums_right (key : ByteArray) (hk : key.size = 16) (A B : Option Addr) (n ca m cb : Nat) (l o : List UInt8) (hl : l.length = n) (ho : o.length = m) (hn : n ≤ 16777216) (hm : m ≤ 16777216) (hca : n ≤ ca) (hcb : m ≤ cb) (hca2 : ca ≤ 9223372036854775807) (hcb2 : cb ≤ 9223372036854775807) (w : World) (hbA : BytesAt w A l) (hbB : BytesAt w B o) : Calls Tryd.prog 3 #[.string key, .slice A n ca, .slice B m cb] w (RetB (.bool true) w) := by
  have h2 : (key.size : Int) = 16 := by omega
  have hn' : ¬ (16777216 : Int) < n := by omega
  have hm' : ¬ (16777216 : Int) < m := by omega
  obtain ⟨ks, hks⟩ : ∃ ks, keySt key.data.toList = ks := ⟨_, rfl⟩
  have HN : Hid (∀ w, Calls Tryd.prog 6 #[.string key] w (fun e w' => ∃ g, e = .returned (newV g) ∧ Blk w' g 45 ks.cells ∧ w.heap.size ≤ g ∧ Below w.heap.size w w')) := Lib.hid fun w => by rw [← hks]; exact new_right key hk w
  obtain ⟨X, hX⟩ : ∃ X, sipSum ks l = X := ⟨_, rfl⟩
  obtain ⟨Y, hY⟩ : ∃ Y, sipSum ks o = Y := ⟨_, rfl⟩
  have HRX : Hid (∀ w, BytesAt w A l → Calls Tryd.prog 10 #[.string key, .slice A n ca] w (RetB (.int .u64 (wd X)) w)) := Lib.hid fun w h => by rw [← hX, ← hks]; exact rsum_gen key hk A n ca l hl hca (by omega) hca2 w h
  have HRY : Hid (∀ w, BytesAt w B o → Calls Tryd.prog 10 #[.string key, .slice B m cb] w (RetB (.int .u64 (wd Y)) w)) := Lib.hid fun w h => by rw [← hY, ← hks]; exact rsum_gen key hk B m cb o ho hcb (by omega) hcb2 w h
  have HSX : Hid (∀ w gk g c, RowAt w gk 0 ks.cells → gk < w.heap.size → n ≤ c → c ≤ 9223372036854775807 → BytesAt w (some ⟨g, 0, none⟩) (fullB l) → Calls Tryd.prog 9 #[.pointer (some ⟨gk, 0, none⟩), .slice (some ⟨g, 0, none⟩) n c] w (RetB (.int .u64 (wd X)) w)) := Lib.hid fun w gk g c h1 h2 h3 h4 h5 => by
    rw [← hX]
    have h6 := h5.take n
    rw [← hl, fullB_take] at h6
    exact sum_any gk n c ks _ l hl h3 h4 w h1 h2 h6
  have HSY : Hid (∀ w gk, RowAt w gk 0 ks.cells → gk < w.heap.size → BytesAt w B o → Calls Tryd.prog 9 #[.pointer (some ⟨gk, 0, none⟩), .slice B m cb] w (RetB (.int .u64 (wd Y)) w)) := Lib.hid fun w gk h1 h2 h5 => by
    rw [← hY]; exact sum_any gk m cb ks _ o ho hcb hcb2 w h1 h2 h5
  have HLE := Lib.hid fun w h => lentB_any A n ca l hl hn w h
  have HKE := Lib.hid fun g c hc w h1 h2 => keptB_any g c A n ca l hl hn hc w h1 h2
  have HBA := Lib.hid hbA
  have HBB := Lib.hid hbB
  clear hk hks hX hY hl ho hn hm hca hcb hca2 hcb2 hbA hbB
  go_enter Tryd.func3, Tryd.ntmps3
  go_wp2_with (first | (go_at_call 6; fail))
  refine (HN.out _).mono ?_
  rintro e w1 ⟨gk, rfl, hK1, hg1, hb1⟩
  have HK1 := Lib.hid hK1
  have HB1 := Lib.hid hb1
  have s1 := hb1.size
  unfold newV
  clear hK1 hb1 hg1
  go_wp2_with (first | (go_at_call 8; fail))
  refine (HLE.out w1 (HBA.out.below HB1.out (Nat.le_refl _))).mono ?_
  rintro e w2 ⟨g, c, rfl, hc1, hc2, hx, hb2⟩
  have HC1 := Lib.hid hc1
  have HC2 := Lib.hid hc2
  have HC3 := Lib.hid (show n ≤ c by omega)
  have HX2 := Lib.hid hx
  have HK2 := Lib.hid (HK1.out.below hb2 HK1.out.lt)
  have HB2 := Lib.hid (HB1.out.trans (hb2.mono s1))
  have s2 := HB2.out.size
  clear hc1 hc2 hx hb2 HK1 HB1 s1
  go_wp2_with (first | (go_at_call 9; fail))
  refine (HSX.out w2 gk g c HK2.out.row HK2.out.lt HC3.out HC2.out HX2.out).mono ?_
  rintro e w3 ⟨rfl, hb3⟩
  have HX3 := Lib.hid (HX2.out.below hb3 (Nat.le_refl _))
  have HK3 := Lib.hid (HK2.out.below hb3 HK2.out.lt)
  have HB3 := Lib.hid (HB2.out.trans (hb3.mono s2))
  have s3 := HB3.out.size
  clear hb3 HX2 HK2 HB2 s2
  go_wp2_with (first | (go_at_call 9; fail))
  refine (HSY.out w3 gk HK3.out.row HK3.out.lt (HBB.out.below HB3.out (Nat.le_refl _))).mono ?_
  rintro e w4 ⟨rfl, hb4⟩
  have HX4 := Lib.hid (HX3.out.below hb4 (Nat.le_refl _))
  have HK4 := Lib.hid (HK3.out.below hb4 HK3.out.lt)
  have HB4 := Lib.hid (HB3.out.trans (hb4.mono s3))
  have s4 := HB4.out.size
  clear hb4 HX3 HK3 HB3 s3
  go_wp2_with (first | (go_at_call 9; fail))
  refine (HSX.out w4 gk g c HK4.out.row HK4.out.lt HC3.out HC2.out HX4.out).mono ?_
  rintro e w5 ⟨rfl, hb5⟩
  have HX5 := Lib.hid (HX4.out.below hb5 (Nat.le_refl _))
  have HB5 := Lib.hid (HB4.out.trans (hb5.mono s4))
  have s5 := HB5.out.size
  clear hb5 HX4 HK4 HB4 s4
  go_wp2_with (first | (go_at_call 10; fail))
  refine (HRX.out w5 (HBA.out.below HB5.out (Nat.le_refl _))).mono ?_
  rintro e w6 ⟨rfl, hb6⟩
  have HX6 := Lib.hid (HX5.out.below hb6 (Nat.le_refl _))
  have HB6 := Lib.hid (HB5.out.trans (hb6.mono s5))
  have s6 := HB6.out.size
  clear hb6 HX5 HB5 s5
  have hxx : (X == X) = true := by simp
  have hyy : (Y == Y) = true := by simp
  go_wp2_with (first | (go_at_call 10; fail))
  refine (HRY.out w6 (HBB.out.below HB6.out (Nat.le_refl _))).mono ?_
  rintro e w7 ⟨rfl, hb7⟩
  have HX7 := Lib.hid (HX6.out.below hb7 (Nat.le_refl _))
  have HB7 := Lib.hid (HB6.out.trans (hb7.mono s6))
  clear hb7 HX6 HB6 s6
  go_wp2_with (first | (go_at_call 11; fail))
  refine (HKE.out g c HC1.out w7 HX7.out (HBA.out.below HB7.out (Nat.le_refl _))).mono ?_
  rintro e w8 ⟨rfl, rfl⟩
  go_wp2
  go_ret
  exact ⟨rfl, HB7.out⟩
/-- The cell of a byte. -/
def u8c (x : UInt8) : Array Value := #[.int .u8 (x.toNat : Int)]
theorem u8c_size (x : UInt8) : (u8c x).size = 1 := rfl
theorem bytes_rows {w : World} {A : Option Addr} {n : Nat} {xs : List UInt8} (hl : xs.length = n) (h : 0 < n → ∃ b off, A = some ⟨b, off, none⟩ ∧ b < w.heap.size ∧ ∀ k y, xs[k]? = some y → RowAt w b (off + k * 1) (u8c y)) : BytesAt w A xs := fun hn => by
  obtain ⟨b, off, rfl, hlt, hr⟩ := h (by omega)
  exact ⟨b, off, rfl, hlt, fun k x hx => by have := (hr k x hx).cell0 (v := .int .u8 (x.toNat : Int)) rfl; rwa [Nat.mul_one] at this⟩
theorem tagSums_any (key : ByteArray) (A : Option Addr) (ca : Nat) (l : List UInt8) (B : Option Addr) (cb : Nat) (o : List UInt8) (w : World)
    (hA : 0 < l.length → ∃ b off, A = some ⟨b, off, none⟩ ∧ b < w.heap.size ∧ ∀ k y, l[k]? = some y → RowAt w b (off + k * 1) (u8c y)) (hcA : l.length ≤ ca ∧ ca ≤ 9223372036854775807)
    (hB : 0 < o.length → ∃ b off, B = some ⟨b, off, none⟩ ∧ b < w.heap.size ∧ ∀ k y, o[k]? = some y → RowAt w b (off + k * 1) (u8c y)) (hcB : o.length ≤ cb ∧ cb ≤ 9223372036854775807) (hg : Laid w) :
    Calls Tryd.prog 3 #[.string key, .slice A l.length ca, .slice B o.length cb] w (RetB (.bool true) w) := by
  by_cases hk : key.size = 16
  · by_cases hbig : 16777216 < l.length ∨ 16777216 < o.length
    · exact tagSums_big key hk A B _ ca _ cb hbig w
    · exact tagSums_right key hk A B _ ca _ cb l o rfl rfl (by omega) (by omega) hcA.1 hcB.1 hcA.2 hcB.2 w (bytes_rows rfl hA) (bytes_rows rfl hB)
  · exact tagSums_wrong key hk _ _ w hg
end Go.Proofs.YtclcmdpampimkaaDoor
