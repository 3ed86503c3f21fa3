/-
  pack's reader: Text (its call).
-/
import Derived.Test.YtpdpdojaaaipcaaDoorPkX
namespace Go.Proofs.YtpdpdojaaaipcaaDoor
set_option maxRecDepth 100000
open Go.RowKit
set_option maxHeartbeats 1000000 in
theorem text_ok_n (g : Nat) (v : Value) (b : List UInt8) (k V n : Nat) (most : Int) (hmost : most < 9223372036854775808) (hl : b.length < 9223372036854775807) (w : World) (h : IsR w g v b k) (hv : readN 0 0 (b.drop k) = .ok (V, n) ∧ ¬ (max most 0).toNat < V ∧ ¬ b.length - (k + n) < V) :
    Calls Tryd.prog 12 #[.pointer (some ⟨g, 0, none⟩), .int .i64 most] w fun e w' => e = .returned (.tuple #[.string (strB ((b.drop (k + n)).take V)), .nilIface]) ∧ IsR w' g v b (k + n + V) ∧ w.grownBy w' (some g) := by
  have hmf : ∀ (fn : Fn) (first cap : Array Value) (w : World), (Instr.makeFunc fn first cap).run Tryd.prog w = .ok (.func fn first cap) w := fun _ _ _ _ => rfl
  have HR := Lib.hid h
  have HV := Lib.hid hv
  have hgl := h.blk.lt
  have HM := Lib.hid hmost
  have HL := Lib.hid hl
  clear h hv hmost hl
  go_enter Tryd.func12, Tryd.ntmps12
  go_wp2_with (go_at_call 24; fail)
  obtain ⟨W2, hW2⟩ : ∃ W2, ((w.alloc (.cells #[.pointer (some ⟨g, 0, none⟩)] 25)).alloc (.cells #[.int .i64 most] 3)).alloc (.cells #[.string ⟨#[]⟩] 9) = W2 := ⟨_, rfl⟩
  have hN0 : (w.alloc (.cells #[.pointer (some ⟨g, 0, none⟩)] 25)).heap.size = w.heap.size + 1 := by simp [go_sem]
  have hN1 : ((w.alloc (.cells #[.pointer (some ⟨g, 0, none⟩)] 25)).alloc (.cells #[.int .i64 most] 3)).heap.size = w.heap.size + 1 + 1 := by simp [go_sem]
  have hB2 : Below w.heap.size w W2 := by
    rw [← hW2]
    exact (((Below.refl _ w).alloc (Nat.le_refl _) _).alloc (by rw [hN0]; omega) _).alloc (by rw [hN1]; omega) _
  have hS2 : W2.heap.size = w.heap.size + 3 := by rw [← hW2]; simp [go_sem]
  have b0 : Blk W2 w.heap.size 25 #[.pointer (some ⟨g, 0, none⟩)] := by rw [← hW2]; exact ((Blk.new _ _ _).alloc _).alloc _
  have b1 : Blk W2 (w.heap.size + 1) 3 #[.int .i64 most] := by rw [← hW2]; exact (Blk.new_at hN0.symm).alloc _
  have b2 : Blk W2 (w.heap.size + 1 + 1) 9 #[.string ⟨#[]⟩] := by rw [← hW2]; exact Blk.new_at hN1.symm
  have hR2 : IsR W2 g v b k := HR.out.below hB2 (Nat.le_refl _)
  rw [hW2]
  have HB2 := Lib.hid hB2
  have HS2 := Lib.hid hS2
  clear hW2 hN0 hN1 hB2 hS2
  obtain ⟨base, ho⟩ := HR.out.own
  obtain ⟨p, cap, rfl⟩ := pk_slice ho
  clear ho
  refine (take_ok 25 _ g _ b k (k + n + V) (w.heap.size + 1 + 1) (.string (strB ((b.drop (k + n)).take V))) W2 hR2 (by have := HS2.out; omega) (fun _ => rfl) (fun W hW => text1_ok g _ _ _ p b.length cap b rfl k V n (k + n) rfl _ most HM.out HL.out w k HR.out (by omega) W (hR2.below hW (Nat.le_refl _)) (b0.below hW b0.lt) (by omega) (b1.below hW b1.lt) (by omega) (b2.below hW b2.lt) (by omega) HV.out.1 HV.out.2.1 HV.out.2.2)).mono ?_
  rintro e w1 ⟨rfl, h1, h2, h3⟩
  have H1 := Lib.hid h1
  have H2 := Lib.hid h2
  clear h1 h2 b0 b1 b2 hR2
  go_wp2
  go_ret2
  exact ⟨rfl, H1.out, Kp.hide HB2.out H2.out (by omega)⟩
theorem readT_ok_iff {b : List UInt8} {k : Nat} {most : Int} {s : List UInt8} {m : Nat} (h : readT (b.drop k) most = .ok (s, m)) : ∃ V n, readN 0 0 (b.drop k) = .ok (V, n) ∧ ¬ (max most 0).toNat < V ∧ ¬ b.length - (k + n) < V ∧ s = (b.drop (k + n)).take V ∧ m = n + V := by
  unfold readT at h
  cases hr : readN 0 0 (b.drop k) with
  | error e => rw [hr] at h; cases h
  | ok q =>
    obtain ⟨V, n⟩ := q
    rw [hr] at h
    simp only at h
    split at h
    · cases h
    · split at h
      · cases h
      · rename_i h1 h2
        injection h with h
        injection h with h3 h4
        rw [List.drop_drop] at h3
        rw [List.length_drop] at h2
        exact ⟨V, n, rfl, h1, by omega, h3.symm, h4.symm⟩
theorem text_ok (g : Nat) (v : Value) (b : List UInt8) (k m : Nat) (s : List UInt8) (most : Int) (hmost : most < 9223372036854775808) (hl : b.length < 9223372036854775807) (w : World) (h : IsR w g v b k) (hv : readT (b.drop k) most = .ok (s, m)) :
    Calls Tryd.prog 12 #[.pointer (some ⟨g, 0, none⟩), .int .i64 most] w fun e w' => e = .returned (.tuple #[.string (strB s), .nilIface]) ∧ IsR w' g v b (k + m) ∧ w.grownBy w' (some g) := by
  obtain ⟨V, n, h1, h2, h3, rfl, rfl⟩ := readT_ok_iff hv
  rw [← Nat.add_assoc]
  exact text_ok_n g v b k V n most hmost hl w h ⟨h1, h2, h3⟩
set_option maxHeartbeats 1000000 in
theorem text_err_n (g : Nat) (v : Value) (b : List UInt8) (k : Nat) (cc : Int) (most : Int) (hmost : most < 9223372036854775808) (hl : b.length < 9223372036854775807) (w : World) (h : IsR w g v b k)
    (hv : ∀ r m c W, IsR W g v b k → Blk W r 25 #[.pointer (some ⟨g, 0, none⟩)] → r ≠ g → Blk W m 3 #[.int .i64 most] → m ≠ g → Calls Tryd.prog 25 #[.pointer (some ⟨r, 0, none⟩), .pointer (some ⟨m, 0, none⟩), .pointer (some ⟨c, 0, none⟩)] W fun e w' => e = pnk cc ∧ (∃ j, IsR w' g v b j) ∧ Kp W w' g c) :
    Calls Tryd.prog 12 #[.pointer (some ⟨g, 0, none⟩), .int .i64 most] w fun e w' => e = .returned (.tuple #[.string ⟨#[]⟩, errno cc]) ∧ IsR w' g v b k ∧ w.grownBy w' (some g) := by
  have hmf : ∀ (fn : Fn) (first cap : Array Value) (w : World), (Instr.makeFunc fn first cap).run Tryd.prog w = .ok (.func fn first cap) w := fun _ _ _ _ => rfl
  have HR := Lib.hid h
  have HV := Lib.hid hv
  have hgl := h.blk.lt
  have HM := Lib.hid hmost
  have HL := Lib.hid hl
  clear h hv hmost hl
  go_enter Tryd.func12, Tryd.ntmps12
  go_wp2_with (go_at_call 24; fail)
  obtain ⟨W2, hW2⟩ : ∃ W2, ((w.alloc (.cells #[.pointer (some ⟨g, 0, none⟩)] 25)).alloc (.cells #[.int .i64 most] 3)).alloc (.cells #[.string ⟨#[]⟩] 9) = W2 := ⟨_, rfl⟩
  have hN0 : (w.alloc (.cells #[.pointer (some ⟨g, 0, none⟩)] 25)).heap.size = w.heap.size + 1 := by simp [go_sem]
  have hN1 : ((w.alloc (.cells #[.pointer (some ⟨g, 0, none⟩)] 25)).alloc (.cells #[.int .i64 most] 3)).heap.size = w.heap.size + 1 + 1 := by simp [go_sem]
  have hB2 : Below w.heap.size w W2 := by
    rw [← hW2]
    exact (((Below.refl _ w).alloc (Nat.le_refl _) _).alloc (by rw [hN0]; omega) _).alloc (by rw [hN1]; omega) _
  have hS2 : W2.heap.size = w.heap.size + 3 := by rw [← hW2]; simp [go_sem]
  have b0 : Blk W2 w.heap.size 25 #[.pointer (some ⟨g, 0, none⟩)] := by rw [← hW2]; exact ((Blk.new _ _ _).alloc _).alloc _
  have b1 : Blk W2 (w.heap.size + 1) 3 #[.int .i64 most] := by rw [← hW2]; exact (Blk.new_at hN0.symm).alloc _
  have b2 : Blk W2 (w.heap.size + 1 + 1) 9 #[.string ⟨#[]⟩] := by rw [← hW2]; exact Blk.new_at hN1.symm
  have hR2 : IsR W2 g v b k := HR.out.below hB2 (Nat.le_refl _)
  rw [hW2]
  have HB2 := Lib.hid hB2
  have HS2 := Lib.hid hS2
  clear hW2 hN0 hN1 hB2 hS2
  refine (take_err 25 _ g v b k (w.heap.size + 1 + 1) cc W2 hR2 (by have := HS2.out; omega) (fun _ => rfl) (fun W hW => HV.out _ _ _ W (hR2.below hW (Nat.le_refl _)) (b0.below hW b0.lt) (by omega) (b1.below hW b1.lt) (by omega))).mono ?_
  rintro e w1 ⟨he, h1, h2⟩
  unfold errno at he
  subst he
  have H1 := Lib.hid h1
  have H2 := Lib.hid h2
  clear h1 h2 b0 b1 b2 hR2
  go_wp2
  go_ret2
  exact ⟨rfl, H1.out, Kp.hide HB2.out H2.out (by omega)⟩
theorem text_err (g : Nat) (v : Value) (b : List UInt8) (k : Nat) (cc : Int) (most : Int) (hmost : most < 9223372036854775808) (hl : b.length < 9223372036854775807) (w : World) (h : IsR w g v b k) (hv : readT (b.drop k) most = .error cc) :
    Calls Tryd.prog 12 #[.pointer (some ⟨g, 0, none⟩), .int .i64 most] w fun e w' => e = .returned (.tuple #[.string ⟨#[]⟩, errno cc]) ∧ IsR w' g v b k ∧ w.grownBy w' (some g) := by
  refine text_err_n g v b k cc most hmost hl w h fun r m c W hW hr hrg hm hmg => ?_
  unfold readT at hv
  cases hr1 : readN 0 0 (b.drop k) with
  | error e =>
    rw [hr1] at hv
    injection hv with hv
    subst hv
    exact text1_numerr g r m c v b k e hl W hW hr hr1
  | ok q =>
    obtain ⟨V, n⟩ := q
    rw [hr1] at hv
    simp only at hv
    split at hv
    · rename_i h1
      injection hv with hv
      subst hv
      exact text1_long g r m c v b k V n most hmost hl W hW hr hm hmg hr1 h1
    · split at hv
      · rename_i h1 h2
        injection hv with hv
        subst hv
        rw [List.length_drop] at h2
        exact text1_short g r m c v b k V n most hmost hl W hW hr hrg hm hmg hr1 h1 (by omega)
      · cases hv
end Go.Proofs.YtpdpdojaaaipcaaDoor
