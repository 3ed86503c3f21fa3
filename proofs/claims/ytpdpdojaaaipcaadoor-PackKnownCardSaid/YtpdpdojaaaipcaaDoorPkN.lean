/-
  pack's reader: Number, End.
-/
import Derived.Test.YtpdpdojaaaipcaaDoorPkT
namespace Go.Proofs.YtpdpdojaaaipcaaDoor
set_option maxRecDepth 100000
open Go.RowKit
theorem IsR.alloc {w : World} {g : Nat} {v : Value} {b : List UInt8} {k : Nat} (h : IsR w g v b k) (x : Obj) : IsR (w.alloc x) g v b k := h.below ((Below.refl w.heap.size w).alloc (Nat.le_refl _) x) (Nat.le_refl _)
theorem kp_grown {w w' : World} {g : Nat} (h : Kp w w' g g) : w.grownBy w' (some g) := ⟨h.os, h.tape, h.output, h.size, fun k hk hne => h.block k hk (fun e => hne (by rw [e])) (fun e => hne (by rw [e]))⟩
/-- A block that came new isn't told. -/
theorem Kp.hide {w w1 w2 : World} {g c : Nat} (h : Below w.heap.size w w1) (h2 : Kp w1 w2 g c) (hc : w.heap.size ≤ c) : w.grownBy w2 (some g) :=
  ⟨h2.os.trans h.os, h2.tape.trans h.tape, h2.output.trans h.output, Nat.le_trans h.size h2.size, fun k hk hne => (h2.block k (Nat.lt_of_lt_of_le hk h.size) (fun e => hne (by rw [e])) (by omega)).trans (h.block k hk)⟩
theorem num1_ok (g r c : Nat) (v : Value) (b : List UInt8) (k V n : Nat) (x : Value) (hl : b.length < 9223372036854775807) (w0 w : World) (k0 : Nat) (h0 : IsR w0 g v b k0) (hc0 : w0.heap.size ≤ c) (h : IsR w g v b k) (hr : Blk w r 25 #[.pointer (some ⟨g, 0, none⟩)]) (hc : Blk w c 39 #[x])
    (hv : readN 0 0 (b.drop k) = .ok (V, n)) :
    Calls Tryd.prog 27 #[.pointer (some ⟨r, 0, none⟩), .pointer (some ⟨c, 0, none⟩)] w fun e w' => e = .returned (.tuple #[]) ∧ IsR w' g v b (k + n) ∧ Kp w w' g c ∧ w'.cell? ⟨c, 0, none⟩ = some (.int .u64 (V : Int)) := by
  have HS := Lib.hid (sevens_r g v b k hl w h)
  rw [hv] at HS
  have r0 := hr.cell 0
  simp only [List.getElem?_toArray, List.getElem?_cons_zero, List.getElem?_cons_succ] at r0
  have H0 := Lib.hid h0
  have HC := Lib.hid hc
  have hgc : c ≠ g := by have := h0.blk.lt; omega
  clear hr hc h h0 hv
  go_enter Tryd.func27, Tryd.ntmps27
  go_wp2_with (go_at_call 26; fail)
  refine HS.out.mono ?_
  rintro e w1 ⟨rfl, h1, h2⟩
  have hb := Blk.kp HC.out (Kp.ofGrown g h2) hgc hgc
  have x1 := hb.cell 0
  have z1 := hb.frozen 0
  have y1 := (hb.set_ 0 (.int .u64 (V : Int))).cell 0
  simp only [List.getElem?_toArray, List.getElem?_cons_zero, List.getElem?_cons_succ, List.setIfInBounds_toArray, List.set_cons_zero] at x1 y1
  have H1 := Lib.hid h1
  have H2 := Lib.hid h2
  have Y1 := Lib.hid y1
  clear h1 h2 hb y1
  go_wp2
  first | go_end0 | refine bodyPost_ret (results_none rfl _ _ _) rfl ?_
  exact ⟨rfl, H1.out.far H0.out hc0, (Kp.ofGrown c H2.out).setC, Y1.out⟩
theorem num1_err (g r c : Nat) (v : Value) (b : List UInt8) (k : Nat) (cc : Int) (hl : b.length < 9223372036854775807) (w : World) (h : IsR w g v b k) (hr : Blk w r 25 #[.pointer (some ⟨g, 0, none⟩)])
    (hv : readN 0 0 (b.drop k) = .error cc) :
    Calls Tryd.prog 27 #[.pointer (some ⟨r, 0, none⟩), .pointer (some ⟨c, 0, none⟩)] w fun e w' => e = pnk cc ∧ (∃ j, IsR w' g v b j) ∧ Kp w w' g c := by
  have HS := Lib.hid (sevens_r g v b k hl w h)
  rw [hv] at HS
  have r0 := hr.cell 0
  simp only [List.getElem?_toArray, List.getElem?_cons_zero, List.getElem?_cons_succ] at r0
  clear hr h hv
  go_enter Tryd.func27, Tryd.ntmps27
  go_wp2_with (go_at_call 26; fail)
  refine HS.out.mono ?_
  rintro e w1 ⟨rfl, h1, h2⟩
  exact ⟨rfl, rfl, h1, Kp.ofGrown c h2⟩
set_option maxHeartbeats 1000000 in
theorem number_ok (g : Nat) (v : Value) (b : List UInt8) (k V n : Nat) (hl : b.length < 9223372036854775807) (w : World) (h : IsR w g v b k) (hv : readN 0 0 (b.drop k) = .ok (V, n)) :
    Calls Tryd.prog 14 #[.pointer (some ⟨g, 0, none⟩)] w fun e w' => e = .returned (.tuple #[.int .u64 (V : Int), .nilIface]) ∧ IsR w' g v b (k + n) ∧ w.grownBy w' (some g) := by
  have hmf : ∀ (fn : Fn) (first cap : Array Value) (w : World), (Instr.makeFunc fn first cap).run Tryd.prog w = .ok (.func fn first cap) w := fun _ _ _ _ => rfl
  have HR := Lib.hid h
  have HV := Lib.hid hv
  have hgl := h.blk.lt
  clear h hv
  go_enter Tryd.func14, Tryd.ntmps14
  go_wp2_with (go_at_call 24; fail)
  obtain ⟨W2, hW2⟩ : ∃ W2, (w.alloc (.cells #[.pointer (some ⟨g, 0, none⟩)] 25)).alloc (.cells #[.int .u64 0] 39) = W2 := ⟨_, rfl⟩
  have hN0 : (w.alloc (.cells #[.pointer (some ⟨g, 0, none⟩)] 25)).heap.size = w.heap.size + 1 := by simp [go_sem]
  have hB2 : Below w.heap.size w W2 := by
    rw [← hW2]
    exact ((Below.refl _ w).alloc (Nat.le_refl _) _).alloc (by rw [hN0]; omega) _
  have hS2 : W2.heap.size = w.heap.size + 2 := by rw [← hW2]; simp [go_sem]
  have b0 : Blk W2 w.heap.size 25 #[.pointer (some ⟨g, 0, none⟩)] := by rw [← hW2]; exact (Blk.new _ _ _).alloc _
  have b1 : Blk W2 (w.heap.size + 1) 39 #[.int .u64 0] := by rw [← hW2]; exact Blk.new_at hN0.symm
  have hR2 : IsR W2 g v b k := HR.out.below hB2 (Nat.le_refl _)
  rw [hW2]
  have HB2 := Lib.hid hB2
  have HS2 := Lib.hid hS2
  clear hW2 hN0 hB2 hS2
  refine (take_ok 27 _ g v b k (k + n) (w.heap.size + 1) (.int .u64 (V : Int)) W2 hR2 (by have := HS2.out; omega) (fun _ => rfl) (fun W hW => num1_ok g _ _ v b k V n (.int .u64 0) hl w W k HR.out (by omega) (hR2.below hW (Nat.le_refl _)) (b0.below hW b0.lt) (b1.below hW b1.lt) HV.out)).mono ?_
  rintro e w1 ⟨rfl, h1, h2, h3⟩
  have H1 := Lib.hid h1
  have H2 := Lib.hid h2
  clear h1 h2 b0 b1 hR2
  go_wp2
  go_ret2
  exact ⟨rfl, H1.out, Kp.hide HB2.out H2.out (by omega)⟩
set_option maxHeartbeats 1000000 in
theorem number_err (g : Nat) (v : Value) (b : List UInt8) (k : Nat) (cc : Int) (hl : b.length < 9223372036854775807) (w : World) (h : IsR w g v b k) (hv : readN 0 0 (b.drop k) = .error cc) :
    Calls Tryd.prog 14 #[.pointer (some ⟨g, 0, none⟩)] w fun e w' => e = .returned (.tuple #[.int .u64 0, errno cc]) ∧ IsR w' g v b k ∧ w.grownBy w' (some g) := by
  have hmf : ∀ (fn : Fn) (first cap : Array Value) (w : World), (Instr.makeFunc fn first cap).run Tryd.prog w = .ok (.func fn first cap) w := fun _ _ _ _ => rfl
  have HR := Lib.hid h
  have HV := Lib.hid hv
  have hgl := h.blk.lt
  clear h hv
  go_enter Tryd.func14, Tryd.ntmps14
  go_wp2_with (go_at_call 24; fail)
  obtain ⟨W2, hW2⟩ : ∃ W2, (w.alloc (.cells #[.pointer (some ⟨g, 0, none⟩)] 25)).alloc (.cells #[.int .u64 0] 39) = W2 := ⟨_, rfl⟩
  have hN0 : (w.alloc (.cells #[.pointer (some ⟨g, 0, none⟩)] 25)).heap.size = w.heap.size + 1 := by simp [go_sem]
  have hB2 : Below w.heap.size w W2 := by
    rw [← hW2]
    exact ((Below.refl _ w).alloc (Nat.le_refl _) _).alloc (by rw [hN0]; omega) _
  have hS2 : W2.heap.size = w.heap.size + 2 := by rw [← hW2]; simp [go_sem]
  have b0 : Blk W2 w.heap.size 25 #[.pointer (some ⟨g, 0, none⟩)] := by rw [← hW2]; exact (Blk.new _ _ _).alloc _
  have b1 : Blk W2 (w.heap.size + 1) 39 #[.int .u64 0] := by rw [← hW2]; exact Blk.new_at hN0.symm
  have hR2 : IsR W2 g v b k := HR.out.below hB2 (Nat.le_refl _)
  rw [hW2]
  have HB2 := Lib.hid hB2
  have HS2 := Lib.hid hS2
  clear hW2 hN0 hB2 hS2
  refine (take_err 27 _ g v b k (w.heap.size + 1) cc W2 hR2 (by have := HS2.out; omega) (fun _ => rfl) (fun W hW => num1_err g _ _ v b k cc hl W (hR2.below hW (Nat.le_refl _)) (b0.below hW b0.lt) HV.out)).mono ?_
  rintro e w1 ⟨he, h1, h2⟩
  unfold errno at he
  subst he
  have H1 := Lib.hid h1
  have H2 := Lib.hid h2
  clear h1 h2 b0 b1 hR2
  go_wp2
  go_ret2
  exact ⟨rfl, H1.out, Kp.hide HB2.out H2.out (by omega)⟩
theorem end_some (g : Nat) (v : Value) (b : List UInt8) (k : Nat) (hl : b.length < 9223372036854775807) (hk : k < b.length) (w : World) (h : IsR w g v b k) :
    Calls Tryd.prog 11 #[.pointer (some ⟨g, 0, none⟩)] w (RetB (errno 3) w) := by
  have HL := Lib.hid (left_r g v b k hl w h)
  obtain ⟨M, hM⟩ : ∃ M : Nat, b.length - k = M := ⟨_, rfl⟩
  have hM0 : (0 : Int) < (M : Int) := by omega
  rw [hM] at HL
  clear hM h
  go_enter Tryd.func11, Tryd.ntmps11
  go_wp2_with (go_at_call 9; fail)
  refine HL.out.mono ?_
  rintro e w1 ⟨rfl, h1⟩
  go_wp2
  go_ret
  exact ⟨rfl, h1⟩
theorem end_none (g : Nat) (v : Value) (b : List UInt8) (k : Nat) (hl : b.length < 9223372036854775807) (hk : k = b.length) (w : World) (h : IsR w g v b k) :
    Calls Tryd.prog 11 #[.pointer (some ⟨g, 0, none⟩)] w (RetB .nilIface w) := by
  have HL := Lib.hid (left_r g v b k hl w h)
  rw [show b.length - k = 0 by omega] at HL
  clear hk h
  go_enter Tryd.func11, Tryd.ntmps11
  go_wp2_with (go_at_call 9; fail)
  refine HL.out.mono ?_
  rintro e w1 ⟨rfl, h1⟩
  go_wp2
  go_ret
  exact ⟨rfl, h1⟩
end Go.Proofs.YtpdpdojaaaipcaaDoor
