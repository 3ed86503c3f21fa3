/-
  Package sweep: unit, Unit: walked, way by way.
-/
import Derived.Test.YtbidgpeeogoglaaHj
import Derived.Test.YtbidgpeeogoglaaGi
namespace Go.Proofs.Ytbidgpeeogoglaa
set_option maxRecDepth 100000
open Go.RowKit Go.Sort

def RetGa (v : Value) (w : World) (q g : Nat) (S : St) (l : Int) (e : Ending) (W' : World) : Prop := e = .returned v ∧ Ga w q g S l W'
section
variable {S S1 S2 : St} {q g : Nat} {l f k n n2 no at_ : Int}
set_option maxHeartbeats 4000000 in
theorem gunit_e (w W : World) (h : Ga w q g S l W) (hf : Calls Try.prog 53 #[.pointer (some ⟨q, 0, none⟩)] W (fun e W' => e = .returned (.tuple #[.int .i64 f, .int .i64 k, errno 1]) ∧ Ga w q g S l W')) :
    Calls Try.prog 39 #[.pointer (some ⟨q, 0, none⟩)] W (RetGa (.tuple #[.int .i64 0, errno 1]) w q g S l) := by
  have HF := Lib.hid hf
  clear h hf
  go_enter Try.func39, Try.ntmps39
  go_wp2_with (go_at_call 53; fail)
  refine HF.out.mono ?_
  rintro e w2 ⟨rfl, h2⟩
  have H2 := Lib.hid h2
  clear h2 HF
  simp only [errno]
  go_wp2
  go_ret2
  exact ⟨rfl, H2.out⟩
set_option maxHeartbeats 4000000 in
theorem gunit_s (w W : World) (h : Ga w q g S l W) (hf : Calls Try.prog 53 #[.pointer (some ⟨q, 0, none⟩)] W (fun e W' => e = .returned (.tuple #[.int .i64 f, .int .i64 k, .nilIface]) ∧ Ga w q g S l W'))
    (hp : S.splice l k = (.tuple #[.int .i64 n, errP no at_], S1)) (hno : no ≠ 0) (hw0 : 0 ≤ S.writes) (hw1 : S.writes < 800000000) :
    Calls Try.prog 39 #[.pointer (some ⟨q, 0, none⟩)] W (RetGa (.tuple #[.int .i64 0, errP no at_]) w q g S1 l) := by
  have HF := Lib.hid hf
  have SP := Lib.hid (fun W (a : Ga w q g S l W) => (splice_any l k g W a.ar hw0 (by omega)).mono fun e W' hh => show e = Ending.returned (.tuple #[.int .i64 n, errP no at_]) ∧ Ga w q g S1 l W' from by
    rw [hp] at hh
    exact ⟨hh.1, a.turn hh.2.ar hh.2.grown⟩)
  have hneq2 := fun w => errP_neq (at_ := at_) hno w
  have hgrd := fun x y w => errP_grd (at_ := at_) hno x y w
  generalize errP no at_ = ev at *
  clear h hf hp
  go_enter Try.func39, Try.ntmps39
  go_wp2_with (go_at_call 53; fail)
  refine HF.out.mono ?_
  rintro e w2 ⟨rfl, h2⟩
  have H2 := Lib.hid h2
  clear h2 HF
  go_upto_region 4 with fail
  refine wp_region_noPanic ?_
  have td := H2.out.read (Below.refl w2.heap.size w2).drew
  have kd := And.intro td.cells.1 td.cells.2.1
  go_region_held3 (fun W' => W'.cell? ⟨q, 0, none⟩ = some (.pointer (some ⟨g, 0, none⟩)) ∧ W'.cell? ⟨q, 1, none⟩ = some (.int .i64 l))
    (first | assumption | exact And.intro h4.cells.1 h4.cells.2.1)
    (first
      | (go_at_call 54; refine (SP.out _ (by assumption)).mono ?_; rintro e w4 ⟨rfl, h4⟩))
  refine NoPanic.normal ?_
  have H4 := Lib.hid h4
  clear h4 SP td kd
  go_wp2
  go_ret2
  exact ⟨rfl, H4.out⟩
set_option maxHeartbeats 4000000 in
theorem gunit_d (w W : World) (h : Ga w q g S l W) (hf : Calls Try.prog 53 #[.pointer (some ⟨q, 0, none⟩)] W (fun e W' => e = .returned (.tuple #[.int .i64 f, .int .i64 k, .nilIface]) ∧ Ga w q g S l W'))
    (hp : S.splice l k = (.tuple #[.int .i64 n, .nilIface], S1)) (hd : S1.dropR n f = (.tuple #[.int .i64 n2, errP no at_], S2)) (hno : no ≠ 0) (hw0 : 0 ≤ S.writes) (hw1 : S.writes < 800000000) (hw2 : 0 ≤ S1.writes) (hw3 : S1.writes < 800000000) :
    Calls Try.prog 39 #[.pointer (some ⟨q, 0, none⟩)] W (RetGa (.tuple #[.int .i64 0, errP no at_]) w q g S2 n) := by
  have HF := Lib.hid hf
  have SP := Lib.hid (fun W (a : Ga w q g S l W) => (splice_any l k g W a.ar hw0 (by omega)).mono fun e W' hh => show e = Ending.returned (.tuple #[.int .i64 n, .nilIface]) ∧ Ga w q g S1 l W' from by
    rw [hp] at hh
    exact ⟨hh.1, a.turn hh.2.ar hh.2.grown⟩)
  have DP := Lib.hid (fun W (a : Ga w q g S1 n W) => (drop_any n f g W a.ar hw2 (by omega)).mono fun e W' hh => show e = Ending.returned (.tuple #[.int .i64 n2, errP no at_]) ∧ Ga w q g S2 n W' from by
    rw [hd] at hh
    exact ⟨hh.1, a.turn hh.2.ar hh.2.grown⟩)
  have hneq2 := fun w => errP_neq (at_ := at_) hno w
  have hgrd := fun x y w => errP_grd (at_ := at_) hno x y w
  generalize errP no at_ = ev at *
  clear h hf hp hd
  go_enter Try.func39, Try.ntmps39
  go_wp2_with (go_at_call 53; fail)
  refine HF.out.mono ?_
  rintro e w2 ⟨rfl, h2⟩
  have H2 := Lib.hid h2
  clear h2 HF
  go_upto_region 4 with fail
  refine wp_region_noPanic ?_
  have td := H2.out.read (Below.refl w2.heap.size w2).drew
  have kd := And.intro td.cells.1 td.cells.2.1
  go_region_held3 (fun W' => W'.cell? ⟨q, 0, none⟩ = some (.pointer (some ⟨g, 0, none⟩)) ∧ W'.cell? ⟨q, 1, none⟩ = some (.int .i64 l))
    (first | assumption | exact And.intro h4.cells.1 h4.cells.2.1)
    (first
      | (go_at_call 54; refine (SP.out _ (by assumption)).mono ?_; rintro e w4 ⟨rfl, h4⟩))
  refine NoPanic.normal ?_
  obtain ⟨c0, c1, f1⟩ := h4.cells
  have H5 := Lib.hid (h4.set n)
  clear h4 SP td kd
  go_upto_region 8 with fail
  obtain ⟨W5, hW5⟩ : ∃ W5, w4.setCell ⟨q, 1, none⟩ (.int .i64 n) = W5 := ⟨_, rfl⟩
  rw [hW5] at H5 ⊢
  clear hW5 c0 c1 f1
  refine wp_region_noPanic ?_
  have td := H5.out.read (Below.refl W5.heap.size W5).drew
  have kd := And.intro td.cells.1 td.cells.2.1
  go_region_held3 (fun W' => W'.cell? ⟨q, 0, none⟩ = some (.pointer (some ⟨g, 0, none⟩)) ∧ W'.cell? ⟨q, 1, none⟩ = some (.int .i64 n))
    (first | assumption | exact And.intro h6.cells.1 h6.cells.2.1)
    (first
      | (go_at_call 36; refine (DP.out _ (by assumption)).mono ?_; rintro e w6 ⟨rfl, h6⟩))
  refine NoPanic.normal ?_
  have H6 := Lib.hid h6
  clear h6 DP td kd
  go_wp2
  go_ret2
  exact ⟨rfl, H6.out⟩
set_option maxHeartbeats 4000000 in
theorem gunit_ok (w W : World) (h : Ga w q g S l W) (hf : Calls Try.prog 53 #[.pointer (some ⟨q, 0, none⟩)] W (fun e W' => e = .returned (.tuple #[.int .i64 f, .int .i64 k, .nilIface]) ∧ Ga w q g S l W'))
    (hp : S.splice l k = (.tuple #[.int .i64 n, .nilIface], S1)) (hd : S1.dropR n f = (.tuple #[.int .i64 n2, .nilIface], S2)) (hw0 : 0 ≤ S.writes) (hw1 : S.writes < 800000000) (hw2 : 0 ≤ S1.writes) (hw3 : S1.writes < 800000000) (hw4 : 0 ≤ S2.writes) (hw5 : S2.writes < 800000000) :
    Calls Try.prog 39 #[.pointer (some ⟨q, 0, none⟩)] W (RetGa (.tuple #[.int .i64 f, errOf (giveNo S2 f)]) w q g (S2.giveZ f) n2) := by
  have HF := Lib.hid hf
  have SP := Lib.hid (fun W (a : Ga w q g S l W) => (splice_any l k g W a.ar hw0 (by omega)).mono fun e W' hh => show e = Ending.returned (.tuple #[.int .i64 n, .nilIface]) ∧ Ga w q g S1 l W' from by
    rw [hp] at hh
    exact ⟨hh.1, a.turn hh.2.ar hh.2.grown⟩)
  have DP := Lib.hid (fun W (a : Ga w q g S1 n W) => (drop_any n f g W a.ar hw2 (by omega)).mono fun e W' hh => show e = Ending.returned (.tuple #[.int .i64 n2, .nilIface]) ∧ Ga w q g S2 n W' from by
    rw [hd] at hh
    exact ⟨hh.1, a.turn hh.2.ar hh.2.grown⟩)
  have FP := Lib.hid (fun W (a : Ga w q g S2 n2 W) => (freeA f W a.ar hw4 (by omega)).mono fun e W' ⟨h1, h2, h3⟩ => show e = Ending.returned (errOf (giveNo S2 f)) ∧ Ga w q g (S2.giveZ f) n2 W' from ⟨h1, a.turn h2 h3⟩)
  generalize errOf (giveNo S2 f) = ev at *
  clear h hf hp hd
  go_enter Try.func39, Try.ntmps39
  go_wp2_with (go_at_call 53; fail)
  refine HF.out.mono ?_
  rintro e w2 ⟨rfl, h2⟩
  have H2 := Lib.hid h2
  clear h2 HF
  go_upto_region 4 with fail
  refine wp_region_noPanic ?_
  have td := H2.out.read (Below.refl w2.heap.size w2).drew
  have kd := And.intro td.cells.1 td.cells.2.1
  go_region_held3 (fun W' => W'.cell? ⟨q, 0, none⟩ = some (.pointer (some ⟨g, 0, none⟩)) ∧ W'.cell? ⟨q, 1, none⟩ = some (.int .i64 l))
    (first | assumption | exact And.intro h4.cells.1 h4.cells.2.1)
    (first
      | (go_at_call 54; refine (SP.out _ (by assumption)).mono ?_; rintro e w4 ⟨rfl, h4⟩))
  refine NoPanic.normal ?_
  obtain ⟨c0, c1, f1⟩ := h4.cells
  have H5 := Lib.hid (h4.set n)
  clear h4 SP td kd
  go_upto_region 8 with fail
  obtain ⟨W5, hW5⟩ : ∃ W5, w4.setCell ⟨q, 1, none⟩ (.int .i64 n) = W5 := ⟨_, rfl⟩
  rw [hW5] at H5 ⊢
  clear hW5 c0 c1 f1
  refine wp_region_noPanic ?_
  have td := H5.out.read (Below.refl W5.heap.size W5).drew
  have kd := And.intro td.cells.1 td.cells.2.1
  go_region_held3 (fun W' => W'.cell? ⟨q, 0, none⟩ = some (.pointer (some ⟨g, 0, none⟩)) ∧ W'.cell? ⟨q, 1, none⟩ = some (.int .i64 n))
    (first | assumption | exact And.intro h6.cells.1 h6.cells.2.1)
    (first
      | (go_at_call 36; refine (DP.out _ (by assumption)).mono ?_; rintro e w6 ⟨rfl, h6⟩))
  refine NoPanic.normal ?_
  obtain ⟨c0, c1, f1⟩ := h6.cells
  have H7 := Lib.hid (h6.set n2)
  clear h6 DP td kd
  go_upto_region 12 with fail
  obtain ⟨W7, hW7⟩ : ∃ W7, w6.setCell ⟨q, 1, none⟩ (.int .i64 n2) = W7 := ⟨_, rfl⟩
  rw [hW7] at H7 ⊢
  obtain ⟨e0, _, _⟩ := H7.out.cells
  clear hW7 c0 c1 f1
  go_wp2_with (go_at_call 55; fail)
  refine (FP.out _ H7.out).mono ?_
  rintro e w8 ⟨rfl, h8⟩
  have H8 := Lib.hid h8
  clear h8 FP
  go_wp2
  go_ret2
  exact ⟨rfl, H8.out⟩
end
end Go.Proofs.Ytbidgpeeogoglaa
