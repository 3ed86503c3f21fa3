/-
  Package sweep: Add and Unit answer as the document's pure law says.
-/
import Derived.Test.YtbidgpeeogoglaaSwU
import Derived.Test.YtbidgpeeogoglaaGi
namespace Go.Proofs.Ytbidgpeeogoglaa
set_option maxRecDepth 100000
open Go.RowKit Go.Sort

section
variable {S R : St} {q g : Nat} {l i : Int}
set_option maxHeartbeats 4000000 in
theorem gUnit_err {S' : St} {l' : Int} {ev : Value} (w W : World) (hu : Calls Try.prog 39 #[.pointer (some ⟨q, 0, none⟩)] W (RetGa (.tuple #[.int .i64 i, ev]) w q g S' l'))
    (hneq : ∀ w, (binOp .neq 32 ev .nilIface).run Try.prog w = .ok (.bool true) w) (hgrd : ∀ x y w, (eqGuard .neq 32 x y ev .nilIface).run Try.prog w = .ok () w) :
    Calls Try.prog 21 #[.pointer (some ⟨q, 0, none⟩)] W (RetGa (.tuple #[.int .i64 0, .bool false]) w q g S' l') := by
  have HU := Lib.hid hu
  clear hu
  go_enter Try.func21, Try.ntmps21
  go_wp2_with (go_at_call 39; fail)
  refine HU.out.mono ?_
  rintro e w2 ⟨rfl, h2⟩
  have H2 := Lib.hid h2
  clear h2 HU
  go_wp2
  go_ret2
  exact ⟨rfl, H2.out⟩
set_option maxHeartbeats 4000000 in
theorem gUnit_ok {S' : St} {l' : Int} (w W : World) (hu : Calls Try.prog 39 #[.pointer (some ⟨q, 0, none⟩)] W (RetGa (.tuple #[.int .i64 i, .nilIface]) w q g S' l')) :
    Calls Try.prog 21 #[.pointer (some ⟨q, 0, none⟩)] W (RetGa (.tuple #[.int .i64 i, .bool true]) w q g S' l') := by
  have HU := Lib.hid hu
  clear hu
  go_enter Try.func21, Try.ntmps21
  go_wp2_with (go_at_call 39; fail)
  refine HU.out.mono ?_
  rintro e w2 ⟨rfl, h2⟩
  have H2 := Lib.hid h2
  clear h2 HU
  go_wp2
  go_ret2
  exact ⟨rfl, H2.out⟩
theorem errno_neq' (k : Int) : (∀ w, (binOp .neq 32 (errno k) .nilIface).run Try.prog w = .ok (.bool true) w) ∧ (∀ x y w, (eqGuard .neq 32 x y (errno k) .nilIface).run Try.prog w = .ok () w) := ⟨errno_neq k, fun x y w => by unfold errno; kernel_rfl⟩
theorem tuple2 {a b c d : Value} {S1 S2 : St} {r : Value × St} (h : r = (r.1, r.2)) (h1 : r.1 = .tuple #[a, b]) : r = (.tuple #[a, b], r.2) := by rw [← h1]
/-- What Add gives. -/
theorem gAdd_any (hag : Agree S R) (w W : World) (h : Ga w q g S l W) (hw0 : 0 ≤ S.writes) (hw1 : S.writes < 800000000) :
    Calls Try.prog 18 #[.pointer (some ⟨q, 0, none⟩), .int .i64 i] W (fun e W' => e = .returned (errP (R.gadd l i).1.1 (R.gadd l i).1.2) ∧ ∃ S', Ga w q g S' (R.gadd l i).2.2 W' ∧ Agree S' (R.gadd l i).2.1 ∧ S.writes ≤ S'.writes ∧ S'.writes ≤ S.writes + (if (R.gadd l i).1.1 = 0 then 3 else 0)) := by
  unfold St.gadd
  rw [← slotAt_congr hag.slots]
  rcases inR_cases i with hi | hi
  rotate_left
  · rw [if_pos hi]
    exact (gadd_out hi w W h).mono fun e W' ⟨h1, h2⟩ => ⟨h1, S, h2, hag, Int.le_refl _, by dsimp only; omega⟩
  rw [if_neg (by simp [hi])]
  rcases hu : (S.slotAt i).used with _ | _
  · rw [if_pos rfl]
    exact (gadd_unused hi hu w W h).mono fun e W' ⟨h1, h2⟩ => ⟨h1, S, h2, hag, Int.le_refl _, by dsimp only; omega⟩
  rw [if_neg (by simp)]
  obtain ⟨hv, ha, h0, h3, hno⟩ := push_same hag l i
  by_cases hz : (R.rpush l i).1.2.1 = 0
  · rw [if_pos hz]
    rw [hz, errP_ok] at hv
    rw [if_pos hz] at h3
    exact (gadd_ok (S' := (S.push l i).2) hi hu (by rw [← hv]) w W h hw0 (by omega)).mono fun e W' ⟨h1, h2⟩ => ⟨h1, _, h2, ha, h0, by dsimp only; omega⟩
  · rw [if_neg hz]
    rw [if_neg hz] at h3
    exact (gadd_err (S' := (S.push l i).2) hi hu (by rw [← hv]) hz w W h hw0 (by omega)).mono fun e W' ⟨h1, h2⟩ => ⟨h1, _, h2, ha, h0, by dsimp only; rw [if_neg hz]; exact h3⟩
theorem next_lk {S : St} (hl : S.slots.length = 32) {l : Int} (h : inR l = true) : (S.slotAt l).next = (S.lk l).2 := by
  have := inR_iff.1 h
  obtain ⟨k, rfl⟩ : ∃ k : Nat, l = (k : Int) := ⟨l.toNat, by omega⟩
  obtain ⟨s, hs⟩ := slot_of hl (k := k) (by omega)
  unfold St.slotAt
  rw [if_pos h, Int.toNat_natCast, hs, S.lk_in (by omega) hs]
theorem giveZ_writes (S : St) (f : Int) : S.writes ≤ (S.giveZ f).writes ∧ (S.giveZ f).writes ≤ S.writes + 1 := by
  unfold St.giveZ
  split
  · simp [St.give]; omega
  · exact ⟨Int.le_refl _, by omega⟩
/-- What Unit gives. -/
theorem gUnit_any (hag : Agree S R) (w W : World) (h : Ga w q g S l W) (hw0 : 0 ≤ S.writes) (hw1 : S.writes < 700000000) :
    Calls Try.prog 21 #[.pointer (some ⟨q, 0, none⟩)] W (fun e W' => e = .returned (.tuple #[.int .i64 (R.gunit l).1.1, .bool (R.gunit l).1.2]) ∧ ∃ S', Ga w q g S' (R.gunit l).2.2 W' ∧ Agree S' (R.gunit l).2.1 ∧ S.writes ≤ S'.writes ∧ S'.writes ≤ S.writes + 8) := by
  unfold St.gunit
  have hsl : ∀ x, R.slotAt x = S.slotAt x := fun x => (slotAt_congr hag.slots x).symm
  simp only [hsl]
  rcases inR_cases l with hl | hl
  rotate_left
  · rw [if_pos hl]
    exact (gUnit_err w W (gunit_e w W h (gfirst_out hl w W h)) (errno_neq' 1).1 (errno_neq' 1).2).mono fun e W' ⟨h1, h2⟩ => ⟨h1, S, h2, hag, Int.le_refl _, by omega⟩
  rw [if_neg (by simp [hl])]
  have hf := gfirst_in hl w W h
  generalize hF : (S.slotAt l).next = f at *
  generalize hK : (S.slotAt f).kids = k at *
  rcases inR_cases f with hfr | hfr
  rotate_left
  · rw [if_pos hfr]
    rw [show errAt f = errno 1 from if_neg (by simp [hfr])] at hf
    exact (gUnit_err w W (gunit_e w W h hf) (errno_neq' 1).1 (errno_neq' 1).2).mono fun e W' ⟨h1, h2⟩ => ⟨h1, S, h2, hag, Int.le_refl _, by omega⟩
  rw [if_neg (by simp [hfr])]
  rw [show errAt f = .nilIface from if_pos hfr] at hf
  obtain ⟨hv, ha, h0, h3, hno⟩ := splice_same hag l k
  by_cases hz : (R.rsplice l k).1.2.1 = 0
  rotate_left
  · rw [if_pos hz]
    rw [if_neg hz] at h3
    exact (gUnit_err w W (gunit_s (S1 := (S.splice l k).2) w W h hf (by rw [← hv]) hz hw0 (by omega)) (fun w => errP_neq hz w) (fun x y w => errP_grd hz x y w)).mono fun e W' ⟨h1, h2⟩ => ⟨h1, _, h2, ha, h0, by omega⟩
  rw [if_neg (fun e => e hz)]
  rw [hz, errP_ok] at hv
  rw [if_pos hz] at h3
  obtain ⟨hv2, ha2, h02, h32, hno2⟩ := drop_same ha (R.rsplice l k).1.1 f
  by_cases hz2 : ((R.rsplice l k).2.rdrop (R.rsplice l k).1.1 f).1.2.1 = 0
  rotate_left
  · rw [if_pos hz2]
    rw [if_neg hz2] at h32
    exact (gUnit_err w W (gunit_d (S1 := (S.splice l k).2) (S2 := ((S.splice l k).2.dropR (R.rsplice l k).1.1 f).2) w W h hf (by rw [← hv]) (by rw [← hv2]) hz2 hw0 (by omega) (by omega) (by omega)) (fun w => errP_neq hz2 w) (fun x y w => errP_grd hz2 x y w)).mono fun e W' ⟨h1, h2⟩ => ⟨h1, _, h2, ha2, by omega, by omega⟩
  rw [if_neg (fun e => e hz2)]
  rw [hz2, errP_ok] at hv2
  rw [if_pos hz2] at h32
  have hu := gunit_ok (S1 := (S.splice l k).2) (S2 := ((S.splice l k).2.dropR (R.rsplice l k).1.1 f).2) w W h hf (by rw [← hv]) (by rw [← hv2]) hw0 (by omega) (by omega) (by omega) (by omega) (by omega)
  have hgw := giveZ_writes ((S.splice l k).2.dropR (R.rsplice l k).1.1 f).2 f
  rw [← giveNo_congr ha2]
  by_cases hg : giveNo ((S.splice l k).2.dropR (R.rsplice l k).1.1 f).2 f = 0
  · rw [if_pos hg]
    rw [hg] at hu
    exact (gUnit_ok w W hu).mono fun e W' ⟨h1, h2⟩ => ⟨h1, _, h2, ha2.giveZ f, by omega, by omega⟩
  · rw [if_neg hg]
    rw [show errOf (giveNo ((S.splice l k).2.dropR (R.rsplice l k).1.1 f).2 f) = errno (giveNo ((S.splice l k).2.dropR (R.rsplice l k).1.1 f).2 f) from if_neg hg] at hu
    exact (gUnit_err w W hu (errno_neq' _).1 (errno_neq' _).2).mono fun e W' ⟨h1, h2⟩ => ⟨h1, _, h2, ha2.giveZ f, by omega, by omega⟩
end
end Go.Proofs.Ytbidgpeeogoglaa
