/-
  Rows.SweepOnceSaid: for every input lineage SweepOnce returns true, and what was handed in reads as it did. No condition.
-/
import Derived.Test.YtbidgpeeogoglaaRows
import Derived.Test.YtbidgpeeogoglaaOnce
import Derived.Test.YtbidgpeeogoglaaIntArg
import Derived.ProofKit
import Derived.OpenShut
import Derived.SizedLaws
import Derived.ShutString
import Derived.ChangeOld
import Derived.Below
namespace Go.Proofs.Ytbidgpeeogoglaa.sweepOnce
open Go.ChangeShapes Go.WideShapes Go.ChangeAt Go.RowKit
open Go.ChangeMaps (open_string shut_string)
set_option linter.unusedVariables false

theorem own : ownKnob Try.prog.godebug = none := by kernel_rfl
theorem laidOut : laidOutB Try.prog = true := by kernel_rfl
theorem cells3 : Try.prog.cellsOf 3 = 1 := by kernel_rfl
theorem bytes3 : Try.prog.bytesOf 3 = 8 := by kernel_rfl

set_option maxRecDepth 100000 in
theorem lifted (os : Os) (started : os.Started) (H : Type) (enc : TypeId × Value → H) :
    ReturnsInHanded {} Try.checked os 4 .any (Rows.sweepOnceSpec.pre6 enc Try.prog Try.f4 Rows.sweepOnceRow.domain false) (Rows.sweepOnceSpec.post enc Try.prog Try.f4 false true false false) := by
  refine returnsInHanded_of_change_sized (C := Try.checked) own started (by kernel_rfl) Try.func4
    (ChangeSpec.witness6 (enc := enc) (C := Try.checked) false ⟨#[], #[.slice none 0 0, .slice none 0 0], []⟩ 8 (by kernel_rfl) (by kernel_rfl) (by kernel_rfl) (by kernel_rfl)) ?_
  intro W base args ds gs before hval0 hW hcnd hsz _
  have hval : ∀ (j : Nat) t v, Try.f4.params[j]? = some t → args[j]? = some v → Value.okWide Try.prog W .any base t v := hval0
  have hW' := hW
  obtain ⟨p, q, hA0, hV, rfl, hfz, hnd⟩ := hW
  have hA : DataW.TrodAll enc Try.prog W 0 (fun _ => true) true Try.f4.params.toList args.toList ds p := hA0
  rw [Try.params4] at hA hval
  obtain ⟨v0, vs0, d0, ds0, p0, q0, hargs, rfl, rfl, h0, r0⟩ := trodAll_cons hA
  obtain ⟨v1, vs1, d1, ds1, p1, q1, rfl, rfl, rfl, h1, r1⟩ := trodAll_cons r0
  obtain ⟨rfl, rfl, rfl⟩ := trodAll_nil r1
  obtain rfl : args = #[v0, v1] := by cases args; simp_all
  obtain ⟨rfl, rfl⟩ := trodVars_none hV
  obtain ⟨a0, len0, cap0, rfl⟩ := okWide_slice Try.underlying22 (hval 0 22 v0 rfl rfl)
  have k0 := h0
  have lt0 : ∀ x ∈ p0, x.block < W.heap.size := by obtain ⟨m, hm⟩ := k0; exact DataW.trod_lt m _ _ _ hm
  obtain ⟨fuel0, hf0⟩ := h0
  obtain ⟨xs0, rfl, hlc0, hd0, hin0⟩ := open_rows i64c Try.underlying22 cells3 (by decide) i64c_size (fun m cs y h => open_i64 h) hf0
  have hl0 : xs0.length * 8 ≤ 140737488351232 := by
    rcases hd0 with ⟨h, _⟩ | ⟨el, sp, he, hel⟩
    · omega
    · simp only at he
      subst he
      have : (el.length + sp.length) * Try.prog.bytesOf 3 ≤ reachBytes := sized_slice hsz (j := 0) rfl rfl Try.underlying22
      rw [bytes3] at this
      have hr : reachBytes = 140737488351232 := by decide
      rw [hr] at this
      rw [← hel]
      omega
  obtain ⟨a1, len1, cap1, rfl⟩ := okWide_slice Try.underlying22 (hval 1 22 v1 rfl rfl)
  have k1 := h1
  have lt1 : ∀ x ∈ p1, x.block < W.heap.size := by obtain ⟨m, hm⟩ := k1; exact DataW.trod_lt m _ _ _ hm
  obtain ⟨fuel1, hf1⟩ := h1
  obtain ⟨xs1, rfl, hlc1, hd1, hin1⟩ := open_rows i64c Try.underlying22 cells3 (by decide) i64c_size (fun m cs y h => open_i64 h) hf1
  have hl1 : xs1.length * 8 ≤ 140737488351232 := by
    rcases hd1 with ⟨h, _⟩ | ⟨el, sp, he, hel⟩
    · omega
    · simp only at he
      subst he
      have : (el.length + sp.length) * Try.prog.bytesOf 3 ≤ reachBytes := sized_slice hsz (j := 1) rfl rfl Try.underlying22
      rw [bytes3] at this
      have hr : reachBytes = 140737488351232 := by decide
      rw [hr] at this
      rw [← hel]
      omega
  clear hA0 hval0
  refine (sweepOnce_rows a0 cap0 xs0 a1 cap1 xs1 W hin0 hl0 hin1 hl1).mono fun e W' ⟨he, bel⟩ => ?_
  subst he
  exact ⟨_, rfl, _, _, _, [], _, [], hW', trodAll_mk1 (shut_bool Try.underlying4 _), (trodAll_cons_mk (Below.trod laidOut (by kernel_rfl) (of_decide_eq_true (by kernel_rfl)) k0 bel lt0) (trodAll_cons_mk (Below.trod laidOut (by kernel_rfl) (of_decide_eq_true (by kernel_rfl)) k1 bel lt1) trodAll_mk0)), rfl, bel.frame _, fun h => by cases h⟩

theorem over : Rows.sweepOnceRow.holds Try.pinned (OpenSpec.ofChange Rows.sweepOnceSpec) :=
  OpenClaim.holds_of_wide 4 Try.f4 rfl rfl rfl rfl rfl rfl rfl ⟨rfl, rfl, rfl, rfl, rfl⟩ rfl rfl rfl rfl rfl (by kernel_rfl) Try.func4 (by kernel_rfl)
    (of_decide_eq_true (by kernel_rfl)) (by unfold Func.isWrapper; first | (rw [if_pos (by decide +kernel)]; kernel_rfl) | (rw [if_neg (by decide +kernel)]; exact ⟨rfl, rfl⟩))
    (fun os started H enc _ => lifted os started H enc)

theorem proved : Rows.SweepOnceSaid := over
#print axioms proved
end Go.Proofs.Ytbidgpeeogoglaa.sweepOnce
