/-
  slices.Values: its iterator; the code's All of the garbage.
-/
import Derived.Test.YtbidgpeeogoglaaHk
namespace Go.Proofs.Ytbidgpeeogoglaa
set_option maxRecDepth 100000
open Go.RowKit Go.Shelf
attribute [local go_sem] Oper.semAt_some

set_option maxHeartbeats 4000000 in
theorem values1_seqs (L : List Nat) (p : Option Addr) (cap : Nat) (w : World) (Bn n₀ : Nat) (z : Nat → Prop) (hz : z Bn) (hzp : ∀ a, p = some a → z a.block) (hc : Boxed w Bn 22 (.slice p L.length cap)) (hin : IntsAt w p (natInts L)) (hlen : L.length ≤ 1000000) :
    Seqs Try.prog 60 #[.pointer (some ⟨Bn, 0, none⟩)] natV n₀ z 0 L w := by
  intro l J Jx W hW hJ hJx hY h0
  have hcW : W.cell? ⟨Bn, 0, none⟩ = some (.slice p L.length cap) := (hW.cell (p := ⟨Bn, 0, none⟩) hc.lt).trans hc.cell
  have hIW := hin.below hW (Nat.le_refl _)
  have HI := Lib.hid hin
  have hsz := hW.size
  have HW := Lib.hid hIW
  have HZ := Lib.hid hzp
  clear hc hin hW hIW hzp hz
  refine (callsIn_wide (n := 6)).1 ?_
  refine callsIn_of_wp Try.func60 rfl trivial ?_ rfl
  simp only [Try.ntmps60, List.size_toArray, List.length_cons, List.length_nil, Nat.reduceAdd, Nat.reduceSub, Array.replicate_succ, Array.replicate_zero, List.push_toArray, List.append_toArray, List.nil_append, List.cons_append]
  gi_wp2
  gi_loopw [7] (fun q wr => ∃ k : Nat, k ≤ L.length ∧ q = .int .i64 k ∧ J (L.take k) wr ∧ IntsAt wr p (natInts L) ∧ W.heap.size ≤ wr.heap.size) (fun p _ => L.length - (intOf p).toNat)
  case atStart => exact ⟨0, Nat.zero_le _, rfl, h0, HW.out, Nat.le_refl _⟩
  case round =>
    obtain ⟨k, hk, rfl, hJs, hbw, hwz⟩ := hrel
    by_cases hlt : k < L.length
    · have hlt' : (k : Int) < (L.length : Int) := by omega
      obtain ⟨s, hs⟩ : ∃ s, L[k]? = some s := ⟨_, List.getElem?_eq_getElem hlt⟩
      have HB := Lib.hid hbw
      have hpos : 0 < (natInts L).length := by rw [natInts_len]; omega
      obtain ⟨b, off, rfl, hbl, hcs⟩ := hbw hpos
      clear hbl hpos
      have hcell := hcs k s (by simp [natInts, hs])
      have htk : L.take (k + 1) = L.take k ++ [s] := by rw [List.take_add_one, hs]; rfl
      obtain ⟨fn, tmps, assign, body, hy, hR⟩ := hY (L.take k) s wr hJs (by simpa using hwz) (by rw [← htk]; exact List.take_prefix _ _)
      simp only [natV] at hy
      have HT := Lib.hid htk
      clear hs hcs htk hbw
      gi_wp2
      refine hR.mono ?_
      rintro e W3 (⟨rfl, hJ3, hk3⟩ | ⟨rfl, hJx3, hk3⟩)
      · have hsz3 := hk3.below.size
        gi_wp2
        go_roundw
        case rel => exact ⟨k + 1, by omega, by go_num, by rw [HT.out]; exact hJ3, HB.out.kept hsz3 (fun a e hlt => hk3.extra _ (HZ.out a e) hlt), by omega⟩
        case measure => simp [intOf]; omega
      · gi_wp2
        refine bodyPost_ret (results_none rfl _ _ _) rfl ?_
        exact ⟨⟨_, rfl⟩, .inr ⟨L.take k ++ [s], by rw [← HT.out]; exact List.take_prefix _ _, hJx3⟩⟩
    · obtain rfl : k = L.length := by omega
      gi_wp2
      go_end0
      exact ⟨⟨_, rfl⟩, .inl (by rw [List.take_length] at hJs; exact hJs)⟩

set_option maxHeartbeats 2000000 in
/-- slices.Values of a row. -/
theorem values_any (L : List Nat) (p : Option Addr) (cap : Nat) (w : World) (hin : IntsAt w p (natInts L)) (hlen : L.length ≤ 1000000) : Calls Try.prog 52 #[.slice p L.length cap] w fun e w' =>
    ∃ B, e = .returned (.func (.func 60) #[] #[.pointer (some ⟨B, 0, none⟩)]) ∧ w.heap.size ≤ B ∧ B < w'.heap.size ∧ (∀ n₀ z, z B → (∀ a, p = some a → z a.block) → Seqs Try.prog 60 #[.pointer (some ⟨B, 0, none⟩)] natV n₀ z 0 L w') ∧ Below w.heap.size w w' := by
  have HI := Lib.hid hin
  clear hin
  go_enter Try.func52, Try.ntmps52
  go_wp2
  go_ret
  have hb : Below w.heap.size w (w.alloc (.cells #[.slice p L.length cap] 22)) := (Below.refl _ _).alloc (Nat.le_refl _) _
  exact ⟨_, rfl, Nat.le_refl _, by simp, fun n₀ z hz hzp => values1_seqs L p cap _ _ n₀ z hz hzp (Boxed.new w _ _) (HI.out.below hb (Nat.le_refl _)) hlen, hb⟩
end Go.Proofs.Ytbidgpeeogoglaa
