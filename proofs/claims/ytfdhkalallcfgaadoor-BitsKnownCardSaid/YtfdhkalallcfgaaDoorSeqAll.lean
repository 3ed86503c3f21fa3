/-
  bits.All: what it hands back is an iterator over a set's numbers, rising.
-/
import Derived.Test.YtfdhkalallcfgaaDoorTrail
import Derived.Test.YtfdhkalallcfgaaDoorRange
namespace Go.Proofs.YtfdhkalallcfgaaDoor
set_option maxRecDepth 100000
open Go.RowKit Go.Shelf
attribute [local go_sem] Oper.semAt_some

@[go_sem] theorem u64_sub_one (x : BitVec 64) : IntKind.u64.wrap (wd x - 1) = wd (x - 1#64) := by
  unfold wd
  rw [IntKind.wrap_u64, BitVec.toNat_sub]
  have := x.isLt
  have e : (1#64).toNat = 1 := rfl
  rw [e]
  omega
theorem ofInt_wd (x : BitVec 64) : BitVec.ofInt 64 (wd x) = x := by
  unfold wd
  rw [BitVec.ofInt_natCast, BitVec.ofNat_toNat, BitVec.setWidth_eq]
/-- How many numbers are left. -/
def leftOf (v : Value) : Nat := (bitsL (BitVec.ofInt 64 (intOf v))).length
theorem leftOf_wd (x : BitVec 64) : leftOf (.int .u64 (wd x)) = (bitsL x).length := by
  unfold leftOf
  rw [show intOf (.int .u64 (wd x)) = wd x from rfl, ofInt_wd]

theorem YieldAt.deep {P : Program} {n m : Nat} {l : Nat} {args : Array Value} {W : World} {R : Ending → World → Prop} (h : YieldAt Fence.wide n P l args W R) : YieldAt Fence.wide m P l args W R := by
  obtain ⟨fn, tmps, assign, body, hy, h1, h2⟩ := h
  exact ⟨fn, tmps, assign, body, hy, h1, fun c cs _ => h2 c cs (room_wide _)⟩

set_option maxHeartbeats 1000000 in
theorem all1_seqs (x : BitVec 64) (w : World) (Bn n₀ z : Nat) (hBn : Bn < w.heap.size) (hc : w.cell? ⟨Bn, 0, none⟩ = some (.int .u64 (wd x))) (hT : Tab w) (hn : 0 < n₀) :
    Seqs Tryd.prog 28 #[.pointer (some ⟨Bn, 0, none⟩)] (fun i : Nat => #[Value.int .i64 i]) n₀ z 0 (bitsL x) w := by
  intro l J Jx W hW hJ hJx hY h0
  have hcW : W.cell? ⟨Bn, 0, none⟩ = some (.int .u64 (wd x)) := (hW.cell (p := ⟨Bn, 0, none⟩) hBn).trans hc
  have hTW : Tab W := hT.below hW hT.pos
  have HS := Lib.hid (Nat.le_refl W.heap.size)
  clear hc hBn hT
  refine (callsIn_wide (n := 6)).1 ?_
  refine callsIn_of_wp Tryd.func28 rfl trivial ?_ rfl
  simp only [Tryd.ntmps28, List.size_toArray, List.length_cons, List.length_nil, Nat.reduceAdd, Nat.reduceSub, Array.replicate_succ, Array.replicate_zero, List.push_toArray, List.append_toArray, List.nil_append, List.cons_append]
  gi_wp2
  gi_loopw [3] (fun p wr => ∃ (pre : List Nat) (rest : BitVec 64), p = .int .u64 (wd rest) ∧ bitsL x = pre ++ bitsL rest ∧ J pre wr ∧ Tab wr ∧ W.heap.size ≤ wr.heap.size)
    (fun p _ => leftOf p)
  case atStart => exact ⟨[], x, rfl, rfl, h0, hTW, HS.out⟩
  case round =>
    obtain ⟨pre, rest, rfl, hx, hJs, hTr, hsz⟩ := hrel
    have HX := Lib.hid hx
    clear hx
    by_cases hr : rest = 0#64
    · subst hr
      have ht : (0#64 != 0#64) = false := rfl
      gi_wp2
      go_end0
      exact ⟨⟨_, rfl⟩, .inl (by rw [HX.out, bitsL_zero, List.append_nil]; exact hJs)⟩
    · have ht : (rest != 0#64) = true := by simpa using hr
      obtain ⟨fn, tmps, assign, body, hy, hR⟩ := hY pre (lowB rest) wr hJs (by simpa using hsz) (by rw [HX.out, bitsL_step hr]; exact ⟨_, by simp; rfl⟩)
      have HR := Lib.hid hr
      clear hr
      gi_wp2_with (refine ⟨trivial, ?_⟩; gi_at_call 29; refine (callsIn_wide.2 (tz_any HR.out _ hTr)).mono ?_; rintro e w' ⟨rfl, rfl⟩)
      refine hR.mono ?_
      rintro e W3 (⟨rfl, hJ3, hk3⟩ | ⟨rfl, hJx3, hk3⟩)
      · have hsz3 := hk3.below.size
        gi_wp2
        go_roundw
        case rel => exact ⟨pre ++ [lowB rest], rest &&& (rest - 1#64), rfl, by rw [HX.out, bitsL_step HR.out]; simp, hJ3, hTr.below hk3.below hn, by omega⟩
        case measure => rw [leftOf_wd, leftOf_wd, bitsL_step HR.out]; simp
      · gi_wp2
        refine bodyPost_ret (results_none rfl _ _ _) rfl ?_
        exact ⟨⟨_, rfl⟩, .inr ⟨pre ++ [lowB rest], by rw [HX.out, bitsL_step HR.out]; exact ⟨_, by simp; rfl⟩, hJx3⟩⟩

theorem all_any (x : BitVec 64) (w : World) : Calls Tryd.prog 9 #[.int .u64 (wd x)] w fun e w' =>
    e = .returned (.func (.func 28) #[] #[.pointer (some ⟨w.heap.size, 0, none⟩)]) ∧ w' = w.alloc (.cells #[.int .u64 (wd x)] 23) := by
  go_enter Tryd.func9, Tryd.ntmps9
  go_wp2
  go_ret
  exact ⟨rfl, rfl⟩
theorem runs_any (x : BitVec 64) (w : World) : Calls Tryd.prog 10 #[.int .u64 (wd x)] w fun e w' =>
    e = .returned (.func (.func 30) #[] #[.pointer (some ⟨w.heap.size, 0, none⟩)]) ∧ w' = w.alloc (.cells #[.int .u64 (wd x)] 23) := by
  go_enter Tryd.func10, Tryd.ntmps10
  go_wp2
  go_ret
  exact ⟨rfl, rfl⟩
end Go.Proofs.YtfdhkalallcfgaaDoor
