/-
  lineagelaw02.all: the first numbers that a set's iterator hands out.
-/
import Derived.Test.YtfdhkalallcfgaaDoorSeqRuns
import Derived.Test.YtfdhkalallcfgaaDoorColl
namespace Go.Proofs.YtfdhkalallcfgaaDoor
set_option maxRecDepth 100000
open Go.RowKit Go.Shelf
attribute [local go_sem] Oper.semAt_some

def natInts (l : List Nat) : List Int := l.map fun (n : Nat) => (n : Int)
theorem natInts_snoc (l : List Nat) (x : Nat) : intVs (natInts (l ++ [x])) = intVs (natInts l) ++ [Value.int .i64 x] := by simp [natInts, intVs]
theorem natInts_len (l : List Nat) : (natInts l).length = l.length := by simp [natInts]
theorem take_of_prefix {α : Type} {pre l : List α} (h : pre <+: l) : l.take pre.length = pre := by
  obtain ⟨t, rfl⟩ := h; simp

theorem take_of_all {α : Type} {l : List α} {m : Nat} (h : l.length ≤ m) : l.take m = l := List.take_of_length_le h
set_option maxHeartbeats 2000000 in
theorem allH_any (x : BitVec 64) (m : Nat) (w : World) (hT : Tab w) : Calls Tryd.prog 13 #[.int .u64 (wd x), .int .i64 m] w (RetInts (natInts ((bitsL x).take m)) w) := by
  obtain ⟨ii, iz, hi, hz0, hz1, hz2, hz3⟩ := intInfo
  refine calls_marks Tryd.func13 rfl ?_
  simp only [Tryd.ntmps13, List.size_toArray, List.length_cons, List.length_nil, Nat.reduceAdd, Nat.reduceSub, Array.replicate_succ, Array.replicate_zero, List.push_toArray, List.append_toArray, List.nil_append, List.cons_append]
  go_wp2_with (go_at_call 9; refine (all_any x _).mono ?_; rintro e w' ⟨rfl, rfl⟩)
  obtain ⟨V, hV⟩ : ∃ V, ((w.alloc (.cells #[.int .i64 m] 3)).alloc (.cells #[.slice none 0 0] 24)).alloc (.cells #[.int .u64 (wd x)] 23) = V := ⟨_, rfl⟩
  have hVs : V.heap.size ≤ w.heap.size + 3 ∧ w.heap.size + 3 ≤ V.heap.size := by rw [← hV]; simp
  have bM : Boxed V w.heap.size 3 (.int .i64 m) := by rw [← hV]; exact ((Boxed.new w _ _).alloc _).alloc _
  have bL : Boxed V (w.heap.size + 1) 24 (.slice none 0 0) := by
    rw [← hV]
    have h := Boxed.new (w.alloc (.cells #[.int .i64 m] 3)) 24 (.slice none 0 0)
    rw [World.size_alloc] at h
    exact h.alloc _
  have bS : Boxed V (w.heap.size + 2) 23 (.int .u64 (wd x)) := by
    rw [← hV]
    have h := Boxed.new ((w.alloc (.cells #[.int .i64 m] 3)).alloc (.cells #[.slice none 0 0] 24)) 23 (.int .u64 (wd x))
    rwa [World.size_alloc, World.size_alloc] at h
  have hbV : Below w.heap.size w V := by rw [← hV]; exact (((Below.refl _ _).alloc (Nat.le_refl _) _).alloc (by simp) _).alloc (by simp; omega) _
  have hpos := hT.pos
  have hTV : Tab V := hT.below hbV hpos
  have HL := Lib.hid (bitsL_len x)
  rw [hV]
  clear hV hT
  refine wp_seqs rfl (enters_of Tryd.func28 (by kernel_rfl) rfl) (all1_seqs x V (w.heap.size + 2) w.heap.size 0 (by omega) bS.cell hTV hpos) (by omega) (by omega) (Below.refl _ _) (fun _ => rfl)
    (fun pre W => (∃ v, Coll V (w.heap.size + 1) 24 (V.heap.size + 2) 3 1 pre.length (intVs (natInts pre)) W v) ∧ pre.length ≤ m)
    (fun c _ W => c = .exit 0 ∧ ∃ v, Coll V (w.heap.size + 1) 24 (V.heap.size + 2) 3 1 ((bitsL x).take m).length (intVs (natInts ((bitsL x).take m))) W v)
    ((Zone.coll (by omega) (by omega) (Nat.le_refl _) (fun pre => pre.length) (fun pre => intVs (natInts pre))).and (Zone.pure fun pre => pre.length ≤ m))
    (fun cd => (Zone.pure fun _ => cd = .exit 0).and (Zone.coll (by omega) (by omega) (Nat.le_refl _) (fun _ => ((bitsL x).take m).length) (fun _ => intVs (natInts ((bitsL x).take m)))))
    ⟨⟨_, Coll.start bL _ _ _⟩, Nat.zero_le _⟩ ?round ?done ?stop
  case round =>
    intro l2 pre i V0 hpre
    gi_wp2
    refine ⟨by trivial, fun V1 hsz1 ⟨⟨v, hC⟩, hlen⟩ => ?_⟩
    obtain ⟨p, cap, rfl⟩ := owns_slice hC.row
    have hm1 := (bM.kept hC.grown (by simp)).cell
    have hc1 := hC.box.cell
    have hpl := hpre.length_le
    rw [List.length_append] at hpl
    by_cases hlm : pre.length = m
    · have ht : ((pre.length : Int) == (m : Int)) = true := by simp; omega
      have HE := Lib.hid hlm
      clear hlm
      gi_wp2
      refine ⟨Kept.refl _, rfl, .slice p pre.length cap, ?_⟩
      rw [← HE.out, take_of_prefix ((List.prefix_append _ _).trans hpre)]
      exact hC
    · have ht : ((pre.length : Int) == (m : Int)) = false := by simp; omega
      have HN := Lib.hid hlm
      clear hlm
      have h1 : pre.length + (0 + 1) ≤ maxLen := by unfold maxLen; have := HL.out; simp at hpl; omega
      have h2 : (pre.length + (0 + 1)) * 8 ≤ 140737488355328 := by have := HL.out; simp at hpl; omega
      have H1 := Lib.hid h1
      have H2 := Lib.hid h2
      clear h1 h2
      gi_wp2_with (gi_at_builtin; refine wpListIn_append_new rfl _ _ 24 rfl Tryd.underlying24 hi hz0 hz1 hz2 hz3 (by decide) rfl hC.row 0 rfl rfl (int_one _) H1.out H2.out hsz1 ?_; intro g' cap' w1 hown1 hgr1; obtain ⟨hv1, hC2, hk2⟩ := hC.step (by omega) (by omega) hsz1 hown1 hgr1; have hc2 := hv1.cell; have hf2 := hv1.frozen)
      exact ⟨hk2 _ _ _ _ _ (by omega) (by omega) (by omega) (by omega) (by omega), ⟨_, by rw [natInts_snoc, List.length_append]; exact hC2⟩, by have := HN.out; simp; omega⟩
  case done =>
    rintro W ⟨⟨v, hC⟩, hlen⟩ hK
    have hc1 := hC.box.cell
    go_wp2
    refine ⟨by simp, .inl ⟨_, _, rfl, run_takeDeferred hK, ?_⟩⟩
    refine ⟨_, results_tmp rfl _ _ _, v, rfl, ?_, ?_⟩
    · have hr := ownsRow_putObj hC.row (.deferred none) hK rfl
      rw [← take_of_all hlen, ← natInts_len] at hr
      exact owns_lower hr (by omega)
    · exact below_putObj (hbV.trans (hC.below (by omega) (by omega))) (by omega) _ (by have := hC.grown.size; omega)
  case stop =>
    rintro cd pre W hpre ⟨rfl, v, hC⟩ hK
    have hc1 := hC.box.cell
    go_wp2
    refine ⟨by simp, .inl ⟨_, _, rfl, run_takeDeferred hK, ?_⟩⟩
    refine ⟨_, results_tmp rfl _ _ _, v, rfl, ?_, ?_⟩
    · have hr := ownsRow_putObj hC.row (.deferred none) hK rfl
      rw [← natInts_len] at hr
      exact owns_lower hr (by omega)
    · exact below_putObj (hbV.trans (hC.below (by omega) (by omega))) (by omega) _ (by have := hC.grown.size; omega)
end Go.Proofs.YtfdhkalallcfgaaDoor
