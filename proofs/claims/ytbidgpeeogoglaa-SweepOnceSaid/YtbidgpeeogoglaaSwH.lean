/-
  lineagelaw19: all, same.
-/
import Derived.Test.YtbidgpeeogoglaaSwAll
import Derived.Test.YtbidgpeeogoglaaGg
import Derived.Test.YtbidgpeeogoglaaGb
namespace Go.Proofs.Ytbidgpeeogoglaa
set_option maxRecDepth 100000
open Go.RowKit Go.Shelf Go.Sort
attribute [local go_sem] Oper.semAt_some

theorem vals_eql (b : Option Addr) (w : World) : (binOp .eql 50 (.func (.func 60) #[] #[.pointer b]) .nilFunc).run Try.prog w = .ok (.bool false) w := by kernel_rfl
set_option maxHeartbeats 8000000 in
theorem sall_any {S : St} {q g : Nat} {l : Int} (w : World) (a : Ga w q g S l w) : Calls Try.prog 20 #[.pointer (some ⟨q, 0, none⟩)] w (RetInts (natInts (S.swAll l)) w) := by
  obtain ⟨ii, iz, hi, hz0, hz1, hz2, hz3⟩ := intInfo
  obtain ⟨V, hV⟩ : ∃ V, (w.alloc (.cells #[.slice none 0 0] 22)).alloc (.cells #[.slice none 0 0] 22) = V := ⟨_, rfl⟩
  have hVs : V.heap.size ≤ w.heap.size + 2 ∧ w.heap.size + 2 ≤ V.heap.size := by rw [← hV]; simp
  have hbV : Below w.heap.size w V := by rw [← hV]; exact ((Below.refl _ _).alloc (Nat.le_refl _) _).alloc (by simp) _
  have bL0 : Boxed V w.heap.size 22 (.slice none 0 0) := by rw [← hV]; exact (Boxed.new w _ _).alloc _
  have bL : Boxed V (w.heap.size + 1) 22 (.slice none 0 0) := by
    rw [← hV]
    have h := Boxed.new (w.alloc (.cells #[.slice none 0 0] 22)) 22 (.slice none 0 0)
    rwa [World.size_alloc] at h
  have BL0 := Lib.hid bL0
  have HAV := Lib.hid (a.read hbV)
  have BL := Lib.hid bL
  have HV := Lib.hid hV
  have HBV := Lib.hid hbV
  have HLEN := Lib.hid (swIt_len S l 32)
  have hE := vals_eql
  have hlen32 : (S.swAll l).length ≤ 32 := swIt_len S l 32
  obtain ⟨xs, hxs⟩ : ∃ xs, S.swAll l = xs := ⟨_, rfl⟩
  have HXS := Lib.hid hxs
  rw [hxs] at hlen32 ⊢
  have HLN := Lib.hid hlen32
  clear bL bL0 hbV hV hxs a HLEN hlen32
  refine calls_marks Try.func20 rfl ?_
  simp only [Try.ntmps20, List.size_toArray, List.length_cons, List.length_nil, Nat.reduceAdd, Nat.reduceSub, Array.replicate_succ, Array.replicate_zero, List.push_toArray, List.append_toArray, List.nil_append, List.cons_append]
  go_wp2_with (go_at_call 37; fail)
  rw [HV.out]
  refine (gall_any _ V HAV.out).mono ?_
  rintro e V1 ⟨B1, rfl, _, hb1⟩
  have hs1 := hb1.size
  have BL1 := Lib.hid (show Boxed V1 (w.heap.size + 1) 22 (.slice none 0 0) from (hb1.block (w.heap.size + 1) BL.out.lt).trans BL.out)
  have BL01 := Lib.hid (show Boxed V1 w.heap.size 22 (.slice none 0 0) from (hb1.block w.heap.size BL0.out.lt).trans BL0.out)
  have HA1 := Lib.hid (HAV.out.read hb1)
  have HB1 := Lib.hid (HBV.out.trans (hb1.mono (by omega)))
  clear hb1 HAV HBV BL BL0
  go_wp2_with (go_at_call 37; fail)
  refine (gall_any _ V1 HA1.out).mono ?_
  rintro e V2 ⟨B, rfl, hq, hb2⟩
  have hs2 := hb2.size
  have bL2 : Boxed V2 (w.heap.size + 1) 22 (.slice none 0 0) := (hb2.block (w.heap.size + 1) BL1.out.lt).trans BL1.out
  have BL02 := Lib.hid (show Boxed V2 w.heap.size 22 (.slice none 0 0) from (hb2.block w.heap.size BL01.out.lt).trans BL01.out)
  have HB2 := Lib.hid (HB1.out.trans (hb2.mono (by omega)))
  have HQ := Lib.hid (hq w.heap.size)
  rw [HXS.out] at HQ
  clear hq hb2 HB1 HA1 BL1 BL01
  go_wp2
  have fin : ∀ (W : World) (v : Value), Coll V2 (w.heap.size + 1) 22 (V2.heap.size + 2) 3 1 xs.length (intVs (natInts xs)) W v → W.heap[V2.heap.size]? = some (.deferred (some [])) →
      RetInts (natInts xs) w (.returned v) ((W.setCell ⟨w.heap.size, 0, none⟩ v).putObj V2.heap.size (.deferred none)) := by
    intro W v hC hK
    have hs := hC.grown.size
    have hg := grownBy_setCell' W w.heap.size v
    have hs2 := hg.size
    have hK2 := (Below.heap_setCell W ⟨w.heap.size, 0, none⟩ v V2.heap.size (by show V2.heap.size ≠ w.heap.size; omega)).trans hK
    have hr : (W.setCell ⟨w.heap.size, 0, none⟩ v).ownsRow (V2.heap.size + 2) 3 1 v xs.length (intVs (natInts xs)) := hC.row.kept hg (by
      rcases Classical.em (v.ownBlock = none) with e | e
      · exact .inl e
      · exact .inr fun e2 => by have := (hC.row.lt _ e2).1; omega)
    refine ⟨v, rfl, ?_, below_putObj ((HB2.out.trans (hC.below (by omega) (by omega))).grown hg (by omega) (fun k e => by cases e; exact Nat.le_refl _)) (by omega) _ (by omega)⟩
    rw [natInts_len]
    exact owns_lower (ownsRow_putObj hr (.deferred none) hK2 rfl) (by omega)
  refine wp_seqs rfl (enters_of Try.func60 (by kernel_rfl) rfl) HQ.out (by omega) (fun k hk => by omega) (Below.refl _ _) (fun _ => rfl)
    (fun pre W => ∃ v, Coll V2 (w.heap.size + 1) 22 (V2.heap.size + 2) 3 1 pre.length (intVs (natInts pre)) W v)
    (fun cd pre W => False)
    (Zone.coll (by omega) (by omega) (Nat.le_refl _) (fun pre => pre.length) (fun pre => intVs (natInts pre)))
    (fun cd => Zone.none)
    ⟨_, Coll.start bL2 _ _ _⟩ ?round ?done ?stop
  case stop =>
    rintro cd pre W hpre hf hK
    exact hf.elim
  case round =>
    intro l2 pre i V0 hpre
    simp only [natV]
    gi_wp2
    refine ⟨by trivial, fun W1 hsz1 ⟨v, hC⟩ => ?_⟩
    have hc1 := hC.box.cell
    obtain ⟨Av, cp, rfl⟩ := owns_slice hC.row
    have hpl := hpre.length_le
    rw [List.length_append] at hpl
    have h1 : pre.length + (0 + 1) ≤ maxLen := by unfold maxLen; have := HLN.out; simp at hpl; omega
    have h2 : (pre.length + (0 + 1)) * 8 ≤ 140737488355328 := by have := HLN.out; simp at hpl; omega
    have h3 : ¬ (64 : Int) < ((pre.length : Int) + 1) := by have := HLN.out; simp at hpl; omega
    have H1 := Lib.hid h1
    have H2 := Lib.hid h2
    clear h1 h2 hpl
    gi_wp2_with (gi_at_builtin; refine wpListIn_append_new (v := .slice Av pre.length cp) rfl _ _ 22 rfl Try.underlying22 hi hz0 hz1 hz2 hz3 (by decide) rfl hC.row 0 rfl rfl (int_one _) H1.out H2.out hsz1 ?_; intro g' cap' w1 hown1 hgr1; obtain ⟨hv1, hC2, hk2⟩ := hC.step (by omega) (by omega) hsz1 hown1 hgr1; have hc2 := hv1.cell; have hf2 := hv1.frozen; have hc3 := hC2.box.cell)
    exact ⟨hk2 _ _ _ _ _ (by omega) (by rintro ⟨h1, h2⟩; omega) (fun k hk => by rintro ⟨h1, h2⟩; omega) (by omega) (by omega), _, by rw [natInts_snoc, List.length_append]; exact hC2⟩
  case done =>
    rintro W ⟨v, hC⟩ hK
    have hc1 := hC.box.cell
    have hgs := hC.grown.size
    have b0 : Boxed W w.heap.size 22 (.slice none 0 0) := (hC.grown.block w.heap.size (by omega) (by simp)).trans BL02.out
    have f0 := b0.frozen
    have d0 := b0.cell
    have hK2 := (Below.heap_setCell W ⟨w.heap.size, 0, none⟩ v V2.heap.size (by show V2.heap.size ≠ w.heap.size; omega)).trans hK
    have h2 := ((b0.set v).cell)
    obtain ⟨Av, cp, hv⟩ := owns_slice hC.row
    subst hv
    go_wp2
    refine ⟨by simp, .inl ⟨_, _, rfl, run_takeDeferred hK2, ?_⟩⟩
    have h3 := (World.cell?_of_block (a := ⟨w.heap.size, 0, none⟩) (show ((W.setCell ⟨w.heap.size, 0, none⟩ (.slice Av xs.length cp)).putObj V2.heap.size (.deferred none)).heap[w.heap.size]? = _ from World.putObj_heap_other (by omega))).trans h2
    refine ⟨_, by simp [results, Try.results20, go_sem, h3]; rfl, ?_⟩
    exact fin W _ hC hK
theorem frees_eql19 (b : Option Addr) (w : World) : (binOp .eql 50 (.func (.func 41) #[] #[.pointer b]) .nilFunc).run Try.prog w = .ok (.bool false) w := by kernel_rfl
end Go.Proofs.Ytbidgpeeogoglaa
