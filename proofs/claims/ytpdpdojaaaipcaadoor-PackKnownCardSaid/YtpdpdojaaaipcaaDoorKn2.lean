/-
  lineagelaw10: knownNumbers.
-/
import Derived.Test.YtpdpdojaaaipcaaDoorKn
import Derived.Test.YtpdpdojaaaipcaaDoorWr
import Derived.Test.YtpdpdojaaaipcaaDoorBack
namespace Go.Proofs.YtpdpdojaaaipcaaDoor
set_option maxRecDepth 100000
open Go.RowKit
theorem items_lit (w : World) (xs : List ItemV) : ItemsAt (w.alloc (.cells (flat ItemV.cells xs).toArray 57)) (some ⟨w.heap.size, 0, none⟩) xs := fun _ =>
  ⟨w.heap.size, 0, rfl, by simp, fun k y hk => ⟨fun j v hv => by
    rw [(Blk.new w _ _).cell, Nat.zero_add, List.getElem?_toArray]
    exact flat_get ItemV.size xs k y hk j v hv⟩⟩
theorem bs5 (a b c d : BitVec 64) (s : ByteArray) (w : World) : (Instr.buildSlice 59 5 #[(0, .agg (ItemV.cells ⟨false, a, ⟨#[]⟩⟩)), (1, .agg (ItemV.cells ⟨false, b, ⟨#[]⟩⟩)), (2, .agg (ItemV.cells ⟨false, c, ⟨#[]⟩⟩)), (3, .agg (ItemV.cells ⟨false, d, ⟨#[]⟩⟩)), (4, .agg (ItemV.cells ⟨true, 0#64, s⟩))]).run Tryd.prog w = .ok (.slice (some ⟨w.heap.size, 0, none⟩) 5 5) (w.alloc (.cells (flat ItemV.cells [⟨false, a, ⟨#[]⟩⟩, ⟨false, b, ⟨#[]⟩⟩, ⟨false, c, ⟨#[]⟩⟩, ⟨false, d, ⟨#[]⟩⟩, ⟨true, 0#64, s⟩]).toArray 57)) := by kernel_rfl
theorem bs2 (a : BitVec 64) (s : ByteArray) (w : World) : (Instr.buildSlice 59 2 #[(0, .agg (ItemV.cells ⟨true, 0#64, s⟩)), (1, .agg (ItemV.cells ⟨false, a, ⟨#[]⟩⟩))]).run Tryd.prog w = .ok (.slice (some ⟨w.heap.size, 0, none⟩) 2 2) (w.alloc (.cells (flat ItemV.cells [⟨true, 0#64, s⟩, ⟨false, a, ⟨#[]⟩⟩]).toArray 57)) := by kernel_rfl
theorem bs1 (s : ByteArray) (w : World) : (Instr.buildSlice 59 1 #[(0, .agg (ItemV.cells ⟨true, 0#64, s⟩))]).run Tryd.prog w = .ok (.slice (some ⟨w.heap.size, 0, none⟩) 1 1) (w.alloc (.cells (flat ItemV.cells [⟨true, 0#64, s⟩]).toArray 57)) := by kernel_rfl
theorem u64_word (z : Int) : ∃ y : BitVec 64, IntKind.u64.wrap z = wd y := ⟨BitVec.ofInt 64 z, by rw [IntKind.wrap_u64]; unfold wd; rw [BitVec.toNat_ofInt]; omega⟩
/-- The laws at a few items. -/
theorem w_few (w : World) (xs : List ItemV) (hn : xs.length ≤ 10) (hs : ∀ x ∈ xs, x.s.size ≤ 200) (cap : Nat) (W : World) (hW : ItemsAt W (some ⟨w.heap.size, 0, none⟩) xs) :
    Calls Tryd.prog 29 #[.slice (some ⟨w.heap.size, 0, none⟩) xs.length cap] W (RetB (.bool true) W) ∧ Calls Tryd.prog 30 #[.slice (some ⟨w.heap.size, 0, none⟩) xs.length cap] W (RetB (.bool true) W) := by
  have hle : (encs xs).length ≤ 2200 := by
    have h1 : ∀ l : List ItemV, (∀ x ∈ l, x.s.size ≤ 200) → (encs l).length ≤ 210 * l.length := fun l => by
      induction l with
      | nil => intro _; exact Nat.le_refl _
      | cons x r ih =>
        intro h
        have h1 := ih (fun y hy => h y (List.mem_cons_of_mem _ hy))
        have h3 := h x (List.mem_cons_self ..)
        have h2 := encI_le x (Nat.lt_of_le_of_lt h3 (by decide))
        simp only [encs, List.flatMap_cons, List.length_append, List.length_cons] at *
        omega
    have := h1 xs hs
    omega
  exact ⟨writes_w _ cap xs W hW (by omega) (by omega) (fun x hx => Nat.le_trans (hs x hx) (by decide)), there_w _ cap xs W hW (by omega) (by omega) (fun x hx => Nat.lt_of_le_of_lt (hs x hx) (by decide))⟩
set_option maxHeartbeats 8000000 in
theorem knownNumbers_any (w : World) : Calls Tryd.prog 16 #[] w (RetB (.bool true) w) := by
  go_enter Tryd.func16, Tryd.ntmps16
  go_wp2
  go_loopw [1] (fun i wr => ∃ k : Nat, k ≤ 64 ∧ i = .int .i64 (k : Int) ∧ Below w.heap.size w wr) (fun i _ => 64 - (intOf i).toNat)
  case atStart => exact ⟨0, Nat.zero_le _, rfl, Below.refl _ _⟩
  case round =>
    obtain ⟨k, hk, rfl, hb⟩ := hrel
    have HB := Lib.hid hb
    clear hb
    by_cases hlt : k < 64
    · have hki : (k : Int) < 64 := by omega
      obtain ⟨X, hX⟩ : ∃ X, BitVec.twoPow 64 k = X := ⟨_, rfl⟩
      obtain ⟨y1, hy1⟩ := u64_word (wd X - 1)
      obtain ⟨y2, hy2⟩ := u64_word (wd X + 1)
      obtain ⟨y3, hy3⟩ := u64_word (-(wd X))
      go_wp2_with (first
        | (go_at_call 28; fail)
        | ((with_reducible show wpList _ _ _ (Oper.mk (some 13) (Op.build _ _) _ _ _ _ :: _) _ _); refine wpList_build_as (ps := #[(1, .int .u64 (wd X))]) rfl rfl (by simp [Act.eval, Act.put]) (built_num X) ?_; simp only [Act.put, List.setIfInBounds_toArray, List.set_cons_zero, List.set_cons_succ])
        | ((with_reducible show wpList _ _ _ (Oper.mk (some 16) (Op.build _ _) _ _ _ _ :: _) _ _); refine wpList_build_as (ps := #[(1, .int .u64 (wd y1))]) rfl rfl (by simp [Act.eval, Act.put]) (built_num y1) ?_; simp only [Act.put, List.setIfInBounds_toArray, List.set_cons_zero, List.set_cons_succ])
        | ((with_reducible show wpList _ _ _ (Oper.mk (some 19) (Op.build _ _) _ _ _ _ :: _) _ _); refine wpList_build_as (ps := #[(1, .int .u64 (wd y2))]) rfl rfl (by simp [Act.eval, Act.put]) (built_num y2) ?_; simp only [Act.put, List.setIfInBounds_toArray, List.set_cons_zero, List.set_cons_succ])
        | ((with_reducible show wpList _ _ _ (Oper.mk (some 22) (Op.build _ _) _ _ _ _ :: _) _ _); refine wpList_build_as (ps := #[(1, .int .u64 (wd y3))]) rfl rfl (by simp [Act.eval, Act.put]) (built_num y3) ?_; simp only [Act.put, List.setIfInBounds_toArray, List.set_cons_zero, List.set_cons_succ])
        )
      refine (head_any k wr).mono ?_
      rintro e w1 ⟨s, rfl, hs, rfl⟩
      have HBS := Lib.hid (bs5 X y1 y2 y3 s)
      have HFW := Lib.hid (fun W hW => w_few wr [⟨false, X, ⟨#[]⟩⟩, ⟨false, y1, ⟨#[]⟩⟩, ⟨false, y2, ⟨#[]⟩⟩, ⟨false, y3, ⟨#[]⟩⟩, ⟨true, 0#64, s⟩] (by simp) (fun x hx => by
        simp only [List.mem_cons, List.not_mem_nil, or_false] at hx
        rcases hx with rfl | rfl | rfl | rfl | rfl
        · show (ByteArray.mk #[]).size ≤ 200; decide
        · show (ByteArray.mk #[]).size ≤ 200; decide
        · show (ByteArray.mk #[]).size ≤ 200; decide
        · show (ByteArray.mk #[]).size ≤ 200; decide
        · show s.size ≤ 200; omega) 5 W hW)
      have HIT := Lib.hid (items_lit wr [⟨false, X, ⟨#[]⟩⟩, ⟨false, y1, ⟨#[]⟩⟩, ⟨false, y2, ⟨#[]⟩⟩, ⟨false, y3, ⟨#[]⟩⟩, ⟨true, 0#64, s⟩])
      clear hs hX hy1 hy2 hy3
      go_wp2_with (first
        | (go_at_call 29; fail)
        | ((with_reducible show wpList _ _ _ (Oper.mk (some 25) (Op.build _ _) _ _ _ _ :: _) _ _); refine wpList_build_as (ps := #[(0, .bool true), (2, .string s)]) rfl rfl (by simp [Act.eval, Act.put]) (built_text s) ?_; simp only [Act.put, List.setIfInBounds_toArray, List.set_cons_zero, List.set_cons_succ])
        | ((with_reducible show wpList _ _ _ (Oper.mk _ (Op.buildSlice _ _ _) _ _ _ _ :: _) _ _); refine wpList_buildSlice_run (ps := #[(0, .agg (ItemV.cells ⟨false, X, ⟨#[]⟩⟩)), (1, .agg (ItemV.cells ⟨false, y1, ⟨#[]⟩⟩)), (2, .agg (ItemV.cells ⟨false, y2, ⟨#[]⟩⟩)), (3, .agg (ItemV.cells ⟨false, y3, ⟨#[]⟩⟩)), (4, .agg (ItemV.cells ⟨true, 0#64, s⟩))]) rfl rfl (by simp [Act.eval, Act.put]) HBS.out ?_; simp only [Act.put, List.setIfInBounds_toArray, List.set_cons_zero, List.set_cons_succ]))
      refine ((HFW.out _ HIT.out).1).mono ?_
      rintro e w2 ⟨rfl, h2⟩
      have H2 := Lib.hid h2
      clear h2
      go_wp2_with (go_at_call 30; fail)
      refine ((HFW.out w2 (HIT.out.below H2.out (Nat.le_refl _))).2).mono ?_
      rintro e w3 ⟨rfl, h3⟩
      have H3 := Lib.hid (HB.out.trans ((((Below.refl _ wr).alloc (Nat.le_refl _) _).trans ((H2.out.trans (h3.mono H2.out.size)).mono (by simp))).mono HB.out.size))
      clear h3
      go_wp2
      go_roundw
      case rel => exact ⟨k + 1, by omega, rfl, H3.out⟩
      case measure => simp only [intOf]; omega
    · have hki : ¬ (k : Int) < 64 := by omega
      go_wp2
      go_loopw [4, 5] (fun v i wr => ∃ (k : Nat) (s : ByteArray), k ≤ 130 ∧ i = .int .i64 (k : Int) ∧ v = .string s ∧ s.size ≤ k ∧ Below w.heap.size w wr) (fun _ i _ => 130 - (intOf i).toNat)
      case atStart => exact ⟨0, ⟨#[]⟩, Nat.zero_le _, rfl, rfl, Nat.le_refl _, HB.out⟩
      case round =>
        clear HB hlt hk hki
        obtain ⟨k, s, hk, rfl, rfl, hs, hb⟩ := hrel
        have HB := Lib.hid hb
        have HS := Lib.hid hs
        clear hb hs
        by_cases hlt : k < 130
        · have hki : (k : Int) < 130 := by omega
          have hsz : s.size ≤ 200 := by have := HS.out; omega
          have HBS2 := Lib.hid (bs2 7#64 s)
          have HBS1 := Lib.hid (bs1 s)
          have HF2 := Lib.hid (fun W hW => (w_few wr [⟨true, 0#64, s⟩, ⟨false, 7#64, ⟨#[]⟩⟩] (by simp) (fun x hx => by
            simp only [List.mem_cons, List.not_mem_nil, or_false] at hx
            rcases hx with rfl | rfl
            · exact hsz
            · show (ByteArray.mk #[]).size ≤ 200; decide) 2 W hW).2)
          have HF1 := Lib.hid (fun (w' : World) W hW => (w_few w' [⟨true, 0#64, s⟩] (by simp) (fun x hx => by
            simp only [List.mem_cons, List.not_mem_nil, or_false] at hx
            subst hx
            exact hsz) 1 W hW).1)
          have HIT2 := Lib.hid (items_lit wr [⟨true, 0#64, s⟩, ⟨false, 7#64, ⟨#[]⟩⟩])
          clear hsz
          go_wp2_with (first
            | (go_at_call 30; fail)
            | ((with_reducible show wpList _ _ _ (Oper.mk (some 40) (Op.build _ _) _ _ _ _ :: _) _ _); refine wpList_build_as (ps := #[(0, .bool true), (2, .string s)]) rfl rfl (by simp [Act.eval, Act.put]) (built_text s) ?_; simp only [Act.put, List.setIfInBounds_toArray, List.set_cons_zero, List.set_cons_succ])
            | ((with_reducible show wpList _ _ _ (Oper.mk (some 41) (Op.build _ _) _ _ _ _ :: _) _ _); refine wpList_build_as (ps := #[(1, .int .u64 7)]) rfl rfl (by simp [Act.eval, Act.put]) (built_num 7#64) ?_; simp only [Act.put, List.setIfInBounds_toArray, List.set_cons_zero, List.set_cons_succ])
            | ((with_reducible show wpList _ _ _ (Oper.mk _ (Op.buildSlice _ _ _) _ _ _ _ :: _) _ _); refine wpList_buildSlice_run (ps := #[(0, .agg (ItemV.cells ⟨true, 0#64, s⟩)), (1, .agg (ItemV.cells ⟨false, 7#64, ⟨#[]⟩⟩))]) rfl rfl (by simp [Act.eval, Act.put]) HBS2.out ?_; simp only [Act.put, List.setIfInBounds_toArray, List.set_cons_zero, List.set_cons_succ]))
          refine (HF2.out _ HIT2.out).mono ?_
          rintro e w2 ⟨rfl, h2⟩
          have H2 := Lib.hid h2
          have HIT1 := Lib.hid (items_lit w2 [⟨true, 0#64, s⟩])
          clear h2
          go_wp2_with (first
            | (go_at_call 29; fail)
            | ((with_reducible show wpList _ _ _ (Oper.mk (some 47) (Op.build _ _) _ _ _ _ :: _) _ _); refine wpList_build_as (ps := #[(0, .bool true), (2, .string s)]) rfl rfl (by simp [Act.eval, Act.put]) (built_text s) ?_; simp only [Act.put, List.setIfInBounds_toArray, List.set_cons_zero, List.set_cons_succ])
            | ((with_reducible show wpList _ _ _ (Oper.mk _ (Op.buildSlice _ _ _) _ _ _ _ :: _) _ _); refine wpList_buildSlice_run (ps := #[(0, .agg (ItemV.cells ⟨true, 0#64, s⟩))]) rfl rfl (by simp [Act.eval, Act.put]) HBS1.out ?_; simp only [Act.put, List.setIfInBounds_toArray, List.set_cons_zero, List.set_cons_succ]))
          refine (HF1.out w2 _ HIT1.out).mono ?_
          rintro e w3 ⟨rfl, h3⟩
          have H3 := Lib.hid (HB.out.trans ((((Below.refl _ wr).alloc (Nat.le_refl _) _).trans ((H2.out.trans ((((Below.refl _ w2).alloc (Nat.le_refl _) _).trans (h3.mono (by simp))).mono H2.out.size)).mono (by simp))).mono HB.out.size))
          have hcat : ¬ (9223372036854775807 < s.size + 1) := by have := HS.out; omega
          clear h3
          go_wp2
          go_roundw
          case rel => exact ⟨k + 1, _, by omega, rfl, rfl, by have h := HS.out; rw [ByteArray.size_append]; show s.size + 1 ≤ k + 1; omega, H3.out⟩
          case measure => simp only [intOf]; omega
        · have hki : ¬ (k : Int) < 130 := by omega
          go_wp2
          go_ret
          exact ⟨rfl, HB.out⟩
end Go.Proofs.YtpdpdojaaaipcaaDoor
