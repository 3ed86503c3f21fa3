/-
  The walk of lineagelaw02.BitsSame.
-/
import Derived.Test.YtfdhkalallcfgaaDoorOf
namespace Go.Proofs.YtfdhkalallcfgaaDoor
set_option maxRecDepth 100000
open Go.RowKit

theorem cnt_two (x y : BitVec 64) : ∀ k, (numsB (x ||| y) k).length + (numsB (x &&& y) k).length = (numsB x k).length + (numsB y k).length
  | 0 => by simp [numsB]
  | k + 1 => by
    have ih := cnt_two x y k
    have ho : hb (x ||| y) k = (hb x k || hb y k) := by simp [hb]
    have ha : hb (x &&& y) k = (hb x k && hb y k) := by simp [hb]
    cases hx : hb x k <;> cases hy : hb y k <;> rw [hx, hy] at ho ha
    · rw [numsB_f ho, numsB_f ha, numsB_f hx, numsB_f hy]; exact ih
    · rw [numsB_t ho, numsB_f ha, numsB_f hx, numsB_t hy]; simp; omega
    · rw [numsB_t ho, numsB_f ha, numsB_t hx, numsB_f hy]; simp; omega
    · rw [numsB_t ho, numsB_t ha, numsB_t hx, numsB_t hy]; simp; omega
theorem beq_iff {x y : BitVec 64} {b : Bool} (h : x = y ↔ b = true) : (x == y) = b := by
  cases b
  · have : ¬ x = y := fun e => by have := h.1 e; cases this
    simpa using this
  · simpa using h.2 rfl
theorem inB_meet (x y : BitVec 64) : (x &&& y == x) = inB x y := beq_iff ⟨fun e => inB_all fun j _ h => by
    have := congrArg (fun v => hb v j) e
    simp only [hb, BitVec.getLsbD_and] at this h ⊢
    rw [h] at this
    simpa using this, fun h => by
    apply BitVec.eq_of_getLsbD_eq
    intro j hj
    cases hx : hb x j
    · simp only [hb] at hx; rw [BitVec.getLsbD_and, hx]; rfl
    · cases hy : hb y j
      · rw [inB_not hj hx hy] at h; cases h
      · simp only [hb] at hx hy; rw [BitVec.getLsbD_and, hx, hy]; rfl⟩
theorem inB_join (x y : BitVec 64) : (x ||| y == y) = inB x y := beq_iff ⟨fun e => inB_all fun j _ h => by
    have := congrArg (fun v => hb v j) e
    simp only [hb, BitVec.getLsbD_or] at this h ⊢
    rw [h] at this
    simpa using this.symm, fun h => by
    apply BitVec.eq_of_getLsbD_eq
    intro j hj
    cases hx : hb x j
    · simp only [hb] at hx; rw [BitVec.getLsbD_or, hx]; rfl
    · cases hy : hb y j
      · rw [inB_not hj hx hy] at h; cases h
      · simp only [hb] at hx hy; rw [BitVec.getLsbD_or, hx, hy]; rfl⟩
theorem word_ext {x y : BitVec 64} (h : ∀ j, j < 64 → hb x j = hb y j) : x = y := BitVec.eq_of_getLsbD_eq h
theorem same_part (x y : BitVec 64) : (x &&& ~~~y) ||| (x &&& y) = x := word_ext fun j hj => by
  simp only [hb, BitVec.getLsbD_or, BitVec.getLsbD_and, BitVec.getLsbD_not]
  cases x.getLsbD j <;> cases y.getLsbD j <;> simp [hj]
theorem same_none (x y : BitVec 64) : (x &&& ~~~y) &&& (x &&& y) = 0#64 := word_ext fun j hj => by
  simp only [hb, BitVec.getLsbD_and, BitVec.getLsbD_not]
  cases x.getLsbD j <;> cases y.getLsbD j <;> simp
set_option maxHeartbeats 1000000 in
theorem bitsSame_any (x y : BitVec 64) (w : World) : Calls Tryd.prog 38 #[.int .u64 (wd x), .int .u64 (wd y)] w (RetB (.bool true) w) := by
  have i1 : inB (x &&& y) x = true := inB_all fun j _ h => by simp only [hb, BitVec.getLsbD_and, Bool.and_eq_true] at h ⊢; exact h.1
  have i2 : inB x (x ||| y) = true := inB_all fun j _ h => by simp only [hb, BitVec.getLsbD_or] at h ⊢; rw [h]; rfl
  have e1 := inB_meet x y
  have e2 := inB_join x y
  have e3 : (x &&& ~~~y == 0#64) = inB x y := rfl
  have c := cnt_two x y 64
  have c1 : (cntB (x ||| y) : Int) + cntB (x &&& y) = cntB x + cntB y := by unfold cntB; omega
  have b1 := cntB_le (x ||| y)
  have b2 := cntB_le (x &&& y)
  have b3 := cntB_le x
  have b4 := cntB_le y
  have m1 : ∀ w, Calls Tryd.prog 45 #[.int .u64 (wd x), .int .u64 (wd y)] w (RetSame (.int .u64 (wd (x &&& y))) w) := fun w => meet_any x y w
  have m2 : ∀ w, Calls Tryd.prog 45 #[.int .u64 (wd y), .int .u64 (wd x)] w (RetSame (.int .u64 (wd (x &&& y))) w) := fun w => by rw [BitVec.and_comm]; exact meet_any y x w
  have j1 : ∀ w, Calls Tryd.prog 47 #[.int .u64 (wd x), .int .u64 (wd y)] w (RetSame (.int .u64 (wd (x ||| y))) w) := fun w => join_any x y w
  have j2 : ∀ w, Calls Tryd.prog 47 #[.int .u64 (wd y), .int .u64 (wd x)] w (RetSame (.int .u64 (wd (x ||| y))) w) := fun w => by rw [BitVec.or_comm]; exact join_any y x w
  have l1 : ∀ w, Calls Tryd.prog 49 #[.int .u64 (wd x), .int .u64 (wd y)] w (RetSame (.int .u64 (wd (x &&& ~~~y))) w) := fun w => less_any x y w
  have m3 : ∀ w, Calls Tryd.prog 45 #[.int .u64 (wd (x &&& ~~~y)), .int .u64 (wd (x &&& y))] w (RetSame (.int .u64 0) w) := fun w => by
    have h := meet_any (x &&& ~~~y) (x &&& y) w
    rw [same_none] at h
    exact h
  have j3 : ∀ w, Calls Tryd.prog 47 #[.int .u64 (wd (x &&& ~~~y)), .int .u64 (wd (x &&& y))] w (RetSame (.int .u64 (wd x)) w) := fun w => by
    have h := join_any (x &&& ~~~y) (x &&& y) w
    rw [same_part] at h
    exact h
  have t1 : ∀ w, Calls Tryd.prog 51 #[.int .u64 (wd x), .int .u64 (wd y)] w (RetSame (.bool (inB x y)) w) := fun w => within_any x y w
  have t2 : ∀ w, Calls Tryd.prog 51 #[.int .u64 (wd (x &&& y)), .int .u64 (wd x)] w (RetSame (.bool true) w) := fun w => by
    have h := within_any (x &&& y) x w
    have e : (x &&& y &&& ~~~x == 0#64) = true := i1
    rw [e] at h; exact h
  have t3 : ∀ w, Calls Tryd.prog 51 #[.int .u64 (wd x), .int .u64 (wd (x ||| y))] w (RetSame (.bool true) w) := fun w => by
    have h := within_any x (x ||| y) w
    have e : (x &&& ~~~(x ||| y) == 0#64) = true := i2
    rw [e] at h; exact h
  have er : ∀ z : BitVec 64, (z == z) = true := fun z => by simp
  have ne : ∀ z : BitVec 64, (z != z) = false := fun z => by simp
  clear i1 i2 c
  generalize x &&& ~~~y = l at *
  generalize x &&& y = m at *
  generalize x ||| y = j at *
  generalize inB x y = b at *
  have hw : wrap64 ((cntB j : Int) + (cntB m : Int)) = (cntB x : Int) + (cntB y : Int) := by rw [IntWalk.wrap64_in _ (by omega)]; exact c1
  have hw2 : wrap64 ((cntB x : Int) + (cntB y : Int)) = (cntB x : Int) + (cntB y : Int) := IntWalk.wrap64_in _ (by omega)
  clear c1 b1 b2 b3 b4
  have hn : (b != b) = false := by simp
  go_enter Tryd.func38, Tryd.ntmps38
  go_wp2_with (first
    | (go_at_call 45; refine (m1 _).mono ?_; rintro e w' ⟨rfl, rfl⟩)
    | (go_at_call 45; refine (m2 _).mono ?_; rintro e w' ⟨rfl, rfl⟩)
    | (go_at_call 45; refine (m3 _).mono ?_; rintro e w' ⟨rfl, rfl⟩)
    | (go_at_call 47; refine (j1 _).mono ?_; rintro e w' ⟨rfl, rfl⟩)
    | (go_at_call 47; refine (j2 _).mono ?_; rintro e w' ⟨rfl, rfl⟩)
    | (go_at_call 47; refine (j3 _).mono ?_; rintro e w' ⟨rfl, rfl⟩)
    | (go_at_call 49; refine (l1 _).mono ?_; rintro e w' ⟨rfl, rfl⟩)
    | (go_at_call 51; refine (t1 _).mono ?_; rintro e w' ⟨rfl, rfl⟩)
    | (go_at_call 51; refine (t2 _).mono ?_; rintro e w' ⟨rfl, rfl⟩)
    | (go_at_call 51; refine (t3 _).mono ?_; rintro e w' ⟨rfl, rfl⟩)
    | (go_at_call 14; refine (works_any _).mono ?_; rintro e w1 ⟨rfl, hb1⟩)
    | (go_at_call 16; refine (count_any _ _).mono ?_; rintro e w' ⟨rfl, rfl⟩))
  go_ret
  exact ⟨rfl, hb1⟩
end Go.Proofs.YtfdhkalallcfgaaDoor
