/-
  Package tag: words of bytes, rotations, rounds; a key's sum.
-/
import Derived.Test.YtclcmdpampimkaaDoorProg
import Derived.Test.YtclcmdpampimkaaDoorRow
import Derived.Test.YtclcmdpampimkaaDoorWord
import Derived.Test.YtclcmdpampimkaaDoorQuietTail
namespace Go.Proofs.YtclcmdpampimkaaDoor
set_option maxRecDepth 100000
open Go.RowKit

/-! ### the sum, plain -/
structure St where
  a : BitVec 64
  b : BitVec 64
  c : BitVec 64
  d : BitVec 64
  deriving DecidableEq
def St.cells (s : St) : Array Value := #[.int .u64 (wd s.a), .int .u64 (wd s.b), .int .u64 (wd s.c), .int .u64 (wd s.d)]
theorem St.one (s : St) : ∀ u ∈ s.cells.toList, u.oneCell' = true := by intro u hu; simp [St.cells] at hu; rcases hu with rfl | rfl | rfl | rfl <;> rfl
def rot (x : BitVec 64) (k : Nat) : BitVec 64 := x <<< k ||| x >>> (64 - k)
def rnd (s : St) : St :=
  let a := s.a + s.b
  let b := rot s.b 13 ^^^ a
  let a := rot a 32
  let c := s.c + s.d
  let d := rot s.d 16 ^^^ c
  let a := a + d
  let d := rot d 21 ^^^ a
  let c := c + b
  let b := rot b 17 ^^^ c
  let c := rot c 32
  ⟨a, b, c, d⟩
def wordS (s : St) (m : BitVec 64) : St := let t := rnd (rnd { s with d := s.d ^^^ m }); { t with a := t.a ^^^ m }
def rndI : Nat → St → St
  | 0, s => s
  | k + 1, s => rnd (rndI k s)
def finS (s : St) : BitVec 64 := let t := rndI 4 { s with c := s.c ^^^ 255#64 }; t.a ^^^ t.b ^^^ t.c ^^^ t.d
def lowN : List UInt8 → Nat
  | [] => 0
  | x :: l => x.toNat + 256 * lowN l
def lowW (l : List UInt8) : BitVec 64 := BitVec.ofNat 64 (lowN l)
/-- The byte of a length, on top. -/
def lenW (n : Nat) : BitVec 64 := BitVec.ofNat 64 (n % 256 * 72057594037927936)
def sumF : Nat → BitVec 64 → St → List UInt8 → BitVec 64
  | 0, _, s, _ => finS s
  | f + 1, z, s, l => if 8 ≤ l.length then sumF f z (wordS s (lowW (l.take 8))) (l.drop 8) else finS (wordS s (lowW l ||| z))
/-- The sum of some bytes, from a key's state on. -/
def sipSum (s : St) (l : List UInt8) : BitVec 64 := sumF (l.length + 1) (lenW l.length) s l
def keySt (k : List UInt8) : St := ⟨lowW (k.take 8) ^^^ 8317987319222330741#64, lowW (k.drop 8) ^^^ 7237128888997146477#64, lowW (k.take 8) ^^^ 7816392313619706465#64, lowW (k.drop 8) ^^^ 8387220255154660723#64⟩
theorem lowN_lt : ∀ l, lowN l < 256 ^ l.length
  | [] => by simp [lowN]
  | x :: l => by
    have ih := lowN_lt l
    have := x.toNat_lt
    rw [lowN, List.length_cons, Nat.pow_succ]; omega
theorem lowN_snoc : ∀ (l : List UInt8) (x : UInt8), lowN (l ++ [x]) = lowN l + x.toNat * 256 ^ l.length
  | [], x => by simp [lowN]
  | y :: l, x => by
    rw [List.cons_append, lowN, lowN_snoc l x, lowN, List.length_cons, Nat.pow_succ, Nat.mul_add, ← Nat.mul_assoc 256 x.toNat, Nat.mul_comm 256 x.toNat, Nat.mul_assoc x.toNat, Nat.mul_comm 256 (256 ^ l.length), Nat.add_assoc]

/-! ### rotations -/
@[go_sem] theorem u64_xor_lit (x : BitVec 64) (n : Nat) : bits .xor .u64 (wd x) (no_index (@OfNat.ofNat Int n instOfNat)) = wd (x ^^^ BitVec.ofNat 64 n) := by
  rw [← u64_xor_bv]; exact bits_lit _ _ _ _ (ofInt_lit n)
@[go_sem] theorem u64_shl_bv (x : BitVec 64) (i : Nat) : IntKind.u64.wrap (wd x * 2 ^ i) = wd (x <<< i) := by
  unfold wd
  rw [IntKind.wrap_u64, BitVec.toNat_shiftLeft, Nat.shiftLeft_eq]
  simp
theorem rot_any (x : BitVec 64) (k : Nat) (h1 : 1 ≤ k) (h2 : k ≤ 63) (w : World) : Calls Tryd.prog 38 #[.int .u64 (wd x), .int .i64 (k : Int)] w (RetSame (.int .u64 (wd (rot x k))) w) := by
  have e1 : IntKind.u64.wrap (k : Int) = (k : Int) := by rw [IntKind.wrap_u64]; omega
  have e2 : bits .and .u64 (k : Int) 63 = (k : Int) := by
    have := u64_and_nat k 63 (by omega) (by omega)
    rw [show ((63 : Nat) : Int) = 63 from rfl] at this
    rw [this]
    have e3 := Nat.and_two_pow_sub_one_eq_mod k 6
    rw [show (2 : Nat) ^ 6 - 1 = 63 from rfl] at e3
    rw [e3]
    omega
  have k1 : (1 : Int) ≤ k := by omega
  have k2 : (k : Int) ≤ 63 := by omega
  go_enter Tryd.func38, Tryd.ntmps38
  go_wp2
  go_ret
  exact ⟨rfl, rfl⟩
theorem grown_set {w0 w w' : World} {g : Nat} (h : w0.grownBy w (some g)) (hb : Below w.heap.size w w') (j : Nat) (v : Value) : w0.grownBy (w'.setCell ⟨g, j, none⟩ v) (some g) := by
  refine ⟨hb.os.trans h.os, hb.tape.trans h.tape, hb.output.trans h.output, ?_, fun k hk hne => ?_⟩
  · have := hb.size; have := h.size; simp; omega
  · have hne' : k ≠ g := fun e => hne (by rw [e])
    rw [Below.heap_setCell _ _ _ _ hne', hb.block k (Nat.lt_of_lt_of_le hk h.size), h.block k hk hne]

set_option maxHeartbeats 8000000 in
theorem round_any (g : Nat) (s : St) (w : World) (hB : Blk w g 43 s.cells) : Calls Tryd.prog 32 #[.pointer (some ⟨g, 0, none⟩)] w (fun e w' => e = .returned (.tuple #[]) ∧ Blk w' g 43 (rnd s).cells ∧ w.grownBy w' (some g)) := by
  obtain ⟨x0, y0, z0, u0⟩ := s
  have R13 : Hid (∀ (x : BitVec 64) (w : World) (d : Nat) (os : Array Obj), Calls Tryd.prog 38 #[.int .u64 (wd x), .int .i64 13] (Go.Sort.grow (redrawn w d) os) fun e w'' => e = .returned (.int .u64 (wd (rot x 13))) ∧ ∃ p : Regrown, w'' = Go.Sort.grow (redrawn w p.d) p.os) := Lib.hid fun x => quiet_same fun w => rot_any x 13 (by decide) (by decide) w
  have R32 : Hid (∀ (x : BitVec 64) (w : World) (d : Nat) (os : Array Obj), Calls Tryd.prog 38 #[.int .u64 (wd x), .int .i64 32] (Go.Sort.grow (redrawn w d) os) fun e w'' => e = .returned (.int .u64 (wd (rot x 32))) ∧ ∃ p : Regrown, w'' = Go.Sort.grow (redrawn w p.d) p.os) := Lib.hid fun x => quiet_same fun w => rot_any x 32 (by decide) (by decide) w
  have R16 : Hid (∀ (x : BitVec 64) (w : World) (d : Nat) (os : Array Obj), Calls Tryd.prog 38 #[.int .u64 (wd x), .int .i64 16] (Go.Sort.grow (redrawn w d) os) fun e w'' => e = .returned (.int .u64 (wd (rot x 16))) ∧ ∃ p : Regrown, w'' = Go.Sort.grow (redrawn w p.d) p.os) := Lib.hid fun x => quiet_same fun w => rot_any x 16 (by decide) (by decide) w
  have R21 : Hid (∀ (x : BitVec 64) (w : World) (d : Nat) (os : Array Obj), Calls Tryd.prog 38 #[.int .u64 (wd x), .int .i64 21] (Go.Sort.grow (redrawn w d) os) fun e w'' => e = .returned (.int .u64 (wd (rot x 21))) ∧ ∃ p : Regrown, w'' = Go.Sort.grow (redrawn w p.d) p.os) := Lib.hid fun x => quiet_same fun w => rot_any x 21 (by decide) (by decide) w
  have R17 : Hid (∀ (x : BitVec 64) (w : World) (d : Nat) (os : Array Obj), Calls Tryd.prog 38 #[.int .u64 (wd x), .int .i64 17] (Go.Sort.grow (redrawn w d) os) fun e w'' => e = .returned (.int .u64 (wd (rot x 17))) ∧ ∃ p : Regrown, w'' = Go.Sort.grow (redrawn w p.d) p.os) := Lib.hid fun x => quiet_same fun w => rot_any x 17 (by decide) (by decide) w
  have B0 := Lib.hid hB
  have G0 := Lib.hid (grownBy_refl w (some g))
  clear hB
  go_enter Tryd.func32, Tryd.ntmps32
  go_wp2
  obtain ⟨x1, h0⟩ : ∃ x, x0 + y0 = x := ⟨_, rfl⟩
  have c0 := cell_regrown (v := .int .u64 (wd x0)) (B0.out.cell 0)
  have c1 := cell_regrown (v := .int .u64 (wd y0)) (B0.out.cell 1)
  have c2 := cell_regrown (v := .int .u64 (wd z0)) (B0.out.cell 2)
  have c3 := cell_regrown (v := .int .u64 (wd u0)) (B0.out.cell 3)
  refine wp_region_quiet_tail_below 11 (by kernel_rfl) (by kernel_rfl) ?_
  simp only [List.take_succ_cons, List.take_zero, List.drop_succ_cons, List.drop_zero]
  repeat (first | go_big_quiet_skip | (go_big_quiet_want; go_big_quiet_op; first | go_big_quiet_on))
  refine wpQuiet_nil ?_
  intro v0 hC
  have hb := below_class hC
  have b0 := B0.out.below hb B0.out.lt
  have B1 : Hid (Blk (v0.setCell ⟨g, 0, none⟩ (.int .u64 (wd x1))) g 43 #[.int .u64 (wd x1), .int .u64 (wd y0), .int .u64 (wd z0), .int .u64 (wd u0)]) := Lib.hid (b0.set_ 0 _)
  have G1 := Lib.hid (grown_set G0.out hb 0 (.int .u64 (wd x1)))
  have d0 : v0.cell? ⟨g, 0, none⟩ = some (.int .u64 (wd x0)) := b0.cell 0
  have f0 : v0.frozen? ⟨g, 0, none⟩ = false := b0.frozen 0
  clear c0 c1 c2 c3 hC hb b0 B0 G0
  go_wp2
  have H0 := Lib.hid h0
  clear d0 f0 h0
  obtain ⟨y1, h1⟩ : ∃ x, rot y0 13 ^^^ x1 = x := ⟨_, rfl⟩
  have c0 := cell_regrown (v := .int .u64 (wd x1)) (B1.out.cell 0)
  have c1 := cell_regrown (v := .int .u64 (wd y0)) (B1.out.cell 1)
  have c2 := cell_regrown (v := .int .u64 (wd z0)) (B1.out.cell 2)
  have c3 := cell_regrown (v := .int .u64 (wd u0)) (B1.out.cell 3)
  refine wp_region_quiet_tail_below 13 (by kernel_rfl) (by kernel_rfl) ?_
  simp only [List.take_succ_cons, List.take_zero, List.drop_succ_cons, List.drop_zero]
  repeat (first | go_big_quiet_skip | (go_big_quiet_want; go_big_quiet_op; first | go_big_quiet_on | go_big_quiet_call (with_reducible exact R13.out _ _ _ _)))
  refine wpQuiet_nil ?_
  intro v1 hC
  have hb := below_class hC
  have b1 := B1.out.below hb B1.out.lt
  have B2 : Hid (Blk (v1.setCell ⟨g, 1, none⟩ (.int .u64 (wd y1))) g 43 #[.int .u64 (wd x1), .int .u64 (wd y1), .int .u64 (wd z0), .int .u64 (wd u0)]) := Lib.hid (b1.set_ 1 _)
  have G2 := Lib.hid (grown_set G1.out hb 1 (.int .u64 (wd y1)))
  have d0 : v1.cell? ⟨g, 1, none⟩ = some (.int .u64 (wd y0)) := b1.cell 1
  have f0 : v1.frozen? ⟨g, 1, none⟩ = false := b1.frozen 1
  clear c0 c1 c2 c3 hC hb b1 B1 G1
  go_wp2
  have H1 := Lib.hid h1
  clear d0 f0 h1
  obtain ⟨x2, h2⟩ : ∃ x, rot x1 32 = x := ⟨_, rfl⟩
  have c0 := cell_regrown (v := .int .u64 (wd x1)) (B2.out.cell 0)
  have c1 := cell_regrown (v := .int .u64 (wd y1)) (B2.out.cell 1)
  have c2 := cell_regrown (v := .int .u64 (wd z0)) (B2.out.cell 2)
  have c3 := cell_regrown (v := .int .u64 (wd u0)) (B2.out.cell 3)
  refine wp_region_quiet_tail_below 8 (by kernel_rfl) (by kernel_rfl) ?_
  simp only [List.take_succ_cons, List.take_zero, List.drop_succ_cons, List.drop_zero]
  repeat (first | go_big_quiet_skip | (go_big_quiet_want; go_big_quiet_op; first | go_big_quiet_on | go_big_quiet_call (with_reducible exact R32.out _ _ _ _)))
  refine wpQuiet_nil ?_
  intro v2 hC
  have hb := below_class hC
  have b2 := B2.out.below hb B2.out.lt
  have B3 : Hid (Blk (v2.setCell ⟨g, 0, none⟩ (.int .u64 (wd x2))) g 43 #[.int .u64 (wd x2), .int .u64 (wd y1), .int .u64 (wd z0), .int .u64 (wd u0)]) := Lib.hid (b2.set_ 0 _)
  have G3 := Lib.hid (grown_set G2.out hb 0 (.int .u64 (wd x2)))
  have d0 : v2.cell? ⟨g, 0, none⟩ = some (.int .u64 (wd x1)) := b2.cell 0
  have f0 : v2.frozen? ⟨g, 0, none⟩ = false := b2.frozen 0
  clear c0 c1 c2 c3 hC hb b2 B2 G2
  go_wp2
  simp only [h2]
  have H2 := Lib.hid h2
  clear d0 f0 h2
  obtain ⟨z1, h3⟩ : ∃ x, z0 + u0 = x := ⟨_, rfl⟩
  have c0 := cell_regrown (v := .int .u64 (wd x2)) (B3.out.cell 0)
  have c1 := cell_regrown (v := .int .u64 (wd y1)) (B3.out.cell 1)
  have c2 := cell_regrown (v := .int .u64 (wd z0)) (B3.out.cell 2)
  have c3 := cell_regrown (v := .int .u64 (wd u0)) (B3.out.cell 3)
  refine wp_region_quiet_tail_below 11 (by kernel_rfl) (by kernel_rfl) ?_
  simp only [List.take_succ_cons, List.take_zero, List.drop_succ_cons, List.drop_zero]
  repeat (first | go_big_quiet_skip | (go_big_quiet_want; go_big_quiet_op; first | go_big_quiet_on))
  refine wpQuiet_nil ?_
  intro v3 hC
  have hb := below_class hC
  have b3 := B3.out.below hb B3.out.lt
  have B4 : Hid (Blk (v3.setCell ⟨g, 2, none⟩ (.int .u64 (wd z1))) g 43 #[.int .u64 (wd x2), .int .u64 (wd y1), .int .u64 (wd z1), .int .u64 (wd u0)]) := Lib.hid (b3.set_ 2 _)
  have G4 := Lib.hid (grown_set G3.out hb 2 (.int .u64 (wd z1)))
  have d0 : v3.cell? ⟨g, 2, none⟩ = some (.int .u64 (wd z0)) := b3.cell 2
  have f0 : v3.frozen? ⟨g, 2, none⟩ = false := b3.frozen 2
  clear c0 c1 c2 c3 hC hb b3 B3 G3
  go_wp2
  have H3 := Lib.hid h3
  clear d0 f0 h3
  obtain ⟨u1, h4⟩ : ∃ x, rot u0 16 ^^^ z1 = x := ⟨_, rfl⟩
  have c0 := cell_regrown (v := .int .u64 (wd x2)) (B4.out.cell 0)
  have c1 := cell_regrown (v := .int .u64 (wd y1)) (B4.out.cell 1)
  have c2 := cell_regrown (v := .int .u64 (wd z1)) (B4.out.cell 2)
  have c3 := cell_regrown (v := .int .u64 (wd u0)) (B4.out.cell 3)
  refine wp_region_quiet_tail_below 13 (by kernel_rfl) (by kernel_rfl) ?_
  simp only [List.take_succ_cons, List.take_zero, List.drop_succ_cons, List.drop_zero]
  repeat (first | go_big_quiet_skip | (go_big_quiet_want; go_big_quiet_op; first | go_big_quiet_on | go_big_quiet_call (with_reducible exact R16.out _ _ _ _)))
  refine wpQuiet_nil ?_
  intro v4 hC
  have hb := below_class hC
  have b4 := B4.out.below hb B4.out.lt
  have B5 : Hid (Blk (v4.setCell ⟨g, 3, none⟩ (.int .u64 (wd u1))) g 43 #[.int .u64 (wd x2), .int .u64 (wd y1), .int .u64 (wd z1), .int .u64 (wd u1)]) := Lib.hid (b4.set_ 3 _)
  have G5 := Lib.hid (grown_set G4.out hb 3 (.int .u64 (wd u1)))
  have d0 : v4.cell? ⟨g, 3, none⟩ = some (.int .u64 (wd u0)) := b4.cell 3
  have f0 : v4.frozen? ⟨g, 3, none⟩ = false := b4.frozen 3
  clear c0 c1 c2 c3 hC hb b4 B4 G4
  go_wp2
  have H4 := Lib.hid h4
  clear d0 f0 h4
  obtain ⟨x3, h5⟩ : ∃ x, x2 + u1 = x := ⟨_, rfl⟩
  have c0 := cell_regrown (v := .int .u64 (wd x2)) (B5.out.cell 0)
  have c1 := cell_regrown (v := .int .u64 (wd y1)) (B5.out.cell 1)
  have c2 := cell_regrown (v := .int .u64 (wd z1)) (B5.out.cell 2)
  have c3 := cell_regrown (v := .int .u64 (wd u1)) (B5.out.cell 3)
  refine wp_region_quiet_tail_below 11 (by kernel_rfl) (by kernel_rfl) ?_
  simp only [List.take_succ_cons, List.take_zero, List.drop_succ_cons, List.drop_zero]
  repeat (first | go_big_quiet_skip | (go_big_quiet_want; go_big_quiet_op; first | go_big_quiet_on))
  refine wpQuiet_nil ?_
  intro v5 hC
  have hb := below_class hC
  have b5 := B5.out.below hb B5.out.lt
  have B6 : Hid (Blk (v5.setCell ⟨g, 0, none⟩ (.int .u64 (wd x3))) g 43 #[.int .u64 (wd x3), .int .u64 (wd y1), .int .u64 (wd z1), .int .u64 (wd u1)]) := Lib.hid (b5.set_ 0 _)
  have G6 := Lib.hid (grown_set G5.out hb 0 (.int .u64 (wd x3)))
  have d0 : v5.cell? ⟨g, 0, none⟩ = some (.int .u64 (wd x2)) := b5.cell 0
  have f0 : v5.frozen? ⟨g, 0, none⟩ = false := b5.frozen 0
  clear c0 c1 c2 c3 hC hb b5 B5 G5
  go_wp2
  have H5 := Lib.hid h5
  clear d0 f0 h5
  obtain ⟨u2, h6⟩ : ∃ x, rot u1 21 ^^^ x3 = x := ⟨_, rfl⟩
  have c0 := cell_regrown (v := .int .u64 (wd x3)) (B6.out.cell 0)
  have c1 := cell_regrown (v := .int .u64 (wd y1)) (B6.out.cell 1)
  have c2 := cell_regrown (v := .int .u64 (wd z1)) (B6.out.cell 2)
  have c3 := cell_regrown (v := .int .u64 (wd u1)) (B6.out.cell 3)
  refine wp_region_quiet_tail_below 13 (by kernel_rfl) (by kernel_rfl) ?_
  simp only [List.take_succ_cons, List.take_zero, List.drop_succ_cons, List.drop_zero]
  repeat (first | go_big_quiet_skip | (go_big_quiet_want; go_big_quiet_op; first | go_big_quiet_on | go_big_quiet_call (with_reducible exact R21.out _ _ _ _)))
  refine wpQuiet_nil ?_
  intro v6 hC
  have hb := below_class hC
  have b6 := B6.out.below hb B6.out.lt
  have B7 : Hid (Blk (v6.setCell ⟨g, 3, none⟩ (.int .u64 (wd u2))) g 43 #[.int .u64 (wd x3), .int .u64 (wd y1), .int .u64 (wd z1), .int .u64 (wd u2)]) := Lib.hid (b6.set_ 3 _)
  have G7 := Lib.hid (grown_set G6.out hb 3 (.int .u64 (wd u2)))
  have d0 : v6.cell? ⟨g, 3, none⟩ = some (.int .u64 (wd u1)) := b6.cell 3
  have f0 : v6.frozen? ⟨g, 3, none⟩ = false := b6.frozen 3
  clear c0 c1 c2 c3 hC hb b6 B6 G6
  go_wp2
  have H6 := Lib.hid h6
  clear d0 f0 h6
  obtain ⟨z2, h7⟩ : ∃ x, z1 + y1 = x := ⟨_, rfl⟩
  have c0 := cell_regrown (v := .int .u64 (wd x3)) (B7.out.cell 0)
  have c1 := cell_regrown (v := .int .u64 (wd y1)) (B7.out.cell 1)
  have c2 := cell_regrown (v := .int .u64 (wd z1)) (B7.out.cell 2)
  have c3 := cell_regrown (v := .int .u64 (wd u2)) (B7.out.cell 3)
  refine wp_region_quiet_tail_below 11 (by kernel_rfl) (by kernel_rfl) ?_
  simp only [List.take_succ_cons, List.take_zero, List.drop_succ_cons, List.drop_zero]
  repeat (first | go_big_quiet_skip | (go_big_quiet_want; go_big_quiet_op; first | go_big_quiet_on))
  refine wpQuiet_nil ?_
  intro v7 hC
  have hb := below_class hC
  have b7 := B7.out.below hb B7.out.lt
  have B8 : Hid (Blk (v7.setCell ⟨g, 2, none⟩ (.int .u64 (wd z2))) g 43 #[.int .u64 (wd x3), .int .u64 (wd y1), .int .u64 (wd z2), .int .u64 (wd u2)]) := Lib.hid (b7.set_ 2 _)
  have G8 := Lib.hid (grown_set G7.out hb 2 (.int .u64 (wd z2)))
  have d0 : v7.cell? ⟨g, 2, none⟩ = some (.int .u64 (wd z1)) := b7.cell 2
  have f0 : v7.frozen? ⟨g, 2, none⟩ = false := b7.frozen 2
  clear c0 c1 c2 c3 hC hb b7 B7 G7
  go_wp2
  have H7 := Lib.hid h7
  clear d0 f0 h7
  obtain ⟨y2, h8⟩ : ∃ x, rot y1 17 ^^^ z2 = x := ⟨_, rfl⟩
  have c0 := cell_regrown (v := .int .u64 (wd x3)) (B8.out.cell 0)
  have c1 := cell_regrown (v := .int .u64 (wd y1)) (B8.out.cell 1)
  have c2 := cell_regrown (v := .int .u64 (wd z2)) (B8.out.cell 2)
  have c3 := cell_regrown (v := .int .u64 (wd u2)) (B8.out.cell 3)
  refine wp_region_quiet_tail_below 13 (by kernel_rfl) (by kernel_rfl) ?_
  simp only [List.take_succ_cons, List.take_zero, List.drop_succ_cons, List.drop_zero]
  repeat (first | go_big_quiet_skip | (go_big_quiet_want; go_big_quiet_op; first | go_big_quiet_on | go_big_quiet_call (with_reducible exact R17.out _ _ _ _)))
  refine wpQuiet_nil ?_
  intro v8 hC
  have hb := below_class hC
  have b8 := B8.out.below hb B8.out.lt
  have B9 : Hid (Blk (v8.setCell ⟨g, 1, none⟩ (.int .u64 (wd y2))) g 43 #[.int .u64 (wd x3), .int .u64 (wd y2), .int .u64 (wd z2), .int .u64 (wd u2)]) := Lib.hid (b8.set_ 1 _)
  have G9 := Lib.hid (grown_set G8.out hb 1 (.int .u64 (wd y2)))
  have d0 : v8.cell? ⟨g, 1, none⟩ = some (.int .u64 (wd y1)) := b8.cell 1
  have f0 : v8.frozen? ⟨g, 1, none⟩ = false := b8.frozen 1
  clear c0 c1 c2 c3 hC hb b8 B8 G8
  go_wp2
  have H8 := Lib.hid h8
  clear d0 f0 h8
  obtain ⟨z3, h9⟩ : ∃ x, rot z2 32 = x := ⟨_, rfl⟩
  have c0 := cell_regrown (v := .int .u64 (wd x3)) (B9.out.cell 0)
  have c1 := cell_regrown (v := .int .u64 (wd y2)) (B9.out.cell 1)
  have c2 := cell_regrown (v := .int .u64 (wd z2)) (B9.out.cell 2)
  have c3 := cell_regrown (v := .int .u64 (wd u2)) (B9.out.cell 3)
  refine wp_region_quiet_tail_below 8 (by kernel_rfl) (by kernel_rfl) ?_
  simp only [List.take_succ_cons, List.take_zero, List.drop_succ_cons, List.drop_zero]
  repeat (first | go_big_quiet_skip | (go_big_quiet_want; go_big_quiet_op; first | go_big_quiet_on | go_big_quiet_call (with_reducible exact R32.out _ _ _ _)))
  refine wpQuiet_nil ?_
  intro v9 hC
  have hb := below_class hC
  have b9 := B9.out.below hb B9.out.lt
  have B10 : Hid (Blk (v9.setCell ⟨g, 2, none⟩ (.int .u64 (wd z3))) g 43 #[.int .u64 (wd x3), .int .u64 (wd y2), .int .u64 (wd z3), .int .u64 (wd u2)]) := Lib.hid (b9.set_ 2 _)
  have G10 := Lib.hid (grown_set G9.out hb 2 (.int .u64 (wd z3)))
  have d0 : v9.cell? ⟨g, 2, none⟩ = some (.int .u64 (wd z2)) := b9.cell 2
  have f0 : v9.frozen? ⟨g, 2, none⟩ = false := b9.frozen 2
  clear c0 c1 c2 c3 hC hb b9 B9 G9
  go_wp2
  simp only [h9]
  have H9 := Lib.hid h9
  clear d0 f0 h9
  refine bodyPost_end (v := .tuple #[]) (results_none rfl _ _ _) rfl ⟨rfl, ?_, G10.out⟩
  have e : (rnd ⟨x0, y0, z0, u0⟩).cells = #[.int .u64 (wd x3), .int .u64 (wd y2), .int .u64 (wd z3), .int .u64 (wd u2)] := by
    simp only [rnd, St.cells, H0.out, H1.out, H2.out, H3.out, H4.out, H5.out, H6.out, H7.out, H8.out, H9.out]
  rw [e]
  exact B10.out

theorem grown_trans {w0 w1 w2 : World} {row : Option Nat} (h : w0.grownBy w1 row) (h2 : w1.grownBy w2 row) : w0.grownBy w2 row :=
  ⟨h2.os.trans h.os, h2.tape.trans h.tape, h2.output.trans h.output, Nat.le_trans h.size h2.size, fun k hk hne => (h2.block k (Nat.lt_of_lt_of_le hk h.size) hne).trans (h.block k hk hne)⟩
set_option maxHeartbeats 2000000 in
theorem word_any (g : Nat) (s : St) (m : BitVec 64) (w : World) (hB : Blk w g 43 s.cells) : Calls Tryd.prog 20 #[.pointer (some ⟨g, 0, none⟩), .int .u64 (wd m)] w (fun e w' => e = .returned (.tuple #[]) ∧ Blk w' g 43 (wordS s m).cells ∧ w.grownBy w' (some g)) := by
  have B0 := Lib.hid hB
  clear hB
  have c3 := cell_regrown (v := .int .u64 (wd s.d)) (B0.out.cell 3)
  go_enter Tryd.func20, Tryd.ntmps20
  go_wp2
  refine wp_region_quiet_tail_below 8 (by kernel_rfl) (by kernel_rfl) ?_
  simp only [List.take_succ_cons, List.take_zero, List.drop_succ_cons, List.drop_zero]
  repeat (first | go_big_quiet_skip | (go_big_quiet_want; go_big_quiet_op; first | go_big_quiet_on))
  refine wpQuiet_nil ?_
  intro v0 hC
  have hb := below_class hC
  have b0 := B0.out.below hb B0.out.lt
  have B1 : Hid (Blk (v0.setCell ⟨g, 3, none⟩ (.int .u64 (wd (s.d ^^^ m)))) g 43 (St.cells { s with d := s.d ^^^ m })) := Lib.hid (b0.set_ 3 _)
  have G1 := Lib.hid (grown_set (grownBy_refl w (some g)) hb 3 (.int .u64 (wd (s.d ^^^ m))))
  have d0 : v0.cell? ⟨g, 3, none⟩ = some (.int .u64 (wd s.d)) := b0.cell 3
  have f0 : v0.frozen? ⟨g, 3, none⟩ = false := b0.frozen 3
  clear c3 hC hb b0 B0
  go_wp2_with (first | (go_at_call 32; fail))
  refine (round_any g _ _ B1.out).mono ?_
  rintro e v1 ⟨rfl, hb1, hg1⟩
  have B2 := Lib.hid hb1
  have G2 := Lib.hid (grown_trans G1.out hg1)
  clear d0 f0 hb1 hg1 B1 G1
  go_wp2_with (first | (go_at_call 32; fail))
  refine (round_any g _ _ B2.out).mono ?_
  rintro e v2 ⟨rfl, hb2, hg2⟩
  have B3 := Lib.hid hb2
  have G3 := Lib.hid (grown_trans G2.out hg2)
  clear hb2 hg2 B2 G2
  obtain ⟨t, ht⟩ : ∃ t, rnd (rnd { s with d := s.d ^^^ m }) = t := ⟨_, rfl⟩
  rw [ht] at B3
  have HT := Lib.hid ht
  clear ht
  have c0 := cell_regrown (v := .int .u64 (wd t.a)) (B3.out.cell 0)
  go_wp2
  refine wp_region_quiet_tail_below 8 (by kernel_rfl) (by kernel_rfl) ?_
  simp only [List.take_succ_cons, List.take_zero, List.drop_succ_cons, List.drop_zero]
  repeat (first | go_big_quiet_skip | (go_big_quiet_want; go_big_quiet_op; first | go_big_quiet_on))
  refine wpQuiet_nil ?_
  intro v3 hC
  have hb := below_class hC
  have b0 := B3.out.below hb B3.out.lt
  have B4 : Hid (Blk (v3.setCell ⟨g, 0, none⟩ (.int .u64 (wd (t.a ^^^ m)))) g 43 (St.cells { t with a := t.a ^^^ m })) := Lib.hid (b0.set_ 0 _)
  have G4 := Lib.hid (grown_set G3.out hb 0 (.int .u64 (wd (t.a ^^^ m))))
  have d0 : v3.cell? ⟨g, 0, none⟩ = some (.int .u64 (wd t.a)) := b0.cell 0
  have f0 : v3.frozen? ⟨g, 0, none⟩ = false := b0.frozen 0
  clear c0 hC hb b0 B3
  go_wp2
  refine bodyPost_end (v := .tuple #[]) (results_none rfl _ _ _) rfl ⟨rfl, ?_, G4.out⟩
  have e : wordS s m = { t with a := t.a ^^^ m } := by rw [← HT.out]; rfl
  rw [e]
  exact B4.out
structure EndRel (w : World) (g : Nat) (s : St) (i : Value) (wr : World) : Prop where
  ex : ∃ k : Nat, k ≤ 4 ∧ i = .int .i64 k ∧ Blk wr g 43 (rndI k s).cells ∧ Below w.heap.size w wr
set_option maxHeartbeats 2000000 in
theorem end_any (s : St) (w : World) : Calls Tryd.prog 21 #[.agg s.cells] w (RetB (.int .u64 (wd (finS s))) w) := by
  have B0 := Lib.hid (Blk.new w 43 s.cells)
  have d0 : (w.alloc (.cells s.cells 43)).cell? ⟨w.heap.size, 2, none⟩ = some (.int .u64 (wd s.c)) := B0.out.cell 2
  have f0 : (w.alloc (.cells s.cells 43)).frozen? ⟨w.heap.size, 2, none⟩ = false := B0.out.frozen 2
  have B1 : Hid (Blk ((w.alloc (.cells s.cells 43)).setCell ⟨w.heap.size, 2, none⟩ (.int .u64 (wd (s.c ^^^ 255#64)))) w.heap.size 43 (St.cells { s with c := s.c ^^^ 255#64 })) := Lib.hid (B0.out.set_ 2 _)
  have bel1 := Lib.hid (((Below.refl w.heap.size w).alloc (Nat.le_refl _) (.cells s.cells 43)).setCell (p := ⟨w.heap.size, 2, none⟩) (Nat.le_refl _) (.int .u64 (wd (s.c ^^^ 255#64))))
  go_enter Tryd.func21, Tryd.ntmps21
  have e1 : (s.cells.setIfInBounds 2 (.int .u64 (wd (s.c ^^^ 255#64)))) = (St.cells { s with c := s.c ^^^ 255#64 }) := rfl
  have B2 := Lib.hid (Blk.new w 43 (St.cells { s with c := s.c ^^^ 255#64 }))
  have bel2 := Lib.hid ((Below.refl w.heap.size w).alloc (Nat.le_refl _) (.cells (St.cells { s with c := s.c ^^^ 255#64 }) 43))
  have hsz2 : w.heap.size < (w.alloc (.cells (St.cells { s with c := s.c ^^^ 255#64 }) 43)).heap.size := by simp
  clear B1 bel1 B0
  go_wp2
  clear d0 f0 e1
  obtain ⟨t, ht⟩ : ∃ t : St, { s with c := s.c ^^^ 255#64 } = t := ⟨_, rfl⟩
  have HT := Lib.hid ht
  rw [ht] at B2 bel2
  simp only [ht]
  clear ht
  go_loopw [7] (EndRel w w.heap.size t) (fun i _ => 4 - (intOf i).toNat)
  case atStart => exact ⟨⟨0, by omega, rfl, B2.out, bel2.out⟩⟩
  case round =>
    clear B2 bel2 hsz2
    obtain ⟨⟨k, hk, rfl, hB, hbel⟩⟩ := hrel
    by_cases hlt : k < 4
    · have hk4 : (k : Int) < 4 := by omega
      have BEL := Lib.hid hbel
      have HB := Lib.hid hB
      clear hbel hB
      go_wp2_with (first | (go_at_call 32; fail))
      refine (round_any _ _ _ HB.out).mono ?_
      rintro e v1 ⟨rfl, hb1, hg1⟩
      have B1 := Lib.hid hb1
      have BEL1 := Lib.hid (BEL.out.grown hg1 BEL.out.size fun j e => by injection e with e; omega)
      clear hb1 hg1 HB BEL
      go_wp2
      go_roundw
      case rel => exact ⟨⟨k + 1, by omega, by go_num, B1.out, BEL1.out⟩⟩
      case measure => simp [intOf]; omega
    · obtain rfl : k = 4 := by omega
      obtain ⟨q, hq⟩ : ∃ q, rndI 4 t = q := ⟨_, rfl⟩
      rw [hq] at hB
      have HQ := Lib.hid hq
      have c0 : wr.cell? ⟨w.heap.size, 0, none⟩ = some (.int .u64 (wd q.a)) := hB.cell 0
      have c1 : wr.cell? ⟨w.heap.size, 1, none⟩ = some (.int .u64 (wd q.b)) := hB.cell 1
      have c2 : wr.cell? ⟨w.heap.size, 2, none⟩ = some (.int .u64 (wd q.c)) := hB.cell 2
      have c3 : wr.cell? ⟨w.heap.size, 3, none⟩ = some (.int .u64 (wd q.d)) := hB.cell 3
      have BEL := Lib.hid hbel
      clear hq hB hk hlt hbel
      go_wp2
      go_ret
      refine ⟨?_, BEL.out⟩
      have e : finS s = q.a ^^^ q.b ^^^ q.c ^^^ q.d := by rw [← HQ.out, ← HT.out]; rfl
      rw [e]
      rfl
end Go.Proofs.YtclcmdpampimkaaDoor
