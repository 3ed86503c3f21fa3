/-
  lineagelaw19.SweepOnce.
-/
import Derived.Test.YtbidgpeeogoglaaAbove
import Derived.Test.YtbidgpeeogoglaaSwKn
import Derived.Test.YtbidgpeeogoglaaIntArg
namespace Go.Proofs.Ytbidgpeeogoglaa
set_option maxRecDepth 100000
open Go.RowKit Go.Sort
attribute [local go_sem] Oper.semAt_some

/-- The 32 marks. -/
def bools (dd : Nat → Bool) : Array Value := ((List.range 32).map fun i => Value.bool (dd i)).toArray
theorem bools_at (dd : Nat → Bool) {k : Nat} (hk : k < 32) : (bools dd)[k]? = some (.bool (dd k)) := by
  unfold bools
  rw [List.getElem?_toArray, List.getElem?_map, List.getElem?_range hk]; rfl
theorem bools_set (dd : Nat → Bool) (k : Nat) (b : Bool) : (bools dd).setIfInBounds k (.bool b) = bools (fun i => if i = k then b else dd i) := by
  apply Array.ext_getElem?
  intro i
  rw [Array.getElem?_setIfInBounds]
  unfold bools
  rw [List.size_toArray, List.length_map, List.length_range, List.getElem?_toArray, List.getElem?_toArray, List.getElem?_map, List.getElem?_map]
  by_cases hi : i < 32
  · rw [List.getElem?_range hi]
    split
    · rename_i h; subst h; rw [if_pos hi]; simp
    · rename_i h; simp [Ne.symm h]
  · rw [List.getElem?_eq_none (by simp; omega)]
    split
    · rename_i h; subst h; rw [if_neg hi]; rfl
    · rfl
theorem Cuts.nodead {ups : List Int} (x : Nat) : ¬ Dead ups [] x := fun ⟨c, hc, _⟩ => by cases hc
theorem cntB_zero (P : Nat → Bool) : cntB P 0 = 0 := rfl
theorem cntB_false : ∀ m, cntB (fun _ => false) m = 0
  | 0 => rfl
  | m + 1 => by rw [cntB_succ, cntB_false m]; rfl
theorem IntsAt.turned {x : Nat → Prop} {w w' : World} {A : Option Addr} {xs : List Int} (h : IntsAt w A xs) (hT : Tn x w w') (hx : ∀ a, A = some a → ¬ x a.block) : IntsAt w' A xs := h.kept hT.size fun a e hlt => hT.block a.block hlt (hx a e)
theorem GS.far {c : Nat} {w W W' : World} {q3 q g : Nat} {R : St} {l3 l : Int} {x : Nat → Prop} (t : GS c w q3 q g R l3 l W) (hT : Tn x W W') (hx : ¬ x q3 ∧ ¬ x q ∧ ¬ x g) : GS c W' q3 q g R l3 l W' := by
  obtain ⟨S, h1, h2⟩ := t
  exact ⟨S, ⟨⟨(hT.block q3 h1.gb.lt hx.1).trans h1.gb.eq⟩, ⟨(hT.block q h1.tb.lt hx.2.1).trans h1.tb.eq⟩, h1.ar.block (hT.block g h1.ar.lt hx.2.2), h1.ne, Tn.refl _ _⟩, h2⟩
theorem mark_skip {m i : Nat} {d2 : Nat → Bool} {P Q : Nat → Prop} (h : ∀ x, x < m → (d2 x = true ↔ P x ∨ (x < i ∧ Q x))) (hi : d2 i = true ∨ ¬ Q i) : ∀ x, x < m → (d2 x = true ↔ P x ∨ (x < i + 1 ∧ Q x)) := fun x hx => by
  by_cases e : x = i
  · subst e
    refine ⟨fun h1 => ((h x hx).1 h1).elim .inl fun h2 => .inr ⟨by omega, h2.2⟩, fun h1 => h1.elim (fun h2 => (h x hx).2 (.inl h2)) fun h2 => ?_⟩
    rcases hi with hi | hi
    · exact hi
    · exact absurd h2.2 hi
  · exact (h x hx).trans ⟨fun h1 => h1.elim .inl fun h2 => .inr ⟨by omega, h2.2⟩, fun h1 => h1.elim .inl fun h2 => .inr ⟨by omega, h2.2⟩⟩
theorem mark_set {m i : Nat} {d2 : Nat → Bool} {P Q : Nat → Prop} (h : ∀ x, x < m → (d2 x = true ↔ P x ∨ (x < i ∧ Q x))) (hi : Q i) : ∀ x, x < m → ((if x = i then true else d2 x) = true ↔ P x ∨ (x < i + 1 ∧ Q x)) := fun x hx => by
  by_cases e : x = i
  · subst e
    rw [if_pos rfl]
    exact ⟨fun _ => .inr ⟨by omega, hi⟩, fun _ => rfl⟩
  · rw [if_neg e]
    exact (h x hx).trans ⟨fun h1 => h1.elim .inl fun h2 => .inr ⟨by omega, h2.2⟩, fun h1 => h1.elim .inl fun h2 => .inr ⟨by omega, h2.2⟩⟩
theorem Marked.turned {B : Nat} {ds : List Nat} {W W' : World} {x : Nat → Prop} (h : Marked B ds W) (hT : Tn x W W') (hx : ∀ k, x k → k < B) : Marked B ds W' :=
  ⟨fun D hD => by
    obtain ⟨h1, h2⟩ := h.at_ D hD
    exact ⟨h1, (hT.block D (Array.getElem?_eq_some_iff.1 h2).1 (fun h3 => by have := hx D h3; omega)).trans h2⟩, h.nodup⟩
theorem Marked.far {B : Nat} {ds : List Nat} {W W' : World} {x : Nat → Prop} (h : Marked B ds W) (hT : Tn x W W') (hx : ∀ D ∈ ds, ¬ x D) : Marked B ds W' :=
  ⟨fun D hD => by
    obtain ⟨h1, h2⟩ := h.at_ D hD
    exact ⟨h1, (hT.block D (Array.getElem?_eq_some_iff.1 h2).1 (hx D hD)).trans h2⟩, h.nodup⟩
theorem GS.get {c : Nat} {w W : World} {q3 q g : Nat} {R : St} {l3 l : Int} (t : GS c w q3 q g R l3 l W) (j : Nat) : Calls Try.prog 23 #[.pointer (some ⟨g, 0, none⟩), .int .i64 j] W (RetB (.tuple #[.agg (R.slotAt j).cells, errAt j]) W) := by
  obtain ⟨S, h1, h2, _⟩ := t
  rw [← slotAt_congr h2.slots]
  exact get_gen j g W h1.ar
/-- Where the freeing stands: so many units were done. -/
structure InU (w : World) (R0 : St) (l30 l : Int) (K : Int → List Nat) (O : List Nat) (dd : Nat → Bool) (q3 q g Bd : Nat) (Ao : Option Addr) (B c i : Nat) (R : St) (l3 : Int) (ds : List Nat) (W : World) : Prop where
  gs : GS c W q3 q g R l3 l W
  un : Un R0 l30 K i R l l3
  bd : Blk W Bd 44 (bools fun x => dd x && decide (x ∉ O.take i))
  ord : IntsAt W Ao (natInts O)
  bel : Below w.heap.size w W
  sz : B ≤ W.heap.size
  mkd : Marked B ds W
/-- A frame: these slots, these marks. -/
def Fr (t : Array Value) (ds : List Nat) (z : Nat → Value) (a' : Act) : Prop := (∀ i, z i = a'.tmps.getD i undef) ∧ a'.tmps = t ∧ a'.defers = marks ds
def NoM (ds : List Nat) : Prop := ds = []
/-- Where the cutting stands: these were cut; the marks are dd. -/
structure InC (w : World) (ups : List Int) (m : Nat) (F0 : List Nat) (q3 q g Bd : Nat) (Av : Option Addr) (c : Nat) (C : List Nat) (dd : Nat → Bool) (R : St) (l3 l : Int) (W : World) : Prop where
  gs : GS c W q3 q g R l3 l W
  bd : Blk W Bd 44 (bools dd)
  up : IntsAt W Av ups
  bel : Below w.heap.size w W
  cuts : Cuts ups F0 R l l3 C
  dead : ∀ x, x < m → (dd x = true ↔ Dead ups C x)
  none : ∀ x, m ≤ x → dd x = false
set_option maxHeartbeats 64000000 in
theorem sweepOnce_any (ps : List Int) (N m : Nat) (hlen : ps.length = N) (hN : N ≤ maxLen) (hm : m = min N 32) (A : Option Addr) (cA : Nat) (cs : List Int) (M : Nat) (hlen2 : cs.length = M) (hM : M ≤ maxLen) (A2 : Option Addr) (cA2 : Nat) (w : World) (hin : IntsAt w A ps) (hin2 : IntsAt w A2 cs) :
    Calls Try.prog 4 #[.slice A N cA, .slice A2 M cA2] w (RetB (.bool true) w) := by
  obtain ⟨ii, iz, hi0, hz0, hz1, hz2, hz3⟩ := intInfo
  have hN1 : (N : Int) ≤ 9223372036854775807 := by unfold maxLen at hN; omega
  have hM1 : (M : Int) ≤ 9223372036854775807 := by unfold maxLen at hM; omega
  have hm32 : m ≤ 32 := by omega
  have hmN : m ≤ N := by omega
  have hneq := nil_neq
  have hneql := nil_eql
  have HLEN := Lib.hid hlen
  have HLEN2 := Lib.hid hlen2
  have HUPS := Lib.hid (hungR_gr ps m hm32)
  have HUL := Lib.hid (upsOf_len ps m)
  have HH := Lib.hid (fun w (h : IntsAt w A ps) => hung_any ps N m hlen hN hm (fun k hk => hungR_ok ps k (by omega)) A cA w h)
  have HIN := Lib.hid hin
  have HIN2 := Lib.hid hin2
  clear hin hin2 hlen hlen2 hN hM hm
  refine calls_marks Try.func4 rfl ?_
  simp only [Try.ntmps4, List.size_toArray, List.length_cons, List.length_nil, Nat.reduceAdd, Nat.reduceSub, Array.replicate_succ, Array.replicate_zero, List.push_toArray, List.append_toArray, List.nil_append, List.cons_append]
  go_wp2_with (go_at_call 15; fail)
  refine (works19_any w).mono ?_
  rintro e w1 ⟨rfl, hb1⟩
  have HIN' := Lib.hid (HIN.out.below hb1 (Nat.le_refl _))
  have HB1 := Lib.hid hb1
  have hs1 := hb1.size
  clear hb1 HIN
  go_wp2_with (go_at_call 16; fail)
  refine (HH.out w1 HIN'.out).mono ?_
  rintro e u0 ⟨g, q, x, n0, rfl, hT, hrow, hq, hb⟩
  obtain ⟨Av, cv, rfl⟩ := owns_slice hrow
  have hs2 := hb.size
  have T0 := Lib.hid hT
  have HROW := Lib.hid hrow
  have HB0 := Lib.hid (HB1.out.trans (hb.mono hs1))
  have HQG := Lib.hid (show w.heap.size ≤ g ∧ w.heap.size ≤ q ∧ q < n0 ∧ g < n0 by omega)
  clear hT hrow hq hb HB1 HH HIN'
  go_wp2_with (go_at_call 17; fail)
  refine (swNew_any g u0).mono ?_
  rintro e u1 ⟨rfl, hB2, hb2⟩
  have G1 := Lib.hid (T0.out.gs hB2 hb2)
  have B1 := Lib.hid (HB0.out.trans (hb2.mono HB0.out.size))
  have R1 := Lib.hid (HROW.out.kept (grownBy_below hb2 none) (by cases Av <;> simp [Value.ownBlock]))
  obtain ⟨q3, hq3⟩ : ∃ q3, u0.heap.size = q3 := ⟨_, rfl⟩
  have HAV := Lib.hid (show ∀ a, Av = some a → n0 ≤ a.block ∧ a.block < q3 from fun a e => by have h7 := HROW.out.lt a.block (by rw [e]; rfl); omega)
  have hq3l := hB2.lt
  have HQ3 := Lib.hid (show w.heap.size ≤ q3 ∧ w.heap.size ≤ q ∧ w.heap.size ≤ g ∧ q < n0 ∧ g < n0 ∧ q3 < u1.heap.size by have := HQG.out; have := HB0.out.size; omega)
  rw [hq3] at G1 ⊢
  clear hB2 hb2 T0 HB0 HROW hq3 hq3l
  go_wp2
  obtain ⟨u2, hu2⟩ : ∃ u2, u1.alloc (.cells #[.bool false, .bool false, .bool false, .bool false, .bool false, .bool false, .bool false, .bool false, .bool false, .bool false, .bool false, .bool false, .bool false, .bool false, .bool false, .bool false, .bool false, .bool false, .bool false, .bool false, .bool false, .bool false, .bool false, .bool false, .bool false, .bool false, .bool false, .bool false, .bool false, .bool false, .bool false, .bool false] 44) = u2 := ⟨_, rfl⟩
  obtain ⟨Bd, hBd⟩ : ∃ Bd, u1.heap.size = Bd := ⟨_, rfl⟩
  have hb3 : Below u1.heap.size u1 u2 := by rw [← hu2]; exact (Below.refl _ _).alloc (Nat.le_refl _) _
  have hs3 := hb3.size
  have BD0 := Lib.hid (show Blk u2 Bd 44 (bools fun _ => false) by
    rw [← hu2, ← hBd]
    exact (Blk.new u1 44 #[.bool false, .bool false, .bool false, .bool false, .bool false, .bool false, .bool false, .bool false, .bool false, .bool false, .bool false, .bool false, .bool false, .bool false, .bool false, .bool false, .bool false, .bool false, .bool false, .bool false, .bool false, .bool false, .bool false, .bool false, .bool false, .bool false, .bool false, .bool false, .bool false, .bool false, .bool false, .bool false]))
  rw [hu2, hBd]
  have HBD := Lib.hid (show q3 < Bd ∧ q < Bd ∧ g < Bd ∧ w.heap.size ≤ Bd by
    have := HQ3.out; have := G1.out.lts; have := B1.out.size; omega)
  have G2 := Lib.hid (G1.out.read hb3).here
  have B2 := Lib.hid (B1.out.trans (hb3.mono B1.out.size))
  have HI2 := Lib.hid (show IntsAt u2 Av (upsOf ps m) by
    obtain ⟨A', c', e, h⟩ := owns_intsAt R1.out
    cases e
    exact h.below hb3 (Nat.le_refl _))
  have CU0 := Lib.hid (Cuts.start (ups := upsOf ps m) (R := (hungR ps m).1) (l := (hungR ps m).2) (by have h := HUPS.out.1; rwa [HUL.out]))
  have HG0 := Lib.hid HUPS.out.1.ok
  have HFR := Lib.hid HUPS.out.2
  have HAB := Lib.hid (show ∀ a, Av = some a → a.block ≠ q3 ∧ a.block ≠ q ∧ a.block ≠ g ∧ a.block ≠ Bd from fun a e => by
    have := HAV.out a e; have := HQ3.out; have := HBD.out; omega)
  clear hu2 hBd hb3 G1 B1 R1 HAV HUPS
  obtain ⟨F0, hF0⟩ : ∃ F0, (hungR ps m).1.free = F0 := ⟨_, rfl⟩
  rw [hF0] at CU0 HFR
  clear hF0
  generalize hups : upsOf ps m = ups at *
  clear hups
  have hc0 := cntB_false m
  obtain ⟨Rel1, hRel1⟩ : ∃ Rel1 : Act → World → Prop, Rel1 = (fun a' W => ∃ (k : Nat) (C : List Nat) (dd : Nat → Bool) (R : St) (l3 l : Int) (ds : List Nat) (z : Nat → Value), Fr #[z 0, .slice A2 M cA2, z 2, z 3, z 4, .pointer (some ⟨g, 0, none⟩), .pointer (some ⟨q, 0, none⟩), .slice Av m cv, z 8, .pointer (some ⟨q3, 0, none⟩), .pointer (some ⟨Bd, 0, none⟩), .int .i64 (cntB dd m), .int .i64 k, z 13, z 14, z 15, z 16, z 17, z 18, z 19, z 20, z 21, z 22, z 23, z 24, z 25, z 26, z 27, z 28, z 29, z 30, z 31, z 32, z 33, z 34, z 35, z 36, z 37, z 38, z 39, z 40, z 41, z 42, z 43, z 44, z 45, z 46, z 47, z 48, z 49, z 50, z 51, z 52, z 53, z 54, z 55, z 56, z 57, z 58, z 59, z 60, z 61, z 62, z 63, z 64, z 65, z 66, z 67, z 68, z 69, z 70, z 71, z 72, z 73, z 74, z 75, z 76, z 77, z 78, z 79, z 80, z 81, z 82, z 83, z 84, z 85, z 86, z 87, z 88, z 89, z 90, z 91, z 92, z 93, z 94, z 95, z 96, z 97, z 98, z 99, z 100, z 101, z 102, z 103, z 104, z 105, z 106, z 107, z 108, z 109, z 110, z 111, z 112, z 113, z 114, z 115, z 116, z 117, z 118, z 119, z 120, z 121, z 122, z 123, z 124, z 125, z 126, z 127, z 128, z 129, z 130, z 131, z 132, z 133, z 134, z 135, z 136, z 137, z 138, z 139, z 140, z 141, z 142, z 143, z 144, z 145, z 146, z 147, z 148, z 149, z 150, z 151, z 152, z 153, z 154, z 155, z 156, z 157, z 158, z 159, z 160, z 161, z 162, z 163, z 164, z 165, z 166, z 167, z 168, z 169, z 170, z 171, z 172, z 173, z 174, z 175, z 176, z 177, z 178, z 179, z 180, z 181, z 182, z 183, z 184, z 185, z 186, z 187, z 188, z 189, z 190, z 191, z 192, z 193, z 194, z 195, z 196, z 197, z 198, z 199, z 200, z 201, z 202, z 203, z 204, z 205, z 206, z 207, z 208, z 209, z 210, z 211, z 212, z 213] ds z a' ∧ NoM ds ∧ k ≤ M ∧ k ≤ 40 ∧ InC w ups m F0 q3 q g Bd Av (200 + 10 * k) C dd R l3 l W) := ⟨_, rfl⟩
  have HR1 := Lib.hid hRel1
  clear hRel1
  refine wp_loop Rel1 (fun a' _ => 40 - (intOf (a'.tmps.getD 12 undef)).toNat) ?_ ?_
  · rw [HR1.out]
    refine ⟨0, [], fun _ => false, _, _, _, [], fun i => Array.getD _ i undef, ⟨fun _ => rfl, by rw [hc0]; kernel_rfl, rfl⟩, rfl, Nat.zero_le _, by omega, G2.out.mono (by omega), BD0.out, HI2.out, B2.out, CU0.out, fun x hx => ?_, fun x hx => rfl⟩
    exact ⟨fun h => (by cases h), fun h => absurd h (Cuts.nodead x)⟩
  clear hc0 G2 BD0 HI2 B2 CU0
  rintro ⟨tm, df⟩ W hRR
  rw [HR1.out] at hRR
  obtain ⟨k, C, dd, R, l3, l, ds, z, ⟨hz, hF, hD⟩, HDS, hkM, hk40, hI⟩ := hRR
  dsimp only at hz hF hD
  clear hz
  subst hF hD
  have IC := Lib.hid hI
  clear hI
  obtain ⟨go, hgo⟩ : ∃ b, decide (k < M ∧ k < 40 ∧ 0 < m) = b := ⟨_, rfl⟩
  have HGO := Lib.hid hgo
  clear hgo
  go_upto_region 12 with fail
  obtain ⟨RelC, hRelC⟩ : ∃ RelC : Act → World → Prop, RelC = (fun a' W' => ∃ (z : Nat → Value), Fr #[z 0, .slice A2 M cA2, z 2, z 3, z 4, .pointer (some ⟨g, 0, none⟩), .pointer (some ⟨q, 0, none⟩), .slice Av m cv, z 8, .pointer (some ⟨q3, 0, none⟩), .pointer (some ⟨Bd, 0, none⟩), .int .i64 (cntB dd m), .int .i64 k, z 13, z 14, z 15, z 16, z 17, z 18, z 19, z 20, z 21, z 22, z 23, z 24, z 25, z 26, z 27, z 28, z 29, z 30, z 31, z 32, z 33, z 34, z 35, z 36, z 37, z 38, z 39, z 40, z 41, z 42, z 43, z 44, z 45, z 46, z 47, z 48, z 49, z 50, z 51, z 52, z 53, z 54, z 55, .bool go, z 57, z 58, z 59, z 60, z 61, z 62, z 63, z 64, z 65, z 66, z 67, z 68, z 69, z 70, z 71, z 72, z 73, z 74, z 75, z 76, z 77, z 78, z 79, z 80, z 81, z 82, z 83, z 84, z 85, z 86, z 87, z 88, z 89, z 90, z 91, z 92, z 93, z 94, z 95, z 96, z 97, z 98, z 99, z 100, z 101, z 102, z 103, z 104, z 105, z 106, z 107, z 108, z 109, z 110, z 111, z 112, z 113, z 114, z 115, z 116, z 117, z 118, z 119, z 120, z 121, z 122, z 123, z 124, z 125, z 126, z 127, z 128, z 129, z 130, z 131, z 132, z 133, z 134, z 135, z 136, z 137, z 138, z 139, z 140, z 141, z 142, z 143, z 144, z 145, z 146, z 147, z 148, z 149, z 150, z 151, z 152, z 153, z 154, z 155, z 156, z 157, z 158, z 159, z 160, z 161, z 162, z 163, z 164, z 165, z 166, z 167, z 168, z 169, z 170, z 171, z 172, z 173, z 174, z 175, z 176, z 177, z 178, z 179, z 180, z 181, z 182, z 183, z 184, z 185, z 186, z 187, z 188, z 189, z 190, z 191, z 192, z 193, z 194, z 195, z 196, z 197, z 198, z 199, z 200, z 201, z 202, z 203, z 204, z 205, z 206, z 207, z 208, z 209, z 210, z 211, z 212, z 213] ds z a' ∧ W = W') := ⟨_, rfl⟩
  have HRC := Lib.hid hRelC
  clear hRelC
  refine wp_region_cut RelC ?_ ?_
  · by_cases h1 : k < M
    · have h1' : (k : Int) < (M : Int) := by omega
      by_cases h2 : k < 40
      · have h2' : (k : Int) < 40 := by omega
        by_cases h3 : 0 < m
        · have h3' : (0 : Int) < (m : Int) := by omega
          go_wp2
          rw [HRC.out]; exact ⟨fun i => Array.getD _ i undef, ⟨fun _ => rfl, by rw [← HGO.out, decide_eq_true ⟨h1, h2, h3⟩]; kernel_rfl, rfl⟩, rfl⟩
        · obtain rfl : m = 0 := by omega
          go_wp2
          rw [HRC.out]; exact ⟨fun i => Array.getD _ i undef, ⟨fun _ => rfl, by rw [← HGO.out, decide_eq_false (fun h => h3 h.2.2)]; kernel_rfl, rfl⟩, rfl⟩
      · have h2' : ¬ ((k : Int) < 40) := by omega
        go_wp2
        rw [HRC.out]; exact ⟨fun i => Array.getD _ i undef, ⟨fun _ => rfl, by rw [← HGO.out, decide_eq_false (fun h => h2 h.2.1)]; kernel_rfl, rfl⟩, rfl⟩
    · have h1' : ¬ ((k : Int) < (M : Int)) := by omega
      go_wp2
      rw [HRC.out]; exact ⟨fun i => Array.getD _ i undef, ⟨fun _ => rfl, by rw [← HGO.out, decide_eq_false (fun h => h1 h.1)]; kernel_rfl, rfl⟩, rfl⟩
  rintro ⟨tm, df⟩ W' hRR
  rw [HRC.out] at hRR
  obtain ⟨z, ⟨hz, hF, hD⟩, rfl⟩ := hRR
  dsimp only at hz hF hD
  clear hz
  subst hF hD
  cases go
  · have HMEM := Lib.hid (fun x => IC.out.cuts.mem HG0.out x)
    have HND := Lib.hid (show (R.swAll l3).Nodup from (swIt_row R l3 32).1)
    have HN32 := Lib.hid (fun x (hx : x ∈ R.swAll l3) => show x < m by have h := ((HMEM.out x).1 hx).1; rwa [HUL.out] at h)
    have HON := Lib.hid (show (R.swAll l3).length = cntB dd m from cntB_nodup HND.out fun x => by
      rw [HMEM.out x, HUL.out]
      exact ⟨fun h => ⟨h.1, (IC.out.dead x h.1).2 h.2⟩, fun h => ⟨h.1, (IC.out.dead x h.1).1 h.2⟩⟩)
    have HDD := Lib.hid (fun x (hx : x ∈ R.swAll l3) => show dd x = true from (IC.out.dead x (HN32.out x hx)).2 ((HMEM.out x).1 hx).2)
    have HUN := Lib.hid (Un.start IC.out.cuts.fo (l30 := l3) (by rw [IC.out.cuts.l3]; rfl))
    have HSTEP := Lib.hid (fun i f (hf : (R.swAll l3)[i]? = some f) Ri l3i (H : Un R l3 (KC ups C) i Ri l l3i) => Un.step IC.out.cuts.fo (l30 := l3) (by rw [IC.out.cuts.l3]; rfl) (fun x hx => by
      rw [IC.out.cuts.free, HFR.out, List.mem_range'_1]
      have := HN32.out x hx
      omega) hf H)
    have HDONE := Lib.hid (fun Ri l3i (H : Un R l3 (KC ups C) (R.swAll l3).length Ri l l3i) => Un.done IC.out.cuts.fo (l30 := l3) (by rw [IC.out.cuts.l3]; rfl) H)
    have HRF := Lib.hid (show R.free.length = 32 - m by rw [IC.out.cuts.free, HFR.out, List.length_range'])
    obtain ⟨n, hn⟩ : ∃ n, cntB dd m = n := ⟨_, rfl⟩
    have hnm : n ≤ m := by rw [← hn]; exact cntB_le _ _
    rw [hn] at HON ⊢
    clear hn
    obtain ⟨O, hO⟩ : ∃ O, R.swAll l3 = O := ⟨_, rfl⟩
    have HAL := Lib.hid (IC.out.gs.all)
    rw [hO] at HON HND HN32 HDD HSTEP HDONE HAL HMEM
    go_wp2_with (go_at_call 20; fail)
    refine HAL.out.mono ?_
    rintro e u5 ⟨vO, rfl, hO5, hb5⟩
    rw [natInts_len, HON.out] at hO5
    obtain ⟨Ao, cO, rfl, hIO⟩ := owns_intsAt hO5
    have HAO := Lib.hid (show ∀ a, Ao = some a → W.heap.size ≤ a.block from fun a e => (hO5.lt a.block (by rw [e]; rfl)).1)
    have IU0 := Lib.hid (show InU w R l3 l (KC ups C) O dd q3 q g Bd Ao u5.heap.size 600 0 R l3 [] u5 from
      ⟨(IC.out.gs.read hb5).here.mono (by omega), HUN.out, ⟨(hb5.block Bd IC.out.bd.lt).trans (IC.out.bd.eq.trans (by rw [show (fun x => dd x && decide (x ∉ O.take 0)) = dd from funext fun x => by simp]))⟩, hIO, IC.out.bel.trans (hb5.mono IC.out.bel.size), Nat.le_refl _, Marked.nil _ _⟩)
    have HBW := Lib.hid (show q3 < W.heap.size ∧ q < W.heap.size ∧ g < W.heap.size ∧ Bd < W.heap.size ∧ W.heap.size ≤ u5.heap.size from ⟨IC.out.gs.lts.1, IC.out.gs.lts.2.1, IC.out.gs.lts.2.2.1, IC.out.bd.lt, hb5.size⟩)
    have hwr : IntKind.i64.wrap (32 - (m : Int)) = 32 - (m : Int) := IntWalk.i64_in _ (by omega)
    clear hO5 hIO hb5 HAL HUN
    go_wp2
    obtain ⟨Rel2, hRel2⟩ : ∃ Rel2 : Act → World → Prop, Rel2 = (fun a' W => ∃ (i : Nat) (Ri : St) (l3i : Int) (ds : List Nat) (z : Nat → Value), Fr #[z 0, z 1, z 2, z 3, z 4, .pointer (some ⟨g, 0, none⟩), z 6, .slice Av m cv, z 8, .pointer (some ⟨q3, 0, none⟩), .pointer (some ⟨Bd, 0, none⟩), .int .i64 n, z 12, z 13, z 14, .slice Ao n cO, .int .i64 (32 - (m : Int)), .int .i64 i, z 18, z 19, z 20, z 21, z 22, z 23, z 24, z 25, z 26, z 27, z 28, z 29, z 30, z 31, z 32, z 33, z 34, z 35, z 36, z 37, z 38, z 39, z 40, z 41, z 42, z 43, z 44, z 45, z 46, z 47, z 48, z 49, z 50, z 51, z 52, z 53, z 54, z 55, z 56, z 57, z 58, z 59, z 60, z 61, z 62, z 63, z 64, z 65, z 66, z 67, z 68, z 69, z 70, z 71, z 72, z 73, z 74, z 75, z 76, z 77, z 78, z 79, z 80, z 81, z 82, z 83, z 84, z 85, z 86, z 87, z 88, z 89, z 90, z 91, z 92, z 93, z 94, z 95, z 96, z 97, z 98, z 99, z 100, z 101, z 102, z 103, z 104, z 105, z 106, z 107, z 108, z 109, z 110, z 111, z 112, z 113, z 114, z 115, z 116, z 117, z 118, z 119, z 120, z 121, z 122, z 123, z 124, z 125, z 126, z 127, z 128, z 129, z 130, z 131, z 132, z 133, z 134, z 135, z 136, z 137, z 138, z 139, z 140, z 141, z 142, z 143, z 144, z 145, z 146, z 147, z 148, z 149, z 150, z 151, z 152, z 153, z 154, z 155, z 156, z 157, z 158, z 159, z 160, z 161, z 162, z 163, z 164, z 165, z 166, z 167, z 168, z 169, z 170, z 171, z 172, z 173, z 174, z 175, z 176, z 177, z 178, z 179, z 180, z 181, z 182, z 183, z 184, z 185, z 186, z 187, z 188, z 189, z 190, z 191, z 192, z 193, z 194, z 195, z 196, z 197, z 198, z 199, z 200, z 201, z 202, z 203, z 204, z 205, z 206, z 207, z 208, z 209, z 210, z 211, z 212, z 213] ds z a' ∧ i ≤ n ∧ InU w R l3 l (KC ups C) O dd q3 q g Bd Ao u5.heap.size (600 + 8 * i) i Ri l3i ds W) := ⟨_, rfl⟩
    have HR2 := Lib.hid hRel2
    clear hRel2
    refine wp_loop Rel2 (fun a' _ => n - (intOf (a'.tmps.getD 17 undef)).toNat) ?_ ?_
    · rw [HR2.out]
      exact ⟨0, R, l3, [], fun i => Array.getD _ i undef, ⟨fun _ => rfl, by kernel_rfl, by rw [HDS]⟩, Nat.zero_le _, IU0.out⟩
    rintro ⟨tm, df⟩ W1 hRR
    rw [HR2.out] at hRR
    obtain ⟨i, Ri, l3i, es, y, ⟨hz, hF, hD⟩, hi, hIU⟩ := hRR
    dsimp only at hz hF hD
    clear hz
    subst hF hD
    have IU := Lib.hid hIU
    clear hIU IU0
    by_cases hin : i < n
    · have hini : (i : Int) < (n : Int) := by omega
      have hi0' : (0 : Int) ≤ (i : Int) := by omega
      obtain ⟨f, hf⟩ : ∃ f, O[i]? = some f := ⟨_, List.getElem?_eq_getElem (by rw [HON.out]; exact hin)⟩
      have hfm := List.mem_of_getElem? hf
      have hfl := HN32.out f hfm
      have hf32 : f < 32 := by omega
      have hf32i : (f : Int) < 32 := by omega
      have hf0 : (0 : Int) ≤ (f : Int) := by omega
      obtain ⟨R', l3', hgu, hUn, hus⟩ := HSTEP.out i f hf Ri l3i IU.out.un
      have HGU := Lib.hid hgu
      have HUN2 := Lib.hid hUn
      have HUS := Lib.hid hus
      have HF := Lib.hid hf
      have hdv : (dd f && decide (f ∉ O.take i)) = true := by rw [HDD.out f hfm, decide_eq_true (nodup_at HND.out hf)]; rfl
      have HDV := Lib.hid hdv
      clear hgu hUn hus hf hfm hdv
      go_wp2_with (go_at_call 21; fail)
      refine (IU.out.gs.unit HGU.out (by omega)).mono ?_
      rintro e V1 ⟨rfl, t1⟩
      have GV1 := Lib.hid t1.here
      have hbv := HBW.out
      have BV1 := Lib.hid (show Blk V1 Bd 44 (bools fun x => dd x && decide (x ∉ O.take i)) from ⟨(t1.tn.block Bd IU.out.bd.lt (by have := HBD.out; omega)).trans IU.out.bd.eq⟩)
      have IO1 := Lib.hid (IU.out.ord.turned t1.tn (fun a e => by have := HAO.out a e; omega))
      have YV1 := Lib.hid (t1.below IU.out.bel (by have := HQ3.out; omega) (Nat.le_refl _))
      have MV1 := Lib.hid (IU.out.mkd.turned t1.tn (fun k hk => by omega))
      have hsv1 := t1.tn.size
      have hszu := IU.out.sz
      obtain ⟨ab, ao, rfl, hal, hac⟩ := IO1.out (by rw [natInts_len, HON.out]; omega)
      have hco := hac i (f : Int) (by unfold natInts; rw [List.getElem?_map, HF.out]; rfl)
      have hcd := (BV1.out.cell f).trans (bools_at _ hf32)
      rw [HDV.out] at hcd
      have hfd := BV1.out.frozen f
      clear t1 hac
      obtain ⟨V3, hV3⟩ : ∃ V3, (V1.setCell ⟨Bd, f, none⟩ (.bool false)).alloc (.cells #[.int .i64 0] 3) = V3 := ⟨_, rfl⟩
      have TV := Lib.hid (show Tn (fun k => k = Bd) V1 V3 by rw [← hV3]; exact (Tn.ofGrown (x := fun k => k = Bd) (grownBy_set V1 Bd f (.bool false)) rfl).call ((Below.refl _ _).alloc (Nat.le_refl _) _))
      have hVs : V3.heap.size ≤ V1.heap.size + 1 ∧ V1.heap.size + 1 ≤ V3.heap.size := by rw [← hV3]; simp
      have BC3 := Lib.hid (show Boxed V3 V1.heap.size 3 (.int .i64 0) by
        rw [← hV3]
        have h := Boxed.new (V1.setCell ⟨Bd, f, none⟩ (.bool false)) 3 (.int .i64 0)
        simpa using h)
      have htk : O.take (i + 1) = O.take i ++ [f] := by rw [List.take_add_one, HF.out]; rfl
      have BV3 := Lib.hid (show Blk V3 Bd 44 (bools fun x => dd x && decide (x ∉ O.take (i + 1))) by
        rw [← hV3]
        have h := (BV1.out.set_ f (.bool false)).alloc (.cells #[.int .i64 0] 3)
        rw [bools_set] at h
        rw [show (fun x => dd x && decide (x ∉ O.take (i + 1))) = (fun x => if x = f then false else dd x && decide (x ∉ O.take i)) from funext fun x => by
          rw [htk]
          by_cases e : x = f
          · subst e; simp
          · simp [e]]
        exact h)
      have GV3 := Lib.hid (GV1.out.far TV.out (by have := HBD.out; omega))
      have IO3 := Lib.hid (IO1.out.turned TV.out (fun a e => by have := HAO.out a e; omega))
      have YV3 := Lib.hid (YV1.out.trans (TV.out.below (fun j hj => by have := HBD.out; omega) YV1.out.size))
      have MV3 := Lib.hid (MV1.out.turned TV.out (fun k hk => by omega))
      have HV3 := Lib.hid hV3
      have hwv1 : w.heap.size ≤ V1.heap.size := YV1.out.size
      clear hV3 htk GV1 BV1 IO1 YV1 MV1
      go_wp2_with (go_at_call 22; fail)
      rw [HV3.out]
      clear hco hcd hfd
      refine GV3.out.frees.mono ?_
      rintro e V4 ⟨BF, rfl, hsq, hb4⟩
      have hs4 := hb4.size
      have HSQ := Lib.hid (hsq V1.heap.size)
      have BC4 := Lib.hid (show Boxed V4 V1.heap.size 3 (.int .i64 (0 : Nat)) from (hb4.block _ BC3.out.lt).trans BC3.out)
      have GV4 := Lib.hid (GV3.out.read hb4).here
      have BV4 := Lib.hid (show Blk V4 Bd 44 (bools fun x => dd x && decide (x ∉ O.take (i + 1))) from BV3.out.below hb4 BV3.out.lt)
      have IO4 := Lib.hid (IO3.out.below hb4 (Nat.le_refl _))
      have YV4 := Lib.hid (YV3.out.trans (hb4.mono YV3.out.size))
      have MV4 := Lib.hid (MV3.out.turned (Tn.ofBelow (fun _ => False) hb4) (fun k hk => hk.elim))
      have hfl32 : R'.free.length = 32 - m + (i + 1) := by rw [HUN2.out.free, HRF.out]
      have HFL := Lib.hid hfl32
      have hfle : R'.free.length ≤ 32 := by omega
      have HAL2 := Lib.hid (show ∀ a, some (⟨ab, ao, none⟩ : Addr) = some a → a.block ≠ V1.heap.size from fun a e => by cases e; show ab ≠ V1.heap.size; omega)
      have HMK := Lib.hid (show ∀ D ∈ es, D < V1.heap.size from fun D hD => by
        have h := (Array.getElem?_eq_some_iff.1 (IU.out.mkd.at_ D hD).2).1
        omega)
      clear hsq hb4 GV3 BV3 IO3 YV3 MV3 BC3 hfl32
      go_wp2
      refine wp_seqs rfl (enters_of Try.func41 (by kernel_rfl) rfl) HSQ.out (by omega) (fun k hk => by omega) (Below.refl _ _) (fun _ => rfl)
        (fun (pre : List Nat) W' => V4.grownBy W' (some V1.heap.size) ∧ Boxed W' V1.heap.size 3 (.int .i64 pre.length))
        (fun _ _ _ => False)
        ((Zone.grownBy (by omega)).and (Zone.box (.inl (by omega)) (fun (pre : List Nat) => .int .i64 pre.length)))
        (fun cd => Zone.none)
        ⟨turned_self _ _, BC4.out⟩ ?roundF ?doneF ?stopF
      case stopF => rintro cd pre W' _ h _; exact h.elim
      case roundF =>
        intro l2 pre x V0 hpre
        simp only [natV]
        gi_wp2
        refine ⟨by trivial, fun V5 hsz5 ⟨hG, hB⟩ => ?_⟩
        have hc5 := hB.cell
        have hf5 := hB.frozen
        have hpl := hpre.length_le
        rw [List.length_append, List.length_singleton] at hpl
        have hpl2 : (pre.length : Int) ≤ 32 := by omega
        have hpl0 : (0 : Int) ≤ (pre.length : Int) := by omega
        have HG5 := Lib.hid hG
        have HB5 := Lib.hid hB
        clear hG hB hpl hpre
        gi_wp2
        refine ⟨(Kept.refl _).set (by omega) (by rintro ⟨h1, h2⟩; omega) (.inl (by omega)) _, grownBy_trans HG5.out (grownBy_set _ _ 0 _), ?_⟩
        rw [List.length_append, List.length_singleton]
        exact HB5.out.set _
      case doneF =>
        rintro W5 ⟨hG5, hB5⟩ hK5
        dsimp only
        rw [marks_cons]
        have T5 := Lib.hid (show Tn (fun k => k = V1.heap.size) V4 W5 from Tn.ofGrown hG5 rfl)
        have hs5 := hG5.size
        have G5 := Lib.hid (GV4.out.far T5.out (by omega))
        have B5 := Lib.hid (show Blk W5 Bd 44 (bools fun x => dd x && decide (x ∉ O.take (i + 1))) from ⟨(T5.out.block Bd BV4.out.lt (by omega)).trans BV4.out.eq⟩)
        have IO5 := Lib.hid (IO4.out.turned T5.out (fun a e => by have := HAL2.out a e; omega))
        have Y5 := Lib.hid (YV4.out.trans (T5.out.below (fun j hj => by omega) YV4.out.size))
        have M5 := Lib.hid (show Marked u5.heap.size (V4.heap.size :: es) W5 from by
          have h := MV4.out.far T5.out (fun D hD => by have := HMK.out D hD; omega)
          refine ⟨fun D hD => ?_, List.nodup_cons.2 ⟨fun hD => ?_, h.nodup⟩⟩
          · rcases List.mem_cons.1 hD with rfl | hD
            · exact ⟨by omega, hK5⟩
            · exact h.at_ D hD
          · have := HMK.out _ hD
            omega)
        have BC5 := Lib.hid hB5
        have HG := Lib.hid (fun (W : World) (t : GS (600 + 8 * i + 8) W q3 q g R' l3' l W) => t.get f)
        clear hG5 hB5 hK5 GV4 BV4 IO4 YV4 MV4 T5 BC4
        obtain ⟨sv, hsv⟩ : ∃ sv, R'.slotAt (f : Int) = sv := ⟨_, rfl⟩
        have HSV := Lib.hid hsv
        have HUS2 := Lib.hid (show sv.used = false by rw [← hsv]; exact HUS.out)
        clear hsv
        rw [HSV.out] at HG
        go_wp2_with (go_at_call 23; fail)
        refine (HG.out _ G5.out).mono ?_
        rintro e V6 ⟨rfl, hb6⟩
        rw [show errAt (f : Int) = .nilIface from if_pos (inR_nat hf32)]
        have hs6 := hb6.size
        obtain ⟨V7, hV7⟩ : ∃ V7, V6.alloc (.cells sv.cells 57) = V7 := ⟨_, rfl⟩
        have hb7 : Below V6.heap.size V6 V7 := by rw [← hV7]; exact (Below.refl _ _).alloc (Nat.le_refl _) _
        have HV7 := Lib.hid hV7
        have BS7 := Lib.hid (show Blk V7 V6.heap.size 57 sv.cells by rw [← hV7]; exact Blk.new _ _ _)
        have hb57 := hb6.trans (hb7.mono hs6)
        have c20 : V7.cell? ⟨V1.heap.size, 0, none⟩ = some (.int .i64 R'.free.length) := (World.cell?_of_block (a := ⟨V1.heap.size, 0, none⟩) (hb57.block _ BC5.out.lt)).trans BC5.out.cell
        have cs0 : V7.cell? ⟨V6.heap.size, 0, none⟩ = some (.bool sv.used) := (BS7.out.cell 0).trans rfl
        rw [HUS2.out] at cs0
        rw [HFL.out] at c20
        have IUN := Lib.hid (show InU w R l3 l (KC ups C) O dd q3 q g Bd (some ⟨ab, ao, none⟩) u5.heap.size (600 + 8 * (i + 1)) (i + 1) R' l3' (V4.heap.size :: es) V7 from
          ⟨(G5.out.read hb57).here.mono (by omega), HUN2.out, B5.out.below hb57 B5.out.lt, IO5.out.below hb57 (Nat.le_refl _), Y5.out.trans (hb57.mono Y5.out.size), by have := hb57.size; omega, M5.out.turned (Tn.ofBelow (fun _ => False) hb57) (fun k hk => hk.elim)⟩)
        have hw1 : IntKind.i64.wrap (32 - (m : Int) + (i : Int)) = 32 - (m : Int) + (i : Int) := IntWalk.i64_in _ (by omega)
        have hw2 : IntKind.i64.wrap (32 - (m : Int) + (i : Int) + 1) = 32 - (m : Int) + (i : Int) + 1 := IntWalk.i64_in _ (by omega)
        have hcnt : (((32 - m + (i + 1) : Nat)) : Int) = 32 - (m : Int) + (i : Int) + 1 := by omega
        rw [hcnt] at c20
        clear hV7 hb6 hb7 hb57 hcnt G5 B5 IO5 Y5 M5 BC5
        go_wp2_with (first
          | ((with_reducible show wpList _ _ _ (Oper.mk none _ _ _ _ _ :: _) _ (World.alloc _ _)); refine wpList_store_new (ty := 57) rfl rfl rfl rfl rfl (SlotV.one _) slotInfo ?_; rw [HV7.out]))
        refine ⟨?_, by simp [intOf]; omega⟩
        rw [HR2.out]
        exact ⟨i + 1, R', l3', V4.heap.size :: es, fun i => Array.getD _ i undef, ⟨fun _ => rfl, by kernel_rfl, rfl⟩, by omega, IUN.out⟩
    · obtain rfl : i = n := by omega
      obtain ⟨e1, e2⟩ := HDONE.out Ri l3i (by rw [HON.out]; exact IU.out.un)
      subst e1
      have HE2 := Lib.hid e2
      have hOt : O.take i = O := List.take_of_length_le (Nat.le_of_eq HON.out)
      have hun := IU.out.un
      have HUSE := Lib.hid (show ∀ j : Nat, j < m → (Ri.slotAt j).used = (if j ∈ O then false else true) ∧ (j ∉ O → (Ri.slotAt j).birth = (j : Int) + 1) from fun j hj => by
        have hu := IC.out.cuts.usd j (by rw [HUL.out]; exact hj)
        refine ⟨?_, fun hn => ?_⟩
        · rw [hun.used j, hO, hOt, hu.1]
        · rw [hun.birth j (by rw [hO, hOt]; exact hn), hu.2])
      have HCNT := Lib.hid (show cntB (fun x => decide (x ∉ O)) m + i = m by
        have h1 := cntB_not (fun x => decide (x ∈ O)) m
        have h2 : O.length = cntB (fun x => decide (x ∈ O)) m := cntB_nodup HND.out fun x => ⟨fun h => ⟨HN32.out x h, decide_eq_true h⟩, fun h => of_decide_eq_true h.2⟩
        rw [HON.out] at h2
        have h3 : cntB (fun x => decide (x ∉ O)) m = cntB (fun x => !decide (x ∈ O)) m := cntB_congr fun x _ => by simp
        omega)
      obtain ⟨P, hP⟩ : ∃ P : Nat → Bool, (fun x => decide (x ∉ O)) = P := ⟨_, rfl⟩
      rw [hP] at HCNT
      have HPP := Lib.hid (fun x => show P x = decide (x ∉ O) by rw [← hP])
      clear hun hOt e2 hP
      go_wp2_with (go_at_call 21; fail)
      refine (IU.out.gs.unit (Fo.unit_none Ri) (by omega)).mono ?_
      rintro e V1 ⟨rfl, t1⟩
      have G1 := Lib.hid t1.here
      have hbv := HBW.out
      have Y1 := Lib.hid (t1.below IU.out.bel (by have := HQ3.out; omega) (Nat.le_refl _))
      have M1 := Lib.hid (IU.out.mkd.turned t1.tn (fun k hk => by omega))
      have hsz1 := t1.tn.size
      have hszu := IU.out.sz
      clear t1
      go_wp2_with (go_at_call 24; fail)
      refine G1.out.last.mono ?_
      rintro e w' ⟨rfl, rfl⟩
      go_wp2_with (go_at_call 20; fail)
      refine G1.out.all.mono ?_
      rintro e V2 ⟨v2, rfl, ho2, hb2⟩
      rw [HE2.out] at ho2
      obtain ⟨Az, cz, rfl, _⟩ := owns_intsAt ho2
      have hs2 := hb2.size
      have G2 := Lib.hid (G1.out.read hb2).here
      have Y2 := Lib.hid (Y1.out.trans (hb2.mono Y1.out.size))
      have M2 := Lib.hid (M1.out.turned (Tn.ofBelow (fun _ => False) hb2) (fun k hk => hk.elim))
      rw [show (natInts ([] : List Nat)).length = 0 from rfl]
      have hc0 := cntB_zero P
      clear ho2 hb2 G1 Y1 M1
      go_wp2
      obtain ⟨Rel3, hRel3⟩ : ∃ Rel3 : Act → World → Prop, Rel3 = (fun a' W => ∃ (j : Nat) (z : Nat → Value), Fr #[z 0, z 1, z 2, z 3, z 4, .pointer (some ⟨g, 0, none⟩), z 6, .slice Av m cv, z 8, z 9, z 10, .int .i64 i, z 12, z 13, z 14, z 15, z 16, z 17, z 18, z 19, z 20, z 21, z 22, z 23, z 24, .int .i64 (cntB P j), .int .i64 j, z 27, z 28, z 29, z 30, z 31, z 32, z 33, z 34, z 35, z 36, z 37, z 38, z 39, z 40, z 41, z 42, z 43, z 44, z 45, z 46, z 47, z 48, z 49, z 50, z 51, z 52, z 53, z 54, z 55, z 56, z 57, z 58, z 59, z 60, z 61, z 62, z 63, z 64, z 65, z 66, z 67, z 68, z 69, z 70, z 71, z 72, z 73, z 74, z 75, z 76, z 77, z 78, z 79, z 80, z 81, z 82, z 83, z 84, z 85, z 86, z 87, z 88, z 89, z 90, z 91, z 92, z 93, z 94, z 95, z 96, z 97, z 98, z 99, z 100, z 101, z 102, z 103, z 104, z 105, z 106, z 107, z 108, z 109, z 110, z 111, z 112, z 113, z 114, z 115, z 116, z 117, z 118, z 119, z 120, z 121, z 122, z 123, z 124, z 125, z 126, z 127, z 128, z 129, z 130, z 131, z 132, z 133, z 134, z 135, z 136, z 137, z 138, z 139, z 140, z 141, z 142, z 143, z 144, z 145, z 146, z 147, z 148, z 149, z 150, z 151, z 152, z 153, z 154, z 155, z 156, z 157, z 158, z 159, z 160, z 161, z 162, z 163, z 164, z 165, z 166, z 167, z 168, z 169, z 170, z 171, z 172, z 173, z 174, z 175, z 176, z 177, z 178, z 179, z 180, z 181, z 182, z 183, z 184, z 185, z 186, z 187, z 188, z 189, z 190, z 191, z 192, z 193, z 194, z 195, z 196, z 197, z 198, z 199, z 200, z 201, z 202, z 203, z 204, z 205, z 206, z 207, z 208, z 209, z 210, z 211, z 212, z 213] es z a' ∧ j ≤ m ∧ GS (600 + 8 * i + 8) W q3 q g Ri (-1) l W ∧ Below w.heap.size w W ∧ u5.heap.size ≤ W.heap.size ∧ Marked u5.heap.size es W) := ⟨_, rfl⟩
      have HR3 := Lib.hid hRel3
      clear hRel3
      refine wp_loop Rel3 (fun a' _ => m - (intOf (a'.tmps.getD 26 undef)).toNat) ?_ ?_
      · rw [HR3.out]
        exact ⟨0, fun i => Array.getD _ i undef, ⟨fun _ => rfl, by rw [hc0]; kernel_rfl, rfl⟩, Nat.zero_le _, G2.out, Y2.out, by omega, M2.out⟩
      clear hc0
      rintro ⟨tm, df⟩ X hRR
      rw [HR3.out] at hRR
      obtain ⟨j, z, ⟨hz, hF, hD⟩, hj, hG3, hY3, hsX, hM3⟩ := hRR
      dsimp only at hz hF hD
      clear hz
      subst hF hD
      have G3 := Lib.hid hG3
      have Y3 := Lib.hid hY3
      have M3 := Lib.hid hM3
      have hcl := cntB_le P j
      clear hG3 hY3 hM3 G2 Y2 M2
      by_cases hjm : j < m
      · have hjmi : (j : Int) < (m : Int) := by omega
        have hj0 : (0 : Int) ≤ (j : Int) := by omega
        have hj32 : j < 32 := by omega
        obtain ⟨sv, hsv⟩ : ∃ sv, Ri.slotAt (j : Int) = sv := ⟨_, rfl⟩
        have hu := HUSE.out j hjm
        have HG := Lib.hid (G3.out.get j)
        rw [hsv] at hu HG
        obtain ⟨hu1, hu2⟩ := hu
        have hsuc := cntB_succ P j
        have HSUC := Lib.hid hsuc
        have HU1 := Lib.hid hu1
        have HU2 := Lib.hid hu2
        have hcli : (cntB P j : Int) ≤ 32 := by omega
        have hcl0 : (0 : Int) ≤ (cntB P j : Int) := by omega
        clear hsv hu1 hu2 hsuc
        go_wp2_with (go_at_call 23; fail)
        refine HG.out.mono ?_
        rintro e V6 ⟨rfl, hb6⟩
        rw [show errAt (j : Int) = .nilIface from if_pos (inR_nat hj32)]
        have hs6 := hb6.size
        obtain ⟨V7, hV7⟩ : ∃ V7, V6.alloc (.cells sv.cells 57) = V7 := ⟨_, rfl⟩
        have hb7 : Below V6.heap.size V6 V7 := by rw [← hV7]; exact (Below.refl _ _).alloc (Nat.le_refl _) _
        have HV7 := Lib.hid hV7
        have BS7 := Lib.hid (show Blk V7 V6.heap.size 57 sv.cells by rw [← hV7]; exact Blk.new _ _ _)
        have hb57 := hb6.trans (hb7.mono hs6)
        have cs0 : V7.cell? ⟨V6.heap.size, 0, none⟩ = some (.bool sv.used) := (BS7.out.cell 0).trans rfl
        have cs6 : V7.cell? ⟨V6.heap.size, 6, none⟩ = some (.int .i64 sv.birth) := (BS7.out.cell 6).trans rfl
        have G7 := Lib.hid (G3.out.read hb57).here
        have Y7 := Lib.hid (Y3.out.trans (hb57.mono Y3.out.size))
        have M7 := Lib.hid (M3.out.turned (Tn.ofBelow (fun _ => False) hb57) (fun k hk => hk.elim))
        have hs7 := hb57.size
        clear hV7 hb6 hb7 hb57 G3 Y3 M3 HG
        by_cases hjO : j ∈ O
        · have h1 : sv.used = false := by rw [HU1.out, if_pos hjO]
          rw [h1] at cs0
          have HC := Lib.hid (show cntB P (j + 1) = cntB P j by rw [HSUC.out, HPP.out]; simp [hjO])
          clear h1 hjO
          go_wp2_with (first
            | ((with_reducible show wpList _ _ _ (Oper.mk none _ _ _ _ _ :: _) _ (World.alloc _ _)); refine wpList_store_new (ty := 57) rfl rfl rfl rfl rfl (SlotV.one _) slotInfo ?_; rw [HV7.out]))
          refine ⟨?_, by simp [intOf]; omega⟩
          rw [HR3.out]
          exact ⟨j + 1, fun i => Array.getD _ i undef, ⟨fun _ => rfl, by rw [HC.out]; kernel_rfl, rfl⟩, by omega, G7.out, Y7.out, by omega, M7.out⟩
        · have h1 : sv.used = true := by rw [HU1.out, if_neg hjO]
          rw [h1] at cs0
          rw [HU2.out hjO] at cs6
          have HC := Lib.hid (show cntB P (j + 1) = cntB P j + 1 by rw [HSUC.out, HPP.out]; simp [hjO])
          have hwj : IntKind.i64.wrap ((j : Int) + 1) = (j : Int) + 1 := IntWalk.i64_in _ (by omega)
          clear h1 hjO
          go_wp2_with (first
            | ((with_reducible show wpList _ _ _ (Oper.mk none _ _ _ _ _ :: _) _ (World.alloc _ _)); refine wpList_store_new (ty := 57) rfl rfl rfl rfl rfl (SlotV.one _) slotInfo ?_; rw [HV7.out]))
          refine ⟨?_, by simp [intOf]; omega⟩
          rw [HR3.out]
          exact ⟨j + 1, fun i => Array.getD _ i undef, ⟨fun _ => rfl, by rw [HC.out]; kernel_rfl, rfl⟩, by omega, G7.out, Y7.out, by omega, M7.out⟩
      · obtain rfl : j = m := by omega
        have hwf : IntKind.i64.wrap ((j : Int) - (i : Int)) = (j : Int) - (i : Int) := IntWalk.i64_in _ (by omega)
        have hfin : ((cntB P j : Nat) : Int) = (j : Int) - (i : Int) := by have := HCNT.out; omega
        obtain ⟨ct, hct⟩ : ∃ ct, cntB P j = ct := ⟨_, rfl⟩
        rw [hct] at hfin ⊢
        clear hct
        have HFI := Lib.hid hfin
        have hfe : ((ct : Int) == (j : Int) - (i : Int)) = true := by rw [hfin]; simp
        clear hfin
        go_wp2
        refine leaves_marks (B := u5.heap.size) _ _ M3.out ?_ (by omega)
        intro W9 hb9 _
        exact ⟨_, results_tmp rfl _ _ _, by first | rfl | (simp [hfe]), Y3.out.trans (hb9.mono (by have := HBW.out; have := IC.out.bel.size; omega))⟩
  · have hgo := of_decide_eq_true HGO.out
    obtain ⟨hk1, hk2, hm0⟩ := hgo
    have hm0i : (0 : Int) < (m : Int) := by omega
    have hkMi : (k : Int) < (M : Int) := by omega
    have hk0 : (0 : Int) ≤ (k : Int) := by omega
    have hm32i : (m : Int) ≤ 32 := by omega
    obtain ⟨x, hx⟩ : ∃ x, cs[k]? = some x := ⟨_, List.getElem?_eq_getElem (by rw [HLEN2.out]; exact hk1)⟩
    obtain ⟨b2, o2, rfl, hb2l, hr2⟩ := HIN2.out (by rw [HLEN2.out]; omega)
    have hcx := (IC.out.bel.cell (p := ⟨b2, o2 + k, none⟩) hb2l).trans (hr2 k x hx)
    obtain ⟨c, hc, hcm⟩ : ∃ c : Nat, pickZ x m = c ∧ c < m := by
      have h1 := Int.emod_nonneg x (show (m : Int) ≠ 0 by omega)
      have h2 := Int.emod_lt_of_pos x (show (0 : Int) < (m : Int) by omega)
      exact ⟨(x % (m : Int)).toNat, by unfold pickZ; omega, by omega⟩
    have HPK := Lib.hid (pick_any x m (by omega) (by omega) W)
    rw [hc] at HPK
    clear hx hr2 hc
    go_wp2_with (go_at_call 7; fail)
    refine HPK.out.mono ?_
    rintro e w' ⟨rfl, rfl⟩
    have hdc := (IC.out.bd.cell c).trans (bools_at dd (show c < 32 by omega))
    have hc0 : (0 : Int) ≤ (c : Int) := by omega
    have hcm' : (c : Int) < (m : Int) := by omega
    have hc32 : (c : Int) < 32 := by omega
    clear HPK hcx
    by_cases hd : dd c = true
    · rw [hd] at hdc
      clear hd
      go_wp2
      refine ⟨?_, by simp [intOf]; omega⟩
      rw [HR1.out]
      exact ⟨k + 1, C, dd, R, l3, l, ds, fun i => Array.getD _ i undef, ⟨fun _ => rfl, by kernel_rfl, rfl⟩, HDS, by omega, by omega, ⟨IC.out.gs.mono (by omega), IC.out.bd, IC.out.up, IC.out.bel, IC.out.cuts, IC.out.dead, IC.out.none⟩⟩
    · have hdf : dd c = false := by simpa using hd
      rw [hdf] at hdc
      obtain ⟨R1, l1, R2, hcut, hadd, hCU⟩ := IC.out.cuts.step HG0.out (by rw [HUL.out]; exact hm32) (by rw [HUL.out]; exact hcm) (fun h => hd ((IC.out.dead c hcm).2 h))
      have HCUT := Lib.hid hcut
      have HADD := Lib.hid hadd
      have HCU := Lib.hid hCU
      clear hcut hadd hCU hd hdf
      go_wp2_with (go_at_call 11; fail)
      refine (IC.out.gs.cut0 HCUT.out (by omega)).mono ?_
      rintro e u3 ⟨rfl, t3⟩
      have T3 := Lib.hid t3
      clear t3
      go_wp2_with (go_at_call 18; fail)
      refine (T3.out.add0 HADD.out (by omega)).mono ?_
      rintro e u4 ⟨rfl, t4⟩
      have BD4 := Lib.hid (show Blk u4 Bd 44 (bools dd) from ⟨(t4.tn.block Bd IC.out.bd.lt (by have := HBD.out; omega)).trans IC.out.bd.eq⟩)
      have I4 := Lib.hid (IC.out.up.turned t4.tn (fun a e => by have := HAB.out a e; omega))
      have Y4 := Lib.hid (t4.below IC.out.bel (by have := HQ3.out; omega) (Nat.le_refl _))
      have G4 := Lib.hid t4.here
      clear t4 T3 hdc
      go_wp2
      go_loopw [11, 14] (fun n j wz => ∃ (i : Nat) (d2 : Nat → Bool), i ≤ m ∧ j = .int .i64 i ∧ n = .int .i64 (cntB d2 m) ∧ Blk wz Bd 44 (bools d2) ∧ (∀ x, x < m → (d2 x = true ↔ dd x = true ∨ (x < i ∧ ∃ m', ascL ups x m' = (c : Int)))) ∧ (∀ x, m ≤ x → d2 x = false) ∧ Tn (fun k => k = Bd) u4 wz) (fun _ j _ => m - (intOf j).toNat)
      case atStart => exact ⟨0, dd, Nat.zero_le _, rfl, rfl, BD4.out, fun x _ => ⟨fun h => .inl h, fun h => h.elim id fun h => absurd h.1 (Nat.not_lt_zero _)⟩, IC.out.none, Tn.refl _ _⟩
      case round =>
        obtain ⟨i, d2, hi, rfl, rfl, hbd, hsp, hno, htn⟩ := hrel
        have BDZ := Lib.hid hbd
        have HSP := Lib.hid hsp
        have HNO := Lib.hid hno
        have HTN := Lib.hid htn
        have hcn := cntB_le d2 m
        have hcni : (cntB d2 m : Int) ≤ 32 := by omega
        have hcn0 : (0 : Int) ≤ (cntB d2 m : Int) := by omega
        clear hbd hsp hno htn
        by_cases him : i < m
        · have himi : (i : Int) < (m : Int) := by omega
          have hi32 : (i : Int) < 32 := by omega
          have hi0' : (0 : Int) ≤ (i : Int) := by omega
          have hdi := (BDZ.out.cell i).trans (bools_at d2 (show i < 32 by omega))
          have hfi := BDZ.out.frozen i
          by_cases hj : d2 i = true
          · rw [hj] at hdi
            have HS2 := Lib.hid (mark_skip HSP.out (.inl hj))
            clear hj
            go_wp2
            go_roundw
            case rel => exact ⟨i + 1, d2, by omega, by go_num, rfl, BDZ.out, HS2.out, HNO.out, HTN.out⟩
            case measure => simp [intOf] <;> omega
          · have hjf : d2 i = false := by simpa using hj
            rw [hjf] at hdi
            have HJF := Lib.hid hjf
            have HAV := Lib.hid (above_any ups HG0.out m HUL.out hm32 Av cv c i him wr (I4.out.turned HTN.out (fun a e => by have := HAB.out a e; omega)))
            clear hj hjf
            go_wp2_with (go_at_call 19; fail)
            refine HAV.out.mono ?_
            rintro e w' ⟨rfl, b, rfl, hb⟩
            cases b
            · have HS2 := Lib.hid (mark_skip HSP.out (.inr (fun h => by have := hb.2 h; cases this)))
              clear hb
              go_wp2
              go_roundw
              case rel => exact ⟨i + 1, d2, by omega, by go_num, rfl, BDZ.out, HS2.out, HNO.out, HTN.out⟩
              case measure => simp [intOf] <;> omega
            · have HS2 := Lib.hid (mark_set HSP.out (hb.1 rfl))
              have HC3 := Lib.hid (cntB_set (P := d2) (Q := fun x => if x = i then true else d2 x) him HJF.out (if_pos rfl) (fun x hx => if_neg hx))
              clear hb
              go_wp2
              go_roundw
              case rel => exact ⟨i + 1, fun x => if x = i then true else d2 x, by omega, by go_num, by rw [HC3.out]; go_num, by rw [← bools_set]; exact BDZ.out.set_ i _, HS2.out, fun x hx => (if_neg (by omega)).trans (HNO.out x hx), HTN.out.grown (grownBy_set _ Bd i _) rfl⟩
              case measure => simp [intOf] <;> omega
        · obtain rfl : i = m := by omega
          have hka : ¬ ((i : Int) < (i : Int)) := by omega
          have hbdl := BD4.out.lt
          have IC2 := Lib.hid (show InC w ups i F0 q3 q g Bd Av (200 + 10 * (k + 1)) (C ++ [c]) d2 R2 c l1 wr from
            ⟨(G4.out.far HTN.out (by have := HBD.out; omega)).mono (by omega), BDZ.out, I4.out.turned HTN.out (fun a e => by have := HAB.out a e; omega),
              Y4.out.trans (HTN.out.below (fun j hj => by have := HBD.out; omega) Y4.out.size), HCU.out,
              fun x hx => by
                rw [HSP.out x hx, Dead.snoc, IC.out.dead x hx]
                exact ⟨fun h => h.elim .inl fun h => .inr h.2, fun h => h.elim .inl fun h => .inr ⟨hx, h⟩⟩,
              HNO.out⟩)
          go_wp2
          refine ⟨?_, by simp [intOf]; omega⟩
          rw [HR1.out]
          exact ⟨k + 1, C ++ [c], d2, R2, c, l1, ds, fun i => Array.getD _ i undef, ⟨fun _ => rfl, by kernel_rfl, rfl⟩, HDS, by omega, by omega, IC2.out⟩
theorem sweepOnce_rows (A : Option Addr) (cap : Nat) (l : List Int) (A2 : Option Addr) (cap2 : Nat) (l2 : List Int) (w : World) (h : 0 < l.length → ∃ b off, A = some ⟨b, off, none⟩ ∧ b < w.heap.size ∧ ∀ k y, l[k]? = some y → RowAt w b (off + k * 1) (i64c y)) (hlen : l.length * 8 ≤ 140737488351232) (h2 : 0 < l2.length → ∃ b off, A2 = some ⟨b, off, none⟩ ∧ b < w.heap.size ∧ ∀ k y, l2[k]? = some y → RowAt w b (off + k * 1) (i64c y)) (hlen2 : l2.length * 8 ≤ 140737488351232) :
    Calls Try.prog 4 #[.slice A l.length cap, .slice A2 l2.length cap2] w (RetB (.bool true) w) :=
  sweepOnce_any l l.length (min l.length 32) rfl (by unfold maxLen; omega) rfl A cap l2 l2.length rfl (by unfold maxLen; omega) A2 cap2 w (intsAt_rows h) (intsAt_rows h2)
end Go.Proofs.Ytbidgpeeogoglaa
