/-
  lineagelaw17.used; a tree between two calls, known by the document's state.
-/
import Derived.Test.YtbidgpeeogoglaaTrList
import Derived.Test.YtbidgpeeogoglaaHl
import Derived.Test.YtbidgpeeogoglaaGb
import Derived.Test.YtbidgpeeogoglaaHo
namespace Go.Proofs.Ytbidgpeeogoglaa
set_option maxRecDepth 100000
open Go.RowKit Go.Sort

def SlotV.usd (n : Int) : SlotV := ⟨true, false, -1, -1, -1, 0, n, 0, 0, 0, ByteArray.empty, ByteArray.empty, 0, 0, 0, 0, 0⟩
@[reducible] def usdL (n : Int) : Array Value := #[.bool true, .bool false, .int .i64 (-1), .int .i64 (-1), .int .i64 (-1), .int .i64 0, .int .i64 n, .int .i64 0, .int .i64 0, .int .i64 0, .string ⟨#[]⟩, .string ⟨#[]⟩, .int .u64 0, .int .i64 0, .int .i64 0, .int .i64 0, .int .i64 0]
theorem usd_cells (n : Int) : (SlotV.usd n).cells = usdL n := by kernel_rfl
def usedS : Nat → St
  | 0 => St.new
  | k + 1 => (usedS k).put k (SlotV.usd ((k : Int) + 1))
theorem usedS_writes : ∀ k, (usedS k).writes = (k : Int)
  | 0 => rfl
  | k + 1 => by
    show (usedS k).writes + 1 = _
    rw [usedS_writes k]
    omega
theorem usedS_agree (k : Nat) (h : (usedS k).slots.length = 32) : Agree (usedS k) (usedS k) := ⟨rfl, rfl, h⟩
set_option maxHeartbeats 4000000 in
theorem tusedN_any (n : Nat) (hn : n ≤ 32) (w : World) : Calls Try.prog 6 #[.int .i64 n] w (fun e w' => ∃ g q, e = .returned (.tuple #[.pointer (some ⟨g, 0, none⟩), .pointer (some ⟨q, 0, none⟩), .bool true]) ∧ Ta w' q g (usedS n) (-1) w' ∧ w.heap.size ≤ g ∧ w.heap.size ≤ q ∧ Below w.heap.size w w') := by
  go_enter Try.func6, Try.ntmps6
  go_wp2_with (go_at_call 25; fail)
  refine (new_st w).mono ?_
  rintro e w1 ⟨g, rfl, hg, hS1, hb1⟩
  have hgl := hS1.lt
  have hs1 := hb1.size
  have K1 := Lib.hid hS1
  have B1 := Lib.hid hb1
  have hnil := nil_neq
  have hn1 : (n : Int) ≤ 32 := by omega
  clear hS1 hb1
  go_wp2
  go_loopw [6] (fun i wr => ∃ k : Nat, k ≤ n ∧ i = .int .i64 k ∧ IsAr wr g (usedS k) ∧ Below w.heap.size w wr) (fun i _ => n - (intOf i).toNat)
  case atStart => exact ⟨0, Nat.zero_le _, rfl, K1.out, B1.out⟩
  case round =>
    obtain ⟨k, hk, rfl, hA, hb⟩ := hrel
    have HA := Lib.hid hA
    have HB := Lib.hid hb
    clear hA hb
    by_cases hlt : k < n
    · have hki : (k : Int) < (n : Int) := by omega
      have PT := Lib.hid (put_st (S := usedS k) (i := k) (by omega) (SlotV.usd ((k : Int) + 1)) g wr HA.out (by rw [usedS_writes]; omega) (by rw [usedS_writes]; omega))
      rw [usd_cells] at PT
      go_wp2_with (go_at_call 26; fail)
      refine PT.out.mono ?_
      rintro e w2 ⟨rfl, hA2, hG2⟩
      have HA2 := Lib.hid hA2
      have HB2 := Lib.hid (HB.out.grown hG2 HB.out.size (fun k e => by cases e; exact hg))
      clear hA2 hG2 PT
      go_wp2
      go_roundw
      case rel => exact ⟨k + 1, by omega, by go_num, HA2.out, HB2.out⟩
      case measure => simp [intOf] <;> omega
    · obtain rfl : k = n := by omega
      have hgr := HA.out.lt
      have hsr := HB.out.size
      go_wp2_with (go_at_call 27; fail)
      refine (trNew_any g wr).mono ?_
      rintro e w2 ⟨rfl, hB2, hb2⟩
      have HT := Lib.hid (show Ta w2 wr.heap.size g (usedS k) (-1) w2 from Ta.start hB2 (HA.out.below hb2 hgr) (by omega))
      have HB2 := Lib.hid (HB.out.trans (hb2.mono hsr))
      clear hB2 hb2
      go_wp2
      go_ret3
      exact ⟨g, wr.heap.size, rfl, HT.out, hg, hsr, HB2.out⟩
/-- A tree, known by the document's state; at most c has been written. -/
def TS (c : Nat) (w : World) (q g : Nat) (R : St) (l : Int) (W : World) : Prop := ∃ S, Ta w q g S l W ∧ Agree S R ∧ 0 ≤ S.writes ∧ S.writes ≤ c
section
variable {c : Nat} {w w0 W W' : World} {q g : Nat} {R : St} {l : Int}
theorem TS.read (t : TS c w q g R l W) (hb : Below W.heap.size W W') : TS c w q g R l W' := by
  obtain ⟨S, h1, h2⟩ := t
  exact ⟨S, h1.read hb, h2⟩
theorem TS.below (t : TS c w q g R l W) {n : Nat} (hb : Below n w0 w) (hq : n ≤ q ∧ n ≤ g) (hn : n ≤ w0.heap.size) : Below n w0 W := by
  obtain ⟨S, h1, _⟩ := t
  exact hb.trans (h1.tn.below (fun k hk => by omega) (Nat.le_trans hn hb.size))
theorem TS.add (t : TS c w q g R l W) {i us ub no at_ l' : Int} {R' : St} (hr : R.tadd l i us ub = ((no, at_), R', l')) (hc : c < 1000) :
    Calls Try.prog 8 #[.pointer (some ⟨q, 0, none⟩), .int .i64 i, .agg #[.int .i64 us, .int .i64 ub]] W (fun e W' => e = .returned (errP no at_) ∧ TS (c + 5) w q g R' l' W') := by
  obtain ⟨S, h1, h2, h3, h4⟩ := t
  refine (tAdd_any h2 i us ub w W h1 h3 (by omega)).mono fun e W' ⟨h5, S', h6, h7, h8, h9⟩ => ?_
  rw [hr] at h5 h6 h7 h9
  dsimp only at h5 h6 h7 h9
  exact ⟨h5, S', h6, h7, by omega, by split at h9 <;> omega⟩
theorem TS.cut (t : TS c w q g R l W) {i no at_ l' : Int} {R' : St} (hr : R.tcut l i = ((no, at_), R', l')) (hc : c < 1000) :
    Calls Try.prog 11 #[.pointer (some ⟨q, 0, none⟩), .int .i64 i] W (fun e W' => e = .returned (errP no at_) ∧ TS (c + 5) w q g R' l' W') := by
  obtain ⟨S, h1, h2, h3, h4⟩ := t
  refine (tCut_any h2 i w W h1 h3 (by omega)).mono fun e W' ⟨h5, S', h6, h7, h8, h9⟩ => ?_
  rw [hr] at h5 h6 h7 h9
  dsimp only at h5 h6 h7 h9
  exact ⟨h5, S', h6, h7, by omega, by split at h9 <;> omega⟩
theorem TS.last (t : TS c w q g R l W) : Calls Try.prog 10 #[.pointer (some ⟨q, 0, none⟩)] W (RetSame (.int .i64 l) W) := by
  obtain ⟨S, h1, _⟩ := t
  exact trLast_any w W h1
/-- What a list is. -/
def RetLi (n : Nat) (xs : List Nat) (W : World) (e : Ending) (W' : World) : Prop := ∃ A k, e = .returned (.slice A n k) ∧ IntsAt W' A (natInts xs) ∧ Below W.heap.size W W'
theorem RetLi.of {xs : List Nat} {n : Nat} (hn : xs.length = n) {e : Ending} (h : RetInts (natInts xs) W e W') : RetLi n xs W e W' := by
  obtain ⟨v, h1, h2, h3⟩ := h
  rw [natInts_len, hn] at h2
  obtain ⟨A, k, rfl, hi⟩ := owns_intsAt h2
  exact ⟨A, k, h1, hi, h3⟩
theorem TS.list0 (t : TS c w q g R l W) (i : Int) {xs : List Nat} {n : Nat} (hx : R.all l = xs) (hn : xs.length = n) : Calls Try.prog 9 #[.pointer (some ⟨q, 0, none⟩), .int .i64 0, .int .i64 i] W (RetLi n xs W) := by
  obtain ⟨S, h1, h2, _⟩ := t
  have h := tlist0_any i W h1.here
  rw [all_congr' h2.slots, hx] at h
  exact h.mono fun e W' hh => RetLi.of hn hh
theorem TS.list1 (t : TS c w q g R l W) (i : Int) {xs : List Nat} {n : Nat} (hx : R.kidsOf i = xs) (hn : xs.length = n) : Calls Try.prog 9 #[.pointer (some ⟨q, 0, none⟩), .int .i64 1, .int .i64 i] W (RetLi n xs W) := by
  obtain ⟨S, h1, h2, _⟩ := t
  have h := tlist1_any i W h1.here
  rw [kidsOf_congr h2.slots, hx] at h
  exact h.mono fun e W' hh => RetLi.of hn hh
theorem TS.list2 (t : TS c w q g R l W) (i : Int) {xs : List Nat} {n : Nat} (hx : R.underOf i = xs) (hn : xs.length = n) : Calls Try.prog 9 #[.pointer (some ⟨q, 0, none⟩), .int .i64 2, .int .i64 i] W (RetLi n xs W) := by
  obtain ⟨S, h1, h2, _⟩ := t
  have h := tlist2_any i W h1.here
  rw [underOf_congr h2.slots, hx] at h
  exact h.mono fun e W' hh => RetLi.of hn hh
/-- A row that was just made. -/
theorem ints_new (W : World) (xs : List Nat) : IntsAt (W.alloc (.cells (intVs (natInts xs)).toArray 3)) (some ⟨W.heap.size, 0, none⟩) (natInts xs) := fun _ => by
  refine ⟨W.heap.size, 0, rfl, by simp, fun k i hk => ?_⟩
  have h := (Blk.new W 3 (intVs (natInts xs)).toArray).cell (0 + k)
  rw [h]
  simp [intVs, hk]
end
end Go.Proofs.Ytbidgpeeogoglaa
