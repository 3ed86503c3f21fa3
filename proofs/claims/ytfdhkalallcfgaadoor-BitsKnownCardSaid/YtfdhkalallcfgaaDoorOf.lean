/-
  bits.Of: the set of a row of numbers, or the first wrong number with its place; lineagekit.Pick; works: the set of 0 and 2 is 5.
-/
import Derived.Test.YtfdhkalallcfgaaDoorCount
namespace Go.Proofs.YtfdhkalallcfgaaDoor
set_option maxRecDepth 100000
open Go.RowKit

/-- A row of ints that may be read: its cells lie where the slice says. -/
def IntsAt (w : World) (A : Option Addr) (xs : List Int) : Prop := 0 < xs.length → ∃ b off, A = some ⟨b, off, none⟩ ∧ b < w.heap.size ∧ ∀ k i, xs[k]? = some i → w.cell? ⟨b, off + k, none⟩ = some (.int .i64 i)
theorem IntsAt.below {w w' : World} {A : Option Addr} {xs : List Int} {B : Nat} (h : IntsAt w A xs) (hb : Below B w w') (hB : w.heap.size ≤ B) : IntsAt w' A xs := fun hn => by
  obtain ⟨b, off, rfl, hlt, hc⟩ := h hn
  have hs := hb.size
  exact ⟨b, off, rfl, by omega, fun k i hk => (hb.cell (p := ⟨b, off + k, none⟩) (by show b < B; omega)).trans (hc k i hk)⟩

/-- The set of the numbers, on top of s; or the first wrong one: the error's number, its place. -/
def ofGo (s : BitVec 64) (at_ : Nat) : List Int → BitVec 64 × Option (Int × Nat)
  | [] => (s, none)
  | i :: l => if inZ i then (if hb s i.toNat then (0, some (9, at_)) else ofGo (s ||| BitVec.twoPow 64 i.toNat) (at_ + 1) l) else (0, some (1, at_))
def ofL (l : List Int) : BitVec 64 × Option (Int × Nat) := ofGo 0 0 l
def fault (k : Int) (n : Nat) : Value := .iface 57 (.agg #[.int .i64 k, .int .i64 n])
def ofErr : Option (Int × Nat) → Value
  | none => .nilIface
  | some (k, n) => fault k n
def ofV (r : BitVec 64 × Option (Int × Nat)) : Value := .tuple #[.int .u64 (wd r.1), ofErr r.2]
def OfLoop (w : World) (xs : List Int) (s i : Value) (wr : World) : Prop := w = wr ∧ ∃ (k : Nat) (x : BitVec 64), k ≤ xs.length ∧ s = .int .u64 (wd x) ∧ i = .int .i64 k ∧ ofL xs = ofGo x k (xs.drop k)
theorem ofGo_bad {s : BitVec 64} {n : Nat} {i : Int} {l : List Int} (h : inZ i = false) : ofGo s n (i :: l) = (0, some (1, n)) := by simp [ofGo, h]
theorem ofGo_twice {s : BitVec 64} {n i : Nat} {l : List Int} (hi : i < 64) (h : hb s i = true) : ofGo s n ((i : Int) :: l) = (0, some (9, n)) := by simp [ofGo, inZ_nat hi, h]
theorem ofGo_on {s : BitVec 64} {n i : Nat} {l : List Int} (hi : i < 64) (h : hb s i = false) : ofGo s n ((i : Int) :: l) = ofGo (s ||| BitVec.twoPow 64 i) (n + 1) l := by simp [ofGo, inZ_nat hi, h]
theorem ofV_end {s : BitVec 64} {n : Nat} : ofV (ofGo s n []) = .tuple #[.int .u64 (wd s), .nilIface] := rfl

set_option maxHeartbeats 1000000 in
theorem of_list (A : Option Addr) (cap : Nat) (xs : List Int) (w : World) (hr : IntsAt w A xs) (hl : xs.length * 8 ≤ 140737488351232) :
    Calls Tryd.prog 15 #[.slice A xs.length cap] w (RetSame (ofV (ofL xs)) w) := by
  have HR := Lib.hid hr
  have hl1 : xs.length + 1 ≤ 9223372036854775807 := by omega
  have HL := Lib.hid hl
  clear hr hl
  go_enter Tryd.func15, Tryd.ntmps15
  go_wp2
  go_loopw [4, 9] (OfLoop w xs) (fun _ i _ => xs.length - (intOf i).toNat)
  case atStart => exact ⟨rfl, 0, 0#64, Nat.zero_le _, rfl, rfl, rfl⟩
  case round =>
    obtain ⟨rfl, k, x, hk, rfl, rfl, hof⟩ := hrel
    by_cases hlt : k < xs.length
    · have hd : xs.drop k = xs[k] :: xs.drop (k + 1) := List.drop_eq_getElem_cons hlt
      rw [hd] at hof
      obtain ⟨b, off, rfl, hb_, hrow⟩ := HR.out (by omega)
      have hcell := hrow k xs[k] (List.getElem?_eq_getElem hlt)
      clear hrow HR hd
      obtain ⟨i, hi⟩ : ∃ i, xs[k] = i := ⟨_, rfl⟩
      rw [hi] at hof hcell
      clear hi
      rcases z_cases i with h | h | ⟨n, hn, rfl⟩
      · have hz : inZ i = false := by simp [inZ]; omega
        rw [ofGo_bad hz] at hof
        have HOF := Lib.hid hof
        clear hof
        go_wp2
        go_ret2
        exact ⟨by rw [HOF.out]; simp [ofV, ofErr, fault, wd_zero], rfl⟩
      · have hz : inZ i = false := by simp [inZ]; omega
        have h0 : ¬ i < 0 := by omega
        rw [ofGo_bad hz] at hof
        have HOF := Lib.hid hof
        clear hof
        go_wp2
        go_ret2
        exact ⟨by rw [HOF.out]; simp [ofV, ofErr, fault, wd_zero], rfl⟩
      · have h0 : ¬ (n : Int) < 0 := by omega
        have h1 : ¬ (64 : Int) ≤ n := by omega
        cases hx : hb x n
        · rw [ofGo_on hn hx] at hof
          have HOF := Lib.hid hof
          clear hof
          go_wp2_with (go_at_call 24; refine (has_nat _ n hn _).mono ?_; rintro e w' ⟨rfl, rfl⟩)
          go_roundw
          case rel => exact ⟨rfl, k + 1, _, by omega, rfl, by go_num, HOF.out⟩
          case measure => simp [intOf]; omega
        · rw [ofGo_twice hn hx] at hof
          have HOF := Lib.hid hof
          clear hof
          go_wp2_with (go_at_call 24; refine (has_nat _ n hn _).mono ?_; rintro e w' ⟨rfl, rfl⟩)
          go_ret2
          exact ⟨by rw [HOF.out]; simp [ofV, ofErr, fault, wd_zero], rfl⟩
    · have hd : xs.drop k = [] := List.drop_eq_nil_of_le (by omega)
      rw [hd] at hof
      have HOF := Lib.hid hof
      have hke : ¬ (k : Int) < xs.length := by omega
      clear hof hd HR
      go_wp2
      go_ret2
      exact ⟨by rw [HOF.out]; rfl, rfl⟩

/-- lineagekit.Pick: a number below n out of any number. -/
def pickZ (i n : Int) : Int := i % n
theorem pick_any (i : Int) (n : Nat) (h0 : 0 < n) (h1 : n ≤ 1000000000) (w : World) : Calls Tryd.prog 8 #[.int .i64 i, .int .i64 n] w (RetSame (.int .i64 (pickZ i n)) w) := by
  have hn1 : ¬ (n : Int) < 1 := by omega
  have hn0 : ¬ (n : Int) = 0 := by omega
  have hm1 : i % (n : Int) < n := Int.emod_lt_of_pos _ (by omega)
  have hm0 : 0 ≤ i % (n : Int) := Int.emod_nonneg _ hn0
  have ht := Int.tmod_eq_emod (a := i) (b := n)
  have hna : ((n : Int).natAbs : Int) = n := by omega
  by_cases hc : 0 ≤ i ∨ (n : Int) ∣ i
  · rw [if_pos hc] at ht
    have hneg : ¬ i % (n : Int) < 0 := by omega
    have hw : IntKind.i64.wrap (i % (n : Int)) = i % (n : Int) := IntWalk.i64_in _ (by omega)
    have ht' : i.tmod (n : Int) = i % (n : Int) := by omega
    clear ht hc
    go_enter Tryd.func8, Tryd.ntmps8
    go_wp2
    go_ret
    exact ⟨rfl, rfl⟩
  · rw [if_neg hc] at ht
    have hnd : i % (n : Int) ≠ 0 := fun h => hc (.inr (Int.dvd_of_emod_eq_zero h))
    have ht' : i.tmod (n : Int) = i % (n : Int) - n := by omega
    have hneg : i % (n : Int) - n < 0 := by omega
    have hw : IntKind.i64.wrap (i % (n : Int) - n) = i % (n : Int) - n := IntWalk.i64_in _ (by omega)
    have hw2 : i % (n : Int) - n + n = i % (n : Int) := by omega
    clear ht hc
    go_enter Tryd.func8, Tryd.ntmps8
    go_wp2
    go_ret
    exact ⟨rfl, rfl⟩
theorem pick_range (i : Int) (n : Nat) (h0 : 0 < n) : ∃ k : Nat, k < n ∧ pickZ i n = k := by
  have hm1 : i % (n : Int) < n := Int.emod_lt_of_pos _ (by omega)
  have hm0 : 0 ≤ i % (n : Int) := Int.emod_nonneg _ (by omega)
  exact ⟨(i % (n : Int)).toNat, by omega, by unfold pickZ; omega⟩
def pick64 (i : Int) : Nat := (i % 64).toNat
theorem pick64_lt (i : Int) : pick64 i < 64 := by unfold pick64; omega
theorem pick64_eq (i : Int) : pickZ i ((64 : Nat) : Int) = (pick64 i : Int) := by unfold pickZ pick64; omega

theorem pick64_any (i : Int) (w : World) : Calls Tryd.prog 8 #[.int .i64 i, .int .i64 64] w (RetSame (.int .i64 (pick64 i : Int)) w) := by rw [← pick64_eq]; exact pick_any i 64 (by decide) (by decide) w
theorem works_of : ofL [2, 0] = (5#64, none) := by decide +kernel
theorem cnt_five : cntB 5#64 = 2 := by decide +kernel
set_option maxHeartbeats 1000000 in
theorem works_any (w : World) : Calls Tryd.prog 14 #[] w (RetB (.bool true) w) := by
  have hw5 : (5 : Int) = wd 5#64 := rfl
  have hin : IntsAt (w.alloc (.cells #[.int .i64 2, .int .i64 0] 3)) (some ⟨w.heap.size, 0, none⟩) [2, 0] := fun _ => ⟨_, 0, rfl, by simp, fun k i hk => by
    rw [World.cell?_alloc_at _ _ _ _ rfl]
    match k, hk with
    | 0, hk => simp at hk; subst hk; rfl
    | 1, hk => simp at hk; subst hk; rfl
    | k + 2, hk => simp at hk⟩
  have hc : ∀ w', Calls Tryd.prog 16 #[.int .u64 5] w' (RetSame (.int .i64 2) w') := fun w' => by
    have := count_any 5#64 w'
    rw [cnt_five] at this
    exact this
  have HI := Lib.hid hin
  clear hin hw5
  go_enter Tryd.func14, Tryd.ntmps14
  go_wp2_with (go_at_call 15; fail)
  refine (of_list (some ⟨w.heap.size, 0, none⟩) 2 [2, 0] _ HI.out (by decide)).mono ?_
  rintro e w1 ⟨rfl, rfl⟩
  rw [works_of]
  simp only [ofV, ofErr]
  have h5 : wd 5#64 = 5 := rfl
  go_wp2_with (go_at_call 16; refine (hc _).mono ?_; rintro e w' ⟨rfl, rfl⟩)
  go_ret
  exact ⟨rfl, (Below.refl _ _).alloc (Nat.le_refl _) _⟩
end Go.Proofs.YtfdhkalallcfgaaDoor
