/-
  lineageref10.Taken; what is left, as a slice.
-/
import Derived.Test.YtpdpdojaaaipcaaDoorRNum
namespace Go.Proofs.YtpdpdojaaaipcaaDoor
set_option maxRecDepth 100000
open Go.RowKit
theorem readN_err : ∀ (l : List UInt8) (i acc : Nat) (c : Int), readN i acc l = .error c → c = 2 ∨ c = 4
  | [], i, acc, c, h => by
    simp only [readN, Except.error.injEq] at h
    exact .inl h.symm
  | x :: r, i, acc, c, h => by
    rw [readN] at h
    split at h
    · injection h with h; exact .inr h.symm
    · split at h
      · cases h
      · exact readN_err r _ _ c h
theorem readN_len {l : List UInt8} {V n : Nat} (h : readN 0 0 l = .ok (V, n)) : n ≤ l.length ∧ V < 2 ^ 64 := by
  obtain ⟨v, rest, h1, h2, h3, h4, _⟩ := readN_back l 0 0 V n (by omega) h
  rw [Nat.zero_add, Nat.pow_zero, Nat.mul_one] at h2
  have := congrArg List.length h1
  rw [List.length_append] at this
  exact ⟨by omega, by rw [h2]; exact h4⟩
/-- What is left: nothing, or a part of some row. -/
def RAt (w : World) (A : Option Addr) (l : List UInt8) : Prop := (A = none ∧ l = []) ∨ ∃ b off, A = some ⟨b, off, none⟩ ∧ b < w.heap.size ∧ ∀ k x, l[k]? = some x → w.cell? ⟨b, off + k, none⟩ = some (.int .u8 (x.toNat : Int))
theorem RAt.bytes {w : World} {A : Option Addr} {l : List UInt8} (h : RAt w A l) : BytesAt w A l := fun hn => by
  rcases h with ⟨_, rfl⟩ | ⟨b, off, e, h1, h2⟩
  · simp at hn
  · exact ⟨b, off, e, h1, h2⟩
theorem RAt.below {w w' : World} {A : Option Addr} {l : List UInt8} (h : RAt w A l) (hb : Below w.heap.size w w') : RAt w' A l := by
  rcases h with h | ⟨b, off, e, h1, h2⟩
  · exact .inl h
  · exact .inr ⟨b, off, e, Nat.lt_of_lt_of_le h1 hb.size, fun k x hk => (hb.cell (p := ⟨b, off + k, none⟩) h1).trans (h2 k x hk)⟩
theorem RAt.kept {w w' : World} {A : Option Addr} {l : List UInt8} {g : Nat} (h : RAt w A l) (hA : ∀ a, A = some a → a.block ≠ g) (hb : w.grownBy w' (some g)) : RAt w' A l := by
  rcases h with h | ⟨b, off, e, h1, h2⟩
  · exact .inl h
  · have hne := hA _ e
    have hblk := hb.block b h1 (fun e' => by injection e' with e'; exact hne e')
    refine .inr ⟨b, off, e, Nat.lt_of_lt_of_le h1 hb.size, fun k x hk => ?_⟩
    rw [← h2 k x hk]
    simp only [World.cell?, hblk]
theorem RAt.drop {w : World} {A : Option Addr} {l : List UInt8} (h : RAt w A l) (n cap : Nat) (hc : l.length ≤ cap) : RAt w (if cap = n then A else Option.map (fun x => Addr.add x n) A) (l.drop n) := by
  rcases h with ⟨rfl, rfl⟩ | ⟨b, off, rfl, h1, h2⟩
  · exact .inl ⟨by split <;> rfl, by simp⟩
  · split
    · rename_i e
      refine .inr ⟨b, off, rfl, h1, fun k x hk => ?_⟩
      rw [List.drop_of_length_le (by omega)] at hk
      simp at hk
    · refine .inr ⟨b, off + n, by show some (Addr.add ⟨b, off, none⟩ n) = _; rw [Addr.add_lit], h1, fun k x hk => ?_⟩
      rw [List.getElem?_drop] at hk
      rw [Nat.add_assoc]
      exact h2 _ x hk
theorem conv_at {w : World} {A : Option Addr} {l : List UInt8} (h : RAt w A l) (cap : Nat) :
    (convert 22 9 (.slice A l.length cap)).run Tryd.prog w = .ok (.string (strB l)) w := by
  rcases h with ⟨rfl, rfl⟩ | ⟨b, off, rfl, h1, h2⟩
  · show (convert _ _ (.slice none 0 cap)).run _ w = _
    rw [run_convert_bytes_nil (P := Tryd.prog) w 22 5 Tryd.underlying22 Tryd.underlying5 0 cap 9 Tryd.underlying9]
    rfl
  · rw [run_convert_bytes_arg (P := Tryd.prog) w 22 5 Tryd.underlying22 Tryd.underlying5 b off l.length cap (l.map fun x : UInt8 => (x.toNat : Int)) (by simp) (fun i hi => by
      have hx : l[i]? = some l[i] := List.getElem?_eq_getElem hi
      rw [h2 i _ hx]
      congr 2
      rw [List.getD_eq_getElem?_getD, List.getElem?_map, hx]
      rfl) 9 Tryd.underlying9]
    congr 3
    unfold strOfNums
    rw [List.map_map]
    congr 2
    simp [Function.comp_def]
theorem RAt.take {w : World} {A : Option Addr} {l : List UInt8} (h : RAt w A l) (n : Nat) : RAt w A (l.take n) := by
  rcases h with ⟨rfl, rfl⟩ | ⟨b, off, e, h1, h2⟩
  · exact .inl ⟨rfl, by simp⟩
  · exact .inr ⟨b, off, e, h1, fun k x hk => h2 k x (by rw [List.getElem?_take] at hk; split at hk <;> simp_all)⟩
/-- How the document takes a text. -/
def rtakenV (r : Except Int (List UInt8 × Nat)) : Value :=
  match r with
  | .ok (s, n) => .tuple #[.string (strB s), .int .i64 (n : Int), .int .i64 0]
  | .error c => .tuple #[.string ⟨#[]⟩, .int .i64 0, .int .i64 c]
set_option maxHeartbeats 4000000 in
theorem rtaken_any (A : Option Addr) (cap N : Nat) (l : List UInt8) (hN : l.length = N) (hc : N ≤ cap) (hl : N < 4611686018427387904) (most : Int) (hmost : most < 9223372036854775808) (w : World) (hb : RAt w A l) :
    Calls Tryd.prog 13 #[.slice A N cap, .int .i64 most] w (RetB (rtakenV (readT l most)) w) := by
  have HNUM := Lib.hid (rnum_any A cap N l hN hl w hb.bytes)
  have HB := Lib.hid hb
  have HN := Lib.hid hN
  have HC := Lib.hid hc
  cases hr : readN 0 0 l with
  | error c =>
    have hT : readT l most = .error c := by unfold readT; rw [hr]
    have hc0 : (c == 0) = false := by rcases readN_err l 0 0 c hr with rfl | rfl <;> rfl
    rw [hr] at HNUM
    have HT := Lib.hid hT
    clear hb hN hc hl hmost hr hT
    go_enter Tryd.func13, Tryd.ntmps13
    go_wp2_with (go_at_call 15; fail)
    refine HNUM.out.mono ?_
    rintro e w1 ⟨rfl, h1⟩
    have H1 := Lib.hid h1
    clear h1
    simp only [rnumV]
    go_wp2
    go_ret3
    rw [HT.out]
    exact ⟨rfl, H1.out⟩
  | ok q =>
    obtain ⟨V, n⟩ := q
    have hT : readT l most = if (max most 0).toNat < V then .error 3 else if N - n < V then .error 2 else .ok ((l.drop n).take V, n + V) := by unfold readT; rw [hr, hN]
    rw [hr] at HNUM
    have hnl := (readN_len hr).1
    rw [hN] at hnl
    have hV64 := (readN_len hr).2
    have hum := uw_max most hmost
    obtain ⟨MM, hMM⟩ : ∃ MM : Nat, (max most 0).toNat = MM := ⟨_, rfl⟩
    rw [hMM] at hum hT
    obtain ⟨LL, hLL⟩ : ∃ LL : Nat, N - n = LL := ⟨_, rfl⟩
    rw [hLL] at hT
    have hNl : (N : Int) - (n : Int) = (LL : Int) := by omega
    have hul : IntKind.u64.wrap (LL : Int) = (LL : Int) := by rw [IntKind.wrap_u64]; omega
    have hLb : (LL : Int) ≤ 4611686018427387904 := by omega
    have HL := Lib.hid (And.intro hl hLL)
    clear hb hN hc hmost hMM hV64 hl hLL
    by_cases h1 : MM < V
    · have h1' : (MM : Int) < (V : Int) := by omega
      rw [if_pos h1] at hT
      have HT := Lib.hid hT
      clear hT h1 hr hnl
      go_enter Tryd.func13, Tryd.ntmps13
      go_wp2_with (go_at_call 15; fail)
      refine HNUM.out.mono ?_
      rintro e w1 ⟨rfl, h1⟩
      have H1 := Lib.hid h1
      clear h1
      simp only [rnumV]
      go_wp2
      all_goals
        go_ret3
        rw [HT.out]
        exact ⟨rfl, H1.out⟩
    · have h1' : ¬ (MM : Int) < (V : Int) := by omega
      rw [if_neg h1] at hT
      by_cases h2 : LL < V
      · have h2' : (LL : Int) < (V : Int) := by omega
        rw [if_pos h2] at hT
        have HT := Lib.hid hT
        clear hT h1 h2 hr hnl
        go_enter Tryd.func13, Tryd.ntmps13
        go_wp2_with (go_at_call 15; fail)
        refine HNUM.out.mono ?_
        rintro e w1 ⟨rfl, h1⟩
        have H1 := Lib.hid h1
        clear h1
        simp only [rnumV]
        go_wp2
        all_goals
          go_ret3
          rw [HT.out]
          exact ⟨rfl, H1.out⟩
      · have h2' : ¬ (LL : Int) < (V : Int) := by omega
        rw [if_neg h2] at hT
        obtain ⟨E, hE⟩ : ∃ E, n + V = E := ⟨_, rfl⟩
        rw [hE] at hT
        have hVb : (V : Int) ≤ (LL : Int) := by omega
        have hEnd : ((n : Int) + (V : Int)) = (E : Int) := by omega
        have hq1 : (n : Int) ≤ (E : Int) := by omega
        have hq2 : (E : Int) ≤ (cap : Int) := by have := HC.out; have := HL.out.2; omega
        have hq3 : (E : Int) ≤ 4611686018427387904 := by have := HL.out; omega
        have hwV : wrap64 (V : Int) = (V : Int) := wr_nat V (by omega)
        have hsub : E - n = V := by omega
        have hlen : ((l.drop n).take V).length = V := by rw [List.length_take, List.length_drop, HN.out]; have := HL.out.2; omega
        obtain ⟨AD, hAD⟩ : ∃ AD, (if cap = n then A else Option.map (fun x => Addr.add x n) A) = AD := ⟨_, rfl⟩
        have HCV := Lib.hid (fun (w1 : World) (hb1 : Below w.heap.size w w1) => by
          have h := conv_at (((HB.out.below hb1).drop n cap (by rw [HN.out]; exact HC.out)).take V) (cap - n)
          rw [hlen, hAD] at h
          exact h)
        have HT := Lib.hid hT
        clear hT h1 h2 hr hnl hlen hE
        go_enter Tryd.func13, Tryd.ntmps13
        go_wp2_with (go_at_call 15; fail)
        refine HNUM.out.mono ?_
        rintro e w1 ⟨rfl, h1⟩
        have hcv := HCV.out w1 h1
        have H1 := Lib.hid h1
        clear h1
        simp only [rnumV]
        go_wp2
        all_goals
          go_ret3
          rw [HT.out]
          exact ⟨rfl, H1.out⟩
end Go.Proofs.YtpdpdojaaaipcaaDoor
