import Derived.Test.YtnofnolkdijocaaMostApp
namespace Go.Proofs.Ytnofnolkdijocaa
open Go.RowKit Go.Sort

structure MostRel (w : World) (g n : Nat) (x : Sess) (i : Value) (wr : World) : Prop where
  ex : ∃ k : Nat, k ≤ n ∧ i = .int .i64 k ∧ Blk wr g 28 x.cells ∧ Below w.heap.size w wr
set_option maxHeartbeats 4000000 in
theorem levelMost_big (A B : Option Addr) (ca cb n m : Nat) (now : Int) (w : World) (h : 1000 < n ∨ 1000 < m) (h1 : n ≤ 9223372036854775807) (h2 : m ≤ 9223372036854775807) :
    Calls Try.prog 4 #[.slice A n ca, .slice B m cb, .int .i64 now] w (RetBelow (.bool true) w) := by
  by_cases hn : 1000 < n
  · have hn' : (1000 : Int) < n := by omega
    clear h
    go_enter Try.func4, Try.ntmps4
    go_wp2_with (first | (go_at_call 11; refine (works_any _).mono ?_; rintro e w1 ⟨rfl, hb1⟩))
    go_ret
    exact ⟨rfl, hb1⟩
  · have hm' : (1000 : Int) < m := by omega
    have hn' : ¬ (1000 : Int) < n := by omega
    clear h
    go_enter Try.func4, Try.ntmps4
    go_wp2_with (first | (go_at_call 11; refine (works_any _).mono ?_; rintro e w1 ⟨rfl, hb1⟩))
    go_ret
    exact ⟨rfl, hb1⟩
end Go.Proofs.Ytnofnolkdijocaa
