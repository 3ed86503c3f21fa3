import Derived.Test.YtnofnolkdijocaaMostA
import Derived.Test.YtnofnolkdijocaaMostB
import Derived.Test.YtnofnolkdijocaaMostC
import Derived.Test.YtnofnolkdijocaaMostD
namespace Go.Proofs.Ytnofnolkdijocaa
open Go.RowKit Go.Sort

theorem levelMost_any (A : Option Addr) (ca : Nat) (xs : List Sess) (B : Option Addr) (cb : Nat) (ys : List Sess) (now : Int) (w : World) (hA : SessIn w A xs) (hx : xs.length * 112 ≤ 140737488351232) (hB : SessIn w B ys) (hy : ys.length * 112 ≤ 140737488351232) :
    Calls Try.prog 4 #[.slice A xs.length ca, .slice B ys.length cb, .int .i64 now] w (RetBelow (.bool true) w) := by
  by_cases hbig : 1000 < xs.length ∨ 1000 < ys.length
  · exact levelMost_big A B ca cb _ _ now w hbig (by omega) (by omega)
  have hx1 : xs.length ≤ 1000 := by omega
  have hy1 : ys.length ≤ 1000 := by omega
  have pr : ∀ l, bestOf now l = ((bestOf now l).1, (bestOf now l).2) := fun l => rfl
  rcases best_both now xs ys with ⟨h1, h2⟩ | ⟨h1, h2⟩ | ⟨h1, h2, h3⟩
  · have ex : bestOf now xs = ((bestOf now xs).1, true) := by rw [← h1]
    exact most_A A B ca cb xs ys now w hA hB hx1 hy1 (bestOf now xs).1 (bestOf now ys).1 (bestOf now ys).2 ex rfl (by rw [h2]; exact ex)
  · have ey : bestOf now ys = ((bestOf now ys).1, true) := by rw [← h1]
    cases h : (bestOf now xs).2
    · have ex : bestOf now xs = (Sess.zero, false) := Prod.ext (best_none now xs h) h
      exact most_C A B ca cb xs ys now w hA hB hx1 hy1 (bestOf now ys).1 ex ey (by rw [h2]; exact ey)
    · have ex : bestOf now xs = ((bestOf now xs).1, true) := by rw [← h]
      exact most_B A B ca cb xs ys now w hA hB hx1 hy1 (bestOf now xs).1 (bestOf now ys).1 ex ey (by rw [h2]; exact ey)
  · have ex : bestOf now xs = (Sess.zero, false) := Prod.ext (best_none now xs h1) h1
    have ey : bestOf now ys = ((bestOf now ys).1, false) := by rw [← h2]
    have ez : bestOf now (xs ++ ys) = ((bestOf now (xs ++ ys)).1, false) := by rw [← h3]
    exact most_D A B ca cb xs ys now w hA hB hx1 hy1 (bestOf now ys).1 (bestOf now (xs ++ ys)).1 ex ey ez
end Go.Proofs.Ytnofnolkdijocaa
