/-
  lineagelaw17: between two acts; the two gone over at the end.
-/
import Derived.Test.YtbidgpeeogoglaaDoorDoes17A
import Derived.Test.YtbidgpeeogoglaaDoorHk
namespace Go.Proofs.YtbidgpeeogoglaaDoor
set_option maxRecDepth 100000
open Go.RowKit Go.Sort

/-- Between two acts. -/
structure InvT (w3 : World) (q g q2 lo h b : Nat) (k : Nat) (S R : St) (l : Int) (W : World) : Prop where
  gar : Trr w3 q g q2 lo h b S R l l W
  ag : Agree S R
  w0 : 0 ≤ S.writes ∧ 0 ≤ R.writes
  w1 : S.writes ≤ 8 * k ∧ R.writes ≤ 8 * k
section
variable {w3 W W' : World} {q g q2 lo h b k : Nat} {S R : St} {l : Int}
theorem InvT.read (i : InvT w3 q g q2 lo h b k S R l W) (hb : Below W.heap.size W W') : InvT w3 q g q2 lo h b k S R l W' := ⟨i.gar.call hb, i.ag, i.w0, i.w1⟩
theorem InvT.does (i : InvT w3 q g q2 lo h b k S R l W) (x : ActT) (hk : k < 10000) (hL : Laid w3) (hge : 0 < g ∧ 0 < lo ∧ 0 < q ∧ 0 < q2) :
    Calls Tryd.prog 12 #[.pointer (some ⟨g, 0, none⟩), .pointer (some ⟨q, 0, none⟩), .pointer (some ⟨q2, 0, none⟩), .agg x.cells] W (fun e w' => e = .returned (.bool true) ∧ ∃ S' R' l', InvT w3 q g q2 lo h b (k + 1) S' R' l' w') := by
  have h0 := i.w0
  have h1 := i.w1
  have ap := i.gar.ap.loh
  have h2 := act17_writes R l x
  exact (does17_any x W (show Trr W q g q2 lo h b S R l l W from Both.here i.gar) i.ag (Both.laid i.gar hL (by omega)) hge h0.1 (by omega) h0.2 (by omega)).mono fun e w' ⟨h3, S', t, ag, h4, h5⟩ =>
    ⟨h3, S', _, _, ⟨Both.trans i.gar t, ag, ⟨by omega, by omega⟩, ⟨by omega, by omega⟩⟩⟩
/-- .. and what has lain there all along. -/
theorem InvT.below {n : Nat} (i : InvT w3 q g q2 lo h b k S R l W) (hn : n ≤ g ∧ n ≤ q ∧ n ≤ q2 ∧ n ≤ lo ∧ n ≤ w3.heap.size) : Below n w3 W := Both.below i.gar hn.1 hn.2.1 hn.2.2.1 hn.2.2.2.1 hn.2.2.2.2
end
end Go.Proofs.YtbidgpeeogoglaaDoor
