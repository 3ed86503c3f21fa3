import Derived.Test.YtnofnolkdijocaaMost
import Derived.Test.YtnofnolkdijocaaLent
namespace Go.Proofs.Ytnofnolkdijocaa
open Go.RowKit Go.Sort

theorem own_sess {w : World} {base n : Nat} {v : Value} {zs : List Sess} (h : w.ownsRow base 28 12 v n (flat Sess.cells zs)) (hn : zs.length = n) : ∃ A cap, v = .slice A n cap ∧ n ≤ cap ∧ SessIn w A zs := by
  have h0 := h
  rcases h.2 with ⟨rfl, e⟩ | ⟨g, cap, cur, rfl, h1, h2, h3, _⟩
  · exact ⟨none, 0, by rw [e], by omega, fun h => by omega⟩
  · have hlt : g < w.heap.size := (Array.getElem?_eq_some_iff.1 h2).1
    exact ⟨some ⟨g, 0, none⟩, cap, rfl, h3, fun _ => ⟨g, 0, rfl, hlt, fun k s hs => by rw [Nat.zero_add]; exact own_row Sess.cells_size h0 hs⟩⟩
theorem flat_len : ∀ zs : List Sess, (flat Sess.cells zs).length = zs.length * 12
  | [] => rfl
  | s :: zs => by
    have := flat_len zs
    unfold flat at this ⊢
    rw [List.flatMap_cons, List.length_append, this, List.length_cons]
    simp [Sess.cells]; omega
theorem flat_one : ∀ (zs : List Sess), ∀ u ∈ flat Sess.cells zs, u.oneCell' = true := fun zs u hu => by
  unfold flat at hu
  obtain ⟨s, _, h⟩ := List.mem_flatMap.1 hu
  exact Sess.one s u h
theorem flat_split {xs : List Sess} {j : Nat} {u : Value} (h : (flat Sess.cells xs)[j]? = some u) : ∃ s, xs[j / 12]? = some s ∧ s.cells[j % 12]? = some u := by
  have hj : j < xs.length * 12 := by rw [← flat_len]; exact (List.getElem?_eq_some_iff.1 h).1
  have hk : j / 12 < xs.length := by omega
  obtain ⟨s, hs⟩ : ∃ s, xs[j / 12]? = some s := ⟨_, List.getElem?_eq_getElem hk⟩
  obtain ⟨v, hv⟩ : ∃ v, s.cells[j % 12]? = some v := ⟨_, Array.getElem?_eq_getElem (by rw [Sess.cells_size]; omega)⟩
  have := flat_get Sess.cells_size xs (j / 12) s hs (j % 12) v hv
  rw [show j / 12 * 12 + j % 12 = j from by omega, h] at this
  exact ⟨s, hs, by rw [hv]; exact this.symm⟩
theorem sessInfo : ∃ i z, Try.prog.info? 28 = some i ∧ i.zero = some z ∧ i.size = 12 ∧ i.bytes = 112 ∧ z.cells.size = 12 := by
  obtain ⟨i, h1, h2⟩ := Option.map_eq_some_iff.1 zero28
  injection h2 with h3 h4
  injection h4 with h5 h6
  exact ⟨i, _, h1, h3, h5, h6, rfl⟩

theorem wpList_append_list {ops : Array Oper} {rest : List Oper} {o' : Oper} {a : Act} {w : World} {Q : Exit → Act → World → Prop} (hgd : o'.guard = none) (s x : Operand)
    (ho : o'.op = .call { callee := .builtin .append, args := #[s, x], argTypes := #[22, 22] })
    {base n m c : Nat} {v : Value} {zs xs : List Sess} {A : Option Addr} (hs : a.eval s = v) (hn : zs.length = n) (hown : w.ownsRow base 28 12 v n (flat Sess.cells zs))
    (hx : a.eval x = .slice A m c) (hm : xs.length = m) (hin : SessIn w A xs) (hle : n + m ≤ 2000) (hbase : base ≤ w.heap.size)
    (h : ∀ A' cap' w', w'.ownsRow base 28 12 (.slice A' (n + m) cap') (n + m) (flat Sess.cells (zs ++ xs)) → SessIn w' A' (zs ++ xs) → w.grownBy w' v.ownBlock → wpList Try.prog ops Q rest (a.put o'.dst (.slice A' (n + m) cap')) w') :
    wpList Try.prog ops Q (o' :: rest) a w := by
  obtain ⟨i, z, hi, hz, h12, h112, hzc⟩ := sessInfo
  cases m with
  | zero =>
    obtain rfl : xs = [] := List.eq_nil_of_length_eq_zero hm
    obtain ⟨A0, cap0, rfl, hle0, hin0⟩ := own_sess hown hn
    have hK := h A0 cap0 w (by simpa using hown) (by simpa using hin0) ⟨rfl, rfl, rfl, Nat.le_refl _, fun _ _ _ => rfl⟩
    cases A with
    | none =>
      refine wpList_plain hgd fun K hK' => ?_
      have hrun := run_append_empty (P := Try.prog) w 22 o'.type 28 i Try.underlying22 hi A0 n cap0 c hle0
      unfold Oper.wp
      simp [execOp, ho, resolve, invoke, builtin, hs, hx, hrun, Result.andThen]
      exact hK' _ _ hK
    | some ad =>
      refine wpList_append_own w hgd s x 22 ho base 28 i z 12 112 Try.underlying22 hi hz h12 h112 hzc (by decide) _ n _ hs hown ad 0 c [] hx rfl (by simp) (by simp) (by unfold maxLen; omega) (by omega) hbase ?_
      intro v' w' hown' hgr _
      rw [List.append_nil] at hown'
      obtain ⟨A1, cap1, rfl, _, hin1⟩ := own_sess hown' hn
      exact h A1 cap1 w' (by simpa using hown') (by simpa using hin1) hgr
  | succ m =>
    obtain ⟨b, off, rfl, hb, hrow⟩ := hin (by omega)
    refine wpList_append_own w hgd s x 22 ho base 28 i z 12 112 Try.underlying22 hi hz h12 h112 hzc (by decide) _ n _ hs hown ⟨b, off, none⟩ (m + 1) c (flat Sess.cells xs) hx (by rw [flat_len, hm]) ?_ (flat_one xs) (by unfold maxLen; omega) (by omega) hbase ?_
    · intro j u hu
      obtain ⟨s, hs1, hs2⟩ := flat_split hu
      have := (hrow _ s hs1).at_ _ u hs2
      rw [Addr.add_lit]
      rw [← this]
      congr 2
      omega
    · intro v' w' hown' hgr _
      rw [← flat_append] at hown'
      obtain ⟨A1, cap1, rfl, _, hin1⟩ := own_sess hown' (by rw [List.length_append, hn, hm])
      exact h A1 cap1 w' hown' hin1 hgr
/-- The same, to a list of none. -/
theorem wpList_append_first {ops : Array Oper} {rest : List Oper} {o' : Oper} {a : Act} {w : World} {Q : Exit → Act → World → Prop} (hgd : o'.guard = none) (s x : Operand)
    (ho : o'.op = .call { callee := .builtin .append, args := #[s, x], argTypes := #[22, 22] })
    {base m c : Nat} {v : Value} {xs : List Sess} {A : Option Addr} (hs : a.eval s = v) (hown : w.ownsRow base 28 12 v 0 (flat Sess.cells []))
    (hx : a.eval x = .slice A m c) (hm : xs.length = m) (hin : SessIn w A xs) (hle : m ≤ 2000) (hbase : base ≤ w.heap.size)
    (h : ∀ A' cap' w', w'.ownsRow base 28 12 (.slice A' m cap') m (flat Sess.cells xs) → SessIn w' A' xs → w.grownBy w' v.ownBlock → wpList Try.prog ops Q rest (a.put o'.dst (.slice A' m cap')) w') :
    wpList Try.prog ops Q (o' :: rest) a w :=
  wpList_append_list hgd s x ho (n := 0) (zs := []) hs rfl hown hx hm hin (by omega) hbase fun A' cap' w' h1 h2 h3 => by
    rw [Nat.zero_add] at h1 ⊢
    exact h A' cap' w' h1 h2 h3
end Go.Proofs.Ytnofnolkdijocaa
