import Derived.Test.YtnofnolkdijocaaSess
namespace Go.Proofs.Ytnofnolkdijocaa
open Go.RowKit Go.Sort

def Sess.better (s t : Sess) : Bool := if s.level != t.level then decide (s.level > t.level) else if s.deadline != t.deadline then decide (s.deadline > t.deadline) else decide (s.birth < t.birth)
def RetBelow (v : Value) (w : World) (e : Ending) (w' : World) : Prop := e = .returned v ∧ Below w.heap.size w w'

set_option maxHeartbeats 400000 in
theorem better_any (s t : Sess) (w : World) : Calls Try.prog 20 #[.agg s.cells, .agg t.cells] w (RetBelow (.bool (s.better t)) w) := by
  go_enter Try.func20, Try.ntmps20
  go_wp2
  all_goals
    go_ret
    refine ⟨?_, by go_grown⟩
    simp [Sess.better, *]
/-- The sessions xs lie in a row from offset o of block b on. -/
def SessRow (w : World) (b o : Nat) (xs : List Sess) : Prop := ∀ k s, xs[k]? = some s → RowAt w b (o + k * 12) s.cells

/-- The slice with the address A holds the sessions xs. -/
def SessIn (w : World) (A : Option Addr) (xs : List Sess) : Prop := 0 < xs.length → ∃ b off, A = some ⟨b, off, none⟩ ∧ b < w.heap.size ∧ SessRow w b off xs
theorem SessIn.below {w w' : World} {A : Option Addr} {xs : List Sess} (h : SessIn w A xs) (hb : Below w.heap.size w w') : SessIn w' A xs := fun hn => by
  obtain ⟨b, off, e, hlt, hr⟩ := h hn
  exact ⟨b, off, e, Nat.lt_of_lt_of_le hlt hb.size, fun k s hs => (hr k s hs).below hb hlt⟩

def bestStep (now : Int) (b : Sess × Bool) (s : Sess) : Sess × Bool :=
  if decide (now < s.deadline) && (!b.2 || s.better b.1) then (s, true) else b
def bestOf (now : Int) (l : List Sess) : Sess × Bool := l.foldl (bestStep now) (Sess.zero, false)
theorem bestOf_snoc (now : Int) (l : List Sess) (s : Sess) : bestOf now (l ++ [s]) = bestStep now (bestOf now l) s := by simp [bestOf]

/-- What holds at the head of a round of Best. -/
def BestRel (w : World) (now : Int) (xs : List Sess) (f i : Value) (wr : World) : Prop :=
  ∃ k : Nat, k ≤ xs.length ∧ i = .int .i64 k ∧ f = .bool (bestOf now (xs.take k)).2 ∧ Blk wr (w.heap.size + 1) 28 (bestOf now (xs.take k)).1.cells ∧ Blk wr w.heap.size 28 Sess.zero.cells ∧ Below w.heap.size w wr

theorem BestRel.next {w w' : World} {now : Int} {xs : List Sess} {k : Nat} {f i : Value} {s : Sess} (hk : k < xs.length) (hs : xs[k]? = some s) (hi : i = .int .i64 (k + 1 : Int))
    (hf : f = .bool (bestStep now (bestOf now (xs.take k)) s).2) (h1 : Blk w' (w.heap.size + 1) 28 (bestStep now (bestOf now (xs.take k)) s).1.cells) (h0 : Blk w' w.heap.size 28 Sess.zero.cells) (hb : Below w.heap.size w w') : BestRel w now xs f i w' := by
  have hbo : bestOf now (xs.take (k + 1)) = bestStep now (bestOf now (xs.take k)) s := by
    rw [← bestOf_snoc, List.take_add_one, hs]; rfl
  refine ⟨k + 1, by omega, by rw [hi]; rfl, by rw [hbo]; exact hf, by rw [hbo]; exact h1, h0, hb⟩

set_option maxHeartbeats 1000000 in
theorem best_any (A : Option Addr) (cap : Nat) (xs : List Sess) (now : Int) (w : World) (hr : SessIn w A xs) (hl : xs.length ≤ 9223372036854775807) :
    Calls Try.prog 9 #[.slice A xs.length cap, .int .i64 now] w (RetBelow (.tuple #[.agg (bestOf now xs).1.cells, .bool (bestOf now xs).2]) w) := by
  have HR := Lib.hid hr; clear hr
  go_enter Try.func9, Try.ntmps9
  go_wp2
  go_loopw [7, 12] (BestRel w now xs) (fun _ i _ => xs.length - (intOf i).toNat)
  case atStart => exact ⟨0, Nat.zero_le _, rfl, rfl, Blk.new_at (cs := Sess.zero.cells) (by simp), (Blk.new w 28 Sess.zero.cells).alloc _, by go_grown⟩
  case round =>
    obtain ⟨k, hk, rfl, rfl, hB1, hB0, hbel⟩ := hrel
    by_cases hlt : k < xs.length
    · obtain ⟨s, hs⟩ : ∃ s, xs[k]? = some s := ⟨_, List.getElem?_eq_getElem hlt⟩
      obtain ⟨b, off, rfl, hb, hrow⟩ := HR.out (by omega)
      have hat := (hrow k s hs).below hbel hb
      have HN0 := fun w' f i => @BestRel.next w w' now xs k f i s hlt hs
      generalize bestOf now (xs.take k) = bb at HN0 hB1
      have HN := Lib.hid HN0
      obtain ⟨best, found⟩ := bb
      have hz := hB1.lt
      have HB1 := Lib.hid hB1
      have HB0 := Lib.hid hB0
      have HAT := Lib.hid hat
      clear hs hB1 hB0 HR hat HN0 hrow
      by_cases hd : now < s.deadline
      · cases found
        · go_wp2_with (first
            | (refine wpList_load_at rfl rfl rfl HAT.out rfl rfl info28 ?_)
            | (refine wpList_store_new rfl rfl rfl rfl rfl (Sess.one _) info28 ?_)
            | (refine wpList_load_at rfl rfl rfl (Blk.new wr 28 s.cells).row rfl rfl info28 ?_)
            | (refine wpList_store_all rfl rfl rfl rfl (HB1.out.alloc _) rfl (Sess.one _) info28 ?_))
          go_roundw
          case rel =>
            refine HN.out _ _ _ rfl ?_ ?_ ?_ ?_
            · simp [bestStep, hd]
            · simp only [bestStep, hd]; exact (HB1.out.alloc _).setRow_same _
            · exact (HB0.out.alloc _).setRow_ne (by omega) _
            · exact bel_setRow (hbel.alloc hbel.size _) (by omega) _
          case measure => simp [intOf]; omega
        · go_wp2_with (first
            | (refine wpList_load_at rfl rfl rfl HAT.out rfl rfl info28 ?_)
            | (refine wpList_store_new rfl rfl rfl rfl rfl (Sess.one _) info28 ?_)
            | (refine wpList_load_at rfl rfl rfl (Blk.new wr 28 s.cells).row rfl rfl info28 ?_)
            | (refine wpList_load_at rfl rfl rfl (HB1.out.alloc (.cells s.cells 28)).row rfl rfl info28 ?_)
            | (go_at_call 20; fail))
          refine (better_any _ _ _).mono ?_
          rintro e w1 ⟨rfl, hb1⟩
          have HR1 := Lib.hid ((Blk.new wr 28 s.cells).below hb1 (by simp))
          have HBB := Lib.hid ((HB1.out.alloc (.cells s.cells 28)).below hb1 (by simp; omega))
          have HBZ := Lib.hid ((HB0.out.alloc (.cells s.cells 28)).below hb1 (by simp; omega))
          have hbel1 : Below w.heap.size w w1 := (hbel.alloc hbel.size _).trans (hb1.mono (by simp; have := hbel.size; omega))
          clear HB1 HB0 HAT hb1
          go_wp2_with (first
            | (refine wpList_load_at rfl rfl rfl HR1.out.row rfl rfl info28 ?_)
            | (refine wpList_store_all rfl rfl rfl rfl HBB.out rfl (Sess.one _) info28 ?_))
          · have hbt : s.better best = true := by assumption
            go_roundw
            case rel =>
              refine HN.out _ _ _ rfl ?_ ?_ ?_ ?_
              · simp [bestStep, hd, hbt]
              · simp only [bestStep, hd, hbt]; exact HBB.out.setRow_same _
              · exact HBZ.out.setRow_ne (by omega) _
              · exact bel_setRow hbel1 (by omega) _
            case measure => simp [intOf]; omega
          · have hbt : s.better best = false := by assumption
            go_roundw
            case rel =>
              refine HN.out _ _ _ rfl ?_ ?_ ?_ ?_
              · simp [bestStep, hd, hbt]
              · simp only [bestStep, hd, hbt]; exact HBB.out
              · exact HBZ.out
              · exact hbel1
            case measure => simp [intOf]; omega
      · go_wp2_with (first
            | (refine wpList_load_at rfl rfl rfl HAT.out rfl rfl info28 ?_)
            | (refine wpList_store_new rfl rfl rfl rfl rfl (Sess.one _) info28 ?_))
        go_roundw
        case rel =>
          refine HN.out _ _ _ rfl ?_ ?_ ?_ ?_
          · simp [bestStep, hd]
          · simp only [bestStep, hd]; exact HB1.out.alloc _
          · exact HB0.out.alloc _
          · exact hbel.alloc hbel.size _
        case measure => simp [intOf]; omega
    · go_wp2_with (first
            | (refine wpList_load_at rfl rfl rfl hB1.row rfl rfl info28 ?_)
            | (refine wpList_store_all rfl rfl rfl rfl hB0 rfl (Sess.one _) info28 ?_))
      have ht : xs.take k = xs := List.take_of_length_le (by omega)
      refine bodyPost_ret (results_at_tmp rfl rfl (hB0.setRow_same _).row rfl rfl info28) rfl ⟨?_, bel_setRow hbel (Nat.le_refl _) _⟩
      simp [ht]
end Go.Proofs.Ytnofnolkdijocaa
