/-
  The audit: the document's fault.
-/
import Derived.Test.YtahcedpfnechfaaDoorAudKP
namespace Go.Proofs.YtahcedpfnechfaaDoor
set_option maxRecDepth 100000
open Go.RowKit Go.Sort

def tR : Option Int → List Value
  | none => [.bool false, .int .i64 0]
  | some a => [.bool true, .int .i64 a]
section
variable {w : World} {L : Nat} {ty : TypeId} {t : List Value} {d : DumpV} {As : Option Addr} {cs : Nat} {Af : Option Addr} {cf : Nat} {M : List Int}
theorem LookAt.tail (h : LookAt w L ty t d As cs Af cf M) {j : Nat} {v : Value} (hv : t[j]? = some v) : w.cell? ⟨L, 38 + j, none⟩ = some v := (h.blk.cell (38 + j)).trans ((lookC_t rfl h.len j).trans hv)
theorem LookAt.sett (h : LookAt w L ty t d As cs Af cf M) (j : Nat) (v : Value) : LookAt (w.setCell ⟨L, 38 + j, none⟩ v) L ty (t.set j v) d As cs Af cf M := by
  have hb : ∀ a : Addr, a.block ≠ L → (w.setCell ⟨L, 38 + j, none⟩ v).heap[a.block]? = w.heap[a.block]? := fun a ha => Below.heap_setCell w ⟨L, 38 + j, none⟩ _ a.block ha
  refine ⟨?_, h.len, h.slots.kept (by simp) fun a e _ => hb a (h.ne.1 a e), h.free.kept (by simp) fun a e _ => hb a (h.ne.2 a e), h.ne⟩
  have h2 := h.blk.set_ (38 + j) v
  rwa [lookC_sett rfl h.len] at h2
end
/-- The document's look: what is wrong, and the marks. -/
def RLook (L : Nat) (d : DumpV) (As : Option Addr) (cs : Nat) (Af : Option Addr) (cf : Nat) (r : Option Int × List Int) (w : World) : Prop := LookAt w L 28 (tR r.1) d As cs Af cf r.2
set_option maxHeartbeats 4000000 in
theorem rfault_any (d : DumpV) (L : Nat) (As : Option Addr) (cs : Nat) (Af : Option Addr) (cf : Nat) (M : List Int) (i : Int) (w : World) (h : RLook L d As cs Af cf (none, M) w) :
    Calls Tryd.prog 35 #[.pointer (some ⟨L, 0, none⟩), .int .i64 i] w (fun e w' => e = .returned (.tuple #[]) ∧ RLook L d As cs Af cf (some (placeI i), M) w' ∧ TnL L w w') := by
  have hh : LookAt w L 28 (tR none) d As cs Af cf M := h
  have x0 := hh.tail (j := 0) rfl
  have x1 := hh.tail (j := 1) rfl
  have f0 := hh.blk.frozen 38
  have f1 := hh.blk.frozen 39
  have h1 := hh.sett 0 (.bool true)
  have h2 := h1.sett 1 (.int .i64 (-1))
  have H2 := Lib.hid h2
  have T2 := Lib.hid ((TnL.set L 38 w (.bool true)).trans (TnL.set L 39 _ (.int .i64 (-1))))
  have HT := Lib.hid (rthere_any i ((w.setCell ⟨L, 38, none⟩ (.bool true)).setCell ⟨L, 39, none⟩ (.int .i64 (-1))))
  simp only [Nat.add_zero, Nat.reduceAdd] at x0 x1
  clear h hh h1 h2
  go_enter Tryd.func35, Tryd.ntmps35
  rcases inR_cases i with hi | hi
  · rw [hi] at HT
    have HP := Lib.hid (show placeI i = i from if_pos hi)
    clear hi
    go_wp2_with (go_at_call 33; fail)
    refine HT.out.mono ?_
    rintro e w' ⟨rfl, rfl⟩
    have y1 := H2.out.tail (j := 1) rfl
    have g1 := H2.out.blk.frozen 39
    have H3 := Lib.hid (H2.out.sett 1 (.int .i64 i))
    have T3 := Lib.hid (T2.out.trans (TnL.set L 39 _ (.int .i64 i)))
    go_wp2
    go_end0
    refine ⟨rfl, ?_, T3.out⟩
    show LookAt _ L _ (tR (some (placeI i))) d As cs Af cf M
    rw [HP.out]
    exact H3.out
  · rw [hi] at HT
    have HP := Lib.hid (show placeI i = -1 from if_neg (by rw [hi]; simp))
    clear hi
    go_wp2_with (go_at_call 33; fail)
    refine HT.out.mono ?_
    rintro e w' ⟨rfl, rfl⟩
    go_wp2
    go_end0
    refine ⟨rfl, ?_, T2.out⟩
    show LookAt _ L _ (tR (some (placeI i))) d As cs Af cf M
    rw [HP.out]
    exact H2.out
end Go.Proofs.YtahcedpfnechfaaDoor
