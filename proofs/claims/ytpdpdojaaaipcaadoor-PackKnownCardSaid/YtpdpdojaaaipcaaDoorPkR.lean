/-
  pack's reader: where it stands; Open, Left, one.
-/
import Derived.Test.YtpdpdojaaaipcaaDoorPkW
import Derived.Test.YtpdpdojaaaipcaaDoorErrno
namespace Go.Proofs.YtpdpdojaaaipcaaDoor
set_option maxRecDepth 100000
open Go.RowKit

/-- The reader at g goes over the bytes b (its row: v), and stands at k. -/
structure IsR (w : World) (g : Nat) (v : Value) (b : List UInt8) (k : Nat) : Prop where
  blk : Blk w g 47 #[v, .int .i64 (k : Int)]
  own : ∃ base, w.ownsRow base 5 1 v b.length (byv b)
  ne : some g ≠ v.ownBlock
  le : k ≤ b.length
theorem IsR.below {w w' : World} {g B : Nat} {v : Value} {b : List UInt8} {k : Nat} (h : IsR w g v b k) (hb : Below B w w') (hB : w.heap.size ≤ B) : IsR w' g v b k :=
  ⟨h.blk.below hb (Nat.lt_of_lt_of_le h.blk.lt hB), h.own.imp fun _ ho => own_below ho (hb.mono hB), h.ne, h.le⟩
/-- The reader goes on. -/
theorem IsR.to {w : World} {g : Nat} {v : Value} {b : List UInt8} {k : Nat} (h : IsR w g v b k) (j : Nat) (hj : j ≤ b.length) : IsR (w.setCell ⟨g, 1, none⟩ (.int .i64 (j : Int))) g v b j :=
  ⟨h.blk.set_ 1 _, h.own.imp fun _ ho => ho.kept (row := some g) ⟨rfl, rfl, rfl, by simp, fun k hk hne => Below.heap_setCell w ⟨g, 1, none⟩ _ k (fun e => hne (by rw [e]))⟩ (.inr (Ne.symm h.ne)), h.ne, hj⟩
theorem bel_drw (w : World) : Below w.heap.size w w.drew := ⟨rfl, rfl, rfl, Nat.le_refl _, fun _ _ => rfl⟩
theorem open_r (A : Option Addr) (cap : Nat) (b : List UInt8) (hl : b.length ≤ 140737488355328) (hnil : A = none → cap = 0 ∧ b = []) (w : World) (hb : BytesAt w A b) :
    Calls Tryd.prog 6 #[.slice A b.length cap] w fun e w' => ∃ g v, e = .returned (.pointer (some ⟨g, 0, none⟩)) ∧ w.heap.size ≤ g ∧ IsR w' g v b 0 ∧ Below w.heap.size w w' := by
  have HC := Lib.hid (clone_any A cap b hl hnil w hb)
  clear hb hnil hl
  obtain ⟨N, hN⟩ : ∃ N, b.length = N := ⟨_, rfl⟩
  rw [hN]
  rw [hN] at HC
  have HN := Lib.hid hN
  clear hN
  go_enter Tryd.func6, Tryd.ntmps6
  go_wp2_with (go_at_call 20; fail)
  refine HC.out.mono ?_
  rintro e w1 ⟨v', rfl, h1, h2⟩
  obtain ⟨p', c', rfl⟩ := pk_slice h1
  have H1 := Lib.hid h1
  have H2 := Lib.hid h2
  clear h1 h2
  go_wp2
  go_ret
  refine ⟨w1.heap.size, .slice p' N c', rfl, H2.out.size, ⟨Blk.new w1 47 #[.slice p' N c', .int .i64 0], ⟨w.heap.size, ?_⟩, ?_, Nat.zero_le _⟩, H2.out.alloc H2.out.size (.cells #[.slice p' N c', .int .i64 0] 47)⟩
  · rw [HN.out]; exact H1.out.alloc _
  · intro e
    have := (H1.out.lt _ e.symm).2
    omega
theorem left_r (g : Nat) (v : Value) (b : List UInt8) (k : Nat) (hl : b.length < 9223372036854775807) (w : World) (h : IsR w g v b k) :
    Calls Tryd.prog 9 #[.pointer (some ⟨g, 0, none⟩)] w (RetB (.int .i64 ((b.length - k : Nat) : Int)) w) := by
  obtain ⟨base, ho⟩ := h.own
  obtain ⟨p', c', rfl⟩ := pk_slice ho
  have c0 := h.blk.cell 0
  have c1 := h.blk.cell 1
  simp only [List.getElem?_toArray, List.getElem?_cons_zero, List.getElem?_cons_succ] at c0 c1
  have hle := h.le
  have hw : wrap64 ((b.length : Int) - (k : Int)) = ((b.length - k : Nat) : Int) := by rw [IntWalk.wrap64_in _ (by omega)]; omega
  obtain ⟨M, hM⟩ : ∃ M : Nat, b.length - k = M := ⟨_, rfl⟩
  rw [hM] at hw ⊢
  clear h ho hle hM
  generalize b.length = N at *
  go_enter Tryd.func9, Tryd.ntmps9
  go_wp2
  go_region
  go_wp2
  go_ret
  refine ⟨?_, bel_drw w⟩
  show Ending.returned (.int .i64 (wrap64 ((N : Int) - (k : Int)))) = _
  rw [hw]
theorem grownBy_set (W : World) (g i : Nat) (u : Value) : W.grownBy (W.setCell ⟨g, i, none⟩ u) (some g) := ⟨rfl, rfl, rfl, by simp, fun k hk hne => Below.heap_setCell W ⟨g, i, none⟩ u k (fun e => hne (by rw [e]))⟩
/-- What a panic with one of the program's numbers is. -/
def pnk (k : Int) : Ending := .panicked [{ v := errno k, recovered := false }]
theorem grownBy_drew (w : World) (r : Option Nat) : w.grownBy w.drew r := ⟨rfl, rfl, rfl, Nat.le_refl _, fun _ _ _ => rfl⟩
theorem one_none (g : Nat) (v : Value) (b : List UInt8) (k : Nat) (hl : b.length < 9223372036854775807) (hk : b.length ≤ k) (w : World) (h : IsR w g v b k) :
    Calls Tryd.prog 40 #[.pointer (some ⟨g, 0, none⟩)] w fun e w' => e = pnk 2 ∧ IsR w' g v b k ∧ w.grownBy w' (some g) := by
  obtain ⟨base, ho⟩ := h.own
  obtain ⟨p', c', rfl⟩ := pk_slice ho
  have HR := Lib.hid h
  have c0 := h.blk.cell 0
  have c1 := h.blk.cell 1
  simp only [List.getElem?_toArray, List.getElem?_cons_zero, List.getElem?_cons_succ] at c0 c1
  obtain ⟨N, hN⟩ : ∃ N, b.length = N := ⟨_, rfl⟩
  rw [hN] at HR c0 hk ⊢
  have hNk : (N : Int) ≤ (k : Int) := by omega
  have HN := Lib.hid hN
  clear h ho hN hl
  go_enter Tryd.func40, Tryd.ntmps40
  go_wp2
  go_region
  go_wp2
  exact ⟨rfl, rfl, HR.out.below (bel_drw w) (Nat.le_refl _), grownBy_drew w _⟩
set_option maxHeartbeats 1000000 in
theorem one_some (g : Nat) (v : Value) (b : List UInt8) (k : Nat) (x : UInt8) (hl : b.length < 9223372036854775807) (hk : b[k]? = some x) (w : World) (h : IsR w g v b k) :
    Calls Tryd.prog 40 #[.pointer (some ⟨g, 0, none⟩)] w fun e w' => e = .returned (.int .u8 (x.toNat : Int)) ∧ IsR w' g v b (k + 1) ∧ w.grownBy w' (some g) := by
  have hkl : k < b.length := (List.getElem?_eq_some_iff.1 hk).1
  obtain ⟨base, ho⟩ := h.own
  obtain ⟨p', c', rfl⟩ := pk_slice ho
  have HR := Lib.hid h
  have c0 := h.blk.cell 0
  have c1 := h.blk.cell 1
  have z1 := h.blk.frozen 1
  simp only [List.getElem?_toArray, List.getElem?_cons_zero, List.getElem?_cons_succ] at c0 c1
  have hgl := h.blk.lt
  obtain ⟨bb, rfl⟩ : ∃ bb, p' = some ⟨bb, 0, none⟩ := by
    obtain ⟨gg, cc, e⟩ := own_form ho (by omega)
    injection e with e1 _ _
    exact ⟨gg, e1⟩
  have hx : w.cell? ⟨bb, k, none⟩ = some (.int .u8 (x.toNat : Int)) := by
    have := ho.cells rfl k (.int .u8 (x.toNat : Int)) (by unfold byv u8v; rw [List.getElem?_map, List.getElem?_map, hk]; rfl)
    rwa [Addr.add_lit, Nat.zero_add] at this
  have hbl := (ho.lt bb rfl).2
  have hne : g ≠ bb := fun e => h.ne (by rw [e]; rfl)
  obtain ⟨N, hN⟩ : ∃ N, b.length = N := ⟨_, rfl⟩
  rw [hN] at HR c0 hkl ⊢
  have hNk : (k : Int) < (N : Int) := by omega
  have hw : wrap64 ((k : Int) + 1) = (k : Int) + 1 := IntWalk.wrap64_in _ (by omega)
  have hw3 : wrap64 (k : Int) = (k : Int) := IntWalk.wrap64_in _ (by omega)
  have hw2 : wrap64 ((k : Int) + 1 - 1) = (k : Int) := by rw [show (k : Int) + 1 - 1 = (k : Int) by omega]; exact IntWalk.wrap64_in _ (by omega)
  obtain ⟨V, hV⟩ : ∃ V, w.drew.setCell ⟨g, 1, none⟩ (.int .i64 ((k : Int) + 1)) = V := ⟨_, rfl⟩
  have hR1 : IsR w.drew g (.slice (some ⟨bb, 0, none⟩) N c') b k := HR.out.below (bel_drw w) (Nat.le_refl _)
  have hR2 : IsR V g (.slice (some ⟨bb, 0, none⟩) N c') b (k + 1) := by
    rw [← hV]; have := hR1.to (k + 1) (by omega); simpa using this
  have hG : w.grownBy V (some g) := by
    rw [← hV]
    have h2 := grownBy_set w.drew g 1 (.int .i64 ((k : Int) + 1))
    exact ⟨h2.os, h2.tape, h2.output, h2.size, h2.block⟩
  have d0 := hR2.blk.cell 0
  have d1 := hR2.blk.cell 1
  simp only [List.getElem?_toArray, List.getElem?_cons_zero, List.getElem?_cons_succ] at d0 d1
  have dx : V.cell? ⟨bb, k, none⟩ = some (.int .u8 (x.toNat : Int)) := by
    obtain ⟨base2, ho2⟩ := hR2.own
    rw [← hN] at ho2
    have := ho2.cells rfl k (.int .u8 (x.toNat : Int)) (by unfold byv u8v; rw [List.getElem?_map, List.getElem?_map, hk]; rfl)
    rwa [Addr.add_lit, Nat.zero_add] at this
  have HN := Lib.hid hN
  have HR2 := Lib.hid hR2
  have HG := Lib.hid hG
  clear h ho hN hl hk hR1 hR2 hG
  go_enter Tryd.func40, Tryd.ntmps40
  go_wp2
  go_region
  go_wp2
  go_region
  go_wp2
  go_ret
  exact ⟨rfl, HR2.out.below (bel_drw V) (Nat.le_refl _), HG.out.os.trans rfl, HG.out.tape, HG.out.output, HG.out.size, HG.out.block⟩
end Go.Proofs.YtpdpdojaaaipcaaDoor
