/-
  api.Dump opened.
-/
import Derived.Test.YtahcedpfnechfaaDoorOpenSlot
import Derived.Test.YtahcedpfnechfaaDoorAudLD
namespace Go.Proofs.YtahcedpfnechfaaDoor
set_option maxRecDepth 100000
open Go.RowKit Go.Deep Go.ChangeShapes Go.WideShapes

theorem shape_lt {w : World} {b : Nat} {x : TypeId × Nat} (h : w.shape? b = some x) : b < w.heap.size := by
  rcases Nat.lt_or_ge b w.heap.size with hlt | hge
  · exact hlt
  · simp [World.shape?, Array.getElem?_eq_none hge] at h
theorem dumpTypes : Tryd.prog.cellTypes Tryd.prog.depth 25 = some [3, 3, 22, 23, 3, 3] := by kernel_rfl
/-- The lists' addresses are of blocks that are there. -/
theorem okWide_dump {w : World} {r : Reach} {base : Nat} {cs : Array Value} (h : Value.okWide Tryd.prog w r base 25 (.agg cs)) :
    (∀ a n c, cs[2]? = some (.slice (some a) n c) → a.block < w.heap.size) ∧ (∀ a n c, cs[3]? = some (.slice (some a) n c) → a.block < w.heap.size) := by
  simp only [Value.okWide, Tryd.underlying25] at h
  obtain ⟨cs', e, _, ts, hts, _, hc⟩ := h
  injection e with e
  subst e
  rw [dumpTypes] at hts
  injection hts with hts
  subst hts
  constructor
  · intro a n c h2
    obtain ⟨u, hu, ho⟩ := hc 2 _ h2
    obtain rfl : u = 22 := by simpa using hu.symm
    simp only [Cell.okWide, Cell.ok, Tryd.underlying22] at ho
    obtain ⟨_, _, _, _, _, _, hs, _⟩ := ho
    exact shape_lt hs
  · intro a n c h2
    obtain ⟨u, hu, ho⟩ := hc 3 _ h2
    obtain rfl : u = 23 := by simpa using hu.symm
    simp only [Cell.okWide, Cell.ok, Tryd.underlying23] at ho
    obtain ⟨_, _, _, _, _, _, hs, _⟩ := ho
    exact shape_lt hs
section
variable {H : Type} {enc : TypeId × Value → H} {w : World} {base : Nat} {spare : Nat → Bool} {held : Bool}
theorem c_dump : Tryd.prog.cellsOf 25 = 6 := by kernel_rfl
theorem c_slots : Tryd.prog.cellsOf 22 = 1 := by kernel_rfl
theorem c_ints : Tryd.prog.cellsOf 23 = 1 := by kernel_rfl
theorem list6 {α : Type} {l : List α} (h : l.length = 6) : ∃ a0 a1 a2 a3 a4 a5, l = [a0, a1, a2, a3, a4, a5] := by
  match l, h with
  | [a0, a1, a2, a3, a4, a5], _ => exact ⟨a0, a1, a2, a3, a4, a5, rfl⟩
theorem b_slot : Tryd.prog.bytesOf 49 = 144 := by kernel_rfl
theorem b_int : Tryd.prog.bytesOf 3 = 8 := by kernel_rfl
def i64c' (i : Int) : Array Value := #[.int .i64 i]
theorem open_i64' {m : Nat} {cs : List Value} {y : DataW H × List MemPlace} (h : DataW.trod enc Tryd.prog w base spare held m 3 cs = some y) : ∃ i : Int, cs = (i64c' i).toList := by
  obtain ⟨n0, e0, _⟩ := DataW.trod_int Tryd.underlying3 h
  exact ⟨n0, e0⟩
theorem slice_of {t e : TypeId} (hu : Tryd.prog.underlying t = some (.slice e)) {m : Nat} {v : Value} {y : DataW H × List MemPlace} (h : DataW.trod enc Tryd.prog w base spare held m t [v] = some y) : ∃ A n c, v = .slice A n c := by
  rcases open_slice hu h with ⟨hcs, _⟩ | ⟨a, len, cap, _, _, _, _, hcs, _⟩
  · exact ⟨none, 0, 0, by simpa using hcs⟩
  · exact ⟨some a, len, cap, by simpa using hcs⟩
theorem open_dump {m : Nat} {cs : Array Value} {y : DataW H × List MemPlace} (h : DataW.trod enc Tryd.prog w base spare held m 25 cs.toList = some y) {r : Reach} {base' : Nat} (ho : Value.okWide Tryd.prog w r base' 25 (.agg cs))
    (hsz : ∀ n ∈ y.1.weights Tryd.prog 25, n ≤ reachBytes) : ∃ d As c1 Af c2, cs = (DumpV.dc d As c1 Af c2).toArray ∧ DumpFits d ∧ DumpIn w d As Af := by
  obtain ⟨ys, n, _, rfl, hl, hyl, hf⟩ := DataW.trod_struct Tryd.underlying25 h
  obtain ⟨v0, v1, v2, v3, v4, v5, hcs⟩ := list6 (hl.trans c_dump)
  obtain ⟨y0, y1, y2, y3, y4, y5, rfl⟩ := list6 (show ys.length = 6 from hyl)
  rw [hcs] at hf
  have h0 := hf 0 _ rfl
  have h1 := hf 1 _ rfl
  have h2 := hf 2 _ rfl
  have h3 := hf 3 _ rfl
  have h4 := hf 4 _ rfl
  have h5 := hf 5 _ rfl
  obtain ⟨k0, e0, _⟩ := DataW.trod_int Tryd.underlying3 h0
  obtain ⟨k1, e1, _⟩ := DataW.trod_int Tryd.underlying3 h1
  obtain ⟨k4, e4, _⟩ := DataW.trod_int Tryd.underlying3 h4
  obtain ⟨k5, e5, _⟩ := DataW.trod_int Tryd.underlying3 h5
  simp [c_int, c_slots, c_ints] at e0 e1 e4 e5 h2 h3
  obtain ⟨As, ns, c1, rfl⟩ := slice_of Tryd.underlying22 h2
  obtain ⟨Af, nf, c2, rfl⟩ := slice_of Tryd.underlying23 h3
  obtain ⟨xs, hxl, _, hxd, hxr⟩ := open_rows SlotV.cells Tryd.underlying22 c_slot (by decide) SlotV.size (fun m cs y h => open_slot h) h2
  obtain ⟨zs, hzl, _, hzd, hzr⟩ := open_rows i64c' Tryd.underlying23 c_int (by decide) (fun _ => rfl) (fun m cs y h => open_i64' h) h3
  subst hxl hzl e0 e1 e4 e5
  obtain ⟨hb1, hb2⟩ := okWide_dump ho
  have hr : reachBytes = 140737488351232 := by decide
  have hcs' : cs = #[.int .i64 k0, .int .i64 k1, .slice As xs.length c1, .slice Af zs.length c2, .int .i64 k4, .int .i64 k5] := Array.toList_inj.1 hcs
  refine ⟨⟨k0, k1, xs, zs, k4, k5⟩, As, c1, Af, c2, hcs', ⟨?_, ?_⟩, ⟨hxr, fun hn => ?_, fun a e => hb1 a xs.length c1 (by rw [hcs', e]; rfl), fun a e => hb2 a zs.length c2 (by rw [hcs', e]; rfl)⟩⟩
  · rcases hxd with ⟨h0, _⟩ | ⟨el, sp, he, hel⟩
    · show xs.length * 144 ≤ _
      omega
    · have := hsz ((el.length + sp.length) * Tryd.prog.bytesOf 49) (by
        simp only [DataW.weights, Tryd.underlying25]
        refine DataW.weights_mem_each (j := 2) rfl rfl _ ?_
        show _ ∈ DataW.weights _ 22 y2.1
        rw [he]
        simp [DataW.weights, Tryd.underlying22])
      rw [b_slot, hr] at this
      show xs.length * 144 ≤ _
      omega
  · rcases hzd with ⟨h0, _⟩ | ⟨el, sp, he, hel⟩
    · show zs.length * 8 ≤ _
      omega
    · have := hsz ((el.length + sp.length) * Tryd.prog.bytesOf 3) (by
        simp only [DataW.weights, Tryd.underlying25]
        refine DataW.weights_mem_each (j := 3) rfl rfl _ ?_
        show _ ∈ DataW.weights _ 23 y3.1
        rw [he]
        simp [DataW.weights, Tryd.underlying23])
      rw [b_int, hr] at this
      show zs.length * 8 ≤ _
      omega
  · obtain ⟨b, off, e, hl, hc⟩ := hzr hn
    refine ⟨b, off, e, hl, fun k i hk => ?_⟩
    have := (hc k i hk).at_ 0 (.int .i64 i) rfl
    simpa using this
end
end Go.Proofs.YtahcedpfnechfaaDoor
