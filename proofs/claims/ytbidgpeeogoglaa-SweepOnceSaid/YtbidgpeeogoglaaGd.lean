/-
  Merged texts: RgOps, RgPush, RgDrop, RgLaw, RgSt, RgSp, ArGet.
-/
import Derived.Test.YtbidgpeeogoglaaGc
import Derived.BigRegion
import Derived.Deep.RegionHeld3
/-
  Package ring: there, of, set, well, at an arena that is S.
-/
namespace Go.Proofs.Ytbidgpeeogoglaa
set_option maxRecDepth 100000
open Go.RowKit

def inR (i : Int) : Bool := decide (0 ≤ i) && decide (i < 32)
/-- A slot's two links; none, if it is no slot. -/
def St.lk (S : St) (i : Int) : Int × Int := if 0 ≤ i ∧ i < 32 then match S.slots[i.toNat]? with | some s => (s.prev, s.next) | none => (-1, -1) else (-1, -1)
/-- A slot is given links, if it has others. -/
def St.link (S : St) (i p n : Int) : St := if (0 ≤ i ∧ i < 32) ∧ S.lk i ≠ (p, n) then match S.slots[i.toNat]? with | some s => S.put i.toNat { s with prev := p, next := n } | none => S else S
def St.well (S : St) (i : Int) : Bool := inR (S.lk i).1 && inR (S.lk i).2 && ((S.lk (S.lk i).1).2 == i) && ((S.lk (S.lk i).2).1 == i)
theorem St.lk_out (S : St) {i : Int} (h : ¬ (0 ≤ i ∧ i < 32)) : S.lk i = (-1, -1) := by unfold St.lk; rw [if_neg h]
theorem St.lk_in (S : St) {k : Nat} (hk : k < 32) {s : SlotV} (hs : S.slots[k]? = some s) : S.lk (k : Int) = (s.prev, s.next) := by
  unfold St.lk; rw [if_pos (by omega)]; simp [hs]
theorem St.link_out (S : St) {i : Int} (h : ¬ (0 ≤ i ∧ i < 32)) (p n : Int) : S.link i p n = S := by unfold St.link; rw [if_neg (fun h2 => h h2.1)]
theorem St.link_same (S : St) {i : Int} {p n : Int} (h : S.lk i = (p, n)) : S.link i p n = S := by unfold St.link; rw [if_neg (fun h2 => h2.2 h)]
theorem St.link_in (S : St) {k : Nat} (hk : k < 32) {s : SlotV} (hs : S.slots[k]? = some s) {p n : Int} (h : (s.prev, s.next) ≠ (p, n)) : S.link (k : Int) p n = S.put k { s with prev := p, next := n } := by
  unfold St.link
  rw [if_pos ⟨by omega, by rw [S.lk_in hk hs]; exact h⟩]
  simp [hs]
theorem IsAr.slot {w : World} {g : Nat} {S : St} (h : IsAr w g S) {k : Nat} (hk : k < 32) : ∃ s, S.slots[k]? = some s := ⟨_, List.getElem?_eq_getElem (by rw [h.len]; exact hk)⟩
theorem SlotV.c3 (s : SlotV) : (SlotV.cells s)[3]? = some (.int .i64 s.prev) := rfl
theorem SlotV.c4 (s : SlotV) : (SlotV.cells s)[4]? = some (.int .i64 s.next) := rfl

theorem rthere_any (i : Int) (w : World) : Calls Try.prog 44 #[.int .i64 i] w (RetSame (.bool (inR i)) w) := by
  by_cases h0 : 0 ≤ i
  · by_cases h1 : i < 32
    · have e : inR i = true := by simp [inR, h0, h1]
      rw [e]
      go_enter Try.func44, Try.ntmps44
      go_wp2
      go_ret
      exact ⟨rfl, rfl⟩
    · have e : inR i = false := by simp [inR, h1]
      rw [e]
      go_enter Try.func44, Try.ntmps44
      go_wp2
      go_ret
      exact ⟨rfl, rfl⟩
  · have e : inR i = false := by simp [inR, h0]
    rw [e]
    go_enter Try.func44, Try.ntmps44
    go_wp2
    go_ret
    exact ⟨rfl, rfl⟩
/-- A slot's links as the code holds them. -/
def lkV (x : Int × Int) : Value := .agg #[.int .i64 x.1, .int .i64 x.2]
theorem linksInfo : (Try.prog.info? 82).map (·.size) = some 2 := by kernel_rfl
set_option maxHeartbeats 2000000 in
theorem of_any {S : St} (i : Int) (g : Nat) (w : World) (h : IsAr w g S) : Calls Try.prog 47 #[.pointer (some ⟨g, 0, none⟩), .int .i64 i] w (RetB (lkV (S.lk i)) w) := by
  have HA := Lib.hid (h.block (Below.heap_alloc w (.cells #[.int .i64 0, .int .i64 0] 82) g h.lt))
  have HUS := Lib.hid Try.underlying57
  have HUL := Lib.hid Try.underlying82
  have hb0 := (Below.refl w.heap.size w).alloc (Nat.le_refl _) (.cells #[.int .i64 0, .int .i64 0] 82)
  have HB0 := Lib.hid hb0
  clear h hb0
  by_cases hi : 0 ≤ i ∧ i < 32
  · obtain ⟨k, rfl⟩ : ∃ k : Nat, i = (k : Int) := ⟨i.toNat, by omega⟩
    have hk : k < 32 := by omega
    obtain ⟨s, hs⟩ := HA.out.slot hk
    rw [S.lk_in hk hs]
    have HG := Lib.hid (get_st hk hs g _ HA.out)
    clear hs hi
    go_enter Try.func47, Try.ntmps47
    go_wp2_with (go_at_call 23; fail)
    refine HG.out.mono ?_
    rintro e w1 ⟨rfl, hb1⟩
    have hs1 := hb1.size
    rw [World.size_alloc] at hs1
    have bk : Blk w1 w.heap.size 82 #[.int .i64 0, .int .i64 0] := (Blk.new w _ _).below hb1 (by simp)
    have BR := Lib.hid (bk.alloc (.cells s.cells 57))
    have BS := Blk.new w1 57 s.cells
    have c3 := (BS.cell 3).trans s.c3
    have c4 := (BS.cell 4).trans s.c4
    have HB1 := Lib.hid (HB0.out.trans (hb1.mono (by simp)))
    clear bk BS hb1
    go_wp2_with (first
      | (refine wpList_store_new (ty := 57) rfl rfl rfl rfl rfl (SlotV.one _) slotInfo ?_)
      | (refine wpList_store_all (ty := 82) rfl rfl rfl rfl BR.out rfl (by intro v hv; simp at hv; rcases hv with rfl | rfl <;> rfl) linksInfo ?_))
    exact bodyPost_ret (results_at rfl rfl (BR.out.setRow_same _).row HUL.out rfl linksInfo) rfl ⟨rfl, bel_setRow (HB1.out.alloc HB1.out.size _) (Nat.le_refl _) _⟩
  · rw [S.lk_out hi]
    have HG := Lib.hid (get_out (by omega) (some ⟨g, 0, none⟩) (w.alloc (.cells #[.int .i64 0, .int .i64 0] 82)) : Calls Try.prog _ #[_, .int .i64 i] _ _)
    go_enter Try.func47, Try.ntmps47
    go_wp2_with (go_at_call 23; fail)
    refine HG.out.mono ?_
    rintro e w1 ⟨rfl, hb1⟩
    have hs1 := hb1.size
    rw [World.size_alloc] at hs1
    have bk : Blk w1 w.heap.size 82 #[.int .i64 0, .int .i64 0] := (Blk.new w _ _).below hb1 (by simp)
    have BR := Lib.hid (bk.alloc (.cells SlotV.zero.cells 57))
    have HB1 := Lib.hid (HB0.out.trans (hb1.mono (by simp)))
    clear bk hb1
    simp only [errno]
    go_wp2_with (first
      | (refine wpList_store_new (ty := 57) rfl rfl rfl rfl rfl (SlotV.one _) slotInfo ?_)
      | (refine wpList_store_all (ty := 82) rfl rfl rfl rfl BR.out rfl (by intro v hv; simp at hv; rcases hv with rfl | rfl <;> rfl) linksInfo ?_))
    exact bodyPost_ret (results_at rfl rfl (BR.out.setRow_same _).row HUL.out rfl linksInfo) rfl ⟨rfl, bel_setRow (HB1.out.alloc HB1.out.size _) (Nat.le_refl _) _⟩

theorem SlotV.linked (s : SlotV) (p n : Int) : (s.cells.setIfInBounds 3 (.int .i64 p)).setIfInBounds 4 (.int .i64 n) = ({ s with prev := p, next := n } : SlotV).cells := rfl
set_option maxHeartbeats 4000000 in
theorem set_any {S : St} (i p n : Int) (g : Nat) (w : World) (h : IsAr w g S) (hw0 : 0 ≤ S.writes) (hw1 : S.writes < 1000000000) :
    Calls Try.prog 45 #[.pointer (some ⟨g, 0, none⟩), .int .i64 i, lkV (p, n)] w (RetSt (.tuple #[]) w g (S.link i p n)) := by
  have HW := Lib.hid (And.intro hw0 hw1)
  have hg := h.lt
  have HA := Lib.hid (h.block (Below.heap_alloc w (.cells #[.int .i64 p, .int .i64 n] 82) g h.lt))
  have HUS := Lib.hid Try.underlying57
  have HUL := Lib.hid Try.underlying82
  have hb0 := (Below.refl w.heap.size w).alloc (Nat.le_refl _) (.cells #[.int .i64 p, .int .i64 n] 82)
  have HB0 := Lib.hid hb0
  have HB := Lib.hid (Blk.new w 82 #[.int .i64 p, .int .i64 n])
  clear h hb0 hw0 hw1
  by_cases hi : 0 ≤ i ∧ i < 32
  · obtain ⟨k, rfl⟩ : ∃ k : Nat, i = (k : Int) := ⟨i.toNat, by omega⟩
    have hk : k < 32 := by omega
    obtain ⟨s, hs⟩ := HA.out.slot hk
    have HG := Lib.hid (get_st hk hs g _ HA.out)
    clear hi
    by_cases heq : (s.prev, s.next) = (p, n)
    · rw [S.link_same (by rw [S.lk_in hk hs]; exact heq)]
      obtain ⟨rfl, rfl⟩ := Prod.mk.inj heq
      clear heq
      unfold lkV
      go_enter Try.func45, Try.ntmps45
      go_wp2_with (first
        | (refine wpList_store_new (ty := 82) rfl rfl rfl rfl rfl (by intro v hv; simp at hv; rcases hv with rfl | rfl <;> rfl) linksInfo ?_)
        | (go_at_call 23; fail))
      refine HG.out.mono ?_
      rintro e w1 ⟨rfl, hb1⟩
      have hs1 := hb1.size
      rw [World.size_alloc] at hs1
      have b5 := (HB.out.below hb1 (by simp)).alloc (.cells s.cells 57)
      have HR5 := Lib.hid b5.row
      have BS := Blk.new w1 57 s.cells
      have c3 := (BS.cell 3).trans s.c3
      have c4 := (BS.cell 4).trans s.c4
      have HB1 := Lib.hid (HB0.out.trans (hb1.mono (by simp)))
      have HA1 := Lib.hid (HA.out.below hb1 HA.out.lt)
      clear b5 BS hb1
      go_wp2_with (first
        | (refine wpList_store_new (ty := 57) rfl rfl rfl rfl rfl (SlotV.one _) slotInfo ?_)
        | (refine wpList_load_at (ty := 82) rfl rfl rfl HR5.out HUL.out rfl linksInfo ?_))
      go_end0
      exact ⟨rfl, HA1.out.block (Below.heap_alloc _ _ _ HA1.out.lt), grownBy_below (HB1.out.alloc HB1.out.size _) _⟩
    · have hsz : s.prev ≠ p ∨ (s.prev = p ∧ s.next ≠ n) := by
        by_cases e1 : s.prev = p
        · exact .inr ⟨e1, fun e2 => heq (by rw [e1, e2])⟩
        · exact .inl e1
      rw [S.link_in hk hs heq]
      have HS := Lib.hid hs
      clear heq hs
      unfold lkV
      rcases hsz with hne | ⟨he1, hne⟩
      rotate_left
      have he' := beq_iff_eq.2 he1
      clear he1
      all_goals
        have hne' := beq_eq_false_iff_ne.2 hne
        clear hne
        go_enter Try.func45, Try.ntmps45
        go_wp2_with (first
          | (refine wpList_store_new (ty := 82) rfl rfl rfl rfl rfl (by intro v hv; simp at hv; rcases hv with rfl | rfl <;> rfl) linksInfo ?_)
          | (go_at_call 23; fail))
        refine HG.out.mono ?_
        rintro e w1 ⟨rfl, hb1⟩
        have hs1 := hb1.size
        rw [World.size_alloc] at hs1
        have b5 := (HB.out.below hb1 (by simp)).alloc (.cells s.cells 57)
        have HR5 := Lib.hid b5.row
        have BS := Blk.new w1 57 s.cells
        have c3 := (BS.cell 3).trans s.c3
        have c4 := (BS.cell 4).trans s.c4
        have f3 := BS.frozen 3
        have f4 := BS.frozen 4
        have bw := HB.out.below hb1 (by simp)
        have p5 : ∀ o : Obj, (w1.alloc o).cell? ⟨w.heap.size, 0, none⟩ = some (.int .i64 p) := fun o => (bw.alloc o).cell 0
        have n5 : ∀ o : Obj, (w1.alloc o).cell? ⟨w.heap.size, 1, none⟩ = some (.int .i64 n) := fun o => (bw.alloc o).cell 1
        have HB1 := Lib.hid (HB0.out.trans (hb1.mono (by simp)))
        have HA1 := Lib.hid (HA.out.below hb1 HA.out.lt)
        clear b5 hb1 BS bw
        go_wp2_with (first
          | (refine wpList_store_new (ty := 57) rfl rfl rfl rfl rfl (SlotV.one _) slotInfo ?_)
          | (refine wpList_load_at (ty := 82) rfl rfl rfl HR5.out HUL.out rfl linksInfo ?_))
        go_region
        rw [SlotV.linked]
        have HR6 := Lib.hid (Blk.new w1 57 ({ s with prev := p, next := n } : SlotV).cells).drew.row
        have hAw : IsAr (w1.alloc (.cells ({ s with prev := p, next := n } : SlotV).cells 57)).drew g S := IsAr.block (HA1.out.block (Below.heap_alloc w1 (.cells ({ s with prev := p, next := n } : SlotV).cells 57) g HA1.out.lt)) rfl
        have HP := Lib.hid (put_st hk ({ s with prev := p, next := n } : SlotV) g _ hAw HW.out.1 HW.out.2)
        have HBw := Lib.hid (HB1.out.alloc HB1.out.size (.cells ({ s with prev := p, next := n } : SlotV).cells 57)).drew
        clear hAw p5 n5 c3 c4 f3 f4 hne'
        go_wp2_with (first
          | (refine wpList_load_at (ty := 57) rfl rfl rfl HR6.out HUS.out rfl slotInfo ?_)
          | (go_at_call 26; fail))
        refine HP.out.mono ?_
        rintro e w2 ⟨rfl, hA2, hG2⟩
        have HA2 := Lib.hid hA2
        have HG2 := Lib.hid (grownBy_trans (grownBy_below HBw.out (some g)) hG2)
        clear hA2 hG2
        go_wp2
        go_end0
        exact ⟨rfl, HA2.out, HG2.out⟩
  · rw [S.link_out hi]
    have HG := Lib.hid (get_out (by omega) (some ⟨g, 0, none⟩) (w.alloc (.cells #[.int .i64 p, .int .i64 n] 82)) : Calls Try.prog _ #[_, .int .i64 i] _ _)
    unfold lkV
    go_enter Try.func45, Try.ntmps45
    go_wp2_with (first
      | (refine wpList_store_new (ty := 82) rfl rfl rfl rfl rfl (by intro v hv; simp at hv; rcases hv with rfl | rfl <;> rfl) linksInfo ?_)
      | (go_at_call 23; fail))
    refine HG.out.mono ?_
    rintro e w1 ⟨rfl, hb1⟩
    have HB1 := Lib.hid (HB0.out.trans (hb1.mono (by simp)))
    have HA1 := Lib.hid (HA.out.below hb1 HA.out.lt)
    clear hb1
    simp only [errno]
    go_wp2_with (first
      | (refine wpList_store_new (ty := 57) rfl rfl rfl rfl rfl (SlotV.one _) slotInfo ?_))
    go_end0
    exact ⟨rfl, HA1.out.block (Below.heap_alloc _ _ _ HA1.out.lt), grownBy_below (HB1.out.alloc HB1.out.size _) _⟩
theorem inR_iff {i : Int} : inR i = true ↔ 0 ≤ i ∧ i < 32 := by simp [inR]
theorem inR_lt {i : Int} (h : inR i = true) : 0 ≤ i ∧ i < 32 := by simpa [inR] using h
theorem field0 (a b : Int) (w : World) : (Instr.field 82 (.agg #[.int .i64 a, .int .i64 b]) 0).run Try.prog w = .ok (.int .i64 a) w := by kernel_rfl
theorem field1 (a b : Int) (w : World) : (Instr.field 82 (.agg #[.int .i64 a, .int .i64 b]) 1).run Try.prog w = .ok (.int .i64 b) w := by kernel_rfl
set_option maxHeartbeats 4000000 in
theorem well_any {S : St} (i : Int) (g : Nat) (w : World) (h : IsAr w g S) : Calls Try.prog 46 #[.pointer (some ⟨g, 0, none⟩), .int .i64 i] w (RetB (.bool (S.well i)) w) := by
  have HA := Lib.hid h
  clear h
  unfold St.well
  obtain ⟨x, hx⟩ : ∃ x, S.lk i = x := ⟨_, rfl⟩
  obtain ⟨p, n⟩ := x
  obtain ⟨y, hy⟩ : ∃ y, S.lk p = y := ⟨_, rfl⟩
  obtain ⟨z, hz⟩ : ∃ z, S.lk n = z := ⟨_, rfl⟩
  obtain ⟨p1, n1⟩ := y
  obtain ⟨p2, n2⟩ := z
  simp only [hx, hy, hz]
  have HX := Lib.hid hx
  have HY := Lib.hid hy
  have HZ := Lib.hid hz
  clear hx hy hz
  go_enter Try.func46, Try.ntmps46
  go_wp2_with (go_at_call 47; fail)
  refine (of_any i g w HA.out).mono ?_
  rintro e w1 ⟨rfl, hb1⟩
  rw [HX.out]
  unfold lkV
  have BS := Blk.new w1 82 #[.int .i64 p, .int .i64 n]
  have c0 := BS.cell 0
  have c1 := BS.cell 1
  simp only [List.getElem?_toArray, List.getElem?_cons_zero, List.getElem?_cons_succ] at c0 c1
  have hA2 := (HA.out.below hb1 HA.out.lt).block (Below.heap_alloc w1 (.cells #[.int .i64 p, .int .i64 n] 82) g (by have := HA.out.lt; have := hb1.size; omega))
  have HA2 := Lib.hid hA2
  have HB2 := Lib.hid (hb1.alloc hb1.size (.cells #[.int .i64 p, .int .i64 n] 82))
  have HO1 := Lib.hid (of_any p g _ HA2.out)
  rw [HY.out] at HO1
  clear hA2 hb1 BS HA
  have store : ∀ v ∈ (#[Value.int .i64 p, .int .i64 n] : Array Value).toList, v.oneCell' = true := by intro v hv; simp at hv; rcases hv with rfl | rfl <;> rfl
  have ST := Lib.hid store
  clear store
  have fl0 := field0
  have fl1 := field1
  rcases hp : inR p with _ | _
  · go_wp2_with (first
      | (refine wpList_store_new (ty := 82) rfl rfl rfl rfl rfl ST.out linksInfo ?_)
      | (go_at_call 44; refine (rthere_any _ _).mono ?_; rintro e w' ⟨rfl, rfl⟩))
    go_ret
    exact ⟨by simp [hp], HB2.out⟩
  · rcases hn : inR n with _ | _
    · go_wp2_with (first
        | (refine wpList_store_new (ty := 82) rfl rfl rfl rfl rfl ST.out linksInfo ?_)
        | (go_at_call 44; refine (rthere_any _ _).mono ?_; rintro e w' ⟨rfl, rfl⟩))
      go_ret
      exact ⟨by simp [hn], HB2.out⟩
    · go_wp2_with (first
        | (refine wpList_store_new (ty := 82) rfl rfl rfl rfl rfl ST.out linksInfo ?_)
        | (go_at_call 44; refine (rthere_any _ _).mono ?_; rintro e w' ⟨rfl, rfl⟩)
        | (go_at_call 47; fail))
      refine HO1.out.mono ?_
      rintro e w3 ⟨rfl, hb3⟩
      unfold lkV
      have c13 := (hb3.cell (p := ⟨w1.heap.size, 1, none⟩) (by rw [World.size_alloc]; show w1.heap.size < _; omega)).trans c1
      have HO2 := Lib.hid (of_any n g w3 (HA2.out.below hb3 HA2.out.lt))
      rw [HZ.out] at HO2
      have HB3 := Lib.hid (HB2.out.trans (hb3.mono HB2.out.size))
      clear hb3
      rcases h1 : (n1 == i) with _ | _
      · go_wp2
        go_ret
        exact ⟨by simp [h1], HB3.out⟩
      · go_wp2_with (go_at_call 47; fail)
        refine HO2.out.mono ?_
        rintro e w4 ⟨rfl, hb4⟩
        have HB4 := Lib.hid (HB3.out.trans (hb4.mono HB3.out.size))
        unfold lkV
        clear hb4
        go_wp2
        go_ret
        exact ⟨by simp [hp, hn, h1], HB4.out⟩
end Go.Proofs.Ytbidgpeeogoglaa
/-
  Package ring: Push, Drop at any arena.
-/
namespace Go.Proofs.Ytbidgpeeogoglaa
set_option maxRecDepth 100000
open Go.RowKit

/-- Since w: the arena at g is S; nothing else that lay has turned. -/
structure At (w : World) (g : Nat) (S : St) (W : World) : Prop where
  ar : IsAr W g S
  grown : w.grownBy W (some g)
section
variable {w W W' : World} {g : Nat} {S S' : St}
theorem At.start (h : IsAr w g S) : At w g S w := ⟨h, turned_refl w g⟩
theorem At.read (h : At w g S W) (hb : Below W.heap.size W W') : At w g S W' := ⟨h.ar.below hb h.ar.lt, grownBy_trans h.grown (grownBy_below hb _)⟩
theorem At.turn (h : At w g S W) (hA : IsAr W' g S') (hG : W.grownBy W' (some g)) : At w g S' W' := ⟨hA, grownBy_trans h.grown hG⟩
theorem At.trans (h : At w g S W) (k : At W g S' W') : At w g S' W' := ⟨k.ar, grownBy_trans h.grown k.grown⟩
theorem At.same (h : At w g S W) (hb : W'.heap[g]? = W.heap[g]?) (hG : W.grownBy W' (some g)) : At w g S W' := ⟨h.ar.block hb, grownBy_trans h.grown hG⟩
end
def RetA (v : Value) (w : World) (g : Nat) (S : St) (e : Ending) (w' : World) : Prop := e = .returned v ∧ At w g S w'
theorem link_writes (S : St) (i p n : Int) : S.writes ≤ (S.link i p n).writes ∧ (S.link i p n).writes ≤ S.writes + 1 := by
  unfold St.link
  split
  · split
    · simp [St.put]; omega
    · omega
  · omega
theorem link_len (S : St) (i p n : Int) : (S.link i p n).slots.length = S.slots.length := by
  unfold St.link
  split
  · split
    · simp [St.put]
    · rfl
  · rfl
theorem set_at {S : St} {w W : World} {g : Nat} (h : At w g S W) (i p n : Int) (hw0 : 0 ≤ S.writes) (hw1 : S.writes < 1000000000) :
    Calls Try.prog 45 #[.pointer (some ⟨g, 0, none⟩), .int .i64 i, lkV (p, n)] W (RetA (.tuple #[]) w g (S.link i p n)) :=
  (set_any i p n g W h.ar hw0 hw1).mono fun e W' ⟨h1, h2, h3⟩ => ⟨h1, h.turn h2 h3⟩
theorem of_at {S : St} {w W : World} {g : Nat} (h : At w g S W) (i : Int) : Calls Try.prog 47 #[.pointer (some ⟨g, 0, none⟩), .int .i64 i] W (fun e W' => e = .returned (lkV (S.lk i)) ∧ At w g S W' ∧ Below W.heap.size W W') :=
  (of_any i g W h.ar).mono fun e W' ⟨h1, h2⟩ => ⟨h1, h.read h2, h2⟩
theorem well_at {S : St} {w W : World} {g : Nat} (h : At w g S W) (i : Int) : Calls Try.prog 46 #[.pointer (some ⟨g, 0, none⟩), .int .i64 i] W (fun e W' => e = .returned (.bool (S.well i)) ∧ At w g S W' ∧ Below W.heap.size W W') :=
  (well_any i g W h.ar).mono fun e W' ⟨h1, h2⟩ => ⟨h1, h.read h2, h2⟩
/-- The fault with this number, at a slot. -/
def faultV (k at_ : Int) : Value := .iface 85 (.agg #[.int .i64 k, .int .i64 at_])
/-- Push, as the code has it: what is answered, and the arena then. -/
def St.push (S : St) (last i : Int) : Value × St :=
  if inR i = false then (.tuple #[.int .i64 0, errno 1], S)
  else if last = -1 then (.tuple #[.int .i64 i, .nilIface], S.link i i i)
  else if inR last = false then (.tuple #[.int .i64 0, errno 1], S)
  else if S.well last = false then (.tuple #[.int .i64 0, faultV 24 last], S)
  else if i = last ∨ i = (S.lk last).2 then (.tuple #[.int .i64 0, errno 9], S)
  else if (S.lk last).2 = last then (.tuple #[.int .i64 i, .nilIface], (S.link i last (S.lk last).2).link last i i)
  else
    let S1 := S.link i last (S.lk last).2
    let S2 := S1.link last (S1.lk last).1 i
    (.tuple #[.int .i64 i, .nilIface], S2.link (S.lk last).2 i (S2.lk (S.lk last).2).2)
set_option maxHeartbeats 8000000 in
theorem push_any {S : St} (last i : Int) (g : Nat) (w : World) (h : IsAr w g S) (hw0 : 0 ≤ S.writes) (hw1 : S.writes < 900000000) :
    Calls Try.prog 31 #[.pointer (some ⟨g, 0, none⟩), .int .i64 last, .int .i64 i] w (RetA (S.push last i).1 w g (S.push last i).2) := by
  have H0 := Lib.hid (At.start h)
  have HW := Lib.hid (And.intro hw0 hw1)
  have fl0 := field0
  have fl1 := field1
  clear h hw0 hw1
  have there := rthere_any
  have TH := Lib.hid there
  clear there
  by_cases hi : inR i = false
  · rw [show S.push last i = (.tuple #[.int .i64 0, errno 1], S) from by simp [St.push, hi]]
    go_enter Try.func31, Try.ntmps31
    go_wp2_with (go_at_call 44; refine (TH.out _ _).mono ?_; rintro e w' ⟨rfl, rfl⟩)
    go_ret2
    exact ⟨rfl, H0.out⟩
  · have hi' : inR i = true := by simpa using hi
    by_cases hl : last = -1
    · rw [show S.push last i = (.tuple #[.int .i64 i, .nilIface], S.link i i i) from by simp [St.push, hi', hl]]
      have hl1 : (last == -1) = true := by simp [hl]
      have hl2 : (last != -1) = false := by simp [hl]
      clear hi hl
      go_enter Try.func31, Try.ntmps31
      go_wp2_with (first | (go_at_call 44; refine (TH.out _ _).mono ?_; rintro e w' ⟨rfl, rfl⟩) | (go_at_call 45; fail))
      refine (set_at H0.out i i i HW.out.1 (by have := HW.out.2; omega)).mono ?_
      rintro e w1 ⟨rfl, h1⟩
      have H1 := Lib.hid h1
      clear h1
      go_wp2
      go_ret2
      exact ⟨rfl, H1.out⟩
    · have hl1 : (last == -1) = false := by simpa using hl
      have hl2 : (last != -1) = true := by simpa using hl
      by_cases hr : inR last = false
      · rw [show S.push last i = (.tuple #[.int .i64 0, errno 1], S) from by simp [St.push, hi', hl, hr]]
        clear hi hl
        go_enter Try.func31, Try.ntmps31
        go_wp2_with (go_at_call 44; refine (TH.out _ _).mono ?_; rintro e w' ⟨rfl, rfl⟩)
        go_ret2
        exact ⟨rfl, H0.out⟩
      · have hr' : inR last = true := by simpa using hr
        by_cases hwl : S.well last = false
        · rw [show S.push last i = (.tuple #[.int .i64 0, faultV 24 last], S) from by simp [St.push, hi', hl, hr', hwl]]
          clear hi hl hr
          go_enter Try.func31, Try.ntmps31
          go_wp2_with (first | (go_at_call 44; refine (TH.out _ _).mono ?_; rintro e w' ⟨rfl, rfl⟩) | (go_at_call 46; fail))
          refine (well_at H0.out last).mono ?_
          rintro e w1 ⟨rfl, h1, _⟩
          have H1 := Lib.hid h1
          clear h1
          go_wp2
          go_ret2
          exact ⟨rfl, H1.out⟩
        · have hwl' : S.well last = true := by simpa using hwl
          obtain ⟨first, hf⟩ : ∃ f, (S.lk last).2 = f := ⟨_, rfl⟩
          obtain ⟨prev, hp⟩ : ∃ f, (S.lk last).1 = f := ⟨_, rfl⟩
          have hlk : S.lk last = (prev, first) := by rw [← hf, ← hp]
          have HLK := Lib.hid hlk
          by_cases he : i = last ∨ i = first
          · rw [show S.push last i = (.tuple #[.int .i64 0, errno 9], S) from by simp only [St.push, hi', hl, hr', hwl', hf, if_pos he]; simp]
            have key : (i == last) = true ∨ ((i == last) = false ∧ (i == first) = true) := by
              by_cases e : i = last
              · exact .inl (by simp [e])
              · exact .inr ⟨by simpa using e, by have := he.resolve_left e; simp [this]⟩
            clear hi hl hr hwl hf hp hlk he
            rcases key with h1 | ⟨h1, h2⟩
            all_goals
              go_enter Try.func31, Try.ntmps31
              go_wp2_with (first | (go_at_call 44; refine (TH.out _ _).mono ?_; rintro e w' ⟨rfl, rfl⟩) | (go_at_call 46; fail))
              refine (well_at H0.out last).mono ?_
              rintro e w1 ⟨rfl, hA1, _⟩
              have H1 := Lib.hid hA1
              clear hA1
              go_wp2_with (go_at_call 47; fail)
              refine (of_at H1.out last).mono ?_
              rintro e w2 ⟨rfl, hA2, _⟩
              have H2 := Lib.hid hA2
              clear hA2
              rw [HLK.out]
              unfold lkV
              go_wp2
              go_ret2
              exact ⟨rfl, H2.out⟩
          · have h1 : (i == last) = false := by simpa using fun e => he (.inl e)
            have h2 : (i == first) = false := by simpa using fun e => he (.inr e)
            by_cases hfl : first = last
            · rw [show S.push last i = (.tuple #[.int .i64 i, .nilIface], (S.link i last first).link last i i) from by simp only [St.push, hi', hl, hr', hwl', hf, if_neg he, if_pos hfl]; simp]
              have h3 : (first == last) = true := by simpa using hfl
              clear hi hl hr hwl hf hp hlk he hfl
              go_enter Try.func31, Try.ntmps31
              go_wp2_with (first | (go_at_call 44; refine (TH.out _ _).mono ?_; rintro e w' ⟨rfl, rfl⟩) | (go_at_call 46; fail))
              refine (well_at H0.out last).mono ?_
              rintro e w1 ⟨rfl, hA1, _⟩
              have H1 := Lib.hid hA1
              clear hA1
              go_wp2_with (go_at_call 47; fail)
              refine (of_at H1.out last).mono ?_
              rintro e w2 ⟨rfl, hA2, _⟩
              have H2 := Lib.hid hA2
              clear hA2
              rw [HLK.out]
              unfold lkV
              go_wp2_with (go_at_call 45; fail)
              refine (set_at H2.out i last first HW.out.1 (by have := HW.out.2; omega)).mono ?_
              rintro e w3 ⟨rfl, hA3⟩
              have H3 := Lib.hid hA3
              clear hA3
              have HW3 := Lib.hid (link_writes S i last first)
              go_wp2_with (go_at_call 45; fail)
              refine (set_at H3.out last i i (by have := HW.out.1; have := HW3.out.1; omega) (by have := HW.out.2; have := HW3.out.2; omega)).mono ?_
              rintro e w4 ⟨rfl, hA4⟩
              have H4 := Lib.hid hA4
              clear hA4
              go_wp2
              go_ret2
              exact ⟨rfl, H4.out⟩
            · rw [show S.push last i = (.tuple #[.int .i64 i, .nilIface], ((S.link i last first).link last ((S.link i last first).lk last).1 i).link first i (((S.link i last first).link last ((S.link i last first).lk last).1 i).lk first).2) from by simp only [St.push, hi', hl, hr', hwl', hf, if_neg he, if_neg hfl]; simp]
              have h3 : (first == last) = false := by simpa using hfl
              obtain ⟨S1, hS1⟩ : ∃ S1, S.link i last first = S1 := ⟨_, rfl⟩
              obtain ⟨x, hx⟩ : ∃ x, S1.lk last = x := ⟨_, rfl⟩
              obtain ⟨x1, x2⟩ := x
              have HS1 := Lib.hid hS1
              have HX := Lib.hid hx
              rw [hS1, hx]
              obtain ⟨S2, hS2⟩ : ∃ S2, S1.link last x1 i = S2 := ⟨_, rfl⟩
              obtain ⟨y, hy⟩ : ∃ y, S2.lk first = y := ⟨_, rfl⟩
              obtain ⟨y1, y2⟩ := y
              have HS2 := Lib.hid hS2
              have HY := Lib.hid hy
              simp only [hS2, hy]
              clear hi hl hr hwl hf hp hlk he hfl hS1 hx hS2 hy
              go_enter Try.func31, Try.ntmps31
              go_wp2_with (first | (go_at_call 44; refine (TH.out _ _).mono ?_; rintro e w' ⟨rfl, rfl⟩) | (go_at_call 46; fail))
              refine (well_at H0.out last).mono ?_
              rintro e w1 ⟨rfl, hA1, _⟩
              have H1 := Lib.hid hA1
              clear hA1
              go_wp2_with (go_at_call 47; fail)
              refine (of_at H1.out last).mono ?_
              rintro e w2 ⟨rfl, hA2, _⟩
              have H2 := Lib.hid hA2
              clear hA2
              rw [HLK.out]
              unfold lkV
              go_wp2_with (go_at_call 45; fail)
              refine (set_at H2.out i last first HW.out.1 (by have := HW.out.2; omega)).mono ?_
              rintro e w3 ⟨rfl, hA3⟩
              have H3 := Lib.hid hA3
              clear hA3
              have HW3 := Lib.hid (link_writes S i last first)
              rw [HS1.out] at H3 HW3
              go_wp2_with (go_at_call 47; fail)
              refine (of_at H3.out last).mono ?_
              rintro e w4 ⟨rfl, hA4, _⟩
              have H4 := Lib.hid hA4
              clear hA4
              rw [HX.out]
              unfold lkV
              go_wp2_with (go_at_call 45; fail)
              refine (set_at H4.out last x1 i (by have := HW.out.1; have := HW3.out.1; omega) (by have := HW.out.2; have := HW3.out.2; omega)).mono ?_
              rintro e w5 ⟨rfl, hA5⟩
              have H5 := Lib.hid hA5
              clear hA5
              have HW5 := Lib.hid (link_writes S1 last x1 i)
              rw [HS2.out] at H5 HW5
              go_wp2_with (go_at_call 47; fail)
              refine (of_at H5.out first).mono ?_
              rintro e w6 ⟨rfl, hA6, _⟩
              have H6 := Lib.hid hA6
              clear hA6
              rw [HY.out]
              unfold lkV
              go_wp2_with (go_at_call 45; fail)
              refine (set_at H6.out first i y2 (by have := HW.out.1; have := HW3.out.1; have := HW5.out.1; omega) (by have := HW.out.2; have := HW3.out.2; have := HW5.out.2; omega)).mono ?_
              rintro e w7 ⟨rfl, hA7⟩
              have H7 := Lib.hid hA7
              clear hA7
              go_wp2
              go_ret2
              exact ⟨rfl, H7.out⟩
end Go.Proofs.Ytbidgpeeogoglaa
/-
  Package ring: Drop at any arena.
-/
namespace Go.Proofs.Ytbidgpeeogoglaa
set_option maxRecDepth 100000
open Go.RowKit

/-- The ring's two neighbours made one another's. -/
def St.joined (S : St) (i p n : Int) : St :=
  if p = i then S else if p = n then S.link p n n
  else
    let S1 := S.link p (S.lk p).1 n
    S1.link n p (S1.lk n).2
/-- Drop, as the code has it: what is answered, and the arena then. -/
def St.dropR (S : St) (last i : Int) : Value × St :=
  if inR i = false ∨ inR last = false then (.tuple #[.int .i64 0, errno 1], S)
  else if S.well i = false then (.tuple #[.int .i64 0, faultV 24 i], S)
  else (.tuple #[.int .i64 (if i ≠ last then last else if (S.lk i).1 = i then -1 else (S.lk i).1), .nilIface], (S.joined i (S.lk i).1 (S.lk i).2).link i (-1) (-1))
/-- .. and the links that were read lie at b. -/
structure Dr (w : World) (g : Nat) (S : St) (b : Nat) (p n : Int) (W : World) : Prop where
  at_ : At w g S W
  c0 : W.cell? ⟨b, 0, none⟩ = some (.int .i64 p)
  c1 : W.cell? ⟨b, 1, none⟩ = some (.int .i64 n)
  gb : g ≠ b
  lt : b < W.heap.size
section
variable {w W W' : World} {g b : Nat} {S S' : St} {p n : Int}
theorem Dr.read (h : Dr w g S b p n W) (hb : Below W.heap.size W W') : Dr w g S b p n W' :=
  ⟨h.at_.read hb, (hb.cell (p := ⟨b, 0, none⟩) h.lt).trans h.c0, (hb.cell (p := ⟨b, 1, none⟩) h.lt).trans h.c1, h.gb, Nat.lt_of_lt_of_le h.lt hb.size⟩
theorem Dr.turn (h : Dr w g S b p n W) (hA : IsAr W' g S') (hG : W.grownBy W' (some g)) : Dr w g S' b p n W' :=
  ⟨h.at_.turn hA hG, (World.cell?_of_block (a := ⟨b, 0, none⟩) (hG.block b h.lt (fun e => h.gb (by cases e; rfl)))).trans h.c0, (World.cell?_of_block (a := ⟨b, 1, none⟩) (hG.block b h.lt (fun e => h.gb (by cases e; rfl)))).trans h.c1, h.gb, Nat.lt_of_lt_of_le h.lt hG.size⟩
theorem Dr.drew (h : Dr w g S b p n W) : Dr w g S b p n W.drew := h.read (Below.refl _ _).drew
end
theorem links_one (p n : Int) : ∀ v ∈ (#[Value.int .i64 p, .int .i64 n] : Array Value).toList, v.oneCell' = true := by intro v hv; simp at hv; rcases hv with rfl | rfl <;> rfl
set_option maxHeartbeats 8000000 in
theorem drop_any {S : St} (last i : Int) (g : Nat) (w : World) (h : IsAr w g S) (hw0 : 0 ≤ S.writes) (hw1 : S.writes < 900000000) :
    Calls Try.prog 36 #[.pointer (some ⟨g, 0, none⟩), .int .i64 last, .int .i64 i] w (RetA (S.dropR last i).1 w g (S.dropR last i).2) := by
  have H0 := Lib.hid (At.start h)
  have HW := Lib.hid (And.intro hw0 hw1)
  have fl0 := field0
  have fl1 := field1
  clear h hw0 hw1
  have TH := Lib.hid rthere_any
  by_cases hin : inR i = false ∨ inR last = false
  · rw [show S.dropR last i = (.tuple #[.int .i64 0, errno 1], S) from by simp only [St.dropR, if_pos hin]]
    have key : inR i = false ∨ (inR i = true ∧ inR last = false) := by
      rcases hb : inR i with _ | _
      · exact .inl rfl
      · exact .inr ⟨rfl, by rw [hb] at hin; simpa using hin⟩
    clear hin
    rcases key with h1 | ⟨h1, h2⟩
    all_goals
      go_enter Try.func36, Try.ntmps36
      go_wp2_with (go_at_call 44; refine (TH.out _ _).mono ?_; rintro e w' ⟨rfl, rfl⟩)
      go_ret2
      exact ⟨rfl, H0.out⟩
  · have hi : inR i = true := by simpa using fun e => hin (.inl e)
    have hl : inR last = true := by simpa using fun e => hin (.inr e)
    by_cases hwl : S.well i = false
    · rw [show S.dropR last i = (.tuple #[.int .i64 0, faultV 24 i], S) from by simp only [St.dropR, if_neg hin, if_pos hwl]]
      clear hin
      go_enter Try.func36, Try.ntmps36
      go_wp2_with (first | (go_at_call 44; refine (TH.out _ _).mono ?_; rintro e w' ⟨rfl, rfl⟩) | (go_at_call 46; fail))
      refine (well_at H0.out i).mono ?_
      rintro e w1 ⟨rfl, h1, _⟩
      have H1 := Lib.hid h1
      clear h1
      go_wp2
      go_ret2
      exact ⟨rfl, H1.out⟩
    · have hwl' : S.well i = true := by simpa using hwl
      obtain ⟨x, hx⟩ : ∃ x, S.lk i = x := ⟨_, rfl⟩
      obtain ⟨p, n⟩ := x
      have HLK := Lib.hid hx
      have ST := Lib.hid (links_one p n)
      have e : S.dropR last i = (.tuple #[.int .i64 (if i ≠ last then last else if p = i then -1 else p), .nilIface], (S.joined i p n).link i (-1) (-1)) := by
        simp only [St.dropR, if_neg hin, if_neg hwl, hx]
      rw [e]
      clear e hin hwl hx
      obtain ⟨r, hr⟩ : ∃ r : Int, (if i ≠ last then last else if p = i then -1 else p) = r := ⟨_, rfl⟩
      rw [hr]
      have tail : ((i != last) = true ∧ r = last) ∨ ((i != last) = false ∧ (p == i) = true ∧ r = -1) ∨ ((i != last) = false ∧ (p == i) = false ∧ r = p) := by
        by_cases e1 : i = last
        · by_cases e2 : p = i
          · exact .inr (.inl ⟨by simp [e1], by simp [e2], by rw [← hr, if_neg (by simp [e1]), if_pos e2]⟩)
          · exact .inr (.inr ⟨by simp [e1], by simpa using e2, by rw [← hr, if_neg (by simp [e1]), if_neg e2]⟩)
        · exact .inl ⟨by simpa using e1, by rw [← hr, if_pos e1]⟩
      clear hr
      obtain ⟨SJ, hSJ⟩ : ∃ SJ, S.joined i p n = SJ := ⟨_, rfl⟩
      rw [hSJ]
      have HSJ := Lib.hid hSJ
      clear hSJ
      by_cases h1 : p = i
      · have k1 : (p == i) = true := by simp [h1]
        have e : SJ = S := by rw [← HSJ.out]; simp only [St.joined, if_pos h1]
        rw [e]
        clear h1 HSJ e
        rcases tail with ⟨t1, tr⟩ | ⟨t1, t2, tr⟩ | ⟨t1, t2, tr⟩
        · rw [tr]
          clear tr
          go_enter Try.func36, Try.ntmps36
          go_wp2_with (first | (go_at_call 44; refine (TH.out _ _).mono ?_; rintro e w' ⟨rfl, rfl⟩) | (go_at_call 46; fail))
          refine (well_at H0.out i).mono ?_
          rintro e w1 ⟨rfl, hA1, _⟩
          have H1 := Lib.hid hA1
          clear hA1
          go_wp2_with (go_at_call 47; fail)
          refine (of_at H1.out i).mono ?_
          rintro e w2 ⟨rfl, hA2, _⟩
          rw [HLK.out]
          unfold lkV
          have BS := Blk.new w2 82 #[.int .i64 p, .int .i64 n]
          have D3 := Lib.hid (show Dr w g S w2.heap.size p n (w2.alloc (.cells #[.int .i64 p, .int .i64 n] 82)) from ⟨hA2.read ((Below.refl _ _).alloc (Nat.le_refl _) _), BS.cell 0, BS.cell 1, Nat.ne_of_lt hA2.ar.lt, by simp⟩)
          have c0 := D3.out.c0
          have c1 := D3.out.c1
          clear hA2 BS
          go_wp2_with (first | (refine wpList_store_new (ty := 82) rfl rfl rfl rfl rfl ST.out linksInfo ?_) | (go_at_call 45; fail))
          refine (set_any i (-1) (-1) g _ D3.out.at_.ar HW.out.1 (by have := HW.out.2; omega)).mono ?_
          rintro e w4 ⟨rfl, hA4, hG4⟩
          have D4 := Lib.hid (D3.out.turn hA4 hG4)
          clear hA4 hG4 c0 c1 D3
          have c0 := D4.out.c0
          have c1 := D4.out.c1
          go_wp2
          go_ret2
          exact ⟨rfl, D4.out.at_⟩
        · rw [tr]
          clear tr
          go_enter Try.func36, Try.ntmps36
          go_wp2_with (first | (go_at_call 44; refine (TH.out _ _).mono ?_; rintro e w' ⟨rfl, rfl⟩) | (go_at_call 46; fail))
          refine (well_at H0.out i).mono ?_
          rintro e w1 ⟨rfl, hA1, _⟩
          have H1 := Lib.hid hA1
          clear hA1
          go_wp2_with (go_at_call 47; fail)
          refine (of_at H1.out i).mono ?_
          rintro e w2 ⟨rfl, hA2, _⟩
          rw [HLK.out]
          unfold lkV
          have BS := Blk.new w2 82 #[.int .i64 p, .int .i64 n]
          have D3 := Lib.hid (show Dr w g S w2.heap.size p n (w2.alloc (.cells #[.int .i64 p, .int .i64 n] 82)) from ⟨hA2.read ((Below.refl _ _).alloc (Nat.le_refl _) _), BS.cell 0, BS.cell 1, Nat.ne_of_lt hA2.ar.lt, by simp⟩)
          have c0 := D3.out.c0
          have c1 := D3.out.c1
          clear hA2 BS
          go_wp2_with (first | (refine wpList_store_new (ty := 82) rfl rfl rfl rfl rfl ST.out linksInfo ?_) | (go_at_call 45; fail))
          refine (set_any i (-1) (-1) g _ D3.out.at_.ar HW.out.1 (by have := HW.out.2; omega)).mono ?_
          rintro e w4 ⟨rfl, hA4, hG4⟩
          have D4 := Lib.hid (D3.out.turn hA4 hG4)
          clear hA4 hG4 c0 c1 D3
          have c0 := D4.out.c0
          have c1 := D4.out.c1
          go_wp2
          go_ret2
          exact ⟨rfl, D4.out.at_⟩
        · exact absurd (t2.symm.trans k1) (by simp)
      · have k1 : (p == i) = false := by simpa using h1
        by_cases h2 : p = n
        · have k2 : (p == n) = true := by simp [h2]
          have e : S.link p n n = SJ := by rw [← HSJ.out]; simp only [St.joined, if_neg h1, if_pos h2]
          have HSJ := Lib.hid e
          clear h1 h2 e
          rcases tail with ⟨t1, tr⟩ | ⟨t1, t2, tr⟩ | ⟨t1, t2, tr⟩
          · rw [tr]
            clear tr
            go_enter Try.func36, Try.ntmps36
            go_wp2_with (first | (go_at_call 44; refine (TH.out _ _).mono ?_; rintro e w' ⟨rfl, rfl⟩) | (go_at_call 46; fail))
            refine (well_at H0.out i).mono ?_
            rintro e w1 ⟨rfl, hA1, _⟩
            have H1 := Lib.hid hA1
            clear hA1
            go_wp2_with (go_at_call 47; fail)
            refine (of_at H1.out i).mono ?_
            rintro e w2 ⟨rfl, hA2, _⟩
            rw [HLK.out]
            unfold lkV
            have BS := Blk.new w2 82 #[.int .i64 p, .int .i64 n]
            have D3 := Lib.hid (show Dr w g S w2.heap.size p n (w2.alloc (.cells #[.int .i64 p, .int .i64 n] 82)) from ⟨hA2.read ((Below.refl _ _).alloc (Nat.le_refl _) _), BS.cell 0, BS.cell 1, Nat.ne_of_lt hA2.ar.lt, by simp⟩)
            have c0 := D3.out.c0
            have c1 := D3.out.c1
            clear hA2 BS
            go_wp2_with (first | (refine wpList_store_new (ty := 82) rfl rfl rfl rfl rfl ST.out linksInfo ?_) | (go_at_call 45; fail))
            refine (set_any p n n g _ D3.out.at_.ar HW.out.1 (by have := HW.out.2; omega)).mono ?_
            rintro e w4 ⟨rfl, hA4, hG4⟩
            have D4 := Lib.hid (D3.out.turn hA4 hG4)
            clear hA4 hG4 c0 c1 D3
            have c0 := D4.out.c0
            have c1 := D4.out.c1
            have HW4 := Lib.hid (link_writes S p n n)
            rw [HSJ.out] at D4 HW4
            go_wp2_with (go_at_call 45; fail)
            refine (set_any i (-1) (-1) g _ D4.out.at_.ar (by have := HW.out.1; have := HW4.out.1; omega) (by have := HW.out.2; have := HW4.out.2; omega)).mono ?_
            rintro e w5 ⟨rfl, hA5, hG5⟩
            have D5 := Lib.hid (D4.out.turn hA5 hG5)
            clear hA5 hG5 c0 c1 D4
            have c0 := D5.out.c0
            have c1 := D5.out.c1
            go_wp2
            go_ret2
            exact ⟨rfl, D5.out.at_⟩
          · exact absurd (t2.symm.trans k1) (by simp)
          · rw [tr]
            clear tr
            go_enter Try.func36, Try.ntmps36
            go_wp2_with (first | (go_at_call 44; refine (TH.out _ _).mono ?_; rintro e w' ⟨rfl, rfl⟩) | (go_at_call 46; fail))
            refine (well_at H0.out i).mono ?_
            rintro e w1 ⟨rfl, hA1, _⟩
            have H1 := Lib.hid hA1
            clear hA1
            go_wp2_with (go_at_call 47; fail)
            refine (of_at H1.out i).mono ?_
            rintro e w2 ⟨rfl, hA2, _⟩
            rw [HLK.out]
            unfold lkV
            have BS := Blk.new w2 82 #[.int .i64 p, .int .i64 n]
            have D3 := Lib.hid (show Dr w g S w2.heap.size p n (w2.alloc (.cells #[.int .i64 p, .int .i64 n] 82)) from ⟨hA2.read ((Below.refl _ _).alloc (Nat.le_refl _) _), BS.cell 0, BS.cell 1, Nat.ne_of_lt hA2.ar.lt, by simp⟩)
            have c0 := D3.out.c0
            have c1 := D3.out.c1
            clear hA2 BS
            go_wp2_with (first | (refine wpList_store_new (ty := 82) rfl rfl rfl rfl rfl ST.out linksInfo ?_) | (go_at_call 45; fail))
            refine (set_any p n n g _ D3.out.at_.ar HW.out.1 (by have := HW.out.2; omega)).mono ?_
            rintro e w4 ⟨rfl, hA4, hG4⟩
            have D4 := Lib.hid (D3.out.turn hA4 hG4)
            clear hA4 hG4 c0 c1 D3
            have c0 := D4.out.c0
            have c1 := D4.out.c1
            have HW4 := Lib.hid (link_writes S p n n)
            rw [HSJ.out] at D4 HW4
            go_wp2_with (go_at_call 45; fail)
            refine (set_any i (-1) (-1) g _ D4.out.at_.ar (by have := HW.out.1; have := HW4.out.1; omega) (by have := HW.out.2; have := HW4.out.2; omega)).mono ?_
            rintro e w5 ⟨rfl, hA5, hG5⟩
            have D5 := Lib.hid (D4.out.turn hA5 hG5)
            clear hA5 hG5 c0 c1 D4
            have c0 := D5.out.c0
            have c1 := D5.out.c1
            go_wp2
            go_ret2
            exact ⟨rfl, D5.out.at_⟩
        · have k2 : (p == n) = false := by simpa using h2
          obtain ⟨y, hy⟩ : ∃ y, S.lk p = y := ⟨_, rfl⟩
          obtain ⟨y1, y2⟩ := y
          obtain ⟨S1, hS1⟩ : ∃ S1, S.link p y1 n = S1 := ⟨_, rfl⟩
          obtain ⟨z, hz⟩ : ∃ z, S1.lk n = z := ⟨_, rfl⟩
          obtain ⟨z1, z2⟩ := z
          have e : S1.link n p z2 = SJ := by rw [← HSJ.out]; simp only [St.joined, if_neg h1, if_neg h2, hy, hS1, hz]
          have HSJ := Lib.hid e
          have HY := Lib.hid hy
          have HS1 := Lib.hid hS1
          have HZ := Lib.hid hz
          clear h1 h2 e hy hS1 hz
          rcases tail with ⟨t1, tr⟩ | ⟨t1, t2, tr⟩ | ⟨t1, t2, tr⟩
          · rw [tr]
            clear tr
            go_enter Try.func36, Try.ntmps36
            go_wp2_with (first | (go_at_call 44; refine (TH.out _ _).mono ?_; rintro e w' ⟨rfl, rfl⟩) | (go_at_call 46; fail))
            refine (well_at H0.out i).mono ?_
            rintro e w1 ⟨rfl, hA1, _⟩
            have H1 := Lib.hid hA1
            clear hA1
            go_wp2_with (go_at_call 47; fail)
            refine (of_at H1.out i).mono ?_
            rintro e w2 ⟨rfl, hA2, _⟩
            rw [HLK.out]
            unfold lkV
            have BS := Blk.new w2 82 #[.int .i64 p, .int .i64 n]
            have D3 := Lib.hid (show Dr w g S w2.heap.size p n (w2.alloc (.cells #[.int .i64 p, .int .i64 n] 82)) from ⟨hA2.read ((Below.refl _ _).alloc (Nat.le_refl _) _), BS.cell 0, BS.cell 1, Nat.ne_of_lt hA2.ar.lt, by simp⟩)
            have c0 := D3.out.c0
            have c1 := D3.out.c1
            clear hA2 BS
            go_wp2_with (refine wpList_store_new (ty := 82) rfl rfl rfl rfl rfl ST.out linksInfo ?_)
            refine wp_region_noPanic ?_
            have OF4 := Lib.hid (of_any p g _ D3.out.drew.at_.ar)
            rw [HY.out] at OF4
            have d0 := D3.out.drew.c0
            have d1 := D3.out.drew.c1
            go_region_held3 (fun W' => W'.cell? ⟨w2.heap.size, 0, none⟩ = some (.int .i64 p) ∧ W'.cell? ⟨w2.heap.size, 1, none⟩ = some (.int .i64 n))
              (first | assumption | exact ⟨d0, d1⟩ | exact ⟨(D3.out.drew.read hb4).c0, (D3.out.drew.read hb4).c1⟩ | exact ⟨((D3.out.drew.read hb4).turn hA4 hG4).c0, ((D3.out.drew.read hb4).turn hA4 hG4).c1⟩)
              (first
                | (go_at_call 47; refine OF4.out.mono ?_; rintro e wo4 ⟨rfl, hb4⟩; unfold lkV)
                | (go_at_call 45; refine (set_any p y1 n g _ (D3.out.drew.read hb4).at_.ar HW.out.1 (by have := HW.out.2; omega)).mono ?_; rintro e w4 ⟨rfl, hA4, hG4⟩))
            refine NoPanic.normal ?_
            have D4 := Lib.hid ((D3.out.drew.read hb4).turn hA4 hG4)
            clear hA4 hG4 hb4 OF4 c0 c1 d0 d1 D3
            have c0 := D4.out.c0
            have c1 := D4.out.c1
            have HW4 := Lib.hid (link_writes S p y1 n)
            rw [HS1.out] at D4 HW4
            go_wp2
            refine wp_region_noPanic ?_
            have OF5 := Lib.hid (of_any n g _ D4.out.drew.at_.ar)
            rw [HZ.out] at OF5
            have d0 := D4.out.drew.c0
            have d1 := D4.out.drew.c1
            go_region_held3 (fun W' => W'.cell? ⟨w2.heap.size, 0, none⟩ = some (.int .i64 p) ∧ W'.cell? ⟨w2.heap.size, 1, none⟩ = some (.int .i64 n))
              (first | assumption | exact ⟨d0, d1⟩ | exact ⟨(D4.out.drew.read hb5).c0, (D4.out.drew.read hb5).c1⟩ | exact ⟨((D4.out.drew.read hb5).turn hA5 hG5).c0, ((D4.out.drew.read hb5).turn hA5 hG5).c1⟩)
              (first
                | (go_at_call 47; refine OF5.out.mono ?_; rintro e wo5 ⟨rfl, hb5⟩; unfold lkV)
                | (go_at_call 45; refine (set_any n p z2 g _ (D4.out.drew.read hb5).at_.ar (by have := HW.out.1; have := HW4.out.1; omega) (by have := HW.out.2; have := HW4.out.2; omega)).mono ?_; rintro e w5 ⟨rfl, hA5, hG5⟩))
            refine NoPanic.normal ?_
            have D5 := Lib.hid ((D4.out.drew.read hb5).turn hA5 hG5)
            clear hA5 hG5 hb5 OF5 c0 c1 d0 d1 D4
            have c0 := D5.out.c0
            have c1 := D5.out.c1
            have HW5 := Lib.hid (link_writes S1 n p z2)
            rw [HSJ.out] at D5 HW5
            go_wp2_with (go_at_call 45; fail)
            refine (set_any i (-1) (-1) g _ D5.out.at_.ar (by have := HW.out.1; have := HW4.out.1; have := HW5.out.1; omega) (by have := HW.out.2; have := HW4.out.2; have := HW5.out.2; omega)).mono ?_
            rintro e w6 ⟨rfl, hA6, hG6⟩
            have D6 := Lib.hid (D5.out.turn hA6 hG6)
            clear hA6 hG6 c0 c1 D5
            have c0 := D6.out.c0
            have c1 := D6.out.c1
            go_wp2
            go_ret2
            exact ⟨rfl, D6.out.at_⟩
          · exact absurd (t2.symm.trans k1) (by simp)
          · rw [tr]
            clear tr
            go_enter Try.func36, Try.ntmps36
            go_wp2_with (first | (go_at_call 44; refine (TH.out _ _).mono ?_; rintro e w' ⟨rfl, rfl⟩) | (go_at_call 46; fail))
            refine (well_at H0.out i).mono ?_
            rintro e w1 ⟨rfl, hA1, _⟩
            have H1 := Lib.hid hA1
            clear hA1
            go_wp2_with (go_at_call 47; fail)
            refine (of_at H1.out i).mono ?_
            rintro e w2 ⟨rfl, hA2, _⟩
            rw [HLK.out]
            unfold lkV
            have BS := Blk.new w2 82 #[.int .i64 p, .int .i64 n]
            have D3 := Lib.hid (show Dr w g S w2.heap.size p n (w2.alloc (.cells #[.int .i64 p, .int .i64 n] 82)) from ⟨hA2.read ((Below.refl _ _).alloc (Nat.le_refl _) _), BS.cell 0, BS.cell 1, Nat.ne_of_lt hA2.ar.lt, by simp⟩)
            have c0 := D3.out.c0
            have c1 := D3.out.c1
            clear hA2 BS
            go_wp2_with (refine wpList_store_new (ty := 82) rfl rfl rfl rfl rfl ST.out linksInfo ?_)
            refine wp_region_noPanic ?_
            have OF4 := Lib.hid (of_any p g _ D3.out.drew.at_.ar)
            rw [HY.out] at OF4
            have d0 := D3.out.drew.c0
            have d1 := D3.out.drew.c1
            go_region_held3 (fun W' => W'.cell? ⟨w2.heap.size, 0, none⟩ = some (.int .i64 p) ∧ W'.cell? ⟨w2.heap.size, 1, none⟩ = some (.int .i64 n))
              (first | assumption | exact ⟨d0, d1⟩ | exact ⟨(D3.out.drew.read hb4).c0, (D3.out.drew.read hb4).c1⟩ | exact ⟨((D3.out.drew.read hb4).turn hA4 hG4).c0, ((D3.out.drew.read hb4).turn hA4 hG4).c1⟩)
              (first
                | (go_at_call 47; refine OF4.out.mono ?_; rintro e wo4 ⟨rfl, hb4⟩; unfold lkV)
                | (go_at_call 45; refine (set_any p y1 n g _ (D3.out.drew.read hb4).at_.ar HW.out.1 (by have := HW.out.2; omega)).mono ?_; rintro e w4 ⟨rfl, hA4, hG4⟩))
            refine NoPanic.normal ?_
            have D4 := Lib.hid ((D3.out.drew.read hb4).turn hA4 hG4)
            clear hA4 hG4 hb4 OF4 c0 c1 d0 d1 D3
            have c0 := D4.out.c0
            have c1 := D4.out.c1
            have HW4 := Lib.hid (link_writes S p y1 n)
            rw [HS1.out] at D4 HW4
            go_wp2
            refine wp_region_noPanic ?_
            have OF5 := Lib.hid (of_any n g _ D4.out.drew.at_.ar)
            rw [HZ.out] at OF5
            have d0 := D4.out.drew.c0
            have d1 := D4.out.drew.c1
            go_region_held3 (fun W' => W'.cell? ⟨w2.heap.size, 0, none⟩ = some (.int .i64 p) ∧ W'.cell? ⟨w2.heap.size, 1, none⟩ = some (.int .i64 n))
              (first | assumption | exact ⟨d0, d1⟩ | exact ⟨(D4.out.drew.read hb5).c0, (D4.out.drew.read hb5).c1⟩ | exact ⟨((D4.out.drew.read hb5).turn hA5 hG5).c0, ((D4.out.drew.read hb5).turn hA5 hG5).c1⟩)
              (first
                | (go_at_call 47; refine OF5.out.mono ?_; rintro e wo5 ⟨rfl, hb5⟩; unfold lkV)
                | (go_at_call 45; refine (set_any n p z2 g _ (D4.out.drew.read hb5).at_.ar (by have := HW.out.1; have := HW4.out.1; omega) (by have := HW.out.2; have := HW4.out.2; omega)).mono ?_; rintro e w5 ⟨rfl, hA5, hG5⟩))
            refine NoPanic.normal ?_
            have D5 := Lib.hid ((D4.out.drew.read hb5).turn hA5 hG5)
            clear hA5 hG5 hb5 OF5 c0 c1 d0 d1 D4
            have c0 := D5.out.c0
            have c1 := D5.out.c1
            have HW5 := Lib.hid (link_writes S1 n p z2)
            rw [HSJ.out] at D5 HW5
            go_wp2_with (go_at_call 45; fail)
            refine (set_any i (-1) (-1) g _ D5.out.at_.ar (by have := HW.out.1; have := HW4.out.1; have := HW5.out.1; omega) (by have := HW.out.2; have := HW4.out.2; have := HW5.out.2; omega)).mono ?_
            rintro e w6 ⟨rfl, hA6, hG6⟩
            have D6 := Lib.hid (D5.out.turn hA6 hG6)
            clear hA6 hG6 c0 c1 D5
            have c0 := D6.out.c0
            have c1 := D6.out.c1
            go_wp2
            go_ret2
            exact ⟨rfl, D6.out.at_⟩
end Go.Proofs.Ytbidgpeeogoglaa
/-
  Rings of slots as links: laws of lists alone, of no program.
-/
namespace Go.Proofs.Ytbidgpeeogoglaa
set_option maxRecDepth 100000

def hdI (n : Int) : List Nat → Int
  | [] => n
  | x :: _ => x
def lsI (p : Int) : List Nat → Int
  | [] => p
  | x :: xs => lsI x xs
/-- These follow one another: what is ahead of the first one is p, what is behind the last one n. -/
def Lk (f : Int → Int × Int) : Int → List Nat → Int → Prop
  | _, [], _ => True
  | p, x :: xs, n => f x = (p, hdI n xs) ∧ Lk f x xs n
theorem lsI_app (p : Int) (A B : List Nat) : lsI p (A ++ B) = lsI (lsI p A) B := by
  induction A generalizing p with
  | nil => rfl
  | cons a A ih => exact ih _
theorem hdI_app (n : Int) (A B : List Nat) : hdI n (A ++ B) = hdI (hdI n B) A := by
  cases A <;> rfl
theorem lsI_ne {p q : Int} {A : List Nat} (h : A ≠ []) : lsI p A = lsI q A := by
  cases A with
  | nil => exact absurd rfl h
  | cons a A => rfl
theorem hdI_ne {p q : Int} {A : List Nat} (h : A ≠ []) : hdI p A = hdI q A := by
  cases A with
  | nil => exact absurd rfl h
  | cons a A => rfl
theorem lsI_mem {p : Int} {A : List Nat} (h : A ≠ []) : ∃ x : Nat, lsI p A = x ∧ x ∈ A := by
  induction A generalizing p with
  | nil => exact absurd rfl h
  | cons a A ih =>
    cases A with
    | nil => exact ⟨a, rfl, by simp⟩
    | cons b B =>
      obtain ⟨x, h1, h2⟩ := ih (p := a) (by simp)
      exact ⟨x, h1, List.mem_cons_of_mem _ h2⟩
theorem hdI_mem {n : Int} {A : List Nat} (h : A ≠ []) : ∃ x : Nat, hdI n A = x ∧ x ∈ A := by
  cases A with
  | nil => exact absurd rfl h
  | cons a A => exact ⟨a, rfl, by simp⟩
theorem Lk.app {f : Int → Int × Int} {A B : List Nat} {p n : Int} : Lk f p (A ++ B) n ↔ Lk f p A (hdI n B) ∧ Lk f (lsI p A) B n := by
  induction A generalizing p with
  | nil => simp [Lk, lsI]
  | cons a A ih =>
    simp only [List.cons_append, Lk, lsI, hdI_app, ih, and_assoc]
/-- Only the links of these count. -/
theorem Lk.congr {f f' : Int → Int × Int} {L : List Nat} {p n : Int} (h : Lk f p L n) (e : ∀ x ∈ L, f' x = f x) : Lk f' p L n := by
  induction L generalizing p with
  | nil => trivial
  | cons a L ih => exact ⟨(e a (by simp)).trans h.1, ih h.2 fun x hx => e x (List.mem_cons_of_mem _ hx)⟩
/-- The ends are turned. -/
theorem Lk.turn {f f' : Int → Int × Int} {L : List Nat} {p n p' n' : Int} (h : Lk f p L n) (hd : L.Nodup)
    (e : ∀ x ∈ L, f' (x : Int) = (if (x : Int) = hdI (-1) L then p' else (f x).1, if (x : Int) = lsI (-1) L then n' else (f x).2)) : Lk f' p' L n' := by
  induction L generalizing p p' with
  | nil => trivial
  | cons a L ih =>
    have hd' := List.nodup_cons.1 hd
    cases L with
    | nil =>
      refine ⟨?_, trivial⟩
      rw [e a (by simp)]
      simp [hdI, lsI]
    | cons b M =>
      obtain ⟨h1, h2⟩ := h
      obtain ⟨x, hx, hxm⟩ := lsI_mem (p := a) (A := b :: M) (by simp)
      have hne : ∀ y ∈ b :: M, (y : Int) ≠ (a : Int) := fun y hy e => hd'.1 (by have : y = a := by omega
                                                                                rw [← this]; exact hy)
      have hla : ¬ ((a : Int) = lsI (-1) (a :: b :: M)) := by
        show ¬ ((a : Int) = lsI a (b :: M))
        rw [hx]
        exact fun e => hne x hxm e.symm
      refine ⟨?_, ?_⟩
      · rw [e a (by simp), if_neg hla, h1]
        simp [hdI]
      · refine ih h2 hd'.2 fun y hy => ?_
        rw [e y (List.mem_cons_of_mem _ hy), if_neg (show ¬ ((y : Int) = hdI (-1) (a :: b :: M)) from hne y hy)]
        have e1 : lsI (-1) (a :: b :: M) = lsI (-1) (b :: M) := rfl
        rw [e1]
        congr 1
        by_cases hyb : (y : Int) = hdI (-1) (b :: M)
        · rw [if_pos hyb]
          have : y = b := by simp [hdI] at hyb; omega
          subst this
          rw [h2.1]
        · rw [if_neg hyb]
/-- A ring: these slots, the first one first. -/
structure Ring (f : Int → Int × Int) (L : List Nat) : Prop where
  nodup : L.Nodup
  lt : ∀ x ∈ L, x < 32
  lk : Lk f (lsI (-1) L) L (hdI (-1) L)
theorem Ring.nil (f : Int → Int × Int) : Ring f [] := ⟨List.nodup_nil, fun _ h => (by cases h), trivial⟩
theorem Ring.congr {f f' : Int → Int × Int} {L : List Nat} (h : Ring f L) (e : ∀ x ∈ L, f' x = f x) : Ring f' L := ⟨h.nodup, h.lt, h.lk.congr e⟩
theorem Ring.rot {f : Int → Int × Int} {A B : List Nat} (h : Ring f (A ++ B)) : Ring f (B ++ A) := by
  by_cases hA : A = []
  · subst hA; simpa using h
  by_cases hB : B = []
  · subst hB; simpa using h
  refine ⟨?_, fun x hx => h.lt x (by simp at hx ⊢; exact hx.symm), ?_⟩
  · have := h.nodup
    rw [List.nodup_append] at this ⊢
    exact ⟨this.2.1, this.1, fun a ha b hb e => this.2.2 b hb a ha e.symm⟩
  · have := h.lk
    rw [Lk.app] at this ⊢
    rw [lsI_app, hdI_app] at this ⊢
    have l1 : ∀ p, lsI p A = lsI (-1) A := fun p => lsI_ne hA
    have l2 : ∀ p, lsI p B = lsI (-1) B := fun p => lsI_ne hB
    have h1 : ∀ p, hdI p A = hdI (-1) A := fun p => hdI_ne hA
    have h2 : ∀ p, hdI p B = hdI (-1) B := fun p => hdI_ne hB
    simp only [l1 (lsI _ _), l2 (lsI _ _), h1 (hdI _ _), h2 (hdI _ _)] at this ⊢
    exact ⟨this.2, this.1⟩
/-- The ends of one ring. -/
theorem Ring.first {f : Int → Int × Int} {L : List Nat} {a : Nat} (h : Ring f (a :: L)) : f a = (lsI (-1) (a :: L), hdI a L) := h.lk.1
theorem Ring.last {f : Int → Int × Int} {L : List Nat} (h : Ring f L) (hL : L ≠ []) : (f (lsI (-1) L)).2 = hdI (-1) L := by
  have : ∀ (L : List Nat) (p n : Int), L ≠ [] → Lk f p L n → (f (lsI (-1) L)).2 = n := by
    intro L
    induction L with
    | nil => intro p n h; exact absurd rfl h
    | cons a L ih =>
      intro p n _ h
      cases L with
      | nil => show (f a).2 = n; rw [h.1]; rfl
      | cons b M => exact ih a n (by simp) h.2
  exact this L _ _ hL h.lk
theorem Ring.head {f : Int → Int × Int} {L : List Nat} (h : Ring f L) (hL : L ≠ []) : (f (hdI (-1) L)).1 = lsI (-1) L := by
  cases L with
  | nil => exact absurd rfl hL
  | cons a L => show (f a).1 = _; rw [h.first]
/-- Both neighbours lead back. -/
theorem Ring.there {f : Int → Int × Int} {A B : List Nat} {i : Nat} (h : Ring f (A ++ i :: B)) : ∃ p n : Nat, f i = ((p : Int), (n : Int)) ∧ p ∈ A ++ i :: B ∧ n ∈ A ++ i :: B ∧ (f p).2 = i ∧ (f n).1 = i ∧ (p : Int) = lsI (lsI (-1) (i :: B)) A ∧ (n : Int) = hdI (hdI (-1) (A ++ [i])) B := by
  have hr := h.rot
  have hm : ∀ x, x ∈ i :: B ++ A → x ∈ A ++ i :: B := fun x hx => by simp at hx ⊢; rcases hx with h | h | h <;> simp [h]
  obtain ⟨p, hp, hpm⟩ := lsI_mem (p := -1) (A := i :: B ++ A) (by simp)
  obtain ⟨n, hn, hnm⟩ := hdI_mem (n := (i : Int)) (A := B ++ A ++ [i]) (by simp)
  have hn' : hdI (i : Int) (B ++ A) = n := by rw [hdI_app] at hn; exact hn
  have hlk : f i = (lsI (-1) (i :: B ++ A), hdI i (B ++ A)) := hr.first
  refine ⟨p, n, by rw [hlk, hp, hn'], hm p hpm, hm n (by simp at hnm ⊢; rcases hnm with h | h | h <;> simp [h]), ?_, ?_, ?_, ?_⟩
  · rw [← hp]
    exact hr.last (by simp)
  · by_cases hBA : B ++ A = []
    · rw [hBA] at hn'
      have : n = i := by simp [hdI] at hn'; omega
      subst this
      have e := hr.first
      rw [e]
      simp [hBA, lsI]
    · have hr2 : Ring f ([i] ++ (B ++ A)) := by simpa using hr
      have := hr2.lk
      rw [Lk.app] at this
      have h2 := this.2
      obtain ⟨C, c, hC⟩ : ∃ c C, B ++ A = c :: C := by
        cases hh : B ++ A with
        | nil => exact absurd hh hBA
        | cons c C => exact ⟨c, C, rfl⟩
      rw [hC] at h2 hn'
      have hcn : C = n := by simp [hdI] at hn'; omega
      subst hcn
      rw [h2.1]
      rfl
  · rw [← hp]
    show lsI (i : Int) (B ++ A) = _
    rw [lsI_app]; rfl
  · rw [← hn', hdI_app]
    congr 1
    rw [hdI_app]; rfl
/-- **Splice**: the two ends are turned. -/
theorem Ring.splice {f g f' : Int → Int × Int} {A B : List Nat} (hA : Ring f A) (hB : Ring g B) (h0 : A ≠ []) (h1 : B ≠ []) (hd : ∀ x ∈ A, x ∉ B)
    (eA : ∀ x ∈ A, f' (x : Int) = (if (x : Int) = hdI (-1) A then lsI (-1) B else (f x).1, if (x : Int) = lsI (-1) A then hdI (-1) B else (f x).2))
    (eB : ∀ x ∈ B, f' (x : Int) = (if (x : Int) = hdI (-1) B then lsI (-1) A else (g x).1, if (x : Int) = lsI (-1) B then hdI (-1) A else (g x).2)) : Ring f' (A ++ B) := by
  refine ⟨List.nodup_append.2 ⟨hA.nodup, hB.nodup, fun a ha b hb e => hd a ha (e ▸ hb)⟩, fun x hx => by rcases List.mem_append.1 hx with h | h; exact hA.lt x h; exact hB.lt x h, ?_⟩
  rw [Lk.app]
  refine ⟨?_, ?_⟩
  · rw [lsI_app, show lsI (lsI (-1) A) B = lsI (-1) B from lsI_ne h1, hdI_app, show hdI (hdI (hdI (-1) B) A) B = hdI (-1) B from hdI_ne h1]
    exact hA.lk.turn hA.nodup eA
  · rw [lsI_app, hdI_app, show hdI (hdI (-1) B) A = hdI (-1) A from hdI_ne h0]
    rw [show lsI (lsI (lsI (-1) A) B) A = lsI (-1) A from lsI_ne h0]
    exact hB.lk.turn hB.nodup eB
/-- **Drop**: what was beside it is made one another's. -/
theorem Ring.drop {f f' : Int → Int × Int} {A B : List Nat} {i : Nat} (h : Ring f (A ++ i :: B)) (e : ∀ x ∈ A ++ B, f' (x : Int) = (if (f i).2 = (x : Int) then (f i).1 else (f x).1, if (f i).1 = (x : Int) then (f i).2 else (f x).2)) : Ring f' (A ++ B) := by
  have hr := h.rot
  by_cases hBA : B ++ A = []
  · simp at hBA
    rw [hBA.1, hBA.2]; exact Ring.nil _
  have hr2 : Ring f ([i] ++ (B ++ A)) := by simpa using hr
  refine Ring.rot (A := B) (B := A) ⟨(List.nodup_append.1 hr2.nodup).2.1, fun x hx => hr2.lt x (List.mem_append_right _ hx), ?_⟩
  have h2 := hr2.lk
  rw [Lk.app] at h2
  refine h2.2.turn (List.nodup_append.1 hr2.nodup).2.1 fun x hx => ?_
  have hi : f i = (lsI (-1) (B ++ A), hdI (-1) (B ++ A)) := by
    have := hr2.first
    rw [show lsI (-1) (i :: [].append (B ++ A)) = lsI (-1) (B ++ A) from lsI_ne (p := i) hBA, show hdI (i : Int) ([].append (B ++ A)) = hdI (-1) (B ++ A) from hdI_ne hBA] at this
    exact this
  rw [e x (by simp at hx ⊢; exact hx.symm), hi]
  congr 1
  · by_cases hh : hdI (-1) (B ++ A) = (x : Int)
    · rw [if_pos hh, if_pos hh.symm]
    · rw [if_neg hh, if_neg fun k => hh k.symm]
  · by_cases hh : lsI (-1) (B ++ A) = (x : Int)
    · rw [if_pos hh, if_pos hh.symm]
    · rw [if_neg hh, if_neg fun k => hh k.symm]
end Go.Proofs.Ytbidgpeeogoglaa
/-
  Package ring: what Push and Drop make of well-linked rings.
-/
namespace Go.Proofs.Ytbidgpeeogoglaa
set_option maxRecDepth 100000

theorem inR_nat {i : Nat} (h : i < 32) : inR (i : Int) = true := by rw [inR_iff]; omega
theorem St.lk_link (S : St) (hl : S.slots.length = 32) (i p n x : Int) : (S.link i p n).lk x = if x = i ∧ inR i = true then (p, n) else S.lk x := by
  by_cases hi : 0 ≤ i ∧ i < 32
  · obtain ⟨k, rfl⟩ : ∃ k : Nat, i = (k : Int) := ⟨i.toNat, by omega⟩
    have hk : k < 32 := by omega
    have hs : S.slots[k]? = some S.slots[k] := List.getElem?_eq_getElem (by omega)
    generalize S.slots[k] = s at hs
    by_cases he : (s.prev, s.next) = (p, n)
    · rw [S.link_same (by rw [S.lk_in hk hs]; exact he)]
      by_cases hx : x = k
      · rw [if_pos ⟨hx, inR_nat hk⟩, hx, S.lk_in hk hs, he]
      · rw [if_neg (fun h => hx h.1)]
    · rw [S.link_in hk hs he]
      by_cases hx : x = k
      · rw [if_pos ⟨hx, inR_nat hk⟩, hx]
        rw [St.lk_in _ hk (s := { s with prev := p, next := n }) (by simp [St.put, hl, hk])]
      · rw [if_neg (fun h => hx h.1)]
        unfold St.lk
        by_cases hxr : 0 ≤ x ∧ x < 32
        · rw [if_pos hxr, if_pos hxr]
          have : (S.put k { s with prev := p, next := n }).slots[x.toNat]? = S.slots[x.toNat]? := by
            simp only [St.put]
            exact List.getElem?_set_ne (by omega)
          rw [this]
        · rw [if_neg hxr, if_neg hxr]
  · rw [S.link_out hi, if_neg]
    rintro ⟨_, h⟩
    exact hi (inR_iff.1 h)
/-- A slot without its links. -/
def SlotV.strip (s : SlotV) : SlotV := { s with prev := 0, next := 0 }
/-- Links alone have turned, of these slots; at most so many writes. -/
structure Moved (n : Int) (L : List Nat) (S S' : St) : Prop where
  lk : ∀ x : Nat, x ∉ L → S'.lk x = S.lk x
  free : S'.free = S.free
  len : S'.slots.length = S.slots.length
  rest : ∀ k : Nat, (S'.slots[k]?).map SlotV.strip = (S.slots[k]?).map SlotV.strip
  lo : S.writes ≤ S'.writes
  hi : S'.writes ≤ S.writes + n
theorem Moved.refl (S : St) : Moved 0 [] S S := ⟨fun _ _ => rfl, rfl, rfl, fun _ => rfl, Int.le_refl _, by omega⟩
theorem Moved.trans {n m : Int} {L M : List Nat} {S T U : St} (h : Moved n L S T) (k : Moved m M T U) : Moved (n + m) (L ++ M) S U :=
  ⟨fun x hx => (k.lk x (fun h => hx (List.mem_append_right _ h))).trans (h.lk x (fun h => hx (List.mem_append_left _ h))), k.free.trans h.free, k.len.trans h.len, fun j => (k.rest j).trans (h.rest j), Int.le_trans h.lo k.lo, by have := h.hi; have := k.hi; omega⟩
theorem Moved.mono {n m : Int} {L M : List Nat} {S T : St} (h : Moved n L S T) (hn : n ≤ m) (hL : ∀ x ∈ L, x ∈ M) : Moved m M S T :=
  ⟨fun x hx => h.lk x fun hm => hx (hL x hm), h.free, h.len, h.rest, h.lo, by have := h.hi; omega⟩
theorem Moved.link (S : St) (hl : S.slots.length = 32) {i : Nat} (p n : Int) : Moved 1 [i] S (S.link i p n) := by
  refine ⟨fun x hx => ?_, ?_, link_len S i p n, ?_, (link_writes S i p n).1, (link_writes S i p n).2⟩
  · rw [St.lk_link S hl, if_neg]
    rintro ⟨h, _⟩
    exact hx (by simp; omega)
  · unfold St.link
    split
    · split <;> rfl
    · rfl
  · intro k
    unfold St.link
    split
    · split
      · rename_i s hs
        simp only [St.put, Int.toNat_natCast]
        simp only [Int.toNat_natCast] at hs
        by_cases e : i = k
        · subst e
          rw [hs]
          have : i < S.slots.length := (List.getElem?_eq_some_iff.1 hs).1
          simp [SlotV.strip, this]
        · rw [List.getElem?_set_ne e]
      · rfl
    · rfl
/-- In a ring, a slot is well linked. -/
theorem Ring.well {S : St} {A B : List Nat} {i : Nat} (h : Ring S.lk (A ++ i :: B)) : S.well i = true := by
  obtain ⟨p, n, h1, h2, h3, h4, h5, _⟩ := h.there
  unfold St.well
  rw [h1]
  simp [inR_nat (h.lt p h2), inR_nat (h.lt n h3), h4, h5]
theorem Ring.split {f : Int → Int × Int} {L : List Nat} (_ : Ring f L) {i : Nat} (hi : i ∈ L) : ∃ A B, L = A ++ i :: B := List.append_of_mem hi
theorem Ring.wellm {S : St} {L : List Nat} {i : Nat} (h : Ring S.lk L) (hi : i ∈ L) : S.well i = true := by
  obtain ⟨A, B, rfl⟩ := h.split hi
  exact h.well
theorem Ring.one {S : St} (hl : S.slots.length = 32) {i : Nat} (hi : i < 32) : Ring (S.link i i i).lk [i] :=
  ⟨by simp, fun x hx => by simp at hx; omega, by rw [show lsI (-1) [i] = (i : Int) from rfl]; refine ⟨?_, trivial⟩; rw [St.lk_link S hl, if_pos ⟨rfl, inR_nat hi⟩]; rfl⟩
/-- Push of a slot that is in no ring, as the last one of one. -/
theorem push_first {S : St} (hl : S.slots.length = 32) {i : Nat} (hi : i < 32) : ∃ S', S.push (-1) i = (.tuple #[.int .i64 i, .nilIface], S') ∧ Ring S'.lk [i] ∧ Moved 1 [i] S S' := by
  refine ⟨S.link i i i, ?_, Ring.one hl hi, Moved.link S hl _ _⟩
  simp [St.push, inR_nat hi]
theorem push_ring {S : St} (hl : S.slots.length = 32) {L : List Nat} (h : Ring S.lk L) (h0 : L ≠ []) {i : Nat} (hi : i < 32) (hn : i ∉ L) :
    ∃ S', S.push (lsI (-1) L) i = (.tuple #[.int .i64 i, .nilIface], S') ∧ Ring S'.lk (L ++ [i]) ∧ Moved 3 (L ++ [i]) S S' := by
  obtain ⟨l, hlast, hlm⟩ := lsI_mem (p := -1) h0
  obtain ⟨f, hf, hfm⟩ := hdI_mem (n := -1) h0
  have hl2 := h.last h0
  have hf2 := h.head h0
  rw [hlast] at hl2 hf2
  rw [hf] at hl2 hf2
  have hlr := inR_nat (h.lt l hlm)
  have hfr := inR_nat (h.lt f hfm)
  have hil : i ≠ l := fun e => hn (e ▸ hlm)
  have hif : i ≠ f := fun e => hn (e ▸ hfm)
  have hR1 : Ring (S.link i i i).lk [i] := Ring.one hl hi
  -- what the code answers
  have hcode : S.push (lsI (-1) L) i = if f = l then (.tuple #[.int .i64 i, .nilIface], (S.link i l f).link l i i) else
      (.tuple #[.int .i64 i, .nilIface], ((S.link i l f).link l ((S.link i l f).lk l).1 i).link f i (((S.link i l f).link l ((S.link i l f).lk l).1 i).lk f).2) := by
    rw [hlast]
    have hw := h.wellm hlm
    simp only [St.push, inR_nat hi, hlr, hw, hl2]
    rw [if_neg (by simp), if_neg (by omega), if_neg (by simp), if_neg (by simp), if_neg (by omega)]
    by_cases e : f = l
    · rw [if_pos (by omega), if_pos e]
    · rw [if_neg (by omega), if_neg e]
  have hlen1 := (link_len S i l f).trans hl
  -- the two rings, spliced
  have key : ∀ S' : St, (∀ x : Nat, S'.lk x = if x = i then ((l : Int), (f : Int)) else (if x = f then (i : Int) else (S.lk x).1, if x = l then (i : Int) else (S.lk x).2)) → Ring S'.lk (L ++ [i]) := by
    intro S' e
    refine Ring.splice h hR1 h0 (by simp) (fun x hx hx2 => hn (by simp at hx2; exact hx2 ▸ hx)) (fun x hx => ?_) (fun x hx => ?_)
    · rw [e x, if_neg (show ¬ x = i from fun e => hn (e ▸ hx)), hf, hlast]
      simp only [lsI, hdI]
      congr 1
      · by_cases e : x = f
        · rw [if_pos e, if_pos (by omega)]
        · rw [if_neg e, if_neg (by omega)]
      · by_cases e : x = l
        · rw [if_pos e, if_pos (by omega)]
        · rw [if_neg e, if_neg (by omega)]
    · simp at hx
      subst hx
      rw [e x, if_pos rfl, hf, hlast]
      simp [lsI, hdI]
  by_cases e : f = l
  · rw [if_pos e] at hcode
    refine ⟨_, hcode, key _ fun x => ?_, ?_⟩
    · rw [St.lk_link _ hlen1, St.lk_link S hl]
      by_cases e1 : x = i
      · subst e1
        rw [if_neg (by omega), if_pos ⟨rfl, inR_nat hi⟩, if_pos rfl]
      · rw [if_neg (c := x = i) e1]
        by_cases e2 : x = l
        · subst e2
          rw [if_pos ⟨rfl, hlr⟩, if_pos e.symm, if_pos rfl]
        · rw [if_neg (by omega), if_neg (by omega), if_neg (by omega), if_neg e2]
    · refine ((Moved.link S hl _ _).trans (Moved.link _ hlen1 _ _)).mono (by omega) fun x hx => ?_
      simp at hx ⊢
      rcases hx with rfl | rfl
      · exact .inr rfl
      · exact .inl hlm
  · rw [if_neg e] at hcode
    have hlen2 := (link_len (S.link i l f) l ((S.link i l f).lk l).1 i).trans hlen1
    have e1 : ((S.link i l f).lk l).1 = (S.lk l).1 := by rw [St.lk_link S hl, if_neg (by omega)]
    have e2 : (((S.link i l f).link l ((S.link i l f).lk l).1 i).lk f).2 = (S.lk f).2 := by
      rw [St.lk_link _ hlen1, if_neg (by omega), St.lk_link S hl, if_neg (by omega)]
    refine ⟨_, hcode, key _ fun x => ?_, ?_⟩
    · rw [e2, e1] at *
      rw [St.lk_link _ (by rw [link_len, hlen1]), St.lk_link _ hlen1, St.lk_link S hl]
      by_cases c1 : x = i
      · subst c1
        rw [if_neg (by omega), if_neg (by omega), if_pos ⟨rfl, inR_nat hi⟩, if_pos rfl]
      · rw [if_neg (c := x = i) c1]
        by_cases c2 : x = l
        · subst c2
          rw [if_neg (by omega), if_pos ⟨rfl, hlr⟩, if_neg (fun h => e h.symm), if_pos rfl]
        · by_cases c3 : x = f
          · subst c3
            rw [if_pos ⟨rfl, hfr⟩, if_pos rfl, if_neg c2]
          · rw [if_neg (by omega), if_neg (by omega), if_neg (by omega), if_neg c3, if_neg c2]
    · refine (((Moved.link S hl _ _).trans (Moved.link _ hlen1 _ _)).trans (Moved.link _ hlen2 _ _)).mono (by omega) fun x hx => ?_
      simp at hx ⊢
      rcases hx with rfl | rfl | rfl
      · exact .inr rfl
      · exact .inl hlm
      · exact .inl hfm
/-- Drop out of a ring. -/
theorem drop_ring {S : St} (hl : S.slots.length = 32) {A B : List Nat} {i : Nat} (h : Ring S.lk (A ++ i :: B)) :
    ∃ S', S.dropR (lsI (-1) (A ++ i :: B)) i = (.tuple #[.int .i64 (lsI (-1) (A ++ B)), .nilIface], S') ∧ Ring S'.lk (A ++ B) ∧ S'.lk i = (-1, -1) ∧ Moved 3 (A ++ i :: B) S S' := by
  obtain ⟨p, n, hpn, hpm, hnm, hpi, hni, hp, hn⟩ := h.there
  have hi : i < 32 := h.lt i (by simp)
  have hir := inR_nat hi
  have hpr := inR_nat (h.lt p hpm)
  have hnr := inR_nat (h.lt n hnm)
  obtain ⟨l, hlast, hlm⟩ := lsI_mem (p := -1) (A := A ++ i :: B) (by simp)
  have hiAB : i ∉ A ++ B := by
    have := h.nodup
    rw [List.nodup_append] at this
    obtain ⟨_, h2, h3⟩ := this
    rw [List.mem_append]
    rintro (h4 | h4)
    · exact h3 i h4 i (by simp) rfl
    · exact (List.nodup_cons.1 h2).1 h4
  -- what is answered
  have hans : (if (i : Int) ≠ (l : Int) then (l : Int) else if (p : Int) = i then -1 else (p : Int)) = lsI (-1) (A ++ B) := by
    by_cases hB : B = []
    · subst hB
      have e1 : (l : Int) = i := by rw [← hlast, lsI_app]; rfl
      rw [if_neg (by simp [e1])]
      rw [hp]
      by_cases hA : A = []
      · subst hA
        simp [lsI]
      · rw [show lsI (lsI (-1) [i]) A = lsI (-1) A from lsI_ne hA, List.append_nil]
        obtain ⟨x, hx, hxm⟩ := lsI_mem (p := -1) hA
        rw [hx, if_neg]
        intro e
        exact hiAB (by rw [List.append_nil]; have : x = i := by omega
                       exact this ▸ hxm)
    · have e1 : lsI (-1) (A ++ i :: B) = lsI (-1) B := by rw [lsI_app]; exact lsI_ne hB
      have e2 : lsI (-1) (A ++ B) = lsI (-1) B := by rw [lsI_app]; exact lsI_ne hB
      rw [e2, ← e1, hlast, if_pos]
      obtain ⟨x, hx, hxm⟩ := lsI_mem (p := -1) hB
      rw [e1, hx] at hlast
      intro e
      exact hiAB (List.mem_append_right _ (by have : x = i := by omega
                                              exact this ▸ hxm))
  have hcode : S.dropR (lsI (-1) (A ++ i :: B)) i = (.tuple #[.int .i64 (lsI (-1) (A ++ B)), .nilIface], (S.joined i p n).link i (-1) (-1)) := by
    rw [hlast]
    simp only [St.dropR, hir, inR_nat (h.lt l hlm), h.well, hpn, hans]
    simp
  -- the ring that is left
  have key : ∀ S' : St, (∀ x : Nat, x ≠ i → S'.lk x = (if (n : Int) = (x : Int) then (p : Int) else (S.lk x).1, if (p : Int) = (x : Int) then (n : Int) else (S.lk x).2)) → Ring S'.lk (A ++ B) := by
    intro S' e
    refine h.drop fun x hx => ?_
    rw [e x (fun e => hiAB (e ▸ hx)), hpn]
  have hpAB : p ≠ i → n ≠ i := by
    rintro hne rfl
    exact hne (by have := hni; rw [hpn] at this; simp at this; omega)
  have hnp : n ≠ i → p ≠ i := by
    rintro hne rfl
    exact hne (by have := hpi; rw [hpn] at this; simp at this; omega)
  refine ⟨_, hcode, ?_, ?_, ?_⟩
  · by_cases h1 : p = i
    · have h2 : n = i := Classical.byContradiction fun h => hnp h h1
      have hlen := hl
      refine key _ fun x hx => ?_
      rw [show S.joined i p n = S from by simp [St.joined, h1], St.lk_link S hl, if_neg (by omega), if_neg (by omega), if_neg (by omega)]
    · have h2 := hpAB h1
      by_cases h3 : p = n
      · have e : S.joined i p n = S.link p n n := by simp only [St.joined]; rw [if_neg (by omega), if_pos (by omega)]
        rw [e]
        refine key _ fun x hx => ?_
        rw [St.lk_link _ (by rw [link_len, hl]), if_neg (by omega), St.lk_link S hl]
        by_cases c : x = p
        · rw [if_pos ⟨by omega, hpr⟩, if_pos (by omega), if_pos (by omega), h3]
        · rw [if_neg (by omega), if_neg (by omega), if_neg (by omega)]
      · have e : S.joined i p n = (S.link p (S.lk p).1 n).link n p ((S.link p (S.lk p).1 n).lk n).2 := by simp only [St.joined]; rw [if_neg (by omega), if_neg (by omega)]
        have e2 : ((S.link p (S.lk p).1 n).lk n).2 = (S.lk n).2 := by rw [St.lk_link S hl, if_neg (by omega)]
        rw [e, e2]
        refine key _ fun x hx => ?_
        rw [St.lk_link _ (by rw [link_len, link_len, hl]), if_neg (by omega), St.lk_link _ (by rw [link_len, hl]), St.lk_link S hl]
        by_cases c : x = p
        · subst c
          rw [if_neg (by omega), if_pos ⟨rfl, hpr⟩, if_neg (by omega), if_pos rfl]
        · by_cases c2 : x = n
          · subst c2
            rw [if_pos ⟨rfl, hnr⟩, if_pos rfl, if_neg (by omega)]
          · rw [if_neg (by omega), if_neg (by omega), if_neg (by omega), if_neg (by omega)]
  · have hlen : (S.joined i p n).slots.length = 32 := by
      unfold St.joined
      split
      · exact hl
      · split
        · rw [link_len, hl]
        · simp only [link_len, hl]
    rw [St.lk_link _ hlen, if_pos ⟨rfl, hir⟩]
  · have hm : Moved 2 (A ++ i :: B) S (S.joined i p n) := by
      unfold St.joined
      split
      · exact (Moved.refl S).mono (by omega) (fun _ h => by cases h)
      · split
        · exact (Moved.link S hl _ _).mono (by omega) (fun x hx => by simp only [List.mem_singleton] at hx; exact hx ▸ hpm)
        · exact ((Moved.link S hl _ _).trans (Moved.link _ (by rw [link_len, hl]) _ _)).mono (by omega) (fun x hx => by
            simp only [List.mem_append, List.mem_singleton] at hx
            rcases hx with hx | hx
            · exact hx ▸ hpm
            · exact hx ▸ hnm)
    exact (hm.trans (Moved.link _ (hm.len.trans hl) _ _)).mono (by omega) (fun x hx => by
      rcases List.mem_append.1 hx with h | h
      · exact h
      · simp only [List.mem_singleton] at h; rw [h]; simp)
end Go.Proofs.Ytbidgpeeogoglaa
/-
  Package ring: Splice, as the code has it, and what it makes of well-linked rings; the slots of a ring in their order.
-/
namespace Go.Proofs.Ytbidgpeeogoglaa
set_option maxRecDepth 100000

/-- One slot of Splice's four. -/
def St.spl1 (S : St) (one two f g i : Int) : St := S.link i (if i = g then one else if i = f then two else (S.lk i).1) (if i = one then g else if i = two then f else (S.lk i).2)
def St.spl4 (S : St) (one two f g : Int) : St := (((S.spl1 one two f g one).spl1 one two f g two).spl1 one two f g f).spl1 one two f g g
/-- Splice, as the code has it. -/
def St.splice (S : St) (one two : Int) : Value × St :=
  if (one ≠ -1 ∧ inR one = false) ∨ (two ≠ -1 ∧ inR two = false) then (.tuple #[.int .i64 0, errno 1], S)
  else if one = -1 then (.tuple #[.int .i64 two, .nilIface], S)
  else if two = -1 then (.tuple #[.int .i64 one, .nilIface], S)
  else if one = two then (.tuple #[.int .i64 0, errno 9], S)
  else if S.well one = false then (.tuple #[.int .i64 0, faultV 24 one], S)
  else if S.well two = false then (.tuple #[.int .i64 0, faultV 24 two], S)
  else (.tuple #[.int .i64 two, .nilIface], S.spl4 one two (S.lk one).2 (S.lk two).2)
theorem spl1_len (S : St) (a b f g i : Int) : (S.spl1 a b f g i).slots.length = S.slots.length := link_len ..
def spT (S : St) (a b f g x : Int) : Int × Int := (if x = g then a else if x = f then b else (S.lk x).1, if x = a then g else if x = b then f else (S.lk x).2)
theorem spl1_lk {S T : St} (hl : T.slots.length = 32) {a b f g : Int} {P : List Nat} (h : ∀ x : Nat, T.lk x = if x ∈ P then spT S a b f g x else S.lk x) {i : Nat} (hi : i < 32) :
    ∀ x : Nat, (T.spl1 a b f g i).lk x = if x ∈ P ++ [i] then spT S a b f g x else S.lk x := by
  intro x
  unfold St.spl1
  rw [St.lk_link T hl]
  by_cases hx : x = i
  · subst hx
    rw [if_pos ⟨rfl, inR_nat hi⟩, if_pos (c := x ∈ P ++ [x]) (by simp), h x]
    by_cases hP : x ∈ P
    · rw [if_pos hP]
      unfold spT
      simp only
      congr 1
      · by_cases e1 : (x : Int) = g
        · rw [if_pos e1, if_pos e1]
        · by_cases e2 : (x : Int) = f
          · rw [if_neg e1, if_pos e2, if_neg e1, if_pos e2]
          · rw [if_neg e1, if_neg e2]
      · by_cases e1 : (x : Int) = a
        · rw [if_pos e1, if_pos e1]
        · by_cases e2 : (x : Int) = b
          · rw [if_neg e1, if_pos e2, if_neg e1, if_pos e2]
          · rw [if_neg e1, if_neg e2]
    · rw [if_neg hP]
      rfl
  · rw [if_neg (by omega), h x]
    simp [hx]
theorem spl4_lk {S : St} (hl : S.slots.length = 32) {a b f g : Nat} (ha : a < 32) (hb : b < 32) (hf : f < 32) (hg : g < 32) : ∀ x : Nat, (S.spl4 a b f g).lk x = spT S a b f g x := by
  intro x
  have h0 : ∀ x : Nat, S.lk x = if x ∈ ([] : List Nat) then spT S a b f g x else S.lk x := fun x => by simp
  have h1 := spl1_lk hl h0 ha
  have h2 := spl1_lk (by rw [spl1_len, hl]) h1 hb
  have h3 := spl1_lk (by rw [spl1_len, spl1_len, hl]) h2 hf
  have h4 := spl1_lk (by rw [spl1_len, spl1_len, spl1_len, hl]) h3 hg
  show (((((S.spl1 a b f g a).spl1 a b f g b).spl1 a b f g f).spl1 a b f g g).lk x) = _
  rw [h4 x]
  by_cases hm : x ∈ [] ++ [a] ++ [b] ++ [f] ++ [g]
  · rw [if_pos hm]
  · rw [if_neg hm]
    simp at hm
    unfold spT
    rw [if_neg (by omega), if_neg (by omega), if_neg (by omega), if_neg (by omega)]
theorem spl4_moved {S : St} (hl : S.slots.length = 32) {a b f g : Nat} : Moved 4 [a, b, f, g] S (S.spl4 a b f g) :=
  ((((Moved.link S hl _ _).trans (Moved.link _ (by rw [link_len, hl]) _ _)).trans (Moved.link _ (by rw [link_len, link_len, hl]) _ _)).trans (Moved.link _ (by rw [link_len, link_len, link_len, hl]) _ _)).mono (by omega) fun x hx => by simp at hx ⊢; omega
theorem splice_ring {S : St} (hl : S.slots.length = 32) {A B : List Nat} (hA : Ring S.lk A) (hB : Ring S.lk B) (hd : ∀ x ∈ A, x ∉ B) :
    ∃ S', S.splice (lsI (-1) A) (lsI (-1) B) = (.tuple #[.int .i64 (lsI (-1) (A ++ B)), .nilIface], S') ∧ Ring S'.lk (A ++ B) ∧ Moved 4 (A ++ B) S S' := by
  by_cases h0 : A = []
  · subst h0
    refine ⟨S, ?_, hB, (Moved.refl S).mono (by omega) (fun _ h => by cases h)⟩
    by_cases h1 : B = []
    · subst h1; simp [St.splice, lsI]
    · obtain ⟨b, hb, hbm⟩ := lsI_mem (p := -1) h1
      simp only [List.nil_append, hb]
      have := inR_nat (hB.lt b hbm)
      simp [St.splice, lsI, this]
  by_cases h1 : B = []
  · subst h1
    refine ⟨S, ?_, by simpa using hA, (Moved.refl S).mono (by omega) (fun _ h => by cases h)⟩
    obtain ⟨a, ha, ham⟩ := lsI_mem (p := -1) h0
    simp only [List.append_nil, ha]
    have := inR_nat (hA.lt a ham)
    simp [St.splice, lsI, this]
    try omega
  obtain ⟨a, ha, ham⟩ := lsI_mem (p := -1) h0
  obtain ⟨b, hb, hbm⟩ := lsI_mem (p := -1) h1
  obtain ⟨f, hf, hfm⟩ := hdI_mem (n := -1) h0
  obtain ⟨g, hg, hgm⟩ := hdI_mem (n := -1) h1
  have har := hA.lt a ham
  have hbr := hB.lt b hbm
  have hfr := hA.lt f hfm
  have hgr := hB.lt g hgm
  have hab : a ≠ b := fun e => hd a ham (e ▸ hbm)
  have l1 := hA.last h0
  have l2 := hB.last h1
  rw [ha, hf] at l1
  rw [hb, hg] at l2
  have e1 : lsI (-1) (A ++ B) = b := by rw [lsI_app, ← hb]; exact lsI_ne h1
  have hlk := spl4_lk hl har hbr hfr hgr
  refine ⟨S.spl4 a b f g, ?_, ?_, ?_⟩
  · rw [ha, hb, e1]
    simp only [St.splice, inR_nat har, inR_nat hbr, hA.wellm ham, hB.wellm hbm, l1, l2]
    rw [if_neg (by simp), if_neg (by omega), if_neg (by omega), if_neg (by omega), if_neg (by simp), if_neg (by simp)]
  · refine Ring.splice hA hB h0 h1 hd (fun x hx => ?_) (fun x hx => ?_)
    · have n1 : x ≠ g := fun e => hd x hx (e ▸ hgm)
      have n2 : x ≠ b := fun e => hd x hx (e ▸ hbm)
      rw [hlk x, ha, hb, hf, hg]
      unfold spT
      rw [if_neg (c := (x : Int) = (g : Int)) (by omega), if_neg (c := (x : Int) = (b : Int)) (by omega)]
    · have n1 : x ≠ f := fun e => hd f hfm (e ▸ hx)
      have n2 : x ≠ a := fun e => hd a ham (e ▸ hx)
      rw [hlk x, ha, hb, hf, hg]
      unfold spT
      rw [if_neg (c := (x : Int) = (f : Int)) (by omega), if_neg (c := (x : Int) = (a : Int)) (by omega)]
  · refine (spl4_moved hl).mono (Int.le_refl _) fun x hx => ?_
    simp at hx ⊢
    rcases hx with rfl | rfl | rfl | rfl
    · exact .inl ham
    · exact .inr hbm
    · exact .inl hfm
    · exact .inr hgm

/-- The slots from one on, by the links behind; at most so many. -/
def St.run (S : St) : Nat → Int → List Nat
  | 0, _ => []
  | n + 1, i => if inR i = true then i.toNat :: S.run n (S.lk i).2 else []
def upto (last : Int) : List Nat → List Nat
  | [] => []
  | x :: xs => if (x : Int) = last then [x] else x :: upto last xs
/-- What All hands out. -/
def St.all (S : St) (last : Int) : List Nat := if inR last = true then upto last (S.run 32 (S.lk last).2) else []
theorem run_ring {S : St} : ∀ (L : List Nat) (p n : Int) (k : Nat), Lk S.lk p L n → L ≠ [] → L.Nodup → (∀ x ∈ L, x < 32) → L.length ≤ k → upto (lsI (-1) L) (S.run k (hdI (-1) L)) = L
  | [], _, _, _, _, h, _, _, _ => absurd rfl h
  | a :: L, p, n, 0, _, _, _, _, h => by simp at h
  | a :: L, p, n, k + 1, h, _, hd, hlt, hk => by
    have ha := inR_nat (hlt a (by simp))
    simp only [hdI, St.run, ha, if_true, Int.toNat_natCast]
    cases L with
    | nil => simp [upto, lsI]
    | cons b M =>
      have hd' := List.nodup_cons.1 hd
      obtain ⟨x, hx, hxm⟩ := lsI_mem (p := (a : Int)) (A := b :: M) (by simp)
      have e1 : lsI (-1) (a :: b :: M) = lsI (-1) (b :: M) := rfl
      have e2 : lsI (-1) (b :: M) = x := by rw [← hx]; rfl
      have e3 : (S.lk a).2 = hdI (-1) (b :: M) := by rw [h.1]; rfl
      have ih := run_ring (b :: M) a n k h.2 (by simp) hd'.2 (fun y hy => hlt y (List.mem_cons_of_mem _ hy)) (by simp at hk ⊢; omega)
      rw [e1, e3]
      unfold upto
      rw [if_neg, ih]
      rw [e2]
      intro e
      exact hd'.1 (by have : a = x := by omega
                      exact this ▸ hxm)
theorem all_ring {S : St} {L : List Nat} (h : Ring S.lk L) (hlen : L.length ≤ 32) : S.all (lsI (-1) L) = L := by
  by_cases h0 : L = []
  · subst h0; rfl
  · obtain ⟨l, hl, hm⟩ := lsI_mem (p := -1) h0
    unfold St.all
    rw [h.last h0, hl, inR_nat (h.lt l hm), if_pos rfl, ← hl]
    exact run_ring L _ _ 32 h.lk h0 h.nodup h.lt hlen
theorem run_lt (S : St) : ∀ (k : Nat) (i : Int), ∀ x ∈ S.run k i, x < 32
  | 0, _, x, h => by cases h
  | k + 1, i, x, h => by
    unfold St.run at h
    split at h
    · rename_i hi
      rcases List.mem_cons.1 h with rfl | h
      · have := inR_iff.1 hi; omega
      · exact run_lt S k _ x h
    · cases h
theorem run_len (S : St) : ∀ (k : Nat) (i : Int), (S.run k i).length ≤ k
  | 0, _ => Nat.le_refl _
  | k + 1, i => by
    unfold St.run
    split
    · have := run_len S k (S.lk i).2
      simp; omega
    · simp
theorem upto_pre (last : Int) : ∀ L : List Nat, upto last L <+: L
  | [] => List.prefix_rfl
  | x :: xs => by
    unfold upto
    split
    · exact ⟨xs, rfl⟩
    · obtain ⟨t, ht⟩ := upto_pre last xs
      exact ⟨t, by rw [List.cons_append, ht]⟩
theorem all_len (S : St) (last : Int) : (S.all last).length ≤ 32 := by
  unfold St.all
  split
  · exact Nat.le_trans (upto_pre _ _).length_le (run_len ..)
  · simp
end Go.Proofs.Ytbidgpeeogoglaa
/-
  Package arena: what Get answers at any number.
-/
namespace Go.Proofs.Ytbidgpeeogoglaa
set_option maxRecDepth 100000
open Go.RowKit

/-- What Get answers at any number. -/
def St.slotAt (S : St) (j : Int) : SlotV := if inR j = true then (match S.slots[j.toNat]? with | some s => s | none => SlotV.zero) else SlotV.zero
def errAt (j : Int) : Value := if inR j = true then .nilIface else errno 1
theorem get_gen {S : St} (j : Int) (g : Nat) (w : World) (h : IsAr w g S) : Calls Try.prog 23 #[.pointer (some ⟨g, 0, none⟩), .int .i64 j] w (RetB (.tuple #[.agg (S.slotAt j).cells, errAt j]) w) := by
  rcases hj : inR j with _ | _
  · have h2 : j < 0 ∨ 32 ≤ j := by
      have : ¬ (0 ≤ j ∧ j < 32) := fun h => by rw [inR_iff.2 h] at hj; cases hj
      omega
    unfold St.slotAt errAt
    rw [hj, if_neg (by simp), if_neg (by simp)]
    exact get_out h2 _ w
  · have h2 := inR_iff.1 hj
    obtain ⟨k, rfl⟩ : ∃ k : Nat, j = (k : Int) := ⟨j.toNat, by omega⟩
    obtain ⟨s, hs⟩ := h.slot (k := k) (by omega)
    unfold St.slotAt errAt
    rw [hj, if_pos rfl, if_pos rfl, Int.toNat_natCast, hs]
    exact get_st (by omega) hs g w h
end Go.Proofs.Ytbidgpeeogoglaa
