/-
  Package ring: there, of, set, well, at an arena that is S.
-/
import Derived.Test.YtdgdbcapojgnlaaDoorArWorks
import Derived.BigRegion
namespace Go.Proofs.YtdgdbcapojgnlaaDoor
set_option maxRecDepth 100000
open Go.RowKit

def inR (i : Int) : Bool := decide (0 ≤ i) && decide (i < 32)
/-- A slot's two links; none, if it is no slot. -/
def St.lk (S : St) (i : Int) : Int × Int := if 0 ≤ i ∧ i < 32 then match S.slots[i.toNat]? with | some s => (s.prev, s.next) | none => (-1, -1) else (-1, -1)
/-- A slot is given links, if it has others. -/
def St.link (S : St) (i p n : Int) : St := if (0 ≤ i ∧ i < 32) ∧ S.lk i ≠ (p, n) then match S.slots[i.toNat]? with | some s => S.put i.toNat { s with prev := p, next := n } | none => S else S
def St.well (S : St) (i : Int) : Bool := inR (S.lk i).1 && inR (S.lk i).2 && ((S.lk (S.lk i).1).2 == i) && ((S.lk (S.lk i).2).1 == i)
theorem St.lk_out (S : St) {i : Int} (h : ¬ (0 ≤ i ∧ i < 32)) : S.lk i = (-1, -1) := by unfold St.lk; rw [if_neg h]
theorem St.lk_in (S : St) {k : Nat} (hk : k < 32) {s : SlotV} (hs : S.slots[k]? = some s) : S.lk (k : Int) = (s.prev, s.next) := by
  unfold St.lk; rw [if_pos (by omega)]; simp [hs]
theorem St.link_out (S : St) {i : Int} (h : ¬ (0 ≤ i ∧ i < 32)) (p n : Int) : S.link i p n = S := by unfold St.link; rw [if_neg (fun h2 => h h2.1)]
theorem St.link_same (S : St) {i : Int} {p n : Int} (h : S.lk i = (p, n)) : S.link i p n = S := by unfold St.link; rw [if_neg (fun h2 => h2.2 h)]
theorem St.link_in (S : St) {k : Nat} (hk : k < 32) {s : SlotV} (hs : S.slots[k]? = some s) {p n : Int} (h : (s.prev, s.next) ≠ (p, n)) : S.link (k : Int) p n = S.put k { s with prev := p, next := n } := by
  unfold St.link
  rw [if_pos ⟨by omega, by rw [S.lk_in hk hs]; exact h⟩]
  simp [hs]
theorem IsAr.slot {w : World} {g : Nat} {S : St} (h : IsAr w g S) {k : Nat} (hk : k < 32) : ∃ s, S.slots[k]? = some s := ⟨_, List.getElem?_eq_getElem (by rw [h.len]; exact hk)⟩
theorem SlotV.c3 (s : SlotV) : (SlotV.cells s)[3]? = some (.int .i64 s.prev) := rfl
theorem SlotV.c4 (s : SlotV) : (SlotV.cells s)[4]? = some (.int .i64 s.next) := rfl

theorem rthere_any (i : Int) (w : World) : Calls Tryd.prog 41 #[.int .i64 i] w (RetSame (.bool (inR i)) w) := by
  by_cases h0 : 0 ≤ i
  · by_cases h1 : i < 32
    · have e : inR i = true := by simp [inR, h0, h1]
      rw [e]
      go_enter Tryd.func41, Tryd.ntmps41
      go_wp2
      go_ret
      exact ⟨rfl, rfl⟩
    · have e : inR i = false := by simp [inR, h1]
      rw [e]
      go_enter Tryd.func41, Tryd.ntmps41
      go_wp2
      go_ret
      exact ⟨rfl, rfl⟩
  · have e : inR i = false := by simp [inR, h0]
    rw [e]
    go_enter Tryd.func41, Tryd.ntmps41
    go_wp2
    go_ret
    exact ⟨rfl, rfl⟩
/-- A slot's links as the code holds them. -/
def lkV (x : Int × Int) : Value := .agg #[.int .i64 x.1, .int .i64 x.2]
theorem linksInfo : (Tryd.prog.info? 83).map (·.size) = some 2 := by kernel_rfl
set_option maxHeartbeats 2000000 in
theorem of_any {S : St} (i : Int) (g : Nat) (w : World) (h : IsAr w g S) : Calls Tryd.prog 43 #[.pointer (some ⟨g, 0, none⟩), .int .i64 i] w (RetB (lkV (S.lk i)) w) := by
  have HA := Lib.hid (h.block (Below.heap_alloc w (.cells #[.int .i64 0, .int .i64 0] 83) g h.lt))
  have HUS := Lib.hid Tryd.underlying36
  have HUL := Lib.hid Tryd.underlying83
  have hb0 := (Below.refl w.heap.size w).alloc (Nat.le_refl _) (.cells #[.int .i64 0, .int .i64 0] 83)
  have HB0 := Lib.hid hb0
  clear h hb0
  by_cases hi : 0 ≤ i ∧ i < 32
  · obtain ⟨k, rfl⟩ : ∃ k : Nat, i = (k : Int) := ⟨i.toNat, by omega⟩
    have hk : k < 32 := by omega
    obtain ⟨s, hs⟩ := HA.out.slot hk
    rw [S.lk_in hk hs]
    have HG := Lib.hid (get_st hk hs g _ HA.out)
    clear hs hi
    go_enter Tryd.func43, Tryd.ntmps43
    go_wp2_with (go_at_call 27; fail)
    refine HG.out.mono ?_
    rintro e w1 ⟨rfl, hb1⟩
    have hs1 := hb1.size
    rw [World.size_alloc] at hs1
    have bk : Blk w1 w.heap.size 83 #[.int .i64 0, .int .i64 0] := (Blk.new w _ _).below hb1 (by simp)
    have BR := Lib.hid (bk.alloc (.cells s.cells 36))
    have BS := Blk.new w1 36 s.cells
    have c3 := (BS.cell 3).trans s.c3
    have c4 := (BS.cell 4).trans s.c4
    have HB1 := Lib.hid (HB0.out.trans (hb1.mono (by simp)))
    clear bk BS hb1
    go_wp2_with (first
      | (refine wpList_store_new (ty := 36) rfl rfl rfl rfl rfl (SlotV.one _) slotInfo ?_)
      | (refine wpList_store_all (ty := 83) rfl rfl rfl rfl BR.out rfl (by intro v hv; simp at hv; rcases hv with rfl | rfl <;> rfl) linksInfo ?_))
    exact bodyPost_ret (results_at rfl rfl (BR.out.setRow_same _).row HUL.out rfl linksInfo) rfl ⟨rfl, bel_setRow (HB1.out.alloc HB1.out.size _) (Nat.le_refl _) _⟩
  · rw [S.lk_out hi]
    have HG := Lib.hid (get_out (by omega) (some ⟨g, 0, none⟩) (w.alloc (.cells #[.int .i64 0, .int .i64 0] 83)) : Calls Tryd.prog _ #[_, .int .i64 i] _ _)
    go_enter Tryd.func43, Tryd.ntmps43
    go_wp2_with (go_at_call 27; fail)
    refine HG.out.mono ?_
    rintro e w1 ⟨rfl, hb1⟩
    have hs1 := hb1.size
    rw [World.size_alloc] at hs1
    have bk : Blk w1 w.heap.size 83 #[.int .i64 0, .int .i64 0] := (Blk.new w _ _).below hb1 (by simp)
    have BR := Lib.hid (bk.alloc (.cells SlotV.zero.cells 36))
    have HB1 := Lib.hid (HB0.out.trans (hb1.mono (by simp)))
    clear bk hb1
    simp only [errno]
    go_wp2_with (first
      | (refine wpList_store_new (ty := 36) rfl rfl rfl rfl rfl (SlotV.one _) slotInfo ?_)
      | (refine wpList_store_all (ty := 83) rfl rfl rfl rfl BR.out rfl (by intro v hv; simp at hv; rcases hv with rfl | rfl <;> rfl) linksInfo ?_))
    exact bodyPost_ret (results_at rfl rfl (BR.out.setRow_same _).row HUL.out rfl linksInfo) rfl ⟨rfl, bel_setRow (HB1.out.alloc HB1.out.size _) (Nat.le_refl _) _⟩

theorem SlotV.linked (s : SlotV) (p n : Int) : (s.cells.setIfInBounds 3 (.int .i64 p)).setIfInBounds 4 (.int .i64 n) = ({ s with prev := p, next := n } : SlotV).cells := rfl
set_option maxHeartbeats 4000000 in
theorem set_any {S : St} (i p n : Int) (g : Nat) (w : World) (h : IsAr w g S) (hw0 : 0 ≤ S.writes) (hw1 : S.writes < 1000000000) :
    Calls Tryd.prog 66 #[.pointer (some ⟨g, 0, none⟩), .int .i64 i, lkV (p, n)] w (RetSt (.tuple #[]) w g (S.link i p n)) := by
  have HW := Lib.hid (And.intro hw0 hw1)
  have hg := h.lt
  have HA := Lib.hid (h.block (Below.heap_alloc w (.cells #[.int .i64 p, .int .i64 n] 83) g h.lt))
  have HUS := Lib.hid Tryd.underlying36
  have HUL := Lib.hid Tryd.underlying83
  have hb0 := (Below.refl w.heap.size w).alloc (Nat.le_refl _) (.cells #[.int .i64 p, .int .i64 n] 83)
  have HB0 := Lib.hid hb0
  have HB := Lib.hid (Blk.new w 83 #[.int .i64 p, .int .i64 n])
  clear h hb0 hw0 hw1
  by_cases hi : 0 ≤ i ∧ i < 32
  · obtain ⟨k, rfl⟩ : ∃ k : Nat, i = (k : Int) := ⟨i.toNat, by omega⟩
    have hk : k < 32 := by omega
    obtain ⟨s, hs⟩ := HA.out.slot hk
    have HG := Lib.hid (get_st hk hs g _ HA.out)
    clear hi
    by_cases heq : (s.prev, s.next) = (p, n)
    · rw [S.link_same (by rw [S.lk_in hk hs]; exact heq)]
      obtain ⟨rfl, rfl⟩ := Prod.mk.inj heq
      clear heq
      unfold lkV
      go_enter Tryd.func66, Tryd.ntmps66
      go_wp2_with (first
        | (refine wpList_store_new (ty := 83) rfl rfl rfl rfl rfl (by intro v hv; simp at hv; rcases hv with rfl | rfl <;> rfl) linksInfo ?_)
        | (go_at_call 27; fail))
      refine HG.out.mono ?_
      rintro e w1 ⟨rfl, hb1⟩
      have hs1 := hb1.size
      rw [World.size_alloc] at hs1
      have b5 := (HB.out.below hb1 (by simp)).alloc (.cells s.cells 36)
      have HR5 := Lib.hid b5.row
      have BS := Blk.new w1 36 s.cells
      have c3 := (BS.cell 3).trans s.c3
      have c4 := (BS.cell 4).trans s.c4
      have HB1 := Lib.hid (HB0.out.trans (hb1.mono (by simp)))
      have HA1 := Lib.hid (HA.out.below hb1 HA.out.lt)
      clear b5 BS hb1
      go_wp2_with (first
        | (refine wpList_store_new (ty := 36) rfl rfl rfl rfl rfl (SlotV.one _) slotInfo ?_)
        | (refine wpList_load_at (ty := 83) rfl rfl rfl HR5.out HUL.out rfl linksInfo ?_))
      go_end0
      exact ⟨rfl, HA1.out.block (Below.heap_alloc _ _ _ HA1.out.lt), grownBy_below (HB1.out.alloc HB1.out.size _) _⟩
    · have hsz : s.prev ≠ p ∨ (s.prev = p ∧ s.next ≠ n) := by
        by_cases e1 : s.prev = p
        · exact .inr ⟨e1, fun e2 => heq (by rw [e1, e2])⟩
        · exact .inl e1
      rw [S.link_in hk hs heq]
      have HS := Lib.hid hs
      clear heq hs
      unfold lkV
      rcases hsz with hne | ⟨he1, hne⟩
      rotate_left
      have he' := beq_iff_eq.2 he1
      clear he1
      all_goals
        have hne' := beq_eq_false_iff_ne.2 hne
        clear hne
        go_enter Tryd.func66, Tryd.ntmps66
        go_wp2_with (first
          | (refine wpList_store_new (ty := 83) rfl rfl rfl rfl rfl (by intro v hv; simp at hv; rcases hv with rfl | rfl <;> rfl) linksInfo ?_)
          | (go_at_call 27; fail))
        refine HG.out.mono ?_
        rintro e w1 ⟨rfl, hb1⟩
        have hs1 := hb1.size
        rw [World.size_alloc] at hs1
        have b5 := (HB.out.below hb1 (by simp)).alloc (.cells s.cells 36)
        have HR5 := Lib.hid b5.row
        have BS := Blk.new w1 36 s.cells
        have c3 := (BS.cell 3).trans s.c3
        have c4 := (BS.cell 4).trans s.c4
        have f3 := BS.frozen 3
        have f4 := BS.frozen 4
        have bw := HB.out.below hb1 (by simp)
        have p5 : ∀ o : Obj, (w1.alloc o).cell? ⟨w.heap.size, 0, none⟩ = some (.int .i64 p) := fun o => (bw.alloc o).cell 0
        have n5 : ∀ o : Obj, (w1.alloc o).cell? ⟨w.heap.size, 1, none⟩ = some (.int .i64 n) := fun o => (bw.alloc o).cell 1
        have HB1 := Lib.hid (HB0.out.trans (hb1.mono (by simp)))
        have HA1 := Lib.hid (HA.out.below hb1 HA.out.lt)
        clear b5 hb1 BS bw
        go_wp2_with (first
          | (refine wpList_store_new (ty := 36) rfl rfl rfl rfl rfl (SlotV.one _) slotInfo ?_)
          | (refine wpList_load_at (ty := 83) rfl rfl rfl HR5.out HUL.out rfl linksInfo ?_))
        go_region
        rw [SlotV.linked]
        have HR6 := Lib.hid (Blk.new w1 36 ({ s with prev := p, next := n } : SlotV).cells).drew.row
        have hAw : IsAr (w1.alloc (.cells ({ s with prev := p, next := n } : SlotV).cells 36)).drew g S := IsAr.block (HA1.out.block (Below.heap_alloc w1 (.cells ({ s with prev := p, next := n } : SlotV).cells 36) g HA1.out.lt)) rfl
        have HP := Lib.hid (put_st hk ({ s with prev := p, next := n } : SlotV) g _ hAw HW.out.1 HW.out.2)
        have HBw := Lib.hid (HB1.out.alloc HB1.out.size (.cells ({ s with prev := p, next := n } : SlotV).cells 36)).drew
        clear hAw p5 n5 c3 c4 f3 f4 hne'
        go_wp2_with (first
          | (refine wpList_load_at (ty := 36) rfl rfl rfl HR6.out HUS.out rfl slotInfo ?_)
          | (go_at_call 29; fail))
        refine HP.out.mono ?_
        rintro e w2 ⟨rfl, hA2, hG2⟩
        have HA2 := Lib.hid hA2
        have HG2 := Lib.hid (grownBy_trans (grownBy_below HBw.out (some g)) hG2)
        clear hA2 hG2
        go_wp2
        go_end0
        exact ⟨rfl, HA2.out, HG2.out⟩
  · rw [S.link_out hi]
    have HG := Lib.hid (get_out (by omega) (some ⟨g, 0, none⟩) (w.alloc (.cells #[.int .i64 p, .int .i64 n] 83)) : Calls Tryd.prog _ #[_, .int .i64 i] _ _)
    unfold lkV
    go_enter Tryd.func66, Tryd.ntmps66
    go_wp2_with (first
      | (refine wpList_store_new (ty := 83) rfl rfl rfl rfl rfl (by intro v hv; simp at hv; rcases hv with rfl | rfl <;> rfl) linksInfo ?_)
      | (go_at_call 27; fail))
    refine HG.out.mono ?_
    rintro e w1 ⟨rfl, hb1⟩
    have HB1 := Lib.hid (HB0.out.trans (hb1.mono (by simp)))
    have HA1 := Lib.hid (HA.out.below hb1 HA.out.lt)
    clear hb1
    simp only [errno]
    go_wp2_with (first
      | (refine wpList_store_new (ty := 36) rfl rfl rfl rfl rfl (SlotV.one _) slotInfo ?_))
    go_end0
    exact ⟨rfl, HA1.out.block (Below.heap_alloc _ _ _ HA1.out.lt), grownBy_below (HB1.out.alloc HB1.out.size _) _⟩
theorem inR_iff {i : Int} : inR i = true ↔ 0 ≤ i ∧ i < 32 := by simp [inR]
theorem inR_lt {i : Int} (h : inR i = true) : 0 ≤ i ∧ i < 32 := by simpa [inR] using h
theorem field0 (a b : Int) (w : World) : (Instr.field 83 (.agg #[.int .i64 a, .int .i64 b]) 0).run Tryd.prog w = .ok (.int .i64 a) w := by kernel_rfl
theorem field1 (a b : Int) (w : World) : (Instr.field 83 (.agg #[.int .i64 a, .int .i64 b]) 1).run Tryd.prog w = .ok (.int .i64 b) w := by kernel_rfl
set_option maxHeartbeats 4000000 in
theorem well_any {S : St} (i : Int) (g : Nat) (w : World) (h : IsAr w g S) : Calls Tryd.prog 65 #[.pointer (some ⟨g, 0, none⟩), .int .i64 i] w (RetB (.bool (S.well i)) w) := by
  have HA := Lib.hid h
  clear h
  unfold St.well
  obtain ⟨x, hx⟩ : ∃ x, S.lk i = x := ⟨_, rfl⟩
  obtain ⟨p, n⟩ := x
  obtain ⟨y, hy⟩ : ∃ y, S.lk p = y := ⟨_, rfl⟩
  obtain ⟨z, hz⟩ : ∃ z, S.lk n = z := ⟨_, rfl⟩
  obtain ⟨p1, n1⟩ := y
  obtain ⟨p2, n2⟩ := z
  simp only [hx, hy, hz]
  have HX := Lib.hid hx
  have HY := Lib.hid hy
  have HZ := Lib.hid hz
  clear hx hy hz
  go_enter Tryd.func65, Tryd.ntmps65
  go_wp2_with (go_at_call 43; fail)
  refine (of_any i g w HA.out).mono ?_
  rintro e w1 ⟨rfl, hb1⟩
  rw [HX.out]
  unfold lkV
  have BS := Blk.new w1 83 #[.int .i64 p, .int .i64 n]
  have c0 := BS.cell 0
  have c1 := BS.cell 1
  simp only [List.getElem?_toArray, List.getElem?_cons_zero, List.getElem?_cons_succ] at c0 c1
  have hA2 := (HA.out.below hb1 HA.out.lt).block (Below.heap_alloc w1 (.cells #[.int .i64 p, .int .i64 n] 83) g (by have := HA.out.lt; have := hb1.size; omega))
  have HA2 := Lib.hid hA2
  have HB2 := Lib.hid (hb1.alloc hb1.size (.cells #[.int .i64 p, .int .i64 n] 83))
  have HO1 := Lib.hid (of_any p g _ HA2.out)
  rw [HY.out] at HO1
  clear hA2 hb1 BS HA
  have store : ∀ v ∈ (#[Value.int .i64 p, .int .i64 n] : Array Value).toList, v.oneCell' = true := by intro v hv; simp at hv; rcases hv with rfl | rfl <;> rfl
  have ST := Lib.hid store
  clear store
  have fl0 := field0
  have fl1 := field1
  rcases hp : inR p with _ | _
  · go_wp2_with (first
      | (refine wpList_store_new (ty := 83) rfl rfl rfl rfl rfl ST.out linksInfo ?_)
      | (go_at_call 41; refine (rthere_any _ _).mono ?_; rintro e w' ⟨rfl, rfl⟩))
    go_ret
    exact ⟨by simp [hp], HB2.out⟩
  · rcases hn : inR n with _ | _
    · go_wp2_with (first
        | (refine wpList_store_new (ty := 83) rfl rfl rfl rfl rfl ST.out linksInfo ?_)
        | (go_at_call 41; refine (rthere_any _ _).mono ?_; rintro e w' ⟨rfl, rfl⟩))
      go_ret
      exact ⟨by simp [hn], HB2.out⟩
    · go_wp2_with (first
        | (refine wpList_store_new (ty := 83) rfl rfl rfl rfl rfl ST.out linksInfo ?_)
        | (go_at_call 41; refine (rthere_any _ _).mono ?_; rintro e w' ⟨rfl, rfl⟩)
        | (go_at_call 43; fail))
      refine HO1.out.mono ?_
      rintro e w3 ⟨rfl, hb3⟩
      unfold lkV
      have c13 := (hb3.cell (p := ⟨w1.heap.size, 1, none⟩) (by rw [World.size_alloc]; show w1.heap.size < _; omega)).trans c1
      have HO2 := Lib.hid (of_any n g w3 (HA2.out.below hb3 HA2.out.lt))
      rw [HZ.out] at HO2
      have HB3 := Lib.hid (HB2.out.trans (hb3.mono HB2.out.size))
      clear hb3
      rcases h1 : (n1 == i) with _ | _
      · go_wp2
        go_ret
        exact ⟨by simp [h1], HB3.out⟩
      · go_wp2_with (go_at_call 43; fail)
        refine HO2.out.mono ?_
        rintro e w4 ⟨rfl, hb4⟩
        have HB4 := Lib.hid (HB3.out.trans (hb4.mono HB3.out.size))
        unfold lkV
        clear hb4
        go_wp2
        go_ret
        exact ⟨by simp [hp, hn, h1], HB4.out⟩
end Go.Proofs.YtdgdbcapojgnlaaDoor
