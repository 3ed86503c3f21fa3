/-
  lineagekit: lists of slots, lent and kept.
-/
import Derived.Test.YtahcedpfnechfaaDoorAudV
namespace Go.Proofs.YtahcedpfnechfaaDoor
set_option maxRecDepth 100000
open Go.RowKit Go.Sort


def markText (k i : Int) : ByteArray := strOfNums [35, k % 256, k / 256 % 256, i % 256, i / 256 % 256]
set_option maxHeartbeats 400000 in
theorem markText_any (k i : Int) (w : World) : Calls Tryd.prog 60 #[.int .i64 k, .int .i64 i] w (RetB (.string (markText k i)) w) := by
  have hc := run_convert_bytes_arg (P := Tryd.prog) (w.alloc (.cells #[.int .u8 35, .int .u8 (k % 256), .int .u8 (k / 256 % 256), .int .u8 (i % 256), .int .u8 (i / 256 % 256)] 5)) 113 5 Tryd.underlying113 Tryd.underlying5 w.heap.size 0 5 5 [35, k % 256, k / 256 % 256, i % 256, i / 256 % 256] rfl
    (fun j hj => by rcases j with _ | _ | _ | _ | _ | j <;> first | (simp; done) | omega) 9 Tryd.underlying9
  go_enter Tryd.func60, Tryd.ntmps60
  go_wp2
  go_ret
  exact ⟨rfl, by go_grown⟩

def markSlot (k i : Int) : SlotV := { SlotV.zero with kids := wrap64 (-7 - k), label := markText k i }
set_option maxHeartbeats 400000 in
theorem markSlot_any (k i : Int) (w : World) : Calls Tryd.prog 50 #[.int .i64 k, .int .i64 i] w (RetB (.agg (markSlot k i).cells) w) := by
  go_enter Tryd.func50, Tryd.ntmps50
  go_wp2_with (first
    | (go_at_call 60; fail))
  refine (markText_any _ _ _).mono ?_
  rintro e w1 ⟨rfl, hb1⟩
  have HB := Lib.hid ((Blk.new w 49 SlotV.zero.cells).below hb1 (by simp))
  have HL := Lib.hid (((Below.refl w.heap.size w).alloc (Nat.le_refl _) _).trans (hb1.mono (by simp)))
  clear hb1
  go_wp2_with (refine wpList_store_all (vs := (markSlot k i).cells) rfl rfl rfl rfl HB.out rfl (SlotV.one _) slotInfo ?_)
  refine bodyPost_ret (results_at rfl rfl (HB.out.setRow_same _).row rfl rfl slotInfo) rfl ⟨rfl, bel_setRow HL.out (Nat.le_refl _) _⟩

/-- The list that FullSlotVions makes: the sessions, and 16 marks behind. -/
def fullSlots (xs : List SlotV) : List SlotV := xs ++ (List.range 16).map fun (i : Nat) => markSlot 90 (i : Int)
theorem fullSlots_len (xs : List SlotV) : (fullSlots xs).length = xs.length + 16 := by simp [fullSlots]
theorem marksS_succ (k : Nat) : (List.range (k + 1)).map (fun (i : Nat) => markSlot 90 (i : Int)) = (List.range k).map (fun (i : Nat) => markSlot 90 (i : Int)) ++ [markSlot 90 (k : Int)] := by simp [List.range_succ]

/-- A slice of sessions that a call made. -/
def MadeS (B : Nat) (l : List SlotV) (w : World) (e : Ending) (w' : World) : Prop :=
  ∃ g cap, e = .returned (.slice (some ⟨g, 0, none⟩) l.length cap) ∧ w'.ownsRow B 49 17 (.slice (some ⟨g, 0, none⟩) l.length cap) l.length (flat SlotV.cells l) ∧ Below B w w'

theorem zeroS : (Tryd.prog.info? 49).map (fun i => (i.zero, i.size, i.bytes)) = some (some (.agg SlotV.zero.cells), 17, 144) := by kernel_rfl

/-- At the head of a round of the first loop. -/
def Full1S (w : World) (xs : List SlotV) (v i : Value) (wr : World) : Prop :=
  ∃ k : Nat, k ≤ xs.length ∧ i = .int .i64 k ∧ wr.ownsRow w.heap.size 49 17 v k (flat SlotV.cells (xs.take k)) ∧ Below w.heap.size w wr
def Full2S (w : World) (xs : List SlotV) (v i : Value) (wr : World) : Prop :=
  ∃ k : Nat, k ≤ 16 ∧ i = .int .i64 k ∧ wr.ownsRow w.heap.size 49 17 v (xs.length + k) (flat SlotV.cells (xs ++ (List.range k).map fun (i : Nat) => markSlot 90 (i : Int))) ∧ Below w.heap.size w wr

/-- What an append of one more session asks. -/
def FitsS (n : Nat) : Prop := n ≤ maxLen ∧ n * 144 ≤ 140737488355328
theorem fits16S {n : Nat} (h : n * 144 ≤ 140737488351232) : ∀ k, k ≤ n + 16 → FitsS k := fun k hk => ⟨by unfold maxLen; omega, by omega⟩

set_option maxHeartbeats 1000000 in
theorem fullS_any (A : Option Addr) (cap : Nat) (xs : List SlotV) (w : World) (hr : SlotsIn w A xs) (hl : xs.length * 144 ≤ 140737488351232) :
    Calls Tryd.prog 37 #[.slice A xs.length cap] w (MadeS w.heap.size (fullSlots xs) w) := by
  have HR := Lib.hid hr; clear hr
  have hl1 : xs.length ≤ 9223372036854775807 := by omega
  have HF := Lib.hid (fits16S hl)
  clear hl
  obtain ⟨i0, hi, hz0, hz1, hz2⟩ := info_parts zeroS
  go_enter Tryd.func37, Tryd.ntmps37
  go_wp2
  go_loopw [3, 4] (Full1S w xs) (fun _ i _ => xs.length - (intOf i).toNat)
  case atStart => exact ⟨0, Nat.zero_le _, rfl, World.ownsRow_nil _ _ _ _, Below.refl _ _⟩
  case round =>
    obtain ⟨k, hk, rfl, hown, hbel⟩ := hrel
    by_cases hlt : k < xs.length
    · obtain ⟨s, hs⟩ : ∃ s, xs[k]? = some s := ⟨_, List.getElem?_eq_getElem hlt⟩
      obtain ⟨b, off, rfl, hb, hrow⟩ := HR.out (by omega)
      have HAT := Lib.hid ((hrow k s hs).below hbel hb)
      have ht : flat SlotV.cells (xs.take (k + 1)) = flat SlotV.cells (xs.take k) ++ s.cells.toList := by
        rw [List.take_add_one, hs]; exact flat_snoc s
      have HT := Lib.hid ht
      have HS := Lib.hid hs
      have hsz := hbel.size
      have HK := Lib.hid (HF.out (k + 1) (by omega))
      clear ht hs hrow HR
      go_wp2_with (first
        | (refine wpList_load_at rfl rfl rfl HAT.out rfl rfl slotInfo ?_)
        | (refine wpList_buildSlice_one rfl rfl rfl Tryd.underlying22 hi hz0 hz1 rfl (by decide) (by decide) ?_)
        | (at_builtin; refine wpList_append_one (v := u3) rfl _ _ 22 rfl Tryd.underlying22 hi hz0 hz1 hz2 rfl (by decide) rfl hown rfl rfl (SlotV.one s) HK.out.1 HK.out.2 hsz ?_; intro g' cap' w1 hown1 hgr1))
      go_roundw
      case rel => exact ⟨k + 1, by omega, by go_num, by rw [HT.out]; exact hown1, bel_grown hbel hgr1 hown (Nat.le_refl _) hsz⟩
      case measure => simp [intOf]; omega
    · have ht : xs.take k = xs := List.take_of_length_le (by omega)
      rw [ht] at hown
      obtain rfl : k = xs.length := by omega
      clear ht HR
      go_wp2
      go_loopw [3, 5] (Full2S w xs) (fun _ i _ => 16 - (intOf i).toNat)
      case atStart => exact ⟨0, Nat.zero_le _, rfl, by simpa using hown, hbel⟩
      case round =>
        clear hown hbel
        obtain ⟨k, hk, rfl, hown, hbel⟩ := hrel
        by_cases hlt : k < 16
        · have hsz := hbel.size
          have HK := Lib.hid (HF.out (xs.length + k + 1) (by omega))
          go_wp2_with (first
            | (go_at_call 50; fail))
          refine (markSlot_any _ _ _).mono ?_
          rintro e w1 ⟨rfl, hb1⟩
          have hown1 : w1.ownsRow w.heap.size 49 17 u3 (xs.length + k) (flat SlotV.cells (xs ++ (List.range k).map fun (i : Nat) => markSlot 90 (i : Int))) := own_below hown hb1 
          have hbel1 := hbel.trans (hb1.mono hsz)
          have hsz1 := hbel1.size
          clear hown hb1 hbel hsz
          go_wp2_with (first
            | (refine wpList_buildSlice_one rfl rfl rfl Tryd.underlying22 hi hz0 hz1 rfl (by decide) (by decide) ?_)
            | (at_builtin; refine wpList_append_one (v := u3) rfl _ _ 22 rfl Tryd.underlying22 hi hz0 hz1 hz2 rfl (by decide) rfl hown1 rfl rfl (SlotV.one _) HK.out.1 HK.out.2 hsz1 ?_; intro g' cap' w2 hown2 hgr2))
          go_roundw
          case rel => exact ⟨k + 1, by omega, by go_num, by rw [marksS_succ, ← List.append_assoc, flat_snoc]; exact hown2, bel_grown hbel1 hgr2 hown1 (Nat.le_refl _) hsz1⟩
          case measure => simp [intOf]; omega
        · obtain rfl : k = 16 := by omega
          go_wp2
          obtain ⟨g, cp, rfl⟩ := own_form hown (by omega)
          go_ret
          refine ⟨g, cp, ?_, ?_, hbel⟩
          · rw [fullSlots_len]; rfl
          · rw [fullSlots_len]; exact hown

/-- What LentSlotVions hands back: the sessions, with the marks in the spare room. -/
def LentS (B : Nat) (xs : List SlotV) (w : World) (e : Ending) (w' : World) : Prop :=
  ∃ g cap, e = .returned (.slice (some ⟨g, 0, none⟩) xs.length cap) ∧ w'.ownsRow B 49 17 (.slice (some ⟨g, 0, none⟩) (fullSlots xs).length cap) (fullSlots xs).length (flat SlotV.cells (fullSlots xs)) ∧ Below B w w'

set_option maxHeartbeats 400000 in
theorem lentS_any (A : Option Addr) (cap : Nat) (xs : List SlotV) (w : World) (hr : SlotsIn w A xs) (hl : xs.length * 144 ≤ 140737488351232) :
    Calls Tryd.prog 22 #[.slice A xs.length cap] w (LentS w.heap.size xs w) := by
  have HR := Lib.hid hr
  have HL := Lib.hid hl
  clear hr hl
  go_enter Tryd.func22, Tryd.ntmps22
  go_wp2_with (first
    | (go_at_call 37; fail))
  refine (fullS_any A cap xs w HR.out HL.out).mono ?_
  rintro e w1 ⟨g, cp, rfl, hown, hbel⟩
  have hc := (own_cap hown)
  have hlc : xs.length ≤ cp := by have := fullSlots_len xs; omega
  have HO := Lib.hid hown
  have hcm : cp ≤ 9223372036854775807 := by have := hc.2.1; unfold maxLen at this; omega
  clear hown hc HL
  go_wp2
  go_ret
  exact ⟨g, cp, rfl, HO.out, hbel⟩

theorem fullSlots_lo {xs : List SlotV} {k : Nat} {s : SlotV} (h : xs[k]? = some s) : (fullSlots xs)[k]? = some s := by
  unfold fullSlots
  rw [List.getElem?_append_left (List.getElem?_eq_some_iff.1 h).1]; exact h
theorem fullSlots_hi {xs : List SlotV} {k : Nat} (h : xs.length ≤ k) (h2 : k < xs.length + 16) : (fullSlots xs)[k]? = some (markSlot 90 ((k : Int) - xs.length)) := by
  unfold fullSlots
  rw [List.getElem?_append_right h, List.getElem?_map, List.getElem?_range (by omega)]
  simp only [Option.map_some, Option.some.injEq]
  congr 1
  omega

def KRelS (w : World) (n : Nat) (i : Value) (wr : World) : Prop := ∃ k : Nat, k ≤ n ∧ i = .int .i64 k ∧ Below w.heap.size w wr

set_option maxHeartbeats 1000000 in
theorem keptFullS_any (g cap base lcap : Nat) (A : Option Addr) (xs : List SlotV) (w : World) (ho : w.ownsRow base 49 17 (.slice (some ⟨g, 0, none⟩) (fullSlots xs).length cap) (fullSlots xs).length (flat SlotV.cells (fullSlots xs)))
    (hr : SlotsIn w A xs) (hl : xs.length * 144 ≤ 140737488351232) :
    Calls Tryd.prog 42 #[.slice (some ⟨g, 0, none⟩) (xs.length + 16) cap, .slice A xs.length lcap] w (RetB (.bool true) w) := by
  have HR := Lib.hid hr
  have hl1 : xs.length + 16 ≤ 9223372036854775807 := by omega
  have hgw := (own_cap ho).2.2.2
  have HO := Lib.hid ho
  clear hr hl ho
  have hne : ((xs.length : Int) + 16 != (xs.length : Int) + 16) = false := by simp
  go_enter Tryd.func42, Tryd.ntmps42
  go_wp2
  go_loopw [5] (KRelS w (xs.length + 16)) (fun i _ => xs.length + 16 - (intOf i).toNat)
  case atStart => exact ⟨0, Nat.zero_le _, rfl, Below.refl _ _⟩
  case round =>
    obtain ⟨k, hk, rfl, hbel⟩ := hrel
    by_cases hlt : k < xs.length + 16
    · have hsz := hbel.size
      go_wp2_with (first
        | (go_at_call 50; fail))
      refine (markSlot_any _ _ _).mono ?_
      rintro e w1 ⟨rfl, hb1⟩
      have hbel1 := hbel.trans (hb1.mono hsz)
      have hsz1 := hbel1.size
      clear hb1 hbel hsz
      by_cases hkn : k < xs.length
      · obtain ⟨s, hs⟩ : ∃ s, xs[k]? = some s := ⟨_, List.getElem?_eq_getElem hkn⟩
        obtain ⟨b, off, rfl, hb, hrow⟩ := HR.out (by omega)
        have hbel2 : Below w.heap.size w (w1.alloc (.cells s.cells 49)) := hbel1.alloc hsz1 _
        have HAT := Lib.hid (((hrow k s hs).below hbel1 hb).alloc (Nat.lt_of_lt_of_le hb hsz1))
        have HG := Lib.hid ((own_row SlotV.size HO.out (fullSlots_lo hs)).below hbel2 hgw)
        clear hs hrow HR
        go_wp2_with (first
          | (refine wpList_store_new rfl rfl rfl rfl rfl (SlotV.one _) slotInfo ?_)
          | (refine wpList_load_at rfl rfl rfl (HAT.out _) rfl rfl slotInfo ?_))
        try simp only [Act.put, List.setIfInBounds_toArray, List.set_cons_zero, List.set_cons_succ]
        refine wp_region_quiet_below (by kernel_rfl) (by kernel_rfl) ?_
        have hgk : ((k : Int)) < (xs.length : Int) + 16 := by omega
        have hnq := neq_slot
        repeat (first
          | go_big_quiet_skip
          | (refine wpQuiet_load_at rfl rfl rfl (HG.out.class_ (by simp; omega)) rfl rfl slotInfo ?_; simp only [Act.put, List.setIfInBounds_toArray, List.set_cons_zero, List.set_cons_succ])
          | (refine wpQuiet_load_at rfl rfl rfl ((Blk.new w1 49 s.cells).row.class_ (by simp)) rfl rfl slotInfo ?_; simp only [Act.put, List.setIfInBounds_toArray, List.set_cons_zero, List.set_cons_succ])
          | (go_big_quiet_want; go_big_quiet_op; go_big_quiet_on))
        refine wpQuiet_nil ?_
        intro w2 hC2
        have hb2 := below_class hC2
        clear hC2
        go_wp2
        go_roundw
        case rel => exact ⟨k + 1, by omega, by go_num, hbel2.trans (hb2.mono hbel2.size)⟩
        case measure => simp [intOf]; omega
      · have hge : xs.length ≤ k := by omega
        have hbel2 : Below w.heap.size w (w1.alloc (.cells (markSlot 90 ((k : Int) - xs.length)).cells 49)) := hbel1.alloc hsz1 _
        have HG := Lib.hid ((own_row SlotV.size HO.out (fullSlots_hi hge hlt)).below hbel2 hgw)
        clear HR
        go_wp2_with (first
          | (refine wpList_store_new rfl rfl rfl rfl rfl (SlotV.one _) slotInfo ?_))
        try simp only [Act.put, List.setIfInBounds_toArray, List.set_cons_zero, List.set_cons_succ]
        refine wp_region_quiet_below (by kernel_rfl) (by kernel_rfl) ?_
        have hgk : ((k : Int)) < (xs.length : Int) + 16 := by omega
        have hnq := neq_slot
        repeat (first
          | go_big_quiet_skip
          | (refine wpQuiet_load_at rfl rfl rfl (HG.out.class_ (by simp; omega)) rfl rfl slotInfo ?_; simp only [Act.put, List.setIfInBounds_toArray, List.set_cons_zero, List.set_cons_succ])
          | (refine wpQuiet_load_at rfl rfl rfl ((Blk.new w1 49 (markSlot 90 ((k : Int) - xs.length)).cells).row.class_ (by simp)) rfl rfl slotInfo ?_; simp only [Act.put, List.setIfInBounds_toArray, List.set_cons_zero, List.set_cons_succ])
          | (go_big_quiet_want; go_big_quiet_op; go_big_quiet_on))
        refine wpQuiet_nil ?_
        intro w2 hC2
        have hb2 := below_class hC2
        clear hC2
        go_wp2
        go_roundw
        case rel => exact ⟨k + 1, by omega, by go_num, hbel2.trans (hb2.mono hbel2.size)⟩
        case measure => simp [intOf]; omega
    · go_wp2
      go_ret
      exact ⟨rfl, hbel⟩

set_option maxHeartbeats 400000 in
theorem keptS_any (g cap base lcap : Nat) (A : Option Addr) (xs : List SlotV) (w : World) (ho : w.ownsRow base 49 17 (.slice (some ⟨g, 0, none⟩) (fullSlots xs).length cap) (fullSlots xs).length (flat SlotV.cells (fullSlots xs)))
    (hr : SlotsIn w A xs) (hl : xs.length * 144 ≤ 140737488351232) :
    Calls Tryd.prog 25 #[.slice (some ⟨g, 0, none⟩) xs.length cap, .slice A xs.length lcap] w (RetB (.bool true) w) := by
  have hc := own_cap ho
  have hlc : xs.length + 16 ≤ cap := by have := fullSlots_len xs; omega
  have hcm : cap ≤ 9223372036854775807 := by have := hc.2.1; unfold maxLen at this; omega
  have hne : ((xs.length : Int) != (xs.length : Int)) = false := by simp
  have HR := Lib.hid hr
  have HL := Lib.hid hl
  have HO := Lib.hid ho
  clear hr hl ho hc
  go_enter Tryd.func25, Tryd.ntmps25
  go_wp2_with (first
    | (go_at_call 42; fail))
  refine (keptFullS_any g cap base lcap A xs w HO.out HR.out HL.out).mono ?_
  rintro e w1 ⟨rfl, hb1⟩
  go_wp2
  go_ret
  exact ⟨rfl, hb1⟩
end Go.Proofs.YtahcedpfnechfaaDoor
