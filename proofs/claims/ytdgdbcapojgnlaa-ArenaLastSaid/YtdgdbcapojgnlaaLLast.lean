/-
  lineagelaw15.ArenaLast: the whole walk.
-/
import Derived.Test.YtdgdbcapojgnlaaAct
import Derived.Test.YtdgdbcapojgnlaaPick
import Derived.Test.YtdgdbcapojgnlaaErrs
import Derived.Test.YtdgdbcapojgnlaaIntArg
namespace Go.Proofs.Ytdgdbcapojgnlaa
set_option maxRecDepth 100000
open Go.RowKit Go.Shelf
attribute [local go_sem] Oper.semAt_some

/-- A bare slot's cells, written out. -/
@[reducible] def bareL : Array Value := #[.bool false, .bool false, .int .i64 (-1), .int .i64 (-1), .int .i64 (-1), .int .i64 0, .int .i64 0, .int .i64 0, .int .i64 0, .int .i64 0, .string ByteArray.empty, .string ByteArray.empty, .int .u64 0, .int .i64 0, .int .i64 0, .int .i64 0, .int .i64 0]
theorem bare_lit : SlotV.bare.cells = bareL := rfl
theorem bareL_one : ∀ v ∈ bareL.toList, v.oneCell' = true := SlotV.one SlotV.bare
theorem neq_bare (w : World) : (binOp .neq 34 (.agg bareL) (.agg bareL)).run Try.prog w = .ok (.bool false) w := by kernel_rfl
/-- What was given back: L, in that order; all else is taken. -/
structure Back (wr : World) (g : Nat) (L : List Nat) (S : St) (m : Nat) : Prop where
  ar : IsAr wr g S
  free : S.free = (L.take m).reverse
  writes : S.writes = 32 + (L.length : Int)
  bare : ∀ x, x ∈ L → S.slots[x]? = some SlotV.bare
theorem Back.block {wr wr' : World} {g m : Nat} {L : List Nat} {S : St} (h : Back wr g L S m) (hb : wr'.heap[g]? = wr.heap[g]?) : Back wr' g L S m := { h with ar := h.ar.block hb }
theorem Back.give {wr wr' : World} {g : Nat} {L : List Nat} {S : St} {x : Nat} (h : Back wr g L S L.length) (hx : x < 32) (hA : IsAr wr' g (S.give x)) : Back wr' g (L ++ [x]) (S.give x) (L ++ [x]).length := by
  refine ⟨hA, ?_, ?_, ?_⟩
  · have := h.free
    rw [List.take_length] at this ⊢
    simp [St.give, this]
  · have := h.writes
    simp [St.give, this]; omega
  · intro y hy
    have hl := h.ar.len
    by_cases e : y = x
    · subst e
      simp [St.give, List.getElem?_set, hl, hx]
    · have hy' : y ∈ L := by simpa [e] using hy
      simp [St.give, List.getElem?_set, Ne.symm e, h.bare y hy']
theorem Back.full {wr : World} {g : Nat} {S : St} (hA : IsAr wr g S) (h1 : S.free = []) (h2 : S.writes = 32) : Back wr g [] S ([] : List Nat).length :=
  ⟨hA, by simp [h1], by simp [h2], fun x hx => by cases hx⟩
theorem Back.next {wr wr' : World} {g m x : Nat} {L : List Nat} {S : St} (h : Back wr g L S (m + 1)) (hx : L[m]? = some x) : S.free = x :: (L.take m).reverse ∧ S.slots[x]? = some SlotV.bare ∧ x < 32 ∧ (IsAr wr' g S.take → Back wr' g L S.take m) := by
  have e : S.free = x :: (L.take m).reverse := by rw [h.free, List.take_add_one, hx]; simp
  exact ⟨e, h.bare x (List.mem_of_getElem? hx), h.ar.free_lt x (by rw [e]; simp), fun hA => ⟨hA, by show S.free.tail = _; rw [e]; rfl, h.writes, h.bare⟩⟩

set_option maxHeartbeats 8000000 in
theorem last_any (P0 : Option Addr) (cap : Nat) (l : List Int) (s : SlotV) (w : World) (hin : IntsAt w P0 l) (hlen : l.length * 8 ≤ 140737488351232) :
    Calls Try.prog 4 #[.slice P0 l.length cap, .agg s.cells] w (RetB (.bool true) w) := by
  obtain ⟨ii, iz, hi, hz0, hz1, hz2, hz3⟩ := intInfo
  have HI := Lib.hid hin
  have HUS := Lib.hid Try.underlying34
  clear hin
  go_enter Try.func4, Try.ntmps4
  go_wp2_with (first
    | (refine wpList_store_new (ty := 34) rfl rfl rfl rfl rfl (SlotV.one _) slotInfo ?_)
    | (go_at_call 9; fail))
  refine (works_any _).mono ?_
  rintro e w1 ⟨rfl, hb1⟩
  have BS1 := Lib.hid (show Blk w1 w.heap.size 34 s.cells from (Blk.new w _ _).below hb1 (by simp))
  have hw1 : w.heap.size + 1 ≤ w1.heap.size := by have := hb1.size; rw [World.size_alloc] at this; exact this
  have B1 := Lib.hid (show Below w.heap.size w w1 from ((Below.refl _ w).alloc (Nat.le_refl _) _).trans (hb1.mono (by simp)))
  clear hb1
  go_wp2_with (go_at_call 10; fail)
  refine (new_st w1).mono ?_
  rintro e w2 ⟨g, rfl, hg, hS2, hb2⟩
  have hs2 := hb2.size
  have hgl := hS2.lt
  have B2 := Lib.hid (B1.out.trans (hb2.mono (by omega)))
  have BS2 := Lib.hid (BS1.out.below hb2 (by omega))
  have K2 := Lib.hid hS2
  clear hb2 hS2 B1 BS1
  go_wp2
  go_loopw [6] (fun i wr => ∃ (k : Nat) (S : St), k ≤ 32 ∧ i = .int .i64 k ∧ IsAr wr g S ∧ S.free = List.range' k (32 - k) ∧ S.writes = (k : Int) ∧ Blk wr w.heap.size 34 s.cells ∧ Below w.heap.size w wr ∧ w2.heap.size ≤ wr.heap.size) (fun i _ => 32 - (intOf i).toNat)
  case atStart => exact ⟨0, St.new, by omega, rfl, K2.out, by decide, rfl, BS2.out, B2.out, Nat.le_refl _⟩
  case round =>
    obtain ⟨k, S, hk, rfl, hA, hfree, hwr, hBS, hbel, hsz⟩ := hrel
    clear K2 BS2 B2
    by_cases hlt : k < 32
    · have hlt' : (k : Int) < 32 := by omega
      have HA := Lib.hid hA
      have HBS := Lib.hid hBS
      have HB := Lib.hid hbel
      have HW := Lib.hid hwr
      have hfr : S.free = k :: List.range' (k + 1) (32 - (k + 1)) := by rw [hfree, show 32 - k = (32 - (k + 1)) + 1 by omega]; rfl
      have HF := Lib.hid hfr
      clear hA hBS hbel hwr hfree hfr
      go_wp2_with (go_at_call 13; fail)
      refine (take_st HF.out g wr HA.out).mono ?_
      rintro e w3 ⟨rfl, hA3, hG3⟩
      have HA3 := Lib.hid hA3
      have hBS3 := HBS.out.grown hG3 (by simp; omega)
      have HBS3 := Lib.hid (hBS3.row)
      have hs3 := hG3.size
      have HB3 := Lib.hid (HB.out.grown hG3 HB.out.size (fun j e => by cases e; omega))
      clear hA3 HA HBS HB hG3
      go_wp2_with (first
        | (refine wpList_load_at (ty := 34) rfl rfl rfl HBS3.out HUS.out rfl slotInfo ?_)
        | (go_at_call 12; fail))
      refine (put_st hlt s g w3 HA3.out (by show 0 ≤ S.writes; rw [HW.out]; omega) (by show S.writes < _; rw [HW.out]; omega)).mono ?_
      rintro e w4 ⟨rfl, hA4, hG4⟩
      have HA4 := Lib.hid hA4
      have HBS4 := Lib.hid (hBS3.grown hG4 (by simp; omega))
      have hs4 := hG4.size
      have HB4 := Lib.hid (HB3.out.grown hG4 HB3.out.size (fun j e => by cases e; omega))
      clear hA4 HA3 HBS3 hBS3 HB3 hG4
      go_wp2
      go_roundw
      case rel => exact ⟨k + 1, S.take.put k s, by omega, by go_num, HA4.out, by show S.free.tail = _; rw [HF.out]; rfl, by show S.writes + 1 = _; rw [HW.out]; rfl, HBS4.out, HB4.out, by omega⟩
      case measure => simp [intOf]; omega
    · have e32 : k = 32 := by omega
      have HA := Lib.hid (show Back wr g [] S ([] : List Nat).length from Back.full hA (by rw [hfree, e32]; rfl) (by rw [hwr, e32]; rfl))
      have HB := Lib.hid hbel
      have hge : ¬ (k : Int) < 32 := by omega
      obtain ⟨n6, hn6⟩ : ∃ n : Int, (k : Int) = n := ⟨_, rfl⟩
      rw [hn6] at hge ⊢
      clear hA hBS hbel hwr hfree hlt e32 hn6 hk
      obtain ⟨W0, hW0⟩ : ∃ W0, W0 = wr := ⟨_, rfl⟩
      subst hW0
      go_wp2
      go_loopw [9, 10] (fun r i w9 => ∃ (k : Nat) (L : List Nat) (S : St), k ≤ l.length ∧ k ≤ 100 ∧ L.length ≤ k ∧ (0 < k → 0 < L.length) ∧ i = .int .i64 k ∧ Back w9 g L S L.length ∧ w9.ownsRow W0.heap.size 3 1 r L.length (intVs (natInts L)) ∧ Below w.heap.size w w9 ∧ W0.heap.size ≤ w9.heap.size) (fun _ i _ => 100 - (intOf i).toNat)
      case atStart => exact ⟨0, [], S, Nat.zero_le _, by omega, Nat.le_refl _, fun h => absurd h (by omega), rfl, HA.out, World.ownsRow_nil _ _ _ _, HB.out, Nat.le_refl _⟩
      case round =>
        obtain ⟨k, L, S, hk, hk2, hLk, hk0, rfl, hA, hown, hbel, hsz9⟩ := hrel
        have HR := Lib.hid hown
        have HA2 := Lib.hid hA
        have HB2 := Lib.hid hbel
        have HK0 := Lib.hid hk0
        obtain ⟨Ar, cp, rfl⟩ := owns_slice hown
        clear hA hbel HA HB hk0
        by_cases hlt : k < l.length ∧ k < 100
        · have hlt1 : (k : Int) < (l.length : Int) := by omega
          have hlt2 : (k : Int) < 100 := by omega
          obtain ⟨b, off, rfl, hbl, hcs⟩ := (HI.out.below HB2.out (Nat.le_refl _)) (by omega)
          obtain ⟨x, hx⟩ : ∃ x, l[k]? = some x := ⟨_, List.getElem?_eq_getElem hlt.1⟩
          have hcell := hcs k x hx
          obtain ⟨at_, hat, hat32⟩ : ∃ N : Nat, pickZ x 32 = (N : Int) ∧ N < 32 := ⟨(pickZ x 32).toNat, by unfold pickZ; omega, by unfold pickZ; omega⟩
          have HP := Lib.hid (fun w => show Calls Try.prog 11 #[.int .i64 x, .int .i64 32] w (RetSame (.int .i64 (at_ : Int)) w) from by
            have h := pick_any x 32 (by decide) (by decide) w
            rwa [show pickZ x ((32 : Nat) : Int) = (at_ : Int) from hat] at h)
          have HLT := Lib.hid hlt
          clear hcs hx hat hbl hown hlt
          go_wp2_with (go_at_call 11; fail)
          refine (HP.out _).mono ?_
          rintro e w' ⟨rfl, rfl⟩
          go_wp2_with (go_at_call 15; fail)
          by_cases hm : at_ ∈ S.free
          · refine (free_no hm g _ HA2.out.ar).mono ?_
            rintro e w' ⟨rfl, rfl⟩
            have hL0 : 0 < L.length := by
              rw [HA2.out.free] at hm
              rcases L with _ | ⟨y, L⟩
              · simp at hm
              · simp
            have HL0 := Lib.hid hL0
            clear HP hcell hm hL0
            simp only [errno]
            go_wp2
            go_roundw
            case rel => exact ⟨k + 1, L, S, by have := HLT.out; omega, by have := HLT.out; omega, by omega, fun _ => HL0.out, by go_num, HA2.out, HR.out, HB2.out, hsz9⟩
            case measure => have := HLT.out; simp [intOf]; omega
          · refine (free_st hat32 hm g _ HA2.out.ar (by rw [HA2.out.writes]; omega) (by rw [HA2.out.writes]; omega)).mono ?_
            rintro e w10 ⟨rfl, hA3, hG⟩
            have HA3 := Lib.hid (HA2.out.give hat32 hA3)
            have hown3 := owns_kept HR.out hG (by omega)
            have hs10 := hG.size
            have HB3 := Lib.hid (HB2.out.grown hG HB2.out.size (fun j e => by cases e; omega))
            have h1 : L.length + 1 ≤ maxLen := by unfold maxLen; omega
            have h2 : (L.length + 1) * 8 ≤ 140737488355328 := by omega
            have H1 := Lib.hid h1
            have H2 := Lib.hid h2
            have hsz10 : W0.heap.size ≤ w10.heap.size := by omega
            clear HP hcell hm hA3 hG HA2 HB2 HR h1 h2
            go_wp2_with (at_builtin; refine wpList_append_one (v := .slice Ar L.length cp) rfl _ _ 48 rfl Try.underlying48 hi hz0 hz1 hz2 hz3 (by decide) rfl hown3 rfl rfl (int_one _) H1.out H2.out hsz10 ?_; intro g' cap' w11 hown1 hgr1)
            have hbk := bel_grown HB3.out hgr1 hown3 (by omega) (by omega)
            have hrg : w11.heap[g]? = w10.heap[g]? := hgr1.block g (by omega) (fun e => by have := (hown3.lt g e.symm).1; omega)
            have hs11 := hgr1.size
            go_roundw
            case rel => exact ⟨k + 1, L ++ [at_], S.give at_, by have := HLT.out; omega, by have := HLT.out; omega, by simp; omega, fun _ => by simp, by go_num, HA3.out.block hrg, by rw [List.length_append, natInts_snoc]; exact hown1, hbk, by omega⟩
            case measure => have := HLT.out; simp [intOf]; omega
        · obtain ⟨A, cp2, hv, hIL, hAb⟩ := owns_intsFrom hown
          have hgA : ∀ a, A = some a → a.block ≠ g := fun a e => by have := (hAb a e).1; omega
          injection hv with e1 _ e3
          subst e1 e3
          have HIL := Lib.hid hIL
          have HGA := Lib.hid hgA
          have hlast : (l.length == 0 || decide (0 < L.length)) = true := by
            by_cases h0 : 0 < k
            · simp [HK0.out h0]
            · have : l.length = 0 := by omega
              simp [this]
          have HLA := Lib.hid hlast
          have hLn : (natInts L).length = L.length := natInts_len L
          have HLN := Lib.hid hLn
          clear hown hIL hAb hgA hlast HR hLn
          have hend : (k : Int) < (l.length : Int) ∧ ¬ (k : Int) < 100 ∨ ¬ (k : Int) < (l.length : Int) := by omega
          clear hlt
          have HE := Lib.hid (show L.length ≤ 100 by omega)
          clear hk hk2 hLk
          rcases hend with ⟨hn1, hn2⟩ | hn1
          all_goals
            obtain ⟨W1, hW1⟩ : ∃ W1, W1 = wr := ⟨_, rfl⟩
            subst hW1
            obtain ⟨n10, hn10⟩ : ∃ n : Int, (k : Int) = n := ⟨_, rfl⟩
            rw [hn10] at hn1 ⊢
            try rw [hn10] at hn2
            clear hn10 HK0
            obtain ⟨nL, hnL⟩ : ∃ nL, L.length = nL := ⟨_, rfl⟩
            have HNL := Lib.hid hnL
            rw [hnL] at HA2 HLA ⊢
            have hnn : nL ≤ 100 := by have := HE.out; omega
            clear hnL
            go_wp2
            go_loopw [12] (fun i wr => ∃ (m : Nat) (S : St), m ≤ nL ∧ i = .int .i64 ((m : Int) - 1) ∧ Back wr g L S m ∧ IntsAt wr Ar (natInts L) ∧ Below w.heap.size w wr ∧ W1.heap.size ≤ wr.heap.size) (fun i _ => (intOf i + 1).toNat)
            case atStart => exact ⟨nL, S, Nat.le_refl _, by go_num, HA2.out, HIL.out, HB2.out, Nat.le_refl _⟩
            case round =>
              obtain ⟨m, S, hm, rfl, hBk, hIL, hbel, hsz⟩ := hrel
              have HBK := Lib.hid hBk
              have HBE := Lib.hid hbel
              have HIL := Lib.hid hIL
              clear HA2 HB2 hBk hbel hIL
              rcases m with _ | m
              · have hm0 : ¬ (0 : Int) ≤ ((0 : Nat) : Int) - 1 := by omega
                obtain ⟨n12, hn12⟩ : ∃ n : Int, ((0 : Nat) : Int) - 1 = n := ⟨_, rfl⟩
                rw [hn12] at hm0 ⊢
                have hfr : S.free = [] := by rw [HBK.out.free]; rfl
                have HFR := Lib.hid hfr
                clear hn12 hfr HIL
                go_wp2_with (go_at_call 13; fail)
                refine (take_full HFR.out g wr HBK.out.ar).mono ?_
                rintro e w' ⟨rfl, rfl⟩
                have hWR := writes_st g wr HBK.out.ar
                rw [HBK.out.writes, HNL.out] at hWR
                have HWR := Lib.hid hWR
                have hla := HLA.out
                clear hWR
                simp only [errno]
                go_wp2_with (first
                  | (go_at_call 18; refine (Num_errno 19 (by decide) (by decide) _).mono ?_; rintro e w' ⟨rfl, rfl⟩)
                  | (go_at_call 19; refine HWR.out.mono ?_; rintro e w' ⟨rfl, rfl⟩))
                all_goals
                  go_ret
                  refine ⟨?_, HBE.out⟩
                  first
                    | rfl
                    | (rename_i h1 h2; exfalso; clear HLA HWR HBK HBE; simp [h1, h2] at hla; done)
                    | (rename_i h1; simp [h1]; done)
              · obtain ⟨x, hx⟩ : ∃ x, L[m]? = some x := ⟨_, List.getElem?_eq_getElem (by have := HNL.out; omega)⟩
                obtain ⟨hfr, hsl, hx32, _⟩ := HBK.out.next (wr' := wr) hx
                have HX := Lib.hid hx
                have HFR := Lib.hid hfr
                have HSL := Lib.hid hsl
                have hm0 : (0 : Int) ≤ ((m + 1 : Nat) : Int) - 1 := by omega
                obtain ⟨n12, hn12⟩ : ∃ n : Int, ((m + 1 : Nat) : Int) - 1 = n := ⟨_, rfl⟩
                obtain rfl : n12 = (m : Int) := by omega
                rw [hn12] at hm0 ⊢
                clear hn12 hx hfr hsl
                go_wp2_with (go_at_call 13; fail)
                refine (take_st HFR.out g wr HBK.out.ar).mono ?_
                rintro e w3 ⟨rfl, hA3, hG3⟩
                have hBK3 := (HBK.out.next (wr' := w3) HX.out).2.2.2 hA3
                have hIL3 : IntsAt w3 Ar (natInts L) := HIL.out.kept hG3.size (fun a e hlt => hG3.block _ hlt (fun e2 => HGA.out a e (by cases e2; rfl)))
                have hs3 := hG3.size
                have HB3 := Lib.hid (HBE.out.grown hG3 HBE.out.size (fun j e => by cases e; omega))
                have HA3 := Lib.hid hBK3
                have hGET := get_st hx32 (S := S.take) HSL.out g w3 hA3
                rw [bare_lit] at hGET
                have HGET := Lib.hid hGET
                have hLm : m < (natInts L).length := by have := HLN.out; have := HNL.out; omega
                have hml : (m : Int) < (nL : Int) := by omega
                have HIL3 := Lib.hid hIL3
                obtain ⟨b, off, rfl, hbl, hcs⟩ := hIL3 (by omega)
                have hcell := hcs m x (by rw [natInts, List.getElem?_map, HX.out]; rfl)
                clear hA3 hG3 hBK3 hGET HBK HBE HIL HFR hcs hLm
                go_wp2_with (go_at_call 17; fail)
                refine HGET.out.mono ?_
                rintro e w4 ⟨rfl, hb4⟩
                have hcell4 : w4.cell? ⟨b, off + m, none⟩ = some (.int .i64 x) := (hb4.cell (p := ⟨b, off + m, none⟩) hbl).trans hcell
                have hcell5 := Below.cell ((Below.refl w4.heap.size w4).alloc (Nat.le_refl _) (.cells bareL 34)) (p := ⟨b, off + m, none⟩) (by have := hb4.size; show b < w4.heap.size; omega)
                rw [hcell4] at hcell5
                have HIL4 := Lib.hid (HIL3.out.below hb4 (Nat.le_refl _))
                have HA4 := Lib.hid (HA3.out.block (hb4.block g (by have := HA3.out.ar.lt; omega)))
                have HB4 := Lib.hid (HB3.out.trans (hb4.mono HB3.out.size))
                have hs4 := hb4.size
                have HRX := Lib.hid (Blk.new w4 34 bareL).row
                have hneq := neq_bare
                clear hb4 HB3 HA3 HGET hcell HIL3 hbl hcell4
                go_wp2_with (first
                  | (refine wpList_store_new (ty := 34) rfl rfl rfl rfl rfl bareL_one slotInfo ?_)
                  | (refine wpList_load_at (ty := 34) rfl rfl rfl HRX.out HUS.out rfl slotInfo ?_))
                have hba := (Below.refl w4.heap.size w4).alloc (Nat.le_refl _) (.cells bareL 34)
                go_roundw
                case rel => exact ⟨m, S.take, by omega, by go_num, HA4.out.block (hba.block g HA4.out.ar.lt), HIL4.out.below hba (Nat.le_refl _), HB4.out.trans (hba.mono HB4.out.size), by have := hba.size; omega⟩
                case measure => simp [intOf]
theorem last_rows (P0 : Option Addr) (cap : Nat) (l : List Int) (s : SlotV) (w : World) (hin : 0 < l.length → ∃ b off, P0 = some ⟨b, off, none⟩ ∧ b < w.heap.size ∧ ∀ k y, l[k]? = some y → RowAt w b (off + k * 1) (i64c y)) (hlen : l.length * 8 ≤ 140737488351232) :
    Calls Try.prog 4 #[.slice P0 l.length cap, .agg s.cells] w (RetB (.bool true) w) := last_any P0 cap l s w (intsAt_rows hin) hlen
end Go.Proofs.Ytdgdbcapojgnlaa
