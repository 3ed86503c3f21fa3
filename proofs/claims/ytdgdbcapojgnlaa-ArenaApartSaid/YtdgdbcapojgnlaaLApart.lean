/-
  lineagelaw15.ArenaApart: the whole walk.
-/
import Derived.Test.YtdgdbcapojgnlaaAct
import Derived.Test.YtdgdbcapojgnlaaPick
import Derived.Deep.RegionHeld3
namespace Go.Proofs.Ytdgdbcapojgnlaa
set_option maxRecDepth 100000
open Go.RowKit Go.Shelf
attribute [local go_sem] Oper.semAt_some

/-- Which slots are taken, as the law keeps it. -/
def tkCells (L : List Nat) : Array Value := ((List.range 32).map fun i => Value.bool (decide (i ∉ L))).toArray
theorem tk_size (L : List Nat) : (tkCells L).size = 32 := by simp [tkCells]
theorem tk_at (L : List Nat) {i : Nat} (h : i < 32) : (tkCells L)[i]? = some (.bool (decide (i ∉ L))) := by simp [tkCells, h]
theorem tk_take {L L' : List Nat} {i : Nat} (b : Bool) (hi : i < 32) (h : ∀ j, j < 32 → j ≠ i → (j ∈ L' ↔ j ∈ L)) (hb : b = decide (i ∉ L')) : (tkCells L).setIfInBounds i (.bool b) = tkCells L' := by
  apply Array.ext_getElem?
  intro j
  rw [Array.getElem?_setIfInBounds]
  by_cases hj : j < 32
  · by_cases e : i = j
    · subst e
      rw [if_pos rfl, if_pos (by rw [tk_size]; exact hi), tk_at _ hi, hb]
    · rw [if_neg e, tk_at _ hj, tk_at _ hj]
      have := h j hj (Ne.symm e)
      simp [this]
  · have h1 : (tkCells L)[j]? = none := Array.getElem?_eq_none (by rw [tk_size]; omega)
    have h2 : (tkCells L')[j]? = none := Array.getElem?_eq_none (by rw [tk_size]; omega)
    rw [if_neg (by omega), h1, h2]
theorem tk_zero : tkCells (List.range 32) = (Array.replicate 32 (Value.bool false)) := by kernel_rfl

/-- Between two acts: the arena at g is S, what is taken lies at T as L says. -/
structure Inv (w : World) (g T k : Nat) (S : St) (L : List Nat) (wr : World) : Prop where
  ar : IsAr wr g S
  tk : Blk wr T 26 (tkCells L)
  res : Boxed wr w.heap.size 4 (.bool false)
  bel : Below w.heap.size w wr
  w0 : 0 ≤ S.writes
  w1 : S.writes ≤ k
  gT : g ≠ T
  wg : w.heap.size < g ∧ w.heap.size < T
section
variable {w wr wr' : World} {g T k : Nat} {S S' : St} {L L' : List Nat}
theorem Inv.alloc (h : Inv w g T k S L wr) (o : Obj) : Inv w g T k S L (wr.alloc o) :=
  ⟨h.ar.block (Below.heap_alloc _ _ _ h.ar.lt), h.tk.alloc o, h.res.alloc o, h.bel.alloc h.bel.size o, h.w0, h.w1, h.gT, h.wg⟩
theorem Inv.next (h : Inv w g T k S L wr) : Inv w g T (k + 1) S L wr := { h with w1 := by have := h.w1; omega }
theorem Inv.call (h : Inv w g T k S L wr) (hb : Below wr.heap.size wr wr') : Inv w g T k S L wr' :=
  ⟨h.ar.below hb h.ar.lt, h.tk.below hb h.tk.lt, (hb.block _ h.res.lt).trans h.res, h.bel.trans (hb.mono h.bel.size), h.w0, h.w1, h.gT, h.wg⟩
theorem Inv.turn (h : Inv w g T k S L wr) (hA : IsAr wr' g S') (hG : wr.grownBy wr' (some g)) (w0 : 0 ≤ S'.writes) (w1 : S'.writes ≤ k + 1) : Inv w g T (k + 1) S' L wr' :=
  ⟨hA, h.tk.grown hG (by have := h.gT; simp; omega), h.res.kept hG (by have := h.wg; simp; omega), h.bel.grown hG h.bel.size (fun j e => by cases e; have := h.wg; omega), w0, by omega, h.gT, h.wg⟩
theorem Inv.store (h : Inv w g T k S L wr) {i : Nat} (b : Bool) (hi : i < 32) (hL : ∀ j, j < 32 → j ≠ i → (j ∈ L' ↔ j ∈ L)) (hb : b = decide (i ∉ L')) : Inv w g T k S L' (wr.setCell ⟨T, i, none⟩ (.bool b)) := by
  have h1 := h.gT
  have h2 := h.wg
  refine ⟨h.ar.block (Below.heap_setCell _ _ _ g (by show g ≠ T; exact h1)), ?_, (Below.heap_setCell _ _ _ w.heap.size (by show w.heap.size ≠ T; omega)).trans h.res, h.bel.setCell (p := ⟨T, i, none⟩) (by show w.heap.size ≤ T; omega) _, h.w0, h.w1, h1, h2⟩
  have := h.tk.set_ i (.bool b)
  rwa [tk_take b hi hL hb] at this
theorem Inv.cell (h : Inv w g T k S L wr) {i : Nat} (hi : i < 32) : wr.cell? ⟨T, i, none⟩ = some (.bool (decide (i ∉ L))) := (h.tk.cell i).trans (tk_at L hi)
theorem IsAr.flen (h : IsAr wr g S) : S.free.length ≤ 32 := nodup_len 32 _ h.nodup h.free_lt
end
set_option maxHeartbeats 8000000 in
theorem apart_any (P0 : Option Addr) (cap : Nat) (xs : List ActV) (w : World) (hin : ActsAt w P0 xs) (hlen : xs.length * 160 ≤ 140737488351232) :
    Calls Try.prog 3 #[.slice P0 xs.length cap] w (RetB (.bool true) w) := by
  have HI := Lib.hid hin
  clear hin
  refine calls_marks Try.func3 rfl ?_
  simp only [Try.ntmps3, List.size_toArray, List.length_cons, List.length_nil, Nat.reduceAdd, Nat.reduceSub, Array.replicate_succ, Array.replicate_zero, List.push_toArray, List.append_toArray, List.nil_append, List.cons_append]
  go_wp2_with (go_at_call 9; fail)
  refine (works_any _).mono ?_
  rintro e w1 ⟨rfl, hb1⟩
  have hbR : Boxed (w.alloc (.cells #[.bool false] 4)) w.heap.size 4 (.bool false) := Boxed.new _ _ _
  have bR1 : Boxed w1 w.heap.size 4 (.bool false) := (hb1.block _ (by simp)).trans hbR
  have hw1 : w.heap.size + 1 ≤ w1.heap.size := by have := hb1.size; rw [World.size_alloc] at this; exact this
  have hbw1 : Below w.heap.size w w1 := ((Below.refl _ w).alloc (Nat.le_refl _) _).trans (hb1.mono (by simp))
  clear hb1 hbR
  by_cases hbig : 2000 < xs.length
  · have hbig' : (2000 : Int) < (xs.length : Int) := by omega
    have hc := bR1.cell
    have hf := bR1.frozen
    have cF := (bR1.set (.bool true)).cell
    go_wp2
    exact ⟨.bool true, by simp [results, Try.results3, go_sem, cF], rfl, hbw1.setCell (p := ⟨w.heap.size, 0, none⟩) (Nat.le_refl _) _⟩
  · have hbig' : ¬ (2000 : Int) < (xs.length : Int) := by omega
    have B1 := Lib.hid hbw1
    have R1 := Lib.hid bR1
    clear hbw1 bR1
    go_wp2_with (go_at_call 10; fail)
    refine (new_st w1).mono ?_
    rintro e w2 ⟨g, rfl, hg, hS2, hb2⟩
    have hs2 := hb2.size
    have hgl := hS2.lt
    have B2 := Lib.hid (B1.out.trans (hb2.mono (by omega)))
    have R2 := Lib.hid (show Boxed w2 w.heap.size 4 (.bool false) from (hb2.block _ (by omega)).trans R1.out)
    have K2 := Lib.hid hS2
    clear hb2 hS2 B1 R1
    go_wp2
    obtain ⟨V, hV⟩ : ∃ V, w2.alloc (.cells (Array.replicate 32 (Value.bool false)) 26) = V := ⟨_, rfl⟩
    have hVs : w2.heap.size < V.heap.size := by rw [← hV]; simp
    have T3 : Blk V w2.heap.size 26 (tkCells (List.range 32)) := by rw [← hV, tk_zero]; exact Blk.new _ _ _
    have hb3 : Below w2.heap.size w2 V := by rw [← hV]; exact (Below.refl _ _).alloc (Nat.le_refl _) _
    have K3 := Lib.hid (K2.out.below hb3 hgl)
    have R3 := Lib.hid (show Boxed V w.heap.size 4 (.bool false) from (hb3.block _ (by omega)).trans R2.out)
    have B3 := Lib.hid (B2.out.trans (hb3.mono (by omega)))
    have HT := Lib.hid T3
    rw [show w2.alloc (.cells #[.bool false, .bool false, .bool false, .bool false, .bool false, .bool false, .bool false, .bool false, .bool false, .bool false, .bool false, .bool false, .bool false, .bool false, .bool false, .bool false, .bool false, .bool false, .bool false, .bool false, .bool false, .bool false, .bool false, .bool false, .bool false, .bool false, .bool false, .bool false, .bool false, .bool false, .bool false, .bool false] 26) = V from hV]
    clear hV T3 hb3 K2 R2 B2
    go_loopw [5, 6] (fun n i wr => ∃ (k : Nat) (S : St), k ≤ xs.length ∧ i = .int .i64 k ∧ n = .int .i64 (32 - (S.free.length : Int)) ∧ Inv w g w2.heap.size k S S.free wr) (fun _ i _ => xs.length - (intOf i).toNat)
    case atStart => exact ⟨0, St.new, Nat.zero_le _, rfl, rfl, ⟨K3.out, HT.out, R3.out, B3.out, by decide, by decide, by omega, ⟨by omega, by omega⟩⟩⟩
    case round =>
      obtain ⟨k, S, hk, rfl, rfl, hInv⟩ := hrel
      have HV := Lib.hid hInv
      clear hInv K3 HT R3 B3
      by_cases hlt : k < xs.length
      · have hki : (k : Int) < (xs.length : Int) := by omega
        obtain ⟨x, hx⟩ : ∃ x, xs[k]? = some x := ⟨_, List.getElem?_eq_getElem hlt⟩
        obtain ⟨b, off, rfl, hbl, hrow0⟩ := (HI.out.below HV.out.bel (Nat.le_refl _)) (by omega)
        have HRW := Lib.hid (hrow0 k x hx)
        have HU := Lib.hid Try.underlying36
        have HUS := Lib.hid Try.underlying34
        obtain ⟨at_, hat, hat32⟩ : ∃ N : Nat, pickZ x.n 32 = (N : Int) ∧ N < 32 := ⟨(pickZ x.n 32).toNat, by unfold pickZ; omega, by unfold pickZ; omega⟩
        have HP := Lib.hid (fun w => show Calls Try.prog 11 #[.int .i64 x.n, .int .i64 32] w (RetSame (.int .i64 (at_ : Int)) w) from by
          have h := pick_any x.n 32 (by decide) (by decide) w
          rwa [show pickZ x.n ((32 : Nat) : Int) = (at_ : Int) from hat] at h)
        obtain ⟨c, hcK, hc7⟩ : ∃ N : Nat, pickZ x.kind 7 = (N : Int) ∧ N < 7 := ⟨(pickZ x.kind 7).toNat, by unfold pickZ; omega, by unfold pickZ; omega⟩
        have HC := Lib.hid (fun w => show Calls Try.prog 11 #[.int .i64 x.kind, .int .i64 7] w (RetSame (.int .i64 (c : Int)) w) from by
          have h := pick_any x.kind 7 (by decide) (by decide) w
          rwa [show pickZ x.kind ((7 : Nat) : Int) = (c : Int) from hcK] at h)
        have BX := Lib.hid (Blk.new wr 36 x.cells)
        have cx0 : (wr.alloc (.cells x.cells 36)).cell? ⟨wr.heap.size, 0, none⟩ = some (.int .i64 x.kind) := (BX.out.cell 0).trans x.at0
        have cx1 : (wr.alloc (.cells x.cells 36)).cell? ⟨wr.heap.size, 1, none⟩ = some (.int .i64 x.n) := (BX.out.cell 1).trans x.at1
        have HRX := Lib.hid (x.row BX.out)
        have IV := Lib.hid (HV.out.alloc (.cells x.cells 36))
        have hati : (at_ : Int) < 32 := by omega
        have hat0 : (0 : Int) ≤ (at_ : Int) := by omega
        clear hrow0 hx hat hcK HV hbl
        go_wp2_with (first
          | (refine wpList_load_at (ty := 36) rfl rfl rfl HRW.out HU.out rfl actInfo ?_)
          | (refine wpList_store_new (ty := 36) rfl rfl rfl rfl rfl (ActV.one _) actInfo ?_)
          | (go_at_call 11; fail))
        refine (HP.out _).mono ?_
        rintro e w' ⟨rfl, rfl⟩
        go_wp2_with (go_at_call 11; fail)
        refine (HC.out _).mono ?_
        rintro e w' ⟨rfl, rfl⟩
        obtain ⟨W, hW⟩ : ∃ W, wr.alloc (.cells x.cells 36) = W := ⟨_, rfl⟩
        rw [hW] at IV HRX ⊢
        have hfl := IV.out.ar.flen
        obtain ⟨N, hN⟩ : ∃ N : Int, 32 - (S.free.length : Int) = N := ⟨_, rfl⟩
        rw [hN]
        have hN0 : 0 ≤ N := by omega
        have hN1 : N ≤ 32 := by omega
        have HN := Lib.hid hN
        clear hN hfl
        clear hW cx0 cx1 BX HP HC HRW HU
        rcases (show c = 1 ∨ (c = 2 ∨ c = 3) ∨ c = 4 ∨ c = 5 ∨ (c = 0 ∨ c = 6) by omega) with rfl | hc | rfl | rfl | hc
        · go_wp2_with (first
            | (refine wpList_load_at (ty := 34) rfl rfl rfl HRX.out HUS.out rfl slotInfo ?_)
            | (go_at_call 12; fail))
          refine (put_st hat32 x.s g W IV.out.ar IV.out.w0 (by have := IV.out.w1; omega)).mono ?_
          rintro e W2 ⟨rfl, hAr, hG⟩
          have J := Lib.hid (IV.out.turn hAr hG (by show 0 ≤ S.writes + 1; have := IV.out.w0; omega) (by show S.writes + 1 ≤ _; have := IV.out.w1; omega))
          clear hAr hG HRX HUS IV
          go_wp2
          go_roundw
          case rel => exact ⟨k + 1, S.put at_ x.s, by omega, by go_num, by rw [← HN.out]; rfl, J.out⟩
          case measure => simp [intOf]; omega
        · rcases hc with rfl | rfl
          · clear HRX HUS
            go_wp2_with (go_at_call 13; fail)
            rcases hfr : S.free with _ | ⟨i, L⟩
            · refine (take_full hfr g W IV.out.ar).mono ?_
              rintro e w' ⟨rfl, rfl⟩
              have J := Lib.hid IV.out.next
              have hN2 : ¬ N < 32 := by have := HN.out; rw [hfr, List.length_nil] at this; omega
              clear IV hfr
              simp only [errno]
              go_wp2
              go_roundw
              case rel => exact ⟨k + 1, S, by omega, by go_num, by rw [← HN.out], J.out⟩
              case measure => simp [intOf]; omega
            · have hi := IV.out.ar.free_lt i (by rw [hfr]; simp)
              have hii : (i : Int) < 32 := by omega
              have hi0 : (0 : Int) ≤ (i : Int) := by omega
              have hN2 : N < 32 := by have := HN.out; rw [hfr] at this; simp at this; omega
              refine (take_st hfr g W IV.out.ar).mono ?_
              rintro e W2 ⟨rfl, hAr, hG⟩
              have J := Lib.hid (IV.out.turn hAr hG (by show 0 ≤ S.writes; exact IV.out.w0) (by show S.writes ≤ _; have := IV.out.w1; omega))
              have ct := J.out.cell hi
              rw [show decide (i ∉ S.free) = false by rw [hfr]; simp] at ct
              have ft := J.out.tk.frozen i
              have hdn : i ∉ L := by have := IV.out.ar.nodup; rw [hfr] at this; exact (List.nodup_cons.1 this).1
              have htl : S.take.free = L := by show S.free.tail = L; rw [hfr]; rfl
              have J2 := Lib.hid (J.out.store (L' := S.take.free) true hi (fun j _ hj => by rw [htl, hfr]; simp [hj]) (by rw [htl]; simp [hdn]))
              have hNN : N + 1 = 32 - (S.take.free.length : Int) := by rw [htl]; have := HN.out; rw [hfr] at this; simp at this; omega
              have HNN := Lib.hid hNN
              clear hAr hG IV hfr hdn htl hNN J
              go_wp2
              go_roundw
              case rel => exact ⟨k + 1, S.take, by omega, by go_num, by rw [← HNN.out], J2.out⟩
              case measure => simp [intOf]; omega
          · clear HRX HUS
            go_wp2_with (go_at_call 13; fail)
            rcases hfr : S.free with _ | ⟨i, L⟩
            · refine (take_full hfr g W IV.out.ar).mono ?_
              rintro e w' ⟨rfl, rfl⟩
              have J := Lib.hid IV.out.next
              have hN2 : ¬ N < 32 := by have := HN.out; rw [hfr, List.length_nil] at this; omega
              clear IV hfr
              simp only [errno]
              go_wp2
              go_roundw
              case rel => exact ⟨k + 1, S, by omega, by go_num, by rw [← HN.out], J.out⟩
              case measure => simp [intOf]; omega
            · have hi := IV.out.ar.free_lt i (by rw [hfr]; simp)
              have hii : (i : Int) < 32 := by omega
              have hi0 : (0 : Int) ≤ (i : Int) := by omega
              have hN2 : N < 32 := by have := HN.out; rw [hfr] at this; simp at this; omega
              refine (take_st hfr g W IV.out.ar).mono ?_
              rintro e W2 ⟨rfl, hAr, hG⟩
              have J := Lib.hid (IV.out.turn hAr hG (by show 0 ≤ S.writes; exact IV.out.w0) (by show S.writes ≤ _; have := IV.out.w1; omega))
              have ct := J.out.cell hi
              rw [show decide (i ∉ S.free) = false by rw [hfr]; simp] at ct
              have ft := J.out.tk.frozen i
              have hdn : i ∉ L := by have := IV.out.ar.nodup; rw [hfr] at this; exact (List.nodup_cons.1 this).1
              have htl : S.take.free = L := by show S.free.tail = L; rw [hfr]; rfl
              have J2 := Lib.hid (J.out.store (L' := S.take.free) true hi (fun j _ hj => by rw [htl, hfr]; simp [hj]) (by rw [htl]; simp [hdn]))
              have hNN : N + 1 = 32 - (S.take.free.length : Int) := by rw [htl]; have := HN.out; rw [hfr] at this; simp at this; omega
              have HNN := Lib.hid hNN
              clear hAr hG IV hfr hdn htl hNN J
              go_wp2
              go_roundw
              case rel => exact ⟨k + 1, S.take, by omega, by go_num, by rw [← HNN.out], J2.out⟩
              case measure => simp [intOf]; omega
        · clear HRX HUS
          have hgT : g ≠ w2.heap.size := IV.out.gT
          have ct := IV.out.cell hat32
          have ft := IV.out.tk.frozen at_
          have hw0 := IV.out.w0
          have hw1 : S.writes < 1000000000 := by have := IV.out.w1; omega
          by_cases hm : at_ ∈ S.free
          · rw [show decide (at_ ∉ S.free) = false by simp [hm]] at ct
            have CT := Lib.hid ct
            go_wp2
            refine wp_region_noPanic ?_
            go_region_held3 (fun W' => W'.cell? ⟨w2.heap.size, at_, none⟩ = some (.bool false))
              (first | assumption | exact ct | exact hG.cell ct (fun e => hgT (by cases e; rfl)))
              (first
                | (go_at_call 14; refine (place_st hm g W.drew (IV.out.ar.block rfl)).mono ?_; rintro e W2 ⟨rfl, hAr, hG⟩))
            refine NoPanic.normal ?_
            have J := Lib.hid (IV.out.turn hAr (grownBy_trans (grownBy_below (Below.refl _ _).drew (some g)) hG) (by show 0 ≤ S.writes; omega) (by show S.writes ≤ _; have := IV.out.w1; omega))
            have c2 := (J.out.tk.cell at_).trans (tk_at _ hat32)
            rw [show decide (at_ ∉ S.free) = false by simp [hm]] at c2
            have f2 := J.out.tk.frozen at_
            have J2 := Lib.hid (J.out.store (L' := (S.drop at_).free) true hat32 (fun j _ hj => by show j ∈ S.free.erase at_ ↔ _; exact List.mem_erase_of_ne hj) (by rw [show decide (at_ ∉ (S.drop at_).free) = true from decide_eq_true (fun h => by have h2 : at_ ∈ S.free.erase at_ := h; exact (IV.out.ar.nodup.mem_erase_iff.1 h2).1 rfl)]))
            have hNN : N + 1 = 32 - ((S.drop at_).free.length : Int) := by have e : (S.drop at_).free.length = S.free.length - 1 := List.length_erase_of_mem hm; have := List.length_pos_of_mem hm; have := HN.out; omega
            have HNN := Lib.hid hNN
            clear hG hAr IV J hm ct CT ft hNN hgT
            go_wp2
            go_roundw
            case rel => exact ⟨k + 1, (S.drop at_), by omega, by go_num, by rw [← HNN.out], J2.out⟩
            case measure => simp [intOf]; omega
          · rw [show decide (at_ ∉ S.free) = true by simp [hm]] at ct
            go_wp2
            refine wp_region_noPanic ?_
            go_region_held3 (fun W' => W'.cell? ⟨w2.heap.size, at_, none⟩ = some (.bool true))
              (first | assumption | exact ct)
              (first
                | (go_at_call 14; refine (place_no hat32 hm g W.drew (IV.out.ar.block rfl)).mono ?_; rintro e W2 ⟨rfl, rfl⟩; simp only [errno]))
            refine NoPanic.normal ?_
            have J := Lib.hid (IV.out.next.call (Below.refl _ _).drew)
            have c2 := (J.out.tk.cell at_).trans (tk_at _ hat32)
            rw [show decide (at_ ∉ S.free) = true by simp [hm]] at c2
            clear IV hm ct ft hgT
            go_wp2
            go_roundw
            case rel => exact ⟨k + 1, S, by omega, by go_num, by rw [← HN.out], J.out⟩
            case measure => simp [intOf]; omega
        · clear HRX HUS
          have hgT : g ≠ w2.heap.size := IV.out.gT
          have ct := IV.out.cell hat32
          have ft := IV.out.tk.frozen at_
          have hw0 := IV.out.w0
          have hw1 : S.writes < 1000000000 := by have := IV.out.w1; omega
          by_cases hm : at_ ∉ S.free
          · rw [show decide (at_ ∉ S.free) = true by simp [hm]] at ct
            have CT := Lib.hid ct
            go_wp2
            refine wp_region_noPanic ?_
            go_region_held3 (fun W' => W'.cell? ⟨w2.heap.size, at_, none⟩ = some (.bool true))
              (first | assumption | exact ct | exact hG.cell ct (fun e => hgT (by cases e; rfl)))
              (first
                | (go_at_call 15; refine (free_st hat32 hm g W.drew (IV.out.ar.block rfl) hw0 hw1).mono ?_; rintro e W2 ⟨rfl, hAr, hG⟩))
            refine NoPanic.normal ?_
            have J := Lib.hid (IV.out.turn hAr (grownBy_trans (grownBy_below (Below.refl _ _).drew (some g)) hG) (by show 0 ≤ S.writes + 1; omega) (by show S.writes + 1 ≤ _; have := IV.out.w1; omega))
            have c2 := (J.out.tk.cell at_).trans (tk_at _ hat32)
            rw [show decide (at_ ∉ S.free) = true by simp [hm]] at c2
            have f2 := J.out.tk.frozen at_
            have J2 := Lib.hid (J.out.store (L' := (S.give at_).free) false hat32 (fun j _ hj => by show j ∈ at_ :: S.free ↔ _; simp [hj]) (by simp [St.give]))
            have hNN : N - 1 = 32 - ((S.give at_).free.length : Int) := by have e : (S.give at_).free.length = S.free.length + 1 := rfl; have := HN.out; omega
            have HNN := Lib.hid hNN
            clear hG hAr IV J hm ct CT ft hNN hgT
            go_wp2
            go_roundw
            case rel => exact ⟨k + 1, (S.give at_), by omega, by go_num, by rw [← HNN.out], J2.out⟩
            case measure => simp [intOf]; omega
          · rw [show decide (at_ ∉ S.free) = false by simp [hm]] at ct
            go_wp2
            refine wp_region_noPanic ?_
            go_region_held3 (fun W' => W'.cell? ⟨w2.heap.size, at_, none⟩ = some (.bool false))
              (first | assumption | exact ct)
              (first
                | (go_at_call 15; refine (free_no (Classical.not_not.1 hm) g W.drew (IV.out.ar.block rfl)).mono ?_; rintro e W2 ⟨rfl, rfl⟩; simp only [errno]))
            refine NoPanic.normal ?_
            have J := Lib.hid (IV.out.next.call (Below.refl _ _).drew)
            have c2 := (J.out.tk.cell at_).trans (tk_at _ hat32)
            rw [show decide (at_ ∉ S.free) = false by simp [hm]] at c2
            clear IV hm ct ft hgT
            go_wp2
            go_roundw
            case rel => exact ⟨k + 1, S, by omega, by go_num, by rw [← HN.out], J.out⟩
            case measure => simp [intOf]; omega
        · have J := Lib.hid IV.out.next
          rcases hc with rfl | rfl
          · clear HRX HUS IV
            go_wp2
            go_roundw
            case rel => exact ⟨k + 1, S, by omega, by go_num, by rw [← HN.out], J.out⟩
            case measure => simp [intOf]; omega
          · clear HRX HUS IV
            go_wp2
            go_roundw
            case rel => exact ⟨k + 1, S, by omega, by go_num, by rw [← HN.out], J.out⟩
            case measure => simp [intOf]; omega
      · obtain rfl : k = xs.length := by omega
        have hki : ¬ (xs.length : Int) < (xs.length : Int) := by omega
        clear hlt
        go_wp2_with (go_at_call 16; fail)
        obtain ⟨V, hV⟩ : ∃ V, wr.alloc (.cells #[.int .i64 0] 3) = V := ⟨_, rfl⟩
        have hVs : V.heap.size ≤ wr.heap.size + 1 ∧ wr.heap.size + 1 ≤ V.heap.size := by rw [← hV]; simp
        have bN : Boxed V wr.heap.size 3 (.int .i64 0) := by rw [← hV]; exact Boxed.new _ _ _
        have IV := HV.out.alloc (.cells #[.int .i64 0] 3)
        rw [hV] at IV
        have hT := HV.out.tk.lt
        have hR := HV.out.res.lt
        have hwr := HV.out.bel.size
        have IH := Lib.hid IV
        have hfl := IV.ar.flen
        have hfr := IV.ar.free_lt
        clear HV IV
        rw [hV]
        refine (frees_st g V IH.out.ar).mono ?_
        rintro e V2 ⟨B, rfl, hq, hb⟩
        have J := Lib.hid (IH.out.call hb)
        have bN2 : Boxed V2 wr.heap.size 3 (.int .i64 0) := (hb.block _ (by omega)).trans bN
        have hs2 := hb.size
        have hgb := J.out.wg
        have hBB : Boxed V2 w.heap.size 4 (.bool false) := J.out.res
        have hQ := hq wr.heap.size
        have hBL : Below w.heap.size w V2 := J.out.bel
        have hTB : Blk V2 w2.heap.size 26 (tkCells S.free) := J.out.tk
        have HFR := Lib.hid hfr
        have HTK := Lib.hid hTB
        clear bN hb IH hV hq hfr hTB J
        go_wp2
        refine wp_seqs rfl (enters_of Try.func32 (by kernel_rfl) rfl) hQ (by omega) (fun k hk => by omega) (Below.refl _ _) (fun _ => rfl)
          (fun pre W' => Boxed W' wr.heap.size 3 (.int .i64 (pre.length : Int)) ∧ Boxed W' w.heap.size 4 (.bool false) ∧ Blk W' w2.heap.size 26 (tkCells S.free) ∧ Below w.heap.size w W')
          (fun _ _ _ => False)
          ((Zone.box (.inl (by omega)) (fun (pre : List Nat) => .int .i64 (pre.length : Int))).and ((Zone.box (.inl (by omega)) (fun _ => .bool false)).and ((Zone.blk (.inl (by omega)) (fun _ => tkCells S.free)).and (Zone.below (by omega) (by omega)))))
          (fun cd => Zone.none)
          ⟨bN2, hBB, HTK.out, hBL⟩ ?round ?done ?stop
        case stop => rintro cd pre W' _ h _; exact h.elim
        case round =>
          rintro l2 pre i V0 hpre
          have hm : i ∈ S.free := hpre.subset (by simp)
          have hi32 := HFR.out i hm
          have hpl : pre.length < 32 := by have := hpre.length_le; simp at this; omega
          have e1 : ¬ (i : Int) < 0 := by omega
          have e2 : ¬ (32 : Int) ≤ (i : Int) := by omega
          have e3 : (i : Int) < 32 := by omega
          have e4 : (0 : Int) ≤ (i : Int) := by omega
          have e5 : (pre.length : Int) < 32 := by omega
          simp only [natV]
          gi_wp2
          intro V1 hsz1 h1 h2 h3 h4
          have ct := (h3.cell i).trans (tk_at _ hi32)
          rw [show decide (i ∉ S.free) = false by simp [hm]] at ct
          have cn := h1.cell
          have fn := h1.frozen
          clear hpl hi32
          gi_wp2
          refine ⟨(Kept.refl _).set (by omega) (by omega) (.inl (by omega)) _, ?_, ?_, ?_, ?_⟩
          · have e : ((pre ++ [i]).length : Int) = (pre.length : Int) + 1 := by simp
            rw [e]
            exact h1.set _
          · exact h2.other (by omega) _
          · exact h3.far (p := ⟨wr.heap.size, 0, none⟩) (by show w2.heap.size ≠ wr.heap.size; omega) _
          · exact h4.setCell (p := ⟨wr.heap.size, 0, none⟩) (by show w.heap.size ≤ wr.heap.size; omega) _
        case done =>
          rintro W1 ⟨h1, h2, h3, h4⟩ hK
          have cn := h1.cell
          have cr := h2.cell
          have fr := h2.frozen
          have e1 : (32 : Int) - (32 - (S.free.length : Int)) = (S.free.length : Int) := by omega
          go_wp2
          have hK4 := (KeepsOthers.setCell W1 ⟨w.heap.size, 0, none⟩ (.bool true)).same _ _ hK rfl
          have hcF : ((W1.setCell ⟨w.heap.size, 0, none⟩ (.bool true)).putObj V2.heap.size (.deferred none)).cell? ⟨w.heap.size, 0, none⟩ = some (.bool true) :=
            (World.cell?_of_block (a := ⟨w.heap.size, 0, none⟩) (World.putObj_heap_other (by show w.heap.size ≠ V2.heap.size; omega))).trans (h2.set (.bool true)).cell
          refine ⟨by simp, .inl ⟨_, _, rfl, run_takeDeferred hK4, ?_⟩⟩
          exact ⟨.bool true, by simp [results, Try.results3, go_sem, hcF], rfl,
            below_putObj (h4.setCell (p := ⟨w.heap.size, 0, none⟩) (Nat.le_refl _) _) (by omega) _ (by have := h4.size; have := (KeepsWalks.setCell W1 ⟨w.heap.size, 0, none⟩ (.bool true)).size; omega)⟩
end Go.Proofs.Ytdgdbcapojgnlaa
