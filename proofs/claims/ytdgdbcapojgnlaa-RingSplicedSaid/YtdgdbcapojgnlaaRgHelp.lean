/-
  lineagelaw16: row, laid.
-/
import Derived.Test.YtdgdbcapojgnlaaRgRow
import Derived.Test.YtdgdbcapojgnlaaRgAll
namespace Go.Proofs.Ytdgdbcapojgnlaa
set_option maxRecDepth 100000
open Go.RowKit Go.Shelf
attribute [local go_sem] Oper.semAt_some

/-- Which slots were seen. -/
def snCells (L : List Nat) : Array Value := ((List.range 32).map fun i => Value.bool (decide (i ∈ L))).toArray
theorem sn_size (L : List Nat) : (snCells L).size = 32 := by simp [snCells]
theorem sn_at (L : List Nat) {i : Nat} (h : i < 32) : (snCells L)[i]? = some (.bool (decide (i ∈ L))) := by simp [snCells, h]
theorem sn_add (L : List Nat) {i : Nat} (hi : i < 32) : (snCells L).setIfInBounds i (.bool true) = snCells (L ++ [i]) := by
  apply Array.ext_getElem?
  intro j
  rw [Array.getElem?_setIfInBounds]
  by_cases hj : j < 32
  · by_cases e : i = j
    · subst e
      rw [if_pos rfl, if_pos (by rw [sn_size]; exact hi), sn_at _ hi]
      simp
    · rw [if_neg e, sn_at _ hj, sn_at _ hj]
      simp [Ne.symm e]
  · have h1 : (snCells L)[j]? = none := Array.getElem?_eq_none (by rw [sn_size]; omega)
    have h2 : (snCells (L ++ [i]))[j]? = none := Array.getElem?_eq_none (by rw [sn_size]; omega)
    rw [if_neg (by omega), h1, h2]
theorem sn_zero : snCells [] = (Array.replicate 32 (Value.bool false)) := by kernel_rfl
theorem rowStep_in {L : List Nat} {x : Int} (h : pickN x 32 ∈ L) : rowStep L x = L := if_pos h
theorem rowStep_out {L : List Nat} {x : Int} (h : pickN x 32 ∉ L) : rowStep L x = L ++ [pickN x 32] := if_neg h
set_option maxHeartbeats 4000000 in
theorem row_any (P0 : Option Addr) (cap : Nat) (l : List Int) (w : World) (hin : IntsAt w P0 l) (hlen : l.length * 8 ≤ 140737488351232) :
    Calls Try.prog 21 #[.slice P0 l.length cap, .int .i64 0] w (RetInts (natInts (rowL l)) w) := by
  obtain ⟨ii, iz, hi, hz0, hz1, hz2, hz3⟩ := intInfo
  have HI := Lib.hid hin
  have B0 := Lib.hid (show Blk (w.alloc (.cells (snCells []) 26)) w.heap.size 26 (snCells []) from Blk.new w _ _)
  rw [sn_zero] at B0
  have Z0 := Lib.hid sn_zero
  clear hin
  go_enter Try.func21, Try.ntmps21
  go_wp2
  go_loopw [5, 7] (fun v i wr => ∃ k : Nat, k ≤ l.length ∧ i = .int .i64 k ∧ wr.ownsRow (w.heap.size + 1) 3 1 v (rowL (l.take k)).length (intVs (natInts (rowL (l.take k)))) ∧ Blk wr w.heap.size 26 (snCells (rowL (l.take k))) ∧ Below w.heap.size w wr ∧ w.heap.size + 1 ≤ wr.heap.size) (fun _ i _ => l.length - (intOf i).toNat)
  case atStart => exact ⟨0, Nat.zero_le _, rfl, World.ownsRow_nil _ _ _ _, by show Blk _ _ _ (snCells []); rw [Z0.out]; exact B0.out, (Below.refl _ w).alloc (Nat.le_refl _) _, by simp⟩
  case round =>
    obtain ⟨k, hk, rfl, hown, hblk, hbel, hsz⟩ := hrel
    have hrow := rowL_row (l.take k)
    have hll := hrow.len
    obtain ⟨L, hL⟩ : ∃ L, rowL (l.take k) = L := ⟨_, rfl⟩
    rw [hL] at hown hblk hrow hll
    have HR := Lib.hid hown
    have HB := Lib.hid hblk
    have HBEL := Lib.hid hbel
    obtain ⟨Ar, cp, rfl⟩ := owns_slice hown
    by_cases hlt : k < l.length
    · have hlt1 : (k : Int) < (l.length : Int) := by omega
      obtain ⟨b, off, rfl, hbl, hcs⟩ := (HI.out.below hbel (Nat.le_refl _)) (by omega)
      obtain ⟨x, hx⟩ : ∃ x, l[k]? = some x := ⟨_, List.getElem?_eq_getElem hlt⟩
      have hcell := hcs k x hx
      have hstep := rowL_take l k x hx
      rw [hL] at hstep
      have HSTEP := Lib.hid hstep
      obtain ⟨p, hp⟩ : ∃ p, pickN x 32 = p := ⟨_, rfl⟩
      have hp32 : p < 32 := by rw [← hp]; exact pickN_lt x 32 (by omega)
      have HP := Lib.hid (fun w => show Calls Try.prog 11 #[.int .i64 x, .int .i64 32] w (RetSame (.int .i64 (p : Int)) w) from by
        have h := pick_any x 32 (by decide) (by decide) w
        rwa [pickN_eq x 32 (by omega), hp] at h)
      have hsn := (hblk.cell p).trans (sn_at L hp32)
      have hsf := hblk.frozen p
      have hp1 : (p : Int) < 32 := by omega
      have hp0 : (0 : Int) ≤ (p : Int) := by omega
      have HPE := Lib.hid hp
      have HLT := Lib.hid hlt
      have HROW := Lib.hid hrow
      clear hcs hx hbl hown hlt hstep hp hblk hbel hrow hL
      by_cases hm : p ∈ L
      · rw [show decide (p ∈ L) = true by simp [hm]] at hsn
        have HE := Lib.hid (show rowL (l.take (k + 1)) = L from by rw [HSTEP.out]; exact rowStep_in (by rw [HPE.out]; exact hm))
        clear hm HSTEP
        go_wp2_with (go_at_call 11; refine (HP.out _).mono ?_; rintro e w' ⟨rfl, rfl⟩)
        go_roundw
        case rel => exact ⟨k + 1, by have := HLT.out; omega, by go_num, by rw [HE.out]; exact HR.out, by rw [HE.out]; exact HB.out, HBEL.out, hsz⟩
        case measure => have := HLT.out; simp [intOf]; omega
      · rw [show decide (p ∈ L) = false by simp [hm]] at hsn
        have HE := Lib.hid (show rowL (l.take (k + 1)) = L ++ [p] from by rw [HSTEP.out, rowStep_out (by rw [HPE.out]; exact hm), HPE.out])
        have HST2 := HSTEP
        clear hm HSTEP
        have hl1 := (HROW.out.step x).len
        rw [← (show rowL (l.take (k + 1)) = rowStep L x from HST2.out), HE.out, List.length_append, List.length_singleton] at hl1
        have h1 : L.length + 1 ≤ maxLen := by unfold maxLen; omega
        have h2 : (L.length + 1) * 8 ≤ 140737488355328 := by omega
        have H1 := Lib.hid h1
        have H2 := Lib.hid h2
        have hown2 : (wr.setCell ⟨w.heap.size, p, none⟩ (.bool true)).ownsRow (w.heap.size + 1) 3 1 (.slice Ar L.length cp) L.length (intVs (natInts L)) := HR.out.kept (grownBy_set wr w.heap.size p (.bool true)) (by
          rcases HR.out.2 with ⟨h, _⟩ | ⟨g, cap, cur, h, hbg, _⟩
          · exact .inl (by rw [h]; rfl)
          · refine .inr fun e => ?_
            rw [h] at e
            obtain rfl : g = w.heap.size := by simpa [Value.ownBlock] using e
            omega)
        have HO2 := Lib.hid hown2
        have hblk2 := HB.out.set_ p (.bool true)
        rw [sn_add L hp32] at hblk2
        have HB2 := Lib.hid hblk2
        have hbel2 := HBEL.out.setCell (p := ⟨w.heap.size, p, none⟩) (Nat.le_refl _) (.bool true)
        have HBEL2 := Lib.hid hbel2
        have hsz2 : w.heap.size + 1 ≤ (wr.setCell ⟨w.heap.size, p, none⟩ (.bool true)).heap.size := by
          have := (KeepsWalks.setCell wr ⟨w.heap.size, p, none⟩ (.bool true)).size; omega
        have HSZ2 := Lib.hid hsz2
        clear h1 h2 hl1 hown2 hblk2 hbel2 hsz2 HR HB HBEL
        go_wp2_with (first
          | (go_at_call 11; refine (HP.out _).mono ?_; rintro e w' ⟨rfl, rfl⟩)
          | (at_builtin; refine wpList_append_one (v := .slice Ar L.length cp) rfl _ _ 48 rfl Try.underlying48 hi hz0 hz1 hz2 hz3 (by decide) rfl HO2.out (by rw [World.size_setCell]; rfl) rfl (int_one _) H1.out H2.out HSZ2.out ?_; intro g' cap' w11 hown1 hgr1))
        have hbk := bel_grown HBEL2.out hgr1 HO2.out (by omega) (by have := HSZ2.out; omega)
        have hob : w11.heap[w.heap.size]? = (wr.setCell ⟨w.heap.size, p, none⟩ (.bool true)).heap[w.heap.size]? := hgr1.block _ (by have := HSZ2.out; omega) (fun e => by have := (HO2.out.lt _ e.symm).1; omega)
        have hb11 : Blk w11 w.heap.size 26 (snCells (L ++ [p])) := ⟨hob.trans HB2.out.eq⟩
        have hs11 := hgr1.size
        have hsz11 : w.heap.size + 1 ≤ w11.heap.size := by have := HSZ2.out; omega
        clear hgr1 hob HB2
        go_roundw
        case rel => exact ⟨k + 1, by have := HLT.out; omega, by go_num, by rw [HE.out, natInts_snoc, List.length_append]; exact hown1, by rw [HE.out]; exact hb11, hbk, hsz11⟩
        case measure => have := HLT.out; simp [intOf]; omega
    · obtain rfl : k = l.length := by omega
      have hE : rowL l = L := by rw [← hL, List.take_length]
      clear HI hlt
      go_wp2
      go_ret
      have hfin := owns_lower HR.out (Nat.le_succ w.heap.size)
      exact ⟨_, rfl, by rw [hE, natInts_len]; exact hfin, HBEL.out⟩

theorem not_mem_take {L : List Nat} (h : L.Nodup) {k x : Nat} (hx : L[k]? = some x) : x ∉ L.take k := by
  intro hm
  obtain ⟨j, hj⟩ := List.getElem?_of_mem hm
  have hjk : j < k := by
    have := (List.getElem?_eq_some_iff.1 hj).1
    rw [List.length_take] at this
    omega
  rw [List.getElem?_take_of_lt hjk] at hj
  have h1 := (List.getElem?_eq_some_iff.1 hj).1
  have h2 := (List.getElem?_eq_some_iff.1 hx).1
  have := (List.getElem_inj (h₀ := h1) (h₁ := h2) h).1 (by rw [(List.getElem?_eq_some_iff.1 hj).2, (List.getElem?_eq_some_iff.1 hx).2])
  omega
theorem IntsAt.keep {w w' : World} {A : Option Addr} {xs : List Int} {g : Nat} (h : IntsAt w A xs) (hne : ∀ a, A = some a → a.block ≠ g) (hg : w.grownBy w' (some g)) : IntsAt w' A xs :=
  h.kept hg.size fun a e hlt => hg.block a.block hlt (fun k => hne a e (by simpa using k))
set_option maxHeartbeats 4000000 in
theorem laid_any {S : St} (P0 : Option Addr) (cap : Nat) (L : List Nat) (g : Nat) (w : World) (hA : IsAr w g S) (hL : IsRow L) (hin : IntsAt w P0 (natInts L)) (hne : ∀ a, P0 = some a → a.block ≠ g) (hw0 : 0 ≤ S.writes) (hw1 : S.writes + 3 * 32 < 900000000) :
    Calls Try.prog 22 #[.pointer (some ⟨g, 0, none⟩), .slice P0 L.length cap] w fun e w' =>
      e = .returned (.tuple #[.int .i64 (lsI (-1) L), .bool true]) ∧ ∃ S', At w g S' w' ∧ Ring S'.lk L ∧ Moved (3 * L.length) L S S' := by
  have HI := Lib.hid hin
  have HL := Lib.hid hL
  have HN := Lib.hid hne
  have HW := Lib.hid (And.intro hw0 hw1)
  have HA := Lib.hid (At.start hA)
  have hll := hL.len
  have hsl := hA.len
  clear hin hL hne hw0 hw1 hA
  go_enter Try.func22, Try.ntmps22
  go_wp2
  go_loopw [6, 7] (fun v i wr => ∃ (k : Nat) (S1 : St), k ≤ L.length ∧ i = .int .i64 k ∧ v = .int .i64 (lsI (-1) (L.take k)) ∧ At w g S1 wr ∧ Ring S1.lk (L.take k) ∧ Moved (3 * k) (L.take k) S S1) (fun _ i _ => L.length - (intOf i).toNat)
  case atStart => exact ⟨0, S, Nat.zero_le _, rfl, rfl, HA.out, Ring.nil _, (Moved.refl S).mono (by omega) (fun _ h => h)⟩
  case round =>
    obtain ⟨k, S1, hk, rfl, rfl, hat, hring, hmv⟩ := hrel
    have HAT := Lib.hid hat
    have HR := Lib.hid hring
    have HM := Lib.hid hmv
    by_cases hlt : k < L.length
    · have hlt1 : (k : Int) < (L.length : Int) := by omega
      obtain ⟨x, hx⟩ : ∃ x, L[k]? = some x := ⟨_, List.getElem?_eq_getElem hlt⟩
      have hb := HI.out.keep HN.out hat.grown
      obtain ⟨b, off, rfl, hbl, hcs⟩ := hb (by rw [natInts_len]; omega)
      have hcell := hcs k x (by simp [natInts, hx])
      have hx32 := HL.out.lt x (List.mem_of_getElem? hx)
      have hxn := not_mem_take HL.out.nodup hx
      have htk : L.take (k + 1) = L.take k ++ [x] := by rw [List.take_add_one, hx]; rfl
      have hwr := hmv.hi
      have hwl := hmv.lo
      obtain ⟨S2, hp, hr2, hm2⟩ := lay_step (hmv.len.trans hsl) hring hx32 hxn
      have hP := push_any (lsI (-1) (L.take k)) x g wr hat.ar (by have := HW.out.1; omega) (by have := HW.out.2; omega)
      rw [hp] at hP
      have HP := Lib.hid hP
      have HT := Lib.hid htk
      have HLT := Lib.hid hlt
      have HR2 := Lib.hid (show Ring S2.lk (L.take (k + 1)) from by rw [htk]; exact hr2)
      have HM2 := Lib.hid (show Moved (3 * ((k : Int) + 1)) (L.take (k + 1)) S S2 from (hmv.trans hm2).mono (by omega) (fun y hy => by rw [htk]; rcases List.mem_append.1 hy with h | h; exact List.mem_append_left _ h; exact h))
      have hcell2 : ∀ W, wr.grownBy W (some g) → W.cell? ⟨b, off + k, none⟩ = some (.int .i64 (x : Int)) := fun W hg => (World.cell?_of_block (a := ⟨b, off + k, none⟩) (hg.block b hbl (fun e => HN.out _ rfl (by simpa using e)))).trans hcell
      have HC2 := Lib.hid hcell2
      obtain ⟨lst, hlst⟩ : ∃ lst, lsI (-1) (L.take k) = lst := ⟨_, rfl⟩
      rw [hlst] at HP ⊢
      clear hcs hx hb hbl hxn htk hlt hwr hwl hp hr2 hm2 hP hat hring hmv hcell2 hlst
      go_wp2_with (go_at_call 27; fail)
      refine HP.out.mono ?_
      rintro e w2 ⟨rfl, hA2⟩
      have hcn := HC2.out w2 hA2.grown
      have HA2 := Lib.hid (HAT.out.trans hA2)
      clear hA2 HC2
      go_wp2
      go_roundw
      case rel => exact ⟨k + 1, S2, by have := HLT.out; omega, by go_num, by rw [HT.out, lsI_snoc], HA2.out, HR2.out, by have := HM2.out; simpa using this⟩
      case measure => have := HLT.out; simp [intOf]; omega
    · obtain rfl : k = L.length := by omega
      have HE := Lib.hid (List.take_length (l := L))
      rw [HE.out] at HR HM ⊢
      clear HI hlt hat hring hmv
      go_wp2
      go_ret2
      exact ⟨rfl, S1, HAT.out, HR.out, HM.out⟩
end Go.Proofs.Ytdgdbcapojgnlaa
