/-
  Merged texts: LRow, LDropped, LSpliced, RgKn2.
-/
import Derived.Test.YtdgdbcapojgnlaaDoorRgHelp3
import Derived.Test.YtdgdbcapojgnlaaDoorIntArg
import Derived.Deep.AppendLies
import Derived.Deep.RegionHeld3
import Derived.Test.YtdgdbcapojgnlaaDoorGe
import Derived.Test.YtdgdbcapojgnlaaDoorRgDel
/-
  lineagelaw16.RingRow: the whole walk.
-/
namespace Go.Proofs.YtdgdbcapojgnlaaDoor
set_option maxRecDepth 100000
open Go.RowKit Go.Shelf
attribute [local go_sem] Oper.semAt_some

set_option maxHeartbeats 4000000 in
theorem ringRow_any (P0 : Option Addr) (cap : Nat) (l : List Int) (w : World) (hin : IntsAt w P0 l) (hlen : l.length * 8 ≤ 140737488351232) :
    Calls Tryd.prog 55 #[.slice P0 l.length cap] w (RetB (.bool true) w) := by
  have HI := Lib.hid hin
  clear hin
  go_enter Tryd.func55, Tryd.ntmps55
  go_wp2_with (go_at_call 7; fail)
  refine (new_st w).mono ?_
  rintro e w1 ⟨g, rfl, hg, h1, b1⟩
  have B1 := Lib.hid b1
  have K1 := Lib.hid h1
  have hs1 := b1.size
  have hg1 := h1.lt
  clear b1 h1
  go_wp2_with (go_at_call 70; fail)
  refine (row_any P0 cap l w1 (HI.out.below B1.out (Nat.le_refl _)) hlen).mono ?_
  have hrow := rowL_row l
  have HROW := Lib.hid hrow
  obtain ⟨L, hL⟩ : ∃ L, rowL l = L := ⟨_, rfl⟩
  rw [hL] at HROW ⊢
  clear hrow hL
  rintro e w2 ⟨v, rfl, hown, b2⟩
  obtain ⟨A2, c2, rfl, hin2, hfr2⟩ := owns_intsFrom hown
  rw [natInts_len]
  have hs2 := b2.size
  have HI2 := Lib.hid hin2
  have HF2 := Lib.hid hfr2
  have B2 := Lib.hid (B1.out.trans (b2.mono hs1))
  have K2 := Lib.hid (K1.out.below b2 hg1)
  have hne2 : ∀ a, A2 = some a → a.block ≠ g := fun a e => by have := hfr2 a e; omega
  have HN := Lib.hid hne2
  clear hown hin2 hfr2 b2 hne2 K1 B1
  go_wp2_with (go_at_call 52; fail)
  refine (laid_any A2 c2 L g w2 K2.out HROW.out HI2.out HN.out (by decide) (by decide)).mono ?_
  rintro e w3 ⟨rfl, S', hA3, hR3, hM3⟩
  have A3 := Lib.hid hA3
  have R3 := Lib.hid hR3
  have B3 := Lib.hid (B2.out.grown hA3.grown B2.out.size (fun k e => by cases e; exact hg))
  have HI3 := Lib.hid (HI2.out.keep HN.out hA3.grown)
  have hs3 := hA3.grown.size
  obtain ⟨last, hlast⟩ : ∃ last, lsI (-1) L = last := ⟨_, rfl⟩
  have HLAST := Lib.hid hlast
  rw [hlast]
  clear hA3 hR3 hM3 B2 K2 HI2 hlast
  go_wp2_with (go_at_call 54; fail)
  refine (rworks_any w3).mono ?_
  rintro e w4 ⟨rfl, b4⟩
  have A4 := Lib.hid (A3.out.ar.below b4 A3.out.ar.lt)
  have HI4 := Lib.hid (HI3.out.below b4 (Nat.le_refl _))
  have B4 := Lib.hid (B3.out.trans (b4.mono B3.out.size))
  clear b4 A3 HI3 B3
  go_wp2_with (go_at_call 17; fail)
  refine (rall_any last 99 g w4 A4.out).mono ?_
  have hls : (S'.all last).take (99 : Int).toNat = L := by rw [← HLAST.out]; exact ring_list R3.out (by decide)
  rw [hls]
  clear hls
  rintro e w5 ⟨v, rfl, hown, b5⟩
  obtain ⟨P5, c5, rfl, hin5⟩ := owns_intsAt hown
  rw [natInts_len]
  have hll := HROW.out.len
  have HI5 := Lib.hid hin5
  have HI5b := Lib.hid (HI4.out.below b5 (Nat.le_refl _))
  have B5 := Lib.hid (B4.out.trans (b5.mono B4.out.size))
  have A5 := Lib.hid (A4.out.below b5 A4.out.lt)
  clear hown hin5 b5 A4 HI4 B4
  go_wp2_with (go_at_call 14; fail)
  refine (sameI_eq P5 A2 c5 c2 L.length (natInts L) (natInts_len L) (by omega) _ HI5.out HI5b.out).mono ?_
  rintro e w6 ⟨rfl, b6⟩
  have HI6 := Lib.hid (HI5b.out.below b6 (Nat.le_refl _))
  have B6 := Lib.hid (B5.out.trans (b6.mono B5.out.size))
  have A6 := Lib.hid (A5.out.below b6 A5.out.lt)
  clear b6 A5 HI5 HI5b B5
  go_wp2
  go_loopw [7] (fun i wr => ∃ k : Nat, k ≤ L.length ∧ i = .int .i64 k ∧ IsAr wr g S' ∧ IntsAt wr A2 (natInts L) ∧ Below w.heap.size w wr) (fun i _ => L.length - (intOf i).toNat)
  case atStart => exact ⟨0, Nat.zero_le _, rfl, A6.out, HI6.out, B6.out⟩
  case round =>
    obtain ⟨k, hk, rfl, hA, hI, hB⟩ := hrel
    have HA := Lib.hid hA
    have HIr := Lib.hid hI
    have HB := Lib.hid hB
    clear A6 HI6 B6
    by_cases hlt : k < L.length
    · have hlt1 : (k : Int) < (L.length : Int) := by omega
      obtain ⟨x, hx⟩ : ∃ x, L[k]? = some x := ⟨_, List.getElem?_eq_getElem hlt⟩
      have hm := List.mem_of_getElem? hx
      have HX := Lib.hid hm
      have hx32 := HROW.out.lt x hm
      obtain ⟨b, off, rfl, hbl, hcs⟩ := hI (by rw [natInts_len]; omega)
      have hcell := hcs k x (by simp [natInts, hx])
      have hw := R3.out.wellm hm
      have HW := Lib.hid hw
      have HLT := Lib.hid hlt
      clear hcs hx hbl hm hlt hw hI hA hB
      go_wp2_with (go_at_call 71; fail)
      refine (lwell_any x hx32 g wr HA.out).mono ?_
      rw [HW.out]
      rintro e w7 ⟨rfl, b7⟩
      have HA7 := Lib.hid (HA.out.below b7 HA.out.lt)
      have HI7 := Lib.hid (HIr.out.below b7 (Nat.le_refl _))
      have HB7 := Lib.hid (HB.out.trans (b7.mono HB.out.size))
      clear b7 HA HIr HB
      go_wp2
      go_roundw
      case rel => exact ⟨k + 1, by have := HLT.out; omega, by go_num, HA7.out, HI7.out, HB7.out⟩
      case measure => have := HLT.out; simp [intOf]; omega
    · have hlt1 : ¬ (k : Int) < (L.length : Int) := by omega
      clear hA hI hB
      go_wp2
      go_ret
      exact ⟨rfl, HB.out⟩
theorem ringRow_rows (A : Option Addr) (cap : Nat) (l : List Int) (w : World) (h : 0 < l.length → ∃ b off, A = some ⟨b, off, none⟩ ∧ b < w.heap.size ∧ ∀ k y, l[k]? = some y → RowAt w b (off + k * 1) (i64c y)) (hlen : l.length * 8 ≤ 140737488351232) :
    Calls Tryd.prog 55 #[.slice A l.length cap] w (RetB (.bool true) w) :=
  ringRow_any A cap l w (intsAt_rows h) hlen
end Go.Proofs.YtdgdbcapojgnlaaDoor
/-
  lineagelaw16.RingDropped: the whole walk.
-/
namespace Go.Proofs.YtdgdbcapojgnlaaDoor
set_option maxRecDepth 100000
open Go.RowKit Go.Shelf
attribute [local go_sem] Oper.semAt_some

/-- An append at a step of a region that draws its order, under a guard. -/
theorem step_append_wanted {P : Program} {w : World} {ops : Array Oper} {o : Oper} {a : Act} {K : Act → World → Prop} {Q : Exit → Act → World → Prop} {E : Prop} (hw : Region.wanted o (yielded ops a.tmps) = true) (s x : Operand) (t : TypeId)
    (ho : o.op = .call { callee := .builtin .append, args := #[s, x], argTypes := #[t, t] })
    (base : Nat) (e : TypeId) (i : TypeInfo) (z : Value) (size bytes : Nat) (ht : P.underlying t = some (.slice e)) (hi : P.info? e = some i) (hz : i.zero = some z)
    (hsize : i.size = size) (hby : i.bytes = bytes) (hzs : z.cells.size = size) (hsz : 0 < size)
    (v : Value) (n : Nat) (xs : List Value) (hs : a.eval s = v) (hown : w.ownsRow base e size v n xs)
    (ad : Addr) (m c : Nat) (news : List Value) (hx : a.eval x = .slice (some ad) m c) (hl : news.length = m * size) (hnews : ∀ j u, news[j]? = some u → w.cell? (ad.add j) = some u) (h1 : ∀ u ∈ news, u.oneCell' = true)
    (hm : 0 < m) (h63 : n + m ≤ maxLen) (hbytes : (n + m) * bytes ≤ 140737488355328) (hbase : base ≤ w.heap.size)
    (h : ∀ g cap w', w'.ownsRow base e size (.slice (some ⟨g, 0, none⟩) (n + m) cap) (n + m) (xs ++ news) → w.grownBy w' v.ownBlock → K (a.put o.dst (.slice (some ⟨g, 0, none⟩) (n + m) cap)) w') :
    if Region.wanted o (yielded ops a.tmps) = true then Oper.wp P o a w K Q else E := by
  rw [if_pos hw]
  exact wp_append_lies w s x t ho base e i z size bytes ht hi hz hsize hby hzs hsz v n xs hs hown ad m c news hx hl hnews h1 hm h63 hbytes hbase _ rfl (fun g cap w' h2 h3 _ _ => h g cap w' h2 h3)
theorem erase_step {L : List Nat} {j k x : Nat} (hx : L[j]? = some x) : (L.take (j + 1)).eraseIdx k = if j = k then (L.take j).eraseIdx k else (L.take j).eraseIdx k ++ [x] := by
  have hj := (List.getElem?_eq_some_iff.1 hx).1
  have hl : (L.take j).length = j := by rw [List.length_take]; omega
  rw [List.take_add_one, hx]
  show (L.take j ++ [x]).eraseIdx k = _
  by_cases h : j = k
  · rw [if_pos h, List.eraseIdx_append_of_length_le (by omega), hl, h]
    have e : (L.take k).eraseIdx k = L.take k := List.eraseIdx_of_length_le (by rw [← h, hl]; omega)
    simp [e]
  · rw [if_neg h]
    by_cases h2 : k < j
    · rw [List.eraseIdx_append_of_lt_length (by omega)]
    · rw [List.eraseIdx_append_of_length_le (by omega), hl]
      have e : (L.take j).eraseIdx k = L.take j := List.eraseIdx_of_length_le (by rw [hl]; omega)
      rw [e]
      congr 1
      rw [show k - j = (k - j - 1) + 1 by omega]
      rfl
theorem split_at {L : List Nat} {k x : Nat} (hx : L[k]? = some x) : L = L.take k ++ x :: L.drop (k + 1) ∧ L.eraseIdx k = L.take k ++ L.drop (k + 1) := by
  have hk := (List.getElem?_eq_some_iff.1 hx).1
  have e : L[k] = x := (List.getElem?_eq_some_iff.1 hx).2
  refine ⟨?_, List.eraseIdx_eq_take_drop_succ ..⟩
  rw [← e, ← List.drop_eq_getElem_cons hk, List.take_append_drop]
/-- The pure side: a slot is dropped, and pushed again. -/
theorem dropped_law {S : St} (hl : S.slots.length = 32) {L : List Nat} (h : Ring S.lk L) {k x : Nat} (hx : L[k]? = some x) :
    ∃ S2 S3, S.dropR (lsI (-1) L) x = (.tuple #[.int .i64 (lsI (-1) (L.eraseIdx k)), .nilIface], S2) ∧ Ring S2.lk (L.eraseIdx k) ∧ S2.well x = false ∧ Moved 3 L S S2 ∧
      S2.push (lsI (-1) (L.eraseIdx k)) x = (.tuple #[.int .i64 x, .nilIface], S3) ∧ Ring S3.lk (L.eraseIdx k ++ [x]) := by
  obtain ⟨e1, e2⟩ := split_at hx
  rw [e2]
  have hx32 := h.lt x (List.mem_of_getElem? hx)
  have hR := h
  rw [e1] at hR
  obtain ⟨S2, h1, h2, h3, h4⟩ := drop_ring hl hR
  rw [← e1] at h1 h4
  have hxn : x ∉ L.take k ++ L.drop (k + 1) := by
    have hd := hR.nodup
    rw [List.nodup_append] at hd
    rw [List.mem_append]
    rintro (h5 | h5)
    · exact hd.2.2 x h5 x (by simp) rfl
    · exact (List.nodup_cons.1 hd.2.1).1 h5
  obtain ⟨S3, h5, h6, _⟩ := lay_step (h4.len.trans hl) h2 hx32 hxn
  refine ⟨S2, S3, h1, h2, ?_, h4, h5, h6⟩
  unfold St.well
  rw [h3]
  rfl
theorem owns_call {w w' : World} {base n : Nat} {e : TypeId} {size : Nat} {v : Value} {xs : List Value} (h : w.ownsRow base e size v n xs) (hb : Below w.heap.size w w') : w'.ownsRow base e size v n xs := h.kept (grownBy_below hb none) (Classical.em _)
theorem owns_at {w : World} {base n cap : Nat} {A : Option Addr} {l : List Int} (h : w.ownsRow base 3 1 (.slice A n cap) n (intVs l)) : IntsAt w A l := by
  obtain ⟨A', c', e, hin⟩ := owns_intsAt h
  cases e
  exact hin
/-- What is carried through a statement that draws its order. -/
structure Carry (w : World) (g : Nat) (S : St) (p : Addr) (x : Value) (W : World) : Prop where
  ar : IsAr W g S
  bel : Below w.heap.size w W
  cell : W.cell? p = some x
section
variable {w W W' : World} {g : Nat} {S : St} {p : Addr} {x : Value}
theorem Carry.call (h : W.cell? p = some x ∧ Carry w g S p x W) (hb : Below W.heap.size W W') : W'.cell? p = some x ∧ Carry w g S p x W' :=
  have hc := (hb.cell (p := p) (World.block_lt_of_cell? W p h.1)).trans h.1
  ⟨hc, h.2.ar.below hb h.2.ar.lt, h.2.bel.trans (hb.mono h.2.bel.size), hc⟩
theorem Carry.alloc (h : W.cell? p = some x ∧ Carry w g S p x W) (o : Obj) : (W.alloc o).cell? p = some x ∧ Carry w g S p x (W.alloc o) := Carry.call h ((Below.refl _ _).alloc (Nat.le_refl _) o)
theorem Carry.drew (h : Carry w g S p x W) : W.drew.cell? p = some x ∧ Carry w g S p x W.drew := Carry.call ⟨h.cell, h⟩ (Below.refl _ _).drew
theorem Carry.app (h : W.cell? p = some x ∧ Carry w g S p x W) {v : Value} {n : Nat} (hg : W.grownBy W' v.ownBlock) (hv : ∀ r, v.ownBlock = some r → n ≤ r) (hw : w.heap.size ≤ n) (hgn : g < n) (hpn : p.block < n) : W'.cell? p = some x ∧ Carry w g S p x W' :=
  have hc := (World.cell?_of_block (a := p) (hg.block p.block (World.block_lt_of_cell? W p h.1) (fun e => by have := hv _ e.symm; omega))).trans h.1
  ⟨hc, h.2.ar.block (hg.block g h.2.ar.lt (fun e => by have := hv _ e.symm; omega)), h.2.bel.grown hg h.2.bel.size (fun k e => by have := hv k e; omega), hc⟩
end
theorem IntsAt.app {W W' : World} {A : Option Addr} {l : List Int} {v : Value} {n m : Nat} (h : IntsAt W A l) (hf : ∀ a, A = some a → n ≤ a.block ∧ a.block < m) (hg : W.grownBy W' v.ownBlock) (hv : ∀ r, v.ownBlock = some r → r < n) : IntsAt W' A l :=
  h.kept hg.size fun a e hlt => hg.block a.block hlt (fun k => by have := hv _ k.symm; have := (hf a e).1; omega)
theorem IntsAt.own {W : World} {base g n cap : Nat} {l : List Int} (h : W.ownsRow base 3 1 (.slice (some ⟨g, 0, none⟩) n cap) n (intVs l)) : IntsAt W (some ⟨g, 0, none⟩) l := own_ints h
set_option maxHeartbeats 8000000 in
theorem ringDropped_any (P0 : Option Addr) (cap : Nat) (l : List Int) (which : Int) (w : World) (hin : IntsAt w P0 l) (hlen : l.length * 8 ≤ 140737488351232) :
    Calls Tryd.prog 56 #[.slice P0 l.length cap, .int .i64 which] w (RetB (.bool true) w) := by
  obtain ⟨ii, iz, hi, hz0, hz1, hz2, hz3⟩ := intInfo
  have HI := Lib.hid hin
  clear hin
  go_enter Tryd.func56, Tryd.ntmps56
  go_wp2_with (go_at_call 7; fail)
  refine (new_st w).mono ?_
  rintro e w1 ⟨g, rfl, hg, h1, b1⟩
  have B1 := Lib.hid b1
  have K1 := Lib.hid h1
  have hs1 := b1.size
  have hg1 := h1.lt
  clear b1 h1
  go_wp2_with (go_at_call 70; fail)
  refine (row_any P0 cap l w1 (HI.out.below B1.out (Nat.le_refl _)) hlen).mono ?_
  have hrow := rowL_row l
  have HROW := Lib.hid hrow
  obtain ⟨L, hL⟩ : ∃ L, rowL l = L := ⟨_, rfl⟩
  rw [hL] at HROW ⊢
  clear hrow hL
  rintro e w2 ⟨v, rfl, hown, b2⟩
  obtain ⟨A2, c2, rfl, hin2, hfr2⟩ := owns_intsFrom hown
  rw [natInts_len]
  have hs2 := b2.size
  have HI2 := Lib.hid hin2
  have B2 := Lib.hid (B1.out.trans (b2.mono hs1))
  have K2 := Lib.hid (K1.out.below b2 hg1)
  have hne2 : ∀ a, A2 = some a → a.block ≠ g := fun a e => by have := hfr2 a e; omega
  have HN := Lib.hid hne2
  have HLL := Lib.hid HROW.out.len
  clear hown hin2 hfr2 b2 hne2 K1 B1
  go_wp2_with (go_at_call 52; fail)
  refine (laid_any A2 c2 L g w2 K2.out HROW.out HI2.out HN.out (by decide) (by decide)).mono ?_
  rintro e w3 ⟨rfl, S', hA3, hR3, hM3⟩
  have A3 := Lib.hid hA3
  have R3 := Lib.hid hR3
  have M3 := Lib.hid hM3
  have B3 := Lib.hid (B2.out.grown hA3.grown B2.out.size (fun k e => by cases e; exact hg))
  have HI3 := Lib.hid (HI2.out.keep HN.out hA3.grown)
  have hs3 := hA3.grown.size
  have HW3 := Lib.hid (show 0 ≤ S'.writes ∧ S'.writes ≤ 96 from ⟨hM3.lo, by have := hM3.hi; have := HLL.out; simp [St.new] at *; omega⟩)
  obtain ⟨last, hlast⟩ : ∃ last, lsI (-1) L = last := ⟨_, rfl⟩
  have HLAST := Lib.hid hlast
  rw [hlast]
  clear hA3 hR3 hM3 B2 K2 HI2 hlast M3
  go_wp2_with (go_at_call 54; fail)
  refine (rworks_any w3).mono ?_
  rintro e w4 ⟨rfl, b4⟩
  have A4 := Lib.hid (A3.out.ar.below b4 A3.out.ar.lt)
  have HI4 := Lib.hid (HI3.out.below b4 (Nat.le_refl _))
  have B4 := Lib.hid (B3.out.trans (b4.mono B3.out.size))
  have hs4 := b4.size
  clear b4 A3 HI3 B3
  by_cases hl0 : L.length = 0
  · have hl0' : (L.length : Int) = 0 := by omega
    go_wp2_with (go_at_call 54; fail)
    refine (rworks_any w4).mono ?_
    rintro e w5 ⟨rfl, b5⟩
    have B5 := Lib.hid (B4.out.trans (b5.mono B4.out.size))
    clear b5
    go_wp2
    go_ret
    exact ⟨rfl, B5.out⟩
  · have hl0' : ((L.length : Int) == 0) = false := by simpa using hl0
    have hlp : 0 < L.length := by omega
    obtain ⟨k, hk⟩ : ∃ k, pickN which L.length = k := ⟨_, rfl⟩
    have hkl : k < L.length := by rw [← hk]; exact pickN_lt _ _ hlp
    have HP := Lib.hid (fun w => show Calls Tryd.prog 9 #[.int .i64 which, .int .i64 (L.length : Int)] w (RetSame (.int .i64 (k : Int)) w) from by
      have h := pick_any which L.length hlp (by have := HLL.out; omega) w
      rwa [pickN_eq which _ hlp, hk] at h)
    have HKL := Lib.hid hkl
    clear hk hkl hl0
    go_wp2_with (go_at_call 9; refine (HP.out _).mono ?_; rintro e w' ⟨rfl, rfl⟩)
    go_loopw [10, 11] (fun v i wr => ∃ j : Nat, j ≤ L.length ∧ i = .int .i64 j ∧ wr.ownsRow w4.heap.size 3 1 v ((L.take j).eraseIdx k).length (intVs (natInts ((L.take j).eraseIdx k))) ∧ Below w4.heap.size w4 wr) (fun _ i _ => L.length - (intOf i).toNat)
    case atStart => exact ⟨0, Nat.zero_le _, rfl, by simpa [natInts, intVs] using World.ownsRow_nil w4 w4.heap.size 3 1, Below.refl _ _⟩
    case round =>
      obtain ⟨j, hj, rfl, hown, hbel⟩ := hrel
      have hEl : ((L.take j).eraseIdx k).length ≤ 32 := by
        have h1 := List.length_eraseIdx_le (L.take j) k
        rw [List.length_take] at h1
        have := HLL.out
        omega
      obtain ⟨E, hE⟩ : ∃ E, (L.take j).eraseIdx k = E := ⟨_, rfl⟩
      rw [hE] at hown hEl
      have HR := Lib.hid hown
      have HBEL := Lib.hid hbel
      obtain ⟨Ar, cp, rfl⟩ := owns_slice hown
      have hbs := hbel.size
      have hll := HLL.out
      by_cases hlt : j < L.length
      · have hlt1 : (j : Int) < (L.length : Int) := by omega
        obtain ⟨x, hx⟩ : ∃ x, L[j]? = some x := ⟨_, List.getElem?_eq_getElem hlt⟩
        obtain ⟨b, off, rfl, hbl, hcs⟩ := (HI4.out.below hbel (Nat.le_refl _)) (by rw [natInts_len]; omega)
        have hcell := hcs j x (by simp [natInts, hx])
        have hes := erase_step (k := k) hx
        rw [hE] at hes
        have HLT := Lib.hid hlt
        by_cases hjk : j = k
        · rw [if_pos hjk] at hes
          have hjk' : (j : Int) = (k : Int) := by omega
          have HES := Lib.hid hes
          clear hcs hx hbl hown hlt hes hbel hE hjk
          go_wp2
          go_roundw
          case rel => exact ⟨j + 1, by have := HLT.out; omega, by go_num, by rw [HES.out]; exact HR.out, HBEL.out⟩
          case measure => have := HLT.out; simp [intOf]; omega
        · rw [if_neg hjk] at hes
          have hjk' : ((j : Int) == (k : Int)) = false := by simpa using (by omega : ¬ (j : Int) = (k : Int))
          have hjk2 : ((j : Int) != (k : Int)) = true := by simp; omega
          have HES := Lib.hid hes
          have h1 : E.length + 1 ≤ maxLen := by unfold maxLen; omega
          have h2 : (E.length + 1) * 8 ≤ 140737488355328 := by omega
          have H1 := Lib.hid h1
          have H2 := Lib.hid h2
          clear hcs hx hbl hown hlt hes hbel hE hjk h1 h2
          go_wp2_with (at_builtin; refine wpList_append_one (v := .slice Ar E.length cp) rfl _ _ 44 rfl Tryd.underlying44 hi hz0 hz1 hz2 hz3 (by decide) rfl HR.out rfl rfl (int_one _) H1.out H2.out (by omega) ?_; intro g' cap' w11 hown1 hgr1)
          have hbk := bel_grown HBEL.out hgr1 HR.out (by omega) (by omega)
          clear hgr1
          go_roundw
          case rel => exact ⟨j + 1, by have := HLT.out; omega, by go_num, by rw [HES.out, natInts_snoc, List.length_append]; exact hown1, hbk⟩
          case measure => have := HLT.out; simp [intOf]; omega
      · obtain rfl : j = L.length := by omega
        rw [List.take_length] at hE
        have hkl := HKL.out
        obtain ⟨x, hx⟩ : ∃ x, L[k]? = some x := ⟨_, List.getElem?_eq_getElem hkl⟩
        obtain ⟨S2, S3, d1, d2, d3, d4, d5, d6⟩ := dropped_law A4.out.len R3.out hx
        rw [hE, HLAST.out] at d1
        rw [hE] at d2 d5 d6
        have hA := A4.out.below hbel A4.out.lt
        obtain ⟨b, off, rfl, hbl, hcs⟩ := (HI4.out.below hbel (Nat.le_refl _)) (by rw [natInts_len]; omega)
        have hcell := hcs k x (by simp [natInts, hx])
        have hbg : b ≠ g := HN.out _ rfl
        have hbw4 : b < w4.heap.size := by
          obtain ⟨b', off', e, hb', _⟩ := HI4.out (by rw [natInts_len]; omega)
          cases e; exact hb'
        have hx32 := HROW.out.lt x (List.mem_of_getElem? hx)
        have hP := drop_any last x g wr hA HW3.out.1 (by have := HW3.out.2; omega)
        rw [d1] at hP
        have HDP := Lib.hid hP
        have HC := Lib.hid hcell
        have D2 := Lib.hid d2
        have D3 := Lib.hid d3
        have D5 := Lib.hid d5
        have D6 := Lib.hid d6
        have HW5 := Lib.hid (show 0 ≤ S2.writes ∧ S2.writes ≤ 99 from ⟨by have := HW3.out.1; have := d4.lo; omega, by have := HW3.out.2; have := d4.hi; omega⟩)
        have B5 := Lib.hid (B4.out.trans (hbel.mono B4.out.size))
        have hs5 := hbel.size
        have hgw4 := A4.out.lt
        have hki0 : (0 : Int) ≤ (k : Int) := by omega
        have hki : (k : Int) < (L.length : Int) := by omega
        obtain ⟨nn, hnn⟩ : ∃ nn, lsI (-1) E = nn := ⟨_, rfl⟩
        have HNN := Lib.hid hnn
        have hnb : (nn == (-1)) = ((E.length : Int) == 0) := by
          rw [← hnn]
          cases E with
          | nil => rfl
          | cons e0 E0 =>
            obtain ⟨y, hy, _⟩ := lsI_mem (p := -1) (A := e0 :: E0) (by simp)
            rw [hy]
            have h1 : ((y : Int) == -1) = false := beq_eq_false_iff_ne.2 (by omega)
            have h2 : (((e0 :: E0).length : Int) == 0) = false := beq_eq_false_iff_ne.2 (by simp; omega)
            rw [h1, h2]
        obtain ⟨bb, hbb⟩ : ∃ bb, ((E.length : Int) == 0) = bb := ⟨_, rfl⟩
        rw [hbb] at hnb
        rw [hnn] at HDP D5
        clear hcs hx d1 d2 d3 d4 d5 d6 hA hP hbel hE hown hlt hkl hnn HP HKL B4 A4 HI4 R3 HI
        go_wp2_with (go_at_call 45; fail)
        refine HDP.out.mono ?_
        rintro e w5 ⟨rfl, hA5⟩
        have A5 := Lib.hid hA5.ar
        have B6 := Lib.hid (B5.out.grown hA5.grown B5.out.size (fun k e => by cases e; exact hg))
        have HR5 := Lib.hid (owns_kept HR.out hA5.grown hgw4)
        have HC5 := Lib.hid ((World.cell?_of_block (a := ⟨b, off + k, none⟩) (hA5.grown.block b (by omega) (fun e => hbg (by simpa using e)))).trans HC.out)
        have hs6 := hA5.grown.size
        clear hA5 HR HC B5 HDP hcell
        go_wp2_with (go_at_call 17; fail)
        refine (rall_any nn 99 g w5 A5.out).mono ?_
        rw [show (S2.all nn).take (99 : Int).toNat = E from by rw [← HNN.out]; exact ring_list D2.out (by decide)]
        rintro e w6 ⟨v, rfl, hown, b6⟩
        obtain ⟨P6, c6, rfl, hin6⟩ := owns_intsAt hown
        rw [natInts_len]
        have A6 := Lib.hid (A5.out.below b6 A5.out.lt)
        have B7 := Lib.hid (B6.out.trans (b6.mono B6.out.size))
        have HR6 := Lib.hid (owns_call HR5.out b6)
        have HC6 := Lib.hid ((b6.cell (p := ⟨b, off + k, none⟩) (by show b < w5.heap.size; omega)).trans HC5.out)
        have HI6 := Lib.hid hin6
        have hs7 := b6.size
        clear hown hin6 b6 A5 B6 HR5 HC5
        go_wp2_with (go_at_call 14; fail)
        refine (sameI_eq P6 Ar c6 cp E.length (natInts E) (natInts_len E) (by omega) _ HI6.out (owns_at HR6.out)).mono ?_
        rintro e w7 ⟨rfl, b7⟩
        have A7 := Lib.hid (A6.out.below b7 A6.out.lt)
        have B8 := Lib.hid (B7.out.trans (b7.mono B7.out.size))
        have HR7 := Lib.hid (owns_call HR6.out b7)
        have hc7 := (b7.cell (p := ⟨b, off + k, none⟩) (by show b < w6.heap.size; omega)).trans HC6.out
        have HC7 := Lib.hid hc7
        have hs8 := b7.size
        clear b7 A6 B7 HR6 HC6 HI6
        go_wp2_with (go_at_call 71; fail)
        refine (lwell_any x hx32 g w7 A7.out).mono ?_
        rw [D3.out]
        rintro e w8 ⟨rfl, b8⟩
        have A8 := Lib.hid (A7.out.below b8 A7.out.lt)
        have B9 := Lib.hid (B8.out.trans (b8.mono B8.out.size))
        have HR8 := Lib.hid (owns_call HR7.out b8)
        have hc8 := (b8.cell (p := ⟨b, off + k, none⟩) (by show b < w7.heap.size; omega)).trans HC7.out
        have HC8 := Lib.hid hc8
        have hs9 := b8.size
        have hP := push_any nn x g w8 A8.out HW5.out.1 (by have := HW5.out.2; omega)
        rw [D5.out] at hP
        have HPU := Lib.hid hP
        clear b8 A7 B8 HR7 HC7 hc7 hP
        go_wp2_with (go_at_call 49; fail)
        refine HPU.out.mono ?_
        rintro e w9 ⟨rfl, hA9⟩
        have A9 := Lib.hid hA9.ar
        have B10 := Lib.hid (B9.out.grown hA9.grown B9.out.size (fun k e => by cases e; exact hg))
        have HR9 := Lib.hid (owns_kept HR8.out hA9.grown hgw4)
        have hc9 := (World.cell?_of_block (a := ⟨b, off + k, none⟩) (hA9.grown.block b (by omega) (fun e => hbg (by simpa using e)))).trans HC8.out
        have HC9 := Lib.hid hc9
        have hs10 := hA9.grown.size
        clear hA9 HPU A8 B9 HR8 HC8 hc8
        have I9 := Lib.hid (show Carry w g S3 ⟨b, off + k, none⟩ (.int .i64 x) w9 from ⟨A9.out, B10.out, HC9.out⟩)
        have hi9 := (show Carry w g S3 ⟨b, off + k, none⟩ (.int .i64 x) w9 from ⟨A9.out, B10.out, HC9.out⟩).drew
        have HR9d := Lib.hid (show w9.drew.ownsRow w4.heap.size 3 1 (.slice Ar E.length cp) E.length (intVs (natInts E)) from owns_call HR9.out (Below.refl _ _).drew)
        have HOL := Lib.hid (fun r (e : (Value.slice Ar E.length cp).ownBlock = some r) => (HR9.out.lt r e).1)
        have HOU := Lib.hid (fun r (e : (Value.slice Ar E.length cp).ownBlock = some r) => (HR9d.out.lt r e).2)
        have HLE := Lib.hid (show (natInts (E ++ [x])).length = E.length + 1 by simp [natInts])
        have h8s : (E.length + 1) * 8 ≤ 140737488355328 := by omega
        have H8S := Lib.hid h8s
        clear h8s
        have HALL := Lib.hid (fun (W : World) (h : W.cell? ⟨b, off + k, none⟩ = some (.int .i64 x) ∧ Carry w g S3 ⟨b, off + k, none⟩ (.int .i64 x) W) => show Calls Tryd.prog 17 #[.pointer (some ⟨g, 0, none⟩), .int .i64 x, .int .i64 99] W (RetInts (natInts (E ++ [x])) W) from by
          have h1 := rall_any (x : Int) 99 g W h.2.ar
          rwa [show (S3.all (x : Int)).take (99 : Int).toNat = E ++ [x] from by have := ring_list D6.out (m := 99) (by decide); rwa [lsI_snoc] at this] at h1)
        have h63 : E.length + 1 ≤ maxLen := by unfold maxLen; omega
        have h8 : (E.length + 1) * 8 ≤ 140737488355328 := by omega
        have H63 := Lib.hid h63
        have H8 := Lib.hid h8
        have hws9 : w4.heap.size ≤ w9.heap.size := by omega
        have hww4 : w.heap.size ≤ w4.heap.size := by omega
        clear h63 h8 HR9 A9 B10 HC9 HROW HLL HW3 HLAST HBEL HN D2 D3 D5 HW5 HNN hnb hbb hs1 hs2 hs3 hs4 hs5 hs6 hs7 hs8 hs9 hs10 hc9
        go_wp2
        refine wp_region_noPanic ?_
        go_region_held3 (fun W' => W'.cell? ⟨b, off + k, none⟩ = some (.int .i64 x) ∧ Carry w g S3 ⟨b, off + k, none⟩ (.int .i64 x) W')
          (first
            | exact hi9
            | exact Carry.call (by assumption) ba
            | exact Carry.call (by assumption) bs
            | exact Carry.alloc (by assumption) _
            | exact Carry.app (by assumption) hgrow HOL.out hww4 hgw4 hbw4)
          (first
            | (go_at_call 17; refine (HALL.out _ (by assumption)).mono ?_; rintro e wa ⟨va, rfl, howna, ba⟩; obtain ⟨Pa, ca, rfl, hina, hfa⟩ := owns_intsFrom howna; rw [natInts_len, List.length_append, List.length_singleton])
            | (refine step_append_wanted ?_ _ _ _ (by rfl) w4.heap.size 3 ii iz 1 8 Tryd.underlying44 hi hz0 hz1 hz2 hz3 (by decide) (.slice Ar E.length cp) E.length (intVs (natInts E)) ?_ ?_ ?_ 1 1 [.int .i64 x] ?_ (by rfl) ?_ (by simp [Value.oneCell']) (by omega) H63.out H8.out (by first | (have := ba.size; simp at this ⊢; omega) | (simp; omega)) ?_
               · rfl
               · rfl
               · first | exact (owns_call HR9d.out ba).alloc _ | exact owns_call (HR9d.out.alloc _) ba | exact HR9d.out.alloc _
               rotate_left
               · rfl
               · first | exact World.news_of_block (cs := #[.int .i64 x]) (t := 3) (fr := (0, 0)) (heap_alloc_new _ _) | exact World.news_of_block (cs := #[.int .i64 x]) (t := 3) (fr := (0, 0)) ((ba.block _ (by simp)).trans (heap_alloc_new _ _))
               rotate_left
               intro gg cap ww hownw hgrow
               rw [← natInts_snoc] at hownw)
            | (go_at_call 14
               refine (sameI_eq _ _ _ _ (E.length + 1) (natInts (E ++ [x])) HLE.out H8S.out _ ?_ ?_).mono ?_
               · first
                 | exact IntsAt.app (hina.below ((Below.refl _ _).alloc (Nat.le_refl _) _) (Nat.le_refl _)) hfa hgrow HOU.out
                 | exact IntsAt.app hina hfa hgrow (fun r e => by have := HOU.out r e; simp at this ⊢; omega)
                 | exact hina
               · first
                 | exact own_ints hownw
                 | exact (own_ints hownw).below ba (Nat.le_refl _)
               rintro e wz ⟨rfl, bs⟩))
        all_goals
          refine NoPanic.normal ?_
          go_wp2
          go_ret
          exact ⟨rfl, (by assumption : _ ∧ Carry w g S3 ⟨b, off + k, none⟩ (.int .i64 x) _).2.bel⟩
theorem ringDropped_rows (A : Option Addr) (cap : Nat) (l : List Int) (which : Int) (w : World) (h : 0 < l.length → ∃ b off, A = some ⟨b, off, none⟩ ∧ b < w.heap.size ∧ ∀ k y, l[k]? = some y → RowAt w b (off + k * 1) (i64c y)) (hlen : l.length * 8 ≤ 140737488351232) :
    Calls Tryd.prog 56 #[.slice A l.length cap, .int .i64 which] w (RetB (.bool true) w) :=
  ringDropped_any A cap l which w (intsAt_rows h) hlen
end Go.Proofs.YtdgdbcapojgnlaaDoor
/-
  lineagelaw16.RingSpliced: the whole walk.
-/
namespace Go.Proofs.YtdgdbcapojgnlaaDoor
set_option maxRecDepth 100000
open Go.RowKit Go.Shelf
attribute [local go_sem] Oper.semAt_some

theorem owns_keep {w w' : World} {base n cap : Nat} {e : TypeId} {size g : Nat} {A : Option Addr} {xs : List Value} (h : w.ownsRow base e size (.slice A n cap) n xs) (hne : ∀ a, A = some a → a.block ≠ g) (hg : w.grownBy w' (some g)) : w'.ownsRow base e size (.slice A n cap) n xs :=
  h.kept hg (by
    cases A with
    | none => exact .inl rfl
    | some a => exact .inr (fun e => hne a rfl (by simpa [Value.ownBlock] using e)))
theorem IntsAt.drop {w : World} {A : Option Addr} {xs : List Int} (h : IntsAt w A xs) (cap k : Nat) (hc : xs.length ≤ cap) : IntsAt w (if cap = k then A else A.map (fun x => x.add k)) (xs.drop k) := fun hp => by
  rw [List.length_drop] at hp
  obtain ⟨b, off, rfl, hb, hcs⟩ := h (by omega)
  rw [if_neg (by omega)]
  refine ⟨b, off + k, by simp [Addr.add_lit], hb, fun j i hj => ?_⟩
  rw [List.getElem?_drop] at hj
  have := hcs (k + j) i hj
  rwa [← Nat.add_assoc] at this
theorem drop_ne {A : Option Addr} {g cap k : Nat} (h : ∀ a, A = some a → a.block ≠ g) : ∀ a, (if cap = k then A else A.map (fun x => x.add k)) = some a → a.block ≠ g := by
  intro a e
  split at e
  · exact h a e
  · cases A with
    | none => cases e
    | some a0 =>
      simp at e
      subst e
      show (a0.add k).block ≠ g
      have e : (a0.add k).block = a0.block := by unfold Addr.add; split <;> rfl
      rw [e]
      exact h a0 rfl
/-- One of a ring is dropped. -/
theorem drop_at {S : St} (hl : S.slots.length = 32) {L : List Nat} (h : Ring S.lk L) {k x : Nat} (hx : L[k]? = some x) :
    ∃ S2, S.dropR (lsI (-1) L) x = (.tuple #[.int .i64 (lsI (-1) (L.eraseIdx k)), .nilIface], S2) ∧ Ring S2.lk (L.eraseIdx k) ∧ Moved 3 L S S2 := by
  have hk := (List.getElem?_eq_some_iff.1 hx).1
  have e : L[k] = x := (List.getElem?_eq_some_iff.1 hx).2
  have e1 : L = L.take k ++ x :: L.drop (k + 1) := by rw [← e, ← List.drop_eq_getElem_cons hk, List.take_append_drop]
  have e2 : L.eraseIdx k = L.take k ++ L.drop (k + 1) := List.eraseIdx_eq_take_drop_succ ..
  rw [e2]
  have hR := h
  rw [e1] at hR
  obtain ⟨S2, h1, h2, _, h4⟩ := drop_ring hl hR
  rw [← e1] at h1 h4
  exact ⟨S2, h1, h2, h4⟩
theorem own_some {w : World} {base n : Nat} {v : Value} {L : List Nat} (h : w.ownsRow base 3 1 v n (intVs (natInts L))) (hn : 0 < n) : ∃ gb cp, v = .slice (some ⟨gb, 0, none⟩) n cp ∧ base ≤ gb ∧ n ≤ cp ∧ cp ≤ maxLen ∧ (∀ i, i < cp → (w.cell? ⟨gb, i, none⟩).isSome = true ∧ w.frozen? ⟨gb, i, none⟩ = false) ∧ (∀ (i x : Nat), L[i]? = some x → w.cell? ⟨gb, i, none⟩ = some (.int .i64 (x : Int))) := by
  rcases h.2 with ⟨_, e⟩ | ⟨g, cap, cur, e, hb, hg, h1, h2, h3, h4⟩
  · omega
  · subst e
    have hB : Blk w g 3 cur := ⟨hg⟩
    refine ⟨g, cap, rfl, hb, h1, h2, fun i hi => ⟨?_, hB.frozen i⟩, fun i x hx => ?_⟩
    · rw [hB.cell i, Array.getElem?_eq_getElem (by omega)]; rfl
    · have := h.cells rfl i (.int .i64 (x : Int)) (by simp [intVs, natInts, hx])
      rwa [Addr.add_lit, Nat.zero_add] at this
set_option maxHeartbeats 8000000 in
theorem ringSpliced_any (P0 P1 : Option Addr) (cap cap1 : Nat) (l m : List Int) (cut : Int) (w : World) (hin : IntsAt w P0 l) (hlen : l.length * 8 ≤ 140737488351232) (hin1 : IntsAt w P1 m) (hlen1 : m.length * 8 ≤ 140737488351232) :
    Calls Tryd.prog 57 #[.slice P0 l.length cap, .slice P1 m.length cap1, .int .i64 cut] w (RetB (.bool true) w) := by
  obtain ⟨ii, iz, hi, hz0, hz1, hz2, hz3⟩ := intInfo
  have HI := Lib.hid hin
  have HM := Lib.hid hin1
  clear hin hin1
  go_enter Tryd.func57, Tryd.ntmps57
  go_wp2_with (go_at_call 7; fail)
  refine (new_st w).mono ?_
  rintro e w1 ⟨g, rfl, hg, h1, b1⟩
  have B1 := Lib.hid b1
  have K1 := Lib.hid h1
  have hs1 := b1.size
  have hg1 := h1.lt
  clear b1 h1
  go_wp2_with (go_at_call 70; fail)
  refine (row_any P0 cap l w1 (HI.out.below B1.out (Nat.le_refl _)) hlen).mono ?_
  have hrow := rowL_row l
  have HROW := Lib.hid hrow
  obtain ⟨L, hL⟩ : ∃ L, rowL l = L := ⟨_, rfl⟩
  rw [hL] at HROW ⊢
  clear hrow hL
  rintro e w2 ⟨v, rfl, hown, b2⟩
  have HR2 := Lib.hid hown
  obtain ⟨A2, c2, rfl, hnc, hin2⟩ := owns_intsCap hown
  have hfr2 : ∀ a, A2 = some a → w1.heap.size ≤ a.block ∧ a.block < w2.heap.size := by
    obtain ⟨A', c', e', _, hf⟩ := owns_intsFrom hown
    cases e'
    exact hf
  rw [natInts_len] at hnc ⊢
  rw [natInts_len] at HR2
  have hs2 := b2.size
  have HI2 := Lib.hid hin2
  have B2 := Lib.hid (B1.out.trans (b2.mono hs1))
  have K2 := Lib.hid (K1.out.below b2 hg1)
  have hne2 : ∀ a, A2 = some a → a.block ≠ g := fun a e => by have := hfr2 a e; omega
  have HN := Lib.hid hne2
  have hll := HROW.out.len
  obtain ⟨k, hk⟩ : ∃ k, pickN cut (L.length + 1) = k := ⟨_, rfl⟩
  have hkl : k < L.length + 1 := by rw [← hk]; exact pickN_lt _ _ (by omega)
  have HP := Lib.hid (fun w => show Calls Tryd.prog 9 #[.int .i64 cut, .int .i64 ((L.length : Int) + 1)] w (RetSame (.int .i64 (k : Int)) w) from by
    have h := pick_any cut (L.length + 1) (by omega) (by omega) w
    rwa [pickN_eq cut _ (by omega), hk, Int.natCast_add] at h)
  have hk0 : (0 : Int) ≤ (k : Int) := by omega
  have hk1 : (k : Int) ≤ (L.length : Int) := by omega
  have hk2 : (k : Int) ≤ (c2 : Int) := by omega
  clear hown hin2 hfr2 b2 hne2 K1 B1 hk
  go_wp2_with (first | (go_at_call 9; refine (HP.out _).mono ?_; rintro e w' ⟨rfl, rfl⟩) | (go_at_call 52; fail))
  have hLt : (L.take k).length = k := by rw [List.length_take]; omega
  have hLd : (L.drop k).length = L.length - k := List.length_drop
  have hnt : natInts (L.take k) = (natInts L).take k := by simp [natInts, List.map_take]
  have hnd : natInts (L.drop k) = (natInts L).drop k := by simp [natInts, List.map_drop]
  have HND := Lib.hid hnd
  have HLD := Lib.hid hLd
  have hl1 := laid_any A2 c2 (L.take k) g w2 K2.out (HROW.out.take k) (by rw [hnt]; exact HI2.out.take k) HN.out (by decide) (by decide)
  rw [hLt] at hl1
  refine hl1.mono ?_
  rintro e w3 ⟨rfl, S1, hA3, hR3, hM3⟩
  have A3 := Lib.hid hA3
  have R3 := Lib.hid hR3
  have M3 := Lib.hid hM3
  have B3 := Lib.hid (B2.out.grown hA3.grown B2.out.size (fun k e => by cases e; exact hg))
  have HI3 := Lib.hid (HI2.out.keep HN.out hA3.grown)
  have HR3 := Lib.hid (owns_keep HR2.out HN.out hA3.grown)
  have hs3 := hA3.grown.size
  have hw1 : 0 ≤ S1.writes ∧ S1.writes ≤ 3 * (k : Int) := ⟨hM3.lo, by have := hM3.hi; simp [St.new, hLt] at this; omega⟩
  have HW1 := Lib.hid hw1
  clear hA3 hR3 hM3 B2 K2 HI2 HR2 hl1 hLt hLd hnt hnd hw1
  obtain ⟨one, hone⟩ : ∃ one, lsI (-1) (L.take k) = one := ⟨_, rfl⟩
  have HONE := Lib.hid hone
  rw [hone]
  clear hone
  obtain ⟨AD, hAD⟩ : ∃ AD, (if c2 = k then A2 else A2.map (fun x => x.add k)) = AD := ⟨_, rfl⟩
  have HID := Lib.hid (show IntsAt w3 AD (natInts (L.drop k)) from by rw [HND.out, ← hAD]; exact HI3.out.drop c2 k (by rw [natInts_len]; exact hnc))
  have HND2 := Lib.hid (show ∀ a, AD = some a → a.block ≠ g from by rw [← hAD]; exact drop_ne HN.out)
  go_wp2_with (go_at_call 52; fail)
  clear hAD
  have hl2 := laid_any AD (c2 - k) (L.drop k) g w3 A3.out.ar (HROW.out.drop k) HID.out HND2.out HW1.out.1 (by have := HW1.out.2; omega)
  rw [HLD.out] at hl2
  refine Calls.mono (Lib.hid hl2).out ?_
  rintro e w4 ⟨rfl, S2, hA4, hR4, hM4⟩
  have hdj : ∀ x ∈ L.take k, x ∉ L.drop k := by
    have hd := HROW.out.nodup
    rw [← List.take_append_drop k L, List.nodup_append] at hd
    exact fun x hx hx2 => hd.2.2 x hx x hx2 rfl
  have hR4' : Ring S2.lk (L.take k) := R3.out.congr fun x hx => hM4.lk x (hdj x hx)
  have hsl : S2.slots.length = 32 := hA4.ar.len
  obtain ⟨S3, hsp, hR5, hM5⟩ := splice_ring hsl hR4' hR4 hdj
  rw [List.take_append_drop, HONE.out] at hsp
  rw [List.take_append_drop] at hR5
  have hw2 : 0 ≤ S2.writes ∧ S2.writes ≤ 96 := ⟨by have := hM4.lo; have := HW1.out.1; omega, by have h1 := hM4.hi; have h2 := HW1.out.2; omega⟩
  have hw3 : 0 ≤ S3.writes ∧ S3.writes ≤ 100 := ⟨by have := hM5.lo; omega, by have := hM5.hi; omega⟩
  have A4 := Lib.hid hA4
  have R5 := Lib.hid hR5
  have HW2 := Lib.hid hw2
  have HW3 := Lib.hid hw3
  have B4 := Lib.hid (B3.out.grown hA4.grown B3.out.size (fun k e => by cases e; exact hg))
  have HR4 := Lib.hid (owns_keep HR3.out HN.out hA4.grown)
  have hs4 := hA4.grown.size
  obtain ⟨two, htwo⟩ : ∃ two, lsI (-1) (L.drop k) = two := ⟨_, rfl⟩
  rw [htwo] at hsp ⊢
  have HSP := Lib.hid hsp
  clear hdj hR4' hsl hM4 hR4 hA4 hl2 hsp hR5 hM5 hw2 hw3 htwo R3 M3 A3 B3 HR3 HI3 HND HLD HID HND2 HW1 HP
  go_wp2_with (go_at_call 54; fail)
  refine (rworks_any w4).mono ?_
  rintro e w5 ⟨rfl, b5⟩
  have A5 := Lib.hid (A4.out.ar.below b5 A4.out.ar.lt)
  have B5 := Lib.hid (B4.out.trans (b5.mono B4.out.size))
  have HR5 := Lib.hid (owns_callS HR4.out b5)
  have hs5 := b5.size
  clear b5 A4 B4 HR4
  go_wp2_with (go_at_call 47; fail)
  have hS := splice_any one two g w5 A5.out HW2.out.1 (by have := HW2.out.2; omega)
  rw [HSP.out] at hS
  refine Calls.mono (Lib.hid hS).out ?_
  rintro e w6 ⟨rfl, hA6⟩
  have A6 := Lib.hid hA6.ar
  have B6 := Lib.hid (B5.out.grown hA6.grown B5.out.size (fun k e => by cases e; exact hg))
  have HR6 := Lib.hid (owns_keep HR5.out HN.out hA6.grown)
  have hs6 := hA6.grown.size
  obtain ⟨nn, hnn⟩ : ∃ nn, lsI (-1) L = nn := ⟨_, rfl⟩
  have HNN := Lib.hid hnn
  have hnb : (nn == (-1)) = ((L.length : Int) == 0) := by
    rw [← hnn]
    cases L with
    | nil => rfl
    | cons e0 E0 =>
      obtain ⟨y, hy, _⟩ := lsI_mem (p := -1) (A := e0 :: E0) (by simp)
      rw [hy]
      have h1 : ((y : Int) == -1) = false := beq_eq_false_iff_ne.2 (by omega)
      have h2 : (((e0 :: E0).length : Int) == 0) = false := beq_eq_false_iff_ne.2 (by simp; omega)
      rw [h1, h2]
  obtain ⟨bb, hbb⟩ : ∃ bb, ((L.length : Int) == 0) = bb := ⟨_, rfl⟩
  rw [hbb] at hnb
  rw [hnn]
  clear hA6 hS A5 B5 HR5 HSP HW2 hnn
  go_wp2_with (go_at_call 17; fail)
  refine (rall_any nn 99 g w6 A6.out).mono ?_
  rw [show (S3.all nn).take (99 : Int).toNat = L from by rw [← HNN.out]; exact ring_list R5.out (by decide)]
  rintro e w7 ⟨v, rfl, hown, b7⟩
  obtain ⟨P7, c7, rfl, hin7⟩ := owns_intsAt hown
  rw [natInts_len]
  have A7 := Lib.hid (A6.out.below b7 A6.out.lt)
  have B7 := Lib.hid (B6.out.trans (b7.mono B6.out.size))
  have HR7 := Lib.hid (owns_callS HR6.out b7)
  have HI7 := Lib.hid hin7
  have hs7 := b7.size
  clear hown hin7 b7 A6 B6 HR6
  go_wp2_with (go_at_call 14; fail)
  refine (sameI_eq P7 A2 c7 c2 L.length (natInts L) (natInts_len L) (by omega) _ HI7.out (owns_atS HR7.out)).mono ?_
  rintro e w8 ⟨rfl, b8⟩
  have A8 := Lib.hid (A7.out.below b8 A7.out.lt)
  have B8 := Lib.hid (B7.out.trans (b8.mono B7.out.size))
  have HR8 := Lib.hid (owns_callS HR7.out b8)
  have hs8 := b8.size
  have hg8 : g < w1.heap.size := hg1
  clear b8 A7 B7 HR7 HI7 HI HN
  go_wp2
  have hsz8 : w1.heap.size ≤ w8.heap.size := by omega
  clear hk0 hk1 hk2 hkl hnb hbb hs4 hs5 hs6 hs7
  go_loopw [8, 14, 16, 17] (fun v lst n i wr => ∃ (j : Nat) (L' : List Nat) (S' : St), j ≤ m.length ∧ i = .int .i64 j ∧ n = .int .i64 L'.length ∧ lst = .int .i64 (lsI (-1) L') ∧ L'.length ≤ 32 ∧ IsAr wr g S' ∧ Ring S'.lk L' ∧ wr.ownsRow w1.heap.size 3 1 v L'.length (intVs (natInts L')) ∧ 0 ≤ S'.writes ∧ S'.writes + 3 * L'.length ≤ 300 ∧ Below w.heap.size w wr ∧ w1.heap.size ≤ wr.heap.size) (fun _ _ _ i _ => m.length - (intOf i).toNat)
  case atStart => exact ⟨0, L, S3, Nat.zero_le _, rfl, rfl, by rw [HNN.out], hll, A8.out, R5.out, HR8.out, HW3.out.1, by have := HW3.out.2; omega, B8.out, hsz8⟩
  case round =>
    obtain ⟨j, L', S', hj, rfl, rfl, rfl, hl32, hA, hR, hown, hw0, hw1, hbel, hszr⟩ := hrel
    have HA := Lib.hid hA
    have HR := Lib.hid hR
    have HO := Lib.hid hown
    have HW := Lib.hid (And.intro hw0 hw1)
    have HB := Lib.hid hbel
    clear A8 B8 HR8 HW3 R5 HNN HONE hs8 hsz8
    by_cases hlt : j < m.length
    · have hlt1 : (j : Int) < (m.length : Int) := by omega
      by_cases hn0 : 0 < L'.length
      · have hn1 : (0 : Int) < (L'.length : Int) := by omega
        obtain ⟨gb, cp, rfl, hgb, hncp, hmax, hspare, hcellL⟩ := own_some hown hn0
        obtain ⟨bm, om, rfl, hbm, hcm⟩ := (HM.out.below hbel (Nat.le_refl _)) (by omega)
        obtain ⟨y, hy⟩ : ∃ y, m[j]? = some y := ⟨_, List.getElem?_eq_getElem hlt⟩
        have hcy := hcm j y hy
        obtain ⟨at_, hat⟩ : ∃ k, pickN y L'.length = k := ⟨_, rfl⟩
        have hatl : at_ < L'.length := by rw [← hat]; exact pickN_lt _ _ hn0
        have HP := Lib.hid (fun w => show Calls Tryd.prog 9 #[.int .i64 y, .int .i64 (L'.length : Int)] w (RetSame (.int .i64 (at_ : Int)) w) from by
          have h := pick_any y L'.length hn0 (by omega) w
          rwa [pickN_eq y _ hn0, hat] at h)
        obtain ⟨x, hx⟩ : ∃ x, L'[at_]? = some x := ⟨_, List.getElem?_eq_getElem hatl⟩
        have hcx := hcellL at_ x hx
        obtain ⟨S2, d1, d2, d3⟩ := drop_at hA.len hR hx
        have hD := drop_any (lsI (-1) L') x g wr hA hw0 (by omega)
        rw [d1] at hD
        have HD := Lib.hid hD
        have D2 := Lib.hid d2
        have hEl : (L'.eraseIdx at_).length = L'.length - 1 := by rw [List.length_eraseIdx_of_lt hatl]
        have HEL := Lib.hid hEl
        have HW2 := Lib.hid (show 0 ≤ S2.writes ∧ S2.writes + 3 * ((L'.length : Int) - 1) ≤ 300 from ⟨by have := d3.lo; omega, by have := d3.hi; omega⟩)
        obtain ⟨lst, hlst⟩ : ∃ lst, lsI (-1) L' = lst := ⟨_, rfl⟩
        rw [hlst] at HD ⊢
        have HLT := Lib.hid hlt
        have ha0 : (0 : Int) ≤ (at_ : Int) := by omega
        have ha1 : (at_ : Int) < (L'.length : Int) := by omega
        clear hcm hy hbm hat hx d1 d2 d3 hD hEl hlst hlt hA hR hown hbel hcellL hspare HM
        go_wp2_with (first | (go_at_call 9; refine (HP.out _).mono ?_; rintro e w' ⟨rfl, rfl⟩) | (go_at_call 45; fail))
        refine HD.out.mono ?_
        rintro e w9 ⟨rfl, hA9⟩
        have hgg : gb ≠ g := by omega
        have hown9 : w9.ownsRow w1.heap.size 3 1 (.slice (some ⟨gb, 0, none⟩) L'.length cp) L'.length (intVs (natInts L')) := owns_keep HO.out (fun a e => by cases e; exact hgg) hA9.grown
        have hown9d := owns_callS hown9 (Below.refl w9.heap.size w9).drew
        obtain ⟨gb', cp', e9, _, _, _, hsp9, hce9⟩ := own_some hown9d hn0
        cases e9
        obtain ⟨AD, hAD, hnews⟩ : ∃ A : Addr, (if cp = at_ + 1 then some (⟨gb, 0, none⟩ : Addr) else some ⟨gb, at_ + 1, none⟩) = some A ∧ Hid (∀ j u, (movedN L' at_)[j]? = some u → w9.drew.cell? (A.add j) = some u) := by
          by_cases h : cp = at_ + 1
          · refine ⟨⟨gb, 0, none⟩, by simp [h], Lib.hid fun j u hu => ?_⟩
            have h0 : (movedN L' at_).length = 0 := by rw [movedN_len]; omega
            rw [List.length_eq_zero_iff.1 h0] at hu
            simp at hu
          · refine ⟨⟨gb, at_ + 1, none⟩, by simp [h], Lib.hid fun j u hu => ?_⟩
            have hu2 : ∃ z, L'[at_ + 1 + j]? = some z ∧ u = .int .i64 (z : Int) := by
              simp only [movedN, intVs, natInts, List.getElem?_map, List.getElem?_drop, Option.map_eq_some_iff] at hu
              obtain ⟨a, ⟨z, hz, rfl⟩, rfl⟩ := hu
              exact ⟨z, hz, rfl⟩
            obtain ⟨z, hz, rfl⟩ := hu2
            rw [Addr.add_lit]
            exact hce9 _ _ hz
        have s1 := Lib.hid (show (movedN L' at_).length = (L'.length - (at_ + 1)) * 1 by rw [Nat.mul_one]; exact movedN_len ..)
        have s2 := Lib.hid (show ∀ u ∈ movedN L' at_, u.oneCell' = true by
          intro u hu
          simp only [movedN, intVs, List.mem_map] at hu
          obtain ⟨z, _, rfl⟩ := hu
          rfl)
        have s3 := Lib.hid (show ∀ j, j < (movedN L' at_).length → (w9.drew.cell? ⟨gb, 0 + at_ * 1 + j, none⟩).isSome = true ∧ w9.drew.frozen? ⟨gb, 0 + at_ * 1 + j, none⟩ = false by
          intro j hj
          rw [movedN_len] at hj
          rw [Nat.mul_one, Nat.zero_add]
          exact hsp9 _ (by omega))
        have hdel := own_del hown9d hatl rfl
        have HDEL := Lib.hid hdel
        have A9 := Lib.hid hA9.ar
        have B9 := Lib.hid (HB.out.grown hA9.grown HB.out.size (fun k e => by cases e; exact hg))
        have hs9 := hA9.grown.size
        have hwr : IntKind.i64.wrap ((at_ : Int) + 1) = (at_ : Int) + 1 := by rw [IntKind.wrap_i64]; omega
        have hp0 : (0 : Int) ≤ (at_ : Int) + 1 := by omega
        have hp1 : (at_ : Int) + 1 ≤ (L'.length : Int) := by omega
        have hp2 : ((at_ : Int) + 1).toNat = at_ + 1 := by omega
        have hac : (at_ : Int) ≤ (cp : Int) := by omega
        have hac2 : at_ ≤ cp := by omega
        clear hsp9 hce9 hown9 hown9d hA9 HD HP HO HA HB hdel hcx hcy
        go_wp2
        go_region_law (refine step_append_room rfl (.tmp 113) (.tmp 117) 44 rfl 3 ii 1 Tryd.underlying44 hi hz1 gb 0 at_ cp (by simp [Act.eval, Act.put]) AD (L'.length - (at_ + 1)) (cp - (at_ + 1)) (movedN L' at_) (by simp [Act.eval, Act.put]) s1.out hnews.out s2.out (by omega) s3.out ?_)
        obtain ⟨W10, hW10⟩ : ∃ W, w9.drew.setCells gb at_ (movedN L' at_) = W := ⟨_, rfl⟩
        have hg10 : w9.drew.grownBy W10 (some gb) := by rw [← hW10]; exact grown_setCells gb _ _ _
        have hO10 : W10.ownsRow w1.heap.size 3 1 (.slice (some ⟨gb, 0, none⟩) (L'.length - 1) cp) (L'.length - 1) (intVs (natInts (L'.eraseIdx at_))) := by rw [← hW10]; exact HDEL.out
        rw [hW10]
        have eL : at_ + (L'.length - (at_ + 1)) = L'.length - 1 := by omega
        rw [eL]
        obtain ⟨E, hE⟩ : ∃ E, L'.eraseIdx at_ = E := ⟨_, rfl⟩
        have hEl := HEL.out
        rw [hE] at hO10 D2 hEl
        obtain ⟨n1, hn1e⟩ : ∃ n1, L'.length - 1 = n1 := ⟨_, rfl⟩
        rw [hn1e] at hO10 hEl ⊢
        rw [hE]
        have hnn1 : ((L'.length : Int) - 1) = (n1 : Int) := by omega
        have hwn : IntKind.i64.wrap ((L'.length : Int) - 1) = (n1 : Int) := by rw [IntKind.wrap_i64]; omega
        have A10 := Lib.hid (A9.out.block (hg10.block g (by have := A9.out.lt; show g < w9.heap.size; exact this) (fun e => hgg (by simpa using e.symm))))
        have B10 := Lib.hid ((B9.out.trans ((Below.refl w9.heap.size w9).drew.mono B9.out.size)).grown hg10 (by have := B9.out.size; exact this) (fun k e => by cases e; omega))
        have O10 := Lib.hid hO10
        have hs10 := hg10.size
        have hs10' : w1.heap.size ≤ W10.heap.size := by have h1 : w9.heap.size ≤ W10.heap.size := hs10; omega
        have HE := Lib.hid hEl
        have H32 := Lib.hid (show E.length ≤ 32 by omega)
        have HWn := Lib.hid (show 0 ≤ S2.writes ∧ S2.writes + 3 * (E.length : Int) ≤ 300 from ⟨HW2.out.1, by have := HW2.out.2; omega⟩)
        obtain ⟨lst2, hlst2⟩ : ∃ lst, lsI (-1) E = lst := ⟨_, rfl⟩
        have HL2 := Lib.hid hlst2
        rw [hlst2]
        clear hW10 hg10 hO10 hE hEl hs10 A9 B9 HDEL s1 s2 s3 hnews hAD hlst2 eL HW2 HEL hn1e hp0 hp1 hp2 hwr hac hac2 ha0 ha1
        go_wp2_with (go_at_call 17; fail)
        refine (rall_any lst2 99 g W10 A10.out).mono ?_
        rw [show (S2.all lst2).take (99 : Int).toNat = E from by rw [← HL2.out]; exact ring_list D2.out (by decide)]
        rintro e w11 ⟨v, rfl, hown, b11⟩
        obtain ⟨P11, c11, rfl, hin11⟩ := owns_intsAt hown
        rw [natInts_len, HE.out]
        have A11 := Lib.hid (A10.out.below b11 A10.out.lt)
        have B11 := Lib.hid (B10.out.trans (b11.mono B10.out.size))
        have O11 := Lib.hid (owns_callS O10.out b11)
        have HI11 := Lib.hid hin11
        have hs11 := b11.size
        clear hown hin11 b11 A10 B10 O10
        go_wp2_with (go_at_call 14; fail)
        refine (sameI_eq P11 (some ⟨gb, 0, none⟩) c11 cp n1 (natInts E) (by rw [natInts_len]; exact HE.out) (by have := HE.out; have := H32.out; omega) _ HI11.out (owns_atS O11.out)).mono ?_
        rintro e w12 ⟨rfl, b12⟩
        have A12 := Lib.hid (A11.out.below b12 A11.out.lt)
        have B12 := Lib.hid (B11.out.trans (b12.mono B11.out.size))
        have O12 := Lib.hid (owns_callS O11.out b12)
        have hs12 := b12.size
        have hs12' : w1.heap.size ≤ w12.heap.size := by omega
        clear b12 A11 B11 O11 HI11
        go_wp2
        go_roundw
        case rel => exact ⟨j + 1, E, S2, by have := HLT.out; omega, by have := HLT.out; go_num, by rw [HE.out], by rw [HL2.out], H32.out, A12.out, D2.out, by rw [HE.out]; exact O12.out, HWn.out.1, HWn.out.2, B12.out, hs12'⟩
        case measure => have := HLT.out; simp [intOf]; omega
      · have hn1 : ¬ (0 : Int) < (L'.length : Int) := by omega
        go_wp2
        go_ret
        exact ⟨rfl, HB.out⟩
    · have hlt1 : ¬ (j : Int) < (m.length : Int) := by omega
      go_wp2
      go_ret
      exact ⟨rfl, HB.out⟩
theorem ringSpliced_rows (A : Option Addr) (cap : Nat) (l : List Int) (B : Option Addr) (cap1 : Nat) (m : List Int) (cut : Int) (w : World) (h : 0 < l.length → ∃ b off, A = some ⟨b, off, none⟩ ∧ b < w.heap.size ∧ ∀ k y, l[k]? = some y → RowAt w b (off + k * 1) (i64c y)) (hlen : l.length * 8 ≤ 140737488351232)
    (h1 : 0 < m.length → ∃ b off, B = some ⟨b, off, none⟩ ∧ b < w.heap.size ∧ ∀ k y, m[k]? = some y → RowAt w b (off + k * 1) (i64c y)) (hlen1 : m.length * 8 ≤ 140737488351232) :
    Calls Tryd.prog 57 #[.slice A l.length cap, .slice B m.length cap1, .int .i64 cut] w (RetB (.bool true) w) :=
  ringSpliced_any A B cap cap1 l m cut w (intsAt_rows h) hlen (intsAt_rows h1) hlen1
end Go.Proofs.YtdgdbcapojgnlaaDoor
/-
  lineagelaw16.knownSmall.
-/
namespace Go.Proofs.YtdgdbcapojgnlaaDoor
set_option maxRecDepth 100000
open Go.RowKit Go.Shelf
attribute [local go_sem] Oper.semAt_some

def fives (n : Nat) : List Int := (List.range n).map fun (i : Nat) => (i : Int) * 5
theorem fives_len (n : Nat) : (fives n).length = n := by simp [fives]
theorem fives_succ (n : Nat) : fives (n + 1) = fives n ++ [(n : Int) * 5] := by simp [fives, List.range_succ]
theorem int_four (a b c d : Int) : ∀ u ∈ (#[Value.int .i64 a, .int .i64 b, .int .i64 c, .int .i64 d] : Array Value).toList, u.oneCell' = true := by
  intro u hu; simp at hu; rcases hu with rfl | rfl | rfl | rfl <;> rfl
set_option maxHeartbeats 8000000 in
theorem knownSmall16_any (w : World) : Calls Tryd.prog 22 #[] w (RetB (.bool true) w) := by
  obtain ⟨ii, iz, hi0, hz0, hz1, hz2, hz3⟩ := intInfo
  go_enter Tryd.func22, Tryd.ntmps22
  go_wp2
  go_loopw [1] (fun i wr => ∃ n : Nat, n ≤ 33 ∧ i = .int .i64 n ∧ Below w.heap.size w wr) (fun i _ => 33 - (intOf i).toNat)
  case atStart => exact ⟨0, by omega, rfl, Below.refl _ _⟩
  case round =>
    obtain ⟨n, hn, rfl, hb⟩ := hrel
    have HB := Lib.hid hb
    clear hb
    by_cases hlt : n ≤ 32
    · have hni : (n : Int) ≤ 32 := by omega
      go_wp2
      go_loopw [2, 3] (fun v i wr' => ∃ k : Nat, k ≤ n ∧ i = .int .i64 k ∧ wr'.ownsRow w.heap.size 3 1 v k (intVs (fives k)) ∧ Below w.heap.size w wr') (fun _ i _ => n - (intOf i).toNat)
      case atStart => exact ⟨0, by omega, rfl, World.ownsRow_nil _ _ _ _, HB.out⟩
      case round =>
        obtain ⟨k, hk, rfl, hown, hbel⟩ := hrel
        have HB2 := Lib.hid hbel
        have hs := hbel.size
        by_cases hlt2 : k < n
        · have hki : (k : Int) < (n : Int) := by omega
          obtain ⟨Ar, cp, rfl⟩ := owns_slice hown
          have HO := Lib.hid hown
          have h1 : k + 1 ≤ maxLen := by unfold maxLen; omega
          have h2 : (k + 1) * 8 ≤ 140737488355328 := by omega
          have H1 := Lib.hid h1
          have H2 := Lib.hid h2
          clear h1 h2 hown hbel
          go_wp2_with (at_builtin; refine wpList_append_one (v := .slice Ar k cp) rfl _ _ 44 rfl Tryd.underlying44 hi0 hz0 hz1 hz2 hz3 (by decide) rfl HO.out rfl rfl (int_one _) H1.out H2.out hs ?_; intro g' cap' w11 hown1 hgr1)
          have HB3 := Lib.hid (bel_grown HB2.out hgr1 HO.out (Nat.le_refl _) hs)
          have HO2 := Lib.hid hown1
          clear hgr1 hown1
          go_roundw
          case rel => exact ⟨k + 1, by omega, by go_num, by rw [fives_succ, intVs_app]; exact HO2.out, HB3.out⟩
          case measure => simp [intOf] <;> omega
        · obtain rfl : k = n := by omega
          obtain ⟨A, cp, rfl, hI⟩ := owns_intsAt hown
          have HI := Lib.hid hI
          have hlen := fives_len k
          have HFL := Lib.hid hlen
          clear hown hI hbel hlen
          obtain ⟨W0, hW0⟩ : ∃ W0, W0 = wr := ⟨_, rfl⟩
          subst hW0
          go_wp2
          go_loopw [4] (fun i wr' => ∃ m : Nat, m ≤ k + 1 ∧ i = .int .i64 m ∧ Below W0.heap.size W0 wr') (fun i _ => k + 1 - (intOf i).toNat)
          case atStart => exact ⟨0, by omega, rfl, Below.refl _ _⟩
          case round =>
            obtain ⟨m, hm, rfl, hb0⟩ := hrel
            have hs0 := hb0.size
            have HB0 := Lib.hid hb0
            clear hb0
            by_cases hlt3 : m ≤ k
            · have hmi : (m : Int) ≤ (k : Int) := by omega
              have hsz8 : k * 8 ≤ 140737488351232 := by omega
              have HR1 := ringRow_any A cp (fives k) wr (HI.out.below HB0.out (Nat.le_refl _)) (by rw [fives_len]; exact hsz8)
              rw [HFL.out] at HR1
              have R1 := Lib.hid HR1
              clear HR1
              go_wp2_with (go_at_call 55; fail)
              refine R1.out.mono ?_
              rintro e w1 ⟨rfl, hb1⟩
              have HB1 := Lib.hid (HB0.out.trans (hb1.mono hs0))
              have HR2 := ringDropped_any A cp (fives k) m w1 (HI.out.below HB1.out (Nat.le_refl _)) (by rw [fives_len]; exact hsz8)
              rw [HFL.out] at HR2
              have R2 := Lib.hid HR2
              clear hb1 HR2 R1
              go_wp2_with (go_at_call 56; fail)
              refine R2.out.mono ?_
              rintro e w2 ⟨rfl, hb2⟩
              have hs1 := HB1.out.size
              have hs2 := hb2.size
              have HB2' := Lib.hid (HB1.out.trans (hb2.mono hs1))
              clear hb2 R2
              obtain ⟨V, hV⟩ : ∃ V, w2.alloc (.cells #[.int .i64 m, .int .i64 (3 * (m : Int)), .int .i64 0, .int .i64 1] 3) = V := ⟨_, rfl⟩
              have hbV : Below W0.heap.size W0 V := by rw [← hV]; exact HB2'.out.alloc HB2'.out.size _
              have hVs : w2.heap.size < V.heap.size := by rw [← hV]; simp
              have hin : IntsAt V (some ⟨w2.heap.size, 0, none⟩) [(m : Int), 3 * (m : Int), 0, 1] := fun _ => ⟨w2.heap.size, 0, rfl, hVs, fun j i hj => by
                have hB : Blk V w2.heap.size 3 #[.int .i64 m, .int .i64 (3 * (m : Int)), .int .i64 0, .int .i64 1] := by rw [← hV]; exact Blk.new _ _ _
                rw [Nat.zero_add, hB.cell]
                match j, hj with
                | 0, hj => simp at hj; subst hj; rfl
                | 1, hj => simp at hj; subst hj; rfl
                | 2, hj => simp at hj; subst hj; rfl
                | 3, hj => simp at hj; subst hj; rfl
                | j + 4, hj => simp at hj⟩
              have HR3 := ringSpliced_any A (some ⟨w2.heap.size, 0, none⟩) cp 4 (fives k) [(m : Int), 3 * (m : Int), 0, 1] m V (HI.out.below hbV (Nat.le_refl _)) (by rw [fives_len]; exact hsz8) hin (by simp)
              rw [HFL.out] at HR3
              have R3 := Lib.hid HR3
              have HV := Lib.hid hV
              have HBV := Lib.hid hbV
              clear HR3 hin hV hbV
              go_wp2_with (go_at_call 57; fail)
              rw [HV.out]
              refine R3.out.mono ?_
              rintro e w3 ⟨rfl, hb3⟩
              have HB3 := Lib.hid (HBV.out.trans (hb3.mono HBV.out.size))
              clear hb3 R3
              go_wp2
              go_roundw
              case rel => exact ⟨m + 1, by omega, by go_num, HB3.out⟩
              case measure => simp [intOf] <;> omega
            · obtain rfl : m = k + 1 := by omega
              have HBE := Lib.hid (HB2.out.trans (HB0.out.mono hs))
              go_wp2
              go_roundw
              case rel => exact ⟨k + 1, by omega, by go_num, HBE.out⟩
              case measure => simp [intOf] <;> omega
    · obtain rfl : n = 33 := by omega
      go_wp2
      go_ret
      exact ⟨rfl, HB.out⟩
end Go.Proofs.YtdgdbcapojgnlaaDoor
