/-
  lineagelaw16.RingDropped: the whole walk.
-/
import Derived.Test.YtdgdbcapojgnlaaRgHelp3
import Derived.Test.YtdgdbcapojgnlaaIntArg
import Derived.Deep.AppendLies
import Derived.Deep.RegionHeld3
namespace Go.Proofs.Ytdgdbcapojgnlaa
set_option maxRecDepth 100000
open Go.RowKit Go.Shelf
attribute [local go_sem] Oper.semAt_some

/-- An append at a step of a region that draws its order, under a guard. -/
theorem step_append_wanted {P : Program} {w : World} {ops : Array Oper} {o : Oper} {a : Act} {K : Act → World → Prop} {Q : Exit → Act → World → Prop} {E : Prop} (hw : Region.wanted o (yielded ops a.tmps) = true) (s x : Operand) (t : TypeId)
    (ho : o.op = .call { callee := .builtin .append, args := #[s, x], argTypes := #[t, t] })
    (base : Nat) (e : TypeId) (i : TypeInfo) (z : Value) (size bytes : Nat) (ht : P.underlying t = some (.slice e)) (hi : P.info? e = some i) (hz : i.zero = some z)
    (hsize : i.size = size) (hby : i.bytes = bytes) (hzs : z.cells.size = size) (hsz : 0 < size)
    (v : Value) (n : Nat) (xs : List Value) (hs : a.eval s = v) (hown : w.ownsRow base e size v n xs)
    (ad : Addr) (m c : Nat) (news : List Value) (hx : a.eval x = .slice (some ad) m c) (hl : news.length = m * size) (hnews : ∀ j u, news[j]? = some u → w.cell? (ad.add j) = some u) (h1 : ∀ u ∈ news, u.oneCell' = true)
    (hm : 0 < m) (h63 : n + m ≤ maxLen) (hbytes : (n + m) * bytes ≤ 140737488355328) (hbase : base ≤ w.heap.size)
    (h : ∀ g cap w', w'.ownsRow base e size (.slice (some ⟨g, 0, none⟩) (n + m) cap) (n + m) (xs ++ news) → w.grownBy w' v.ownBlock → K (a.put o.dst (.slice (some ⟨g, 0, none⟩) (n + m) cap)) w') :
    if Region.wanted o (yielded ops a.tmps) = true then Oper.wp P o a w K Q else E := by
  rw [if_pos hw]
  exact wp_append_lies w s x t ho base e i z size bytes ht hi hz hsize hby hzs hsz v n xs hs hown ad m c news hx hl hnews h1 hm h63 hbytes hbase _ rfl (fun g cap w' h2 h3 _ _ => h g cap w' h2 h3)
theorem erase_step {L : List Nat} {j k x : Nat} (hx : L[j]? = some x) : (L.take (j + 1)).eraseIdx k = if j = k then (L.take j).eraseIdx k else (L.take j).eraseIdx k ++ [x] := by
  have hj := (List.getElem?_eq_some_iff.1 hx).1
  have hl : (L.take j).length = j := by rw [List.length_take]; omega
  rw [List.take_add_one, hx]
  show (L.take j ++ [x]).eraseIdx k = _
  by_cases h : j = k
  · rw [if_pos h, List.eraseIdx_append_of_length_le (by omega), hl, h]
    have e : (L.take k).eraseIdx k = L.take k := List.eraseIdx_of_length_le (by rw [← h, hl]; omega)
    simp [e]
  · rw [if_neg h]
    by_cases h2 : k < j
    · rw [List.eraseIdx_append_of_lt_length (by omega)]
    · rw [List.eraseIdx_append_of_length_le (by omega), hl]
      have e : (L.take j).eraseIdx k = L.take j := List.eraseIdx_of_length_le (by rw [hl]; omega)
      rw [e]
      congr 1
      rw [show k - j = (k - j - 1) + 1 by omega]
      rfl
theorem split_at {L : List Nat} {k x : Nat} (hx : L[k]? = some x) : L = L.take k ++ x :: L.drop (k + 1) ∧ L.eraseIdx k = L.take k ++ L.drop (k + 1) := by
  have hk := (List.getElem?_eq_some_iff.1 hx).1
  have e : L[k] = x := (List.getElem?_eq_some_iff.1 hx).2
  refine ⟨?_, List.eraseIdx_eq_take_drop_succ ..⟩
  rw [← e, ← List.drop_eq_getElem_cons hk, List.take_append_drop]
/-- The pure side: a slot is dropped, and pushed again. -/
theorem dropped_law {S : St} (hl : S.slots.length = 32) {L : List Nat} (h : Ring S.lk L) {k x : Nat} (hx : L[k]? = some x) :
    ∃ S2 S3, S.dropR (lsI (-1) L) x = (.tuple #[.int .i64 (lsI (-1) (L.eraseIdx k)), .nilIface], S2) ∧ Ring S2.lk (L.eraseIdx k) ∧ S2.well x = false ∧ Moved 3 L S S2 ∧
      S2.push (lsI (-1) (L.eraseIdx k)) x = (.tuple #[.int .i64 x, .nilIface], S3) ∧ Ring S3.lk (L.eraseIdx k ++ [x]) := by
  obtain ⟨e1, e2⟩ := split_at hx
  rw [e2]
  have hx32 := h.lt x (List.mem_of_getElem? hx)
  have hR := h
  rw [e1] at hR
  obtain ⟨S2, h1, h2, h3, h4⟩ := drop_ring hl hR
  rw [← e1] at h1 h4
  have hxn : x ∉ L.take k ++ L.drop (k + 1) := by
    have hd := hR.nodup
    rw [List.nodup_append] at hd
    rw [List.mem_append]
    rintro (h5 | h5)
    · exact hd.2.2 x h5 x (by simp) rfl
    · exact (List.nodup_cons.1 hd.2.1).1 h5
  obtain ⟨S3, h5, h6, _⟩ := lay_step (h4.len.trans hl) h2 hx32 hxn
  refine ⟨S2, S3, h1, h2, ?_, h4, h5, h6⟩
  unfold St.well
  rw [h3]
  rfl
theorem owns_call {w w' : World} {base n : Nat} {e : TypeId} {size : Nat} {v : Value} {xs : List Value} (h : w.ownsRow base e size v n xs) (hb : Below w.heap.size w w') : w'.ownsRow base e size v n xs := h.kept (grownBy_below hb none) (Classical.em _)
theorem owns_at {w : World} {base n cap : Nat} {A : Option Addr} {l : List Int} (h : w.ownsRow base 3 1 (.slice A n cap) n (intVs l)) : IntsAt w A l := by
  obtain ⟨A', c', e, hin⟩ := owns_intsAt h
  cases e
  exact hin
/-- What is carried through a statement that draws its order. -/
structure Carry (w : World) (g : Nat) (S : St) (p : Addr) (x : Value) (W : World) : Prop where
  ar : IsAr W g S
  bel : Below w.heap.size w W
  cell : W.cell? p = some x
section
variable {w W W' : World} {g : Nat} {S : St} {p : Addr} {x : Value}
theorem Carry.call (h : W.cell? p = some x ∧ Carry w g S p x W) (hb : Below W.heap.size W W') : W'.cell? p = some x ∧ Carry w g S p x W' :=
  have hc := (hb.cell (p := p) (World.block_lt_of_cell? W p h.1)).trans h.1
  ⟨hc, h.2.ar.below hb h.2.ar.lt, h.2.bel.trans (hb.mono h.2.bel.size), hc⟩
theorem Carry.alloc (h : W.cell? p = some x ∧ Carry w g S p x W) (o : Obj) : (W.alloc o).cell? p = some x ∧ Carry w g S p x (W.alloc o) := Carry.call h ((Below.refl _ _).alloc (Nat.le_refl _) o)
theorem Carry.drew (h : Carry w g S p x W) : W.drew.cell? p = some x ∧ Carry w g S p x W.drew := Carry.call ⟨h.cell, h⟩ (Below.refl _ _).drew
theorem Carry.app (h : W.cell? p = some x ∧ Carry w g S p x W) {v : Value} {n : Nat} (hg : W.grownBy W' v.ownBlock) (hv : ∀ r, v.ownBlock = some r → n ≤ r) (hw : w.heap.size ≤ n) (hgn : g < n) (hpn : p.block < n) : W'.cell? p = some x ∧ Carry w g S p x W' :=
  have hc := (World.cell?_of_block (a := p) (hg.block p.block (World.block_lt_of_cell? W p h.1) (fun e => by have := hv _ e.symm; omega))).trans h.1
  ⟨hc, h.2.ar.block (hg.block g h.2.ar.lt (fun e => by have := hv _ e.symm; omega)), h.2.bel.grown hg h.2.bel.size (fun k e => by have := hv k e; omega), hc⟩
end
theorem IntsAt.app {W W' : World} {A : Option Addr} {l : List Int} {v : Value} {n m : Nat} (h : IntsAt W A l) (hf : ∀ a, A = some a → n ≤ a.block ∧ a.block < m) (hg : W.grownBy W' v.ownBlock) (hv : ∀ r, v.ownBlock = some r → r < n) : IntsAt W' A l :=
  h.kept hg.size fun a e hlt => hg.block a.block hlt (fun k => by have := hv _ k.symm; have := (hf a e).1; omega)
theorem IntsAt.own {W : World} {base g n cap : Nat} {l : List Int} (h : W.ownsRow base 3 1 (.slice (some ⟨g, 0, none⟩) n cap) n (intVs l)) : IntsAt W (some ⟨g, 0, none⟩) l := own_ints h
set_option maxHeartbeats 8000000 in
theorem ringDropped_any (P0 : Option Addr) (cap : Nat) (l : List Int) (which : Int) (w : World) (hin : IntsAt w P0 l) (hlen : l.length * 8 ≤ 140737488351232) :
    Calls Try.prog 7 #[.slice P0 l.length cap, .int .i64 which] w (RetB (.bool true) w) := by
  obtain ⟨ii, iz, hi, hz0, hz1, hz2, hz3⟩ := intInfo
  have HI := Lib.hid hin
  clear hin
  go_enter Try.func7, Try.ntmps7
  go_wp2_with (go_at_call 10; fail)
  refine (new_st w).mono ?_
  rintro e w1 ⟨g, rfl, hg, h1, b1⟩
  have B1 := Lib.hid b1
  have K1 := Lib.hid h1
  have hs1 := b1.size
  have hg1 := h1.lt
  clear b1 h1
  go_wp2_with (go_at_call 21; fail)
  refine (row_any P0 cap l w1 (HI.out.below B1.out (Nat.le_refl _)) hlen).mono ?_
  have hrow := rowL_row l
  have HROW := Lib.hid hrow
  obtain ⟨L, hL⟩ : ∃ L, rowL l = L := ⟨_, rfl⟩
  rw [hL] at HROW ⊢
  clear hrow hL
  rintro e w2 ⟨v, rfl, hown, b2⟩
  obtain ⟨A2, c2, rfl, hin2, hfr2⟩ := owns_intsFrom hown
  rw [natInts_len]
  have hs2 := b2.size
  have HI2 := Lib.hid hin2
  have B2 := Lib.hid (B1.out.trans (b2.mono hs1))
  have K2 := Lib.hid (K1.out.below b2 hg1)
  have hne2 : ∀ a, A2 = some a → a.block ≠ g := fun a e => by have := hfr2 a e; omega
  have HN := Lib.hid hne2
  have HLL := Lib.hid HROW.out.len
  clear hown hin2 hfr2 b2 hne2 K1 B1
  go_wp2_with (go_at_call 22; fail)
  refine (laid_any A2 c2 L g w2 K2.out HROW.out HI2.out HN.out (by decide) (by decide)).mono ?_
  rintro e w3 ⟨rfl, S', hA3, hR3, hM3⟩
  have A3 := Lib.hid hA3
  have R3 := Lib.hid hR3
  have M3 := Lib.hid hM3
  have B3 := Lib.hid (B2.out.grown hA3.grown B2.out.size (fun k e => by cases e; exact hg))
  have HI3 := Lib.hid (HI2.out.keep HN.out hA3.grown)
  have hs3 := hA3.grown.size
  have HW3 := Lib.hid (show 0 ≤ S'.writes ∧ S'.writes ≤ 96 from ⟨hM3.lo, by have := hM3.hi; have := HLL.out; simp [St.new] at *; omega⟩)
  obtain ⟨last, hlast⟩ : ∃ last, lsI (-1) L = last := ⟨_, rfl⟩
  have HLAST := Lib.hid hlast
  rw [hlast]
  clear hA3 hR3 hM3 B2 K2 HI2 hlast M3
  go_wp2_with (go_at_call 23; fail)
  refine (rworks_any w3).mono ?_
  rintro e w4 ⟨rfl, b4⟩
  have A4 := Lib.hid (A3.out.ar.below b4 A3.out.ar.lt)
  have HI4 := Lib.hid (HI3.out.below b4 (Nat.le_refl _))
  have B4 := Lib.hid (B3.out.trans (b4.mono B3.out.size))
  have hs4 := b4.size
  clear b4 A3 HI3 B3
  by_cases hl0 : L.length = 0
  · have hl0' : (L.length : Int) = 0 := by omega
    go_wp2_with (go_at_call 23; fail)
    refine (rworks_any w4).mono ?_
    rintro e w5 ⟨rfl, b5⟩
    have B5 := Lib.hid (B4.out.trans (b5.mono B4.out.size))
    clear b5
    go_wp2
    go_ret
    exact ⟨rfl, B5.out⟩
  · have hl0' : ((L.length : Int) == 0) = false := by simpa using hl0
    have hlp : 0 < L.length := by omega
    obtain ⟨k, hk⟩ : ∃ k, pickN which L.length = k := ⟨_, rfl⟩
    have hkl : k < L.length := by rw [← hk]; exact pickN_lt _ _ hlp
    have HP := Lib.hid (fun w => show Calls Try.prog 11 #[.int .i64 which, .int .i64 (L.length : Int)] w (RetSame (.int .i64 (k : Int)) w) from by
      have h := pick_any which L.length hlp (by have := HLL.out; omega) w
      rwa [pickN_eq which _ hlp, hk] at h)
    have HKL := Lib.hid hkl
    clear hk hkl hl0
    go_wp2_with (go_at_call 11; refine (HP.out _).mono ?_; rintro e w' ⟨rfl, rfl⟩)
    go_loopw [10, 11] (fun v i wr => ∃ j : Nat, j ≤ L.length ∧ i = .int .i64 j ∧ wr.ownsRow w4.heap.size 3 1 v ((L.take j).eraseIdx k).length (intVs (natInts ((L.take j).eraseIdx k))) ∧ Below w4.heap.size w4 wr) (fun _ i _ => L.length - (intOf i).toNat)
    case atStart => exact ⟨0, Nat.zero_le _, rfl, by simpa [natInts, intVs] using World.ownsRow_nil w4 w4.heap.size 3 1, Below.refl _ _⟩
    case round =>
      obtain ⟨j, hj, rfl, hown, hbel⟩ := hrel
      have hEl : ((L.take j).eraseIdx k).length ≤ 32 := by
        have h1 := List.length_eraseIdx_le (L.take j) k
        rw [List.length_take] at h1
        have := HLL.out
        omega
      obtain ⟨E, hE⟩ : ∃ E, (L.take j).eraseIdx k = E := ⟨_, rfl⟩
      rw [hE] at hown hEl
      have HR := Lib.hid hown
      have HBEL := Lib.hid hbel
      obtain ⟨Ar, cp, rfl⟩ := owns_slice hown
      have hbs := hbel.size
      have hll := HLL.out
      by_cases hlt : j < L.length
      · have hlt1 : (j : Int) < (L.length : Int) := by omega
        obtain ⟨x, hx⟩ : ∃ x, L[j]? = some x := ⟨_, List.getElem?_eq_getElem hlt⟩
        obtain ⟨b, off, rfl, hbl, hcs⟩ := (HI4.out.below hbel (Nat.le_refl _)) (by rw [natInts_len]; omega)
        have hcell := hcs j x (by simp [natInts, hx])
        have hes := erase_step (k := k) hx
        rw [hE] at hes
        have HLT := Lib.hid hlt
        by_cases hjk : j = k
        · rw [if_pos hjk] at hes
          have hjk' : (j : Int) = (k : Int) := by omega
          have HES := Lib.hid hes
          clear hcs hx hbl hown hlt hes hbel hE hjk
          go_wp2
          go_roundw
          case rel => exact ⟨j + 1, by have := HLT.out; omega, by go_num, by rw [HES.out]; exact HR.out, HBEL.out⟩
          case measure => have := HLT.out; simp [intOf]; omega
        · rw [if_neg hjk] at hes
          have hjk' : ((j : Int) == (k : Int)) = false := by simpa using (by omega : ¬ (j : Int) = (k : Int))
          have hjk2 : ((j : Int) != (k : Int)) = true := by simp; omega
          have HES := Lib.hid hes
          have h1 : E.length + 1 ≤ maxLen := by unfold maxLen; omega
          have h2 : (E.length + 1) * 8 ≤ 140737488355328 := by omega
          have H1 := Lib.hid h1
          have H2 := Lib.hid h2
          clear hcs hx hbl hown hlt hes hbel hE hjk h1 h2
          go_wp2_with (at_builtin; refine wpList_append_one (v := .slice Ar E.length cp) rfl _ _ 48 rfl Try.underlying48 hi hz0 hz1 hz2 hz3 (by decide) rfl HR.out rfl rfl (int_one _) H1.out H2.out (by omega) ?_; intro g' cap' w11 hown1 hgr1)
          have hbk := bel_grown HBEL.out hgr1 HR.out (by omega) (by omega)
          clear hgr1
          go_roundw
          case rel => exact ⟨j + 1, by have := HLT.out; omega, by go_num, by rw [HES.out, natInts_snoc, List.length_append]; exact hown1, hbk⟩
          case measure => have := HLT.out; simp [intOf]; omega
      · obtain rfl : j = L.length := by omega
        rw [List.take_length] at hE
        have hkl := HKL.out
        obtain ⟨x, hx⟩ : ∃ x, L[k]? = some x := ⟨_, List.getElem?_eq_getElem hkl⟩
        obtain ⟨S2, S3, d1, d2, d3, d4, d5, d6⟩ := dropped_law A4.out.len R3.out hx
        rw [hE, HLAST.out] at d1
        rw [hE] at d2 d5 d6
        have hA := A4.out.below hbel A4.out.lt
        obtain ⟨b, off, rfl, hbl, hcs⟩ := (HI4.out.below hbel (Nat.le_refl _)) (by rw [natInts_len]; omega)
        have hcell := hcs k x (by simp [natInts, hx])
        have hbg : b ≠ g := HN.out _ rfl
        have hbw4 : b < w4.heap.size := by
          obtain ⟨b', off', e, hb', _⟩ := HI4.out (by rw [natInts_len]; omega)
          cases e; exact hb'
        have hx32 := HROW.out.lt x (List.mem_of_getElem? hx)
        have hP := drop_any last x g wr hA HW3.out.1 (by have := HW3.out.2; omega)
        rw [d1] at hP
        have HDP := Lib.hid hP
        have HC := Lib.hid hcell
        have D2 := Lib.hid d2
        have D3 := Lib.hid d3
        have D5 := Lib.hid d5
        have D6 := Lib.hid d6
        have HW5 := Lib.hid (show 0 ≤ S2.writes ∧ S2.writes ≤ 99 from ⟨by have := HW3.out.1; have := d4.lo; omega, by have := HW3.out.2; have := d4.hi; omega⟩)
        have B5 := Lib.hid (B4.out.trans (hbel.mono B4.out.size))
        have hs5 := hbel.size
        have hgw4 := A4.out.lt
        have hki0 : (0 : Int) ≤ (k : Int) := by omega
        have hki : (k : Int) < (L.length : Int) := by omega
        obtain ⟨nn, hnn⟩ : ∃ nn, lsI (-1) E = nn := ⟨_, rfl⟩
        have HNN := Lib.hid hnn
        have hnb : (nn == (-1)) = ((E.length : Int) == 0) := by
          rw [← hnn]
          cases E with
          | nil => rfl
          | cons e0 E0 =>
            obtain ⟨y, hy, _⟩ := lsI_mem (p := -1) (A := e0 :: E0) (by simp)
            rw [hy]
            have h1 : ((y : Int) == -1) = false := beq_eq_false_iff_ne.2 (by omega)
            have h2 : (((e0 :: E0).length : Int) == 0) = false := beq_eq_false_iff_ne.2 (by simp; omega)
            rw [h1, h2]
        obtain ⟨bb, hbb⟩ : ∃ bb, ((E.length : Int) == 0) = bb := ⟨_, rfl⟩
        rw [hbb] at hnb
        rw [hnn] at HDP D5
        clear hcs hx d1 d2 d3 d4 d5 d6 hA hP hbel hE hown hlt hkl hnn HP HKL B4 A4 HI4 R3 HI
        go_wp2_with (go_at_call 26; fail)
        refine HDP.out.mono ?_
        rintro e w5 ⟨rfl, hA5⟩
        have A5 := Lib.hid hA5.ar
        have B6 := Lib.hid (B5.out.grown hA5.grown B5.out.size (fun k e => by cases e; exact hg))
        have HR5 := Lib.hid (owns_kept HR.out hA5.grown hgw4)
        have HC5 := Lib.hid ((World.cell?_of_block (a := ⟨b, off + k, none⟩) (hA5.grown.block b (by omega) (fun e => hbg (by simpa using e)))).trans HC.out)
        have hs6 := hA5.grown.size
        clear hA5 HR HC B5 HDP hcell
        go_wp2_with (go_at_call 24; fail)
        refine (rall_any nn 99 g w5 A5.out).mono ?_
        rw [show (S2.all nn).take (99 : Int).toNat = E from by rw [← HNN.out]; exact ring_list D2.out (by decide)]
        rintro e w6 ⟨v, rfl, hown, b6⟩
        obtain ⟨P6, c6, rfl, hin6⟩ := owns_intsAt hown
        rw [natInts_len]
        have A6 := Lib.hid (A5.out.below b6 A5.out.lt)
        have B7 := Lib.hid (B6.out.trans (b6.mono B6.out.size))
        have HR6 := Lib.hid (owns_call HR5.out b6)
        have HC6 := Lib.hid ((b6.cell (p := ⟨b, off + k, none⟩) (by show b < w5.heap.size; omega)).trans HC5.out)
        have HI6 := Lib.hid hin6
        have hs7 := b6.size
        clear hown hin6 b6 A5 B6 HR5 HC5
        go_wp2_with (go_at_call 20; fail)
        refine (sameI_eq P6 Ar c6 cp E.length (natInts E) (natInts_len E) (by omega) _ HI6.out (owns_at HR6.out)).mono ?_
        rintro e w7 ⟨rfl, b7⟩
        have A7 := Lib.hid (A6.out.below b7 A6.out.lt)
        have B8 := Lib.hid (B7.out.trans (b7.mono B7.out.size))
        have HR7 := Lib.hid (owns_call HR6.out b7)
        have hc7 := (b7.cell (p := ⟨b, off + k, none⟩) (by show b < w6.heap.size; omega)).trans HC6.out
        have HC7 := Lib.hid hc7
        have hs8 := b7.size
        clear b7 A6 B7 HR6 HC6 HI6
        go_wp2_with (go_at_call 25; fail)
        refine (lwell_any x hx32 g w7 A7.out).mono ?_
        rw [D3.out]
        rintro e w8 ⟨rfl, b8⟩
        have A8 := Lib.hid (A7.out.below b8 A7.out.lt)
        have B9 := Lib.hid (B8.out.trans (b8.mono B8.out.size))
        have HR8 := Lib.hid (owns_call HR7.out b8)
        have hc8 := (b8.cell (p := ⟨b, off + k, none⟩) (by show b < w7.heap.size; omega)).trans HC7.out
        have HC8 := Lib.hid hc8
        have hs9 := b8.size
        have hP := push_any nn x g w8 A8.out HW5.out.1 (by have := HW5.out.2; omega)
        rw [D5.out] at hP
        have HPU := Lib.hid hP
        clear b8 A7 B8 HR7 HC7 hc7 hP
        go_wp2_with (go_at_call 27; fail)
        refine HPU.out.mono ?_
        rintro e w9 ⟨rfl, hA9⟩
        have A9 := Lib.hid hA9.ar
        have B10 := Lib.hid (B9.out.grown hA9.grown B9.out.size (fun k e => by cases e; exact hg))
        have HR9 := Lib.hid (owns_kept HR8.out hA9.grown hgw4)
        have hc9 := (World.cell?_of_block (a := ⟨b, off + k, none⟩) (hA9.grown.block b (by omega) (fun e => hbg (by simpa using e)))).trans HC8.out
        have HC9 := Lib.hid hc9
        have hs10 := hA9.grown.size
        clear hA9 HPU A8 B9 HR8 HC8 hc8
        have I9 := Lib.hid (show Carry w g S3 ⟨b, off + k, none⟩ (.int .i64 x) w9 from ⟨A9.out, B10.out, HC9.out⟩)
        have hi9 := (show Carry w g S3 ⟨b, off + k, none⟩ (.int .i64 x) w9 from ⟨A9.out, B10.out, HC9.out⟩).drew
        have HR9d := Lib.hid (show w9.drew.ownsRow w4.heap.size 3 1 (.slice Ar E.length cp) E.length (intVs (natInts E)) from owns_call HR9.out (Below.refl _ _).drew)
        have HOL := Lib.hid (fun r (e : (Value.slice Ar E.length cp).ownBlock = some r) => (HR9.out.lt r e).1)
        have HOU := Lib.hid (fun r (e : (Value.slice Ar E.length cp).ownBlock = some r) => (HR9d.out.lt r e).2)
        have HLE := Lib.hid (show (natInts (E ++ [x])).length = E.length + 1 by simp [natInts])
        have h8s : (E.length + 1) * 8 ≤ 140737488355328 := by omega
        have H8S := Lib.hid h8s
        clear h8s
        have HALL := Lib.hid (fun (W : World) (h : W.cell? ⟨b, off + k, none⟩ = some (.int .i64 x) ∧ Carry w g S3 ⟨b, off + k, none⟩ (.int .i64 x) W) => show Calls Try.prog 24 #[.pointer (some ⟨g, 0, none⟩), .int .i64 x, .int .i64 99] W (RetInts (natInts (E ++ [x])) W) from by
          have h1 := rall_any (x : Int) 99 g W h.2.ar
          rwa [show (S3.all (x : Int)).take (99 : Int).toNat = E ++ [x] from by have := ring_list D6.out (m := 99) (by decide); rwa [lsI_snoc] at this] at h1)
        have h63 : E.length + 1 ≤ maxLen := by unfold maxLen; omega
        have h8 : (E.length + 1) * 8 ≤ 140737488355328 := by omega
        have H63 := Lib.hid h63
        have H8 := Lib.hid h8
        have hws9 : w4.heap.size ≤ w9.heap.size := by omega
        have hww4 : w.heap.size ≤ w4.heap.size := by omega
        clear h63 h8 HR9 A9 B10 HC9 HROW HLL HW3 HLAST HBEL HN D2 D3 D5 HW5 HNN hnb hbb hs1 hs2 hs3 hs4 hs5 hs6 hs7 hs8 hs9 hs10 hc9
        go_wp2
        refine wp_region_noPanic ?_
        go_region_held3 (fun W' => W'.cell? ⟨b, off + k, none⟩ = some (.int .i64 x) ∧ Carry w g S3 ⟨b, off + k, none⟩ (.int .i64 x) W')
          (first
            | exact hi9
            | exact Carry.call (by assumption) ba
            | exact Carry.call (by assumption) bs
            | exact Carry.alloc (by assumption) _
            | exact Carry.app (by assumption) hgrow HOL.out hww4 hgw4 hbw4)
          (first
            | (go_at_call 24; refine (HALL.out _ (by assumption)).mono ?_; rintro e wa ⟨va, rfl, howna, ba⟩; obtain ⟨Pa, ca, rfl, hina, hfa⟩ := owns_intsFrom howna; rw [natInts_len, List.length_append, List.length_singleton])
            | (refine step_append_wanted ?_ _ _ _ (by rfl) w4.heap.size 3 ii iz 1 8 Try.underlying48 hi hz0 hz1 hz2 hz3 (by decide) (.slice Ar E.length cp) E.length (intVs (natInts E)) ?_ ?_ ?_ 1 1 [.int .i64 x] ?_ (by rfl) ?_ (by simp [Value.oneCell']) (by omega) H63.out H8.out (by first | (have := ba.size; simp at this ⊢; omega) | (simp; omega)) ?_
               · rfl
               · rfl
               · first | exact (owns_call HR9d.out ba).alloc _ | exact owns_call (HR9d.out.alloc _) ba | exact HR9d.out.alloc _
               rotate_left
               · rfl
               · first | exact World.news_of_block (cs := #[.int .i64 x]) (t := 3) (fr := (0, 0)) (heap_alloc_new _ _) | exact World.news_of_block (cs := #[.int .i64 x]) (t := 3) (fr := (0, 0)) ((ba.block _ (by simp)).trans (heap_alloc_new _ _))
               rotate_left
               intro gg cap ww hownw hgrow
               rw [← natInts_snoc] at hownw)
            | (go_at_call 20
               refine (sameI_eq _ _ _ _ (E.length + 1) (natInts (E ++ [x])) HLE.out H8S.out _ ?_ ?_).mono ?_
               · first
                 | exact IntsAt.app (hina.below ((Below.refl _ _).alloc (Nat.le_refl _) _) (Nat.le_refl _)) hfa hgrow HOU.out
                 | exact IntsAt.app hina hfa hgrow (fun r e => by have := HOU.out r e; simp at this ⊢; omega)
                 | exact hina
               · first
                 | exact own_ints hownw
                 | exact (own_ints hownw).below ba (Nat.le_refl _)
               rintro e wz ⟨rfl, bs⟩))
        all_goals
          refine NoPanic.normal ?_
          go_wp2
          go_ret
          exact ⟨rfl, (by assumption : _ ∧ Carry w g S3 ⟨b, off + k, none⟩ (.int .i64 x) _).2.bel⟩
theorem ringDropped_rows (A : Option Addr) (cap : Nat) (l : List Int) (which : Int) (w : World) (h : 0 < l.length → ∃ b off, A = some ⟨b, off, none⟩ ∧ b < w.heap.size ∧ ∀ k y, l[k]? = some y → RowAt w b (off + k * 1) (i64c y)) (hlen : l.length * 8 ≤ 140737488351232) :
    Calls Try.prog 7 #[.slice A l.length cap, .int .i64 which] w (RetB (.bool true) w) :=
  ringDropped_any A cap l which w (intsAt_rows h) hlen
end Go.Proofs.Ytdgdbcapojgnlaa
