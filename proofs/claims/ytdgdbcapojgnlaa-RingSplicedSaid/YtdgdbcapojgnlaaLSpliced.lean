/-
  lineagelaw16.RingSpliced: the whole walk.
-/
import Derived.Test.YtdgdbcapojgnlaaRgHelp3
import Derived.Test.YtdgdbcapojgnlaaRgSpW
import Derived.Test.YtdgdbcapojgnlaaRgDel
import Derived.Test.YtdgdbcapojgnlaaIntArg
namespace Go.Proofs.Ytdgdbcapojgnlaa
set_option maxRecDepth 100000
open Go.RowKit Go.Shelf
attribute [local go_sem] Oper.semAt_some

theorem owns_keep {w w' : World} {base n cap : Nat} {e : TypeId} {size g : Nat} {A : Option Addr} {xs : List Value} (h : w.ownsRow base e size (.slice A n cap) n xs) (hne : ∀ a, A = some a → a.block ≠ g) (hg : w.grownBy w' (some g)) : w'.ownsRow base e size (.slice A n cap) n xs :=
  h.kept hg (by
    cases A with
    | none => exact .inl rfl
    | some a => exact .inr (fun e => hne a rfl (by simpa [Value.ownBlock] using e)))
theorem IntsAt.drop {w : World} {A : Option Addr} {xs : List Int} (h : IntsAt w A xs) (cap k : Nat) (hc : xs.length ≤ cap) : IntsAt w (if cap = k then A else A.map (fun x => x.add k)) (xs.drop k) := fun hp => by
  rw [List.length_drop] at hp
  obtain ⟨b, off, rfl, hb, hcs⟩ := h (by omega)
  rw [if_neg (by omega)]
  refine ⟨b, off + k, by simp [Addr.add_lit], hb, fun j i hj => ?_⟩
  rw [List.getElem?_drop] at hj
  have := hcs (k + j) i hj
  rwa [← Nat.add_assoc] at this
theorem drop_ne {A : Option Addr} {g cap k : Nat} (h : ∀ a, A = some a → a.block ≠ g) : ∀ a, (if cap = k then A else A.map (fun x => x.add k)) = some a → a.block ≠ g := by
  intro a e
  split at e
  · exact h a e
  · cases A with
    | none => cases e
    | some a0 =>
      simp at e
      subst e
      show (a0.add k).block ≠ g
      have e : (a0.add k).block = a0.block := by unfold Addr.add; split <;> rfl
      rw [e]
      exact h a0 rfl
/-- One of a ring is dropped. -/
theorem drop_at {S : St} (hl : S.slots.length = 32) {L : List Nat} (h : Ring S.lk L) {k x : Nat} (hx : L[k]? = some x) :
    ∃ S2, S.dropR (lsI (-1) L) x = (.tuple #[.int .i64 (lsI (-1) (L.eraseIdx k)), .nilIface], S2) ∧ Ring S2.lk (L.eraseIdx k) ∧ Moved 3 L S S2 := by
  have hk := (List.getElem?_eq_some_iff.1 hx).1
  have e : L[k] = x := (List.getElem?_eq_some_iff.1 hx).2
  have e1 : L = L.take k ++ x :: L.drop (k + 1) := by rw [← e, ← List.drop_eq_getElem_cons hk, List.take_append_drop]
  have e2 : L.eraseIdx k = L.take k ++ L.drop (k + 1) := List.eraseIdx_eq_take_drop_succ ..
  rw [e2]
  have hR := h
  rw [e1] at hR
  obtain ⟨S2, h1, h2, _, h4⟩ := drop_ring hl hR
  rw [← e1] at h1 h4
  exact ⟨S2, h1, h2, h4⟩
theorem own_some {w : World} {base n : Nat} {v : Value} {L : List Nat} (h : w.ownsRow base 3 1 v n (intVs (natInts L))) (hn : 0 < n) : ∃ gb cp, v = .slice (some ⟨gb, 0, none⟩) n cp ∧ base ≤ gb ∧ n ≤ cp ∧ cp ≤ maxLen ∧ (∀ i, i < cp → (w.cell? ⟨gb, i, none⟩).isSome = true ∧ w.frozen? ⟨gb, i, none⟩ = false) ∧ (∀ (i x : Nat), L[i]? = some x → w.cell? ⟨gb, i, none⟩ = some (.int .i64 (x : Int))) := by
  rcases h.2 with ⟨_, e⟩ | ⟨g, cap, cur, e, hb, hg, h1, h2, h3, h4⟩
  · omega
  · subst e
    have hB : Blk w g 3 cur := ⟨hg⟩
    refine ⟨g, cap, rfl, hb, h1, h2, fun i hi => ⟨?_, hB.frozen i⟩, fun i x hx => ?_⟩
    · rw [hB.cell i, Array.getElem?_eq_getElem (by omega)]; rfl
    · have := h.cells rfl i (.int .i64 (x : Int)) (by simp [intVs, natInts, hx])
      rwa [Addr.add_lit, Nat.zero_add] at this
set_option maxHeartbeats 8000000 in
theorem ringSpliced_any (P0 P1 : Option Addr) (cap cap1 : Nat) (l m : List Int) (cut : Int) (w : World) (hin : IntsAt w P0 l) (hlen : l.length * 8 ≤ 140737488351232) (hin1 : IntsAt w P1 m) (hlen1 : m.length * 8 ≤ 140737488351232) :
    Calls Try.prog 8 #[.slice P0 l.length cap, .slice P1 m.length cap1, .int .i64 cut] w (RetB (.bool true) w) := by
  obtain ⟨ii, iz, hi, hz0, hz1, hz2, hz3⟩ := intInfo
  have HI := Lib.hid hin
  have HM := Lib.hid hin1
  clear hin hin1
  go_enter Try.func8, Try.ntmps8
  go_wp2_with (go_at_call 10; fail)
  refine (new_st w).mono ?_
  rintro e w1 ⟨g, rfl, hg, h1, b1⟩
  have B1 := Lib.hid b1
  have K1 := Lib.hid h1
  have hs1 := b1.size
  have hg1 := h1.lt
  clear b1 h1
  go_wp2_with (go_at_call 21; fail)
  refine (row_any P0 cap l w1 (HI.out.below B1.out (Nat.le_refl _)) hlen).mono ?_
  have hrow := rowL_row l
  have HROW := Lib.hid hrow
  obtain ⟨L, hL⟩ : ∃ L, rowL l = L := ⟨_, rfl⟩
  rw [hL] at HROW ⊢
  clear hrow hL
  rintro e w2 ⟨v, rfl, hown, b2⟩
  have HR2 := Lib.hid hown
  obtain ⟨A2, c2, rfl, hnc, hin2⟩ := owns_intsCap hown
  have hfr2 : ∀ a, A2 = some a → w1.heap.size ≤ a.block ∧ a.block < w2.heap.size := by
    obtain ⟨A', c', e', _, hf⟩ := owns_intsFrom hown
    cases e'
    exact hf
  rw [natInts_len] at hnc ⊢
  rw [natInts_len] at HR2
  have hs2 := b2.size
  have HI2 := Lib.hid hin2
  have B2 := Lib.hid (B1.out.trans (b2.mono hs1))
  have K2 := Lib.hid (K1.out.below b2 hg1)
  have hne2 : ∀ a, A2 = some a → a.block ≠ g := fun a e => by have := hfr2 a e; omega
  have HN := Lib.hid hne2
  have hll := HROW.out.len
  obtain ⟨k, hk⟩ : ∃ k, pickN cut (L.length + 1) = k := ⟨_, rfl⟩
  have hkl : k < L.length + 1 := by rw [← hk]; exact pickN_lt _ _ (by omega)
  have HP := Lib.hid (fun w => show Calls Try.prog 11 #[.int .i64 cut, .int .i64 ((L.length : Int) + 1)] w (RetSame (.int .i64 (k : Int)) w) from by
    have h := pick_any cut (L.length + 1) (by omega) (by omega) w
    rwa [pickN_eq cut _ (by omega), hk, Int.natCast_add] at h)
  have hk0 : (0 : Int) ≤ (k : Int) := by omega
  have hk1 : (k : Int) ≤ (L.length : Int) := by omega
  have hk2 : (k : Int) ≤ (c2 : Int) := by omega
  clear hown hin2 hfr2 b2 hne2 K1 B1 hk
  go_wp2_with (first | (go_at_call 11; refine (HP.out _).mono ?_; rintro e w' ⟨rfl, rfl⟩) | (go_at_call 22; fail))
  have hLt : (L.take k).length = k := by rw [List.length_take]; omega
  have hLd : (L.drop k).length = L.length - k := List.length_drop
  have hnt : natInts (L.take k) = (natInts L).take k := by simp [natInts, List.map_take]
  have hnd : natInts (L.drop k) = (natInts L).drop k := by simp [natInts, List.map_drop]
  have HND := Lib.hid hnd
  have HLD := Lib.hid hLd
  have hl1 := laid_any A2 c2 (L.take k) g w2 K2.out (HROW.out.take k) (by rw [hnt]; exact HI2.out.take k) HN.out (by decide) (by decide)
  rw [hLt] at hl1
  refine hl1.mono ?_
  rintro e w3 ⟨rfl, S1, hA3, hR3, hM3⟩
  have A3 := Lib.hid hA3
  have R3 := Lib.hid hR3
  have M3 := Lib.hid hM3
  have B3 := Lib.hid (B2.out.grown hA3.grown B2.out.size (fun k e => by cases e; exact hg))
  have HI3 := Lib.hid (HI2.out.keep HN.out hA3.grown)
  have HR3 := Lib.hid (owns_keep HR2.out HN.out hA3.grown)
  have hs3 := hA3.grown.size
  have hw1 : 0 ≤ S1.writes ∧ S1.writes ≤ 3 * (k : Int) := ⟨hM3.lo, by have := hM3.hi; simp [St.new, hLt] at this; omega⟩
  have HW1 := Lib.hid hw1
  clear hA3 hR3 hM3 B2 K2 HI2 HR2 hl1 hLt hLd hnt hnd hw1
  obtain ⟨one, hone⟩ : ∃ one, lsI (-1) (L.take k) = one := ⟨_, rfl⟩
  have HONE := Lib.hid hone
  rw [hone]
  clear hone
  obtain ⟨AD, hAD⟩ : ∃ AD, (if c2 = k then A2 else A2.map (fun x => x.add k)) = AD := ⟨_, rfl⟩
  have HID := Lib.hid (show IntsAt w3 AD (natInts (L.drop k)) from by rw [HND.out, ← hAD]; exact HI3.out.drop c2 k (by rw [natInts_len]; exact hnc))
  have HND2 := Lib.hid (show ∀ a, AD = some a → a.block ≠ g from by rw [← hAD]; exact drop_ne HN.out)
  go_wp2_with (go_at_call 22; fail)
  clear hAD
  have hl2 := laid_any AD (c2 - k) (L.drop k) g w3 A3.out.ar (HROW.out.drop k) HID.out HND2.out HW1.out.1 (by have := HW1.out.2; omega)
  rw [HLD.out] at hl2
  refine Calls.mono (Lib.hid hl2).out ?_
  rintro e w4 ⟨rfl, S2, hA4, hR4, hM4⟩
  have hdj : ∀ x ∈ L.take k, x ∉ L.drop k := by
    have hd := HROW.out.nodup
    rw [← List.take_append_drop k L, List.nodup_append] at hd
    exact fun x hx hx2 => hd.2.2 x hx x hx2 rfl
  have hR4' : Ring S2.lk (L.take k) := R3.out.congr fun x hx => hM4.lk x (hdj x hx)
  have hsl : S2.slots.length = 32 := hA4.ar.len
  obtain ⟨S3, hsp, hR5, hM5⟩ := splice_ring hsl hR4' hR4 hdj
  rw [List.take_append_drop, HONE.out] at hsp
  rw [List.take_append_drop] at hR5
  have hw2 : 0 ≤ S2.writes ∧ S2.writes ≤ 96 := ⟨by have := hM4.lo; have := HW1.out.1; omega, by have h1 := hM4.hi; have h2 := HW1.out.2; omega⟩
  have hw3 : 0 ≤ S3.writes ∧ S3.writes ≤ 100 := ⟨by have := hM5.lo; omega, by have := hM5.hi; omega⟩
  have A4 := Lib.hid hA4
  have R5 := Lib.hid hR5
  have HW2 := Lib.hid hw2
  have HW3 := Lib.hid hw3
  have B4 := Lib.hid (B3.out.grown hA4.grown B3.out.size (fun k e => by cases e; exact hg))
  have HR4 := Lib.hid (owns_keep HR3.out HN.out hA4.grown)
  have hs4 := hA4.grown.size
  obtain ⟨two, htwo⟩ : ∃ two, lsI (-1) (L.drop k) = two := ⟨_, rfl⟩
  rw [htwo] at hsp ⊢
  have HSP := Lib.hid hsp
  clear hdj hR4' hsl hM4 hR4 hA4 hl2 hsp hR5 hM5 hw2 hw3 htwo R3 M3 A3 B3 HR3 HI3 HND HLD HID HND2 HW1 HP
  go_wp2_with (go_at_call 23; fail)
  refine (rworks_any w4).mono ?_
  rintro e w5 ⟨rfl, b5⟩
  have A5 := Lib.hid (A4.out.ar.below b5 A4.out.ar.lt)
  have B5 := Lib.hid (B4.out.trans (b5.mono B4.out.size))
  have HR5 := Lib.hid (owns_callS HR4.out b5)
  have hs5 := b5.size
  clear b5 A4 B4 HR4
  go_wp2_with (go_at_call 28; fail)
  have hS := splice_any one two g w5 A5.out HW2.out.1 (by have := HW2.out.2; omega)
  rw [HSP.out] at hS
  refine Calls.mono (Lib.hid hS).out ?_
  rintro e w6 ⟨rfl, hA6⟩
  have A6 := Lib.hid hA6.ar
  have B6 := Lib.hid (B5.out.grown hA6.grown B5.out.size (fun k e => by cases e; exact hg))
  have HR6 := Lib.hid (owns_keep HR5.out HN.out hA6.grown)
  have hs6 := hA6.grown.size
  obtain ⟨nn, hnn⟩ : ∃ nn, lsI (-1) L = nn := ⟨_, rfl⟩
  have HNN := Lib.hid hnn
  have hnb : (nn == (-1)) = ((L.length : Int) == 0) := by
    rw [← hnn]
    cases L with
    | nil => rfl
    | cons e0 E0 =>
      obtain ⟨y, hy, _⟩ := lsI_mem (p := -1) (A := e0 :: E0) (by simp)
      rw [hy]
      have h1 : ((y : Int) == -1) = false := beq_eq_false_iff_ne.2 (by omega)
      have h2 : (((e0 :: E0).length : Int) == 0) = false := beq_eq_false_iff_ne.2 (by simp; omega)
      rw [h1, h2]
  obtain ⟨bb, hbb⟩ : ∃ bb, ((L.length : Int) == 0) = bb := ⟨_, rfl⟩
  rw [hbb] at hnb
  rw [hnn]
  clear hA6 hS A5 B5 HR5 HSP HW2 hnn
  go_wp2_with (go_at_call 24; fail)
  refine (rall_any nn 99 g w6 A6.out).mono ?_
  rw [show (S3.all nn).take (99 : Int).toNat = L from by rw [← HNN.out]; exact ring_list R5.out (by decide)]
  rintro e w7 ⟨v, rfl, hown, b7⟩
  obtain ⟨P7, c7, rfl, hin7⟩ := owns_intsAt hown
  rw [natInts_len]
  have A7 := Lib.hid (A6.out.below b7 A6.out.lt)
  have B7 := Lib.hid (B6.out.trans (b7.mono B6.out.size))
  have HR7 := Lib.hid (owns_callS HR6.out b7)
  have HI7 := Lib.hid hin7
  have hs7 := b7.size
  clear hown hin7 b7 A6 B6 HR6
  go_wp2_with (go_at_call 20; fail)
  refine (sameI_eq P7 A2 c7 c2 L.length (natInts L) (natInts_len L) (by omega) _ HI7.out (owns_atS HR7.out)).mono ?_
  rintro e w8 ⟨rfl, b8⟩
  have A8 := Lib.hid (A7.out.below b8 A7.out.lt)
  have B8 := Lib.hid (B7.out.trans (b8.mono B7.out.size))
  have HR8 := Lib.hid (owns_callS HR7.out b8)
  have hs8 := b8.size
  have hg8 : g < w1.heap.size := hg1
  clear b8 A7 B7 HR7 HI7 HI HN
  go_wp2
  have hsz8 : w1.heap.size ≤ w8.heap.size := by omega
  clear hk0 hk1 hk2 hkl hnb hbb hs4 hs5 hs6 hs7
  go_loopw [8, 14, 16, 17] (fun v lst n i wr => ∃ (j : Nat) (L' : List Nat) (S' : St), j ≤ m.length ∧ i = .int .i64 j ∧ n = .int .i64 L'.length ∧ lst = .int .i64 (lsI (-1) L') ∧ L'.length ≤ 32 ∧ IsAr wr g S' ∧ Ring S'.lk L' ∧ wr.ownsRow w1.heap.size 3 1 v L'.length (intVs (natInts L')) ∧ 0 ≤ S'.writes ∧ S'.writes + 3 * L'.length ≤ 300 ∧ Below w.heap.size w wr ∧ w1.heap.size ≤ wr.heap.size) (fun _ _ _ i _ => m.length - (intOf i).toNat)
  case atStart => exact ⟨0, L, S3, Nat.zero_le _, rfl, rfl, by rw [HNN.out], hll, A8.out, R5.out, HR8.out, HW3.out.1, by have := HW3.out.2; omega, B8.out, hsz8⟩
  case round =>
    obtain ⟨j, L', S', hj, rfl, rfl, rfl, hl32, hA, hR, hown, hw0, hw1, hbel, hszr⟩ := hrel
    have HA := Lib.hid hA
    have HR := Lib.hid hR
    have HO := Lib.hid hown
    have HW := Lib.hid (And.intro hw0 hw1)
    have HB := Lib.hid hbel
    clear A8 B8 HR8 HW3 R5 HNN HONE hs8 hsz8
    by_cases hlt : j < m.length
    · have hlt1 : (j : Int) < (m.length : Int) := by omega
      by_cases hn0 : 0 < L'.length
      · have hn1 : (0 : Int) < (L'.length : Int) := by omega
        obtain ⟨gb, cp, rfl, hgb, hncp, hmax, hspare, hcellL⟩ := own_some hown hn0
        obtain ⟨bm, om, rfl, hbm, hcm⟩ := (HM.out.below hbel (Nat.le_refl _)) (by omega)
        obtain ⟨y, hy⟩ : ∃ y, m[j]? = some y := ⟨_, List.getElem?_eq_getElem hlt⟩
        have hcy := hcm j y hy
        obtain ⟨at_, hat⟩ : ∃ k, pickN y L'.length = k := ⟨_, rfl⟩
        have hatl : at_ < L'.length := by rw [← hat]; exact pickN_lt _ _ hn0
        have HP := Lib.hid (fun w => show Calls Try.prog 11 #[.int .i64 y, .int .i64 (L'.length : Int)] w (RetSame (.int .i64 (at_ : Int)) w) from by
          have h := pick_any y L'.length hn0 (by omega) w
          rwa [pickN_eq y _ hn0, hat] at h)
        obtain ⟨x, hx⟩ : ∃ x, L'[at_]? = some x := ⟨_, List.getElem?_eq_getElem hatl⟩
        have hcx := hcellL at_ x hx
        obtain ⟨S2, d1, d2, d3⟩ := drop_at hA.len hR hx
        have hD := drop_any (lsI (-1) L') x g wr hA hw0 (by omega)
        rw [d1] at hD
        have HD := Lib.hid hD
        have D2 := Lib.hid d2
        have hEl : (L'.eraseIdx at_).length = L'.length - 1 := by rw [List.length_eraseIdx_of_lt hatl]
        have HEL := Lib.hid hEl
        have HW2 := Lib.hid (show 0 ≤ S2.writes ∧ S2.writes + 3 * ((L'.length : Int) - 1) ≤ 300 from ⟨by have := d3.lo; omega, by have := d3.hi; omega⟩)
        obtain ⟨lst, hlst⟩ : ∃ lst, lsI (-1) L' = lst := ⟨_, rfl⟩
        rw [hlst] at HD ⊢
        have HLT := Lib.hid hlt
        have ha0 : (0 : Int) ≤ (at_ : Int) := by omega
        have ha1 : (at_ : Int) < (L'.length : Int) := by omega
        clear hcm hy hbm hat hx d1 d2 d3 hD hEl hlst hlt hA hR hown hbel hcellL hspare HM
        go_wp2_with (first | (go_at_call 11; refine (HP.out _).mono ?_; rintro e w' ⟨rfl, rfl⟩) | (go_at_call 26; fail))
        refine HD.out.mono ?_
        rintro e w9 ⟨rfl, hA9⟩
        have hgg : gb ≠ g := by omega
        have hown9 : w9.ownsRow w1.heap.size 3 1 (.slice (some ⟨gb, 0, none⟩) L'.length cp) L'.length (intVs (natInts L')) := owns_keep HO.out (fun a e => by cases e; exact hgg) hA9.grown
        have hown9d := owns_callS hown9 (Below.refl w9.heap.size w9).drew
        obtain ⟨gb', cp', e9, _, _, _, hsp9, hce9⟩ := own_some hown9d hn0
        cases e9
        obtain ⟨AD, hAD, hnews⟩ : ∃ A : Addr, (if cp = at_ + 1 then some (⟨gb, 0, none⟩ : Addr) else some ⟨gb, at_ + 1, none⟩) = some A ∧ Hid (∀ j u, (movedN L' at_)[j]? = some u → w9.drew.cell? (A.add j) = some u) := by
          by_cases h : cp = at_ + 1
          · refine ⟨⟨gb, 0, none⟩, by simp [h], Lib.hid fun j u hu => ?_⟩
            have h0 : (movedN L' at_).length = 0 := by rw [movedN_len]; omega
            rw [List.length_eq_zero_iff.1 h0] at hu
            simp at hu
          · refine ⟨⟨gb, at_ + 1, none⟩, by simp [h], Lib.hid fun j u hu => ?_⟩
            have hu2 : ∃ z, L'[at_ + 1 + j]? = some z ∧ u = .int .i64 (z : Int) := by
              simp only [movedN, intVs, natInts, List.getElem?_map, List.getElem?_drop, Option.map_eq_some_iff] at hu
              obtain ⟨a, ⟨z, hz, rfl⟩, rfl⟩ := hu
              exact ⟨z, hz, rfl⟩
            obtain ⟨z, hz, rfl⟩ := hu2
            rw [Addr.add_lit]
            exact hce9 _ _ hz
        have s1 := Lib.hid (show (movedN L' at_).length = (L'.length - (at_ + 1)) * 1 by rw [Nat.mul_one]; exact movedN_len ..)
        have s2 := Lib.hid (show ∀ u ∈ movedN L' at_, u.oneCell' = true by
          intro u hu
          simp only [movedN, intVs, List.mem_map] at hu
          obtain ⟨z, _, rfl⟩ := hu
          rfl)
        have s3 := Lib.hid (show ∀ j, j < (movedN L' at_).length → (w9.drew.cell? ⟨gb, 0 + at_ * 1 + j, none⟩).isSome = true ∧ w9.drew.frozen? ⟨gb, 0 + at_ * 1 + j, none⟩ = false by
          intro j hj
          rw [movedN_len] at hj
          rw [Nat.mul_one, Nat.zero_add]
          exact hsp9 _ (by omega))
        have hdel := own_del hown9d hatl rfl
        have HDEL := Lib.hid hdel
        have A9 := Lib.hid hA9.ar
        have B9 := Lib.hid (HB.out.grown hA9.grown HB.out.size (fun k e => by cases e; exact hg))
        have hs9 := hA9.grown.size
        have hwr : IntKind.i64.wrap ((at_ : Int) + 1) = (at_ : Int) + 1 := by rw [IntKind.wrap_i64]; omega
        have hp0 : (0 : Int) ≤ (at_ : Int) + 1 := by omega
        have hp1 : (at_ : Int) + 1 ≤ (L'.length : Int) := by omega
        have hp2 : ((at_ : Int) + 1).toNat = at_ + 1 := by omega
        have hac : (at_ : Int) ≤ (cp : Int) := by omega
        have hac2 : at_ ≤ cp := by omega
        clear hsp9 hce9 hown9 hown9d hA9 HD HP HO HA HB hdel hcx hcy
        go_wp2
        go_region_law (refine step_append_room rfl (.tmp 113) (.tmp 117) 48 rfl 3 ii 1 Try.underlying48 hi hz1 gb 0 at_ cp (by simp [Act.eval, Act.put]) AD (L'.length - (at_ + 1)) (cp - (at_ + 1)) (movedN L' at_) (by simp [Act.eval, Act.put]) s1.out hnews.out s2.out (by omega) s3.out ?_)
        obtain ⟨W10, hW10⟩ : ∃ W, w9.drew.setCells gb at_ (movedN L' at_) = W := ⟨_, rfl⟩
        have hg10 : w9.drew.grownBy W10 (some gb) := by rw [← hW10]; exact grown_setCells gb _ _ _
        have hO10 : W10.ownsRow w1.heap.size 3 1 (.slice (some ⟨gb, 0, none⟩) (L'.length - 1) cp) (L'.length - 1) (intVs (natInts (L'.eraseIdx at_))) := by rw [← hW10]; exact HDEL.out
        rw [hW10]
        have eL : at_ + (L'.length - (at_ + 1)) = L'.length - 1 := by omega
        rw [eL]
        obtain ⟨E, hE⟩ : ∃ E, L'.eraseIdx at_ = E := ⟨_, rfl⟩
        have hEl := HEL.out
        rw [hE] at hO10 D2 hEl
        obtain ⟨n1, hn1e⟩ : ∃ n1, L'.length - 1 = n1 := ⟨_, rfl⟩
        rw [hn1e] at hO10 hEl ⊢
        rw [hE]
        have hnn1 : ((L'.length : Int) - 1) = (n1 : Int) := by omega
        have hwn : IntKind.i64.wrap ((L'.length : Int) - 1) = (n1 : Int) := by rw [IntKind.wrap_i64]; omega
        have A10 := Lib.hid (A9.out.block (hg10.block g (by have := A9.out.lt; show g < w9.heap.size; exact this) (fun e => hgg (by simpa using e.symm))))
        have B10 := Lib.hid ((B9.out.trans ((Below.refl w9.heap.size w9).drew.mono B9.out.size)).grown hg10 (by have := B9.out.size; exact this) (fun k e => by cases e; omega))
        have O10 := Lib.hid hO10
        have hs10 := hg10.size
        have hs10' : w1.heap.size ≤ W10.heap.size := by have h1 : w9.heap.size ≤ W10.heap.size := hs10; omega
        have HE := Lib.hid hEl
        have H32 := Lib.hid (show E.length ≤ 32 by omega)
        have HWn := Lib.hid (show 0 ≤ S2.writes ∧ S2.writes + 3 * (E.length : Int) ≤ 300 from ⟨HW2.out.1, by have := HW2.out.2; omega⟩)
        obtain ⟨lst2, hlst2⟩ : ∃ lst, lsI (-1) E = lst := ⟨_, rfl⟩
        have HL2 := Lib.hid hlst2
        rw [hlst2]
        clear hW10 hg10 hO10 hE hEl hs10 A9 B9 HDEL s1 s2 s3 hnews hAD hlst2 eL HW2 HEL hn1e hp0 hp1 hp2 hwr hac hac2 ha0 ha1
        go_wp2_with (go_at_call 24; fail)
        refine (rall_any lst2 99 g W10 A10.out).mono ?_
        rw [show (S2.all lst2).take (99 : Int).toNat = E from by rw [← HL2.out]; exact ring_list D2.out (by decide)]
        rintro e w11 ⟨v, rfl, hown, b11⟩
        obtain ⟨P11, c11, rfl, hin11⟩ := owns_intsAt hown
        rw [natInts_len, HE.out]
        have A11 := Lib.hid (A10.out.below b11 A10.out.lt)
        have B11 := Lib.hid (B10.out.trans (b11.mono B10.out.size))
        have O11 := Lib.hid (owns_callS O10.out b11)
        have HI11 := Lib.hid hin11
        have hs11 := b11.size
        clear hown hin11 b11 A10 B10 O10
        go_wp2_with (go_at_call 20; fail)
        refine (sameI_eq P11 (some ⟨gb, 0, none⟩) c11 cp n1 (natInts E) (by rw [natInts_len]; exact HE.out) (by have := HE.out; have := H32.out; omega) _ HI11.out (owns_atS O11.out)).mono ?_
        rintro e w12 ⟨rfl, b12⟩
        have A12 := Lib.hid (A11.out.below b12 A11.out.lt)
        have B12 := Lib.hid (B11.out.trans (b12.mono B11.out.size))
        have O12 := Lib.hid (owns_callS O11.out b12)
        have hs12 := b12.size
        have hs12' : w1.heap.size ≤ w12.heap.size := by omega
        clear b12 A11 B11 O11 HI11
        go_wp2
        go_roundw
        case rel => exact ⟨j + 1, E, S2, by have := HLT.out; omega, by have := HLT.out; go_num, by rw [HE.out], by rw [HL2.out], H32.out, A12.out, D2.out, by rw [HE.out]; exact O12.out, HWn.out.1, HWn.out.2, B12.out, hs12'⟩
        case measure => have := HLT.out; simp [intOf]; omega
      · have hn1 : ¬ (0 : Int) < (L'.length : Int) := by omega
        go_wp2
        go_ret
        exact ⟨rfl, HB.out⟩
    · have hlt1 : ¬ (j : Int) < (m.length : Int) := by omega
      go_wp2
      go_ret
      exact ⟨rfl, HB.out⟩
theorem ringSpliced_rows (A : Option Addr) (cap : Nat) (l : List Int) (B : Option Addr) (cap1 : Nat) (m : List Int) (cut : Int) (w : World) (h : 0 < l.length → ∃ b off, A = some ⟨b, off, none⟩ ∧ b < w.heap.size ∧ ∀ k y, l[k]? = some y → RowAt w b (off + k * 1) (i64c y)) (hlen : l.length * 8 ≤ 140737488351232)
    (h1 : 0 < m.length → ∃ b off, B = some ⟨b, off, none⟩ ∧ b < w.heap.size ∧ ∀ k y, m[k]? = some y → RowAt w b (off + k * 1) (i64c y)) (hlen1 : m.length * 8 ≤ 140737488351232) :
    Calls Try.prog 8 #[.slice A l.length cap, .slice B m.length cap1, .int .i64 cut] w (RetB (.bool true) w) :=
  ringSpliced_any A B cap cap1 l m cut w (intsAt_rows h) hlen (intsAt_rows h1) hlen1
end Go.Proofs.Ytdgdbcapojgnlaa
