/-
  lineagelaw10.PackReads: the whole walk.
-/
import Derived.Test.YtpdpdojaaaipcaaDoorCopyB
import Derived.Test.YtpdpdojaaaipcaaDoorKeptBB
import Derived.Test.YtpdpdojaaaipcaaDoorPlain
import Derived.Test.YtpdpdojaaaipcaaDoorAskV
namespace Go.Proofs.YtpdpdojaaaipcaaDoor
set_option maxRecDepth 100000
open Go.RowKit
theorem own_blk {w : World} {base size g n c m : Nat} {e : TypeId} {xs : List Value} (h : w.ownsRow base e size (.slice (some ⟨g, 0, none⟩) n c) m xs) : ∃ cur, Blk w g e cur := by
  rcases h.2 with ⟨h, _⟩ | ⟨g', cap', cur, hv, _, h1, _⟩
  · cases h
  · injection hv with h3 h4 h5
    injection h3 with h3
    injection h3 with h3
    subst h3
    exact ⟨cur, ⟨h1⟩⟩
theorem open_r2 (A : Option Addr) (cap : Nat) (b : List UInt8) (hl : b.length ≤ 140737488355328) (hnil : A = none → cap = 0 ∧ b = []) (w : World) (hb : BytesAt w A b) :
    Calls Tryd.prog 6 #[.slice A b.length cap] w fun e w' => ∃ g v, e = .returned (.pointer (some ⟨g, 0, none⟩)) ∧ w.heap.size ≤ g ∧ IsR w' g v b 0 ∧ Below w.heap.size w w' ∧ (∀ k, v.ownBlock = some k → w.heap.size ≤ k) := by
  have HC := Lib.hid (clone_any A cap b hl hnil w hb)
  clear hb hnil hl
  obtain ⟨N, hN⟩ : ∃ N, b.length = N := ⟨_, rfl⟩
  rw [hN]
  rw [hN] at HC
  have HN := Lib.hid hN
  clear hN
  go_enter Tryd.func6, Tryd.ntmps6
  go_wp2_with (go_at_call 20; fail)
  refine HC.out.mono ?_
  rintro e w1 ⟨v', rfl, h1, h2⟩
  obtain ⟨p', c', rfl⟩ := pk_slice h1
  have H1 := Lib.hid h1
  have H2 := Lib.hid h2
  clear h1 h2
  go_wp2
  go_ret
  refine ⟨w1.heap.size, .slice p' N c', rfl, H2.out.size, ⟨Blk.new w1 47 #[.slice p' N c', .int .i64 0], ⟨w.heap.size, ?_⟩, ?_, Nat.zero_le _⟩, H2.out.alloc H2.out.size (.cells #[.slice p' N c', .int .i64 0] 47), fun k hk => (H1.out.lt k hk).1⟩
  · rw [HN.out]; exact H1.out.alloc _
  · intro e
    have := (H1.out.lt _ e.symm).2
    omega
theorem own_rat {w : World} {base : Nat} {v : Value} {l : List UInt8} (h : w.ownsRow base 5 1 v l.length (byv l)) : ∃ A cap, v = .slice A l.length cap ∧ l.length ≤ cap ∧ RAt w A l ∧ (∀ a, A = some a → base ≤ a.block) := by
  rcases h.2 with ⟨rfl, h2⟩ | ⟨g, cap, cur, rfl, h2⟩
  · obtain rfl : l = [] := List.length_eq_zero_iff.1 h2
    exact ⟨none, 0, rfl, Nat.le_refl _, .inl ⟨rfl, rfl⟩, fun a e => by cases e⟩
  · refine ⟨_, cap, rfl, h2.2.2.1, .inr ⟨g, 0, rfl, (h.lt g rfl).2, fun k x hk => ?_⟩, fun a e => by cases e; exact h2.1⟩
    have := h.cells rfl k (.int .u8 (x.toNat : Int)) (by unfold byv u8v; rw [List.getElem?_map, List.getElem?_map, hk]; rfl)
    rwa [Addr.add_lit] at this
theorem IsR.grown2 {w w' : World} {g : Nat} {v : Value} {b : List UInt8} {k : Nat} {row : Option Nat} (h : IsR w g v b k) (hG : w.grownBy w' row) (hg : some g ≠ row) (hv : v.ownBlock = none ∨ v.ownBlock ≠ row) : IsR w' g v b k :=
  ⟨h.blk.grown hG hg, h.own.imp fun _ ho => ho.kept hG (hv.imp_left fun e => by simpa using e), h.ne, h.le⟩
theorem add_block (a : Addr) (n : Nat) : (a.add n).block = a.block := by
  unfold Addr.add
  split <;> rfl
theorem readT_err {l : List UInt8} {most : Int} {c : Int} (h : readT l most = .error c) : 1 ≤ c ∧ c ≤ 24 := by
  unfold readT at h
  split at h
  · rename_i e he
    injection h with h
    subst h
    rcases readN_err _ _ _ _ he with rfl | rfl <;> decide
  · split at h
    · injection h with h; subst h; decide
    · split at h
      · injection h with h; subst h; decide
      · cases h
theorem readT_len {l : List UInt8} {most : Int} {s : List UInt8} {m : Nat} (h : readT l most = .ok (s, m)) : m ≤ l.length := by
  obtain ⟨rest, h1, h2⟩ := readT_back h
  have := congrArg List.length h1
  rw [List.length_append, List.length_append] at this
  omega
/-- While x is turned: the reader stands at the beginning. -/
structure XRel (w : World) (gx g : Nat) (v : Value) (b : List UInt8) (i : Value) (wr : World) : Prop where
  ex : ∃ (k : Nat) (cur : Array Value), k ≤ b.length ∧ i = .int .i64 (k : Int) ∧ Blk wr gx 5 cur ∧ (∀ j y, k ≤ j → b[j]? = some y → cur[j]? = some (.int .u8 (y.toNat : Int))) ∧ IsR wr g v b 0 ∧ Below w.heap.size w wr
/-- Between two asks. -/
structure QRel (w : World) (g : Nat) (v : Value) (b : List UInt8) (M : Nat) (l i : Value) (wr : World) : Prop where
  ex : ∃ (k pos RN RC : Nat) (RA : Option Addr), k ≤ M ∧ i = .int .i64 (k : Int) ∧ l = .slice RA RN RC ∧ RN = b.length - pos ∧ RN ≤ RC ∧ RAt wr RA (b.drop pos) ∧ (∀ a, RA = some a → a.block ≠ g) ∧ IsR wr g v b pos ∧ Below w.heap.size w wr
set_option maxHeartbeats 16000000 in
theorem reads_w (A0 : Option Addr) (cap : Nat) (b : List UInt8) (P0 : Option Addr) (cap2 : Nat) (asks : List AskV) (w : World) (hb : BytesAt w A0 b) (hin : AsksAt w P0 asks) (hlb : b.length ≤ 140737488351232) (hla : asks.length ≤ 140737488351232) (hg : Laid w) :
    Calls Tryd.prog 3 #[.slice A0 b.length cap, .slice P0 asks.length cap2] w (RetB (.bool true) w) := by
  have HI := Lib.hid hin
  have HBA := Lib.hid hb
  have HLB := Lib.hid hlb
  have HLD := Lib.hid hg
  obtain ⟨M, hM⟩ : ∃ M, asks.length = M := ⟨_, rfl⟩
  rw [hM] at hla ⊢
  have HM := Lib.hid hM
  have HBL := Lib.hid (show b.length < 9223372036854775807 by omega)
  obtain ⟨N, hN⟩ : ∃ N, b.length = N := ⟨_, rfl⟩
  have HLENT := Lib.hid (hN ▸ lentB_any A0 b.length cap b rfl hlb w hb)
  have HKEPT := Lib.hid (fun (gx cx : Nat) (h1 : b.length + 16 ≤ cx) (w1 : World) (ho : BytesAt w1 (some ⟨gx, 0, none⟩) (fullB b)) (hb1 : BytesAt w1 A0 b) => keptB_any gx cx A0 b.length cap b rfl hlb h1 w1 ho hb1)
  rw [hN] at HKEPT ⊢
  have HN := Lib.hid hN
  have HLA := Lib.hid hla
  clear hin hb hlb hM hla hN hg
  go_enter Tryd.func3, Tryd.ntmps3
  go_wp2_with (go_at_call 5; fail)
  refine HLENT.out.mono ?_
  rintro e w1 ⟨gx, cx, rfl, hcx, hcx2, hfull, hb1, hown⟩
  obtain ⟨cur0, hblk⟩ := own_blk hown
  have HX := Lib.hid hblk
  have HFULL := Lib.hid hfull
  have HB1 := Lib.hid hb1
  have HGX := Lib.hid (hown.lt gx rfl)
  have HCX := Lib.hid hcx
  have hxb : BytesAt w1 (some ⟨gx, 0, none⟩) b := by have := hfull.take b.length; rwa [fullB_take] at this
  have HXB := Lib.hid hxb
  have HOP := Lib.hid (HN.out ▸ open_r2 (some ⟨gx, 0, none⟩) cx b (by have := HLB.out; omega) (fun e => by cases e) w1 hxb)
  clear hblk hfull hb1 hown hcx2 hxb hcx
  go_wp2_with (go_at_call 6; fail)
  refine HOP.out.mono ?_
  rintro e w2 ⟨g, v, rfl, hg2, hr, hb2, hvb⟩
  have HG := Lib.hid hg2
  have HR := Lib.hid hr
  have HB2 := Lib.hid hb2
  have HXX := Lib.hid (HX.out.below hb2 HX.out.lt)
  have HK2 := Lib.hid (HKEPT.out gx cx HCX.out w2 (HFULL.out.below hb2 (Nat.le_refl _)) ((HBA.out.below HB1.out (Nat.le_refl _)).below hb2 (Nat.le_refl _)))
  have HVX := Lib.hid (show v.ownBlock ≠ some gx from fun e => by have h1 := hvb gx e; have h2 := HGX.out.2; omega)
  clear hg2 hr hb2 hvb
  go_wp2_with (go_at_call 7; fail)
  refine HK2.out.mono ?_
  rintro e w3 ⟨rfl, rfl⟩
  have HBW := Lib.hid (HB1.out.trans (HB2.out.mono HB1.out.size))
--BODY
  go_wp2
  go_loopw [7] (XRel w gx g v b) (fun i _ => N - (intOf i).toNat)
  case atStart => exact ⟨⟨0, _, Nat.zero_le _, rfl, HXX.out, fun j y _ hy => by have h1 := (HXB.out.below HB2.out (Nat.le_refl _)) (by have := (List.getElem?_eq_some_iff.1 hy).1; omega); obtain ⟨b1, o1, e1, _, h2⟩ := h1; injection e1 with e1; injection e1 with e1 e2; subst e1 e2; have h3 := h2 j y hy; rw [Nat.zero_add, HXX.out.cell] at h3; exact h3, HR.out, HBW.out⟩⟩
  case round =>
    obtain ⟨⟨k, cur, hk, rfl, hbk, hcur, hr, hbel⟩⟩ := hrel
    have HBK := Lib.hid hbk
    have HCUR := Lib.hid hcur
    have HR1 := Lib.hid hr
    have HBEL := Lib.hid hbel
    rw [HN.out] at hk
    clear hbk hcur hr hbel HR HXX HBW HK2 HOP HKEPT HLENT HX HFULL HXB
    by_cases hlt : k < N
    · have hki : (k : Int) < (N : Int) := by omega
      obtain ⟨y, hy⟩ : ∃ y, b[k]? = some y := ⟨_, List.getElem?_eq_getElem (by rw [HN.out]; exact hlt)⟩
      have x0 : wr.cell? ⟨gx, k, none⟩ = some (.int .u8 (y.toNat : Int)) := (HBK.out.cell k).trans (HCUR.out k y (Nat.le_refl _) hy)
      have z0 := HBK.out.frozen k
      have hkb : (k : Int) + 1 ≤ 4611686018427387904 := by have := HLB.out; rw [HN.out] at this; omega
      have hcx : (N : Int) ≤ (cx : Int) := by have := HCX.out; omega
      clear hy
      go_wp2
      go_roundw
      case rel =>
        refine ⟨⟨k + 1, _, by rw [HN.out]; omega, rfl, HBK.out.set_ k _, fun j y' hj hy' => ?_, HR1.out.grown2 (grownBy_set wr gx k _) (fun e => by injection e with e; have := HG.out; have := HGX.out; omega) (.inr HVX.out), HBEL.out.setCell (p := ⟨gx, k, none⟩) HGX.out.1 _⟩⟩
        rw [Array.getElem?_setIfInBounds_ne (by omega)]
        exact HCUR.out j y' (by omega) hy'
      case measure => simp only [intOf]; omega
    · have hki : ¬ (k : Int) < (N : Int) := by omega
      have HCP := Lib.hid (copyB_any A0 N cap b HN.out (by have := HLB.out; have := HN.out; omega) wr (HBA.out.below HBEL.out (Nat.le_refl _)))
      clear HCUR HBK
      go_wp2_with (go_at_call 8; fail)
      refine HCP.out.mono ?_
      rintro e w4 ⟨v4, rfl, ho, hb4⟩
      rw [← HN.out] at ho
      obtain ⟨RA0, RC0, rfl, hrc, hra, hrb⟩ := own_rat ho
      have HRC := Lib.hid hrc
      have HRA := Lib.hid hra
      have HRB := Lib.hid (show ∀ a, RA0 = some a → a.block ≠ g from fun a e => by have h1 := hrb a e; have h2 := HR1.out.blk.lt; omega)
      have HR4 := Lib.hid (HR1.out.below hb4 (Nat.le_refl _))
      have HB4 := Lib.hid (HBEL.out.trans (hb4.mono HBEL.out.size))
      clear ho hb4 hrc hra hrb HCP HR1 HBEL
      go_wp2
      go_loopw [8, 9] (QRel w g v b M) (fun _ i _ => M - (intOf i).toNat)
      case atStart => exact ⟨⟨0, 0, b.length, RC0, RA0, Nat.zero_le _, rfl, rfl, rfl, HRC.out, HRA.out, HRB.out, HR4.out, HB4.out⟩⟩
      case round =>
        clear HRC HRA HRB HR4 HB4 hki hlt hk
        obtain ⟨⟨k, pos, RN, RC, RA, hk, rfl, rfl, hrn, hrc, hra, hrb, hr, hbel⟩⟩ := hrel
        have HRN := Lib.hid hrn
        have HRC := Lib.hid hrc
        have HRA := Lib.hid hra
        have HRB := Lib.hid hrb
        have HR1 := Lib.hid hr
        have HBEL := Lib.hid hbel
        have HRL := Lib.hid (show (b.drop pos).length = RN by rw [List.length_drop, hrn])
        have HRB62 := Lib.hid (show RN < 4611686018427387904 by have := HLB.out; omega)
        have hlf := left_r g v b pos HBL.out wr hr
        rw [← hrn] at hlf
        have HLF := Lib.hid hlf
        clear hrn hrc hra hrb hr hbel hlf
        by_cases hlt : k < M
        · have hki : (k : Int) < (M : Int) := by omega
          obtain ⟨x, hx⟩ : ∃ x, asks[k]? = some x := ⟨_, List.getElem?_eq_getElem (by rw [HM.out]; exact hlt)⟩
          have hk1 : k + 1 ≤ M := hlt
          have hkb : (k : Int) + 1 ≤ 4611686018427387904 := by have := HLA.out; omega
          have HX := Lib.hid hx
          have HXL := Lib.hid x.lt
          clear hx
          by_cases hz : 0 < RN
          · have hz' : (0 : Int) < (RN : Int) := by omega
            have HEND := Lib.hid (fun (W : World) (h : IsR W g v b pos) => end_some g v b pos HBL.out (by have := HRN.out; omega) W h)
            have HPL := Lib.hid (fun (W : World) (h : Laid W) => plain_errno 3 3 (by decide) (by decide) W h)
            go_wp2_with (go_at_call 9; fail)
            refine HLF.out.mono ?_
            rintro e w5 ⟨rfl, h5⟩
            have H5 := Lib.hid h5
            have HR5 := Lib.hid (HR1.out.below h5 (Nat.le_refl _))
            clear h5 HLF
            go_wp2_with (go_at_call 11; fail)
            refine (HEND.out w5 HR5.out).mono ?_
            rintro e w6 ⟨he, h6⟩
            unfold errno at he
            subst he
            have H6 := Lib.hid (H5.out.trans (h6.mono H5.out.size))
            clear h6 HR5 H5 HEND
            go_wp2_with (go_at_call 10; fail)
            refine (HPL.out w6 (HLD.out.below (HBEL.out.trans (H6.out.mono HBEL.out.size)) HLD.out.pos)).mono ?_
            rintro e w7 ⟨rfl, h7⟩
            have H7 := Lib.hid (H6.out.trans (h7.mono H6.out.size))
            have HR7 := Lib.hid (HR1.out.below H7.out (Nat.le_refl _))
            have HRA7 := Lib.hid (HRA.out.below H7.out)
            have HBEL7 := Lib.hid (HBEL.out.trans (H7.out.mono HBEL.out.size))
            obtain ⟨bb, off, rfl, hbl, hrow0⟩ := (HI.out.below HBEL7.out (Nat.le_refl _)) (by rw [HM.out]; omega)
            have hrow := hrow0 k x HX.out
            have x0 : w7.cell? ⟨bb, off + k * 2, none⟩ = some (.bool x.isText) := hrow.at_ 0 _ rfl
            have x1 : w7.cell? ⟨bb, off + k * 2 + 1, none⟩ = some (.int .i64 x.most) := hrow.at_ 1 _ rfl
            clear h7 H6 HPL hrow hrow0 hbl
            obtain ⟨bt, hbt⟩ : ∃ bt, x.isText = bt := ⟨_, rfl⟩
            obtain ⟨most, hmo⟩ : ∃ most, x.most = most := ⟨_, rfl⟩
            rw [hbt] at x0
            rw [hmo] at x1 HXL
            have HMO := Lib.hid hmo
            clear hbt hmo
            cases bt with
            | true =>
              cases hrd : readT (b.drop pos) most with
              | ok q =>
                obtain ⟨s, m⟩ := q
                have HRD := Lib.hid hrd
                have hm : m ≤ RN := by have := readT_len hrd; rw [HRL.out] at this; exact this
                clear hrd
                go_wp2_with (go_at_call 12; fail)
                refine (text_ok g v b pos m s most HXL.out HBL.out w7 HR7.out HRD.out).mono ?_
                rintro e w8 ⟨rfl, h8, h9⟩
                have HR8 := Lib.hid h8
                have HRA8 := Lib.hid (HRA7.out.kept HRB.out h9)
                have HB8 := Lib.hid (HBEL7.out.grown h9 HBEL7.out.size (fun j e => by cases e; have h1 := HG.out; have h2 := HB1.out.size; omega))
                obtain ⟨b', off', e', _, hrow8⟩ := (HI.out.below HB8.out (Nat.le_refl _)) (by rw [HM.out]; omega)
                have hrow8 := hrow8 k _ HX.out
                injection e' with e'
                injection e' with e1 e2
                rw [← e1, ← e2] at hrow8
                have y1 : w8.cell? ⟨bb, off + k * 2 + 1, none⟩ = some (.int .i64 most) := by rw [← HMO.out]; exact hrow8.at_ 1 _ rfl
                clear h8 h9 hrow8 e1 e2 x0 x1
                have htk := rtaken_any RA RC RN (b.drop pos) HRL.out HRC.out HRB62.out most HXL.out w8 HRA8.out
                rw [HRD.out] at htk
                have HTK := Lib.hid htk
                clear htk
                go_wp2_with (go_at_call 13; fail)
                refine HTK.out.mono ?_
                rintro e w9 ⟨rfl, h10⟩
                simp only [rtakenV]
                have HB9 := Lib.hid (HB8.out.trans (h10.mono HB8.out.size))
                have HH9 := Lib.hid h10
                clear h10 HTK
                go_wp2_with (go_at_call 10; fail)
                refine (plain_nil 0 w9).mono ?_
                rintro e w10 ⟨rfl, h11⟩
                have HH10 := Lib.hid (HH9.out.trans (h11.mono HH9.out.size))
                clear h11
                have hd0 : decide ((0 : Int) = 0) = true := by decide
                have hm1 : (m : Int) ≤ (RN : Int) := by omega
                have hm2 : (RN : Int) ≤ (RC : Int) := by have := HRC.out; omega
                obtain ⟨AD, hAD⟩ : ∃ AD, (if RC = m then RA else Option.map (fun x => Addr.add x m) RA) = AD := ⟨_, rfl⟩
                have had := HRA8.out.drop m RC (by rw [HRL.out]; exact HRC.out)
                rw [hAD, List.drop_drop] at had
                have HAD := Lib.hid had
                have HADB := Lib.hid (show ∀ a, AD = some a → a.block ≠ g from fun a e => by
                  rw [← hAD] at e
                  split at e
                  · exact HRB.out a e
                  · cases hRA : RA with
                    | none => rw [hRA] at e; cases e
                    | some a0 => rw [hRA] at e; cases e; show (Addr.add a0 m).block ≠ g; rw [add_block]; exact HRB.out a0 hRA)
                clear had
                go_wp2
                go_roundw
                case rel => exact ⟨⟨k + 1, pos + m, RN - m, RC - m, AD, hk1, rfl, rfl, by have := HRN.out; omega, by have := HRC.out; omega, HAD.out.below HH10.out, HADB.out, HR8.out.below HH10.out (Nat.le_refl _), HB8.out.trans (HH10.out.mono HB8.out.size)⟩⟩
                case measure => simp only [intOf]; omega
              | error cc =>
                have HRD := Lib.hid hrd
                have HCC := Lib.hid (readT_err hrd)
                clear hrd
                go_wp2_with (go_at_call 12; fail)
                refine (text_err g v b pos cc most HXL.out HBL.out w7 HR7.out HRD.out).mono ?_
                rintro e w8 ⟨he, h8, h9⟩
                unfold errno at he
                subst he
                have HR8 := Lib.hid h8
                have HRA8 := Lib.hid (HRA7.out.kept HRB.out h9)
                have HB8 := Lib.hid (HBEL7.out.grown h9 HBEL7.out.size (fun j e => by cases e; have h1 := HG.out; have h2 := HB1.out.size; omega))
                obtain ⟨b', off', e', _, hrow8⟩ := (HI.out.below HB8.out (Nat.le_refl _)) (by rw [HM.out]; omega)
                have hrow8 := hrow8 k _ HX.out
                injection e' with e'
                injection e' with e1 e2
                rw [← e1, ← e2] at hrow8
                have y1 : w8.cell? ⟨bb, off + k * 2 + 1, none⟩ = some (.int .i64 most) := by rw [← HMO.out]; exact hrow8.at_ 1 _ rfl
                clear h8 h9 hrow8 e1 e2 x0 x1
                have htk := rtaken_any RA RC RN (b.drop pos) HRL.out HRC.out HRB62.out most HXL.out w8 HRA8.out
                rw [HRD.out] at htk
                have HTK := Lib.hid htk
                clear htk
                go_wp2_with (go_at_call 13; fail)
                refine HTK.out.mono ?_
                rintro e w9 ⟨rfl, h10⟩
                simp only [rtakenV]
                have HB9 := Lib.hid (HB8.out.trans (h10.mono HB8.out.size))
                have HH9 := Lib.hid h10
                clear h10 HTK
                go_wp2_with (go_at_call 10; fail)
                refine (plain_errno cc cc HCC.out.1 HCC.out.2 w9 (HLD.out.below HB9.out HLD.out.pos)).mono ?_
                rintro e w10 ⟨rfl, h11⟩
                have HH10 := Lib.hid (HH9.out.trans (h11.mono HH9.out.size))
                clear h11
                have hd0 : decide (cc = cc) = true := by simp
                have hm2 : (RN : Int) ≤ (RC : Int) := by have := HRC.out; omega
                obtain ⟨AD, hAD⟩ : ∃ AD, (if RC = 0 then RA else Option.map (fun x => Addr.add x 0) RA) = AD := ⟨_, rfl⟩
                have hADe : AD = RA := by rw [← hAD]; split; rfl; cases RA <;> rfl
                have HADE := Lib.hid hADe
                clear hADe
                go_wp2
                go_roundw
                case rel => exact ⟨⟨k + 1, pos, RN, RC, _, hk1, rfl, rfl, HRN.out, HRC.out, by first | exact HRA8.out.below HH10.out | (rw [HADE.out]; exact HRA8.out.below HH10.out), by first | exact HRB.out | (rw [HADE.out]; exact HRB.out), HR8.out.below HH10.out (Nat.le_refl _), HB8.out.trans (HH10.out.mono HB8.out.size)⟩⟩
                case measure => simp only [intOf]; omega
            | false =>
              cases hrd : readN 0 0 (b.drop pos) with
              | ok q =>
                obtain ⟨V, m⟩ := q
                have HRD := Lib.hid hrd
                have hm : m ≤ RN := by have := (readN_len hrd).1; rw [HRL.out] at this; exact this
                clear hrd
                go_wp2_with (go_at_call 14; fail)
                refine (number_ok g v b pos V m HBL.out w7 HR7.out HRD.out).mono ?_
                rintro e w8 ⟨rfl, h8, h9⟩
                have HR8 := Lib.hid h8
                have HRA8 := Lib.hid (HRA7.out.kept HRB.out h9)
                have HB8 := Lib.hid (HBEL7.out.grown h9 HBEL7.out.size (fun j e => by cases e; have h1 := HG.out; have h2 := HB1.out.size; omega))
                clear h8 h9 x0 x1
                have htk := rnum_any RA RC RN (b.drop pos) HRL.out HRB62.out w8 HRA8.out.bytes
                rw [HRD.out] at htk
                have HTK := Lib.hid htk
                clear htk
                go_wp2_with (go_at_call 15; fail)
                refine HTK.out.mono ?_
                rintro e w9 ⟨rfl, h10⟩
                simp only [rnumV]
                have HB9 := Lib.hid (HB8.out.trans (h10.mono HB8.out.size))
                have HH9 := Lib.hid h10
                clear h10 HTK
                go_wp2_with (go_at_call 10; fail)
                refine (plain_nil 0 w9).mono ?_
                rintro e w10 ⟨rfl, h11⟩
                have HH10 := Lib.hid (HH9.out.trans (h11.mono HH9.out.size))
                clear h11
                have hd0 : decide ((0 : Int) = 0) = true := by decide
                have hm1 : (m : Int) ≤ (RN : Int) := by omega
                have hm2 : (RN : Int) ≤ (RC : Int) := by have := HRC.out; omega
                obtain ⟨AD, hAD⟩ : ∃ AD, (if RC = m then RA else Option.map (fun x => Addr.add x m) RA) = AD := ⟨_, rfl⟩
                have had := HRA8.out.drop m RC (by rw [HRL.out]; exact HRC.out)
                rw [hAD, List.drop_drop] at had
                have HAD := Lib.hid had
                have HADB := Lib.hid (show ∀ a, AD = some a → a.block ≠ g from fun a e => by
                  rw [← hAD] at e
                  split at e
                  · exact HRB.out a e
                  · cases hRA : RA with
                    | none => rw [hRA] at e; cases e
                    | some a0 => rw [hRA] at e; cases e; show (Addr.add a0 m).block ≠ g; rw [add_block]; exact HRB.out a0 hRA)
                clear had
                go_wp2
                go_roundw
                case rel => exact ⟨⟨k + 1, pos + m, RN - m, RC - m, AD, hk1, rfl, rfl, by have := HRN.out; omega, by have := HRC.out; omega, HAD.out.below HH10.out, HADB.out, HR8.out.below HH10.out (Nat.le_refl _), HB8.out.trans (HH10.out.mono HB8.out.size)⟩⟩
                case measure => simp only [intOf]; omega
              | error cc =>
                have HRD := Lib.hid hrd
                have HCC := Lib.hid (show 1 ≤ cc ∧ cc ≤ 24 by rcases readN_err _ _ _ _ hrd with rfl | rfl <;> decide)
                clear hrd
                go_wp2_with (go_at_call 14; fail)
                refine (number_err g v b pos cc HBL.out w7 HR7.out HRD.out).mono ?_
                rintro e w8 ⟨he, h8, h9⟩
                unfold errno at he
                subst he
                have HR8 := Lib.hid h8
                have HRA8 := Lib.hid (HRA7.out.kept HRB.out h9)
                have HB8 := Lib.hid (HBEL7.out.grown h9 HBEL7.out.size (fun j e => by cases e; have h1 := HG.out; have h2 := HB1.out.size; omega))
                clear h8 h9 x0 x1
                have htk := rnum_any RA RC RN (b.drop pos) HRL.out HRB62.out w8 HRA8.out.bytes
                rw [HRD.out] at htk
                have HTK := Lib.hid htk
                clear htk
                go_wp2_with (go_at_call 15; fail)
                refine HTK.out.mono ?_
                rintro e w9 ⟨rfl, h10⟩
                simp only [rnumV]
                have HB9 := Lib.hid (HB8.out.trans (h10.mono HB8.out.size))
                have HH9 := Lib.hid h10
                clear h10 HTK
                go_wp2_with (go_at_call 10; fail)
                refine (plain_errno cc cc HCC.out.1 HCC.out.2 w9 (HLD.out.below HB9.out HLD.out.pos)).mono ?_
                rintro e w10 ⟨rfl, h11⟩
                have HH10 := Lib.hid (HH9.out.trans (h11.mono HH9.out.size))
                clear h11
                have hd0 : decide (cc = cc) = true := by simp
                have hm2 : (RN : Int) ≤ (RC : Int) := by have := HRC.out; omega
                obtain ⟨AD, hAD⟩ : ∃ AD, (if RC = 0 then RA else Option.map (fun x => Addr.add x 0) RA) = AD := ⟨_, rfl⟩
                have hADe : AD = RA := by rw [← hAD]; split; rfl; cases RA <;> rfl
                have HADE := Lib.hid hADe
                clear hADe
                go_wp2
                go_roundw
                case rel => exact ⟨⟨k + 1, pos, RN, RC, _, hk1, rfl, rfl, HRN.out, HRC.out, by first | exact HRA8.out.below HH10.out | (rw [HADE.out]; exact HRA8.out.below HH10.out), by first | exact HRB.out | (rw [HADE.out]; exact HRB.out), HR8.out.below HH10.out (Nat.le_refl _), HB8.out.trans (HH10.out.mono HB8.out.size)⟩⟩
                case measure => simp only [intOf]; omega
          · have hz' : ¬ (0 : Int) < (RN : Int) := by omega
            have HEND := Lib.hid (fun (W : World) (h : IsR W g v b pos) => end_none g v b pos HBL.out (by have := HRN.out; have := h.le; omega) W h)
            have HPL := Lib.hid (fun (W : World) => plain_nil 0 W)
            go_wp2_with (go_at_call 9; fail)
            refine HLF.out.mono ?_
            rintro e w5 ⟨rfl, h5⟩
            have H5 := Lib.hid h5
            have HR5 := Lib.hid (HR1.out.below h5 (Nat.le_refl _))
            clear h5 HLF
            go_wp2_with (go_at_call 11; fail)
            refine (HEND.out w5 HR5.out).mono ?_
            rintro e w6 ⟨he, h6⟩
            skip
            subst he
            have H6 := Lib.hid (H5.out.trans (h6.mono H5.out.size))
            clear h6 HR5 H5 HEND
            go_wp2_with (go_at_call 10; fail)
            refine (HPL.out w6).mono ?_
            rintro e w7 ⟨rfl, h7⟩
            have H7 := Lib.hid (H6.out.trans (h7.mono H6.out.size))
            have HR7 := Lib.hid (HR1.out.below H7.out (Nat.le_refl _))
            have HRA7 := Lib.hid (HRA.out.below H7.out)
            have HBEL7 := Lib.hid (HBEL.out.trans (H7.out.mono HBEL.out.size))
            obtain ⟨bb, off, rfl, hbl, hrow0⟩ := (HI.out.below HBEL7.out (Nat.le_refl _)) (by rw [HM.out]; omega)
            have hrow := hrow0 k x HX.out
            have x0 : w7.cell? ⟨bb, off + k * 2, none⟩ = some (.bool x.isText) := hrow.at_ 0 _ rfl
            have x1 : w7.cell? ⟨bb, off + k * 2 + 1, none⟩ = some (.int .i64 x.most) := hrow.at_ 1 _ rfl
            clear h7 H6 HPL hrow hrow0 hbl
            obtain ⟨bt, hbt⟩ : ∃ bt, x.isText = bt := ⟨_, rfl⟩
            obtain ⟨most, hmo⟩ : ∃ most, x.most = most := ⟨_, rfl⟩
            rw [hbt] at x0
            rw [hmo] at x1 HXL
            have HMO := Lib.hid hmo
            clear hbt hmo
            cases bt with
            | true =>
              cases hrd : readT (b.drop pos) most with
              | ok q =>
                obtain ⟨s, m⟩ := q
                have HRD := Lib.hid hrd
                have hm : m ≤ RN := by have := readT_len hrd; rw [HRL.out] at this; exact this
                clear hrd
                go_wp2_with (go_at_call 12; fail)
                refine (text_ok g v b pos m s most HXL.out HBL.out w7 HR7.out HRD.out).mono ?_
                rintro e w8 ⟨rfl, h8, h9⟩
                have HR8 := Lib.hid h8
                have HRA8 := Lib.hid (HRA7.out.kept HRB.out h9)
                have HB8 := Lib.hid (HBEL7.out.grown h9 HBEL7.out.size (fun j e => by cases e; have h1 := HG.out; have h2 := HB1.out.size; omega))
                obtain ⟨b', off', e', _, hrow8⟩ := (HI.out.below HB8.out (Nat.le_refl _)) (by rw [HM.out]; omega)
                have hrow8 := hrow8 k _ HX.out
                injection e' with e'
                injection e' with e1 e2
                rw [← e1, ← e2] at hrow8
                have y1 : w8.cell? ⟨bb, off + k * 2 + 1, none⟩ = some (.int .i64 most) := by rw [← HMO.out]; exact hrow8.at_ 1 _ rfl
                clear h8 h9 hrow8 e1 e2 x0 x1
                have htk := rtaken_any RA RC RN (b.drop pos) HRL.out HRC.out HRB62.out most HXL.out w8 HRA8.out
                rw [HRD.out] at htk
                have HTK := Lib.hid htk
                clear htk
                go_wp2_with (go_at_call 13; fail)
                refine HTK.out.mono ?_
                rintro e w9 ⟨rfl, h10⟩
                simp only [rtakenV]
                have HB9 := Lib.hid (HB8.out.trans (h10.mono HB8.out.size))
                have HH9 := Lib.hid h10
                clear h10 HTK
                go_wp2_with (go_at_call 10; fail)
                refine (plain_nil 0 w9).mono ?_
                rintro e w10 ⟨rfl, h11⟩
                have HH10 := Lib.hid (HH9.out.trans (h11.mono HH9.out.size))
                clear h11
                have hd0 : decide ((0 : Int) = 0) = true := by decide
                have hm1 : (m : Int) ≤ (RN : Int) := by omega
                have hm2 : (RN : Int) ≤ (RC : Int) := by have := HRC.out; omega
                obtain ⟨AD, hAD⟩ : ∃ AD, (if RC = m then RA else Option.map (fun x => Addr.add x m) RA) = AD := ⟨_, rfl⟩
                have had := HRA8.out.drop m RC (by rw [HRL.out]; exact HRC.out)
                rw [hAD, List.drop_drop] at had
                have HAD := Lib.hid had
                have HADB := Lib.hid (show ∀ a, AD = some a → a.block ≠ g from fun a e => by
                  rw [← hAD] at e
                  split at e
                  · exact HRB.out a e
                  · cases hRA : RA with
                    | none => rw [hRA] at e; cases e
                    | some a0 => rw [hRA] at e; cases e; show (Addr.add a0 m).block ≠ g; rw [add_block]; exact HRB.out a0 hRA)
                clear had
                go_wp2
                go_roundw
                case rel => exact ⟨⟨k + 1, pos + m, RN - m, RC - m, AD, hk1, rfl, rfl, by have := HRN.out; omega, by have := HRC.out; omega, HAD.out.below HH10.out, HADB.out, HR8.out.below HH10.out (Nat.le_refl _), HB8.out.trans (HH10.out.mono HB8.out.size)⟩⟩
                case measure => simp only [intOf]; omega
              | error cc =>
                have HRD := Lib.hid hrd
                have HCC := Lib.hid (readT_err hrd)
                clear hrd
                go_wp2_with (go_at_call 12; fail)
                refine (text_err g v b pos cc most HXL.out HBL.out w7 HR7.out HRD.out).mono ?_
                rintro e w8 ⟨he, h8, h9⟩
                unfold errno at he
                subst he
                have HR8 := Lib.hid h8
                have HRA8 := Lib.hid (HRA7.out.kept HRB.out h9)
                have HB8 := Lib.hid (HBEL7.out.grown h9 HBEL7.out.size (fun j e => by cases e; have h1 := HG.out; have h2 := HB1.out.size; omega))
                obtain ⟨b', off', e', _, hrow8⟩ := (HI.out.below HB8.out (Nat.le_refl _)) (by rw [HM.out]; omega)
                have hrow8 := hrow8 k _ HX.out
                injection e' with e'
                injection e' with e1 e2
                rw [← e1, ← e2] at hrow8
                have y1 : w8.cell? ⟨bb, off + k * 2 + 1, none⟩ = some (.int .i64 most) := by rw [← HMO.out]; exact hrow8.at_ 1 _ rfl
                clear h8 h9 hrow8 e1 e2 x0 x1
                have htk := rtaken_any RA RC RN (b.drop pos) HRL.out HRC.out HRB62.out most HXL.out w8 HRA8.out
                rw [HRD.out] at htk
                have HTK := Lib.hid htk
                clear htk
                go_wp2_with (go_at_call 13; fail)
                refine HTK.out.mono ?_
                rintro e w9 ⟨rfl, h10⟩
                simp only [rtakenV]
                have HB9 := Lib.hid (HB8.out.trans (h10.mono HB8.out.size))
                have HH9 := Lib.hid h10
                clear h10 HTK
                go_wp2_with (go_at_call 10; fail)
                refine (plain_errno cc cc HCC.out.1 HCC.out.2 w9 (HLD.out.below HB9.out HLD.out.pos)).mono ?_
                rintro e w10 ⟨rfl, h11⟩
                have HH10 := Lib.hid (HH9.out.trans (h11.mono HH9.out.size))
                clear h11
                have hd0 : decide (cc = cc) = true := by simp
                have hm2 : (RN : Int) ≤ (RC : Int) := by have := HRC.out; omega
                obtain ⟨AD, hAD⟩ : ∃ AD, (if RC = 0 then RA else Option.map (fun x => Addr.add x 0) RA) = AD := ⟨_, rfl⟩
                have hADe : AD = RA := by rw [← hAD]; split; rfl; cases RA <;> rfl
                have HADE := Lib.hid hADe
                clear hADe
                go_wp2
                go_roundw
                case rel => exact ⟨⟨k + 1, pos, RN, RC, _, hk1, rfl, rfl, HRN.out, HRC.out, by first | exact HRA8.out.below HH10.out | (rw [HADE.out]; exact HRA8.out.below HH10.out), by first | exact HRB.out | (rw [HADE.out]; exact HRB.out), HR8.out.below HH10.out (Nat.le_refl _), HB8.out.trans (HH10.out.mono HB8.out.size)⟩⟩
                case measure => simp only [intOf]; omega
            | false =>
              cases hrd : readN 0 0 (b.drop pos) with
              | ok q =>
                obtain ⟨V, m⟩ := q
                have HRD := Lib.hid hrd
                have hm : m ≤ RN := by have := (readN_len hrd).1; rw [HRL.out] at this; exact this
                clear hrd
                go_wp2_with (go_at_call 14; fail)
                refine (number_ok g v b pos V m HBL.out w7 HR7.out HRD.out).mono ?_
                rintro e w8 ⟨rfl, h8, h9⟩
                have HR8 := Lib.hid h8
                have HRA8 := Lib.hid (HRA7.out.kept HRB.out h9)
                have HB8 := Lib.hid (HBEL7.out.grown h9 HBEL7.out.size (fun j e => by cases e; have h1 := HG.out; have h2 := HB1.out.size; omega))
                clear h8 h9 x0 x1
                have htk := rnum_any RA RC RN (b.drop pos) HRL.out HRB62.out w8 HRA8.out.bytes
                rw [HRD.out] at htk
                have HTK := Lib.hid htk
                clear htk
                go_wp2_with (go_at_call 15; fail)
                refine HTK.out.mono ?_
                rintro e w9 ⟨rfl, h10⟩
                simp only [rnumV]
                have HB9 := Lib.hid (HB8.out.trans (h10.mono HB8.out.size))
                have HH9 := Lib.hid h10
                clear h10 HTK
                go_wp2_with (go_at_call 10; fail)
                refine (plain_nil 0 w9).mono ?_
                rintro e w10 ⟨rfl, h11⟩
                have HH10 := Lib.hid (HH9.out.trans (h11.mono HH9.out.size))
                clear h11
                have hd0 : decide ((0 : Int) = 0) = true := by decide
                have hm1 : (m : Int) ≤ (RN : Int) := by omega
                have hm2 : (RN : Int) ≤ (RC : Int) := by have := HRC.out; omega
                obtain ⟨AD, hAD⟩ : ∃ AD, (if RC = m then RA else Option.map (fun x => Addr.add x m) RA) = AD := ⟨_, rfl⟩
                have had := HRA8.out.drop m RC (by rw [HRL.out]; exact HRC.out)
                rw [hAD, List.drop_drop] at had
                have HAD := Lib.hid had
                have HADB := Lib.hid (show ∀ a, AD = some a → a.block ≠ g from fun a e => by
                  rw [← hAD] at e
                  split at e
                  · exact HRB.out a e
                  · cases hRA : RA with
                    | none => rw [hRA] at e; cases e
                    | some a0 => rw [hRA] at e; cases e; show (Addr.add a0 m).block ≠ g; rw [add_block]; exact HRB.out a0 hRA)
                clear had
                go_wp2
                go_roundw
                case rel => exact ⟨⟨k + 1, pos + m, RN - m, RC - m, AD, hk1, rfl, rfl, by have := HRN.out; omega, by have := HRC.out; omega, HAD.out.below HH10.out, HADB.out, HR8.out.below HH10.out (Nat.le_refl _), HB8.out.trans (HH10.out.mono HB8.out.size)⟩⟩
                case measure => simp only [intOf]; omega
              | error cc =>
                have HRD := Lib.hid hrd
                have HCC := Lib.hid (show 1 ≤ cc ∧ cc ≤ 24 by rcases readN_err _ _ _ _ hrd with rfl | rfl <;> decide)
                clear hrd
                go_wp2_with (go_at_call 14; fail)
                refine (number_err g v b pos cc HBL.out w7 HR7.out HRD.out).mono ?_
                rintro e w8 ⟨he, h8, h9⟩
                unfold errno at he
                subst he
                have HR8 := Lib.hid h8
                have HRA8 := Lib.hid (HRA7.out.kept HRB.out h9)
                have HB8 := Lib.hid (HBEL7.out.grown h9 HBEL7.out.size (fun j e => by cases e; have h1 := HG.out; have h2 := HB1.out.size; omega))
                clear h8 h9 x0 x1
                have htk := rnum_any RA RC RN (b.drop pos) HRL.out HRB62.out w8 HRA8.out.bytes
                rw [HRD.out] at htk
                have HTK := Lib.hid htk
                clear htk
                go_wp2_with (go_at_call 15; fail)
                refine HTK.out.mono ?_
                rintro e w9 ⟨rfl, h10⟩
                simp only [rnumV]
                have HB9 := Lib.hid (HB8.out.trans (h10.mono HB8.out.size))
                have HH9 := Lib.hid h10
                clear h10 HTK
                go_wp2_with (go_at_call 10; fail)
                refine (plain_errno cc cc HCC.out.1 HCC.out.2 w9 (HLD.out.below HB9.out HLD.out.pos)).mono ?_
                rintro e w10 ⟨rfl, h11⟩
                have HH10 := Lib.hid (HH9.out.trans (h11.mono HH9.out.size))
                clear h11
                have hd0 : decide (cc = cc) = true := by simp
                have hm2 : (RN : Int) ≤ (RC : Int) := by have := HRC.out; omega
                obtain ⟨AD, hAD⟩ : ∃ AD, (if RC = 0 then RA else Option.map (fun x => Addr.add x 0) RA) = AD := ⟨_, rfl⟩
                have hADe : AD = RA := by rw [← hAD]; split; rfl; cases RA <;> rfl
                have HADE := Lib.hid hADe
                clear hADe
                go_wp2
                go_roundw
                case rel => exact ⟨⟨k + 1, pos, RN, RC, _, hk1, rfl, rfl, HRN.out, HRC.out, by first | exact HRA8.out.below HH10.out | (rw [HADE.out]; exact HRA8.out.below HH10.out), by first | exact HRB.out | (rw [HADE.out]; exact HRB.out), HR8.out.below HH10.out (Nat.le_refl _), HB8.out.trans (HH10.out.mono HB8.out.size)⟩⟩
                case measure => simp only [intOf]; omega
        · have hki : ¬ (k : Int) < (M : Int) := by omega
          go_wp2_with (go_at_call 9; fail)
          refine HLF.out.mono ?_
          rintro e w5 ⟨rfl, h5⟩
          have H5 := Lib.hid h5
          clear h5
          go_wp2
          go_ret
          exact ⟨rfl, HBEL.out.trans (H5.out.mono HBEL.out.size)⟩
end Go.Proofs.YtpdpdojaaaipcaaDoor
