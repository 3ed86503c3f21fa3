/-
  lineagelaw10.PackBack: the whole walk.
-/
import Derived.Test.YtpdpdojaaaipcaaDoorAsk
import Derived.Deep.RegionHeld3
namespace Go.Proofs.YtpdpdojaaaipcaaDoor
set_option maxRecDepth 100000
open Go.RowKit
/-- Between two asks: the items xs were taken, their bytes are those that lie before pos. -/
structure BRel (w : World) (g B : Nat) (v : Value) (b : List UInt8) (M : Nat) (l i : Value) (wr : World) : Prop where
  ex : ∃ (k pos : Nat) (xs : List ItemV), k ≤ M ∧ i = .int .i64 (k : Int) ∧ xs.length ≤ k ∧ wr.ownsRow B 57 3 l xs.length (flat ItemV.cells xs) ∧ IsR wr g v b pos ∧ encs xs = b.take pos ∧ Below w.heap.size w wr ∧ B ≤ wr.heap.size
theorem brel_more {w w5 w6 w7 : World} {g B M k pos m : Nat} {v l l' : Value} {b : List UInt8} {xs : List ItemV} (IT : ItemV) (hk1 : k + 1 ≤ M) (hxk : xs.length ≤ k) (hB5 : Below w.heap.size w w5) (hs5 : B ≤ w5.heap.size) (hwg : w.heap.size ≤ g) (hgB : g < B) (hvB : ∀ k, v.ownBlock = some k → k < B)
    (hG6 : w5.grownBy w6 (some g)) (hR6 : IsR w6 g v b (pos + m)) (henc : encs xs = b.take pos) (hE : b.take (pos + m) = b.take pos ++ encI IT)
    (ho6 : w6.ownsRow B 57 3 l xs.length (flat ItemV.cells xs)) (ho7 : w7.ownsRow B 57 3 l' (xs.length + 1) (flat ItemV.cells xs ++ IT.cells.toList)) (hgr : Grows w6 w7 l l') :
    BRel w g B v b M l' (.int .i64 ((k : Int) + 1)) w7 := by
  have hb6 : Below w.heap.size w w6 := hB5.grown hG6 hB5.size (fun j e => by cases e; exact hwg)
  refine ⟨k + 1, pos + m, xs ++ [IT], hk1, rfl, by simp; omega, ?_, hR6.grown hgr.grown (own_ne ho6 hgB) ?_, by rw [encs_snoc, henc, hE], bel_grows hb6 hgr ho6 (by omega) hb6.size, Nat.le_trans hs5 (Nat.le_trans hG6.size hgr.grown.size)⟩
  · rw [flat_snoc, List.length_append]; exact ho7
  · cases hv : v.ownBlock with
    | none => exact .inl rfl
    | some j => exact .inr (fun e => by have h1 := hvB j hv; have h2 := (ho6.lt j e.symm).1; omega)
theorem brel_same {w w5 w6 w7 : World} {g B M k pos : Nat} {v l : Value} {b : List UInt8} {xs : List ItemV} (hk1 : k + 1 ≤ M) (hxk : xs.length ≤ k) (hB5 : Below w.heap.size w w5) (hs5 : B ≤ w5.heap.size) (hwg : w.heap.size ≤ g)
    (hG6 : w5.grownBy w6 (some g)) (hR6 : IsR w6 g v b pos) (henc : encs xs = b.take pos)
    (ho6 : w6.ownsRow B 57 3 l xs.length (flat ItemV.cells xs)) (h7 : Below w6.heap.size w6 w7) :
    BRel w g B v b M l (.int .i64 ((k : Int) + 1)) w7 := by
  have hb6 : Below w.heap.size w w6 := hB5.grown hG6 hB5.size (fun j e => by cases e; exact hwg)
  exact ⟨k + 1, pos, xs, hk1, rfl, by omega, own_below ho6 h7, hR6.below h7 (Nat.le_refl _), henc, hb6.trans (h7.mono hb6.size), Nat.le_trans hs5 (Nat.le_trans hG6.size h7.size)⟩
set_option maxHeartbeats 8000000 in
theorem back_w (A0 : Option Addr) (cap : Nat) (b : List UInt8) (P0 : Option Addr) (cap2 : Nat) (asks : List AskV) (w : World) (hb : BytesAt w A0 b) (hnil : A0 = none → cap = 0 ∧ b = []) (hcap : b.length ≤ cap) (hin : AsksAt w P0 asks) (hlb : b.length ≤ 1048576) (hla : asks.length ≤ 1048576) :
    Calls Tryd.prog 31 #[.slice A0 b.length cap, .slice P0 asks.length cap2] w (RetB (.bool true) w) := by
  obtain ⟨ii, iz, hi0, hz0, hz1, hz2, hz3⟩ := itemInfo
  have HI := Lib.hid hin
  have HBA := Lib.hid hb
  have HNIL := Lib.hid hnil
  have HLB := Lib.hid hlb
  have HCAP := Lib.hid hcap
  obtain ⟨M, hM⟩ : ∃ M, asks.length = M := ⟨_, rfl⟩
  rw [hM] at hla ⊢
  have HM := Lib.hid hM
  have HBL := Lib.hid (show b.length < 9223372036854775807 by omega)
  obtain ⟨N, hN⟩ : ∃ N, b.length = N := ⟨_, rfl⟩
  have HOP := Lib.hid (fun (w1 : World) (h1 : Below w.heap.size w w1) => hN ▸ open_r A0 cap b (by omega) hnil w1 (hb.below h1 (Nat.le_refl _)))
  rw [hN]
  have HN := Lib.hid hN
  have HLA := Lib.hid hla
  clear hin hb hnil hlb hM hla hN hcap
  go_enter Tryd.func31, Tryd.ntmps31
  go_wp2_with (go_at_call 32; fail)
  refine (works_w w).mono ?_
  rintro e w1 ⟨rfl, h1⟩
  have H1 := Lib.hid h1
  clear h1
  go_wp2_with (go_at_call 6; fail)
  refine (HOP.out w1 H1.out).mono ?_
  rintro e w3 ⟨g, v, rfl, hg, hr, h4⟩
  have HG := Lib.hid (show w.heap.size ≤ g by have := H1.out.size; omega)
  have H4 := Lib.hid (H1.out.trans (h4.mono H1.out.size))
  have HVB := Lib.hid (show ∀ k, v.ownBlock = some k → k < w3.heap.size from fun k hk => by obtain ⟨_, ho⟩ := hr.own; exact (ho.lt k hk).2)
  have HGL := Lib.hid hr.blk.lt
  have HR := Lib.hid hr
  clear hg hr h4 HOP
  go_wp2
  go_loopw [6, 7] (BRel w g w3.heap.size v b M) (fun _ i _ => M - (intOf i).toNat)
  case atStart => exact ⟨0, 0, [], Nat.zero_le _, rfl, Nat.le_refl _, ⟨rfl, .inl ⟨rfl, rfl⟩⟩, HR.out, by rw [List.take_zero]; rfl, H4.out, Nat.le_refl _⟩
  case round =>
    obtain ⟨⟨k, pos, xs, hk, rfl, hxk, ho, hr, henc, hbel, hBs⟩⟩ := hrel
    have HO := Lib.hid ho
    have HR1 := Lib.hid hr
    have HENC := Lib.hid henc
    have HBEL := Lib.hid hbel
    have HBS := Lib.hid hBs
    have HXK := Lib.hid hxk
    clear ho hr henc hbel hBs hxk HR H4
    by_cases hlt : k < M
    · have hki : (k : Int) < (M : Int) := by omega
      obtain ⟨x, hx⟩ : ∃ x, asks[k]? = some x := ⟨_, List.getElem?_eq_getElem (by rw [HM.out]; exact hlt)⟩
      have hk1 : k + 1 ≤ M := hlt
      have hkb : (k : Int) + 1 ≤ 4611686018427387904 := by have := HLA.out; omega
      have hlf := left_r g v b pos HBL.out wr HR1.out
      obtain ⟨L, hL⟩ : ∃ L : Nat, b.length - pos = L := ⟨_, rfl⟩
      rw [hL] at hlf
      have HLF := Lib.hid hlf
      have HL := Lib.hid hL
      clear hlf hL
      go_wp2_with (go_at_call 9; fail)
      refine HLF.out.mono ?_
      rintro e w5 ⟨rfl, h5⟩
      have H5 := Lib.hid h5
      have HR5 := Lib.hid (HR1.out.below h5 (Nat.le_refl _))
      have HO5 := Lib.hid (own_below HO.out h5)
      have HBEL5 := Lib.hid (HBEL.out.trans (h5.mono HBEL.out.size))
      have HBS5 := Lib.hid (Nat.le_trans HBS.out h5.size)
      clear h5 HLF
      obtain ⟨bb, off, rfl, hbl, hrow0⟩ := (HI.out.below HBEL5.out (Nat.le_refl _)) (by rw [HM.out]; omega)
      have hrow := hrow0 k x hx
      have x0 : w5.cell? ⟨bb, off + k * 2, none⟩ = some (.bool x.isText) := hrow.at_ 0 _ rfl
      have x1 : w5.cell? ⟨bb, off + k * 2 + 1, none⟩ = some (.int .i64 x.most) := hrow.at_ 1 _ rfl
      have HXL := Lib.hid x.lt
      clear hrow hrow0 hx
      obtain ⟨bt, most, hmost⟩ := x
      dsimp only at x0 x1 HXL
      clear hmost
      cases bt with
      | true =>
        cases hrd : readT (b.drop pos) most with
        | ok q =>
          obtain ⟨s, m⟩ := q
          have HRD := Lib.hid hrd
          clear hrd
          go_wp2_with (go_at_call 12; fail)
          refine (text_ok g v b pos m s most HXL.out HBL.out w5 HR5.out HRD.out).mono ?_
          rintro e w6 ⟨rfl, h6, h7⟩
          have HR6 := Lib.hid h6
          have HG6 := Lib.hid h7
          clear h6 h7
          have HE := Lib.hid (enc_text_back HRD.out HR5.out.le)
          have HOO := Lib.hid (HO5.out.kept HG6.out (.inr fun e => by have := HGL.out; have := (HO5.out.lt g e).1; omega))
          obtain ⟨IT, hIT⟩ : ∃ IT : ItemV, IT = ⟨true, 0#64, strB s⟩ := ⟨_, rfl⟩
          have hbt : Tryd.prog.built 57 (#[(0, .bool true), (2, .string (strB s))] : Array (Nat × Value)).toList = some (ItemV.cells IT) := by rw [hIT]; exact built_text (strB s)
          have hn1 : xs.length + 1 ≤ maxLen := by have h1 := HXK.out; have h2 := HLA.out; unfold maxLen; omega
          have hn2 : (xs.length + 1) * 32 ≤ 140737488355328 := by have h1 := HXK.out; have h2 := HLA.out; omega
          have hB6 : w3.heap.size ≤ w6.heap.size := Nat.le_trans HBS5.out HG6.out.size
          have HIT := Lib.hid hIT
          have HBT := Lib.hid hbt
          have HN1 := Lib.hid hn1
          have HN2 := Lib.hid hn2
          clear hIT hbt hn1 hn2
          go_wp2_with (first
            | ((with_reducible show wpList _ _ _ (Oper.mk _ (Op.build _ _) _ _ _ _ :: _) _ _); refine wpList_build_as (ps := #[(0, .bool true), (2, .string (strB s))]) rfl rfl (by simp [Act.eval, Act.put]) HBT.out ?_)
            | ((with_reducible show wpList _ _ _ (Oper.mk _ (Op.buildSlice _ _ _) _ _ _ _ :: _) _ _); refine wpList_buildSlice_one (vs := IT.cells) (size := 3) rfl rfl rfl Tryd.underlying59 hi0 hz0 hz1 rfl (by decide) (by decide) ?_)
            | (at_builtin; refine wpList_append_grows (v := u6) rfl _ _ _ rfl Tryd.underlying59 hi0 hz0 hz1 hz2 hz3 (by decide) rfl HOO.out rfl rfl (ItemV.one IT) HN1.out HN2.out hB6 ?_; intro g' cap' w7 hown1 hgr1))
          go_roundw
          case rel => exact brel_more IT hk1 HXK.out HBEL5.out HBS5.out HG.out HGL.out HVB.out HG6.out HR6.out HENC.out (by rw [HIT.out]; exact HE.out.1) HOO.out hown1 hgr1
          case measure => simp only [intOf]; omega
        | error cc =>
          have HRD := Lib.hid hrd
          clear hrd
          go_wp2_with (go_at_call 12; fail)
          refine (text_err g v b pos cc most HXL.out HBL.out w5 HR5.out HRD.out).mono ?_
          rintro e w6 ⟨he, h6, h7⟩
          unfold errno at he
          subst he
          have HR6 := Lib.hid h6
          have HG6 := Lib.hid h7
          have HOO := Lib.hid (HO5.out.kept HG6.out (.inr fun e => by have := HGL.out; have := (HO5.out.lt g e).1; omega))
          have hlf := left_r g v b pos HBL.out w6 h6
          rw [HL.out] at hlf
          have HLF := Lib.hid hlf
          clear h6 h7 hlf
          go_wp2_with (go_at_call 9; fail)
          refine HLF.out.mono ?_
          rintro e w7 ⟨rfl, h8⟩
          have H8 := Lib.hid h8
          clear h8
          go_wp2
          go_roundw
          case rel => exact brel_same hk1 HXK.out HBEL5.out HBS5.out HG.out HG6.out HR6.out HENC.out HOO.out H8.out
          case measure => simp only [intOf]; omega
      | false =>
        cases hrd : readN 0 0 (b.drop pos) with
        | ok q =>
          obtain ⟨V, m⟩ := q
          obtain ⟨y, hy, he1, he2⟩ := enc_num_back hrd HR5.out.le
          have hnn := number_ok g v b pos V m HBL.out w5 HR5.out hrd
          rw [hy] at hnn
          have HNN := Lib.hid hnn
          have HE := Lib.hid (And.intro he1 he2)
          clear hrd hnn hy he1 he2
          go_wp2_with (go_at_call 14; fail)
          refine HNN.out.mono ?_
          rintro e w6 ⟨rfl, h6, h7⟩
          have HR6 := Lib.hid h6
          have HG6 := Lib.hid h7
          clear h6 h7
          have HOO := Lib.hid (HO5.out.kept HG6.out (.inr fun e => by have := HGL.out; have := (HO5.out.lt g e).1; omega))
          obtain ⟨IT, hIT⟩ : ∃ IT : ItemV, IT = ⟨false, y, ⟨#[]⟩⟩ := ⟨_, rfl⟩
          have hbt : Tryd.prog.built 57 (#[(1, .int .u64 (wd y))] : Array (Nat × Value)).toList = some (ItemV.cells IT) := by rw [hIT]; exact built_num y
          have hn1 : xs.length + 1 ≤ maxLen := by have h1 := HXK.out; have h2 := HLA.out; unfold maxLen; omega
          have hn2 : (xs.length + 1) * 32 ≤ 140737488355328 := by have h1 := HXK.out; have h2 := HLA.out; omega
          have hB6 : w3.heap.size ≤ w6.heap.size := Nat.le_trans HBS5.out HG6.out.size
          have HIT := Lib.hid hIT
          have HBT := Lib.hid hbt
          have HN1 := Lib.hid hn1
          have HN2 := Lib.hid hn2
          clear hIT hbt hn1 hn2
          go_wp2_with (first
            | ((with_reducible show wpList _ _ _ (Oper.mk _ (Op.build _ _) _ _ _ _ :: _) _ _); refine wpList_build_as (ps := #[(1, .int .u64 (wd y))]) rfl rfl (by simp [Act.eval, Act.put]) HBT.out ?_)
            | ((with_reducible show wpList _ _ _ (Oper.mk _ (Op.buildSlice _ _ _) _ _ _ _ :: _) _ _); refine wpList_buildSlice_one (vs := IT.cells) (size := 3) rfl rfl rfl Tryd.underlying59 hi0 hz0 hz1 rfl (by decide) (by decide) ?_)
            | (at_builtin; refine wpList_append_grows (v := u6) rfl _ _ _ rfl Tryd.underlying59 hi0 hz0 hz1 hz2 hz3 (by decide) rfl HOO.out rfl rfl (ItemV.one IT) HN1.out HN2.out hB6 ?_; intro g' cap' w7 hown1 hgr1))
          go_roundw
          case rel => exact brel_more IT hk1 HXK.out HBEL5.out HBS5.out HG.out HGL.out HVB.out HG6.out HR6.out HENC.out (by rw [HIT.out]; exact HE.out.1) HOO.out hown1 hgr1
          case measure => simp only [intOf]; omega
        | error cc =>
          have HRD := Lib.hid hrd
          clear hrd
          go_wp2_with (go_at_call 14; fail)
          refine (number_err g v b pos cc HBL.out w5 HR5.out HRD.out).mono ?_
          rintro e w6 ⟨he, h6, h7⟩
          unfold errno at he
          subst he
          have HR6 := Lib.hid h6
          have HG6 := Lib.hid h7
          have HOO := Lib.hid (HO5.out.kept HG6.out (.inr fun e => by have := HGL.out; have := (HO5.out.lt g e).1; omega))
          have hlf := left_r g v b pos HBL.out w6 h6
          rw [HL.out] at hlf
          have HLF := Lib.hid hlf
          clear h6 h7 hlf
          go_wp2_with (go_at_call 9; fail)
          refine HLF.out.mono ?_
          rintro e w7 ⟨rfl, h8⟩
          have H8 := Lib.hid h8
          clear h8
          go_wp2
          go_roundw
          case rel => exact brel_same hk1 HXK.out HBEL5.out HBS5.out HG.out HG6.out HR6.out HENC.out HOO.out H8.out
          case measure => simp only [intOf]; omega
    · have hki : ¬ (k : Int) < (M : Int) := by omega
      have hle := HR1.out.le
      have hlf := left_r g v b pos HBL.out wr HR1.out
      rw [HN.out] at hlf hle
      obtain ⟨L, hL⟩ : ∃ L : Nat, N - pos = L := ⟨_, rfl⟩
      rw [hL] at hlf
      have HLF := Lib.hid hlf
      have hN20 : N ≤ 1048576 := by have := HLB.out; have := HN.out; omega
      have hnl : (N : Int) - (L : Int) = (pos : Int) := by omega
      have hp1 : (pos : Int) ≤ (N : Int) := by omega
      have hp2 : (pos : Int) ≤ (cap : Int) := by have := HCAP.out; rw [HN.out] at this; omega
      have hp3 : (0 : Int) ≤ (pos : Int) := by omega
      have HPS := Lib.hid (show pos < 4611686018427387904 by omega)
      clear hlf hL
      obtain ⟨AI, capI, rfl, hIT⟩ := own_items HO.out
      have HIT := Lib.hid hIT
      obtain ⟨NI, hNI⟩ : ∃ NI, xs.length = NI := ⟨_, rfl⟩
      rw [hNI]
      have HPUT := Lib.hid (fun (W : World) (hW : Below wr.heap.size wr W) => hNI ▸ put_w AI capI xs W (HIT.out.below hW (Nat.le_refl _)) (by have h1 := HXK.out; have h2 := HLA.out; omega) (by rw [HENC.out, List.length_take, HN.out]; omega))
      rw [HENC.out] at HPUT
      have hpos : (b.take pos).length = pos := by rw [List.length_take, HN.out]; omega
      have HPL := Lib.hid hpos
      have hposb : (pos : Int) ≤ 1048576 := by omega
      have hd1 : decide ((0 : Int) ≤ (pos : Int)) = true := decide_eq_true hp3
      have hd2 : decide ((pos : Int) ≥ 0) = true := decide_eq_true hp3
      have hd3 : decide ((pos : Int) ≤ (N : Int)) = true := decide_eq_true hp1
      clear hIT hNI hpos hN20 hle
      go_wp2_with (go_at_call 9; fail)
      refine HLF.out.mono ?_
      rintro e w5 ⟨rfl, h5⟩
      have H5 := Lib.hid h5
      have HBA5 := Lib.hid (HBA.out.below (HBEL.out.trans (h5.mono HBEL.out.size)) (Nat.le_refl _))
      clear h5
      have HPT := Lib.hid (show ∀ W : World, Below wr.heap.size wr W → Calls Tryd.prog 49 #[.slice AI NI capI] W fun e w' => ∃ Ap cp, e = .returned (.slice Ap pos cp) ∧ BytesAt w' Ap (b.take pos) ∧ Below W.heap.size W w' from fun W hW => (HPUT.out W hW).mono fun e w' ⟨vp, he, ho', hb'⟩ => by
        obtain ⟨Ap, cp, hv, hbp, _⟩ := own_by ho'
        rw [HPL.out] at hv
        exact ⟨Ap, cp, by rw [he, hv], hbp, hb'⟩)
      have H5D := Lib.hid (H5.out.trans (Below.mono (bel_drw' w5) H5.out.size))
      clear HPUT
      have HBD := Lib.hid ((HBA.out.below HBEL.out (Nat.le_refl _)).take pos)
      go_wp2
      clear HBA HNIL HLB HCAP HM HBL HN HLA H1 HG HVB HGL HI HR1 HENC HBS HXK HLF HO HIT HBA5 H5 hki hlt hk hi0 hz0 hz1 hz2 hz3
      refine wp_region_noPanic ?_
      go_region_held3 (fun W' => Below wr.heap.size wr W')
        (first | assumption | exact H5D.out | exact Below.trans (by assumption) (Below.mono hb7 (Below.size (by assumption))) | exact Below.trans (by assumption) (Below.mono hb8 (Below.size (by assumption))))
        (first
          | (go_at_call 49; refine (HPT.out _ (by assumption)).mono ?_; rintro e w7 ⟨Ap, cp, rfl, hbp, hb7⟩)
          | (go_at_call 47; refine (same_any Ap A0 cp cap pos (b.take pos) HPL.out HPS.out w7 hbp (HBD.out.below (by assumption) (Nat.le_refl _))).mono ?_; rintro e w8 ⟨rfl, hb8⟩))
      refine NoPanic.normal ?_
      go_wp2
      go_ret
      have hh : Below wr.heap.size wr w8 := by assumption
      exact ⟨rfl, HBEL.out.trans (hh.mono HBEL.out.size)⟩
theorem back_upto (A0 : Option Addr) (cap : Nat) (b : List UInt8) (P0 : Option Addr) (cap2 : Nat) (asks : List AskV) (w : World) (hin0 : BytesAt w A0 b) (hlc : b.length ≤ cap) (hnil : A0 = none → cap = 0) {B1 B2 : Nat} (hn : b.length ≤ B1) (hin : AsksAt w P0 asks) (hn2 : asks.length ≤ B2) (hB : B1 + (B2 + 0) ≤ 1048576) :
    Calls Tryd.prog 31 #[.slice A0 b.length cap, .slice P0 asks.length cap2] w (RetB (.bool true) w) :=
  back_w A0 cap b P0 cap2 asks w hin0 (fun e => ⟨hnil e, List.length_eq_zero_iff.1 (by have := hnil e; omega)⟩) hlc hin (by omega) (by omega)
end Go.Proofs.YtpdpdojaaaipcaaDoor
