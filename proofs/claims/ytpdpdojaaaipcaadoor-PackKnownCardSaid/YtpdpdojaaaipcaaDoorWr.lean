/-
  lineagelaw10.PackWrites: the whole walk.
-/
import Derived.Test.YtpdpdojaaaipcaaDoorWrA
namespace Go.Proofs.YtpdpdojaaaipcaaDoor
set_option maxRecDepth 100000
open Go.RowKit
theorem byv_one (l : List UInt8) : ∀ u ∈ byv l, u.oneCell' = true := by
  intro u hu
  simp only [byv, u8v, List.mem_map] at hu
  obtain ⟨n, _, rfl⟩ := hu
  rfl
theorem own_slice {w : World} {B n : Nat} {v : Value} {l : List UInt8} (h : w.ownsRow B 5 1 v n (byv l)) (hn : 0 < n) : ∃ b c, v = .slice (some ⟨b, 0, none⟩) n c ∧ ∀ j u, (byv l)[j]? = some u → w.cell? ((⟨b, 0, none⟩ : Addr).add j) = some u := by
  obtain ⟨b, c, rfl, _⟩ := own_val h hn
  exact ⟨b, c, rfl, h.cells rfl⟩
theorem own_low2 {w : World} {base b2 : Nat} {e : TypeId} {size : Nat} {v : Value} {n : Nat} {xs : List Value} (h : w.ownsRow base e size v n xs) (hb : b2 ≤ base) : w.ownsRow b2 e size v n xs := by
  rcases h with ⟨h1, h2 | ⟨g, cap, cur, hv, hg, hrest⟩⟩
  · exact ⟨h1, .inl h2⟩
  · exact ⟨h1, .inr ⟨g, cap, cur, hv, by omega, hrest⟩⟩
theorem Beside.new {w0 w w' : World} {gx gy n : Nat} {vx vy va vb vl v : Value} {lx ly la lb l : List UInt8} {els : List (Value × Nat)} {f : Nat → List UInt8} (h : PW w0 gx gy vx vy va vb vl lx ly la lb els f w) (ho : w'.ownsRow w.heap.size 5 1 v n (byv l)) : Beside w0.heap.size (DD gx gy vx vy va vb vl els) w' v n l :=
  ⟨own_low2 ho h.bel.size, fun q hq => h.fresh (ho.lt q hq).1⟩
theorem bs_sl2 (p : Option Addr) (n c : Nat) (p2 : Option Addr) (n2 c2 : Nat) (w : World) : (Instr.buildSlice 80 2 #[(0, .slice p n c), (1, .slice p2 n2 c2)]).run Tryd.prog w = .ok (.slice (some ⟨w.heap.size, 0, none⟩) 2 2) (w.alloc (.cells #[.slice p n c, .slice p2 n2 c2] 22)) := by kernel_rfl
/-- Between two items. -/
structure WRel (w : World) (gx gy : Nat) (xs : List ItemV) (va vb vl i : Value) (wr : World) : Prop where
  ex : ∃ (k : Nat) (vx vy : Value) (lx ly : List UInt8) (els : List (Value × Nat)) (f : Nat → List UInt8), k ≤ xs.length ∧ i = .int .i64 (k : Int) ∧ PW w gx gy vx vy va vb vl lx ly lx ly els f wr ∧ lx.length + ly.length = (encs (xs.take k)).length ∧ els.length ≤ k ∧ (∀ e ∈ els, e.2 ≤ (encs (xs.take k)).length)
theorem PW.apart {w0 w : World} {gx gy : Nat} {vx vy va vb vl : Value} {lx ly la lb : List UInt8} {els : List (Value × Nat)} {f : Nat → List UInt8} (h : PW w0 gx gy vx vy va vb vl lx ly la lb els f w) : Apart vl els := by
  refine ⟨fun i j a b g ha hb hga hgb => ?_, fun j a g ha hga hl => ?_⟩
  · have := h.once (7 + i) (7 + j) g (by rw [h.el_at ha, hga]) (by rw [h.el_at hb, hgb])
    omega
  · have := h.once (7 + j) 6 g (by rw [h.el_at ha, hga]) (by show some vl.ownBlock = _; rw [hl])
    omega
set_option maxHeartbeats 16000000 in
theorem writes_w (P0 : Option Addr) (cap : Nat) (xs : List ItemV) (w : World) (hin : ItemsAt w P0 xs) (hlen : xs.length ≤ 1048576) (hsz : (encs xs).length ≤ 1073741824) (hss : ∀ x ∈ xs, x.s.size ≤ 1073741824) :
    Calls Tryd.prog 29 #[.slice P0 xs.length cap] w (RetB (.bool true) w) := by
  obtain ⟨ii, iz, hi0, hz0, hz1, hz2, hz3⟩ := u8Info
  obtain ⟨si, sz, si0, sz0, sz1, sz2, sz3⟩ := slInfo
  have HI := Lib.hid hin
  have HSZ := Lib.hid hsz
  have HLN := Lib.hid hlen
  have HSS := Lib.hid hss
  obtain ⟨N, hN⟩ : ∃ N, xs.length = N := ⟨_, rfl⟩
  rw [hN] at HLN ⊢
  have HN := Lib.hid hN
  clear hin hsz hN hlen hss
  go_enter Tryd.func29, Tryd.ntmps29
  go_wp2_with (go_at_call 41; fail)
  refine (new_w w).mono ?_
  rintro e w1 ⟨rfl, h1, h2⟩
  have H1 := Lib.hid h1
  have H2 := Lib.hid h2
  clear h1 h2
  go_wp2_with (go_at_call 41; fail)
  refine (new_w w1).mono ?_
  rintro e w2 ⟨rfl, h3, h4⟩
  have h1' : IsW w2 w.heap.size (.slice none 0 0) [] := ⟨H1.out.blk.below h4 H1.out.blk.lt, own_below H1.out.own h4⟩
  have H3 := Lib.hid h3
  have H4 := Lib.hid (H2.out.trans (h4.mono H2.out.size))
  have H1' := Lib.hid h1'
  have HGG := Lib.hid (show w.heap.size < w1.heap.size from H1.out.blk.lt)
  clear h3 h4 h1'
  go_wp2_with (go_at_call 42; fail)
  refine (bytes_w w.heap.size _ [] (by decide) w2 H1'.out).mono ?_
  rintro e w3 ⟨v3, rfl, h5, h6⟩
  obtain ⟨p3, c3, rfl⟩ := pk_slice h5
  have hpw : PW w w.heap.size w1.heap.size (.slice none 0 0) (.slice none 0 0) (.slice none 0 0) (.slice none 0 0) (.slice none 0 0) [] [] [] [] [] (fun _ => []) w3 := by
    refine ⟨⟨H1'.out.blk.below h6 H1'.out.blk.lt, own_below H1'.out.own h6⟩, ⟨H3.out.blk.below h6 H3.out.blk.lt, own_below H3.out.own h6⟩, ⟨rfl, .inl ⟨rfl, rfl⟩⟩, ⟨rfl, .inl ⟨rfl, rfl⟩⟩, ⟨rfl, .inl ⟨rfl, rfl⟩⟩, ⟨fun j e he => by simp at he⟩, fun i j q hi hj => ?_, H4.out.trans (h6.mono H4.out.size), Nat.le_refl _, H2.out.size⟩
    have hg := HGG.out
    have key : ∀ i, (DD w.heap.size w1.heap.size (.slice none 0 0) (.slice none 0 0) (.slice none 0 0) (.slice none 0 0) (.slice none 0 0) [])[i]? = some (some q) → (i = 0 ∧ q = w.heap.size) ∨ (i = 1 ∧ q = w1.heap.size) := fun i hi => by
      match i, hi with
      | 0, hi => cases hi; exact .inl ⟨rfl, rfl⟩
      | 1, hi => cases hi; exact .inr ⟨rfl, rfl⟩
      | 2, hi => cases hi
      | 3, hi => cases hi
      | 4, hi => cases hi
      | 5, hi => cases hi
      | 6, hi => cases hi
      | n + 7, hi => simp [DD] at hi
    rcases key i hi with ⟨h1, h2⟩ | ⟨h1, h2⟩ <;> rcases key j hj with ⟨h3, h4⟩ | ⟨h3, h4⟩ <;> omega
  have HPW := Lib.hid hpw
  obtain ⟨gx, hgx⟩ : ∃ gx, w.heap.size = gx := ⟨_, rfl⟩
  obtain ⟨gy, hgy⟩ : ∃ gy, w1.heap.size = gy := ⟨_, rfl⟩
  rw [hgx, hgy] at HPW
  rw [hgx, hgy]
  clear h5 h6 hpw hgx hgy
  go_wp2
  go_loopw [5, 6, 7, 8] (WRel w gx gy xs) (fun _ _ _ i _ => N - (intOf i).toNat)
  case atStart => exact ⟨⟨0, _, _, [], [], [], _, Nat.zero_le _, rfl, HPW.out, rfl, Nat.le_refl _, fun e he => by cases he⟩⟩
  case round =>
    obtain ⟨⟨k, vx, vy, lx, ly, els, f, hk, rfl, hpw, hsum, hel, hlen⟩⟩ := hrel
    rw [HN.out] at hk
    have HP := Lib.hid hpw
    have HSUM := Lib.hid hsum
    have HEL := Lib.hid hel
    have HLE := Lib.hid hlen
    clear hpw hsum hel hlen HPW
    by_cases hlt : k < N
    · have hki : (k : Int) < (N : Int) := by omega
      have hNb : (N : Int) ≤ 1048576 := by have := HLN.out; omega
      have hk0 : (0 : Int) ≤ (k : Int) := by omega
      obtain ⟨b, off, rfl, hbl, hrow0⟩ := (HI.out.below HP.out.bel (Nat.le_refl _)) (by rw [HN.out]; omega)
      obtain ⟨x, hx⟩ : ∃ x, xs[k]? = some x := ⟨_, List.getElem?_eq_getElem (by rw [HN.out]; exact hlt)⟩
      have hrow := hrow0 k x hx
      have x0 : wr.cell? ⟨b, off + k * 3, none⟩ = some (.bool x.isText) := hrow.at_ 0 _ rfl
      have x1 : wr.cell? ⟨b, off + k * 3 + 1, none⟩ = some (.int .u64 (wd x.v)) := hrow.at_ 1 _ rfl
      have x2 : wr.cell? ⟨b, off + k * 3 + 2, none⟩ = some (.string x.s) := hrow.at_ 2 _ rfl
      have HE := Lib.hid (congrArg List.length (encs_take hx))
      have HSP := Lib.hid (congrArg List.length (encs_split hx))
      have HX := Lib.hid hx
      have HXS := Lib.hid (HSS.out x (List.mem_of_getElem? hx))
      have hk1 : k + 1 ≤ N := hlt
      clear hrow0 hrow hx
      obtain ⟨bt, y, s⟩ := x
      dsimp only at x0 x1 x2 HXS
      have HCL := Lib.hid (show ∀ W : World, Below w.heap.size w W → W.cell? ⟨b, off + k * 3, none⟩ = some (.bool bt) ∧ W.cell? ⟨b, off + k * 3 + 1, none⟩ = some (.int .u64 (wd y)) ∧ W.cell? ⟨b, off + k * 3 + 2, none⟩ = some (.string s) from fun W hW => by
        obtain ⟨b', off', e', hb', hr'⟩ := HI.out (by rw [HN.out]; omega)
        injection e' with e'
        injection e' with e1 e2
        subst e1 e2
        have hr := (hr' k _ HX.out).below hW (by omega)
        exact ⟨hr.at_ 0 _ rfl, hr.at_ 1 _ rfl, hr.at_ 2 _ rfl⟩)
      have HBD := Lib.hid (show lx.length + ly.length ≤ 1073741824 by
        have h1 := HSP.out
        have h2 := HSZ.out
        rw [List.length_append] at h1
        have h3 := HSUM.out
        omega)
      have HBX := Lib.hid (show lx.length ≤ 1073741824 by have := HBD.out; omega)
      have HBD2 := HBX
      clear hbl
      by_cases hm : k % 3 = 2
      · have hmod : ((k : Int) % 3 == 2) = true := by rw [beq_iff_eq]; omega
        cases bt with
        | true =>
          by_cases h20 : k < 20
          · have h20i : (k : Int) < 20 := by omega
            go_wp2_with (go_at_call 43; fail)
            refine (rsev_any y wr).mono ?_
            rintro e wS ⟨v1, rfl, ho1, hb1⟩
            have hp1 := HP.out.below hb1
            have hbs := Beside.new HP.out ho1
            have HP1 := Lib.hid hp1
            have HBS := Lib.hid hbs
            clear x0 x1 x2
            obtain ⟨x0, x1, x2⟩ := HCL.out wS hp1.bel
            clear ho1 hb1 hp1 hbs

            go_wp2_with (go_at_call 44; fail)
            refine (text_w2 gy vy ly s (by have := HBD.out; have := HXS.out; omega) wS HP1.out.y).mono ?_
            rintro e wN ⟨rfl, v2, hw2, ht2⟩
            have hpn := HP1.out.turnY ht2 hw2
            have HPN := Lib.hid hpn
            clear x0 x1 x2
            obtain ⟨x0, x1, x2⟩ := HCL.out wN hpn.bel
            clear hw2 ht2 HP1 HBS hpn
            go_wp2_with (go_at_call 45; fail)
            refine (rtext_any s (by have := HXS.out; omega) wN).mono ?_
            rintro e wP ⟨v3, rfl, ho3, hb3⟩
            have hp2 := HPN.out.below hb3
            obtain ⟨pb, pc, rfl, hpc⟩ := own_slice ho3 (by rw [List.length_append]; have := sevens_pos s.size; omega)
            clear ho3 hb3 HPN x0 x1 x2

            obtain ⟨PP, hPP⟩ : ∃ PP, (sevens s.size ++ s.data.toList) = PP := ⟨_, rfl⟩
            have hpl : PP.length ≤ 1073741844 := by rw [← hPP]; have := HBD2.out; rw [List.length_append, show s.data.toList.length = s.size by rw [Array.length_toList]; rfl]; have := sevens_le 9 s.size (by have := HXS.out; exact Nat.lt_of_le_of_lt this (by decide)); have := HXS.out; omega
            rw [hPP] at hp2 hpc ⊢
            have HPP := Lib.hid hPP
            have HPL := Lib.hid hpl
            obtain ⟨v5, wA, hr5, ho5, hg5⟩ := run_append_gr (P := Tryd.prog) wP w.heap.size 22 22 5 ii iz 1 1 Tryd.underlying22 hi0 hz0 hz1 hz2 hz3 (by decide) u6 ly.length (byv ly) hp2.b ⟨pb, 0, none⟩ PP.length pc (byv PP) (by rw [byv_len, Nat.mul_one]) hpc (byv_one PP) (by have := HBD.out; unfold maxLen; omega) (by have := HBD.out; omega) hp2.bel.size
            rw [← byv_append, ← List.length_append] at ho5
            have hp4 := hp2.turnB hg5 ho5
            obtain ⟨LZ, hLZ⟩ : ∃ LZ, ly ++ PP = LZ := ⟨_, rfl⟩
            rw [hLZ] at hp4 ho5
            have HLZ := Lib.hid (congrArg List.length hLZ)
            obtain ⟨A5, c5, rfl, _⟩ := own_by ho5
            have HR5 := Lib.hid hr5
            have HP4 := Lib.hid hp4
            clear hr5 ho5 hg5 hp4 hp2 hpc hPP hLZ hpl

            go_wp2_with (first
              | (at_builtin; refine wpList_append_run rfl rfl rfl rfl HR5.out ?_)
              | (go_at_call 42; fail))
            refine (bytes_w gx vx lx (by have := HBX.out; have h9 := HLZ.out; have := HBD.out; have := HPL.out; omega) wA HP4.out.x).mono ?_
            rintro e wB ⟨v6, rfl, ho6, hb6⟩
            have hbs6 := Beside.new HP4.out ho6
            have hp5 := HP4.out.below hb6
            obtain ⟨A6, c6, rfl⟩ := pk_slice ho6
            obtain ⟨GV, hGV⟩ : ∃ GV, Value.slice A6 lx.length c6 = GV := ⟨_, rfl⟩
            have hbsl : ∀ w : World, (Instr.buildSlice 80 1 #[(0, GV)]).run Tryd.prog w = .ok (.slice (some ⟨w.heap.size, 0, none⟩) 1 1) (w.alloc (.cells #[GV] 22)) := fun w => by rw [← hGV]; exact bs_sl _ _ _ w
            have hone : GV.oneCell' = true := by rw [← hGV]; rfl
            rw [hGV] at hbs6 ⊢
            have hal := hp5.below ((Below.refl wB.heap.size wB).alloc (Nat.le_refl _) (.cells #[GV] 22))
            obtain ⟨v7, wL, hr7, ho7, hg7⟩ := run_append_gr (P := Tryd.prog) (wB.alloc (.cells #[GV] 22)) w.heap.size 80 80 22 si sz 1 24 Tryd.underlying80 si0 sz0 sz1 sz2 sz3 (by decide) u7 els.length _ hal.l ⟨wB.heap.size, 0, none⟩ 1 1 [GV] rfl
              (fun j u hu => by rw [Addr.add_lit, Nat.zero_add, (Blk.new wB _ _).cell]; simpa using hu) (fun u hu => by simp at hu; subst hu; exact hone) (by have := HEL.out; have := HLN.out; unfold maxLen; omega) (by have := HEL.out; have := HLN.out; omega) hal.bel.size
            have hp7 := hal.push hg7 ho7 (n := lx.length) (l := lx) ⟨hbs6.own.alloc _, hbs6.free⟩
            obtain ⟨gl, cl, rfl, hgl⟩ := own_val ho7 (Nat.succ_pos _)
            have l0 := ho7.cells rfl els.length GV (by rw [List.getElem?_append_right (by simp), List.length_map, Nat.sub_self]; rfl)
            rw [Addr.add_lit, Nat.zero_add] at l0
            have h6a := hp7.el.own els.length (GV, lx.length) (by rw [List.getElem?_append_right (Nat.le_refl _), Nat.sub_self]; rfl)
            simp only [if_true] at h6a
            have hba6 : BytesAt wL A6 lx := by
              rw [← hGV] at h6a
              obtain ⟨A, c, e, hb, _⟩ := own_by h6a
              injection e with e1 _ _
              rw [e1]; exact hb
            obtain ⟨A7, c7, e7, hba7, _⟩ := own_by hp7.a
            subst e7
            obtain ⟨LN, hLN⟩ : ∃ LN, els.length = LN := ⟨_, rfl⟩
            rw [hLN] at l0 hr7 hgl
            obtain ⟨LM, hLM⟩ : ∃ LM, LN + 1 = LM := ⟨_, rfl⟩
            rw [hLM] at hr7 hgl
            rw [show els.length + 1 = LM by omega] at hp7
            have hlm : (LM : Int) - 1 = (LN : Int) := by omega
            have hlm2 : (LN : Int) < (LM : Int) := by omega
            have hln0 : (0 : Int) ≤ (LN : Int) := by omega
            have hlmb : (LM : Int) ≤ 2097152 := by have := HEL.out; have := HLN.out; omega
            have hlmc : (LM : Int) ≤ (cl : Int) := by omega
            have HGV := Lib.hid hGV
            have HBSL := Lib.hid hbsl
            have HR7 := Lib.hid hr7
            have HP7 := Lib.hid hp7
            have hsm := (same_any A6 A7 c6 c7 lx.length lx rfl (by have := HBX.out; have h9 := HLZ.out; have := HBD.out; have := HPL.out; omega) wL hba6 hba7)
            rw [hGV] at hsm
            have HSM := Lib.hid hsm
            clear hsm ho6 hb6 hbs6 hp5 hGV hbsl hone hal hr7 ho7 hg7 hp7 h6a hba6 hba7 hLN hLM hgl
            go_wp2_with (first
              | ((with_reducible show wpList _ _ _ (Oper.mk _ (Op.buildSlice _ _ _) _ _ _ _ :: _) _ _); refine wpList_buildSlice_run (e := 22) (ps := #[(0, GV)]) (cs := #[GV]) rfl rfl (by simp [Act.eval]) HBSL.out ?_)
              | (at_builtin; refine wpList_append_run rfl rfl rfl rfl HR7.out ?_)
              | (go_at_call 47; fail))
            refine HSM.out.mono ?_
            rintro e wM ⟨rfl, h8⟩
            have HP8 := Lib.hid (HP7.out.below h8)
            have HSUM2 := Lib.hid (show lx.length + LZ.length = (encs (xs.take (k + 1))).length from (by
                  have h1 := HLZ.out
                  have h2 := HSUM.out
                  have h3 := HE.out
                  rw [List.length_append] at h1 h3
                  rw [encI_text, HPP.out] at h3
                  omega))
            clear h8
            go_wp2
            go_roundw
            case rel =>
              refine ⟨⟨k + 1, vx, v2, lx, LZ, els ++ [(GV, lx.length)], _, by rw [HN.out]; exact hk1, rfl, HP8.out, HSUM2.out, by rw [List.length_append]; have := HEL.out; show els.length + 1 ≤ k + 1; omega, fun e he => ?_⟩⟩
              rcases List.mem_append.1 he with he | he
              · exact Nat.le_trans (HLE.out e he) (show (encs (xs.take k)).length ≤ (encs (xs.take (k + 1))).length by rw [HE.out, List.length_append]; omega)
              · simp only [List.mem_singleton] at he
                subst he
                have := HSUM2.out
                show lx.length ≤ _
                omega
            case measure => simp only [intOf]; omega
          · have h20i : ¬ (k : Int) < 20 := by omega
            go_wp2_with (go_at_call 43; fail)
            refine (rsev_any y wr).mono ?_
            rintro e wS ⟨v1, rfl, ho1, hb1⟩
            have hp1 := HP.out.below hb1
            have hbs := Beside.new HP.out ho1
            have HP1 := Lib.hid hp1
            have HBS := Lib.hid hbs
            clear x0 x1 x2
            obtain ⟨x0, x1, x2⟩ := HCL.out wS hp1.bel
            clear ho1 hb1 hp1 hbs

            go_wp2_with (go_at_call 44; fail)
            refine (text_w2 gy vy ly s (by have := HBD.out; have := HXS.out; omega) wS HP1.out.y).mono ?_
            rintro e wN ⟨rfl, v2, hw2, ht2⟩
            have hpn := HP1.out.turnY ht2 hw2
            have HPN := Lib.hid hpn
            clear x0 x1 x2
            obtain ⟨x0, x1, x2⟩ := HCL.out wN hpn.bel
            clear hw2 ht2 HP1 HBS hpn
            go_wp2_with (go_at_call 45; fail)
            refine (rtext_any s (by have := HXS.out; omega) wN).mono ?_
            rintro e wP ⟨v3, rfl, ho3, hb3⟩
            have hp2 := HPN.out.below hb3
            obtain ⟨pb, pc, rfl, hpc⟩ := own_slice ho3 (by rw [List.length_append]; have := sevens_pos s.size; omega)
            clear ho3 hb3 HPN x0 x1 x2

            obtain ⟨PP, hPP⟩ : ∃ PP, (sevens s.size ++ s.data.toList) = PP := ⟨_, rfl⟩
            have hpl : PP.length ≤ 1073741844 := by rw [← hPP]; have := HBD2.out; rw [List.length_append, show s.data.toList.length = s.size by rw [Array.length_toList]; rfl]; have := sevens_le 9 s.size (by have := HXS.out; exact Nat.lt_of_le_of_lt this (by decide)); have := HXS.out; omega
            rw [hPP] at hp2 hpc ⊢
            have HPP := Lib.hid hPP
            have HPL := Lib.hid hpl
            obtain ⟨v5, wA, hr5, ho5, hg5⟩ := run_append_gr (P := Tryd.prog) wP w.heap.size 22 22 5 ii iz 1 1 Tryd.underlying22 hi0 hz0 hz1 hz2 hz3 (by decide) u6 ly.length (byv ly) hp2.b ⟨pb, 0, none⟩ PP.length pc (byv PP) (by rw [byv_len, Nat.mul_one]) hpc (byv_one PP) (by have := HBD.out; unfold maxLen; omega) (by have := HBD.out; omega) hp2.bel.size
            rw [← byv_append, ← List.length_append] at ho5
            have hp4 := hp2.turnB hg5 ho5
            obtain ⟨LZ, hLZ⟩ : ∃ LZ, ly ++ PP = LZ := ⟨_, rfl⟩
            rw [hLZ] at hp4 ho5
            have HLZ := Lib.hid (congrArg List.length hLZ)
            obtain ⟨A5, c5, rfl, _⟩ := own_by ho5
            have HR5 := Lib.hid hr5
            have HP4 := Lib.hid hp4
            clear hr5 ho5 hg5 hp4 hp2 hpc hPP hLZ hpl

            go_wp2_with (at_builtin; refine wpList_append_run rfl rfl rfl rfl HR5.out ?_)
            go_roundw
            case rel => exact ⟨⟨k + 1, vx, v2, lx, LZ, els, f, by rw [HN.out]; exact hk1, rfl, HP4.out, (by
                  have h1 := HLZ.out
                  have h2 := HSUM.out
                  have h3 := HE.out
                  rw [List.length_append] at h1 h3
                  rw [encI_text, HPP.out] at h3
                  omega), by have := HEL.out; omega, fun e he => Nat.le_trans (HLE.out e he) (show (encs (xs.take k)).length ≤ (encs (xs.take (k + 1))).length by rw [HE.out, List.length_append]; omega)⟩⟩
            case measure => simp only [intOf]; omega
        | false =>
          by_cases h20 : k < 20
          · have h20i : (k : Int) < 20 := by omega
            go_wp2_with (go_at_call 43; fail)
            refine (rsev_any y wr).mono ?_
            rintro e wS ⟨v1, rfl, ho1, hb1⟩
            have hp1 := HP.out.below hb1
            have hbs := Beside.new HP.out ho1
            have HP1 := Lib.hid hp1
            have HBS := Lib.hid hbs
            clear x0 x1 x2
            obtain ⟨x0, x1, x2⟩ := HCL.out wS hp1.bel
            clear ho1 hb1 hp1 hbs

            go_wp2_with (go_at_call 46; fail)
            refine (num_w gy vy ly y (by have := HBD.out; omega) wS HP1.out.y).mono ?_
            rintro e wP ⟨rfl, v2, hw2, ht2⟩
            have hp2 := HP1.out.turnY ht2 hw2
            have hop := own_ch HBS.out.own ht2.ch (fun q hq hm => HBS.out.free q hq (by simp only [List.mem_cons, List.not_mem_nil, or_false] at hm; rcases hm with e | e <;> rw [e] <;> simp [DD]))
            obtain ⟨pb, pc, rfl, hpc⟩ := own_slice hop (sevens_pos _)
            clear hop hw2 ht2 HP1 HBS x0 x1 x2

            obtain ⟨PP, hPP⟩ : ∃ PP, sevens y.toNat = PP := ⟨_, rfl⟩
            have hpl : PP.length ≤ 1073741844 := by rw [← hPP]; have := HBD2.out; have := sevens_ten y; omega
            rw [hPP] at hp2 hpc ⊢
            have HPP := Lib.hid hPP
            have HPL := Lib.hid hpl
            obtain ⟨v5, wA, hr5, ho5, hg5⟩ := run_append_gr (P := Tryd.prog) wP w.heap.size 22 22 5 ii iz 1 1 Tryd.underlying22 hi0 hz0 hz1 hz2 hz3 (by decide) u6 ly.length (byv ly) hp2.b ⟨pb, 0, none⟩ PP.length pc (byv PP) (by rw [byv_len, Nat.mul_one]) hpc (byv_one PP) (by have := HBD.out; unfold maxLen; omega) (by have := HBD.out; omega) hp2.bel.size
            rw [← byv_append, ← List.length_append] at ho5
            have hp4 := hp2.turnB hg5 ho5
            obtain ⟨LZ, hLZ⟩ : ∃ LZ, ly ++ PP = LZ := ⟨_, rfl⟩
            rw [hLZ] at hp4 ho5
            have HLZ := Lib.hid (congrArg List.length hLZ)
            obtain ⟨A5, c5, rfl, _⟩ := own_by ho5
            have HR5 := Lib.hid hr5
            have HP4 := Lib.hid hp4
            clear hr5 ho5 hg5 hp4 hp2 hpc hPP hLZ hpl

            go_wp2_with (first
              | (at_builtin; refine wpList_append_run rfl rfl rfl rfl HR5.out ?_)
              | (go_at_call 42; fail))
            refine (bytes_w gx vx lx (by have := HBX.out; have h9 := HLZ.out; have := HBD.out; have := HPL.out; omega) wA HP4.out.x).mono ?_
            rintro e wB ⟨v6, rfl, ho6, hb6⟩
            have hbs6 := Beside.new HP4.out ho6
            have hp5 := HP4.out.below hb6
            obtain ⟨A6, c6, rfl⟩ := pk_slice ho6
            obtain ⟨GV, hGV⟩ : ∃ GV, Value.slice A6 lx.length c6 = GV := ⟨_, rfl⟩
            have hbsl : ∀ w : World, (Instr.buildSlice 80 1 #[(0, GV)]).run Tryd.prog w = .ok (.slice (some ⟨w.heap.size, 0, none⟩) 1 1) (w.alloc (.cells #[GV] 22)) := fun w => by rw [← hGV]; exact bs_sl _ _ _ w
            have hone : GV.oneCell' = true := by rw [← hGV]; rfl
            rw [hGV] at hbs6 ⊢
            have hal := hp5.below ((Below.refl wB.heap.size wB).alloc (Nat.le_refl _) (.cells #[GV] 22))
            obtain ⟨v7, wL, hr7, ho7, hg7⟩ := run_append_gr (P := Tryd.prog) (wB.alloc (.cells #[GV] 22)) w.heap.size 80 80 22 si sz 1 24 Tryd.underlying80 si0 sz0 sz1 sz2 sz3 (by decide) u7 els.length _ hal.l ⟨wB.heap.size, 0, none⟩ 1 1 [GV] rfl
              (fun j u hu => by rw [Addr.add_lit, Nat.zero_add, (Blk.new wB _ _).cell]; simpa using hu) (fun u hu => by simp at hu; subst hu; exact hone) (by have := HEL.out; have := HLN.out; unfold maxLen; omega) (by have := HEL.out; have := HLN.out; omega) hal.bel.size
            have hp7 := hal.push hg7 ho7 (n := lx.length) (l := lx) ⟨hbs6.own.alloc _, hbs6.free⟩
            obtain ⟨gl, cl, rfl, hgl⟩ := own_val ho7 (Nat.succ_pos _)
            have l0 := ho7.cells rfl els.length GV (by rw [List.getElem?_append_right (by simp), List.length_map, Nat.sub_self]; rfl)
            rw [Addr.add_lit, Nat.zero_add] at l0
            have h6a := hp7.el.own els.length (GV, lx.length) (by rw [List.getElem?_append_right (Nat.le_refl _), Nat.sub_self]; rfl)
            simp only [if_true] at h6a
            have hba6 : BytesAt wL A6 lx := by
              rw [← hGV] at h6a
              obtain ⟨A, c, e, hb, _⟩ := own_by h6a
              injection e with e1 _ _
              rw [e1]; exact hb
            obtain ⟨A7, c7, e7, hba7, _⟩ := own_by hp7.a
            subst e7
            obtain ⟨LN, hLN⟩ : ∃ LN, els.length = LN := ⟨_, rfl⟩
            rw [hLN] at l0 hr7 hgl
            obtain ⟨LM, hLM⟩ : ∃ LM, LN + 1 = LM := ⟨_, rfl⟩
            rw [hLM] at hr7 hgl
            rw [show els.length + 1 = LM by omega] at hp7
            have hlm : (LM : Int) - 1 = (LN : Int) := by omega
            have hlm2 : (LN : Int) < (LM : Int) := by omega
            have hln0 : (0 : Int) ≤ (LN : Int) := by omega
            have hlmb : (LM : Int) ≤ 2097152 := by have := HEL.out; have := HLN.out; omega
            have hlmc : (LM : Int) ≤ (cl : Int) := by omega
            have HGV := Lib.hid hGV
            have HBSL := Lib.hid hbsl
            have HR7 := Lib.hid hr7
            have HP7 := Lib.hid hp7
            have hsm := (same_any A6 A7 c6 c7 lx.length lx rfl (by have := HBX.out; have h9 := HLZ.out; have := HBD.out; have := HPL.out; omega) wL hba6 hba7)
            rw [hGV] at hsm
            have HSM := Lib.hid hsm
            clear hsm ho6 hb6 hbs6 hp5 hGV hbsl hone hal hr7 ho7 hg7 hp7 h6a hba6 hba7 hLN hLM hgl
            go_wp2_with (first
              | ((with_reducible show wpList _ _ _ (Oper.mk _ (Op.buildSlice _ _ _) _ _ _ _ :: _) _ _); refine wpList_buildSlice_run (e := 22) (ps := #[(0, GV)]) (cs := #[GV]) rfl rfl (by simp [Act.eval]) HBSL.out ?_)
              | (at_builtin; refine wpList_append_run rfl rfl rfl rfl HR7.out ?_)
              | (go_at_call 47; fail))
            refine HSM.out.mono ?_
            rintro e wM ⟨rfl, h8⟩
            have HP8 := Lib.hid (HP7.out.below h8)
            have HSUM2 := Lib.hid (show lx.length + LZ.length = (encs (xs.take (k + 1))).length from (by
                  have h1 := HLZ.out
                  have h2 := HSUM.out
                  have h3 := HE.out
                  rw [List.length_append] at h1 h3
                  rw [encI_num, HPP.out] at h3
                  omega))
            clear h8
            go_wp2
            go_roundw
            case rel =>
              refine ⟨⟨k + 1, vx, v2, lx, LZ, els ++ [(GV, lx.length)], _, by rw [HN.out]; exact hk1, rfl, HP8.out, HSUM2.out, by rw [List.length_append]; have := HEL.out; show els.length + 1 ≤ k + 1; omega, fun e he => ?_⟩⟩
              rcases List.mem_append.1 he with he | he
              · exact Nat.le_trans (HLE.out e he) (show (encs (xs.take k)).length ≤ (encs (xs.take (k + 1))).length by rw [HE.out, List.length_append]; omega)
              · simp only [List.mem_singleton] at he
                subst he
                have := HSUM2.out
                show lx.length ≤ _
                omega
            case measure => simp only [intOf]; omega
          · have h20i : ¬ (k : Int) < 20 := by omega
            go_wp2_with (go_at_call 43; fail)
            refine (rsev_any y wr).mono ?_
            rintro e wS ⟨v1, rfl, ho1, hb1⟩
            have hp1 := HP.out.below hb1
            have hbs := Beside.new HP.out ho1
            have HP1 := Lib.hid hp1
            have HBS := Lib.hid hbs
            clear x0 x1 x2
            obtain ⟨x0, x1, x2⟩ := HCL.out wS hp1.bel
            clear ho1 hb1 hp1 hbs

            go_wp2_with (go_at_call 46; fail)
            refine (num_w gy vy ly y (by have := HBD.out; omega) wS HP1.out.y).mono ?_
            rintro e wP ⟨rfl, v2, hw2, ht2⟩
            have hp2 := HP1.out.turnY ht2 hw2
            have hop := own_ch HBS.out.own ht2.ch (fun q hq hm => HBS.out.free q hq (by simp only [List.mem_cons, List.not_mem_nil, or_false] at hm; rcases hm with e | e <;> rw [e] <;> simp [DD]))
            obtain ⟨pb, pc, rfl, hpc⟩ := own_slice hop (sevens_pos _)
            clear hop hw2 ht2 HP1 HBS x0 x1 x2

            obtain ⟨PP, hPP⟩ : ∃ PP, sevens y.toNat = PP := ⟨_, rfl⟩
            have hpl : PP.length ≤ 1073741844 := by rw [← hPP]; have := HBD2.out; have := sevens_ten y; omega
            rw [hPP] at hp2 hpc ⊢
            have HPP := Lib.hid hPP
            have HPL := Lib.hid hpl
            obtain ⟨v5, wA, hr5, ho5, hg5⟩ := run_append_gr (P := Tryd.prog) wP w.heap.size 22 22 5 ii iz 1 1 Tryd.underlying22 hi0 hz0 hz1 hz2 hz3 (by decide) u6 ly.length (byv ly) hp2.b ⟨pb, 0, none⟩ PP.length pc (byv PP) (by rw [byv_len, Nat.mul_one]) hpc (byv_one PP) (by have := HBD.out; unfold maxLen; omega) (by have := HBD.out; omega) hp2.bel.size
            rw [← byv_append, ← List.length_append] at ho5
            have hp4 := hp2.turnB hg5 ho5
            obtain ⟨LZ, hLZ⟩ : ∃ LZ, ly ++ PP = LZ := ⟨_, rfl⟩
            rw [hLZ] at hp4 ho5
            have HLZ := Lib.hid (congrArg List.length hLZ)
            obtain ⟨A5, c5, rfl, _⟩ := own_by ho5
            have HR5 := Lib.hid hr5
            have HP4 := Lib.hid hp4
            clear hr5 ho5 hg5 hp4 hp2 hpc hPP hLZ hpl

            go_wp2_with (at_builtin; refine wpList_append_run rfl rfl rfl rfl HR5.out ?_)
            go_roundw
            case rel => exact ⟨⟨k + 1, vx, v2, lx, LZ, els, f, by rw [HN.out]; exact hk1, rfl, HP4.out, (by
                  have h1 := HLZ.out
                  have h2 := HSUM.out
                  have h3 := HE.out
                  rw [List.length_append] at h1 h3
                  rw [encI_num, HPP.out] at h3
                  omega), by have := HEL.out; omega, fun e he => Nat.le_trans (HLE.out e he) (show (encs (xs.take k)).length ≤ (encs (xs.take (k + 1))).length by rw [HE.out, List.length_append]; omega)⟩⟩
            case measure => simp only [intOf]; omega
      · have hmod : ((k : Int) % 3 == 2) = false := by rw [beq_eq_false_iff_ne]; omega
        cases bt with
        | true =>
          by_cases h20 : k < 20
          · have h20i : (k : Int) < 20 := by omega
            go_wp2_with (go_at_call 43; fail)
            refine (rsev_any y wr).mono ?_
            rintro e wS ⟨v1, rfl, ho1, hb1⟩
            have hp1 := HP.out.below hb1
            have hbs := Beside.new HP.out ho1
            have HP1 := Lib.hid hp1
            have HBS := Lib.hid hbs
            clear x0 x1 x2
            obtain ⟨x0, x1, x2⟩ := HCL.out wS hp1.bel
            clear ho1 hb1 hp1 hbs

            go_wp2_with (go_at_call 44; fail)
            refine (text_w2 gx vx lx s (by have := HBD.out; have := HXS.out; omega) wS HP1.out.x).mono ?_
            rintro e wN ⟨rfl, v2, hw2, ht2⟩
            have hpn := HP1.out.turnX ht2 hw2
            have HPN := Lib.hid hpn
            clear x0 x1 x2
            obtain ⟨x0, x1, x2⟩ := HCL.out wN hpn.bel
            clear hw2 ht2 HP1 HBS hpn
            go_wp2_with (go_at_call 45; fail)
            refine (rtext_any s (by have := HXS.out; omega) wN).mono ?_
            rintro e wP ⟨v3, rfl, ho3, hb3⟩
            have hp2 := HPN.out.below hb3
            obtain ⟨pb, pc, rfl, hpc⟩ := own_slice ho3 (by rw [List.length_append]; have := sevens_pos s.size; omega)
            clear ho3 hb3 HPN x0 x1 x2

            obtain ⟨PP, hPP⟩ : ∃ PP, (sevens s.size ++ s.data.toList) = PP := ⟨_, rfl⟩
            have hpl : PP.length ≤ 1073741844 := by rw [← hPP]; have := HBD2.out; rw [List.length_append, show s.data.toList.length = s.size by rw [Array.length_toList]; rfl]; have := sevens_le 9 s.size (by have := HXS.out; exact Nat.lt_of_le_of_lt this (by decide)); have := HXS.out; omega
            rw [hPP] at hp2 hpc ⊢
            have HPP := Lib.hid hPP
            have HPL := Lib.hid hpl
            obtain ⟨v5, wA, hr5, ho5, hg5⟩ := run_append_gr (P := Tryd.prog) wP w.heap.size 22 22 5 ii iz 1 1 Tryd.underlying22 hi0 hz0 hz1 hz2 hz3 (by decide) u5 lx.length (byv lx) hp2.a ⟨pb, 0, none⟩ PP.length pc (byv PP) (by rw [byv_len, Nat.mul_one]) hpc (byv_one PP) (by have := HBD.out; unfold maxLen; omega) (by have := HBD.out; omega) hp2.bel.size
            rw [← byv_append, ← List.length_append] at ho5
            have hp4 := hp2.turnA hg5 ho5
            obtain ⟨LZ, hLZ⟩ : ∃ LZ, lx ++ PP = LZ := ⟨_, rfl⟩
            rw [hLZ] at hp4 ho5
            have HLZ := Lib.hid (congrArg List.length hLZ)
            obtain ⟨A5, c5, rfl, _⟩ := own_by ho5
            have HR5 := Lib.hid hr5
            have HP4 := Lib.hid hp4
            clear hr5 ho5 hg5 hp4 hp2 hpc hPP hLZ hpl

            go_wp2_with (first
              | (at_builtin; refine wpList_append_run rfl rfl rfl rfl HR5.out ?_)
              | (go_at_call 42; fail))
            refine (bytes_w gx v2 LZ (by have := HBX.out; have h9 := HLZ.out; have := HBD.out; have := HPL.out; rw [List.length_append] at h9; omega) wA HP4.out.x).mono ?_
            rintro e wB ⟨v6, rfl, ho6, hb6⟩
            have hbs6 := Beside.new HP4.out ho6
            have hp5 := HP4.out.below hb6
            obtain ⟨A6, c6, rfl⟩ := pk_slice ho6
            obtain ⟨GV, hGV⟩ : ∃ GV, Value.slice A6 LZ.length c6 = GV := ⟨_, rfl⟩
            have hbsl : ∀ w : World, (Instr.buildSlice 80 1 #[(0, GV)]).run Tryd.prog w = .ok (.slice (some ⟨w.heap.size, 0, none⟩) 1 1) (w.alloc (.cells #[GV] 22)) := fun w => by rw [← hGV]; exact bs_sl _ _ _ w
            have hone : GV.oneCell' = true := by rw [← hGV]; rfl
            rw [hGV] at hbs6 ⊢
            have hal := hp5.below ((Below.refl wB.heap.size wB).alloc (Nat.le_refl _) (.cells #[GV] 22))
            obtain ⟨v7, wL, hr7, ho7, hg7⟩ := run_append_gr (P := Tryd.prog) (wB.alloc (.cells #[GV] 22)) w.heap.size 80 80 22 si sz 1 24 Tryd.underlying80 si0 sz0 sz1 sz2 sz3 (by decide) u7 els.length _ hal.l ⟨wB.heap.size, 0, none⟩ 1 1 [GV] rfl
              (fun j u hu => by rw [Addr.add_lit, Nat.zero_add, (Blk.new wB _ _).cell]; simpa using hu) (fun u hu => by simp at hu; subst hu; exact hone) (by have := HEL.out; have := HLN.out; unfold maxLen; omega) (by have := HEL.out; have := HLN.out; omega) hal.bel.size
            have hp7 := hal.push hg7 ho7 (n := LZ.length) (l := LZ) ⟨hbs6.own.alloc _, hbs6.free⟩
            obtain ⟨gl, cl, rfl, hgl⟩ := own_val ho7 (Nat.succ_pos _)
            have l0 := ho7.cells rfl els.length GV (by rw [List.getElem?_append_right (by simp), List.length_map, Nat.sub_self]; rfl)
            rw [Addr.add_lit, Nat.zero_add] at l0
            have h6a := hp7.el.own els.length (GV, LZ.length) (by rw [List.getElem?_append_right (Nat.le_refl _), Nat.sub_self]; rfl)
            simp only [if_true] at h6a
            have hba6 : BytesAt wL A6 LZ := by
              rw [← hGV] at h6a
              obtain ⟨A, c, e, hb, _⟩ := own_by h6a
              injection e with e1 _ _
              rw [e1]; exact hb
            obtain ⟨A7, c7, e7, hba7, _⟩ := own_by hp7.a
            injection e7 with e71 _ e72
            subst e71 e72
            obtain ⟨LN, hLN⟩ : ∃ LN, els.length = LN := ⟨_, rfl⟩
            rw [hLN] at l0 hr7 hgl
            obtain ⟨LM, hLM⟩ : ∃ LM, LN + 1 = LM := ⟨_, rfl⟩
            rw [hLM] at hr7 hgl
            rw [show els.length + 1 = LM by omega] at hp7
            have hlm : (LM : Int) - 1 = (LN : Int) := by omega
            have hlm2 : (LN : Int) < (LM : Int) := by omega
            have hln0 : (0 : Int) ≤ (LN : Int) := by omega
            have hlmb : (LM : Int) ≤ 2097152 := by have := HEL.out; have := HLN.out; omega
            have hlmc : (LM : Int) ≤ (cl : Int) := by omega
            have HGV := Lib.hid hGV
            have HBSL := Lib.hid hbsl
            have HR7 := Lib.hid hr7
            have HP7 := Lib.hid hp7
            have hsm := (same_any A6 A5 c6 c5 LZ.length LZ rfl (by have := HBX.out; have h9 := HLZ.out; have := HBD.out; have := HPL.out; rw [List.length_append] at h9; omega) wL hba6 hba7)
            rw [hGV] at hsm
            have HSM := Lib.hid hsm
            clear hsm ho6 hb6 hbs6 hp5 hGV hbsl hone hal hr7 ho7 hg7 hp7 h6a hba6 hba7 hLN hLM hgl
            go_wp2_with (first
              | ((with_reducible show wpList _ _ _ (Oper.mk _ (Op.buildSlice _ _ _) _ _ _ _ :: _) _ _); refine wpList_buildSlice_run (e := 22) (ps := #[(0, GV)]) (cs := #[GV]) rfl rfl (by simp [Act.eval]) HBSL.out ?_)
              | (at_builtin; refine wpList_append_run rfl rfl rfl rfl HR7.out ?_)
              | (go_at_call 47; fail))
            refine HSM.out.mono ?_
            rintro e wM ⟨rfl, h8⟩
            have HP8 := Lib.hid (HP7.out.below h8)
            have HSUM2 := Lib.hid (show LZ.length + ly.length = (encs (xs.take (k + 1))).length from (by
                  have h1 := HLZ.out
                  have h2 := HSUM.out
                  have h3 := HE.out
                  rw [List.length_append] at h1 h3
                  rw [encI_text, HPP.out] at h3
                  omega))
            clear h8
            go_wp2
            go_roundw
            case rel =>
              refine ⟨⟨k + 1, v2, vy, LZ, ly, els ++ [(GV, LZ.length)], _, by rw [HN.out]; exact hk1, rfl, HP8.out, HSUM2.out, by rw [List.length_append]; have := HEL.out; show els.length + 1 ≤ k + 1; omega, fun e he => ?_⟩⟩
              rcases List.mem_append.1 he with he | he
              · exact Nat.le_trans (HLE.out e he) (show (encs (xs.take k)).length ≤ (encs (xs.take (k + 1))).length by rw [HE.out, List.length_append]; omega)
              · simp only [List.mem_singleton] at he
                subst he
                have := HSUM2.out
                show LZ.length ≤ _
                omega
            case measure => simp only [intOf]; omega
          · have h20i : ¬ (k : Int) < 20 := by omega
            go_wp2_with (go_at_call 43; fail)
            refine (rsev_any y wr).mono ?_
            rintro e wS ⟨v1, rfl, ho1, hb1⟩
            have hp1 := HP.out.below hb1
            have hbs := Beside.new HP.out ho1
            have HP1 := Lib.hid hp1
            have HBS := Lib.hid hbs
            clear x0 x1 x2
            obtain ⟨x0, x1, x2⟩ := HCL.out wS hp1.bel
            clear ho1 hb1 hp1 hbs

            go_wp2_with (go_at_call 44; fail)
            refine (text_w2 gx vx lx s (by have := HBD.out; have := HXS.out; omega) wS HP1.out.x).mono ?_
            rintro e wN ⟨rfl, v2, hw2, ht2⟩
            have hpn := HP1.out.turnX ht2 hw2
            have HPN := Lib.hid hpn
            clear x0 x1 x2
            obtain ⟨x0, x1, x2⟩ := HCL.out wN hpn.bel
            clear hw2 ht2 HP1 HBS hpn
            go_wp2_with (go_at_call 45; fail)
            refine (rtext_any s (by have := HXS.out; omega) wN).mono ?_
            rintro e wP ⟨v3, rfl, ho3, hb3⟩
            have hp2 := HPN.out.below hb3
            obtain ⟨pb, pc, rfl, hpc⟩ := own_slice ho3 (by rw [List.length_append]; have := sevens_pos s.size; omega)
            clear ho3 hb3 HPN x0 x1 x2

            obtain ⟨PP, hPP⟩ : ∃ PP, (sevens s.size ++ s.data.toList) = PP := ⟨_, rfl⟩
            have hpl : PP.length ≤ 1073741844 := by rw [← hPP]; have := HBD2.out; rw [List.length_append, show s.data.toList.length = s.size by rw [Array.length_toList]; rfl]; have := sevens_le 9 s.size (by have := HXS.out; exact Nat.lt_of_le_of_lt this (by decide)); have := HXS.out; omega
            rw [hPP] at hp2 hpc ⊢
            have HPP := Lib.hid hPP
            have HPL := Lib.hid hpl
            obtain ⟨v5, wA, hr5, ho5, hg5⟩ := run_append_gr (P := Tryd.prog) wP w.heap.size 22 22 5 ii iz 1 1 Tryd.underlying22 hi0 hz0 hz1 hz2 hz3 (by decide) u5 lx.length (byv lx) hp2.a ⟨pb, 0, none⟩ PP.length pc (byv PP) (by rw [byv_len, Nat.mul_one]) hpc (byv_one PP) (by have := HBD.out; unfold maxLen; omega) (by have := HBD.out; omega) hp2.bel.size
            rw [← byv_append, ← List.length_append] at ho5
            have hp4 := hp2.turnA hg5 ho5
            obtain ⟨LZ, hLZ⟩ : ∃ LZ, lx ++ PP = LZ := ⟨_, rfl⟩
            rw [hLZ] at hp4 ho5
            have HLZ := Lib.hid (congrArg List.length hLZ)
            obtain ⟨A5, c5, rfl, _⟩ := own_by ho5
            have HR5 := Lib.hid hr5
            have HP4 := Lib.hid hp4
            clear hr5 ho5 hg5 hp4 hp2 hpc hPP hLZ hpl

            go_wp2_with (at_builtin; refine wpList_append_run rfl rfl rfl rfl HR5.out ?_)
            go_roundw
            case rel => exact ⟨⟨k + 1, v2, vy, LZ, ly, els, f, by rw [HN.out]; exact hk1, rfl, HP4.out, (by
                  have h1 := HLZ.out
                  have h2 := HSUM.out
                  have h3 := HE.out
                  rw [List.length_append] at h1 h3
                  rw [encI_text, HPP.out] at h3
                  omega), by have := HEL.out; omega, fun e he => Nat.le_trans (HLE.out e he) (show (encs (xs.take k)).length ≤ (encs (xs.take (k + 1))).length by rw [HE.out, List.length_append]; omega)⟩⟩
            case measure => simp only [intOf]; omega
        | false =>
          by_cases h20 : k < 20
          · have h20i : (k : Int) < 20 := by omega
            go_wp2_with (go_at_call 43; fail)
            refine (rsev_any y wr).mono ?_
            rintro e wS ⟨v1, rfl, ho1, hb1⟩
            have hp1 := HP.out.below hb1
            have hbs := Beside.new HP.out ho1
            have HP1 := Lib.hid hp1
            have HBS := Lib.hid hbs
            clear x0 x1 x2
            obtain ⟨x0, x1, x2⟩ := HCL.out wS hp1.bel
            clear ho1 hb1 hp1 hbs

            go_wp2_with (go_at_call 46; fail)
            refine (num_w gx vx lx y (by have := HBD.out; omega) wS HP1.out.x).mono ?_
            rintro e wP ⟨rfl, v2, hw2, ht2⟩
            have hp2 := HP1.out.turnX ht2 hw2
            have hop := own_ch HBS.out.own ht2.ch (fun q hq hm => HBS.out.free q hq (by simp only [List.mem_cons, List.not_mem_nil, or_false] at hm; rcases hm with e | e <;> rw [e] <;> simp [DD]))
            obtain ⟨pb, pc, rfl, hpc⟩ := own_slice hop (sevens_pos _)
            clear hop hw2 ht2 HP1 HBS x0 x1 x2

            obtain ⟨PP, hPP⟩ : ∃ PP, sevens y.toNat = PP := ⟨_, rfl⟩
            have hpl : PP.length ≤ 1073741844 := by rw [← hPP]; have := HBD2.out; have := sevens_ten y; omega
            rw [hPP] at hp2 hpc ⊢
            have HPP := Lib.hid hPP
            have HPL := Lib.hid hpl
            obtain ⟨v5, wA, hr5, ho5, hg5⟩ := run_append_gr (P := Tryd.prog) wP w.heap.size 22 22 5 ii iz 1 1 Tryd.underlying22 hi0 hz0 hz1 hz2 hz3 (by decide) u5 lx.length (byv lx) hp2.a ⟨pb, 0, none⟩ PP.length pc (byv PP) (by rw [byv_len, Nat.mul_one]) hpc (byv_one PP) (by have := HBD.out; unfold maxLen; omega) (by have := HBD.out; omega) hp2.bel.size
            rw [← byv_append, ← List.length_append] at ho5
            have hp4 := hp2.turnA hg5 ho5
            obtain ⟨LZ, hLZ⟩ : ∃ LZ, lx ++ PP = LZ := ⟨_, rfl⟩
            rw [hLZ] at hp4 ho5
            have HLZ := Lib.hid (congrArg List.length hLZ)
            obtain ⟨A5, c5, rfl, _⟩ := own_by ho5
            have HR5 := Lib.hid hr5
            have HP4 := Lib.hid hp4
            clear hr5 ho5 hg5 hp4 hp2 hpc hPP hLZ hpl

            go_wp2_with (first
              | (at_builtin; refine wpList_append_run rfl rfl rfl rfl HR5.out ?_)
              | (go_at_call 42; fail))
            refine (bytes_w gx v2 LZ (by have := HBX.out; have h9 := HLZ.out; have := HBD.out; have := HPL.out; rw [List.length_append] at h9; omega) wA HP4.out.x).mono ?_
            rintro e wB ⟨v6, rfl, ho6, hb6⟩
            have hbs6 := Beside.new HP4.out ho6
            have hp5 := HP4.out.below hb6
            obtain ⟨A6, c6, rfl⟩ := pk_slice ho6
            obtain ⟨GV, hGV⟩ : ∃ GV, Value.slice A6 LZ.length c6 = GV := ⟨_, rfl⟩
            have hbsl : ∀ w : World, (Instr.buildSlice 80 1 #[(0, GV)]).run Tryd.prog w = .ok (.slice (some ⟨w.heap.size, 0, none⟩) 1 1) (w.alloc (.cells #[GV] 22)) := fun w => by rw [← hGV]; exact bs_sl _ _ _ w
            have hone : GV.oneCell' = true := by rw [← hGV]; rfl
            rw [hGV] at hbs6 ⊢
            have hal := hp5.below ((Below.refl wB.heap.size wB).alloc (Nat.le_refl _) (.cells #[GV] 22))
            obtain ⟨v7, wL, hr7, ho7, hg7⟩ := run_append_gr (P := Tryd.prog) (wB.alloc (.cells #[GV] 22)) w.heap.size 80 80 22 si sz 1 24 Tryd.underlying80 si0 sz0 sz1 sz2 sz3 (by decide) u7 els.length _ hal.l ⟨wB.heap.size, 0, none⟩ 1 1 [GV] rfl
              (fun j u hu => by rw [Addr.add_lit, Nat.zero_add, (Blk.new wB _ _).cell]; simpa using hu) (fun u hu => by simp at hu; subst hu; exact hone) (by have := HEL.out; have := HLN.out; unfold maxLen; omega) (by have := HEL.out; have := HLN.out; omega) hal.bel.size
            have hp7 := hal.push hg7 ho7 (n := LZ.length) (l := LZ) ⟨hbs6.own.alloc _, hbs6.free⟩
            obtain ⟨gl, cl, rfl, hgl⟩ := own_val ho7 (Nat.succ_pos _)
            have l0 := ho7.cells rfl els.length GV (by rw [List.getElem?_append_right (by simp), List.length_map, Nat.sub_self]; rfl)
            rw [Addr.add_lit, Nat.zero_add] at l0
            have h6a := hp7.el.own els.length (GV, LZ.length) (by rw [List.getElem?_append_right (Nat.le_refl _), Nat.sub_self]; rfl)
            simp only [if_true] at h6a
            have hba6 : BytesAt wL A6 LZ := by
              rw [← hGV] at h6a
              obtain ⟨A, c, e, hb, _⟩ := own_by h6a
              injection e with e1 _ _
              rw [e1]; exact hb
            obtain ⟨A7, c7, e7, hba7, _⟩ := own_by hp7.a
            injection e7 with e71 _ e72
            subst e71 e72
            obtain ⟨LN, hLN⟩ : ∃ LN, els.length = LN := ⟨_, rfl⟩
            rw [hLN] at l0 hr7 hgl
            obtain ⟨LM, hLM⟩ : ∃ LM, LN + 1 = LM := ⟨_, rfl⟩
            rw [hLM] at hr7 hgl
            rw [show els.length + 1 = LM by omega] at hp7
            have hlm : (LM : Int) - 1 = (LN : Int) := by omega
            have hlm2 : (LN : Int) < (LM : Int) := by omega
            have hln0 : (0 : Int) ≤ (LN : Int) := by omega
            have hlmb : (LM : Int) ≤ 2097152 := by have := HEL.out; have := HLN.out; omega
            have hlmc : (LM : Int) ≤ (cl : Int) := by omega
            have HGV := Lib.hid hGV
            have HBSL := Lib.hid hbsl
            have HR7 := Lib.hid hr7
            have HP7 := Lib.hid hp7
            have hsm := (same_any A6 A5 c6 c5 LZ.length LZ rfl (by have := HBX.out; have h9 := HLZ.out; have := HBD.out; have := HPL.out; rw [List.length_append] at h9; omega) wL hba6 hba7)
            rw [hGV] at hsm
            have HSM := Lib.hid hsm
            clear hsm ho6 hb6 hbs6 hp5 hGV hbsl hone hal hr7 ho7 hg7 hp7 h6a hba6 hba7 hLN hLM hgl
            go_wp2_with (first
              | ((with_reducible show wpList _ _ _ (Oper.mk _ (Op.buildSlice _ _ _) _ _ _ _ :: _) _ _); refine wpList_buildSlice_run (e := 22) (ps := #[(0, GV)]) (cs := #[GV]) rfl rfl (by simp [Act.eval]) HBSL.out ?_)
              | (at_builtin; refine wpList_append_run rfl rfl rfl rfl HR7.out ?_)
              | (go_at_call 47; fail))
            refine HSM.out.mono ?_
            rintro e wM ⟨rfl, h8⟩
            have HP8 := Lib.hid (HP7.out.below h8)
            have HSUM2 := Lib.hid (show LZ.length + ly.length = (encs (xs.take (k + 1))).length from (by
                  have h1 := HLZ.out
                  have h2 := HSUM.out
                  have h3 := HE.out
                  rw [List.length_append] at h1 h3
                  rw [encI_num, HPP.out] at h3
                  omega))
            clear h8
            go_wp2
            go_roundw
            case rel =>
              refine ⟨⟨k + 1, v2, vy, LZ, ly, els ++ [(GV, LZ.length)], _, by rw [HN.out]; exact hk1, rfl, HP8.out, HSUM2.out, by rw [List.length_append]; have := HEL.out; show els.length + 1 ≤ k + 1; omega, fun e he => ?_⟩⟩
              rcases List.mem_append.1 he with he | he
              · exact Nat.le_trans (HLE.out e he) (show (encs (xs.take k)).length ≤ (encs (xs.take (k + 1))).length by rw [HE.out, List.length_append]; omega)
              · simp only [List.mem_singleton] at he
                subst he
                have := HSUM2.out
                show LZ.length ≤ _
                omega
            case measure => simp only [intOf]; omega
          · have h20i : ¬ (k : Int) < 20 := by omega
            go_wp2_with (go_at_call 43; fail)
            refine (rsev_any y wr).mono ?_
            rintro e wS ⟨v1, rfl, ho1, hb1⟩
            have hp1 := HP.out.below hb1
            have hbs := Beside.new HP.out ho1
            have HP1 := Lib.hid hp1
            have HBS := Lib.hid hbs
            clear x0 x1 x2
            obtain ⟨x0, x1, x2⟩ := HCL.out wS hp1.bel
            clear ho1 hb1 hp1 hbs

            go_wp2_with (go_at_call 46; fail)
            refine (num_w gx vx lx y (by have := HBD.out; omega) wS HP1.out.x).mono ?_
            rintro e wP ⟨rfl, v2, hw2, ht2⟩
            have hp2 := HP1.out.turnX ht2 hw2
            have hop := own_ch HBS.out.own ht2.ch (fun q hq hm => HBS.out.free q hq (by simp only [List.mem_cons, List.not_mem_nil, or_false] at hm; rcases hm with e | e <;> rw [e] <;> simp [DD]))
            obtain ⟨pb, pc, rfl, hpc⟩ := own_slice hop (sevens_pos _)
            clear hop hw2 ht2 HP1 HBS x0 x1 x2

            obtain ⟨PP, hPP⟩ : ∃ PP, sevens y.toNat = PP := ⟨_, rfl⟩
            have hpl : PP.length ≤ 1073741844 := by rw [← hPP]; have := HBD2.out; have := sevens_ten y; omega
            rw [hPP] at hp2 hpc ⊢
            have HPP := Lib.hid hPP
            have HPL := Lib.hid hpl
            obtain ⟨v5, wA, hr5, ho5, hg5⟩ := run_append_gr (P := Tryd.prog) wP w.heap.size 22 22 5 ii iz 1 1 Tryd.underlying22 hi0 hz0 hz1 hz2 hz3 (by decide) u5 lx.length (byv lx) hp2.a ⟨pb, 0, none⟩ PP.length pc (byv PP) (by rw [byv_len, Nat.mul_one]) hpc (byv_one PP) (by have := HBD.out; unfold maxLen; omega) (by have := HBD.out; omega) hp2.bel.size
            rw [← byv_append, ← List.length_append] at ho5
            have hp4 := hp2.turnA hg5 ho5
            obtain ⟨LZ, hLZ⟩ : ∃ LZ, lx ++ PP = LZ := ⟨_, rfl⟩
            rw [hLZ] at hp4 ho5
            have HLZ := Lib.hid (congrArg List.length hLZ)
            obtain ⟨A5, c5, rfl, _⟩ := own_by ho5
            have HR5 := Lib.hid hr5
            have HP4 := Lib.hid hp4
            clear hr5 ho5 hg5 hp4 hp2 hpc hPP hLZ hpl

            go_wp2_with (at_builtin; refine wpList_append_run rfl rfl rfl rfl HR5.out ?_)
            go_roundw
            case rel => exact ⟨⟨k + 1, v2, vy, LZ, ly, els, f, by rw [HN.out]; exact hk1, rfl, HP4.out, (by
                  have h1 := HLZ.out
                  have h2 := HSUM.out
                  have h3 := HE.out
                  rw [List.length_append] at h1 h3
                  rw [encI_num, HPP.out] at h3
                  omega), by have := HEL.out; omega, fun e he => Nat.le_trans (HLE.out e he) (show (encs (xs.take k)).length ≤ (encs (xs.take (k + 1))).length by rw [HE.out, List.length_append]; omega)⟩⟩
            case measure => simp only [intOf]; omega
    · have hki : ¬ (k : Int) < (N : Int) := by omega
      have hkN : k = N := by omega
      have hsum := HSUM.out
      rw [hkN, ← HN.out, List.take_length] at hsum
      have hle := HLE.out
      rw [hkN, ← HN.out, List.take_length] at hle
      have HS2 := Lib.hid hsum
      have HL2 := Lib.hid hle
      have HEN := Lib.hid (show els.length ≤ 1048576 by have := HEL.out; have := HLN.out; omega)
      clear hsum hle hkN HSUM HLE
      go_wp2_with (go_at_call 42; fail)
      refine (bytes_w gx vx lx (by have := HS2.out; have := HSZ.out; omega) wr HP.out.x).mono ?_
      rintro e wB ⟨v6, rfl, ho6, hb6⟩
      have hbs6 := Beside.new HP.out ho6
      have hp5 := HP.out.below hb6
      obtain ⟨A6, c6, rfl⟩ := pk_slice ho6
      have HB6 := Lib.hid hbs6
      have HP5 := Lib.hid hp5
      have HO6 := Lib.hid ho6
      clear ho6 hb6 hbs6 hp5
      go_wp2_with (go_at_call 42; fail)
      refine (bytes_w gy vy ly (by have := HS2.out; have := HSZ.out; omega) wB HP5.out.y).mono ?_
      rintro e wC ⟨v8, rfl, ho8, hb8⟩
      have hbs8 := Beside.new HP5.out ho8
      have hp6 := HP5.out.below hb8
      obtain ⟨A8, c8, rfl⟩ := pk_slice ho8
      have hbs6 : Beside w.heap.size (DD gx gy vx vy u5 u6 u7 els) wC (.slice A6 lx.length c6) lx.length lx := ⟨own_below HB6.out.own hb8, HB6.out.free⟩
      have hne : ∀ q, (Value.slice A6 lx.length c6).ownBlock = some q → (Value.slice A8 ly.length c8).ownBlock ≠ some q := fun q hq hq8 => by
        have h1 := (HO6.out.lt q hq).2
        have h2 := (ho8.lt q hq8).1
        omega
      obtain ⟨GV, hGV⟩ : ∃ GV, Value.slice A6 lx.length c6 = GV := ⟨_, rfl⟩
      obtain ⟨GU, hGU⟩ : ∃ GU, Value.slice A8 ly.length c8 = GU := ⟨_, rfl⟩
      have hbsl : ∀ w : World, (Instr.buildSlice 80 2 #[(0, GV), (1, GU)]).run Tryd.prog w = .ok (.slice (some ⟨w.heap.size, 0, none⟩) 2 2) (w.alloc (.cells #[GV, GU] 22)) := fun w => by rw [← hGV, ← hGU]; exact bs_sl2 _ _ _ _ _ _ w
      have hone : GV.oneCell' = true ∧ GU.oneCell' = true := by rw [← hGV, ← hGU]; exact ⟨rfl, rfl⟩
      rw [hGV] at hbs6 hne ⊢
      rw [hGU] at hbs8 hne ⊢
      have hal := hp6.below ((Below.refl wC.heap.size wC).alloc (Nat.le_refl _) (.cells #[GV, GU] 22))
      obtain ⟨v7, wL, hr7, ho7, hg7⟩ := run_append_gr (P := Tryd.prog) (wC.alloc (.cells #[GV, GU] 22)) w.heap.size 80 80 22 si sz 1 24 Tryd.underlying80 si0 sz0 sz1 sz2 sz3 (by decide) u7 els.length _ hal.l ⟨wC.heap.size, 0, none⟩ 2 2 [GV, GU] rfl
        (fun j u hu => by rw [Addr.add_lit, Nat.zero_add, (Blk.new wC _ _).cell]; simpa using hu) (fun u hu => by simp at hu; rcases hu with rfl | rfl; exact hone.1; exact hone.2) (by have := HEN.out; unfold maxLen; omega) (by have := HEN.out; omega) hal.bel.size
      have hp7 := hal.push2 hg7 ho7 (n := lx.length) (l := lx) (m := ly.length) (k := ly) ⟨hbs6.own.alloc _, hbs6.free⟩ ⟨hbs8.own.alloc _, hbs8.free⟩ hne
      obtain ⟨gl, cl, rfl, hgl⟩ := own_val ho7 (Nat.succ_pos _)
      have l0 := ho7.cells rfl els.length GV (by rw [List.getElem?_append_right (by simp), List.length_map, Nat.sub_self]; rfl)
      have l1 := ho7.cells rfl (els.length + 1) GU (by rw [List.getElem?_append_right (by simp), List.length_map, Nat.add_sub_cancel_left]; rfl)
      rw [Addr.add_lit, Nat.zero_add] at l0 l1
      have hglb := (ho7.lt gl rfl).2
      have h6a := hp7.el.own els.length (GV, lx.length) (by rw [List.getElem?_append_right (Nat.le_refl _), Nat.sub_self]; rfl)
      have h8a := hp7.el.own (els.length + 1) (GU, ly.length) (by rw [List.getElem?_append_right (by omega), Nat.add_sub_cancel_left]; rfl)
      simp only [if_true, if_neg (show ¬ els.length + 1 = els.length by omega)] at h6a h8a
      have hba6 : BytesAt wL A6 lx := by
        rw [← hGV] at h6a
        obtain ⟨A, c, e, hb, _⟩ := own_by h6a
        injection e with e1 _ _
        rw [e1]; exact hb
      have hba8 : BytesAt wL A8 ly := by
        rw [← hGU] at h8a
        obtain ⟨A, c, e, hb, _⟩ := own_by h8a
        injection e with e1 _ _
        rw [e1]; exact hb
      obtain ⟨Aa, ca, rfl, hbaa, _⟩ := own_by hp7.a
      obtain ⟨Ab, cb, rfl, hbab, _⟩ := own_by hp7.b
      obtain ⟨E2, hE2⟩ : ∃ E2, els ++ [(GV, lx.length), (GU, ly.length)] = E2 := ⟨_, rfl⟩
      have hE2l : els.length + 2 = E2.length := by rw [← hE2, List.length_append]; rfl
      rw [hE2, hE2l] at hp7
      rw [hE2l] at hr7 hgl
      have hlens : ∀ (j : Nat) (e : Value × Nat), E2[j]? = some e → e.2 ≤ 1099511627776 := fun j e he => by
        have hb := HSZ.out
        have h2 := HS2.out
        have hm := List.mem_of_getElem? he
        rw [← hE2] at hm
        rcases List.mem_append.1 hm with hm | hm
        · have := HL2.out e hm; omega
        · simp only [List.mem_cons, List.not_mem_nil, or_false] at hm
          rcases hm with rfl | rfl
          · show lx.length ≤ _; omega
          · show ly.length ≤ _; omega
      obtain ⟨LM, hLM⟩ : ∃ LM, E2.length = LM := ⟨_, rfl⟩
      obtain ⟨LN, hLN⟩ : ∃ LN, els.length = LN := ⟨_, rfl⟩
      have hlm2 : (LM : Int) - 2 = (LN : Int) := by omega
      have hlm1 : (LM : Int) - 1 = (LN : Int) + 1 := by omega
      have hln0 : (0 : Int) ≤ (LN : Int) := by omega
      have hlnm : (LN : Int) + 1 < (LM : Int) := by omega
      have hlnm0 : (LN : Int) < (LM : Int) := by omega
      have hlmb : (LM : Int) ≤ 1048578 := by have := HEN.out; omega
      have hlmc : (LM : Int) ≤ (cl : Int) := by omega
      have hsm1 := fun (W : World) (hW : Below wL.heap.size wL W) => same_any A6 Aa c6 ca lx.length lx rfl (by have := HS2.out; have := HSZ.out; omega) W (hba6.below hW (Nat.le_refl _)) (hbaa.below hW (Nat.le_refl _))
      have hsm2 := fun (W : World) (hW : Below wL.heap.size wL W) => same_any A8 Ab c8 cb ly.length ly rfl (by have := HS2.out; have := HSZ.out; omega) W (hba8.below hW (Nat.le_refl _)) (hbab.below hW (Nat.le_refl _))
      rw [hGV] at hsm1
      rw [hGU] at hsm2
      have hapt := fun (W : World) (hW : Below wL.heap.size wL W) => apart_w (some ⟨gl, 0, none⟩) cl E2 _ w.heap.size W (hp7.below hW).l (hp7.below hW).el (hp7.below hW).apart (hp7.below hW).bel.size (by have := HEN.out; omega) hlens
      rw [hLM] at hapt hr7
      rw [hLN] at l0 l1
      have HP7 := Lib.hid hp7
      have HSM1 := Lib.hid hsm1
      have HSM2 := Lib.hid hsm2
      have HAPT := Lib.hid hapt
      have HR7 := Lib.hid hr7
      have HBSL := Lib.hid hbsl
      have L0 := Lib.hid l0
      have L1 := Lib.hid l1
      clear ho8 hb8 hbs8 hp6 hbs6 hne hGV hGU hbsl hone hal hr7 ho7 hg7 hp7 h6a h8a hba6 hba8 hbaa hbab hE2 hE2l hlens hLM hLN hsm1 hsm2 hapt hgl
      go_wp2_with (first
        | ((with_reducible show wpList _ _ _ (Oper.mk _ (Op.buildSlice _ _ _) _ _ _ _ :: _) _ _); refine wpList_buildSlice_run (e := 22) (ps := #[(0, GV), (1, GU)]) (cs := #[GV, GU]) rfl rfl (by simp [Act.eval]) HBSL.out ?_)
        | (at_builtin; refine wpList_append_run rfl rfl rfl rfl HR7.out ?_)
        | (go_at_call 47; fail))
      refine (HSM1.out wL (Below.refl _ _)).mono ?_
      rintro e wM ⟨rfl, h8⟩
      have H8 := Lib.hid h8
      have l1 : wM.cell? ⟨gl, LN + 1, none⟩ = some GU := (h8.cell (p := ⟨gl, LN + 1, none⟩) hglb).trans L1.out
      clear h8 l0
      go_wp2_with (go_at_call 47; fail)
      refine (HSM2.out wM H8.out).mono ?_
      rintro e wN ⟨rfl, h9⟩
      have H9 := Lib.hid (H8.out.trans (h9.mono H8.out.size))
      clear h9 l1
      go_wp2_with (go_at_call 48; fail)
      refine (HAPT.out wN H9.out).mono ?_
      rintro e wZ ⟨rfl, hz⟩
      obtain ⟨hx, hy, ha, hb, hbel⟩ := (HP7.out.below H9.out).afterE hz
      have HXZ := Lib.hid hx
      have HYZ := Lib.hid hy
      obtain ⟨A, c, e1, hbA, _⟩ := own_by ha
      injection e1 with e1 _ e2
      subst e1 e2
      obtain ⟨A, c, e1, hbB, _⟩ := own_by hb
      injection e1 with e1 _ e2
      subst e1 e2
      have HBA := Lib.hid hbA
      have HBB := Lib.hid hbB
      have HBZ := Lib.hid hbel
      clear hz hx hy ha hb hbel hbA hbB
      go_wp2_with (go_at_call 42; fail)
      refine (bytes_w gx vx lx (by have := HS2.out; have := HSZ.out; omega) wZ HXZ.out).mono ?_
      rintro e wP ⟨vp, rfl, hop, hbp⟩
      obtain ⟨Ap, cp, rfl, hbap, _⟩ := own_by hop
      have HSP1 := Lib.hid (same_any Ap Aa cp ca lx.length lx rfl (by have := HS2.out; have := HSZ.out; omega) wP hbap (HBA.out.below hbp (Nat.le_refl _)))
      have HP1 := Lib.hid hbp
      clear hop hbp hbap
      go_wp2_with (go_at_call 47; fail)
      refine HSP1.out.mono ?_
      rintro e wQ ⟨rfl, hq⟩
      have HQ := Lib.hid (HP1.out.trans (hq.mono HP1.out.size))
      clear hq
      go_wp2_with (go_at_call 42; fail)
      refine (bytes_w gy vy ly (by have := HS2.out; have := HSZ.out; omega) wQ ⟨HYZ.out.blk.below HQ.out HYZ.out.blk.lt, own_below HYZ.out.own HQ.out⟩).mono ?_
      rintro e wR ⟨vr, rfl, hor, hbr⟩
      obtain ⟨Ar, cr, rfl, hbar, _⟩ := own_by hor
      have HR1 := Lib.hid (HQ.out.trans (hbr.mono HQ.out.size))
      have HSR1 := Lib.hid (same_any Ar Ab cr cb ly.length ly rfl (by have := HS2.out; have := HSZ.out; omega) wR hbar (HBB.out.below HR1.out (Nat.le_refl _)))
      clear hor hbr hbar
      go_wp2_with (go_at_call 47; fail)
      refine HSR1.out.mono ?_
      rintro e wT ⟨rfl, ht⟩
      go_wp2
      go_ret
      exact ⟨rfl, HBZ.out.trans ((HR1.out.trans (ht.mono HR1.out.size)).mono HBZ.out.size)⟩
theorem writes_upto (P0 : Option Addr) (cap : Nat) (xs : List ItemV) (w : World) (hin : ItemsAt w P0 xs) {B : Nat} (hs : (xs.map fun x => x.s.size).sum ≤ B) (hn : xs.length ≤ B) (hB : B + 0 ≤ 1048576) :
    Calls Tryd.prog 29 #[.slice P0 xs.length cap] w (RetB (.bool true) w) := by
  have hss : ∀ x ∈ xs, x.s.size ≤ 1048576 := fun x hx => by
    have key : ∀ l : List ItemV, x ∈ l → x.s.size ≤ (l.map fun x => x.s.size).sum := fun l => by
      induction l with
      | nil => intro h; cases h
      | cons y r ih =>
        intro h
        simp only [List.map_cons, List.sum_cons]
        rcases List.mem_cons.1 h with e | h
        · subst e; omega
        · have := ih h; omega
    have := key xs hx
    omega
  have hle := encs_le xs (fun x hx => Nat.lt_of_le_of_lt (hss x hx) (by decide))
  exact writes_w P0 cap xs w hin (by omega) (by omega) (fun x hx => Nat.le_trans (hss x hx) (by decide))
end Go.Proofs.YtpdpdojaaaipcaaDoor
