/-
  lineagekit.ApartBytes: the walk.
-/
import Derived.Test.YtpdpdojaaaipcaaDoorAptH
namespace Go.Proofs.YtpdpdojaaaipcaaDoor
set_option maxRecDepth 100000
open Go.RowKit
theorem bs_sl (p : Option Addr) (n c : Nat) (w : World) : (Instr.buildSlice 80 1 #[(0, .slice p n c)]).run Tryd.prog w = .ok (.slice (some ⟨w.heap.size, 0, none⟩) 1 1) (w.alloc (.cells #[.slice p n c] 22)) := by kernel_rfl
/-- The second loop, between two lists. -/
structure B1 (B : Nat) (els : List (Value × Nat)) (LF : Nat → Nat) (w2 : World) (N : Nat) (gsv i : Value) (wr : World) : Prop where
  ex : ∃ (k : Nat) (cs : List Value), k ≤ N ∧ i = .int .i64 (k : Int) ∧ cs.length = k ∧ HH B els w2 cs LF gsv cs wr
/-- Within one list. -/
structure B2 (B : Nat) (els : List (Value × Nat)) (LF : Nat → Nat) (w2 : World) (cs : List Value) (en : Nat) (gsv gv i : Value) (wr : World) : Prop where
  ex : ∃ (m : Nat), m ≤ 64 ∧ i = .int .i64 (m : Int) ∧ HH B els w2 (cs ++ [gv]) (fun j => if j = cs.length then en + m else LF j) gsv cs wr
theorem slInfo : ∃ i z, Tryd.prog.info? 22 = some i ∧ i.zero = some z ∧ i.size = 1 ∧ i.bytes = 24 ∧ z.cells.size = 1 := by
  have h : (match Tryd.prog.info? 22 with | some i => (match i.zero with | some z => i.size == 1 && i.bytes == 24 && z.cells.size == 1 | none => false) | none => false) = true := by decide +kernel
  cases hi : Tryd.prog.info? 22 with
  | none => rw [hi] at h; cases h
  | some i =>
    rw [hi] at h
    cases hz : i.zero with
    | none => simp only [hz] at h; cases h
    | some z =>
      simp only [hz, Bool.and_eq_true, beq_iff_eq] at h
      exact ⟨i, z, rfl, hz, h.1.1, h.1.2, h.2⟩
/-- The first loop, between two lists. -/
structure A1 (B : Nat) (els : List (Value × Nat)) (f : Nat → List UInt8) (w : World) (i : Value) (wr : World) : Prop where
  ex : ∃ k : Nat, k ≤ els.length ∧ i = .int .i64 (k : Int) ∧ Els B els wr (fun j => if j < k then mkB j (f j).length else f j) ∧ ChgE els w wr
/-- Within one list. -/
structure A2 (B : Nat) (els : List (Value × Nat)) (f : Nat → List UInt8) (w : World) (k : Nat) (i : Value) (wr : World) : Prop where
  ex : ∃ m : Nat, m ≤ (f k).length ∧ i = .int .i64 (m : Int) ∧ Els B els wr (fun j => if j < k then mkB j (f j).length else if j = k then mkB k m ++ (f k).drop m else f j) ∧ ChgE els w wr
theorem own_val {w : World} {B size n : Nat} {e : TypeId} {v : Value} {xs : List Value} (h : w.ownsRow B e size v n xs) (hn : 0 < n) : ∃ g c, v = .slice (some ⟨g, 0, none⟩) n c ∧ n ≤ c := by
  obtain ⟨g, c, rfl⟩ := own_form h hn
  exact ⟨g, c, rfl, (own_cap h).1⟩
set_option maxHeartbeats 8000000 in
set_option maxRecDepth 20000 in
theorem apart_w (LA : Option Addr) (LC : Nat) (els : List (Value × Nat)) (f : Nat → List UInt8) (B : Nat) (w : World) (hls : w.ownsRow B 22 1 (.slice LA els.length LC) els.length (els.map (·.1))) (hel : Els B els w f) (hap : Apart (.slice LA els.length LC) els)
    (hB : B ≤ w.heap.size) (hn : els.length ≤ 1048600) (hlen : ∀ (j : Nat) (e : Value × Nat), els[j]? = some e → e.2 ≤ 1099511627776) :
    Calls Tryd.prog 48 #[.slice LA els.length LC] w fun e w' => e = .returned (.bool true) ∧ ChgE els w w' := by
  obtain ⟨ii, iz, hi0, hz0, hz1, hz2, hz3⟩ := u8Info
  obtain ⟨si, sz, si0, sz0, sz1, sz2, sz3⟩ := slInfo
  have HB := Lib.hid hB
  clear hB
  have HLS := Lib.hid hls
  have HEL := Lib.hid hel
  have HAP := Lib.hid hap
  have HLEN := Lib.hid hlen
  have HFL := Lib.hid (show ∀ (j : Nat) (e : Value × Nat), els[j]? = some e → (f j).length = e.2 from fun j e he => by have := (hel.own j e he).1; rw [byv_len] at this; omega)
  obtain ⟨N, hN⟩ : ∃ N, els.length = N := ⟨_, rfl⟩
  rw [hN] at hn HLS HAP ⊢
  have HN := Lib.hid hN
  have HNB := Lib.hid hn
  have HKEEP := Lib.hid (show ∀ wr, ChgE els w wr → wr.ownsRow B 22 1 (.slice LA N LC) N (els.map (·.1)) from fun wr hc => own_same HLS.out fun q hq => hc.block q (HLS.out.lt q hq).2 (fun e he hb => by
    obtain ⟨j, hj⟩ := List.getElem?_of_mem he
    exact HAP.out.list j e q hj hb hq))
  clear hls hel hap hlen hN hn
  go_enter Tryd.func48, Tryd.ntmps48
  go_wp2
  go_loopw [3] (A1 B els f w) (fun i _ => N - (intOf i).toNat)
  case atStart => exact ⟨⟨0, Nat.zero_le _, rfl, HEL.out.congr fun j => by rw [if_neg (by omega)], ChgE.refl _ _⟩⟩
  case round =>
    obtain ⟨⟨k, hk, rfl, hels, hchg⟩⟩ := hrel
    rw [HN.out] at hk
    have HE := Lib.hid hels
    have HC := Lib.hid hchg
    clear hels hchg HEL
    by_cases hlt : k < N
    · have hki : (k : Int) < (N : Int) := by omega
      have hkb : (k : Int) + 1 ≤ 4611686018427387904 := by have := HNB.out; omega
      obtain ⟨e, he⟩ : ∃ e, els[k]? = some e := ⟨_, List.getElem?_eq_getElem (by rw [HN.out]; exact hlt)⟩
      obtain ⟨ev, en⟩ := e
      have HEK := Lib.hid he
      have hfl := HFL.out k _ he
      simp only at hfl
      have HFK := Lib.hid hfl
      have hls0 := HKEEP.out wr HC.out
      obtain ⟨lb, lc, hLA, _⟩ := own_val hls0 (by omega)
      injection hLA with hLA _ _
      subst hLA
      clear he hfl hls0
      go_wp2
      go_loopw [4] (A2 B els f w k) (fun i _ => en - (intOf i).toNat)
      case atStart => exact ⟨⟨0, Nat.zero_le _, rfl, HE.out.congr fun j => by
        by_cases h1 : j < k
        · rw [if_pos h1, if_pos h1]
        · rw [if_neg h1, if_neg h1]
          by_cases h2 : j = k
          · subst h2; rw [if_pos rfl]; rfl
          · rw [if_neg h2], HC.out⟩⟩
      case round =>
        clear HE HC
        obtain ⟨⟨m, hm, rfl, hels, hchg⟩⟩ := hrel
        rw [HFK.out] at hm
        have HE := Lib.hid hels
        have HC := Lib.hid hchg
        have hlsr := HKEEP.out _ hchg
        have lk := hlsr.cells rfl k ev (by rw [List.getElem?_map, HEK.out]; rfl)
        rw [Addr.add_lit, Nat.zero_add] at lk
        have hlb := (hlsr.lt lb rfl).2
        have hown : wr.ownsRow B 5 1 ev en (byv (mkB k m ++ (f k).drop m)) := by have h := hels.own k _ HEK.out; simpa using h
        obtain ⟨ep, ec, rfl⟩ := pk_slice hown
        clear hels hchg hlsr
        by_cases hlt2 : m < en
        · have hmi : (m : Int) < (en : Int) := by omega
          have hmb : (m : Int) + 1 ≤ 4611686018427387904 := by have := HLEN.out k _ HEK.out; simp only at this; omega
          obtain ⟨eg, ec', hep, hcap⟩ := own_val hown (by omega)
          injection hep with hep _ hec
          subst hep hec
          have hcapi : (en : Int) ≤ (ec : Int) := by omega
          obtain ⟨cur, hblk⟩ := own_blk2 hown
          have HBLK := Lib.hid hblk
          have HQ := Lib.hid (quiet_same (markn_any k m (by have := HNB.out; omega) (by have := HLEN.out k _ HEK.out; simp only at this; omega)))
          obtain ⟨u0, hu0⟩ : ∃ u0, wr.cell? ⟨eg, m, none⟩ = some u0 := by
            obtain ⟨u0, hu0⟩ : ∃ u0, (byv (mkB k m ++ (f k).drop m))[m]? = some u0 := ⟨_, List.getElem?_eq_getElem (by have h1 := hown.1; omega)⟩
            have h2 := hown.cells rfl m u0 hu0
            rw [Addr.add_lit, Nat.zero_add] at h2
            exact ⟨u0, h2⟩
          clear hown hblk hcap
          go_wp2
          have lk2 := cell_regrown (v := .slice (some ⟨eg, 0, none⟩) en ec) lk
          refine wp_region_quiet_tail_below 9 (by kernel_rfl) (by kernel_rfl) ?_
          simp only [List.take_succ_cons, List.take_zero, List.drop_succ_cons, List.drop_zero]
          repeat (first | go_big_quiet_skip | (go_big_quiet_want; go_big_quiet_op; first | go_big_quiet_on | go_big_quiet_call (with_reducible exact HQ.out _ _ _)))
          refine wpQuiet_nil ?_
          intro v0 hC
          have hb := below_class hC
          have HB0 := Lib.hid hb
          have b0 := HBLK.out.below hb HBLK.out.lt
          have y0 := b0.cell m
          have y1 : v0.cell? ⟨eg, m, none⟩ = some u0 := (hb.cell (p := ⟨eg, m, none⟩) HBLK.out.lt).trans hu0
          have z1 := b0.frozen m
          clear hb hC b0 y0 hu0 lk lk2
          go_wp2
          go_roundw
          case rel =>
            refine ⟨⟨m + 1, by rw [HFK.out]; omega, rfl, (((HE.out.below HB0.out).set HAP.out HEK.out hlt2 (l := mkB k (m + 1) ++ (f k).drop (m + 1)) ?_)).congr (fun j => ?_), (HC.out.trans (ChgE.ofBelow HB0.out)).trans (ChgE.set HEK.out rfl)⟩⟩
            · simp only [Nat.lt_irrefl, if_false, if_true]
              exact mkB_step k m (f k) (by rw [HFK.out]; exact hlt2)
            · by_cases h2 : j = k
              · subst h2; simp
              · simp only [if_neg h2]
          case measure => simp only [intOf]; omega
        · have hmi : ¬ (m : Int) < (en : Int) := by omega
          have hme : m = en := by omega
          have HME := Lib.hid hme
          clear hown hme
          go_wp2
          go_roundw
          case rel =>
            refine ⟨⟨k + 1, by rw [HN.out]; omega, rfl, HE.out.congr (fun j => ?_), HC.out⟩⟩
            by_cases h1 : j < k
            · rw [if_pos h1, if_pos (by omega)]
            · rw [if_neg h1]
              by_cases h2 : j = k
              · subst h2
                rw [if_pos rfl, if_pos (by omega), HME.out, ← HFK.out, List.drop_length, List.append_nil]
              · rw [if_neg h2, if_neg (by omega)]
          case measure => simp only [intOf]; omega
    · have hki : ¬ (k : Int) < (N : Int) := by omega
      obtain ⟨w2, rfl⟩ : ∃ w2, w2 = wr := ⟨wr, rfl⟩
      have hE2 : ∀ (j : Nat) (e : Value × Nat), els[j]? = some e → w2.ownsRow B 5 1 e.1 e.2 (byv (mkB j e.2)) := fun j e he => by
        have h1 := HE.out.own j e he
        have h2 := (List.getElem?_eq_some_iff.1 he).1
        rw [HN.out] at h2
        simp only [if_pos (show j < k by omega)] at h1
        rwa [HFL.out j e he] at h1
      have hold : OldEls els w2 := fun j e q he hq => ((hE2 j e he).lt q hq).2
      have HE2 := Lib.hid hE2
      have HOLD := Lib.hid hold
      have HC2 := Lib.hid HC.out
      have hB2 : B ≤ w2.heap.size := Nat.le_trans HB.out HC.out.size
      have HB2 := Lib.hid hB2
      clear hE2 hold HE HC hB2 hlt hk
      obtain ⟨LF, hLF⟩ : ∃ LF : Nat → Nat, ∀ j e, els[j]? = some e → LF j = e.2 + 64 := ⟨fun j => ((els[j]?).map (·.2)).getD 0 + 64, fun j e he => by simp only [he, Option.map_some, Option.getD_some]⟩
      have HLF := Lib.hid hLF
      clear hLF
      go_wp2
      go_loopw [5, 6] (B1 B els LF w2 N) (fun _ i _ => N - (intOf i).toNat)
      case atStart => exact ⟨⟨0, [], Nat.zero_le _, rfl, rfl, ⟨fun j g h => by simp at h, fun j g e h => by simp at h, fun i j a b q h => by simp at h, fun j a q h => by simp at h, ⟨rfl, .inl ⟨rfl, rfl⟩⟩, fun j e he q hq i x hx => own_cells (HE2.out j e he) hq hx, fun j e _ he => HE2.out j e he, ChgE.refl _ _, HB2.out⟩⟩⟩
      case round =>
        obtain ⟨⟨k, cs, hk, rfl, hcl, hH⟩⟩ := hrel
        have HH1 := Lib.hid hH
        have HCL := Lib.hid hcl
        have HCW := Lib.hid (HC2.out.trans hH.chg)
        clear hH hcl
        by_cases hlt : k < N
        · have hki2 : (k : Int) < (N : Int) := by omega
          have hkb : (k : Int) + 1 ≤ 2097152 := by have := HNB.out; omega
          obtain ⟨e, he⟩ : ∃ e, els[k]? = some e := ⟨_, List.getElem?_eq_getElem (by rw [HN.out]; exact hlt)⟩
          obtain ⟨ev, en⟩ := e
          have HEK := Lib.hid he
          have hls0 := HKEEP.out wr HCW.out
          obtain ⟨lb, lc, hLA, _⟩ := own_val hls0 (by omega)
          injection hLA with hLA _ hLC
          subst hLA hLC
          have hlk := hls0.cells rfl k ev (by rw [List.getElem?_map, he]; rfl)
          rw [Addr.add_lit, Nat.zero_add] at hlk
          have hev : wr.ownsRow B 5 1 ev en (byv (mkB k en)) := HH1.out.rest k (ev, en) (by rw [HCL.out]; exact Nat.le_refl _) he
          obtain ⟨ep, ec, rfl⟩ := pk_slice hev
          have hst := HH1.out.start (fun i j a b g => HAP.out.two i j a b g) HOLD.out (e := (.slice ep en ec, en)) (by rw [HCL.out]; exact he)
          have HST := Lib.hid hst
          have hen : en ≤ 1099511627776 := HLEN.out k _ he
          have HEN := Lib.hid hen
          clear he hls0 hev hst hen
          go_wp2
          go_loopw [7, 8] (B2 B els LF w2 cs en u5) (fun _ i _ => 64 - (intOf i).toNat)
          case atStart =>
            refine ⟨⟨0, Nat.zero_le _, rfl, HST.out.congr fun j hj => ?_⟩⟩
            by_cases h1 : j = cs.length
            · rw [if_pos h1, if_pos h1]; rfl
            · rw [if_neg h1, if_neg h1]
          case round =>
            clear hlk HST HH1 HCW
            obtain ⟨⟨m, hm, rfl, hH⟩⟩ := hrel
            have HH2 := Lib.hid hH
            have HCW := Lib.hid (HC2.out.trans hH.chg)
            by_cases hlt2 : m < 64
            · have hmi : (m : Int) < 64 := by omega
              have hlsr := HKEEP.out _ HCW.out
              have lk := hlsr.cells rfl k (.slice ep en ec) (by rw [List.getElem?_map, HEK.out]; rfl)
              rw [Addr.add_lit, Nat.zero_add] at lk
              obtain ⟨q, hq⟩ : ∃ q, en + m = q := ⟨_, rfl⟩
              have hqi : (en : Int) + (m : Int) = (q : Int) := by omega
              have hqb : (q : Int) ≤ 2199023255552 := by have := HEN.out; omega
              have HQ := Lib.hid (markn_any k q (by have := HNB.out; omega) (by have := HEN.out; omega))
              have hgv := hH.own cs.length u7 (by rw [List.getElem?_append_right (Nat.le_refl _), Nat.sub_self]; rfl)
              simp only [if_true, hq] at hgv
              obtain ⟨v', w4, hr, ho4, hg4⟩ := run_append_gr (P := Tryd.prog) (wr.alloc (.cells #[.int .u8 ((mk k q : Nat) : Int)] 5)) B 22 22 5 ii iz 1 1 Tryd.underlying22 hi0 hz0 hz1 hz2 hz3 (by decide) u7 q _ (hgv.alloc _) ⟨wr.heap.size, 0, none⟩ 1 1 [.int .u8 ((mk k q : Nat) : Int)] rfl
                (fun j u hu => by rw [Addr.add_lit, Nat.zero_add, (Blk.new wr _ _).cell]; simpa using hu) (fun u hu => by simp at hu; subst hu; rfl) (by have := HEN.out; unfold maxLen; omega) (by have := HEN.out; omega) (by have := HB2.out; have := hH.chg.size; simp; omega)
              have HR := Lib.hid hr
              have hcsl := HCL.out
              have hnew : HH B els w2 (cs ++ [v']) (fun j => if j = cs.length then en + (m + 1) else LF j) u5 cs w4 := by
                refine ((hH.below ((Below.refl wr.heap.size wr).alloc (Nat.le_refl _) _)).turn (m := q + 1) (fun i j a b g => HAP.out.two i j a b g) HOLD.out (by rw [hcsl, HN.out]; exact hlt) (fun e he => by rw [hcsl, HEK.out] at he; cases he; show en ≤ q + 1; omega) ?_ hg4).congr fun j hj => ?_
                · rw [mkB_succ, byv_snoc _ _ (mk_lt _ _), hcsl]
                  exact hcsl ▸ ho4
                · by_cases h1 : j = cs.length
                  · rw [if_pos h1, if_pos h1]; omega
                  · rw [if_neg h1, if_neg h1, if_neg h1]
              have HNEW := Lib.hid hnew
              have hen0 : (en : Int) ≤ 2199023255552 := by have := HEN.out; omega
              clear hH hlsr hgv hr ho4 hg4 hnew hq hcsl
              go_wp2_with (first
                | (go_at_call 33; refine (HQ.out _).mono ?_; rintro e w' ⟨rfl, rfl⟩)
                | (at_builtin; refine wpList_append_run rfl rfl rfl rfl HR.out ?_))
              go_roundw
              case rel => exact ⟨⟨m + 1, by omega, rfl, HNEW.out⟩⟩
              case measure => simp only [intOf]; omega
            · have hmi : ¬ (m : Int) < 64 := by omega
              have hm64 : m = 64 := by omega
              have HM64 := Lib.hid hm64
              clear hm64
              have hgv := hH.own cs.length u7 (by rw [List.getElem?_append_right (Nat.le_refl _), Nat.sub_self]; rfl)
              simp only [if_true] at hgv
              obtain ⟨gb, gc, rfl, _⟩ := own_val hgv (by have := HM64.out; omega)
              obtain ⟨GV, hGV⟩ : ∃ GV, Value.slice (some ⟨gb, 0, none⟩) (en + m) gc = GV := ⟨_, rfl⟩
              rw [hGV] at hH ⊢
              have hone : GV.oneCell' = true := by rw [← hGV]; rfl
              have hcsl := HCL.out
              obtain ⟨v', w4, hr, ho4, hg4⟩ := run_append_gr (P := Tryd.prog) (wr.alloc (.cells #[GV] 22)) w2.heap.size 80 80 22 si sz 1 24 Tryd.underlying80 si0 sz0 sz1 sz2 sz3 (by decide) u5 cs.length _ (hH.row.alloc _) ⟨wr.heap.size, 0, none⟩ 1 1 [GV] rfl
                (fun j u hu => by rw [Addr.add_lit, Nat.zero_add, (Blk.new wr _ _).cell]; simpa using hu) (fun u hu => by simp at hu; subst hu; exact hone) (by have := HNB.out; unfold maxLen; omega) (by have := HNB.out; omega) (by have := hH.chg.size; simp; omega)
              have HR := Lib.hid hr
              have hnew : HH B els w2 (cs ++ [GV]) LF v' (cs ++ [GV]) w4 := by
                refine ((hH.below ((Below.refl wr.heap.size wr).alloc (Nat.le_refl _) _)).push ho4 hg4 HOLD.out).congr fun j hj => ?_
                by_cases h1 : j = cs.length
                · rw [if_pos h1, h1, hcsl, HLF.out k _ HEK.out, HM64.out]
                · rw [if_neg h1]
              have HNEW := Lib.hid hnew
              have hbs : ∀ w : World, (Instr.buildSlice 80 1 #[(0, GV)]).run Tryd.prog w = .ok (.slice (some ⟨w.heap.size, 0, none⟩) 1 1) (w.alloc (.cells #[GV] 22)) := fun w => by rw [← hGV]; exact bs_sl _ _ _ w
              have HBS := Lib.hid hbs
              clear hbs
              clear hH hgv hr ho4 hg4 hnew hcsl hone hGV
              go_wp2_with (first
                | ((with_reducible show wpList _ _ _ (Oper.mk _ (Op.buildSlice _ _ _) _ _ _ _ :: _) _ _); refine wpList_buildSlice_run (e := 22) (ps := #[(0, GV)]) (cs := #[GV]) rfl rfl (by simp [Act.eval]) HBS.out ?_)
                | (at_builtin; refine wpList_append_run rfl rfl rfl rfl HR.out ?_))
              go_roundw
              case rel => exact ⟨⟨k + 1, cs ++ [GV], by omega, rfl, by rw [List.length_append, HCL.out]; rfl, HNEW.out⟩⟩
              case measure => simp only [intOf]; omega
        · have hki2 : ¬ (k : Int) < (N : Int) := by omega
          obtain ⟨w3, rfl⟩ : ∃ w3, w3 = wr := ⟨wr, rfl⟩
          obtain ⟨GW, hGW⟩ : ∃ GW, u5 = GW := ⟨_, rfl⟩
          rw [hGW] at HH1
          have hN1 : N ≤ cs.length := by rw [HCL.out]; omega
          have HN1 := Lib.hid hN1
          have hN2 : cs.length = N := by rw [HCL.out]; omega
          have HN2 := Lib.hid hN2
          have hrow0 := HH1.out.row
          rw [hN2] at hrow0
          obtain ⟨gp, gc, rfl⟩ := pk_slice hrow0
          subst hGW
          clear hN1 hN2 hrow0
          go_wp2
          go_loopw [9] (fun i wr => ∃ k : Nat, k ≤ N ∧ i = .int .i64 (k : Int) ∧ Below w3.heap.size w3 wr) (fun i _ => N - (intOf i).toNat)
          case atStart => exact ⟨0, Nat.zero_le _, rfl, Below.refl _ _⟩
          case round =>
            obtain ⟨k, hk, rfl, hb3⟩ := hrel
            have HB3 := Lib.hid hb3
            clear hb3
            by_cases hlt : k < N
            · have hki3 : (k : Int) < (N : Int) := by omega
              have hkb : (k : Int) + 1 ≤ 2097152 := by have := HNB.out; omega
              obtain ⟨e, he⟩ : ∃ e, els[k]? = some e := ⟨_, List.getElem?_eq_getElem (by rw [HN.out]; exact hlt)⟩
              obtain ⟨ev, en⟩ := e
              have HEK := Lib.hid he
              obtain ⟨gv, hgv⟩ : ∃ gv, cs[k]? = some gv := ⟨_, List.getElem?_eq_getElem (by rw [HN2.out]; exact hlt)⟩
              have hgo := HH1.out.own k gv hgv
              rw [HLF.out k _ he] at hgo
              simp only at hgo
              obtain ⟨ab, ac, rfl, hac⟩ := own_val hgo (by omega)
              have HGO := Lib.hid hgo
              have hev : w2.ownsRow B 5 1 ev en (byv (mkB k en)) := HE2.out k _ he
              obtain ⟨ep, ec, rfl⟩ := pk_slice hev
              have HEV := Lib.hid hev
              have hrow := HH1.out.row
              obtain ⟨rb, rc, hgp, hrc⟩ := own_val hrow (by rw [HN2.out]; omega)
              injection hgp with hgp hgl hgc
              subst hgp hgc
              rw [HN2.out] at hrc
              have HGV := Lib.hid (hrow.cells rfl k _ hgv)
              have HRB := Lib.hid (hrow.lt rb rfl).2
              have hls3 := HKEEP.out w3 HCW.out
              obtain ⟨lb, lc, hLA, hLC2⟩ := own_val hls3 (by omega)
              injection hLA with hLA _ hLC
              subst hLA hLC
              have HLV := Lib.hid (hls3.cells rfl k (.slice ep en ec) (by rw [List.getElem?_map, he]; rfl))
              have HLB := Lib.hid (hls3.lt lb rfl).2
              have HEC := Lib.hid (hev)
              have hen0 : (en : Int) ≤ 2199023255552 := by have := HLEN.out k _ he; simp only at this; omega
              have hacI : (en : Int) + 64 ≤ (ac : Int) := by omega
              obtain ⟨EN, hEN⟩ : ∃ EN, en + 64 = EN := ⟨_, rfl⟩
              have hENi : (EN : Int) ≤ 2199023255652 := by omega
              have HEN := Lib.hid hEN
              rw [hEN] at HGO HGV
              clear he hgv hgo hev hrow hls3 hgl hEN
              go_wp2
              go_loopw [10, 11] (fun i _ wr => ∃ m : Nat, m ≤ EN ∧ i = .int .i64 (m : Int) ∧ Below w3.heap.size w3 wr) (fun i _ _ => EN - (intOf i).toNat)
              case atStart => exact ⟨0, Nat.zero_le _, rfl, HB3.out⟩
              case round =>
                clear HB3
                obtain ⟨m, hm, rfl, hb3⟩ := hrel
                have HB3 := Lib.hid hb3
                have g1 : wr.cell? ⟨rb, k, none⟩ = some (.slice (some ⟨ab, 0, none⟩) EN ac) := by have h1 := HGV.out; rw [Addr.add_lit, Nat.zero_add] at h1; exact (hb3.cell (p := ⟨rb, k, none⟩) HRB.out).trans h1
                have g2 : wr.cell? ⟨lb, k, none⟩ = some (.slice ep en ec) := by have h1 := HLV.out; rw [Addr.add_lit, Nat.zero_add] at h1; exact (hb3.cell (p := ⟨lb, k, none⟩) HLB.out).trans h1
                clear hb3
                by_cases hlt2 : m < EN
                · have hmi : (m : Int) < (EN : Int) := by omega
                  have g3 : wr.cell? ⟨ab, m, none⟩ = some (.int .u8 ((mk k m : Nat) : Int)) := by
                    have h1 := own_cells HGO.out rfl (i := m) (x := UInt8.ofNat (mk k m)) (mkB_get hlt2)
                    rw [ofNat_toNat (mk_lt k m)] at h1
                    exact (HB3.out.cell (p := ⟨ab, m, none⟩) (World.block_lt_of_cell? w3 _ h1)).trans h1
                  have HQ := Lib.hid (markn_any k m (by have := HNB.out; omega) (by omega))
                  have hmac : (m : Int) < (ac : Int) := by have := HEN.out; omega
                  by_cases hlt3 : m < en
                  · have hmi3 : (m : Int) < (en : Int) := by omega
                    obtain ⟨eb, ec', hep, _⟩ := own_val HEV.out (by omega)
                    injection hep with hep _ hec
                    subst hep hec
                    have g4 : wr.cell? ⟨eb, m, none⟩ = some (.int .u8 ((mk k m : Nat) : Int)) := by
                      have h1 := HH1.out.old k _ HEK.out eb rfl m (UInt8.ofNat (mk k m)) (mkB_get hlt3)
                      rw [ofNat_toNat (mk_lt k m)] at h1
                      exact (HB3.out.cell (p := ⟨eb, m, none⟩) (World.block_lt_of_cell? w3 _ h1)).trans h1
                    go_wp2_with (go_at_call 33; refine (HQ.out _).mono ?_; rintro e w' ⟨rfl, rfl⟩)
                    go_roundw
                    case rel => exact ⟨m + 1, by omega, rfl, HB3.out⟩
                    case measure => simp only [intOf]; omega
                  · have hmi3 : ¬ (m : Int) < (en : Int) := by omega
                    go_wp2_with (go_at_call 33; refine (HQ.out _).mono ?_; rintro e w' ⟨rfl, rfl⟩)
                    go_roundw
                    case rel => exact ⟨m + 1, by omega, rfl, HB3.out⟩
                    case measure => simp only [intOf]; omega
                · have hmi : ¬ (m : Int) < (EN : Int) := by omega
                  go_wp2
                  go_roundw
                  case rel => exact ⟨k + 1, by omega, rfl, HB3.out⟩
                  case measure => simp only [intOf]; omega
            · have hki3 : ¬ (k : Int) < (N : Int) := by omega
              go_wp2
              go_ret
              exact ⟨rfl, HCW.out.trans (ChgE.ofBelow HB3.out)⟩
end Go.Proofs.YtpdpdojaaaipcaaDoor
