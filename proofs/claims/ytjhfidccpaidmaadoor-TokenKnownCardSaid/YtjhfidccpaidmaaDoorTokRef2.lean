/-
  Package lineageref08: Parse.
-/
import Derived.Test.YtjhfidccpaidmaaDoorTokRef
import Derived.Test.YtjhfidccpaidmaaDoorPlain
import Derived.Test.YtjhfidccpaidmaaDoorTokLaws
namespace Go.Proofs.YtjhfidccpaidmaaDoor
set_option maxRecDepth 100000
open Go.RowKit

def rparseV (r : Except Nat (Nat × Nat × Nat)) : Value := match r with
  | .ok (s, b, x) => .tuple #[.agg (Tok.mk s b (BitVec.ofNat 64 x)).cells, .int .i64 0]
  | .error k => .tuple #[.agg Tok.zero.cells, .int .i64 k]
structure RParseRel (w : World) (l : List UInt8) (lv i : Value) (wr : World) : Prop where
  ex : ∃ k m ds bs, k = m + 1 ∧ m ≤ 20 ∧ i = .int .i64 (k : Nat) ∧ numsOf (l.tail.take m) = some ds ∧ bs.length = 5 * m ∧ (∀ j, j < 5 * m → bs[j]? = some (bitN (accL ds) (5 * m - 1 - j))) ∧
    wr.ownsRow (w.heap.size + 1) 4 1 lv (5 * m) (bools bs) ∧ Below w.heap.size w wr ∧ w.heap.size + 1 ≤ wr.heap.size ∧ Blk wr w.heap.size 24 Tok.zero.cells
theorem take_parse (A : Nat) (hA : A < 2 ^ 100) (bs : List Bool) (h : ∀ j, j < 100 → bs[j]? = some (bitN A (100 - 1 - j))) :
    takeN bs 96 4 = A % 16 ∧ takeN bs 0 8 = A / 16 / 2 ^ 88 ∧ takeN bs 8 24 = A / 16 / 2 ^ 64 % 2 ^ 24 ∧ takeN bs 32 64 = A / 16 % 2 ^ 64 := by
  rw [takeN_bits bs A 100 96 h 4 (by decide), takeN_bits bs A 100 0 h 8 (by decide), takeN_bits bs A 100 8 h 24 (by decide), takeN_bits bs A 100 32 h 64 (by decide)]
  refine ⟨?_, ?_, ?_, ?_⟩
  · simp only [show 100 - 96 - 4 = 0 from rfl, Nat.pow_zero, Nat.div_one]
  · rw [show 100 - 0 - 8 = 4 + 88 from rfl, Nat.pow_add, ← Nat.div_div_eq_div_mul, Nat.mod_eq_of_lt]
    omega
  · rw [show 100 - 8 - 24 = 4 + 64 from rfl, Nat.pow_add, ← Nat.div_div_eq_div_mul]
  · rfl
set_option maxHeartbeats 1000000 in
theorem rparse_short (s : ByteArray) (h : s.size < 21) (w : World) : Calls Tryd.prog 10 #[.string s] w (RetB (rparseV (.error 2)) w) := by
  have h1 : (s.size : Int) < 21 := by omega
  clear h
  go_enter Tryd.func10, Tryd.ntmps10
  go_wp2
  exact bodyPost_ret (results_at_tmp rfl rfl (Blk.new w 24 Tok.zero.cells).row rfl rfl tokInfo) rfl ⟨rfl, (Below.refl _ _).alloc (Nat.le_refl _) _⟩
set_option maxHeartbeats 1000000 in
theorem rparse_long (s : ByteArray) (h : 21 < s.size) (w : World) : Calls Tryd.prog 10 #[.string s] w (RetB (rparseV (.error 3)) w) := by
  have h1 : ¬ (s.size : Int) < 21 := by omega
  have h2 : (21 : Int) < s.size := by omega
  clear h
  go_enter Tryd.func10, Tryd.ntmps10
  go_wp2
  exact bodyPost_ret (results_at_tmp rfl rfl (Blk.new w 24 Tok.zero.cells).row rfl rfl tokInfo) rfl ⟨rfl, (Below.refl _ _).alloc (Nat.le_refl _) _⟩
set_option maxHeartbeats 1000000 in
theorem rparse_head (s : ByteArray) (h : s.size = 21) (h0 : s.data.toList.head? ≠ some 116) (w : World) : Calls Tryd.prog 10 #[.string s] w (RetB (rparseV (.error 4)) w) := by
  have h1 : (s.size : Int) = 21 := by omega
  have hlt : 0 < s.size := by omega
  have hb0 : ((s[0].toNat : Int) != 116) = true := by
    have := byte_of s 0 hlt
    rw [← List.head?_eq_getElem?] at this
    rw [this] at h0
    have h2 : s[0] ≠ 116 := fun e => h0 (by rw [e])
    have h3 : s[0].toNat ≠ 116 := fun e => h2 (UInt8.toNat_inj.1 e)
    simp; omega
  have H21 := Lib.hid h
  clear h h0
  go_enter Tryd.func10, Tryd.ntmps10
  go_wp2
  exact bodyPost_ret (results_at_tmp rfl rfl (Blk.new w 24 Tok.zero.cells).row rfl rfl tokInfo) rfl ⟨rfl, (Below.refl _ _).alloc (Nat.le_refl _) _⟩

set_option maxHeartbeats 2000000 in
theorem rparse_main (s : ByteArray) (h : s.size = 21) (h0 : s.data.toList.head? = some 116) (w : World) : Calls Tryd.prog 10 #[.string s] w (RetB (rparseV (parseL s.data.toList)) w) := by
  have h1 : (s.size : Int) = 21 := by omega
  have hlt : 0 < s.size := by omega
  have hb0 : s[0] = 116 := by
    have := byte_of s 0 hlt
    rw [← List.head?_eq_getElem?, h0] at this
    exact (Option.some.inj this).symm
  have H21 := Lib.hid h
  obtain ⟨l, hl⟩ : ∃ l, s.data.toList = l := ⟨_, rfl⟩
  have HL := Lib.hid hl
  have HP : Hid (parseL s.data.toList = match numsOf l.tail with | none => .error 4 | some ds => parseA (accL ds)) := by
    apply Lib.hid
    unfold parseL
    have e : s.data.toList.length = 21 := by simpa using h
    rw [e, if_neg (by decide), if_neg (by decide), h0, if_neg (by simp), hl]
    cases numsOf l.tail <;> rfl
  have HZ := Lib.hid (Blk.new w 24 Tok.zero.cells)
  clear h h0 hl
  go_enter Tryd.func10, Tryd.ntmps10
  go_wp2
  go_loopw [4, 5] (RParseRel w l) (fun _ i _ => 21 - (intOf i).toNat)
  case atStart =>
    exact ⟨⟨1, 0, [], [], rfl, by omega, rfl, rfl, rfl, fun j hj => absurd hj (by omega), ⟨rfl, .inl ⟨rfl, rfl⟩⟩, (Below.refl _ _).alloc (Nat.le_refl _) _, by simp, HZ.out⟩⟩
  case round =>
    clear HZ
    obtain ⟨⟨k, m, ds, bs, hkm, hm, rfl, hds, hbl, hbs, hown, hbel, hsz, hblk⟩⟩ := hrel
    have HK := Lib.hid hkm
    have HDS := Lib.hid hds
    have HBL := Lib.hid hbl
    have HBS := Lib.hid hbs
    have HBEL := Lib.hid hbel
    have HBLK := Lib.hid hblk
    have HO := Lib.hid hown
    have hk1 : 1 ≤ k := by omega
    have hk21 : k ≤ 21 := by omega
    clear hkm hds hbel hblk hbl hbs hown
    by_cases hlt : k < 21
    · have hks : k < s.size := by have := H21.out; omega
      have hi : (k : Int) < 21 := by omega
      obtain ⟨c, hc⟩ : ∃ c, s[k] = c := ⟨_, rfl⟩
      have HC : Hid (l.tail[m]? = some c) := by
        apply Lib.hid
        rw [List.getElem?_tail, ← HL.out, ← HK.out, byte_of s k hks, hc]
      have HT : Hid (l.tail.take (m + 1) = l.tail.take m ++ [c]) := by
        apply Lib.hid
        rw [List.take_add_one, HC.out]; rfl
      cases hn : numOf c with
      | none =>
        have hz : idxZ c = -1 := by simp [idxZ, hn]
        have HN := Lib.hid hn
        clear hn
        go_wp2_with (first
          | (go_at_call 24; refine (rindex_any c _).mono ?_; rintro e w' ⟨rfl, rfl⟩)
          | (refine wpList_store_all rfl rfl rfl rfl HBLK.out rfl (Tok.one Tok.zero) tokInfo ?_))
        refine bodyPost_ret (results_at_tmp rfl rfl (HBLK.out.setRow_same _).row rfl rfl tokInfo) rfl ⟨?_, bel_setRow HBEL.out (Nat.le_refl _) _⟩
        have hnone : numsOf l.tail = none := by
          have e : l.tail = l.tail.take m ++ c :: l.tail.drop (m + 1) := by
            have := List.take_append_drop (m + 1) l.tail
            rw [HT.out] at this
            simpa using this.symm
          rw [e]; exact numsOf_bad _ _ _ HN.out
        rw [HP.out, hnone]
        rfl
      | some d =>
        have hz : idxZ c = (d : Int) := by simp [idxZ, hn]
        have hd := numOf_lt hn
        have HN := Lib.hid (numsOf_snoc HDS.out hn)
        rw [← HT.out] at HN
        clear hn
        go_wp2_with (first
          | (go_at_call 24; refine (rindex_any c _).mono ?_; rintro e w' ⟨rfl, rfl⟩)
          | (go_at_call 18; fail))
        refine (rput_any (w.heap.size + 1) d 5 (5 * m) (by omega) (by decide) (by omega) _ bs wr HO.out hsz).mono ?_
        rintro e w2 ⟨l2, rfl, hO2, hg2⟩
        have HO2 := Lib.hid hO2
        have HG2 := Lib.hid hg2
        clear hO2 hg2
        go_wp2
        go_roundw
        case rel =>
          refine ⟨⟨k + 1, m + 1, ds ++ [d], bs ++ bitsV d 5, by rw [HK.out], by have := HK.out; omega, by go_num, HN.out, by rw [List.length_append, bitsV_len, HBL.out]; omega, ?_, ?_, bel_grows HBEL.out HG2.out HO.out (by omega) (by omega), Nat.le_trans hsz HG2.out.grown.size, HBLK.out.grows HG2.out (own_ne HO.out (by omega))⟩⟩
          · intro j hj
            have := bits_join bs (accL ds) d (5 * m) 5 HBS.out HBL.out (by omega) j (by omega)
            rw [accL_snoc]
            rw [show 5 * (m + 1) - 1 - j = 5 * m + 5 - 1 - j from by omega]
            exact this
          · rw [show 5 * (m + 1) = 5 * m + 5 from by omega]
            exact HO2.out
        case measure => simp [intOf]; omega
    · have hk' : k = 21 := by omega
      have hm' : m = 20 := by have := HK.out; omega
      subst hk' hm'
      obtain ⟨g, cap, rfl⟩ := own_form HO.out (by decide)
      have hnum : numsOf l.tail = some ds := by
        have e : l.tail.take 20 = l.tail := List.take_of_length_le (by rw [← HL.out]; simp; have := H21.out; omega)
        rw [← e]; exact HDS.out
      have hA : accL ds < 2 ^ 100 := by
        have := accL_lt hnum
        have e : l.tail.length = 20 := by rw [← HL.out]; simp; have := H21.out; omega
        rw [e] at this
        exact this
      have HPA : Hid (parseL s.data.toList = parseA (accL ds)) := Lib.hid (by rw [HP.out, hnum])
      have HA := Lib.hid hA
      obtain ⟨t1, t2, t3, t4⟩ := take_parse (accL ds) hA bs HBS.out
      have H1 := Lib.hid t1
      have H2 := Lib.hid t2
      have H3 := Lib.hid t3
      have H4 := Lib.hid t4
      have b1 := takeN_lt bs 96 4
      have b2 := takeN_lt bs 0 8
      have b3 := takeN_lt bs 8 24
      have b4 := takeN_lt bs 32 64
      have hv4 : ((takeN bs 32 64 : Nat) : Int) = wd (BitVec.ofNat 64 (takeN bs 32 64)) := by
        unfold wd
        rw [BitVec.toNat_ofNat, Nat.mod_eq_of_lt b4]
      obtain ⟨y, hy⟩ : ∃ y, BitVec.ofNat 64 (takeN bs 32 64) = y := ⟨_, rfl⟩
      rw [hy] at hv4
      have HY := Lib.hid hy
      have HV4 := Lib.hid hv4
      clear hnum hA t1 t2 t3 t4 hlt hm hk1 hk21 b4 hy hv4
      go_wp2_with (first
        | (go_at_call 19; fail))
      refine (rtake_any _ g cap 100 96 4 bs wr HO.out (by decide) (by decide) (by decide)).mono ?_
      rintro e w' ⟨rfl, rfl⟩
      by_cases hR0 : takeN bs 96 4 = 0
      · rw [hR0]
        go_wp2_with (first
          | (go_at_call 19; fail))
        refine (rtake_any _ g cap 100 0 8 bs wr HO.out (by decide) (by decide) (by decide)).mono ?_
        rintro e w' ⟨rfl, rfl⟩
        go_wp2_with (first
          | (go_at_call 19; fail))
        refine (rtake_any _ g cap 100 8 24 bs wr HO.out (by decide) (by decide) (by decide)).mono ?_
        rintro e w' ⟨rfl, rfl⟩
        go_wp2_with (first
          | (go_at_call 19; fail))
        refine (rtake_any _ g cap 100 32 64 bs wr HO.out (by decide) (by decide) (by decide)).mono ?_
        rintro e w' ⟨rfl, rfl⟩
        rw [HV4.out]
        go_wp2_with (first
          | (go_at_call 17; fail))
        have hv0 := H2.out
        obtain ⟨V0, hV0⟩ : ∃ V, takeN bs 0 8 = V := ⟨_, rfl⟩
        obtain ⟨V1, hV1⟩ : ∃ V, takeN bs 8 24 = V := ⟨_, rfl⟩
        rw [hV0, hV1]
        have HRES : Hid (parseL s.data.toList = if mayB ⟨V0, V1, y⟩ then .ok (V0, V1, takeN bs 32 64) else .error 1) := by
          apply Lib.hid
          have e1 : V0 = accL ds / 16 / 2 ^ 88 := by rw [← hV0]; exact H2.out
          have e2 : V1 = accL ds / 16 / 2 ^ 64 % 2 ^ 24 := by rw [← hV1]; exact H3.out
          rw [HPA.out, H4.out]
          unfold parseA
          have h16 : accL ds % 16 = 0 := by rw [← H1.out]; exact hR0
          have hz : ¬ (accL ds % 16 ≠ 0) := by rw [h16]; simp
          rw [if_neg hz, ← e1, ← e2]
          congr 1
          simp [mayB, mayN]
          omega
        clear hv0 hV0 hV1 b1 b2 b3 H1 H2 H3 H4 hR0
        refine (rmay_any ⟨V0, V1, y⟩ _).mono ?_
        rintro e w2 ⟨rfl, h2⟩
        have hs1 := HBEL.out.size
        have hbel2 := Lib.hid ((HBEL.out.alloc hs1 (.cells (Tok.mk V0 V1 y).cells 24)).trans (h2.mono (by rw [World.size_alloc]; omega)))
        have HBLK2 := Lib.hid ((HBLK.out.alloc (.cells (Tok.mk V0 V1 y).cells 24)).below h2 (by rw [World.size_alloc]; omega))
        have HT2 := Lib.hid ((Blk.new wr 24 (Tok.mk V0 V1 y).cells).below h2 (by rw [World.size_alloc]; omega))
        clear h2 HO HBEL HBLK
        cases hm : mayB ⟨V0, V1, y⟩ with
        | true =>
          rw [hm] at HRES
          go_wp2_with (first
            | (refine wpList_load_at rfl rfl rfl HT2.out.row rfl rfl tokInfo ?_)
            | (refine wpList_store_all rfl rfl rfl rfl HBLK2.out rfl (Tok.one _) tokInfo ?_))
          refine bodyPost_ret (results_at_tmp rfl rfl (HBLK2.out.setRow_same _).row rfl rfl tokInfo) rfl ⟨?_, bel_setRow hbel2.out (Nat.le_refl _) _⟩
          rw [HRES.out, ← HY.out]
          rfl
        | false =>
          rw [hm] at HRES
          go_wp2_with (first
            | (refine wpList_store_all rfl rfl rfl rfl HBLK2.out rfl (Tok.one Tok.zero) tokInfo ?_))
          refine bodyPost_ret (results_at_tmp rfl rfl (HBLK2.out.setRow_same _).row rfl rfl tokInfo) rfl ⟨?_, bel_setRow hbel2.out (Nat.le_refl _) _⟩
          rw [HRES.out]
          rfl
      · have hR1 : (((takeN bs 96 4 : Nat) : Int) != 0) = true := by simp; omega
        have hR2 : ¬ ((takeN bs 96 4 : Nat) : Int) = 0 := by omega
        go_wp2_with (first
          | (refine wpList_store_all rfl rfl rfl rfl HBLK.out rfl (Tok.one Tok.zero) tokInfo ?_))
        refine bodyPost_ret (results_at_tmp rfl rfl (HBLK.out.setRow_same _).row rfl rfl tokInfo) rfl ⟨?_, bel_setRow HBEL.out (Nat.le_refl _) _⟩
        rw [HPA.out]
        unfold parseA
        rw [if_pos (by rw [← H1.out]; exact hR0)]
        rfl
/-- The document's Parse, of every text. -/
theorem rparse_any (s : ByteArray) (w : World) : Calls Tryd.prog 10 #[.string s] w (RetB (rparseV (parseL s.data.toList)) w) := by
  have e : s.data.toList.length = s.size := by simp
  by_cases h1 : s.size < 21
  · have hp : parseL s.data.toList = .error 2 := by unfold parseL; rw [e, if_pos h1]
    rw [hp]; exact rparse_short s h1 w
  · by_cases h2 : 21 < s.size
    · have hp : parseL s.data.toList = .error 3 := by unfold parseL; rw [e, if_neg h1, if_pos h2]
      rw [hp]; exact rparse_long s h2 w
    · have h3 : s.size = 21 := by omega
      by_cases h4 : s.data.toList.head? = some 116
      · exact rparse_main s h3 h4 w
      · have hp : parseL s.data.toList = .error 4 := by unfold parseL; rw [e, if_neg h1, if_neg h2, if_pos h4]
        rw [hp]; exact rparse_head s h3 h4 w
theorem parseL_err {l : List UInt8} {k : Nat} (h : parseL l = .error k) : 1 ≤ k ∧ k ≤ 24 := by
  unfold parseL at h
  split at h
  · cases h; decide
  · split at h
    · cases h; decide
    · split at h
      · cases h; decide
      · split at h
        · cases h; decide
        · unfold parseA at h
          split at h
          · cases h; decide
          · split at h
            · cases h
            · cases h; decide

/-! ### the statements -/
set_option maxHeartbeats 1000000 in
theorem tokenPrints_any (t : Tok) (w : World) (hg : Laid w) : Calls Tryd.prog 3 #[.agg t.cells] w (RetB (.bool true) w) := by
  have HG := Lib.hid hg
  have hpos := hg.pos
  clear hg
  have key : ∃ (x : ByteArray) (k : Int) (v : Value), (∀ w, Calls Tryd.prog 6 #[.agg t.cells] w (RetB (.tuple #[.string x, v]) w)) ∧ (∀ w, Calls Tryd.prog 7 #[.agg t.cells] w (RetB (.tuple #[.string x, .int .i64 k]) w)) ∧ (∀ w, Laid w → Calls Tryd.prog 8 #[v, .int .i64 k] w (RetB (.bool true) w)) := by
    cases hm : mayB t with
    | true =>
      obtain ⟨s, b, x⟩ := t
      simp only [mayB, Bool.and_eq_true, decide_eq_true_eq] at hm
      obtain ⟨s', rfl⟩ := Int.eq_ofNat_of_zero_le hm.1.1.1
      obtain ⟨b', rfl⟩ := Int.eq_ofNat_of_zero_le (show 0 ≤ b by omega)
      exact ⟨_, 0, .nilIface, fun w => print_right s' b' x (by omega) (by omega) (by omega) w, fun w => rprint_right s' b' x (by omega) (by omega) (by omega) w, fun w _ => plain_nil 0 w⟩
    | false =>
      exact ⟨_, 1, _, fun w => print_wrong t hm w, fun w => rprint_wrong t hm w, fun w hg => by
        have h := plain_errno 1 1 (by decide) (by decide) w hg
        exact h⟩
  obtain ⟨x, k, v, h1, h2, h3⟩ := key
  have H1 := Lib.hid h1
  have H2 := Lib.hid h2
  have H3 := Lib.hid h3
  have hq : (x.toList == x.toList) = true := by simp
  clear h1 h2 h3
  go_enter Tryd.func3, Tryd.ntmps3
  go_wp2_with (first
    | (refine wpList_load_at rfl rfl rfl (Blk.new w 24 t.cells).row rfl rfl tokInfo ?_)
    | (go_at_call 6; fail))
  refine (H1.out _).mono ?_
  rintro e w1 ⟨rfl, h1⟩
  have hs1 := h1.size
  rw [World.size_alloc] at hs1
  have hb1 := Lib.hid (((Below.refl w.heap.size w).alloc (Nat.le_refl _) (.cells t.cells 24)).trans (h1.mono (by rw [World.size_alloc]; omega)))
  have HX1 := Lib.hid ((Blk.new w 24 t.cells).below h1 (by rw [World.size_alloc]; omega))
  clear h1
  go_wp2_with (first
    | (refine wpList_load_at rfl rfl rfl HX1.out.row rfl rfl tokInfo ?_)
    | (go_at_call 7; fail))
  refine (H2.out _).mono ?_
  rintro e w2 ⟨rfl, h2⟩
  have hs2 := h2.size
  have hb2 := Lib.hid (hb1.out.trans (h2.mono (by omega)))
  clear h2 hb1 HX1
  go_wp2_with (first
    | (go_at_call 8; fail))
  refine (H3.out _ (HG.out.below hb2.out hpos)).mono ?_
  rintro e w3 ⟨rfl, h3⟩
  have hb3 := hb2.out.trans (h3.mono (by omega))
  clear h3 hb2
  go_wp2
  go_ret
  exact ⟨rfl, hb3⟩

set_option maxHeartbeats 1000000 in
theorem tokenParses_any (s : ByteArray) (w : World) (hg : Laid w) : Calls Tryd.prog 4 #[.string s] w (RetB (.bool true) w) := by
  have HG := Lib.hid hg
  have hpos := hg.pos
  clear hg
  have key : ∃ (t : Tok) (k : Int) (v : Value), (∀ w, Calls Tryd.prog 9 #[.string s] w (RetB (.tuple #[.agg t.cells, v]) w)) ∧ (∀ w, Calls Tryd.prog 10 #[.string s] w (RetB (.tuple #[.agg t.cells, .int .i64 k]) w)) ∧ (∀ w, Laid w → Calls Tryd.prog 8 #[v, .int .i64 k] w (RetB (.bool true) w)) := by
    have hp := fun w => parse_any s w
    have hr := fun w => rparse_any s w
    cases hc : parseL s.data.toList with
    | ok r =>
      obtain ⟨u, b, x⟩ := r
      rw [hc] at hp hr
      exact ⟨_, 0, .nilIface, hp, hr, fun w _ => plain_nil 0 w⟩
    | error k =>
      rw [hc] at hp hr
      have hk := parseL_err hc
      refine ⟨Tok.zero, k, errno k, hp, hr, fun w hg => ?_⟩
      have h := plain_errno k k (by omega) (by omega) w hg
      have e : decide ((k : Int) = k) = true := by simp
      rw [e] at h
      exact h
  obtain ⟨t, k, v, h1, h2, h3⟩ := key
  have H1 := Lib.hid h1
  have H2 := Lib.hid h2
  have H3 := Lib.hid h3
  have heq := eql_tok t t
  have hsm : t.same t = true := by rw [Tok.same_iff]
  clear h1 h2 h3
  go_enter Tryd.func4, Tryd.ntmps4
  go_wp2_with (first
    | (go_at_call 9; fail))
  refine (H1.out _).mono ?_
  rintro e w1 ⟨rfl, h1⟩
  have hs1 := h1.size
  have hb1 := Lib.hid (h1.alloc (by omega) (.cells t.cells 24))
  have HX1 := Lib.hid (Blk.new w1 24 t.cells)
  clear h1
  go_wp2_with (first
    | (refine wpList_store_new rfl rfl rfl rfl rfl (Tok.one _) tokInfo ?_)
    | (go_at_call 10; fail))
  refine (H2.out _).mono ?_
  rintro e w2 ⟨rfl, h2⟩
  have hs2 := h2.size
  rw [World.size_alloc] at hs2
  have hb2 := Lib.hid ((hb1.out.trans (h2.mono (by rw [World.size_alloc]; omega))).alloc (by omega) (.cells t.cells 24))
  have HX2 := Lib.hid ((HX1.out.below h2 (by rw [World.size_alloc]; omega)).alloc (.cells t.cells 24))
  have HY2 := Lib.hid (Blk.new w2 24 t.cells)
  clear h2 hb1 HX1
  go_wp2_with (first
    | (refine wpList_store_new rfl rfl rfl rfl rfl (Tok.one _) tokInfo ?_)
    | (refine wpList_load_at rfl rfl rfl HX2.out.row rfl rfl tokInfo ?_)
    | (refine wpList_load_at rfl rfl rfl HY2.out.row rfl rfl tokInfo ?_)
    | (go_at_call 8; fail))
  refine (H3.out _ (HG.out.below hb2.out hpos)).mono ?_
  rintro e w3 ⟨rfl, h3⟩
  have hb3 := hb2.out.trans (h3.mono (by rw [World.size_alloc]; omega))
  clear h3 hb2
  go_wp2
  go_ret
  exact ⟨rfl, hb3⟩
end Go.Proofs.YtjhfidccpaidmaaDoor
