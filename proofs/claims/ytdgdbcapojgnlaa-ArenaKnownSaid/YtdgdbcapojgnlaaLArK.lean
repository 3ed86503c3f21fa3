/-
  lineagelaw15.ArenaKnown: the whole walk.
-/
import Derived.Test.YtdgdbcapojgnlaaAct
import Derived.Test.YtdgdbcapojgnlaaErrs
import Derived.Test.YtdgdbcapojgnlaaRgDel
namespace Go.Proofs.Ytdgdbcapojgnlaa
set_option maxRecDepth 100000
open Go.RowKit Go.Shelf
attribute [local go_sem] Oper.semAt_some

def kSlot : SlotV := { SlotV.zero with used := true, kids := 3 }
def kS2 : St := St.new.take.take
def kS3 : St := kS2.drop 5
def kS4 : St := kS3.give 1
def kS5 : St := kS4.put 0 kSlot
def kS6 : St := kS5.give 0
@[reducible] def kL : Array Value := #[.bool true, .bool false, .int .i64 3, .int .i64 0, .int .i64 0, .int .i64 0, .int .i64 0, .int .i64 0, .int .i64 0, .int .i64 0, .string ⟨#[]⟩, .string ⟨#[]⟩, .int .u64 0, .int .i64 0, .int .i64 0, .int .i64 0, .int .i64 0]
@[reducible] def bL : Array Value := #[.bool false, .bool false, .int .i64 (-1), .int .i64 (-1), .int .i64 (-1), .int .i64 0, .int .i64 0, .int .i64 0, .int .i64 0, .int .i64 0, .string ⟨#[]⟩, .string ⟨#[]⟩, .int .u64 0, .int .i64 0, .int .i64 0, .int .i64 0, .int .i64 0]
@[reducible] def zL : Array Value := #[.bool false, .bool false, .int .i64 0, .int .i64 0, .int .i64 0, .int .i64 0, .int .i64 0, .int .i64 0, .int .i64 0, .int .i64 0, .string ⟨#[]⟩, .string ⟨#[]⟩, .int .u64 0, .int .i64 0, .int .i64 0, .int .i64 0, .int .i64 0]
theorem kL_one : ∀ v ∈ kL.toList, v.oneCell' = true := SlotV.one kSlot
theorem bL_one : ∀ v ∈ bL.toList, v.oneCell' = true := SlotV.one SlotV.bare
theorem zL_one : ∀ v ∈ zL.toList, v.oneCell' = true := SlotV.one SlotV.zero
/-- Since w: the arena at g is S; nothing else that lay has turned. -/
structure Kn (w : World) (g : Nat) (S : St) (W : World) : Prop where
  ar : IsAr W g S
  bel : Below w.heap.size w W
  lo : w.heap.size ≤ g
section
variable {w W W' : World} {g : Nat} {S S' : St}
theorem Kn.step (h : Kn w g S W) (hA : IsAr W' g S') (hG : W.grownBy W' (some g)) : Kn w g S' W' := ⟨hA, h.bel.grown hG h.bel.size (fun j e => by cases e; exact h.lo), h.lo⟩
theorem Kn.call (h : Kn w g S W) (hb : Below W.heap.size W W') : Kn w g S W' := ⟨h.ar.below hb h.ar.lt, h.bel.trans (hb.mono h.bel.size), h.lo⟩
end
theorem eqk (w : World) : (binOp .eql 34 (.agg kL) (.agg kL)).run Try.prog w = .ok (.bool true) w := by kernel_rfl
theorem eqb (w : World) : (binOp .eql 34 (.agg bL) (.agg bL)).run Try.prog w = .ok (.bool true) w := by kernel_rfl
theorem own_lit (w : World) (cs : Array Value) (hm : cs.size ≤ 1000) : (w.alloc (.cells cs 3)).ownsRow w.heap.size 3 1 (.slice (some ⟨w.heap.size, 0, none⟩) cs.size cs.size) cs.size cs.toList :=
  ⟨by simp, .inr ⟨w.heap.size, cs.size, cs, rfl, Nat.le_refl _, (Blk.new w 3 cs).eq, Nat.le_refl _, by unfold maxLen; omega, by simp, by rw [Nat.mul_one]; exact List.take_of_length_le (by simp)⟩⟩
def kWant (k : Nat) : List Nat := [1, 2, 3, 4] ++ List.range' 6 (k - 6)
theorem kWant_succ {k : Nat} (h : 6 ≤ k) : kWant (k + 1) = kWant k ++ [k] := by
  unfold kWant
  rw [show k + 1 - 6 = (k - 6) + 1 by omega, List.range'_1_concat, show 6 + (k - 6) = k by omega, List.append_assoc]
theorem kWant_len {k : Nat} (h : 6 ≤ k) : (kWant k).length = k - 2 := by simp [kWant]; omega
theorem kWant_free : kS4.free = kWant 32 := by decide
/-- .. and a mark of a range lies at D. -/
structure Kd (w : World) (g D : Nat) (S : St) (W : World) : Prop where
  kn : Kn w g S W
  mkd : W.heap[D]? = some (.deferred (some []))
  gD : g ≠ D
  lo : w.heap.size ≤ D
section
variable {w W W' : World} {g D b : Nat} {S S' : St} {t : TypeId} {cs : Array Value}
theorem Kd.lt (h : Kd w g D S W) : D < W.heap.size := (Array.getElem?_eq_some_iff.1 h.mkd).1
theorem Kd.step (h : Kd w g D S W) (hA : IsAr W' g S') (hG : W.grownBy W' (some g)) : Kd w g D S' W' := ⟨h.kn.step hA hG, (hG.block D h.lt (fun e => h.gD (by simpa using e.symm))).trans h.mkd, h.gD, h.lo⟩
theorem Kd.call (h : Kd w g D S W) (hb : Below W.heap.size W W') : Kd w g D S W' := ⟨h.kn.call hb, (hb.block D h.lt).trans h.mkd, h.gD, h.lo⟩
theorem Kd.alloc (h : Kd w g D S W) (o : Obj) : Kd w g D S (W.alloc o) := h.call ((Below.refl _ _).alloc (Nat.le_refl _) o)
theorem Blk.call (h : Blk W b t cs) (hb : Below W.heap.size W W') : Blk W' b t cs := h.below hb h.lt
theorem Blk.gstep (h : Blk W b t cs) (hG : W.grownBy W' (some g)) (hne : b ≠ g) : Blk W' b t cs := h.grown hG (by simp; omega)
end
/-- A row of one's own that lies elsewhere than the arena. -/
theorem Kn.row {w W W' : World} {base n g : Nat} {v : Value} {xs : List Value} (h : W.ownsRow base 3 1 v n xs) (hg : W.grownBy W' (some g)) (hne : g < base) : W'.ownsRow base 3 1 v n xs := owns_kept h hg hne
set_option maxHeartbeats 8000000 in
theorem arKnown_any (w : World) : Calls Try.prog 5 #[] w (RetB (.bool true) w) := by
  obtain ⟨ii, iz, hi, hz0, hz1, hz2, hz3⟩ := intInfo
  have HUS := Lib.hid Try.underlying34
  refine calls_marks Try.func5 rfl ?_
  simp only [Try.ntmps5, List.size_toArray, List.length_cons, List.length_nil, Nat.reduceAdd, Nat.reduceSub, Array.replicate_succ, Array.replicate_zero, List.push_toArray, List.append_toArray, List.nil_append, List.cons_append]
  go_wp2_with (go_at_call 10; fail)
  refine (new_st w).mono ?_
  rintro e w1 ⟨g, rfl, hg, h1, b1⟩
  have K1 := Lib.hid (show Kn w g St.new w1 from ⟨h1, b1, hg⟩)
  clear h1 b1
  go_wp2_with (go_at_call 9; fail)
  refine (works_any _).mono ?_
  rintro e w2 ⟨rfl, b2⟩
  have K2 := Lib.hid (K1.out.call b2)
  clear K1 b2
  go_wp2_with (go_at_call 13; fail)
  refine (take_st (S := St.new) (i := 0) (L := List.range' 1 31) (by decide) g _ K2.out.ar).mono ?_
  rintro e w3 ⟨rfl, h3, g3⟩
  have K3 := Lib.hid (show Kn w g St.new.take w3 from K2.out.step h3 g3)
  clear K2 h3 g3
  go_wp2_with (go_at_call 13; fail)
  refine (take_st (S := St.new.take) (i := 1) (L := List.range' 2 30) (by decide) g _ K3.out.ar).mono ?_
  rintro e w4 ⟨rfl, h4, g4⟩
  have K4 := Lib.hid (show Kn w g kS2 w4 from K3.out.step h4 g4)
  clear K3 h4 g4
  go_wp2_with (go_at_call 14; fail)
  refine (place_st (S := kS2) (i := 5) (by decide) g _ K4.out.ar).mono ?_
  rintro e w5 ⟨rfl, h5, g5⟩
  have K5 := Lib.hid (show Kn w g kS3 w5 from K4.out.step h5 g5)
  clear K4 h5 g5
  go_wp2_with (go_at_call 14; fail)
  refine (place_no (S := kS3) (i := 0) (by omega) (by decide) g _ K5.out.ar).mono ?_
  rintro e w' ⟨rfl, rfl⟩
  simp only [errno]
  go_wp2_with (go_at_call 18; fail)
  refine (Num_errno 10 (by decide) (by decide) _).mono ?_
  rintro e w' ⟨rfl, rfl⟩
  go_wp2_with (go_at_call 14; fail)
  refine (place_out (i := 32) (.inr (by decide)) (some ⟨g, 0, none⟩) _).mono ?_
  rintro e w' ⟨rfl, rfl⟩
  simp only [errno]
  go_wp2_with (go_at_call 18; fail)
  refine (Num_errno 1 (by decide) (by decide) _).mono ?_
  rintro e w' ⟨rfl, rfl⟩
  go_wp2_with (go_at_call 15; fail)
  refine (free_st (S := kS3) (i := 1) (by omega) (by decide) g _ K5.out.ar (by decide) (by decide)).mono ?_
  rintro e w6 ⟨rfl, h6, g6⟩
  have K6 := Lib.hid (show Kn w g kS4 w6 from K5.out.step h6 g6)
  clear K5 h6 g6
  go_wp2_with (go_at_call 15; fail)
  refine (free_no (S := kS4) (i := 1) (by decide) g _ K6.out.ar).mono ?_
  rintro e w' ⟨rfl, rfl⟩
  simp only [errno]
  go_wp2_with (go_at_call 18; fail)
  refine (Num_errno 9 (by decide) (by decide) _).mono ?_
  rintro e w' ⟨rfl, rfl⟩
  go_wp2_with (go_at_call 15; fail)
  refine (free_no (S := kS4) (i := 7) (by decide) g _ K6.out.ar).mono ?_
  rintro e w' ⟨rfl, rfl⟩
  simp only [errno]
  go_wp2_with (go_at_call 18; fail)
  refine (Num_errno 9 (by decide) (by decide) _).mono ?_
  rintro e w' ⟨rfl, rfl⟩
  go_wp2_with (go_at_call 15; fail)
  refine (free_out (i := -1) (.inl (by decide)) (some ⟨g, 0, none⟩) _).mono ?_
  rintro e w' ⟨rfl, rfl⟩
  simp only [errno]
  go_wp2_with (go_at_call 18; fail)
  refine (Num_errno 1 (by decide) (by decide) _).mono ?_
  rintro e w' ⟨rfl, rfl⟩
  have O0 := Lib.hid (own_lit w6 #[.int .i64 1, .int .i64 2, .int .i64 3, .int .i64 4] (by decide))
  have KA := Lib.hid (K6.out.call ((Below.refl w6.heap.size w6).alloc (Nat.le_refl _) (.cells #[.int .i64 1, .int .i64 2, .int .i64 3, .int .i64 4] 3)))
  have hgk := K6.out.ar.lt
  clear K6
  go_wp2
  go_loopw [6, 7] (fun v i wr => ∃ k : Nat, 6 ≤ k ∧ k ≤ 32 ∧ i = .int .i64 k ∧ wr.ownsRow w6.heap.size 3 1 v (kWant k).length (intVs (natInts (kWant k))) ∧ Kn w g kS4 wr ∧ w6.heap.size ≤ wr.heap.size) (fun _ i _ => 32 - (intOf i).toNat)
  case atStart => exact ⟨6, by omega, by omega, rfl, O0.out, KA.out, by simp⟩
  case round =>
    obtain ⟨k, hk6, hk, rfl, hown, hK, hsz⟩ := hrel
    have HO := Lib.hid hown
    have HK := Lib.hid hK
    have hwl := kWant_len hk6
    have HWL := Lib.hid hwl
    obtain ⟨Ar, cp, rfl⟩ := owns_slice hown
    clear O0 KA
    by_cases hlt : k < 32
    · have hlt1 : (k : Int) < 32 := by omega
      have H1 := Lib.hid (show (kWant k).length + 1 ≤ maxLen by unfold maxLen; omega)
      have H2 := Lib.hid (show ((kWant k).length + 1) * 8 ≤ 140737488355328 by omega)
      have HS := Lib.hid (kWant_succ hk6)
      clear hown hK hwl
      go_wp2_with (at_builtin; refine wpList_append_one (v := .slice Ar (kWant k).length cp) rfl _ _ 48 rfl Try.underlying48 hi hz0 hz1 hz2 hz3 (by decide) rfl HO.out rfl rfl (int_one _) H1.out H2.out hsz ?_; intro g' cap' w11 hown1 hgr1)
      have hbk := bel_grown HK.out.bel hgr1 HO.out (by have := HK.out.lo; have := HK.out.bel.size; omega) (by omega)
      have hrg : w11.heap[g]? = wr.heap[g]? := hgr1.block g HK.out.ar.lt (fun e => by have := (HO.out.lt g e.symm).1; omega)
      have hs11 := hgr1.size
      have HK2 := Lib.hid (show Kn w g kS4 w11 from ⟨HK.out.ar.block hrg, hbk, HK.out.lo⟩)
      clear hgr1 hrg hbk
      go_roundw
      case rel => exact ⟨k + 1, by omega, by omega, by go_num, by rw [HS.out, natInts_snoc, List.length_append]; exact hown1, HK2.out, by omega⟩
      case measure => simp [intOf]; omega
    · obtain rfl : k = 32 := by omega
      have H30 := Lib.hid (show (kWant 32).length = 30 by decide)
      obtain ⟨W0, hW0⟩ : ∃ W0, wr = W0 := ⟨_, rfl⟩
      subst hW0
      obtain ⟨V, hV⟩ : ∃ V, wr.alloc (.cells #[.slice none 0 0] 48) = V := ⟨_, rfl⟩
      have hVs : V.heap.size ≤ wr.heap.size + 1 ∧ wr.heap.size + 1 ≤ V.heap.size := by rw [← hV]; simp
      have bL0 : Boxed V wr.heap.size 48 (.slice none 0 0) := by rw [← hV]; exact Boxed.new _ _ _
      have KV := Lib.hid (show Kn w g kS4 V from by rw [← hV]; exact HK.out.call ((Below.refl _ _).alloc (Nat.le_refl _) _))
      have OV := Lib.hid (show V.ownsRow w6.heap.size 3 1 (.slice Ar (kWant 32).length cp) (kWant 32).length (intVs (natInts (kWant 32))) from by rw [← hV]; exact HO.out.alloc _)
      have OL := Lib.hid (fun r (e : (Value.slice Ar (kWant 32).length cp).ownBlock = some r) => (HO.out.lt r e).2)
      have BL := Lib.hid bL0
      have HV := Lib.hid hV
      have hgr : g < wr.heap.size := HK.out.ar.lt
      have hwlo := HK.out.lo
      have hwsz := HK.out.bel.size
      clear hV bL0 hown hK hwl HK HO hlt
      go_wp2_with (go_at_call 16; fail)
      rw [HV.out]
      refine (frees_st g V KV.out.ar).mono ?_
      rintro e V2 ⟨B, rfl, hq, hb⟩
      have hs2 := hb.size
      have K2 := Lib.hid (KV.out.call hb)
      have O2 := Lib.hid (owns_callS OV.out hb)
      have hbl2 : Boxed V2 wr.heap.size 48 (.slice none 0 0) := (hb.block _ (by omega)).trans BL.out
      have HQ := Lib.hid (hq w.heap.size)
      rw [kWant_free] at HQ
      clear hq hb KV OV BL HV
      go_wp2
      refine wp_seqs rfl (enters_of Try.func32 (by kernel_rfl) rfl) HQ.out (by omega) (fun k hk => by omega) (Below.refl _ _) (fun _ => rfl)
        (fun pre W => ∃ v, Coll V2 wr.heap.size 48 (V2.heap.size + 2) 3 1 pre.length (intVs (natInts pre)) W v)
        (fun _ _ _ => False)
        (Zone.coll (by omega) (by omega) (Nat.le_refl _) (fun pre => pre.length) (fun pre => intVs (natInts pre)))
        (fun cd => Zone.none)
        ⟨_, Coll.start hbl2 _ _ _⟩ ?round ?done ?stop
      case stop => rintro cd pre W' _ h _; exact h.elim
      case round =>
        intro l2 pre i V0 hpre
        simp only [natV]
        gi_wp2
        refine ⟨by trivial, fun V1 hsz1 ⟨v, hC⟩ => ?_⟩
        have hc1 := hC.box.cell
        have hpl := hpre.length_le
        rw [List.length_append, H30.out] at hpl
        have h1 : pre.length + (0 + 1) ≤ maxLen := by unfold maxLen; simp at hpl; omega
        have h2 : (pre.length + (0 + 1)) * 8 ≤ 140737488355328 := by simp at hpl; omega
        have H1 := Lib.hid h1
        have H2 := Lib.hid h2
        clear h1 h2
        gi_wp2_with (gi_at_builtin; refine wpListIn_append_new (v := v) rfl _ _ 48 rfl Try.underlying48 hi hz0 hz1 hz2 hz3 (by decide) rfl hC.row 0 rfl rfl (int_one _) H1.out H2.out hsz1 ?_; intro g' cap' w1 hown1 hgr1; obtain ⟨hv1, hC2, hk2⟩ := hC.step (by omega) (by omega) hsz1 hown1 hgr1; have hc2 := hv1.cell; have hf2 := hv1.frozen)
        exact ⟨hk2 _ _ _ _ _ (by omega) (by rintro ⟨h1, h2⟩; omega) (fun k hk => by rintro ⟨h1, h2⟩; omega) (by omega) (by omega), ⟨_, by rw [natInts_snoc, List.length_append]; exact hC2⟩⟩
      case done =>
        rintro W ⟨v, hC⟩ hMK
        have hsW := hC.grown.size
        have KD := Lib.hid (show Kd w g V2.heap.size kS4 W from ⟨⟨K2.out.ar.block (hC.grown.block g (by omega) (fun e => absurd (Option.some.inj e) (by omega))), K2.out.bel.grown hC.grown K2.out.bel.size (fun k e => by cases e; omega), hwlo⟩, hMK, by omega, by omega⟩)
        have OW := Lib.hid (O2.out.kept hC.grown (by
          rcases Classical.em ((Value.slice Ar (kWant 32).length cp).ownBlock = none) with h | h
          · exact .inl h
          · refine .inr fun e => ?_
            have := OL.out _ e
            omega))
        obtain ⟨Pl, cl, rfl, hinl⟩ := owns_intsAt hC.row
        have HL := Lib.hid (owns_atS hC.row)
        have CB := Lib.hid hC.box
        clear hC hMK K2 O2 OL hinl
        -- the slot that is put
        have K10 := Lib.hid (KD.out.alloc (.cells kL 34))
        have b10 := Lib.hid (Blk.new W 34 kL)
        have hcb : (W.alloc (.cells kL 34)).cell? ⟨wr.heap.size, 0, none⟩ = some (.slice Pl (kWant 32).length cl) := (CB.out.alloc (.cells kL 34)).cell
        have I1 := Lib.hid (HL.out.below ((Below.refl W.heap.size W).alloc (Nat.le_refl _) (.cells kL 34)) (Nat.le_refl _))
        have I2 := Lib.hid ((owns_atS OW.out).below ((Below.refl W.heap.size W).alloc (Nat.le_refl _) (.cells kL 34)) (Nat.le_refl _))
        clear KD OW HL CB
        go_wp2_with (first
          | (refine wpList_store_new (ty := 34) rfl rfl rfl rfl rfl kL_one slotInfo ?_)
          | (go_at_call 20; fail))
        refine (sameI_eq Pl Ar cl cp (kWant 32).length (natInts (kWant 32)) (natInts_len _) (by rw [H30.out]; omega) _ I1.out I2.out).mono ?_
        rintro e W1 ⟨rfl, hb1⟩
        have hgb : g ≠ W.heap.size := by omega
        have K11 := Lib.hid (K10.out.call hb1)
        have b11 := Lib.hid (b10.out.call hb1)
        have R11 := Lib.hid b11.out.row
        clear hb1 K10 b10 I1 I2 hcb
        go_wp2_with (first
          | (refine wpList_load_at (ty := 34) rfl rfl rfl R11.out HUS.out rfl slotInfo ?_)
          | (go_at_call 12; fail))
        refine (put_st (S := kS4) (i := 0) (by omega) kSlot g _ K11.out.kn.ar (by decide) (by decide)).mono ?_
        rintro e W2 ⟨rfl, h2, g2⟩
        have K12 := Lib.hid (show Kd w g V2.heap.size kS5 W2 from K11.out.step h2 g2)
        have b12 := Lib.hid (b11.out.gstep g2 (Ne.symm hgb))
        clear h2 g2 K11 b11 R11
        go_wp2_with (go_at_call 17; fail)
        refine (get_st (S := kS5) (i := 0) (s := kSlot) (by omega) rfl g _ K12.out.kn.ar).mono ?_
        rintro e W3 ⟨rfl, hb3⟩
        rw [show SlotV.cells kSlot = kL from rfl]
        have K13 := Lib.hid ((K12.out.call hb3).alloc (.cells kL 34))
        have b13 := Lib.hid ((b12.out.call hb3).alloc (.cells kL 34))
        have c13 := Lib.hid (Blk.new W3 34 kL)
        have hs3 := hb3.size
        have hs12 := b12.out.lt
        clear hb3 K12 b12
        go_wp2_with (first
          | (refine wpList_store_new (ty := 34) rfl rfl rfl rfl rfl kL_one slotInfo ?_)
          | (go_at_call 15; fail))
        refine (free_st (S := kS5) (i := 0) (by omega) (by decide) g _ K13.out.kn.ar (by decide) (by decide)).mono ?_
        rintro e W4 ⟨rfl, h4, g4⟩
        have hgc : W3.heap.size ≠ g := by omega
        have K14 := Lib.hid (show Kd w g V2.heap.size kS6 W4 from K13.out.step h4 g4)
        have b14 := Lib.hid (b13.out.gstep g4 (Ne.symm hgb))
        have c14 := Lib.hid (c13.out.gstep g4 hgc)
        clear h4 g4 K13 b13 c13
        go_wp2_with (go_at_call 17; fail)
        refine (get_st (S := kS6) (i := 0) (s := SlotV.bare) (by omega) rfl g _ K14.out.kn.ar).mono ?_
        rintro e W5 ⟨rfl, hb5⟩
        rw [show SlotV.cells SlotV.bare = bL from rfl]
        have K15 := Lib.hid ((K14.out.call hb5).alloc (.cells bL 34))
        have b15 := Lib.hid ((b14.out.call hb5).alloc (.cells bL 34))
        have c15 := Lib.hid ((c14.out.call hb5).alloc (.cells bL 34))
        have d15 := Lib.hid (Blk.new W5 34 bL)
        clear hb5 K14 b14 c14
        go_wp2_with (first
          | (refine wpList_store_new (ty := 34) rfl rfl rfl rfl rfl bL_one slotInfo ?_)
          | (go_at_call 17; fail))
        refine (get_out (i := -1) (.inl (by decide)) (some ⟨g, 0, none⟩) _).mono ?_
        rintro e W6 ⟨rfl, hb6⟩
        rw [show SlotV.cells SlotV.zero = zL from rfl]
        simp only [errno]
        have K16 := Lib.hid ((K15.out.call hb6).alloc (.cells zL 34))
        have b16 := Lib.hid ((b15.out.call hb6).alloc (.cells zL 34))
        have c16 := Lib.hid ((c15.out.call hb6).alloc (.cells zL 34))
        have d16 := Lib.hid ((d15.out.call hb6).alloc (.cells zL 34))
        clear hb6 K15 b15 c15 d15
        go_wp2_with (first
          | (refine wpList_store_new (ty := 34) rfl rfl rfl rfl rfl zL_one slotInfo ?_)
          | (go_at_call 17; fail))
        refine (get_out (i := 32) (.inr (by decide)) (some ⟨g, 0, none⟩) _).mono ?_
        rintro e W7 ⟨rfl, hb7⟩
        rw [show SlotV.cells SlotV.zero = zL from rfl]
        simp only [errno]
        have K17 := Lib.hid ((K16.out.call hb7).alloc (.cells zL 34))
        have b17 := Lib.hid ((b16.out.call hb7).alloc (.cells zL 34)).row
        have c17 := Lib.hid ((c16.out.call hb7).alloc (.cells zL 34)).row
        have d17 := Lib.hid ((d16.out.call hb7).alloc (.cells zL 34)).row
        clear hb7 K16 b16 c16 d16
        have ek := eqk
        have eb := eqb
        go_wp2_with (first
          | (refine wpList_store_new (ty := 34) rfl rfl rfl rfl rfl zL_one slotInfo ?_)
          | (refine wpList_load_at (ty := 34) rfl rfl rfl b17.out HUS.out rfl slotInfo ?_)
          | (refine wpList_load_at (ty := 34) rfl rfl rfl c17.out HUS.out rfl slotInfo ?_)
          | (refine wpList_load_at (ty := 34) rfl rfl rfl d17.out HUS.out rfl slotInfo ?_)
          | (go_at_call 19; fail))
        refine (writes_st (S := kS6) g _ K17.out.kn.ar).mono ?_
        rintro e w' ⟨rfl, rfl⟩
        rw [show kS6.writes = 3 from rfl]
        go_wp2_with (go_at_call 18; fail)
        refine (Num_errno 1 (by decide) (by decide) _).mono ?_
        rintro e w' ⟨rfl, rfl⟩
        go_wp2_with (go_at_call 18; fail)
        refine (Num_errno 1 (by decide) (by decide) _).mono ?_
        rintro e w' ⟨rfl, rfl⟩
        go_wp2_with (first
          | (refine wpList_load_at (ty := 34) rfl rfl rfl b17.out HUS.out rfl slotInfo ?_)
          | (go_at_call 12; fail))
        refine (put_out (i := 32) (.inr (by decide)) (some ⟨g, 0, none⟩) kSlot _).mono ?_
        rintro e w' ⟨rfl, hbE⟩
        simp only [errno]
        go_wp2_with (go_at_call 18; fail)
        refine (Num_errno 1 (by decide) (by decide) _).mono ?_
        rintro e w' ⟨rfl, rfl⟩
        have KE := Lib.hid (K17.out.call hbE)
        clear hbE b17 c17 d17 K17
        go_wp2
        refine ⟨by simp, .inl ⟨_, _, rfl, run_takeDeferred KE.out.mkd, ?_⟩⟩
        refine ⟨_, results_tmp rfl _ _ _, ?_⟩
        exact ⟨rfl, below_putObj KE.out.kn.bel KE.out.lo _ KE.out.kn.bel.size⟩
end Go.Proofs.Ytdgdbcapojgnlaa
