/-
  pack's writer: what it has; New, Number, Text, Bytes.
-/
import Derived.Test.YtpdpdojaaaipcaaDoorU8
import Derived.Test.YtpdpdojaaaipcaaDoorWord
import Derived.Test.YtpdpdojaaaipcaaDoorPkPure
import Derived.RangeFuncBox
import Derived.Lib.AppendStr
namespace Go.Proofs.YtpdpdojaaaipcaaDoor
set_option maxRecDepth 100000
open Go.RowKit

def byv (l : List UInt8) : List Value := u8v (l.map UInt8.toNat)
theorem byv_len (l : List UInt8) : (byv l).length = l.length := by simp [byv, u8v]
theorem byv_snoc (l : List UInt8) (n : Nat) (h : n < 256) : byv (l ++ [UInt8.ofNat n]) = byv l ++ [.int .u8 (n : Int)] := by
  simp only [byv, u8v, List.map_append, List.map_cons, List.map_nil, ofNat_toNat h]
theorem byv_append (l m : List UInt8) : byv (l ++ m) = byv l ++ byv m := by simp [byv, u8v]
/-- The writer at g has the bytes l; v is its row. -/
structure IsW (w : World) (g : Nat) (v : Value) (l : List UInt8) : Prop where
  blk : Blk w g 102 #[v]
  own : w.ownsRow (g + 1) 5 1 v l.length (byv l)
/-- What a writer's call turns: its own block, its row, new memory. -/
structure Turned (w w' : World) (g : Nat) (v v' : Value) : Prop where
  os : w'.os = w.os
  tape : w'.tape = w.tape
  output : w'.output = w.output
  size : w.heap.size ≤ w'.heap.size
  block : ∀ k, k < w.heap.size → k ≠ g → some k ≠ v.ownBlock → w'.heap[k]? = w.heap[k]?
  own : v'.ownBlock = v.ownBlock ∨ ∃ b, v'.ownBlock = some b ∧ w.heap.size ≤ b
theorem Turned.refl (w : World) (g : Nat) (v : Value) : Turned w w g v v := ⟨rfl, rfl, rfl, Nat.le_refl _, fun _ _ _ _ => rfl, .inl rfl⟩
theorem Turned.trans {w w1 w2 : World} {g : Nat} {v v1 v2 : Value} (h : Turned w w1 g v v1) (h2 : Turned w1 w2 g v1 v2) : Turned w w2 g v v2 := by
  refine ⟨h2.os.trans h.os, h2.tape.trans h.tape, h2.output.trans h.output, Nat.le_trans h.size h2.size, fun k hk hne hno => ?_, ?_⟩
  · refine (h2.block k (Nat.lt_of_lt_of_le hk h.size) hne fun e => ?_).trans (h.block k hk hne hno)
    rcases h.own with e1 | ⟨b, e1, hb⟩
    · exact hno (e.trans e1)
    · rw [e1] at e; injection e with e; omega
  · rcases h2.own with e | ⟨b, e, hb⟩
    · rcases h.own with e1 | ⟨b, e1, hb⟩
      · exact .inl (e.trans e1)
      · exact .inr ⟨b, e.trans e1, hb⟩
    · exact .inr ⟨b, e, Nat.le_trans h.size hb⟩
theorem Turned.below {w w' : World} {g : Nat} {v v' : Value} {l : List UInt8} {B : Nat} (h : Turned w w' g v v') (hw : IsW w g v l) (hB : B ≤ g) : Below B w w' :=
  ⟨h.os, h.tape, h.output, h.size, fun k hk => h.block k (by have := hw.blk.lt; omega) (by omega) (fun e => by have := (hw.own.lt k e.symm).1; omega)⟩
/-- One byte more. -/
theorem IsW.step {w w1 : World} {g : Nat} {v v' : Value} {l : List UInt8} {n : Nat} (hn : n < 256) (h : IsW w g v l) (hown : w1.ownsRow (g + 1) 5 1 v' (l.length + 1) (byv l ++ [.int .u8 (n : Int)])) (hg : Grows w w1 v v') :
    IsW (w1.setCell ⟨g, 0, none⟩ v') g v' (l ++ [UInt8.ofNat n]) ∧ Turned w (w1.setCell ⟨g, 0, none⟩ v') g v v' := by
  have hb1 : Blk w1 g 102 #[v] := h.blk.grows hg (own_ne h.own (by omega))
  have g2 := grownBy_setCell' w1 g v'
  refine ⟨⟨hb1.set_ 0 v', ?_⟩, ⟨g2.os.trans hg.grown.os, g2.tape.trans hg.grown.tape, g2.output.trans hg.grown.output, Nat.le_trans hg.grown.size g2.size, fun k hk hne hno => ?_, hg.own⟩⟩
  · rw [byv_snoc l n hn, show (l ++ [UInt8.ofNat n]).length = l.length + 1 by simp]
    exact hown.kept g2 (.inr fun e => by have := (hown.lt g e).1; omega)
  · exact (g2.block k (Nat.lt_of_lt_of_le hk hg.grown.size) (fun e => hne (Option.some.inj e))).trans (hg.grown.block k hk hno)
theorem or128 : ∀ n : Nat, n < 256 → bits BinOp.or IntKind.u8 ((n : Nat) : Int) 128 = ((n % 128 + 128 : Nat) : Int) := by decide +kernel
theorem shr7 (y : BitVec 64) : (y >>> 7).toNat = y.toNat / 128 := by rw [BitVec.toNat_ushiftRight, Nat.shiftRight_eq_div_pow]
theorem wd_shr7 (y : BitVec 64) : wd (y >>> 7) = wd y / 128 := by unfold wd; rw [shr7]; omega
structure NRel (w : World) (g : Nat) (v : Value) (l : List UInt8) (x : BitVec 64) (i : Value) (wr : World) : Prop where
  ex : ∃ y pre v', i = .int .u64 (wd y) ∧ sevens x.toNat = pre ++ sevens y.toNat ∧ IsW wr g v' (l ++ pre) ∧ Turned w wr g v v'
theorem sevens_ten (x : BitVec 64) : (sevens x.toNat).length ≤ 10 := sevens_le 9 _ (Nat.lt_trans x.isLt (by decide))
set_option maxHeartbeats 2000000 in
theorem num_w (g : Nat) (v : Value) (l : List UInt8) (x : BitVec 64) (hl : l.length + 10 ≤ 140737488355328) (w : World) (h : IsW w g v l) :
    Calls Tryd.prog 46 #[.pointer (some ⟨g, 0, none⟩), .int .u64 (wd x)] w fun e w' => e = .returned (.tuple #[]) ∧ ∃ v', IsW w' g v' (l ++ sevens x.toNat) ∧ Turned w w' g v v' := by
  obtain ⟨ii, iz, hi0, hz0, hz1, hz2, hz3⟩ := u8Info
  have HL := Lib.hid hl
  have HW := Lib.hid h
  have HT := Lib.hid (sevens_ten x)
  clear hl h
  go_enter Tryd.func46, Tryd.ntmps46
  go_wp2
  go_loopw [1] (NRel w g v l x) (fun i _ => (intOf i).toNat)
  case atStart => exact ⟨⟨x, [], v, rfl, rfl, by rw [List.append_nil]; exact HW.out, Turned.refl _ _ _⟩⟩
  case round =>
    obtain ⟨⟨y, pre, v1, rfl, hs, hw, ht⟩⟩ := hrel
    obtain ⟨L, hLp⟩ : ∃ L, l ++ pre = L := ⟨_, rfl⟩
    rw [hLp] at hw
    have HLP := Lib.hid hLp
    have HW1 := Lib.hid hw
    have HT1 := Lib.hid ht
    have HS := Lib.hid hs
    have c0 := hw.blk.cell 0
    simp only [List.getElem?_toArray, List.getElem?_cons_zero] at c0
    have z0 := hw.blk.frozen 0
    have HB := Lib.hid (show L.length + 1 ≤ maxLen ∧ L.length + 1 ≤ 140737488355328 by
      have h1 := HT.out
      have h2 := HL.out
      rw [hs, List.length_append] at h1
      have h3 := sevens_pos y.toNat
      unfold maxLen
      rw [← hLp, List.length_append]
      omega)
    have hsz : g + 1 ≤ wr.heap.size := by have := hw.blk.lt; omega
    have hown := hw.own
    have HO := Lib.hid hown
    clear hw ht hs hown hLp
    by_cases hlt : y.toNat < 128
    · have hlt' : ¬ (127 : Int) < wd y := by unfold wd; omega
      obtain ⟨m, hm⟩ : ∃ m : Nat, y.toNat = m := ⟨_, rfl⟩
      have hb : wd y % 256 = (m : Int) := by unfold wd; omega
      have HM := Lib.hid hm
      have hsev : sevens m = [UInt8.ofNat m] := sevens_lt (by omega)
      have HSV := Lib.hid hsev
      clear hm hsev
      go_wp2_with (first
        | (at_builtin; refine wpList_append_grows (v := v1) rfl _ _ _ rfl Tryd.underlying22 hi0 hz0 hz1 hz2 hz3 (by decide) rfl HO.out rfl rfl (byte_one _) HB.out.1 (by simpa using HB.out.2) hsz ?_; intro g' cap' w4 hown1 hgr1; have b4 := HW1.out.blk.grows hgr1 (own_ne HO.out (by omega)); have d0 := b4.cell 0; simp only [List.getElem?_toArray, List.getElem?_cons_zero] at d0; have d1 := b4.frozen 0; have HO1 := Lib.hid hown1; have HG1 := Lib.hid hgr1; clear b4 hown1 hgr1))
      first | go_end0 | refine bodyPost_ret (results_none rfl _ _ _) rfl ?_
      have hst := IsW.step (n := m) (by have := HM.out; omega) HW1.out HO1.out HG1.out
      refine ⟨rfl, _, ?_, HT1.out.trans hst.2⟩
      rw [HS.out, HM.out, HSV.out, ← List.append_assoc, HLP.out]
      exact hst.1
    · have hlt' : (127 : Int) < wd y := by unfold wd; omega
      obtain ⟨m, hm⟩ : ∃ m : Nat, y.toNat % 128 + 128 = m := ⟨_, rfl⟩
      have hb : bits BinOp.or IntKind.u8 (wd y % 256) 128 = (m : Int) := by
        rw [show wd y % 256 = ((y.toNat % 256 : Nat) : Int) by unfold wd; omega, or128 (y.toNat % 256) (by omega), ← hm]
        congr 2; omega
      have HM := Lib.hid hm
      clear hm
      go_wp2_with (first
        | (at_builtin; refine wpList_append_grows (v := v1) rfl _ _ _ rfl Tryd.underlying22 hi0 hz0 hz1 hz2 hz3 (by decide) rfl HO.out rfl rfl (byte_one _) HB.out.1 (by simpa using HB.out.2) hsz ?_; intro g' cap' w4 hown1 hgr1; have b4 := HW1.out.blk.grows hgr1 (own_ne HO.out (by omega)); have d0 := b4.cell 0; simp only [List.getElem?_toArray, List.getElem?_cons_zero] at d0; have d1 := b4.frozen 0; have HO1 := Lib.hid hown1; have HG1 := Lib.hid hgr1; clear b4 hown1 hgr1))
      go_roundw
      case rel =>
        have hst := IsW.step (n := m) (by have := HM.out; omega) HW1.out HO1.out HG1.out
        refine ⟨⟨y >>> 7, pre ++ [UInt8.ofNat m], _, by rw [wd_shr7], ?_, ?_, HT1.out.trans hst.2⟩⟩
        · rw [HS.out, sevens_ge hlt, HM.out, shr7]; simp
        · rw [← List.append_assoc, HLP.out]; exact hst.1
      case measure =>
        show (wd y / 128).toNat < (wd y).toNat
        unfold wd; omega
theorem new_w (w : World) : Calls Tryd.prog 41 #[] w fun e w' => e = .returned (.pointer (some ⟨w.heap.size, 0, none⟩)) ∧ IsW w' w.heap.size (.slice none 0 0) [] ∧ Below w.heap.size w w' := by
  go_enter Tryd.func41, Tryd.ntmps41
  go_wp2
  go_ret
  exact ⟨rfl, ⟨Blk.new w _ _, ⟨rfl, .inl ⟨rfl, rfl⟩⟩⟩, (Below.refl _ _).alloc (Nat.le_refl _) _⟩
set_option maxHeartbeats 1000000 in
/-- bytes.Clone: the same bytes in new memory. -/
theorem clone_any (A : Option Addr) (cap : Nat) (l : List UInt8) (hl : l.length ≤ 140737488355328) (hnil : A = none → cap = 0 ∧ l = []) (w : World) (hb : BytesAt w A l) :
    Calls Tryd.prog 20 #[.slice A l.length cap] w fun e w' => ∃ v, e = .returned v ∧ w'.ownsRow w.heap.size 5 1 v l.length (byv l) ∧ Below w.heap.size w w' := by
  obtain ⟨ii, iz, hi0, hz0, hz1, hz2, hz3⟩ := u8Info
  rcases A with _ | ad
  · obtain ⟨rfl, rfl⟩ := hnil rfl
    have hn : ∀ w, (binOp .eql 22 (.slice none 0 0) (.slice none 0 0)).run Tryd.prog w = .ok (.bool true) w := fun w => by kernel_rfl
    show Calls Tryd.prog 20 #[.slice none 0 0] w _
    go_enter Tryd.func20, Tryd.ntmps20
    go_wp2
    go_ret
    exact ⟨_, rfl, ⟨rfl, .inl ⟨rfl, rfl⟩⟩, Below.refl _ _⟩
  · have hn : ∀ w, (binOp .eql 22 (.slice (some ad) l.length cap) (.slice none 0 0)).run Tryd.prog w = .ok (.bool false) w := fun w => by kernel_rfl
    have HO : Hid ((w.alloc (.cells #[] 5)).ownsRow w.heap.size 5 1 (.slice (some ⟨w.heap.size, 0, none⟩) 0 0) 0 []) := Lib.hid ⟨rfl, .inr ⟨w.heap.size, 0, #[], rfl, Nat.le_refl _, (Blk.new w _ _).eq, Nat.le_refl _, by decide, rfl, rfl⟩⟩
    have HN : Hid (∀ j u, (byv l)[j]? = some u → (w.alloc (.cells #[] 5)).cell? (ad.add j) = some u) := Lib.hid (fun j u hu => by
      have hj : j < l.length := by have := (List.getElem?_eq_some_iff.1 hu).1; rwa [byv_len] at this
      obtain ⟨b, off, e, hlt, hc⟩ := (hb.below ((Below.refl _ _).alloc (Nat.le_refl _) (.cells #[] 5)) (Nat.le_refl _)) (by omega)
      cases e
      have hx : l[j]? = some l[j] := List.getElem?_eq_getElem hj
      have := hc j _ hx
      rw [Addr.add_lit, this]
      rw [← hu]; unfold byv u8v; rw [List.getElem?_map, List.getElem?_map, hx]; rfl)
    have H1 : Hid (∀ u ∈ byv l, u.oneCell' = true) := Lib.hid (fun u hu => by unfold byv u8v at hu; obtain ⟨n, _, rfl⟩ := List.mem_map.1 hu; rfl)
    have HLL := Lib.hid (show 0 + l.length ≤ maxLen ∧ (0 + l.length) * 1 ≤ 140737488355328 by unfold maxLen; omega)
    have HBL := Lib.hid ((Below.refl w.heap.size w).alloc (Nat.le_refl _) (.cells #[] 5))
    have HLN := Lib.hid (show (byv l).length = l.length * 1 by rw [byv_len]; omega)
    clear hb hl hnil
    obtain ⟨N, hN⟩ : ∃ N, l.length = N := ⟨_, rfl⟩
    rw [hN] at HLL HLN hn ⊢
    clear hN
    go_enter Tryd.func20, Tryd.ntmps20
    go_wp2_with (at_builtin; refine wpList_append_own_at (w.alloc (.cells #[] 5)) rfl _ _ _ rfl w.heap.size 5 _ _ 1 1 Tryd.underlying22 hi0 hz0 hz1 hz2 hz3 (by decide) _ 0 [] rfl HO.out ad N cap (byv l) rfl HLN.out HN.out H1.out HLL.out.1 HLL.out.2 (by simp) ?_; intro v' w1 hown hgr _ hat)
    go_ret
    refine ⟨_, rfl, by simpa using hown, HBL.out.grown hgr (by simp) (fun k hk => ?_)⟩
    cases hk
    exact Nat.le_refl _
theorem pk_slice {w : World} {base : Nat} {e : TypeId} {size : Nat} {v : Value} {k : Nat} {xs : List Value} (h : w.ownsRow base e size v k xs) : ∃ p cap, v = .slice p k cap := by
  rcases h.2 with ⟨rfl, rfl⟩ | ⟨g, cap, _, rfl, _⟩
  · exact ⟨_, _, rfl⟩
  · exact ⟨_, _, rfl⟩
theorem strCells_byv (s : ByteArray) : Lib.strCells s = byv s.data.toList := by
  simp [Lib.strCells, byv, u8v]
theorem u8Zero : (Tryd.prog.info? 5).bind (·.zero) = some (.int .u8 0) := by kernel_rfl
set_option maxHeartbeats 1000000 in
theorem text_w (g : Nat) (v : Value) (l : List UInt8) (s : ByteArray) (hl : l.length + 10 + s.size ≤ 140737488355328) (w : World) (h : IsW w g v l) :
    Calls Tryd.prog 44 #[.pointer (some ⟨g, 0, none⟩), .string s] w fun e w' => e = .returned (.tuple #[]) ∧ ∃ v', IsW w' g v' (l ++ (sevens s.size ++ s.data.toList)) ∧ Below g w w' := by
  obtain ⟨ii, iz, hi0, hz0, hz1, hz2, hz3⟩ := u8Info
  have hiz : iz = .int .u8 0 := by have := u8Zero; rw [hi0] at this; simpa [hz0] using this
  subst hiz
  have HW := Lib.hid h
  obtain ⟨x, hx⟩ : ∃ x : BitVec 64, x.toNat = s.size := ⟨BitVec.ofNat 64 s.size, by rw [BitVec.toNat_ofNat, Nat.mod_eq_of_lt (by omega)]⟩
  have hxw : IntKind.u64.wrap (s.size : Int) = wd x := by rw [IntKind.wrap_u64]; unfold wd; omega
  have HX := Lib.hid hx
  have HL := Lib.hid hl
  clear h hl hx
  go_enter Tryd.func44, Tryd.ntmps44
  go_wp2_with (go_at_call 46; fail)
  refine (num_w g v l x (by have := HL.out; omega) w HW.out).mono ?_
  rintro e w1 ⟨rfl, v1, hw1, ht1⟩
  rw [HX.out] at hw1
  have HW1 := Lib.hid hw1
  have HT1 := Lib.hid (ht1.below HW.out (Nat.le_refl _))
  obtain ⟨L, hLp⟩ : ∃ L, l ++ sevens s.size = L := ⟨_, rfl⟩
  have HLP := Lib.hid hLp
  have HLL := Lib.hid (show L.length + s.size ≤ maxLen ∧ L.length + s.size ≤ 140737488355328 by
    have h1 := HL.out
    have h2 := sevens_ten x
    rw [HX.out] at h2
    unfold maxLen
    rw [← hLp, List.length_append]
    omega)
  rw [hLp] at hw1 HW1
  have HO := Lib.hid hw1.own
  have c0 := hw1.blk.cell 0
  simp only [List.getElem?_toArray, List.getElem?_cons_zero] at c0
  have z0 := hw1.blk.frozen 0
  have hsz : g + 1 ≤ w1.heap.size := by have := hw1.blk.lt; omega
  clear hw1 ht1 hLp hxw
  go_wp2_with (at_builtin; refine Lib.wpList_append_own_string w1 rfl _ _ _ _ rfl (g + 1) 5 ii Tryd.underlying22 Tryd.underlying9 hi0 hz0 hz1 hz2 v1 L.length (byv L) rfl HO.out s rfl HLL.out.1 HLL.out.2 hsz ?_; intro v' w4 hown hgr _; obtain ⟨p', c', rfl⟩ := pk_slice hown; have b4 := HW1.out.blk.grown hgr (own_ne HO.out (by omega)); have d0 := b4.cell 0; simp only [List.getElem?_toArray, List.getElem?_cons_zero] at d0; have d1 := b4.frozen 0; have B4 := Lib.hid b4; have HO1 := Lib.hid hown; have HG1 := Lib.hid hgr; clear b4 hown hgr)
  first | go_end0 | refine bodyPost_ret (results_none rfl _ _ _) rfl ?_
  have g2 := grownBy_setCell' w4 g (.slice p' (L.length + s.size) c')
  refine ⟨rfl, _, ⟨B4.out.set_ 0 _, ?_⟩, ?_⟩
  · rw [← List.append_assoc, HLP.out, byv_append, ← strCells_byv, List.length_append, show s.data.toList.length = s.size by rw [Array.length_toList]; rfl]
    exact HO1.out.kept g2 (.inr fun e => by have := (HO1.out.lt g e).1; omega)
  · have hg1 : g ≤ w1.heap.size := by omega
    exact ((HT1.out.grown HG1.out (by omega) (fun k hk => by have := (HO.out.lt k hk).1; omega)).grown g2 (by have := HG1.out.size; omega) (fun k hk => by cases hk; exact Nat.le_refl _))
theorem byv_back (l : List UInt8) : (l.map UInt8.toNat).map UInt8.ofNat = l := by simp [Function.comp_def]
theorem own_by {w : World} {base : Nat} {v : Value} {l : List UInt8} (h : w.ownsRow base 5 1 v l.length (byv l)) : ∃ A cap, v = .slice A l.length cap ∧ BytesAt w A l ∧ (A = none → cap = 0 ∧ l = []) := by
  rcases h.2 with ⟨rfl, h2⟩ | ⟨g, cap, cur, rfl, h2⟩
  · have hl : l = [] := by
      have h3 := h.1
      rw [byv_len] at h3
      cases l with
      | nil => rfl
      | cons a t => simp [byv, u8v] at h2
    subst hl
    exact ⟨none, 0, rfl, BytesAt.nil _ _, fun _ => ⟨rfl, rfl⟩⟩
  · refine ⟨_, cap, rfl, ?_, fun e => by cases e⟩
    have := own_bytes (l := l.map UInt8.toNat) h (fun x hx => by obtain ⟨y, _, rfl⟩ := List.mem_map.1 hx; exact y.toNat_lt)
    rwa [byv_back] at this
theorem bytes_w (g : Nat) (v : Value) (l : List UInt8) (hl : l.length ≤ 140737488355328) (w : World) (h : IsW w g v l) :
    Calls Tryd.prog 42 #[.pointer (some ⟨g, 0, none⟩)] w fun e w' => ∃ v', e = .returned v' ∧ w'.ownsRow w.heap.size 5 1 v' l.length (byv l) ∧ Below w.heap.size w w' := by
  obtain ⟨A, cap, rfl, hb, hn⟩ := own_by h.own
  have c0 := h.blk.cell 0
  simp only [List.getElem?_toArray, List.getElem?_cons_zero] at c0
  have HC := Lib.hid (clone_any A cap l hl hn w hb)
  clear h hb hn hl
  generalize l.length = N at *
  go_enter Tryd.func42, Tryd.ntmps42
  go_wp2_with (go_at_call 20; fail)
  refine HC.out.mono ?_
  rintro e w1 ⟨v', rfl, h1, h2⟩
  have H1 := Lib.hid h1
  have H2 := Lib.hid h2
  clear h1 h2
  go_wp2
  go_ret
  exact ⟨v', rfl, H1.out, H2.out⟩
end Go.Proofs.YtpdpdojaaaipcaaDoor
