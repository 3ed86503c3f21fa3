/-
  pack's reader: Text.
-/
import Derived.Test.YtpdpdojaaaipcaaDoorPkN
namespace Go.Proofs.YtpdpdojaaaipcaaDoor
set_option maxRecDepth 100000
open Go.RowKit
/-- The text that some bytes are. -/
def strB (l : List UInt8) : ByteArray := ⟨l.toArray⟩
theorem text1_numerr (g r m c : Nat) (v : Value) (b : List UInt8) (k : Nat) (cc : Int) (hl : b.length < 9223372036854775807) (w : World) (h : IsR w g v b k) (hr : Blk w r 25 #[.pointer (some ⟨g, 0, none⟩)])
    (hv : readN 0 0 (b.drop k) = .error cc) :
    Calls Tryd.prog 25 #[.pointer (some ⟨r, 0, none⟩), .pointer (some ⟨m, 0, none⟩), .pointer (some ⟨c, 0, none⟩)] w fun e w' => e = pnk cc ∧ (∃ j, IsR w' g v b j) ∧ Kp w w' g c := by
  have HS := Lib.hid (sevens_r g v b k hl w h)
  rw [hv] at HS
  have r0 := hr.cell 0
  simp only [List.getElem?_toArray, List.getElem?_cons_zero, List.getElem?_cons_succ] at r0
  clear hr h hv
  go_enter Tryd.func25, Tryd.ntmps25
  go_wp2_with (go_at_call 26; fail)
  refine HS.out.mono ?_
  rintro e w1 ⟨rfl, h1, h2⟩
  exact ⟨rfl, rfl, h1, Kp.ofGrown c h2⟩
theorem uw_max (most : Int) (hm : most < 9223372036854775808) : IntKind.u64.wrap (if 0 > most then 0 else most) = ((max most 0).toNat : Int) := by
  rw [IntKind.wrap_u64]
  split <;> omega
set_option maxHeartbeats 1000000 in
theorem text1_long (g r m c : Nat) (v : Value) (b : List UInt8) (k V n : Nat) (most : Int) (hmost : most < 9223372036854775808) (hl : b.length < 9223372036854775807) (w : World) (h : IsR w g v b k) (hr : Blk w r 25 #[.pointer (some ⟨g, 0, none⟩)]) (hm : Blk w m 3 #[.int .i64 most]) (hmg : m ≠ g)
    (hv : readN 0 0 (b.drop k) = .ok (V, n)) (hlong : (max most 0).toNat < V) :
    Calls Tryd.prog 25 #[.pointer (some ⟨r, 0, none⟩), .pointer (some ⟨m, 0, none⟩), .pointer (some ⟨c, 0, none⟩)] w fun e w' => e = pnk 3 ∧ (∃ j, IsR w' g v b j) ∧ Kp w w' g c := by
  have HS := Lib.hid (sevens_r g v b k hl w h)
  rw [hv] at HS
  have r0 := hr.cell 0
  simp only [List.getElem?_toArray, List.getElem?_cons_zero, List.getElem?_cons_succ] at r0
  have HM := Lib.hid hm
  have hum := uw_max most hmost
  obtain ⟨MM, hMM⟩ : ∃ MM : Nat, (max most 0).toNat = MM := ⟨_, rfl⟩
  rw [hMM] at hum hlong
  have hlt : (MM : Int) < (V : Int) := by omega
  clear hr h hv hm hMM hmost
  go_enter Tryd.func25, Tryd.ntmps25
  go_wp2_with (go_at_call 26; fail)
  refine HS.out.mono ?_
  rintro e w1 ⟨rfl, h1, h2⟩
  have m0 := (HM.out.grown h2 (by simpa using hmg)).cell 0
  simp only [List.getElem?_toArray, List.getElem?_cons_zero, List.getElem?_cons_succ] at m0
  have H1 := Lib.hid h1
  have H2 := Lib.hid h2
  clear h1 h2
  go_wp2
  all_goals exact ⟨rfl, rfl, ⟨_, H1.out⟩, Kp.ofGrown c H2.out⟩
set_option maxHeartbeats 1000000 in
theorem text1_short (g r m c : Nat) (v : Value) (b : List UInt8) (k V n : Nat) (most : Int) (hmost : most < 9223372036854775808) (hl : b.length < 9223372036854775807) (w : World) (h : IsR w g v b k) (hr : Blk w r 25 #[.pointer (some ⟨g, 0, none⟩)]) (hrg : r ≠ g) (hm : Blk w m 3 #[.int .i64 most]) (hmg : m ≠ g)
    (hv : readN 0 0 (b.drop k) = .ok (V, n)) (hlong : ¬ (max most 0).toNat < V) (hshort : b.length - (k + n) < V) :
    Calls Tryd.prog 25 #[.pointer (some ⟨r, 0, none⟩), .pointer (some ⟨m, 0, none⟩), .pointer (some ⟨c, 0, none⟩)] w fun e w' => e = pnk 2 ∧ (∃ j, IsR w' g v b j) ∧ Kp w w' g c := by
  have HS := Lib.hid (sevens_r g v b k hl w h)
  rw [hv] at HS
  have r0 := hr.cell 0
  simp only [List.getElem?_toArray, List.getElem?_cons_zero, List.getElem?_cons_succ] at r0
  have HM := Lib.hid hm
  have HRB := Lib.hid hr
  have hum := uw_max most hmost
  obtain ⟨MM, hMM⟩ : ∃ MM : Nat, (max most 0).toNat = MM := ⟨_, rfl⟩
  rw [hMM] at hum hlong
  have hlt : ¬ (MM : Int) < (V : Int) := by omega
  obtain ⟨LL, hLL⟩ : ∃ LL : Nat, b.length - (k + n) = LL := ⟨_, rfl⟩
  rw [hLL] at hshort
  have hlt2 : (LL : Int) < (V : Int) := by omega
  have hul : IntKind.u64.wrap (LL : Int) = (LL : Int) := by rw [IntKind.wrap_u64]; omega
  have HLL := Lib.hid hLL
  clear hr h hv hm hMM hmost hLL
  go_enter Tryd.func25, Tryd.ntmps25
  go_wp2_with (go_at_call 26; fail)
  refine HS.out.mono ?_
  rintro e w1 ⟨rfl, h1, h2⟩
  have m0 := (HM.out.grown h2 (by simpa using hmg)).cell 0
  have r1 := (HRB.out.grown h2 (by simpa using hrg)).cell 0
  simp only [List.getElem?_toArray, List.getElem?_cons_zero, List.getElem?_cons_succ] at m0 r1
  have HLF := Lib.hid (HLL.out ▸ left_r g v b (k + n) hl w1 h1)
  have H1 := Lib.hid h1
  have H2 := Lib.hid h2
  clear h1 h2
  go_wp2_with (go_at_call 9; fail)
  all_goals
    refine HLF.out.mono ?_
    rintro e w2 ⟨rfl, h3⟩
    go_wp2
    exact ⟨rfl, rfl, ⟨_, H1.out.below h3 (Nat.le_refl _)⟩, (Kp.ofGrown c H2.out).trans (Kp.ofBelow g c h3)⟩
theorem wr_nat (n : Nat) (h : n < 9223372036854775808) : wrap64 (n : Int) = (n : Int) := IntWalk.wrap64_in _ (by omega)
theorem own_cap2 {w : World} {base n : Nat} {p : Option Addr} {N c : Nat} {l : List Value} (h : w.ownsRow base 5 1 (.slice p N c) n l) : n ≤ c := by
  rcases h.2 with ⟨e, h2⟩ | ⟨g, cap, cur, e, h2⟩
  · have := h.1
    rw [h2] at this
    simp at this
    omega
  · injection e with e1 e2 e3
    subst e1 e2 e3
    exact h2.2.2.1
theorem conv_part {w : World} {base : Nat} {p : Option Addr} {N cap K V : Nat} {b : List UInt8} (hN : b.length = N) (h : w.ownsRow base 5 1 (.slice p N cap) N (byv b)) (hKV : K + V ≤ N) :
    (convert 22 9 (.slice (if cap = K then p else Option.map (fun x => Addr.add x K) p) V (cap - K))).run Tryd.prog w = .ok (.string (strB ((b.drop K).take V))) w := by
  have hc := own_cap2 h
  have hlen : ((b.drop K).take V).length = V := by simp; omega
  have key : ∀ gg off : Nat, (∀ i, i < V → w.cell? ⟨gg, off + i, none⟩ = some (.int .u8 (((((b.drop K).take V).map fun x : UInt8 => (x.toNat : Int))).getD i 0))) → (convert 22 9 (.slice (some ⟨gg, off, none⟩) V (cap - K))).run Tryd.prog w = .ok (.string (strB ((b.drop K).take V))) w := by
    intro gg off hcell
    rw [run_convert_bytes_arg (P := Tryd.prog) w 22 5 Tryd.underlying22 Tryd.underlying5 gg off V (cap - K) (((b.drop K).take V).map fun x : UInt8 => (x.toNat : Int)) (by simpa using hlen) hcell 9 Tryd.underlying9]
    congr 3
    unfold strOfNums
    rw [List.map_map]
    congr 2
    have : ((fun x : Int => UInt8.ofNat x.toNat) ∘ fun x : UInt8 => (x.toNat : Int)) = id := by funext x; simp
    simp [Function.comp_def]
  rcases h.2 with ⟨e, h2⟩ | ⟨gg, cap', cur, e, h2⟩
  · injection e with e1 e2 e3
    subst e1
    have hV : V = 0 := by omega
    subst hV
    have ha : (if cap = K then (none : Option Addr) else Option.map (fun x => Addr.add x K) none) = none := by split <;> rfl
    rw [ha, run_convert_bytes_nil (P := Tryd.prog) w 22 5 Tryd.underlying22 Tryd.underlying5 0 (cap - K) 9 Tryd.underlying9]
    rfl
  · injection e with e1 e2 e3
    subst e1 e3
    split
    · rename_i hcK
      exact key gg 0 (fun i hi => by omega)
    · show (convert _ _ (.slice (some (Addr.add ⟨gg, 0, none⟩ K)) V _)).run _ w = _
      rw [Addr.add_lit, Nat.zero_add]
      refine key gg K fun i hi => ?_
      have hx : b[K + i]? = some b[K + i] := List.getElem?_eq_getElem (by omega)
      have := h.cells rfl (K + i) (.int .u8 ((b[K + i]'(by omega)).toNat : Int)) (by unfold byv u8v; rw [List.getElem?_map, List.getElem?_map, hx]; rfl)
      rw [Addr.add_lit, Nat.zero_add] at this
      rw [this]
      congr 3
      rw [List.getD_eq_getElem?_getD, List.getElem?_map, List.getElem?_take, if_pos hi, List.getElem?_drop, hx]
      rfl
set_option maxHeartbeats 1000000 in
theorem text1_ok (g r m c : Nat) (p : Option Addr) (N cap : Nat) (b : List UInt8) (hN : b.length = N) (k V n K : Nat) (hK : k + n = K) (x : Value) (most : Int) (hmost : most < 9223372036854775808) (hl : N < 9223372036854775807) (w0 : World) (k0 : Nat) (h0 : IsR w0 g (.slice p N cap) b k0) (hc0 : w0.heap.size ≤ c) (w : World) (h : IsR w g (.slice p N cap) b k) (hr : Blk w r 25 #[.pointer (some ⟨g, 0, none⟩)]) (hrg : r ≠ g) (hm : Blk w m 3 #[.int .i64 most]) (hmg : m ≠ g) (hc : Blk w c 9 #[x]) (hrc : r ≠ c)
    (hv : readN 0 0 (b.drop k) = .ok (V, n)) (hlong : ¬ (max most 0).toNat < V) (hshort : ¬ N - K < V) :
    Calls Tryd.prog 25 #[.pointer (some ⟨r, 0, none⟩), .pointer (some ⟨m, 0, none⟩), .pointer (some ⟨c, 0, none⟩)] w fun e w' => e = .returned (.tuple #[]) ∧ IsR w' g (.slice p N cap) b (K + V) ∧ Kp w w' g c ∧ w'.cell? ⟨c, 0, none⟩ = some (.string (strB ((b.drop K).take V))) := by
  have HS := Lib.hid (sevens_r g _ b k (by rw [hN]; exact hl) w h)
  rw [hv] at HS
  have r0 := hr.cell 0
  simp only [List.getElem?_toArray, List.getElem?_cons_zero, List.getElem?_cons_succ] at r0
  have hcap : N ≤ cap := by obtain ⟨_, ho⟩ := h0.own; rw [← hN]; exact own_cap2 ho
  have HM := Lib.hid hm
  have HRB := Lib.hid hr
  have HC := Lib.hid hc
  have H0 := Lib.hid h0
  have hgc : c ≠ g := by have := h0.blk.lt; omega
  have hum := uw_max most hmost
  obtain ⟨MM, hMM⟩ : ∃ MM : Nat, (max most 0).toNat = MM := ⟨_, rfl⟩
  rw [hMM] at hum hlong
  have hlt : ¬ (MM : Int) < (V : Int) := by omega
  obtain ⟨LL, hLL⟩ : ∃ LL : Nat, N - K = LL := ⟨_, rfl⟩
  rw [hLL] at hshort
  have hlt2 : ¬ (LL : Int) < (V : Int) := by omega
  have hul : IntKind.u64.wrap (LL : Int) = (LL : Int) := by rw [IntKind.wrap_u64]; omega
  have HLL := Lib.hid hLL
  have HN := Lib.hid hN
  have HK := Lib.hid hK
  have HCP := Lib.hid hcap
  have HW := Lib.hid (show V ≤ LL ∧ LL < 9223372036854775808 by omega)
  clear hr h hv hm hMM hmost hLL hc h0 hcap hlong hshort
  go_enter Tryd.func25, Tryd.ntmps25
  go_wp2_with (go_at_call 26; fail)
  refine HS.out.mono ?_
  rintro e w1 ⟨rfl, h1, h2⟩
  rw [HK.out] at h1
  have hKN : K ≤ N := by have := h1.le; rw [HN.out] at this; exact this
  have hKV : K + V ≤ N := by have h4 := HW.out; have h5 := HLL.out; clear hlt hlt2 hul hum hl; omega
  have hwV : wrap64 (V : Int) = (V : Int) := wr_nat V (by have h4 := HW.out; clear hlt hlt2 hul hum hl; omega)
  have hwKV : wrap64 ((K : Int) + (V : Int)) = ((K + V : Nat) : Int) := wr_nat (K + V) (Nat.lt_of_le_of_lt hKV (Nat.lt_trans hl (by decide)))
  have hq1 : (K : Int) ≤ ((K + V : Nat) : Int) := by clear hlt hlt2 hul hum hl; omega
  have hq2 : ((K + V : Nat) : Int) ≤ (cap : Int) := by have h4 := HCP.out; clear hlt hlt2 hul hum hl; omega
  have m0 := (HM.out.grown h2 (by simpa using hmg)).cell 0
  have r1 := (HRB.out.grown h2 (by simpa using hrg)).cell 0
  simp only [List.getElem?_toArray, List.getElem?_cons_zero, List.getElem?_cons_succ] at m0 r1
  have HLF := Lib.hid (left_r g _ b K (by rw [HN.out]; exact hl) w1 h1)
  rw [HN.out, HLL.out] at HLF
  have H1 := Lib.hid h1
  have H2 := Lib.hid h2
  have HKV := Lib.hid hKV
  have HKN := Lib.hid hKN
  clear h1 h2 hKV hKN hl hK hN
  go_wp2_with (go_at_call 9; fail)
  all_goals
    refine HLF.out.mono ?_
    rintro e w2 ⟨rfl, h3⟩
    have hr2 := H1.out.below h3 (Nat.le_refl _)
    have g0 := hr2.blk.cell 0
    have g1 := hr2.blk.cell 1
    have z1 := hr2.blk.frozen 1
    have hc2 := (HC.out.grown H2.out (by simpa using hgc)).below h3 (HC.out.grown H2.out (by simpa using hgc)).lt
    have x0 := hc2.cell 0
    have zc := hc2.frozen 0
    have hrb2 := (HRB.out.grown H2.out (by simpa using hrg)).below h3 (HRB.out.grown H2.out (by simpa using hrg)).lt
    have r2 := hrb2.cell 0
    simp only [List.getElem?_toArray, List.getElem?_cons_zero, List.getElem?_cons_succ] at g0 g1 x0 r2
    have HR2 := Lib.hid hr2
    have HC2 := Lib.hid hc2
    have HRB2 := Lib.hid hrb2
    clear hc2 hrb2
    obtain ⟨base, ho⟩ := hr2.own
    rw [HN.out] at ho
    have hcv := conv_part (V := V) (w := w2.drew) HN.out ho HKV.out
    clear ho hr2
    obtain ⟨AD, hAD⟩ : ∃ AD, (if cap = K then p else Option.map (fun x => Addr.add x K) p) = AD := ⟨_, rfl⟩
    rw [hAD] at hcv
    have hsub : K + V - K = V := by omega
    obtain ⟨V3, hV3⟩ : ∃ V3, w2.drew.setCell ⟨c, 0, none⟩ (.string (strB ((b.drop K).take V))) = V3 := ⟨_, rfl⟩
    have hR3 : IsR V3 g (.slice p N cap) b K := by rw [← hV3]; exact (HR2.out.below (bel_drw w2) (Nat.le_refl _)).far H0.out hc0
    have hrb3 : Blk V3 r 25 #[.pointer (some ⟨g, 0, none⟩)] := by rw [← hV3]; exact (HRB2.out.drew).far (by show r ≠ c; exact hrc) _
    have hc3 : V3.cell? ⟨c, 0, none⟩ = some (.string (strB ((b.drop K).take V))) := by rw [← hV3]; exact ((HC2.out.drew).set_ 0 _).cell 0
    have hkp : Kp w V3 g c := by rw [← hV3]; exact ((Kp.ofGrown c H2.out).trans (Kp.ofBelow g c (h3.trans (bel_drw w2 |>.mono h3.size)))).setC
    have r3 := hrb3.cell 0
    have q1 := hR3.blk.cell 1
    have q1z := hR3.blk.frozen 1
    simp only [List.getElem?_toArray, List.getElem?_cons_zero, List.getElem?_cons_succ] at r3 q1
    have HR3 := Lib.hid hR3
    have HKP := Lib.hid hkp
    have HC3 := Lib.hid hc3
    clear hR3 hrb3 hc3 hkp
    go_wp2
    go_region
    go_wp2
    first | go_end0 | refine bodyPost_ret (results_none rfl _ _ _) rfl ?_
    refine ⟨rfl, HR3.out.to (K + V) (by rw [HN.out]; exact HKV.out), HKP.out.setG, ?_⟩
    have hgc' : (⟨g, 1, none⟩ : Addr) ≠ ⟨c, 0, none⟩ := fun e => by have h1 := congrArg Addr.block e; simp only at h1; exact hgc h1.symm
    exact (World.cell?_setCell_other _ _ _ _ hgc').trans HC3.out
end Go.Proofs.YtpdpdojaaaipcaaDoor
