/-
  The document's arena: without, Take, Place.
-/
import Derived.Test.YtdgdbcapojgnlaaDoorRefAr2
import Derived.Test.YtdgdbcapojgnlaaDoorInts
namespace Go.Proofs.YtdgdbcapojgnlaaDoor
set_option maxRecDepth 100000
open Go.RowKit

set_option maxHeartbeats 2000000 in
theorem rwithout_any {lo h b : Nat} {S : St} (i : Nat) (w : World) (r : IsRB lo h b S w) (hl : S.free.length ≤ 32) (hlo : lo ≤ w.heap.size) : Calls Tryd.prog 61 #[.pointer (some ⟨h, 0, none⟩), .int .i64 i] w (RetR (.tuple #[]) w lo h b { S with free := S.free.eraseIdx i }) := by
  obtain ⟨ii, iz, hi0, hz0, hz1, hz2, hz3⟩ := intInfo
  obtain ⟨cap, junk, vF, r⟩ := r
  obtain ⟨A, c, _, hi, _, c1, _⟩ := r.view
  obtain ⟨L, hL⟩ : ∃ L, S.free = L := ⟨_, rfl⟩
  have HLL := Lib.hid hL
  rw [hL] at hi c1 hl ⊢
  obtain ⟨n, hn⟩ : ∃ n, L.length = n := ⟨_, rfl⟩
  have HN := Lib.hid hn
  rw [hn] at c1 hl
  have HI := Lib.hid hi
  have HR := Lib.hid r
  have hhl := r.head.lt
  clear r hi hL hn
  go_enter Tryd.func61, Tryd.ntmps61
  go_wp2
  go_loopw [4, 5] (fun v j wr => ∃ k : Nat, k ≤ n ∧ j = .int .i64 k ∧ wr.ownsRow w.heap.size 3 1 v ((L.take k).eraseIdx i).length (intVs (natInts ((L.take k).eraseIdx i))) ∧ Below w.heap.size w wr) (fun _ j _ => n - (intOf j).toNat)
  case atStart => exact ⟨0, Nat.zero_le _, rfl, by rw [show (L.take 0).eraseIdx i = [] from by simp]; exact World.ownsRow_nil _ _ _ _, Below.refl _ _⟩
  case round =>
    obtain ⟨k, hk, rfl, hown, hbel⟩ := hrel
    have HB := Lib.hid hbel
    have hk1 := (hbel.cell (p := ⟨h, 1, none⟩) hhl).trans c1
    by_cases hlt : k < n
    · have hki : (k : Int) < (n : Int) := by omega
      obtain ⟨x, hx⟩ : ∃ x, L[k]? = some x := ⟨_, List.getElem?_eq_getElem (by rw [HN.out]; exact hlt)⟩
      have hst := erase_take (k := i) hx
      have hlen : ((L.take k).eraseIdx i).length ≤ k := Nat.le_trans (List.length_eraseIdx_le _ _) (by rw [List.length_take]; omega)
      obtain ⟨b1, o1, rfl, g1, r1⟩ := (HI.out.below hbel (Nat.le_refl _)) (by rw [natInts_len, HN.out]; omega)
      have d1 := r1 k (x : Int) (by simp [natInts, hx])
      obtain ⟨E, hE⟩ : ∃ E, (L.take k).eraseIdx i = E := ⟨_, rfl⟩
      rw [hE] at hown hst hlen
      have HO := Lib.hid hown
      have HST := Lib.hid hst
      obtain ⟨Ar, cp, rfl⟩ := owns_slice hown
      clear r1 hx hbel hE hst hown
      by_cases he : k = i
      · subst he
        have hEE := HST.out
        rw [if_pos rfl] at hEE
        have HEE := Lib.hid hEE
        clear hEE HST
        go_wp2
        go_roundw
        case rel => exact ⟨k + 1, by omega, by go_num, by rw [HEE.out]; exact HO.out, HB.out⟩
        case measure => simp [intOf]; omega
      · have hEE := HST.out
        rw [if_neg he] at hEE
        have HEE := Lib.hid hEE
        have hei : ((k : Int) == (i : Int)) = false := by simp; omega
        have h1 : E.length + 1 ≤ maxLen := by unfold maxLen; omega
        have h2 : (E.length + 1) * 8 ≤ 140737488355328 := by omega
        have H1 := Lib.hid h1
        have H2 := Lib.hid h2
        have hs := HB.out.size
        clear hEE HST h1 h2
        go_wp2_with (at_builtin; refine wpList_append_one (v := .slice Ar E.length cp) rfl _ _ 44 rfl Tryd.underlying44 hi0 hz0 hz1 hz2 hz3 (by decide) rfl HO.out rfl rfl (int_one _) H1.out H2.out hs ?_; intro g' cap' w11 hown1 hgr1)
        have hbk := bel_grown HB.out hgr1 HO.out (Nat.le_refl _) hs
        clear hgr1
        go_roundw
        case rel => exact ⟨k + 1, by omega, by go_num, by rw [HEE.out, natInts_snoc, List.length_append]; exact hown1, hbk⟩
        case measure => simp [intOf]; omega
    · obtain rfl : k = n := by omega
      have htk : L.take k = L := by rw [List.take_of_length_le (by rw [HN.out]; exact Nat.le_refl _)]
      rw [htk] at hown
      obtain ⟨Ar, cp, rfl⟩ := owns_slice hown
      have hr2 := (HR.out.call hbel).setFree (owns_lower hown hlo)
      have hf := (HR.out.call hbel).head.frozen 1
      have HR2 := Lib.hid hr2
      have HT := Lib.hid (fun v => (Tn.ofBelow (fun k => k = h ∨ k = b) hbel).grown (grownBy_set wr h 1 v) (.inl rfl))
      have c1' := ((HR.out.call hbel).head.cell 1)
      clear hown hbel htk hr2 HI HN c1
      go_wp2
      first | go_end0 | refine bodyPost_end (v := .tuple #[]) (results_none rfl _ _ _) rfl ?_
      exact ⟨rfl, ⟨_, _, _, HR2.out⟩, HT.out _⟩

set_option maxHeartbeats 2000000 in
theorem rtake_none {lo h b : Nat} {S : St} (w : World) (r : IsRB lo h b S w) (he : S.free = []) : Calls Tryd.prog 31 #[.pointer (some ⟨h, 0, none⟩)] w (RetSame (.tuple #[.int .i64 0, .int .i64 19]) w) := by
  obtain ⟨cap, junk, vF, r⟩ := r
  obtain ⟨A, c, _, _, _, c1, _⟩ := r.view
  rw [he] at c1
  simp only [List.length_nil] at c1
  clear r he
  go_enter Tryd.func31, Tryd.ntmps31
  go_wp2
  go_ret2
  exact ⟨rfl, rfl⟩
set_option maxHeartbeats 2000000 in
theorem rtake_some {lo h b i : Nat} {S : St} {L : List Nat} (w : World) (r : IsRB lo h b S w) (he : S.free = i :: L) (hl : S.free.length ≤ 32) (hlo : lo ≤ w.heap.size) : Calls Tryd.prog 31 #[.pointer (some ⟨h, 0, none⟩)] w (RetR (.tuple #[.int .i64 i, .int .i64 0]) w lo h b S.take) := by
  have HW := Lib.hid (rwithout_any 0 w r hl hlo)
  have hst : ({ S with free := S.free.eraseIdx 0 } : St) = S.take := by unfold St.take; rw [he]; rfl
  rw [hst] at HW
  obtain ⟨cap, junk, vF, r⟩ := r
  obtain ⟨A, c, _, hi, _, c1, _⟩ := r.view
  rw [he] at hi
  obtain ⟨b1, o1, rfl, g1, r1⟩ := hi (by simp [natInts])
  have d1 := r1 0 (i : Int) (by simp [natInts])
  have hn0 : ((S.free.length : Int) == 0) = false := by rw [he]; simp only [List.length_cons]; exact beq_false_of_ne (by omega)
  have hn1 : (0 : Int) < (S.free.length : Int) := by rw [he]; simp only [List.length_cons]; omega
  obtain ⟨n, hn⟩ : ∃ n, S.free.length = n := ⟨_, rfl⟩
  rw [hn] at c1 hn0 hn1
  simp only [Nat.add_zero] at d1
  clear r he hl hlo hi r1 hst hn
  go_enter Tryd.func31, Tryd.ntmps31
  go_wp2_with (go_at_call 61; fail)
  refine HW.out.mono ?_
  rintro e w1 ⟨rfl, h1, h2⟩
  have H1 := Lib.hid h1
  have H2 := Lib.hid h2
  clear h1 h2 HW c1 d1
  go_wp2
  go_ret2
  exact ⟨rfl, H1.out, H2.out⟩
theorem drop_idx {S : St} (i : Nat) : ({ S with free := S.free.eraseIdx (S.free.idxOf i) } : St) = S.drop i := by unfold St.drop; rw [erase_idx]
set_option maxHeartbeats 2000000 in
theorem rplace_in {lo h b i : Nat} {S : St} (w : World) (r : IsRB lo h b S w) (hi32 : i < 32) (hm : i ∈ S.free) (hl : S.free.length ≤ 32) (hlo : lo ≤ w.heap.size) : Calls Tryd.prog 34 #[.pointer (some ⟨h, 0, none⟩), .int .i64 i] w (RetR (.int .i64 0) w lo h b (S.drop i)) := by
  have HW := Lib.hid (rwithout_any (S.free.idxOf i) w r hl hlo)
  rw [drop_idx] at HW
  have HA := Lib.hid (rat_any i w r hl)
  rw [show posIn S.free i = (S.free.idxOf i : Int) from if_pos hm] at HA
  have HT := Lib.hid (rthereA_any (i : Int) w)
  rw [show inR (i : Int) = true by simp [inR]; omega] at HT
  obtain ⟨k, hk⟩ : ∃ k, S.free.idxOf i = k := ⟨_, rfl⟩
  rw [hk] at HW HA
  have hk0 : ¬ (k : Int) < 0 := by omega
  clear hm hl hlo hk
  go_enter Tryd.func34, Tryd.ntmps34
  go_wp2_with (first
    | (go_at_call 40; refine HT.out.mono ?_; rintro e w' ⟨rfl, rfl⟩)
    | (go_at_call 62; refine HA.out.mono ?_; rintro e w' ⟨rfl, rfl⟩)
    | (go_at_call 61; fail))
  refine HW.out.mono ?_
  rintro e w1 ⟨rfl, h1, h2⟩
  have H1 := Lib.hid h1
  have H2 := Lib.hid h2
  clear h1 h2 HW HA HT
  go_wp2
  go_ret
  exact ⟨rfl, H1.out, H2.out⟩
set_option maxHeartbeats 2000000 in
theorem rplace_no {lo h b i : Nat} {S : St} (w : World) (r : IsRB lo h b S w) (hi32 : i < 32) (hm : i ∉ S.free) (hl : S.free.length ≤ 32) : Calls Tryd.prog 34 #[.pointer (some ⟨h, 0, none⟩), .int .i64 i] w (RetSame (.int .i64 10) w) := by
  have HA := Lib.hid (rat_any i w r hl)
  rw [posIn_no hm] at HA
  have HT := Lib.hid (rthereA_any (i : Int) w)
  rw [show inR (i : Int) = true by simp [inR]; omega] at HT
  clear hm hl r
  go_enter Tryd.func34, Tryd.ntmps34
  go_wp2_with (first
    | (go_at_call 40; refine HT.out.mono ?_; rintro e w' ⟨rfl, rfl⟩)
    | (go_at_call 62; refine HA.out.mono ?_; rintro e w' ⟨rfl, rfl⟩))
  go_ret
  exact ⟨rfl, rfl⟩
set_option maxHeartbeats 2000000 in
theorem rplace_out (i : Int) (p : Option Addr) (w : World) (hi : inR i = false) : Calls Tryd.prog 34 #[.pointer p, .int .i64 i] w (RetSame (.int .i64 1) w) := by
  have HT := Lib.hid (rthereA_any i w)
  rw [hi] at HT
  clear hi
  go_enter Tryd.func34, Tryd.ntmps34
  go_wp2_with (first
    | (go_at_call 40; refine HT.out.mono ?_; rintro e w' ⟨rfl, rfl⟩))
  go_ret
  exact ⟨rfl, rfl⟩
end Go.Proofs.YtdgdbcapojgnlaaDoor
