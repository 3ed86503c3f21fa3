/-
  lineagelaw17: kids, under.
-/
import Derived.Test.YtbidgpeeogoglaaHp
import Derived.Test.YtbidgpeeogoglaaHk
import Derived.Test.YtbidgpeeogoglaaGg
namespace Go.Proofs.Ytbidgpeeogoglaa
set_option maxRecDepth 100000
open Go.RowKit Go.Sort

theorem take_snoc' {l : List Int} {k : Nat} {x : Int} (h : l[k]? = some x) : l.take (k + 1) = l.take k ++ [x] := by
  rw [List.take_add_one, h]; rfl
theorem kidsL_len (ups : List Int) (p g : Int) : (kidsL ups p g).length ≤ ups.length := by
  unfold kidsL
  exact Nat.le_trans (List.length_filter_le _ _) (by simp)
theorem natInts_app (l m : List Nat) : natInts (l ++ m) = natInts l ++ natInts m := by unfold natInts; exact List.map_append
set_option maxHeartbeats 8000000 in
theorem kids_any (ups : List Int) (n : Nat) (hl : ups.length = n) (hn : n ≤ 32) (A : Option Addr) (cA : Nat) (p g : Int) (w : World) (hin : IntsAt w A ups) :
    Calls Try.prog 13 #[.slice A n cA, .int .i64 p, .int .i64 g] w (RetInts (natInts (kidsL ups p g)) w) := by
  obtain ⟨ii, iz, hi0, hz0, hz1, hz2, hz3⟩ := intInfo
  have hn1 : (n : Int) ≤ 32 := by omega
  have HIN := Lib.hid hin
  have HL := Lib.hid hl
  clear hin hl
  go_enter Try.func13, Try.ntmps13
  go_wp2
  go_loopw [7, 8] (fun v i wr => ∃ k : Nat, k ≤ n ∧ i = .int .i64 k ∧ wr.ownsRow w.heap.size 3 1 v (kidsL (ups.take k) p g).length (intVs (natInts (kidsL (ups.take k) p g))) ∧ Below w.heap.size w wr) (fun _ i _ => n - (intOf i).toNat)
  case atStart => exact ⟨0, Nat.zero_le _, rfl, World.ownsRow_nil _ _ _ _, Below.refl _ _⟩
  case round =>
    obtain ⟨k, hk, rfl, hrow, hb⟩ := hrel
    have HROW := Lib.hid hrow
    have HB := Lib.hid hb
    have hsr := hb.size
    clear hrow
    by_cases hlt : k < n
    · have hki : (k : Int) < (n : Int) := by omega
      have hk0 : (0 : Int) ≤ (k : Int) := by omega
      obtain ⟨x, hx⟩ : ∃ x, ups[k]? = some x := ⟨_, List.getElem?_eq_getElem (by rw [HL.out]; exact hlt)⟩
      obtain ⟨ab, ao, rfl, hal, hac⟩ := HIN.out (by rw [HL.out]; omega)
      have hcx := (hb.cell (p := ⟨ab, ao + k, none⟩) hal).trans (hac k x hx)
      have HT := Lib.hid (take_snoc' hx)
      have HTL := Lib.hid (show (ups.take k).length = k by rw [List.length_take, HL.out]; omega)
      have HKL := Lib.hid (show (kidsL (ups.take k) p g).length ≤ 32 from Nat.le_trans (kidsL_len _ _ _) (by rw [HTL.out]; omega))
      have H63 := Lib.hid (show (kidsL (ups.take k) p g).length + 1 ≤ maxLen by unfold maxLen; have := HKL.out; omega)
      have HBY := Lib.hid (show ((kidsL (ups.take k) p g).length + 1) * 8 ≤ 140737488355328 by have := HKL.out; omega)
      clear hx hac hal hb
      by_cases hxp : x = p
      · by_cases hkg : (k : Int) = g
        · have HK1 := Lib.hid (show kidsL (ups.take (k + 1)) p g = kidsL (ups.take k) p g by rw [HT.out, kidsL_snoc, HTL.out, if_neg (fun h => h.2 hkg), List.append_nil])
          subst hkg
          go_wp2
          go_roundw
          case rel => exact ⟨k + 1, by omega, by go_num, by rw [HK1.out]; exact HROW.out, HB.out⟩
          case measure => simp [intOf] <;> omega
        · have HK1 := Lib.hid (show kidsL (ups.take (k + 1)) p g = kidsL (ups.take k) p g ++ [k] by rw [HT.out, kidsL_snoc, HTL.out, if_pos ⟨hxp, hkg⟩])
          go_wp2_with (first
            | (refine wpList_append_one_lies rfl _ _ 22 rfl Try.underlying22 hi0 hz0 hz1 hz2 hz3 (by decide) rfl HROW.out rfl rfl (int_one _) H63.out HBY.out hsr ?_; intro g1 cap1 u6 hown1 hgr1 hlie1))
          have R6 := Lib.hid (show u6.ownsRow w.heap.size 3 1 (.slice (some ⟨g1, 0, none⟩) ((kidsL (ups.take k) p g).length + 1) cap1) (kidsL (ups.take (k + 1)) p g).length (intVs (natInts (kidsL (ups.take (k + 1)) p g))) by
            rw [HK1.out, natInts_snoc, List.length_append]; exact hown1)
          have Y6 := Lib.hid (HB.out.grown hgr1 hsr (fun j e => (HROW.out.lt j e).1))
          have HK2 := Lib.hid (show (kidsL (ups.take (k + 1)) p g).length = (kidsL (ups.take k) p g).length + 1 by rw [HK1.out, List.length_append]; rfl)
          clear hown1 hgr1 hlie1
          go_roundw
          case rel => exact ⟨k + 1, by omega, by go_num, R6.out, Y6.out⟩
          case measure => simp [intOf] <;> omega
      · have HK1 := Lib.hid (show kidsL (ups.take (k + 1)) p g = kidsL (ups.take k) p g by rw [HT.out, kidsL_snoc, HTL.out, if_neg (fun h => hxp h.1), List.append_nil])
        go_wp2
        go_roundw
        case rel => exact ⟨k + 1, by omega, by go_num, by rw [HK1.out]; exact HROW.out, HB.out⟩
        case measure => simp [intOf] <;> omega
    · obtain rfl : k = n := by omega
      have hka : ¬ ((k : Int) < (k : Int)) := by omega
      have HE := Lib.hid (show ups.take k = ups from List.take_of_length_le (by rw [HL.out]; exact Nat.le_refl _))
      go_wp2
      go_ret
      refine ⟨_, rfl, ?_, HB.out⟩
      have h := HROW.out
      rw [HE.out] at h
      rwa [natInts_len]
theorem owns_kept2 {w w' : World} {base n : Nat} {e : TypeId} {size : Nat} {v : Value} {xs : List Value} (h : w.ownsRow base e size v n xs) (hb : Below w.heap.size w w') : w'.ownsRow base e size v n xs := owns_tn (Tn.ofBelow (fun _ => False) hb) h (fun k hk => hk.elim)
theorem undL_lt {ups : List Int} {g : Int} {x : Nat} : ∀ (f i : Nat), i < ups.length → x ∈ undL ups g f i → x < ups.length
  | 0, _, _, h => by cases h
  | f + 1, i, hi, h => by
    unfold undL at h
    rcases List.mem_cons.1 h with rfl | h
    · exact hi
    · obtain ⟨k, hk, hx⟩ := List.mem_flatMap.1 h
      exact undL_lt f k (mem_kidsL.1 hk).1 hx
def undU (ups : List Int) (g : Int) (i : Nat) : List Nat := undL ups g 33 i
theorem undU_step {ups : List Int} (h : Ups ups) (hn : ups.length ≤ 32) {g : Int} {i : Nat} : undU ups g i = i :: (kidsL ups i g).flatMap (undU ups g) := by
  unfold undU
  rw [show undL ups g 33 i = i :: (kidsL ups i g).flatMap (undL ups g 32) from rfl]
  congr 1
  rw [List.flatMap_def, List.flatMap_def]
  congr 1
  refine List.map_congr_left fun k hk => ?_
  have := kid_gt h hk
  exact undL_more h 31 k (by omega) (.inr trivial)
theorem undU_len {ups : List Int} (h : Ups ups) (hn : ups.length ≤ 32) {g : Int} {i : Nat} (hi : i < ups.length) : (undU ups g i).length ≤ 32 ∧ 0 < (undU ups g i).length := by
  refine ⟨nodup_len 32 _ (undL_nodup h 33 i) fun x hx => Nat.lt_of_lt_of_le (undL_lt 33 i hi hx) hn, ?_⟩
  rw [undU_step h hn]; simp
theorem flat_take {ups : List Int} (h : Ups ups) (hn : ups.length ≤ 32) {g : Int} {i : Nat} (hi : i < ups.length) (k : Nat) : (i :: ((kidsL ups i g).take k).flatMap (undU ups g)).length ≤ 32 := by
  refine Nat.le_trans ?_ (undU_len h hn (g := g) hi).1
  rw [undU_step h hn]
  conv => rhs; rw [← List.take_append_drop k (kidsL ups i g), List.flatMap_append]
  simp
theorem flat_snocU {f : Nat → List Nat} {l : List Nat} {k x : Nat} (h : l[k]? = some x) : (l.take (k + 1)).flatMap f = (l.take k).flatMap f ++ f x := by
  rw [List.take_add_one, h, List.flatMap_append]; simp
set_option maxHeartbeats 16000000 in
theorem under17_any (ups : List Int) (hU : Ups ups) (n : Nat) (hl : ups.length = n) (hn : n ≤ 32) (cA : Nat) (g : Int) : ∀ (d i : Nat), i < n → n ≤ d + i → ∀ (A : Option Addr) (w : World), IntsAt w A ups →
    Calls Try.prog 14 #[.slice A n cA, .int .i64 i, .int .i64 g] w (RetInts (natInts (undU ups g i)) w)
  | 0, i, hi, hd, _, _, _ => absurd hi (by omega)
  | d + 1, i, hi, hd, A, w, hin => by
    obtain ⟨ii, iz, hi0, hz0, hz1, hz2, hz3⟩ := intInfo
    have HREC := Lib.hid (fun (k : Nat) (h1 : k < n) (h2 : i < k) => under17_any ups hU n hl hn cA g d k h1 (by omega))
    obtain ⟨w1, hw1⟩ : ∃ w1, w.alloc (.cells #[.int .i64 i] 3) = w1 := ⟨_, rfl⟩
    have hb1 : Below w.heap.size w w1 := by rw [← hw1]; exact (Below.refl _ _).alloc (Nat.le_refl _) _
    have hs1 : w1.heap.size ≤ w.heap.size + 1 ∧ w.heap.size + 1 ≤ w1.heap.size := by rw [← hw1]; simp
    have hr1 : w1.ownsRow w.heap.size 3 1 (.slice (some ⟨w.heap.size, 0, none⟩) 1 1) 1 (intVs (natInts [i])) := by
      rw [← hw1]
      exact ownsOne w i
    have KI := Lib.hid (kids_any ups n hl hn A cA i g w1 (hin.below hb1 (Nat.le_refl _)))
    have HIN := Lib.hid hin
    have HU := Lib.hid hU
    have HL := Lib.hid hl
    have HB1 := Lib.hid hb1
    have R1 := Lib.hid hr1
    have HW1 := Lib.hid hw1
    clear hin hU hl hb1 hw1 hr1
    go_enter Try.func14, Try.ntmps14
    go_wp2_with (go_at_call 13; fail)
    rw [HW1.out]
    refine KI.out.mono ?_
    rintro e w2 ⟨c, rfl, hc, hb2⟩
    obtain ⟨C, cC, rfl, hCI, hCb⟩ := owns_intsFrom hc
    have hs2 := hb2.size
    rw [natInts_len]
    generalize hm : (kidsL ups i g).length = m
    have hm32 : m ≤ 32 := by rw [← hm]; exact Nat.le_trans (kidsL_len _ _ _) (by rw [HL.out]; exact hn)
    have hm1 : (m : Int) ≤ 32 := by omega
    have HM := Lib.hid hm
    have HCI := Lib.hid hCI
    have HCB := Lib.hid hCb
    have HB2 := Lib.hid (HB1.out.trans (hb2.mono HB1.out.size))
    have R2 := Lib.hid (owns_kept2 R1.out hb2)
    clear hc hb2 hm hCI hCb KI R1 HB1
    go_wp2
    go_loopw [7, 9] (fun v j wr => ∃ k : Nat, k ≤ m ∧ j = .int .i64 k ∧ wr.ownsRow w.heap.size 3 1 v (i :: ((kidsL ups i g).take k).flatMap (undU ups g)).length (intVs (natInts (i :: ((kidsL ups i g).take k).flatMap (undU ups g)))) ∧ (∀ r, v.ownBlock = some r → r = w.heap.size ∨ w2.heap.size ≤ r) ∧ Below w.heap.size w wr ∧ w2.heap.size ≤ wr.heap.size ∧ IntsAt wr C (natInts (kidsL ups i g))) (fun _ j _ => m - (intOf j).toNat)
    case atStart => exact ⟨0, Nat.zero_le _, rfl, R2.out, fun r e => .inl (by simp [Value.ownBlock] at e; omega), HB2.out, Nat.le_refl _, HCI.out⟩
    case round =>
      obtain ⟨k, hk, rfl, hrow, hlies, hb, hsz, hci⟩ := hrel
      obtain ⟨Lk, hLk⟩ : ∃ Lk, (i :: ((kidsL ups i g).take k).flatMap (undU ups g)).length = Lk := ⟨_, rfl⟩
      rw [hLk] at hrow
      have HLK := Lib.hid hLk
      clear hLk
      have HROW := Lib.hid hrow
      have HLS := Lib.hid hlies
      have HB := Lib.hid hb
      clear hrow hlies
      by_cases hlt : k < m
      · have hki : (k : Int) < (m : Int) := by omega
        have hk0 : (0 : Int) ≤ (k : Int) := by omega
        obtain ⟨x, hx⟩ : ∃ x, (kidsL ups i g)[k]? = some x := ⟨_, List.getElem?_eq_getElem (by rw [HM.out]; exact hlt)⟩
        have hxm := mem_kidsL.1 (List.mem_of_getElem? hx)
        have hxi := kid_gt HU.out (List.mem_of_getElem? hx)
        have hxn : x < n := by rw [← HL.out]; exact hxm.1
        obtain ⟨ab, ao, rfl, hal, hac⟩ := hci (by rw [natInts_len, HM.out]; omega)
        have hcx := hac k x (by unfold natInts; rw [List.getElem?_map, hx]; rfl)
        have HCI2 := Lib.hid hci
        have HREC2 := Lib.hid (HREC.out x hxn (by omega) A wr (HIN.out.below hb (Nat.le_refl _)))
        have HX := Lib.hid hx
        clear hx hxm hac hal hci hb
        go_wp2_with (go_at_call 14; fail)
        refine HREC2.out.mono ?_
        rintro e w3 ⟨r, rfl, hr, hb3⟩
        obtain ⟨ql, hql⟩ : ∃ ql, (natInts (undU ups g x)).length = ql := ⟨_, rfl⟩
        rw [hql] at hr
        obtain ⟨Q, cQ, rfl, hQI⟩ := owns_intsAt hr
        have hul := undU_len HU.out (by rw [HL.out]; exact hn) (g := g) (show x < ups.length by rw [HL.out]; exact hxn)
        have hQn : 0 < ql := by rw [← hql, natInts_len]; exact hul.2
        obtain ⟨qb, qo, rfl, hqb, hqc⟩ := hQI (by rw [hql]; exact hQn)
        have hs3 := hb3.size
        have R3 := Lib.hid (owns_kept2 HROW.out hb3)
        have Y3 := Lib.hid (HB.out.trans (hb3.mono HB.out.size))
        have CI3 := Lib.hid (HCI2.out.below hb3 (Nat.le_refl _))
        have hft := flat_take HU.out (by rw [HL.out]; exact hn) (g := g) (show i < ups.length by rw [HL.out]; exact hi) k
        have HQL := Lib.hid hql
        have hqu := hul.1
        rw [← natInts_len (undU ups g x), hql] at hqu
        rw [HLK.out] at hft
        have H63 := Lib.hid (show Lk + ql ≤ maxLen by unfold maxLen; omega)
        have HBY := Lib.hid (show (Lk + ql) * 8 ≤ 140737488355328 by omega)
        have HNW := Lib.hid (show ∀ j u, (intVs (natInts (undU ups g x)))[j]? = some u → w3.cell? ((⟨qb, qo, none⟩ : Addr).add j) = some u from fun j u hu => by
          unfold intVs at hu
          rw [List.getElem?_map] at hu
          cases h1 : (natInts (undU ups g x))[j]? with
          | none => rw [h1] at hu; cases hu
          | some z =>
            rw [h1] at hu
            cases hu
            rw [Addr.add_lit]
            exact hqc j z h1)
        have HONE := Lib.hid (show ∀ u ∈ intVs (natInts (undU ups g x)), u.oneCell' = true from fun u hu => by
          obtain ⟨z, _, rfl⟩ := List.mem_map.1 hu; rfl)
        have HNL := Lib.hid (show (intVs (natInts (undU ups g x))).length = ql * 1 by unfold intVs; rw [List.length_map, Nat.mul_one]; exact hql)
        have hbs : w.heap.size ≤ w3.heap.size := Y3.out.size
        clear hr hb3 hQI hqb hqc hft hul hql hqu
        go_wp2_with (first
          | (refine wpList_append_lies _ rfl _ _ 22 rfl w.heap.size 3 ii iz 1 8 Try.underlying22 hi0 hz0 hz1 hz2 hz3 (by decide) _ _ _ rfl R3.out ⟨qb, qo, none⟩ ql _ (intVs (natInts (undU ups g x))) rfl HNL.out HNW.out HONE.out hQn H63.out HBY.out hbs w3.heap.size rfl ?_; intro g1 cap1 u6 hown1 hgr1 hlie1 hg1))
        have HFL := Lib.hid (flat_snocU (f := undU ups g) HX.out)
        have HLEN := Lib.hid (show (i :: ((kidsL ups i g).take (k + 1)).flatMap (undU ups g)).length = Lk + ql by
          rw [← HQL.out, ← HLK.out, HFL.out, natInts_len, ← List.cons_append, List.length_append])
        have R6 := Lib.hid (show u6.ownsRow w.heap.size 3 1 (.slice (some ⟨g1, 0, none⟩) (Lk + ql) cap1) (i :: ((kidsL ups i g).take (k + 1)).flatMap (undU ups g)).length (intVs (natInts (i :: ((kidsL ups i g).take (k + 1)).flatMap (undU ups g)))) by
          rw [HLEN.out, HFL.out, ← List.cons_append, natInts_app, intVs_app]; exact hown1)
        have Y6 := Lib.hid (Y3.out.grown hgr1 hbs (fun j e => (R3.out.lt j e).1))
        have C6 := Lib.hid (CI3.out.apart hgr1 (fun a e e2 => by
          have h1 := HLS.out a.block e2
          have h2 := HCB.out a e
          omega))
        have hs6 := hgr1.size
        have L6 := Lib.hid (show ∀ r, (Value.slice (some ⟨g1, 0, none⟩) (Lk + ql) cap1).ownBlock = some r → r = w.heap.size ∨ w2.heap.size ≤ r from fun r e => by
          simp only [Value.ownBlock, Option.some.injEq] at e
          subst e
          rcases hlie1 with h1 | h1
          · exact HLS.out _ h1
          · exact .inr (by omega))
        clear hown1 hgr1 hlie1
        go_roundw
        case rel => exact ⟨k + 1, by omega, by go_num, R6.out, L6.out, Y6.out, by omega, C6.out⟩
        case measure => simp [intOf] <;> omega
      · obtain rfl : k = m := by omega
        have hka : ¬ ((k : Int) < (k : Int)) := by omega
        have HE := Lib.hid (show (kidsL ups i g).take k = kidsL ups i g from List.take_of_length_le (by rw [HM.out]; exact Nat.le_refl _))
        go_wp2
        go_ret
        refine ⟨_, rfl, ?_, HB.out⟩
        have h := HROW.out
        rw [← HLK.out, HE.out, ← undU_step HU.out (by rw [HL.out]; exact hn)] at h
        rwa [natInts_len]
end Go.Proofs.Ytbidgpeeogoglaa
