/-
  Package ring: Splice at any arena.
-/
import Derived.Test.YtbidgpeeogoglaaGd
import Derived.Test.YtbidgpeeogoglaaGa
namespace Go.Proofs.Ytbidgpeeogoglaa
set_option maxRecDepth 100000
open Go.RowKit

theorem IntsAt.keep' {w w' : World} {A : Option Addr} {xs : List Int} {g : Nat} (h : IntsAt w A xs) (hne : ∀ a, A = some a → a.block ≠ g) (hg : w.grownBy w' (some g)) : IntsAt w' A xs :=
  h.kept hg.size fun a e hlt => hg.block a.block hlt (fun k => hne a e (by simpa using k))
theorem spl1_writes (S : St) (a b f g i : Int) : S.writes ≤ (S.spl1 a b f g i).writes ∧ (S.spl1 a b f g i).writes ≤ S.writes + 1 := link_writes ..
theorem ne_true {a b : Int} (h : a ≠ b) : (a != b) = true := by simpa using h
theorem ne_false {a b : Int} (h : a = b) : (a != b) = false := by simpa using h
theorem eq_true' {a b : Int} (h : a = b) : (a == b) = true := by simpa using h
theorem eq_false' {a b : Int} (h : a ≠ b) : (a == b) = false := by simpa using h
set_option maxHeartbeats 8000000 in
theorem splice_any {S : St} (one two : Int) (g : Nat) (w : World) (h : IsAr w g S) (hw0 : 0 ≤ S.writes) (hw1 : S.writes < 900000000) :
    Calls Try.prog 54 #[.pointer (some ⟨g, 0, none⟩), .int .i64 one, .int .i64 two] w (RetA (S.splice one two).1 w g (S.splice one two).2) := by
  have H0 := Lib.hid (At.start h)
  have HW := Lib.hid (And.intro hw0 hw1)
  have hgl := h.lt
  have fl1 := field1
  clear h hw0 hw1
  have TH := Lib.hid rthere_any
  by_cases hbad : (one ≠ -1 ∧ inR one = false) ∨ (two ≠ -1 ∧ inR two = false)
  · rw [show S.splice one two = (.tuple #[.int .i64 0, errno 1], S) from if_pos hbad]
    have key : ((one != -1) = true ∧ inR one = false) ∨ ((one != -1) = false ∧ (two != -1) = true ∧ inR two = false) ∨ ((one != -1) = true ∧ inR one = true ∧ (two != -1) = true ∧ inR two = false) := by
      by_cases h1 : one = -1
      · rcases hbad with h | ⟨h2, h3⟩
        · exact absurd h1 h.1
        · exact .inr (.inl ⟨ne_false h1, ne_true h2, h3⟩)
      · rcases h4 : inR one with _ | _
        · exact .inl ⟨ne_true h1, rfl⟩
        · rcases hbad with h | ⟨h2, h3⟩
          · rw [h4] at h; exact absurd h.2 (by simp)
          · exact .inr (.inr ⟨ne_true h1, rfl, ne_true h2, h3⟩)
    clear hbad
    rcases key with ⟨k1, k2⟩ | ⟨k1, k2, k3⟩ | ⟨k1, k2, k3, k4⟩
    all_goals
      go_enter Try.func54, Try.ntmps54
      go_wp2_with (go_at_call 44; refine (TH.out _ _).mono ?_; rintro e w' ⟨rfl, rfl⟩)
      go_ret2
      exact ⟨rfl, H0.out⟩
  · have hO : one = -1 ∨ (one ≠ -1 ∧ inR one = true) := by
      by_cases h1 : one = -1
      · exact .inl h1
      · refine .inr ⟨h1, ?_⟩
        rcases h4 : inR one with _ | _
        · exact absurd (.inl ⟨h1, h4⟩) hbad
        · rfl
    have hT : two = -1 ∨ (two ≠ -1 ∧ inR two = true) := by
      by_cases h1 : two = -1
      · exact .inl h1
      · refine .inr ⟨h1, ?_⟩
        rcases h4 : inR two with _ | _
        · exact absurd (.inr ⟨h1, h4⟩) hbad
        · rfl
    by_cases h1 : one = -1
    · rw [show S.splice one two = (.tuple #[.int .i64 two, .nilIface], S) from by unfold St.splice; rw [if_neg hbad, if_pos h1]]
      have k1 := ne_false h1
      have k2 := eq_true' h1
      clear h1 hO hbad
      rcases hT with h2 | ⟨h2, k4⟩
      · have k3 := ne_false h2
        clear h2
        go_enter Try.func54, Try.ntmps54
        go_wp2_with (go_at_call 44; refine (TH.out _ _).mono ?_; rintro e w' ⟨rfl, rfl⟩)
        go_ret2
        exact ⟨rfl, H0.out⟩
      · have k3 := ne_true h2
        clear h2
        go_enter Try.func54, Try.ntmps54
        go_wp2_with (go_at_call 44; refine (TH.out _ _).mono ?_; rintro e w' ⟨rfl, rfl⟩)
        go_ret2
        exact ⟨rfl, H0.out⟩
    · have k1 := ne_true h1
      have k2 := eq_false' h1
      have k3 : inR one = true := (hO.resolve_left h1).2
      by_cases h2 : two = -1
      · rw [show S.splice one two = (.tuple #[.int .i64 one, .nilIface], S) from by unfold St.splice; rw [if_neg hbad, if_neg h1, if_pos h2]]
        have k4 := ne_false h2
        have k5 := eq_true' h2
        clear h1 h2 hO hT hbad
        go_enter Try.func54, Try.ntmps54
        go_wp2_with (go_at_call 44; refine (TH.out _ _).mono ?_; rintro e w' ⟨rfl, rfl⟩)
        go_ret2
        exact ⟨rfl, H0.out⟩
      · have k4 := ne_true h2
        have k5 := eq_false' h2
        have k6 : inR two = true := (hT.resolve_left h2).2
        by_cases h3 : one = two
        · rw [show S.splice one two = (.tuple #[.int .i64 0, errno 9], S) from by unfold St.splice; rw [if_neg hbad, if_neg h1, if_neg h2, if_pos h3]]
          have k7 := eq_true' h3
          clear h1 h2 h3 hO hT hbad
          go_enter Try.func54, Try.ntmps54
          go_wp2_with (go_at_call 44; refine (TH.out _ _).mono ?_; rintro e w' ⟨rfl, rfl⟩)
          go_ret2
          exact ⟨rfl, H0.out⟩
        · have hS : S.splice one two = if S.well one = false then (.tuple #[.int .i64 0, faultV 24 one], S) else if S.well two = false then (.tuple #[.int .i64 0, faultV 24 two], S) else (.tuple #[.int .i64 two, .nilIface], S.spl4 one two (S.lk one).2 (S.lk two).2) := by
            unfold St.splice; rw [if_neg hbad, if_neg h1, if_neg h2, if_neg h3]
          have HS := Lib.hid hS
          have k7 := eq_false' h3
          clear h1 h2 h3 hO hT hbad hS
          have I1 := Lib.hid (intsNew w [one, two] #[.int .i64 one, .int .i64 two] rfl)
          have A1 := Lib.hid (H0.out.read ((Below.refl w.heap.size w).alloc (Nat.le_refl _) (.cells #[.int .i64 one, .int .i64 two] 3)))
          go_enter Try.func54, Try.ntmps54
          go_wp2_with (go_at_call 44; refine (TH.out _ _).mono ?_; rintro e w' ⟨rfl, rfl⟩)
          go_loopw [50] (fun i wr => ∃ k : Nat, k ≤ 2 ∧ i = .int .i64 k ∧ At w g S wr ∧ IntsAt wr (some ⟨w.heap.size, 0, none⟩) [one, two] ∧ (0 < k → S.well one = true) ∧ (1 < k → S.well two = true)) (fun i _ => 2 - (intOf i).toNat)
          case atStart => exact ⟨0, by omega, rfl, A1.out, I1.out, fun h => absurd h (by omega), fun h => absurd h (by omega)⟩
          case round =>
            obtain ⟨k, hk, rfl, hat, hints, hwo, hwt⟩ := hrel
            have AT := Lib.hid hat
            have IT := Lib.hid hints
            have WO := Lib.hid hwo
            have WT := Lib.hid hwt
            by_cases hlt : k < 2
            · have hlt1 : (k : Int) < 2 := by omega
              obtain ⟨i, hi⟩ : ∃ i, [one, two][k]? = some i := ⟨_, List.getElem?_eq_getElem (by simpa using hlt)⟩
              obtain ⟨b, off, e0, hbl, hcs⟩ := hints (by simp)
              obtain ⟨rfl, rfl⟩ : w.heap.size = b ∧ 0 = off := by injection e0 with e0; injection e0 with e1 e2; exact ⟨e1, e2⟩
              have hcell := hcs k i hi
              simp only [Nat.zero_add] at hcell
              have hki : (k = 0 ∧ i = one) ∨ (k = 1 ∧ i = two) := by
                rcases (show k = 0 ∨ k = 1 by omega) with rfl | rfl
                · exact .inl ⟨rfl, by simpa using hi.symm⟩
                · exact .inr ⟨rfl, by simpa using hi.symm⟩
              have HKI := Lib.hid hki
              have HLT := Lib.hid hlt
              clear hcs hi hbl hki hlt hat hints hwo hwt e0 A1 I1
              go_wp2_with (go_at_call 46; fail)
              refine (well_at AT.out i).mono ?_
              rcases hwi : S.well i with _ | _
              · rintro e w1 ⟨rfl, hA1, _⟩
                have A2 := Lib.hid hA1
                have hspl : S.splice one two = (.tuple #[.int .i64 0, faultV 24 i], S) := by
                  rw [HS.out]
                  rcases HKI.out with ⟨_, rfl⟩ | ⟨hk1, rfl⟩
                  · rw [if_pos hwi]
                  · rw [if_neg (by rw [WO.out (by omega)]; simp), if_pos hwi]
                have HSP := Lib.hid hspl
                clear hA1 hspl hcell
                go_wp2
                go_ret2
                rw [HSP.out]
                exact ⟨rfl, A2.out⟩
              · rintro e w1 ⟨rfl, hA1, hb1⟩
                have A2 := Lib.hid hA1
                have I2 := Lib.hid (IT.out.below hb1 (Nat.le_refl _))
                have HWI := Lib.hid hwi
                clear hA1 hb1 hcell hwi
                go_wp2
                go_roundw
                case rel => exact ⟨k + 1, by have := HLT.out; omega, by go_num, A2.out, I2.out, fun _ => by
                  rcases HKI.out with ⟨_, h⟩ | ⟨h, _⟩
                  · rw [← h]; exact HWI.out
                  · exact WO.out (by omega), fun h2 => by
                  rcases HKI.out with ⟨h, _⟩ | ⟨_, h⟩
                  · omega
                  · rw [← h]; exact HWI.out⟩
                case measure => have := HLT.out; simp [intOf]; omega
            · obtain rfl : k = 2 := by omega
              obtain ⟨f, hf⟩ : ∃ f, (S.lk one).2 = f := ⟨_, rfl⟩
              obtain ⟨gg, hgg⟩ : ∃ gg, (S.lk two).2 = gg := ⟨_, rfl⟩
              have hspl : S.splice one two = (.tuple #[.int .i64 two, .nilIface], S.spl4 one two f gg) := by
                rw [HS.out, if_neg (by rw [hwo (by omega)]; simp), if_neg (by rw [hwt (by omega)]; simp), hf, hgg]
              have HSP := Lib.hid hspl
              obtain ⟨p1, hp1⟩ : ∃ p, S.lk one = (p, f) := ⟨(S.lk one).1, by rw [← hf]⟩
              obtain ⟨p2, hp2⟩ : ∃ p, S.lk two = (p, gg) := ⟨(S.lk two).1, by rw [← hgg]⟩
              have HP1 := Lib.hid hp1
              have HP2 := Lib.hid hp2
              clear hlt hat hints hwo hwt A1 I1 hspl hf hgg hp1 hp2 HS WO WT IT
              go_wp2_with (go_at_call 47; fail)
              refine (of_at AT.out one).mono ?_
              rintro e w2 ⟨rfl, hA2, _⟩
              rw [HP1.out]
              unfold lkV
              have A2 := Lib.hid hA2
              clear hA2
              go_wp2_with (go_at_call 47; fail)
              refine (of_at A2.out two).mono ?_
              rintro e w3 ⟨rfl, hA3, _⟩
              rw [HP2.out]
              unfold lkV
              have I3 := Lib.hid (intsNew w3 [one, two, f, gg] #[.int .i64 one, .int .i64 two, .int .i64 f, .int .i64 gg] rfl)
              have A3 := Lib.hid (hA3.read ((Below.refl w3.heap.size w3).alloc (Nat.le_refl _) (.cells #[.int .i64 one, .int .i64 two, .int .i64 f, .int .i64 gg] 3)))
              have hg3 : w3.heap.size ≠ g := fun e => by have := hA3.ar.lt; omega
              clear hA3 AT A2 HP1 HP2
              go_wp2
              go_loopw [76] (fun i wr => ∃ k : Nat, k ≤ 4 ∧ i = .int .i64 k ∧ At w g (([one, two, f, gg].take k).foldl (fun T j => T.spl1 one two f gg j) S) wr ∧ IntsAt wr (some ⟨w3.heap.size, 0, none⟩) [one, two, f, gg] ∧ S.writes ≤ (([one, two, f, gg].take k).foldl (fun T j => T.spl1 one two f gg j) S).writes ∧ (([one, two, f, gg].take k).foldl (fun T j => T.spl1 one two f gg j) S).writes ≤ S.writes + k) (fun i _ => 4 - (intOf i).toNat)
              case atStart => exact ⟨0, by omega, rfl, A3.out, I3.out, Int.le_refl _, by simp⟩
              case round =>
                obtain ⟨k, hk, rfl, hat, hints, hwl, hwh⟩ := hrel
                clear A3 I3
                by_cases hlt : k < 4
                · have hlt1 : (k : Int) < 4 := by omega
                  obtain ⟨i, hi⟩ : ∃ i, [one, two, f, gg][k]? = some i := ⟨_, List.getElem?_eq_getElem (by simpa using hlt)⟩
                  have htk : ([one, two, f, gg].take (k + 1)).foldl (fun T j => T.spl1 one two f gg j) S = (([one, two, f, gg].take k).foldl (fun T j => T.spl1 one two f gg j) S).spl1 one two f gg i := by
                    rw [List.take_add_one, hi, List.foldl_append]; rfl
                  obtain ⟨T, hT⟩ : ∃ T, ([one, two, f, gg].take k).foldl (fun T j => T.spl1 one two f gg j) S = T := ⟨_, rfl⟩
                  rw [hT] at hat hwl hwh htk
                  have HTK := Lib.hid htk
                  obtain ⟨b, off, e0, hbl, hcs⟩ := hints (by simp)
                  obtain ⟨rfl, rfl⟩ : w3.heap.size = b ∧ 0 = off := by injection e0 with e0; injection e0 with e1 e2; exact ⟨e1, e2⟩
                  have hcell := hcs k i hi
                  simp only [Nat.zero_add] at hcell
                  obtain ⟨p, n, hpn⟩ : ∃ p n, T.lk i = (p, n) := ⟨(T.lk i).1, (T.lk i).2, rfl⟩
                  obtain ⟨n', hn'⟩ : ∃ n', (if i = one then gg else if i = two then f else n) = n' := ⟨_, rfl⟩
                  obtain ⟨p', hp'⟩ : ∃ p', (if i = gg then one else if i = f then two else p) = p' := ⟨_, rfl⟩
                  have hspl : T.spl1 one two f gg i = T.link i p' n' := by
                    unfold St.spl1; rw [hpn, hn', hp']
                  have hN : ((i == one) = true ∧ gg = n') ∨ ((i == one) = false ∧ (i == two) = true ∧ f = n') ∨ ((i == one) = false ∧ (i == two) = false ∧ n = n') := by
                    by_cases e1 : i = one
                    · exact .inl ⟨eq_true' e1, by rw [← hn', if_pos e1]⟩
                    · by_cases e2 : i = two
                      · exact .inr (.inl ⟨eq_false' e1, eq_true' e2, by rw [← hn', if_neg e1, if_pos e2]⟩)
                      · exact .inr (.inr ⟨eq_false' e1, eq_false' e2, by rw [← hn', if_neg e1, if_neg e2]⟩)
                  have hP : ((i == gg) = true ∧ one = p') ∨ ((i == gg) = false ∧ (i == f) = true ∧ two = p') ∨ ((i == gg) = false ∧ (i == f) = false ∧ p = p') := by
                    by_cases e1 : i = gg
                    · exact .inl ⟨eq_true' e1, by rw [← hp', if_pos e1]⟩
                    · by_cases e2 : i = f
                      · exact .inr (.inl ⟨eq_false' e1, eq_true' e2, by rw [← hp', if_neg e1, if_pos e2]⟩)
                      · exact .inr (.inr ⟨eq_false' e1, eq_false' e2, by rw [← hp', if_neg e1, if_neg e2]⟩)
                  have HSPL := Lib.hid hspl
                  have HPN := Lib.hid hpn
                  have HAT := Lib.hid hat
                  have HIT := Lib.hid hints
                  have HLT := Lib.hid hlt
                  have HWK := Lib.hid (And.intro hwl hwh)
                  have HSET := Lib.hid (fun (Wc : World) (hbc : Below wr.heap.size wr Wc) => show Calls Try.prog 45 #[.pointer (some ⟨g, 0, none⟩), .int .i64 i, .agg #[.int .i64 p', .int .i64 n']] Wc (fun e W' => e = .returned (.tuple #[]) ∧ At w g (T.spl1 one two f gg i) W' ∧ IntsAt W' (some ⟨w3.heap.size, 0, none⟩) [one, two, f, gg]) from by
                    have ha := HAT.out.read hbc
                    refine (set_any i p' n' g Wc ha.ar (by have := HW.out.1; have := HWK.out.1; omega) (by have := HW.out.2; have := HWK.out.2; omega)).mono ?_
                    rintro e W' ⟨h1, h2, h3⟩
                    refine ⟨h1, ?_, (HIT.out.below hbc (Nat.le_refl _)).keep' (fun a e => by cases e; exact hg3) h3⟩
                    rw [HSPL.out]
                    exact ha.turn h2 h3)
                  clear hcs hi hbl hlt hat hints hwl hwh htk hT hpn hn' hp' hspl e0
                  go_wp2_with (go_at_call 47; fail)
                  refine (of_at HAT.out i).mono ?_
                  rw [HPN.out]
                  rintro e w4 ⟨rfl, _, hb4⟩
                  unfold lkV
                  have HUL := Lib.hid Try.underlying82
                  have HB4 := Lib.hid hb4
                  clear hb4
                  have ST := Lib.hid (links_one p n)
                  rcases hN with ⟨n1, rfl⟩ | ⟨n1, n2, rfl⟩ | ⟨n1, n2, rfl⟩
                  · rcases hP with ⟨q1, rfl⟩ | ⟨q1, q2, rfl⟩ | ⟨q1, q2, rfl⟩
                    · have HRX := Lib.hid (Blk.new w4 82 #[.int .i64 one, .int .i64 gg]).row
                      have HBX := Lib.hid (HB4.out.alloc HB4.out.size (.cells #[.int .i64 one, .int .i64 gg] 82))
                      clear HB4
                      go_wp2_with (first
                        | (refine wpList_store_new (ty := 82) rfl rfl rfl rfl rfl ST.out linksInfo ?_)
                        | (refine wpList_load_at (ty := 82) rfl rfl rfl HRX.out HUL.out rfl linksInfo ?_)
                        | (go_at_call 45; fail))
                      refine (HSET.out _ HBX.out).mono ?_
                      rintro e w5 ⟨rfl, hA5, hI5⟩
                      have A5 := Lib.hid hA5
                      have I5 := Lib.hid hI5
                      clear hA5 hI5
                      go_wp2
                      go_roundw
                      case rel => exact ⟨k + 1, by have := HLT.out; omega, by go_num, by rw [HTK.out]; exact A5.out, I5.out, by rw [HTK.out]; have := (spl1_writes T one two f gg i).1; have := HWK.out.1; omega, by rw [HTK.out]; have := (spl1_writes T one two f gg i).2; have := HWK.out.2; simp; omega⟩
                      case measure => have := HLT.out; simp [intOf]; omega
                    · have HRX := Lib.hid (Blk.new w4 82 #[.int .i64 two, .int .i64 gg]).row
                      have HBX := Lib.hid (HB4.out.alloc HB4.out.size (.cells #[.int .i64 two, .int .i64 gg] 82))
                      clear HB4
                      go_wp2_with (first
                        | (refine wpList_store_new (ty := 82) rfl rfl rfl rfl rfl ST.out linksInfo ?_)
                        | (refine wpList_load_at (ty := 82) rfl rfl rfl HRX.out HUL.out rfl linksInfo ?_)
                        | (go_at_call 45; fail))
                      refine (HSET.out _ HBX.out).mono ?_
                      rintro e w5 ⟨rfl, hA5, hI5⟩
                      have A5 := Lib.hid hA5
                      have I5 := Lib.hid hI5
                      clear hA5 hI5
                      go_wp2
                      go_roundw
                      case rel => exact ⟨k + 1, by have := HLT.out; omega, by go_num, by rw [HTK.out]; exact A5.out, I5.out, by rw [HTK.out]; have := (spl1_writes T one two f gg i).1; have := HWK.out.1; omega, by rw [HTK.out]; have := (spl1_writes T one two f gg i).2; have := HWK.out.2; simp; omega⟩
                      case measure => have := HLT.out; simp [intOf]; omega
                    · have HRX := Lib.hid (Blk.new w4 82 #[.int .i64 p, .int .i64 gg]).row
                      have HBX := Lib.hid (HB4.out.alloc HB4.out.size (.cells #[.int .i64 p, .int .i64 gg] 82))
                      clear HB4
                      go_wp2_with (first
                        | (refine wpList_store_new (ty := 82) rfl rfl rfl rfl rfl ST.out linksInfo ?_)
                        | (refine wpList_load_at (ty := 82) rfl rfl rfl HRX.out HUL.out rfl linksInfo ?_)
                        | (go_at_call 45; fail))
                      refine (HSET.out _ HBX.out).mono ?_
                      rintro e w5 ⟨rfl, hA5, hI5⟩
                      have A5 := Lib.hid hA5
                      have I5 := Lib.hid hI5
                      clear hA5 hI5
                      go_wp2
                      go_roundw
                      case rel => exact ⟨k + 1, by have := HLT.out; omega, by go_num, by rw [HTK.out]; exact A5.out, I5.out, by rw [HTK.out]; have := (spl1_writes T one two f gg i).1; have := HWK.out.1; omega, by rw [HTK.out]; have := (spl1_writes T one two f gg i).2; have := HWK.out.2; simp; omega⟩
                      case measure => have := HLT.out; simp [intOf]; omega
                  · rcases hP with ⟨q1, rfl⟩ | ⟨q1, q2, rfl⟩ | ⟨q1, q2, rfl⟩
                    · have HRX := Lib.hid (Blk.new w4 82 #[.int .i64 one, .int .i64 f]).row
                      have HBX := Lib.hid (HB4.out.alloc HB4.out.size (.cells #[.int .i64 one, .int .i64 f] 82))
                      clear HB4
                      go_wp2_with (first
                        | (refine wpList_store_new (ty := 82) rfl rfl rfl rfl rfl ST.out linksInfo ?_)
                        | (refine wpList_load_at (ty := 82) rfl rfl rfl HRX.out HUL.out rfl linksInfo ?_)
                        | (go_at_call 45; fail))
                      refine (HSET.out _ HBX.out).mono ?_
                      rintro e w5 ⟨rfl, hA5, hI5⟩
                      have A5 := Lib.hid hA5
                      have I5 := Lib.hid hI5
                      clear hA5 hI5
                      go_wp2
                      go_roundw
                      case rel => exact ⟨k + 1, by have := HLT.out; omega, by go_num, by rw [HTK.out]; exact A5.out, I5.out, by rw [HTK.out]; have := (spl1_writes T one two f gg i).1; have := HWK.out.1; omega, by rw [HTK.out]; have := (spl1_writes T one two f gg i).2; have := HWK.out.2; simp; omega⟩
                      case measure => have := HLT.out; simp [intOf]; omega
                    · have HRX := Lib.hid (Blk.new w4 82 #[.int .i64 two, .int .i64 f]).row
                      have HBX := Lib.hid (HB4.out.alloc HB4.out.size (.cells #[.int .i64 two, .int .i64 f] 82))
                      clear HB4
                      go_wp2_with (first
                        | (refine wpList_store_new (ty := 82) rfl rfl rfl rfl rfl ST.out linksInfo ?_)
                        | (refine wpList_load_at (ty := 82) rfl rfl rfl HRX.out HUL.out rfl linksInfo ?_)
                        | (go_at_call 45; fail))
                      refine (HSET.out _ HBX.out).mono ?_
                      rintro e w5 ⟨rfl, hA5, hI5⟩
                      have A5 := Lib.hid hA5
                      have I5 := Lib.hid hI5
                      clear hA5 hI5
                      go_wp2
                      go_roundw
                      case rel => exact ⟨k + 1, by have := HLT.out; omega, by go_num, by rw [HTK.out]; exact A5.out, I5.out, by rw [HTK.out]; have := (spl1_writes T one two f gg i).1; have := HWK.out.1; omega, by rw [HTK.out]; have := (spl1_writes T one two f gg i).2; have := HWK.out.2; simp; omega⟩
                      case measure => have := HLT.out; simp [intOf]; omega
                    · have HRX := Lib.hid (Blk.new w4 82 #[.int .i64 p, .int .i64 f]).row
                      have HBX := Lib.hid (HB4.out.alloc HB4.out.size (.cells #[.int .i64 p, .int .i64 f] 82))
                      clear HB4
                      go_wp2_with (first
                        | (refine wpList_store_new (ty := 82) rfl rfl rfl rfl rfl ST.out linksInfo ?_)
                        | (refine wpList_load_at (ty := 82) rfl rfl rfl HRX.out HUL.out rfl linksInfo ?_)
                        | (go_at_call 45; fail))
                      refine (HSET.out _ HBX.out).mono ?_
                      rintro e w5 ⟨rfl, hA5, hI5⟩
                      have A5 := Lib.hid hA5
                      have I5 := Lib.hid hI5
                      clear hA5 hI5
                      go_wp2
                      go_roundw
                      case rel => exact ⟨k + 1, by have := HLT.out; omega, by go_num, by rw [HTK.out]; exact A5.out, I5.out, by rw [HTK.out]; have := (spl1_writes T one two f gg i).1; have := HWK.out.1; omega, by rw [HTK.out]; have := (spl1_writes T one two f gg i).2; have := HWK.out.2; simp; omega⟩
                      case measure => have := HLT.out; simp [intOf]; omega
                  · rcases hP with ⟨q1, rfl⟩ | ⟨q1, q2, rfl⟩ | ⟨q1, q2, rfl⟩
                    · have HRX := Lib.hid (Blk.new w4 82 #[.int .i64 one, .int .i64 n]).row
                      have HBX := Lib.hid (HB4.out.alloc HB4.out.size (.cells #[.int .i64 one, .int .i64 n] 82))
                      clear HB4
                      go_wp2_with (first
                        | (refine wpList_store_new (ty := 82) rfl rfl rfl rfl rfl ST.out linksInfo ?_)
                        | (refine wpList_load_at (ty := 82) rfl rfl rfl HRX.out HUL.out rfl linksInfo ?_)
                        | (go_at_call 45; fail))
                      refine (HSET.out _ HBX.out).mono ?_
                      rintro e w5 ⟨rfl, hA5, hI5⟩
                      have A5 := Lib.hid hA5
                      have I5 := Lib.hid hI5
                      clear hA5 hI5
                      go_wp2
                      go_roundw
                      case rel => exact ⟨k + 1, by have := HLT.out; omega, by go_num, by rw [HTK.out]; exact A5.out, I5.out, by rw [HTK.out]; have := (spl1_writes T one two f gg i).1; have := HWK.out.1; omega, by rw [HTK.out]; have := (spl1_writes T one two f gg i).2; have := HWK.out.2; simp; omega⟩
                      case measure => have := HLT.out; simp [intOf]; omega
                    · have HRX := Lib.hid (Blk.new w4 82 #[.int .i64 two, .int .i64 n]).row
                      have HBX := Lib.hid (HB4.out.alloc HB4.out.size (.cells #[.int .i64 two, .int .i64 n] 82))
                      clear HB4
                      go_wp2_with (first
                        | (refine wpList_store_new (ty := 82) rfl rfl rfl rfl rfl ST.out linksInfo ?_)
                        | (refine wpList_load_at (ty := 82) rfl rfl rfl HRX.out HUL.out rfl linksInfo ?_)
                        | (go_at_call 45; fail))
                      refine (HSET.out _ HBX.out).mono ?_
                      rintro e w5 ⟨rfl, hA5, hI5⟩
                      have A5 := Lib.hid hA5
                      have I5 := Lib.hid hI5
                      clear hA5 hI5
                      go_wp2
                      go_roundw
                      case rel => exact ⟨k + 1, by have := HLT.out; omega, by go_num, by rw [HTK.out]; exact A5.out, I5.out, by rw [HTK.out]; have := (spl1_writes T one two f gg i).1; have := HWK.out.1; omega, by rw [HTK.out]; have := (spl1_writes T one two f gg i).2; have := HWK.out.2; simp; omega⟩
                      case measure => have := HLT.out; simp [intOf]; omega
                    · have HRX := Lib.hid (Blk.new w4 82 #[.int .i64 p, .int .i64 n]).row
                      have HBX := Lib.hid (HB4.out.alloc HB4.out.size (.cells #[.int .i64 p, .int .i64 n] 82))
                      clear HB4
                      go_wp2_with (first
                        | (refine wpList_store_new (ty := 82) rfl rfl rfl rfl rfl ST.out linksInfo ?_)
                        | (refine wpList_load_at (ty := 82) rfl rfl rfl HRX.out HUL.out rfl linksInfo ?_)
                        | (go_at_call 45; fail))
                      refine (HSET.out _ HBX.out).mono ?_
                      rintro e w5 ⟨rfl, hA5, hI5⟩
                      have A5 := Lib.hid hA5
                      have I5 := Lib.hid hI5
                      clear hA5 hI5
                      go_wp2
                      go_roundw
                      case rel => exact ⟨k + 1, by have := HLT.out; omega, by go_num, by rw [HTK.out]; exact A5.out, I5.out, by rw [HTK.out]; have := (spl1_writes T one two f gg i).1; have := HWK.out.1; omega, by rw [HTK.out]; have := (spl1_writes T one two f gg i).2; have := HWK.out.2; simp; omega⟩
                      case measure => have := HLT.out; simp [intOf]; omega
                · obtain rfl : k = 4 := by omega
                  have A5 := Lib.hid hat
                  clear hat hints hwl hwh hlt
                  go_wp2
                  go_ret2
                  rw [HSP.out]
                  exact ⟨rfl, A5.out⟩
end Go.Proofs.Ytbidgpeeogoglaa
