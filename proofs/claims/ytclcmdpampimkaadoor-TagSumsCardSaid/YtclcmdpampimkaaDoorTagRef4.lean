/-
  Package lineageref07: Sum, of any bytes.
-/
import Derived.Test.YtclcmdpampimkaaDoorTagRef2
namespace Go.Proofs.YtclcmdpampimkaaDoor
set_option maxRecDepth 100000
open Go.RowKit

set_option maxHeartbeats 1000000 in
theorem rsum_bare (key : ByteArray) (hk : key.size = 16) (ad : Addr) (n cap : Nat) (l : List UInt8) (hl : l.length = n) (hn0 : n = 0) (hnc : n ≤ cap) (hn : n ≤ 1099511627776) (hcap : cap ≤ 9223372036854775807) (w : World) :
    Calls Tryd.prog 10 #[.string key, .slice (some ad) n cap] w (RetB (.int .u64 (wd (sipSum (keySt key.data.toList) l))) w) := by
  have hcv := Lib.run_convert_string_bytes (P := Tryd.prog) w 9 22 5 key Tryd.underlying9 Tryd.underlying22 Tryd.underlying5
  rw [hk] at hcv
  have h16 := grownCap_ge w 16 0 5
  obtain ⟨c, hc⟩ : ∃ c, grownCap w 16 0 5 = c := ⟨_, rfl⟩
  rw [hc] at hcv h16
  have bel := bel_conv w 5 key
  have hbk : BytesAt (Lib.bytesWorld w 5 key) (some ⟨w.heap.size, 0, none⟩) key.data.toList := bytes_conv_at rfl
  obtain ⟨v, hv⟩ : ∃ v, Lib.bytesWorld w 5 key = v := ⟨_, rfl⟩
  rw [hv] at hcv bel hbk
  have hc8 : ¬ c = 8 := by omega
  have hc8' : (8 : Int) ≤ (c : Int) := by omega
  have hkl : key.data.toList.length = 16 := by simp [hk]
  have BEL := Lib.hid bel
  have HBK := Lib.hid hbk
  have HL := Lib.hid hl
  have HN := Lib.hid hn
  have HN0 := Lib.hid hn0
  clear hn0
  have HNC := Lib.hid hnc
  have HCAP := Lib.hid hcap
  have HKL := Lib.hid hkl
  obtain ⟨K, hK⟩ : ∃ K, key.data.toList = K := ⟨_, rfl⟩
  rw [hK] at HBK HKL ⊢
  clear bel hbk hl hn hnc hcap hkl hv h16 hc hK
  go_enter Tryd.func10, Tryd.ntmps10
  go_wp2_with (first | (go_at_call 22; fail))
  refine (rlow_any _ 8 _ (K.take 8) (by rw [List.length_take, HKL.out]; rfl) (by decide) v (HBK.out.take 8)).mono ?_
  rintro e w' ⟨rfl, rfl⟩
  go_wp2_with (first | (go_at_call 22; fail))
  refine (rlow_any _ 8 _ (K.drop 8) (by rw [List.length_drop, HKL.out]) (by decide) v (HBK.out.drop 8)).mono ?_
  rintro e w' ⟨rfl, rfl⟩
  go_wp2
  obtain ⟨K0, hK0⟩ : ∃ K0, keySt K = K0 := ⟨_, rfl⟩
  have a0 : K0.a = lowW (K.take 8) ^^^ 8317987319222330741#64 := by rw [← hK0]; rfl
  have a1 : K0.b = lowW (K.drop 8) ^^^ 7237128888997146477#64 := by rw [← hK0]; rfl
  have a2 : K0.c = lowW (K.take 8) ^^^ 7816392313619706465#64 := by rw [← hK0]; rfl
  have a3 : K0.d = lowW (K.drop 8) ^^^ 8387220255154660723#64 := by rw [← hK0]; rfl
  have hR : sumF (n + 1) (lenW n) K0 l = sipSum K0 l := by unfold sipSum; rw [HL.out]
  obtain ⟨R, hRR⟩ : ∃ R, sipSum K0 l = R := ⟨_, rfl⟩
  have HRR : Hid (sipSum (keySt K) l = R) := Lib.hid (by rw [hK0, hRR])
  rw [hRR] at hR
  have HR := Lib.hid hR
  have HA0 := Lib.hid a0
  have HA1 := Lib.hid a1
  have HA2 := Lib.hid a2
  have HA3 := Lib.hid a3
  clear a0 a1 a2 a3 hK0 hR hRR hcv hc8 hc8' HBK HKL
  go_loopw [8, 9, 10, 11, 12] (RSumRel v n (lenW n) R l) (fun _ _ _ _ i _ => n + 8 - (intOf i).toNat)
  case atStart => exact ⟨⟨K0, 0, by rw [HA0.out], by rw [HA1.out], by rw [HA2.out], by rw [HA3.out], rfl, .inl ⟨Nat.zero_le _, n + 1, by omega, HR.out⟩, rfl⟩⟩
  case round =>
    clear HA0 HA1 HA2 HA3 HR
    obtain ⟨⟨s, k, rfl, rfl, rfl, rfl, rfl, hor, rfl⟩⟩ := hrel
    by_cases hkn : k ≤ n
    · have hkn' : (k : Int) ≤ (n : Int) := by omega
      have HF : Hid (∃ f, n - k < f ∧ sumF f (lenW n) s (l.drop k) = R) := Lib.hid (by rcases hor with h | h; exact h.2; omega)
      clear hor
      have hw8 : IntKind.i64.wrap ((k : Int) + 8) = (k : Int) + 8 := IntWalk.i64_in _ (by have := HN.out; omega)
      by_cases h8 : k + 8 ≤ n
      · exact absurd h8 (by have := HN0.out; omega)
      · have h8' : ¬ (k : Int) + 8 ≤ (n : Int) := by omega
        have hkc : (k : Int) ≤ (cap : Int) := by have := HNC.out; omega
        have hnk : n - k ≤ 8 := by omega
        have HLD : Hid ((l.drop k).length = n - k) := Lib.hid (by rw [List.length_drop, HL.out])
        have hlen := top_byte n HN.out
        by_cases hck : cap = k
        · subst hck
          go_wp2_with (first | (go_at_call 22; fail))
          refine (rlow_any _ (n - cap) _ (l.drop cap) HLD.out hnk v (by rw [List.drop_of_length_le (by rw [HL.out]; have := HN0.out; omega)]; exact BytesAt.nil _ _)).mono ?_
          rintro e w' ⟨rfl, rfl⟩
          go_wp2_with (first | (go_at_call 23; fail))
          clear hlen
          obtain ⟨M, hM⟩ : ∃ M, lowW (l.drop cap) ||| lenW n = M := ⟨_, rfl⟩
          rw [hM]
          have HM := Lib.hid hM
          clear hM
          refine (rround_any { s with d := s.d ^^^ M } v).mono ?_
          rintro e w' ⟨rfl, rfl⟩
          obtain ⟨s1, hs1⟩ : ∃ s1, rnd { s with d := s.d ^^^ M } = s1 := ⟨_, rfl⟩
          rw [hs1]
          have HS1 := Lib.hid hs1
          clear hs1
          unfold stV
          go_wp2_with (first | (go_at_call 23; fail))
          refine (rround_any s1 v).mono ?_
          rintro e w' ⟨rfl, rfl⟩
          unfold stV
          go_wp2
          go_roundw
          case rel =>
            obtain ⟨f, hf, hsum⟩ := HF.out
            obtain ⟨f', hf'⟩ : ∃ f', f = f' + 1 := ⟨f - 1, by omega⟩
            refine ⟨⟨wordS s M, cap + 8, ?_, ?_, ?_, ?_, by go_num, .inr ⟨by omega, by omega, ?_⟩, rfl⟩⟩
            · rw [← HS1.out]; rfl
            · rw [← HS1.out]; rfl
            · rw [← HS1.out]; rfl
            · rw [← HS1.out]; rfl
            · rw [hf', sumF, if_neg (by rw [HLD.out]; omega), HM.out] at hsum
              exact hsum
          case measure => simp [intOf]; omega
        · skip
          go_wp2_with (first | (go_at_call 22; fail))
          refine (rlow_any _ (n - k) _ (l.drop k) HLD.out hnk v (by rw [List.drop_of_length_le (by rw [HL.out]; have := HN0.out; omega)]; exact BytesAt.nil _ _)).mono ?_
          rintro e w' ⟨rfl, rfl⟩
          go_wp2_with (first | (go_at_call 23; fail))
          clear hlen
          obtain ⟨M, hM⟩ : ∃ M, lowW (l.drop k) ||| lenW n = M := ⟨_, rfl⟩
          rw [hM]
          have HM := Lib.hid hM
          clear hM
          refine (rround_any { s with d := s.d ^^^ M } v).mono ?_
          rintro e w' ⟨rfl, rfl⟩
          obtain ⟨s1, hs1⟩ : ∃ s1, rnd { s with d := s.d ^^^ M } = s1 := ⟨_, rfl⟩
          rw [hs1]
          have HS1 := Lib.hid hs1
          clear hs1
          unfold stV
          go_wp2_with (first | (go_at_call 23; fail))
          refine (rround_any s1 v).mono ?_
          rintro e w' ⟨rfl, rfl⟩
          unfold stV
          go_wp2
          go_roundw
          case rel =>
            obtain ⟨f, hf, hsum⟩ := HF.out
            obtain ⟨f', hf'⟩ : ∃ f', f = f' + 1 := ⟨f - 1, by omega⟩
            refine ⟨⟨wordS s M, k + 8, ?_, ?_, ?_, ?_, by go_num, .inr ⟨by omega, by omega, ?_⟩, rfl⟩⟩
            · rw [← HS1.out]; rfl
            · rw [← HS1.out]; rfl
            · rw [← HS1.out]; rfl
            · rw [← HS1.out]; rfl
            · rw [hf', sumF, if_neg (by rw [HLD.out]; omega), HM.out] at hsum
              exact hsum
          case measure => simp [intOf]; omega
    · have hkn' : ¬ (k : Int) ≤ (n : Int) := by omega
      have HF : Hid (finS s = R) := Lib.hid (by rcases hor with h | h; omega; exact h.2.2)
      clear hor
      obtain ⟨s0, hs0⟩ : ∃ s0 : St, { s with c := s.c ^^^ 255#64 } = s0 := ⟨_, rfl⟩
      have HS0 := Lib.hid hs0
      clear hs0
      go_wp2
      go_loopw [8, 9, 10, 11, 14] (RFinRel v s0) (fun _ _ _ _ i _ => 4 - (intOf i).toNat)
      case atStart => exact ⟨⟨s0, 0, by omega, rfl, by rw [← HS0.out], by rw [← HS0.out], by rw [← HS0.out], by rw [← HS0.out], rfl, rfl⟩⟩
      case round =>
        obtain ⟨⟨t, j, hj, hst, rfl, rfl, rfl, rfl, rfl, rfl⟩⟩ := hrel
        have HT := Lib.hid hst
        clear hst
        by_cases hj4 : j < 4
        · have hj4' : (j : Int) < 4 := by omega
          go_wp2_with (first | (go_at_call 23; fail))
          refine (rround_any t v).mono ?_
          rintro e w' ⟨rfl, rfl⟩
          obtain ⟨t1, ht1⟩ : ∃ t1, rnd t = t1 := ⟨_, rfl⟩
          rw [ht1]
          have HT1 := Lib.hid ht1
          clear ht1
          unfold stV
          go_wp2
          go_roundw
          case rel => exact ⟨⟨t1, j + 1, by omega, by rw [← HT1.out, HT.out]; rfl, rfl, rfl, rfl, rfl, by go_num, rfl⟩⟩
          case measure => simp [intOf]; omega
        · obtain rfl : j = 4 := by omega
          go_wp2
          go_ret
          refine ⟨?_, BEL.out⟩
          rw [HRR.out, ← HF.out, HT.out, ← HS0.out]
          rfl
set_option maxHeartbeats 1000000 in
theorem rsum_nil (key : ByteArray) (hk : key.size = 16) (n cap : Nat) (l : List UInt8) (hl : l.length = n) (hn0 : n = 0) (hnc : n ≤ cap) (hn : n ≤ 1099511627776) (hcap : cap ≤ 9223372036854775807) (w : World) :
    Calls Tryd.prog 10 #[.string key, .slice none n cap] w (RetB (.int .u64 (wd (sipSum (keySt key.data.toList) l))) w) := by
  have hcv := Lib.run_convert_string_bytes (P := Tryd.prog) w 9 22 5 key Tryd.underlying9 Tryd.underlying22 Tryd.underlying5
  rw [hk] at hcv
  have h16 := grownCap_ge w 16 0 5
  obtain ⟨c, hc⟩ : ∃ c, grownCap w 16 0 5 = c := ⟨_, rfl⟩
  rw [hc] at hcv h16
  have bel := bel_conv w 5 key
  have hbk : BytesAt (Lib.bytesWorld w 5 key) (some ⟨w.heap.size, 0, none⟩) key.data.toList := bytes_conv_at rfl
  obtain ⟨v, hv⟩ : ∃ v, Lib.bytesWorld w 5 key = v := ⟨_, rfl⟩
  rw [hv] at hcv bel hbk
  have hc8 : ¬ c = 8 := by omega
  have hc8' : (8 : Int) ≤ (c : Int) := by omega
  have hkl : key.data.toList.length = 16 := by simp [hk]
  have BEL := Lib.hid bel
  have HBK := Lib.hid hbk
  have HL := Lib.hid hl
  have HN := Lib.hid hn
  have HN0 := Lib.hid hn0
  clear hn0
  have HNC := Lib.hid hnc
  have HCAP := Lib.hid hcap
  have HKL := Lib.hid hkl
  obtain ⟨K, hK⟩ : ∃ K, key.data.toList = K := ⟨_, rfl⟩
  rw [hK] at HBK HKL ⊢
  clear bel hbk hl hn hnc hcap hkl hv h16 hc hK
  go_enter Tryd.func10, Tryd.ntmps10
  go_wp2_with (first | (go_at_call 22; fail))
  refine (rlow_any _ 8 _ (K.take 8) (by rw [List.length_take, HKL.out]; rfl) (by decide) v (HBK.out.take 8)).mono ?_
  rintro e w' ⟨rfl, rfl⟩
  go_wp2_with (first | (go_at_call 22; fail))
  refine (rlow_any _ 8 _ (K.drop 8) (by rw [List.length_drop, HKL.out]) (by decide) v (HBK.out.drop 8)).mono ?_
  rintro e w' ⟨rfl, rfl⟩
  go_wp2
  obtain ⟨K0, hK0⟩ : ∃ K0, keySt K = K0 := ⟨_, rfl⟩
  have a0 : K0.a = lowW (K.take 8) ^^^ 8317987319222330741#64 := by rw [← hK0]; rfl
  have a1 : K0.b = lowW (K.drop 8) ^^^ 7237128888997146477#64 := by rw [← hK0]; rfl
  have a2 : K0.c = lowW (K.take 8) ^^^ 7816392313619706465#64 := by rw [← hK0]; rfl
  have a3 : K0.d = lowW (K.drop 8) ^^^ 8387220255154660723#64 := by rw [← hK0]; rfl
  have hR : sumF (n + 1) (lenW n) K0 l = sipSum K0 l := by unfold sipSum; rw [HL.out]
  obtain ⟨R, hRR⟩ : ∃ R, sipSum K0 l = R := ⟨_, rfl⟩
  have HRR : Hid (sipSum (keySt K) l = R) := Lib.hid (by rw [hK0, hRR])
  rw [hRR] at hR
  have HR := Lib.hid hR
  have HA0 := Lib.hid a0
  have HA1 := Lib.hid a1
  have HA2 := Lib.hid a2
  have HA3 := Lib.hid a3
  clear a0 a1 a2 a3 hK0 hR hRR hcv hc8 hc8' HBK HKL
  go_loopw [8, 9, 10, 11, 12] (RSumRel v n (lenW n) R l) (fun _ _ _ _ i _ => n + 8 - (intOf i).toNat)
  case atStart => exact ⟨⟨K0, 0, by rw [HA0.out], by rw [HA1.out], by rw [HA2.out], by rw [HA3.out], rfl, .inl ⟨Nat.zero_le _, n + 1, by omega, HR.out⟩, rfl⟩⟩
  case round =>
    clear HA0 HA1 HA2 HA3 HR
    obtain ⟨⟨s, k, rfl, rfl, rfl, rfl, rfl, hor, rfl⟩⟩ := hrel
    by_cases hkn : k ≤ n
    · have hkn' : (k : Int) ≤ (n : Int) := by omega
      have HF : Hid (∃ f, n - k < f ∧ sumF f (lenW n) s (l.drop k) = R) := Lib.hid (by rcases hor with h | h; exact h.2; omega)
      clear hor
      have hw8 : IntKind.i64.wrap ((k : Int) + 8) = (k : Int) + 8 := IntWalk.i64_in _ (by have := HN.out; omega)
      by_cases h8 : k + 8 ≤ n
      · exact absurd h8 (by have := HN0.out; omega)
      · have h8' : ¬ (k : Int) + 8 ≤ (n : Int) := by omega
        have hkc : (k : Int) ≤ (cap : Int) := by have := HNC.out; omega
        have hnk : n - k ≤ 8 := by omega
        have HLD : Hid ((l.drop k).length = n - k) := Lib.hid (by rw [List.length_drop, HL.out])
        have hlen := top_byte n HN.out
        by_cases hck : cap = k
        · subst hck
          go_wp2_with (first | (go_at_call 22; fail))
          refine (rlow_any _ (n - cap) _ (l.drop cap) HLD.out hnk v (by rw [List.drop_of_length_le (by rw [HL.out]; have := HN0.out; omega)]; exact BytesAt.nil _ _)).mono ?_
          rintro e w' ⟨rfl, rfl⟩
          go_wp2_with (first | (go_at_call 23; fail))
          clear hlen
          obtain ⟨M, hM⟩ : ∃ M, lowW (l.drop cap) ||| lenW n = M := ⟨_, rfl⟩
          rw [hM]
          have HM := Lib.hid hM
          clear hM
          refine (rround_any { s with d := s.d ^^^ M } v).mono ?_
          rintro e w' ⟨rfl, rfl⟩
          obtain ⟨s1, hs1⟩ : ∃ s1, rnd { s with d := s.d ^^^ M } = s1 := ⟨_, rfl⟩
          rw [hs1]
          have HS1 := Lib.hid hs1
          clear hs1
          unfold stV
          go_wp2_with (first | (go_at_call 23; fail))
          refine (rround_any s1 v).mono ?_
          rintro e w' ⟨rfl, rfl⟩
          unfold stV
          go_wp2
          go_roundw
          case rel =>
            obtain ⟨f, hf, hsum⟩ := HF.out
            obtain ⟨f', hf'⟩ : ∃ f', f = f' + 1 := ⟨f - 1, by omega⟩
            refine ⟨⟨wordS s M, cap + 8, ?_, ?_, ?_, ?_, by go_num, .inr ⟨by omega, by omega, ?_⟩, rfl⟩⟩
            · rw [← HS1.out]; rfl
            · rw [← HS1.out]; rfl
            · rw [← HS1.out]; rfl
            · rw [← HS1.out]; rfl
            · rw [hf', sumF, if_neg (by rw [HLD.out]; omega), HM.out] at hsum
              exact hsum
          case measure => simp [intOf]; omega
        · skip
          go_wp2_with (first | (go_at_call 22; fail))
          refine (rlow_any _ (n - k) _ (l.drop k) HLD.out hnk v (by rw [List.drop_of_length_le (by rw [HL.out]; have := HN0.out; omega)]; exact BytesAt.nil _ _)).mono ?_
          rintro e w' ⟨rfl, rfl⟩
          go_wp2_with (first | (go_at_call 23; fail))
          clear hlen
          obtain ⟨M, hM⟩ : ∃ M, lowW (l.drop k) ||| lenW n = M := ⟨_, rfl⟩
          rw [hM]
          have HM := Lib.hid hM
          clear hM
          refine (rround_any { s with d := s.d ^^^ M } v).mono ?_
          rintro e w' ⟨rfl, rfl⟩
          obtain ⟨s1, hs1⟩ : ∃ s1, rnd { s with d := s.d ^^^ M } = s1 := ⟨_, rfl⟩
          rw [hs1]
          have HS1 := Lib.hid hs1
          clear hs1
          unfold stV
          go_wp2_with (first | (go_at_call 23; fail))
          refine (rround_any s1 v).mono ?_
          rintro e w' ⟨rfl, rfl⟩
          unfold stV
          go_wp2
          go_roundw
          case rel =>
            obtain ⟨f, hf, hsum⟩ := HF.out
            obtain ⟨f', hf'⟩ : ∃ f', f = f' + 1 := ⟨f - 1, by omega⟩
            refine ⟨⟨wordS s M, k + 8, ?_, ?_, ?_, ?_, by go_num, .inr ⟨by omega, by omega, ?_⟩, rfl⟩⟩
            · rw [← HS1.out]; rfl
            · rw [← HS1.out]; rfl
            · rw [← HS1.out]; rfl
            · rw [← HS1.out]; rfl
            · rw [hf', sumF, if_neg (by rw [HLD.out]; omega), HM.out] at hsum
              exact hsum
          case measure => simp [intOf]; omega
    · have hkn' : ¬ (k : Int) ≤ (n : Int) := by omega
      have HF : Hid (finS s = R) := Lib.hid (by rcases hor with h | h; omega; exact h.2.2)
      clear hor
      obtain ⟨s0, hs0⟩ : ∃ s0 : St, { s with c := s.c ^^^ 255#64 } = s0 := ⟨_, rfl⟩
      have HS0 := Lib.hid hs0
      clear hs0
      go_wp2
      go_loopw [8, 9, 10, 11, 14] (RFinRel v s0) (fun _ _ _ _ i _ => 4 - (intOf i).toNat)
      case atStart => exact ⟨⟨s0, 0, by omega, rfl, by rw [← HS0.out], by rw [← HS0.out], by rw [← HS0.out], by rw [← HS0.out], rfl, rfl⟩⟩
      case round =>
        obtain ⟨⟨t, j, hj, hst, rfl, rfl, rfl, rfl, rfl, rfl⟩⟩ := hrel
        have HT := Lib.hid hst
        clear hst
        by_cases hj4 : j < 4
        · have hj4' : (j : Int) < 4 := by omega
          go_wp2_with (first | (go_at_call 23; fail))
          refine (rround_any t v).mono ?_
          rintro e w' ⟨rfl, rfl⟩
          obtain ⟨t1, ht1⟩ : ∃ t1, rnd t = t1 := ⟨_, rfl⟩
          rw [ht1]
          have HT1 := Lib.hid ht1
          clear ht1
          unfold stV
          go_wp2
          go_roundw
          case rel => exact ⟨⟨t1, j + 1, by omega, by rw [← HT1.out, HT.out]; rfl, rfl, rfl, rfl, rfl, by go_num, rfl⟩⟩
          case measure => simp [intOf]; omega
        · obtain rfl : j = 4 := by omega
          go_wp2
          go_ret
          refine ⟨?_, BEL.out⟩
          rw [HRR.out, ← HF.out, HT.out, ← HS0.out]
          rfl
theorem rsum_gen (key : ByteArray) (hk : key.size = 16) (A : Option Addr) (n cap : Nat) (l : List UInt8) (hl : l.length = n) (hnc : n ≤ cap) (hn : n ≤ 1099511627776) (hcap : cap ≤ 9223372036854775807) (w : World) (hb : BytesAt w A l) :
    Calls Tryd.prog 10 #[.string key, .slice A n cap] w (RetB (.int .u64 (wd (sipSum (keySt key.data.toList) l))) w) := by
  by_cases h0 : n = 0
  · cases A with
    | none => exact rsum_nil key hk n cap l hl h0 hnc hn hcap w
    | some ad => exact rsum_bare key hk ad n cap l hl h0 hnc hn hcap w
  · obtain ⟨b, off, rfl, _⟩ := hb (by omega)
    exact rsum_any key hk b off n cap l hl hnc hn hcap w hb
end Go.Proofs.YtclcmdpampimkaaDoor
