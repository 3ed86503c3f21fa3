/-
  lineagelaw07: the walk of TagKnown.
-/
import Derived.Test.YtclcmdpampimkaaDoorTagFirst
import Derived.Test.YtclcmdpampimkaaDoorTagOf
namespace Go.Proofs.YtclcmdpampimkaaDoor
set_option maxRecDepth 100000
open Go.RowKit

def M17 : List UInt8 := (List.range 17).map UInt8.ofNat
def M2 : List UInt8 := (List.range 2).map UInt8.ofNat
def M1 : List UInt8 := (List.range 1).map UInt8.ofNat
theorem sum_known0 : sipSum (keySt K16) [] = 8246050544436514353#64 := by decide +kernel
theorem sum_known1 : sipSum (keySt K16) M1 = 8428550223375919101#64 := by decide +kernel
theorem sum_known2 : sipSum (keySt K16) M2 = 967288799772626778#64 := by decide +kernel
set_option maxHeartbeats 8000000 in
theorem tagKnown_any (w : World) (hg : Laid w) : Calls Tryd.prog 4 #[] w (RetB (.bool true) w) := by
  have HG := Lib.hid hg
  have hpos := hg.pos
  have HB0 := Lib.hid (Below.refl w.heap.size w)
  have s0 : w.heap.size ≤ w.heap.size := Nat.le_refl _
  clear hg
  go_enter Tryd.func4, Tryd.ntmps4
  go_wp2_with (first | (go_at_call 12; fail))
  refine (first_any 16 (by decide) (by decide) w).mono ?_
  rintro e w1 ⟨g1, cap1, rfl, hc1, hc2, hown, hb1⟩
  have HB1 := Lib.hid (HB0.out.trans (hb1.mono s0))
  have s1 := HB1.out.size
  have hs := str_own w1 w.heap.size g1 16 cap1 _ hown
  rw [show ((List.range 16).map UInt8.ofNat) = K16 from rfl] at hs
  clear hown hb1 hc1 hc2 HB0
  go_wp2_with (first | (go_at_call 6; fail))
  refine (new_right ⟨K16.toArray⟩ rfl w1).mono ?_
  rintro e w2 ⟨gk, rfl, hK, hgk, hb1⟩
  have HK2 := Lib.hid hK
  have HB2 := Lib.hid (HB1.out.trans (hb1.mono s1))
  have s2 := HB2.out.size
  unfold newV
  rw [show (keySt (ByteArray.mk K16.toArray).data.toList) = keySt K16 from rfl] at HK2
  clear hK hb1 HB1 s1 hs hgk
  go_wp2_with (first | (go_at_call 12; fail))
  refine (first_any 15 (by decide) (by decide) w2).mono ?_
  rintro e w3 ⟨g3, cap3, rfl, hc1, hc2, hown, hb1⟩
  have HB3 := Lib.hid (HB2.out.trans (hb1.mono s2))
  have s3 := HB3.out.size
  have HK3 := Lib.hid (HK2.out.below hb1 HK2.out.lt)
  have hs := str_own w3 w2.heap.size g3 15 cap3 _ hown
  rw [show ((List.range 15).map UInt8.ofNat) = M15 from rfl] at hs
  clear hown hb1 hc1 hc2 HB2 s2 HK2
  go_wp2_with (first | (go_at_call 6; fail))
  refine (new_wrong ⟨M15.toArray⟩ (by decide) w3).mono ?_
  rintro e w4 ⟨rfl, hb1⟩
  have HB4 := Lib.hid (HB3.out.trans (hb1.mono s3))
  have s4 := HB4.out.size
  have HK4 := Lib.hid (HK3.out.below hb1 HK3.out.lt)
  clear hb1 hs HB3 s3 HK3
  go_wp2_with (first | (go_at_call 12; fail))
  refine (first_any 17 (by decide) (by decide) w4).mono ?_
  rintro e w5 ⟨g5, cap5, rfl, hc1, hc2, hown, hb1⟩
  have HB5 := Lib.hid (HB4.out.trans (hb1.mono s4))
  have s5 := HB5.out.size
  have HK5 := Lib.hid (HK4.out.below hb1 HK4.out.lt)
  have hs := str_own w5 w4.heap.size g5 17 cap5 _ hown
  rw [show ((List.range 17).map UInt8.ofNat) = M17 from rfl] at hs
  clear hown hb1 hc1 hc2 HB4 s4 HK4
  go_wp2_with (first | (go_at_call 6; fail))
  refine (new_wrong ⟨M17.toArray⟩ (by decide) w5).mono ?_
  rintro e w6 ⟨rfl, hb1⟩
  have HB6 := Lib.hid (HB5.out.trans (hb1.mono s5))
  have s6 := HB6.out.size
  have HK6 := Lib.hid (HK5.out.below hb1 HK5.out.lt)
  clear hb1 hs HB5 s5 HK5
  go_wp2_with (first | (go_at_call 6; fail))
  refine (new_wrong ⟨#[]⟩ (by decide) w6).mono ?_
  rintro e w7 ⟨rfl, hb1⟩
  have HB7 := Lib.hid (HB6.out.trans (hb1.mono s6))
  have s7 := HB7.out.size
  have HK7 := Lib.hid (HK6.out.below hb1 HK6.out.lt)
  clear hb1 HB6 s6 HK6
  go_wp2_with (first | (go_at_call 7; fail))
  refine (plain_errno 14 14 (by decide) (by decide) w7 (HG.out.below HB7.out hpos)).mono ?_
  rintro e w8 ⟨rfl, hb1⟩
  have HB8 := Lib.hid (HB7.out.trans (hb1.mono s7))
  have s8 := HB8.out.size
  have HK8 := Lib.hid (HK7.out.below hb1 HK7.out.lt)
  clear hb1 HB7 s7 HK7
  go_wp2_with (first | (go_at_call 7; fail))
  refine (plain_errno 14 14 (by decide) (by decide) w8 (HG.out.below HB8.out hpos)).mono ?_
  rintro e w9 ⟨rfl, hb1⟩
  have HB9 := Lib.hid (HB8.out.trans (hb1.mono s8))
  have s9 := HB9.out.size
  have HK9 := Lib.hid (HK8.out.below hb1 HK8.out.lt)
  clear hb1 HB8 s8 HK8
  go_wp2_with (first | (go_at_call 7; fail))
  refine (plain_errno 14 14 (by decide) (by decide) w9 (HG.out.below HB9.out hpos)).mono ?_
  rintro e w10 ⟨rfl, hb1⟩
  have HB10 := Lib.hid (HB9.out.trans (hb1.mono s9))
  have s10 := HB10.out.size
  have HK10 := Lib.hid (HK9.out.below hb1 HK9.out.lt)
  clear hb1 HB9 s9 HK9
  go_wp2_with (first | (go_at_call 9; fail))
  refine (sum_any gk 0 0 (keySt K16) none [] rfl (Nat.le_refl _) (by decide) w10 HK10.out.row HK10.out.lt (BytesAt.nil _ _)).mono ?_
  rintro e w11 ⟨rfl, hb1⟩
  rw [sum_known0]
  have hd0 : wd 8246050544436514353#64 = 8246050544436514353 := rfl
  have HB11 := Lib.hid (HB10.out.trans (hb1.mono s10))
  have s11 := HB11.out.size
  have HK11 := Lib.hid (HK10.out.below hb1 HK10.out.lt)
  clear hb1 HB10 s10 HK10
  go_wp2_with (first | (go_at_call 12; fail))
  refine (first_any 1 (by decide) (by decide) w11).mono ?_
  rintro e w12 ⟨g12, cap12, rfl, hc1, hc2, hown, hb1⟩
  have HB12 := Lib.hid (HB11.out.trans (hb1.mono s11))
  have s12 := HB12.out.size
  have HK12 := Lib.hid (HK11.out.below hb1 HK11.out.lt)
  have HBA := Lib.hid (own_bytes hown (fun x hx => by have := List.mem_range.1 hx; omega))
  have HC1 := Lib.hid hc1
  have HC2 := Lib.hid hc2
  clear hown hb1 hc1 hc2 HB11 s11 HK11
  go_wp2_with (first | (go_at_call 9; fail))
  refine (sum_any gk 1 cap12 (keySt K16) _ M1 rfl HC1.out HC2.out w12 HK12.out.row HK12.out.lt HBA.out).mono ?_
  rintro e w13 ⟨rfl, hb1⟩
  rw [sum_known1]
  have hd1 : wd 8428550223375919101#64 = 8428550223375919101 := rfl
  have HB13 := Lib.hid (HB12.out.trans (hb1.mono s12))
  have s13 := HB13.out.size
  have HK13 := Lib.hid (HK12.out.below hb1 HK12.out.lt)
  clear hb1 HB12 s12 HK12
  clear HBA HC1 HC2
  go_wp2_with (first | (go_at_call 12; fail))
  refine (first_any 2 (by decide) (by decide) w13).mono ?_
  rintro e w14 ⟨g14, cap14, rfl, hc1, hc2, hown, hb1⟩
  have HB14 := Lib.hid (HB13.out.trans (hb1.mono s13))
  have s14 := HB14.out.size
  have HK14 := Lib.hid (HK13.out.below hb1 HK13.out.lt)
  have HBA := Lib.hid (own_bytes hown (fun x hx => by have := List.mem_range.1 hx; omega))
  have HC1 := Lib.hid hc1
  have HC2 := Lib.hid hc2
  clear hown hb1 hc1 hc2 HB13 s13 HK13
  go_wp2_with (first | (go_at_call 9; fail))
  refine (sum_any gk 2 cap14 (keySt K16) _ M2 rfl HC1.out HC2.out w14 HK14.out.row HK14.out.lt HBA.out).mono ?_
  rintro e w15 ⟨rfl, hb1⟩
  rw [sum_known2]
  have hd2 : wd 967288799772626778#64 = 967288799772626778 := rfl
  have HB15 := Lib.hid (HB14.out.trans (hb1.mono s14))
  have s15 := HB15.out.size
  have HK15 := Lib.hid (HK14.out.below hb1 HK14.out.lt)
  clear hb1 HB14 s14 HK14
  clear HBA HC1 HC2
  go_wp2_with (first | (go_at_call 12; fail))
  refine (first_any 15 (by decide) (by decide) w15).mono ?_
  rintro e w16 ⟨g16, cap16, rfl, hc1, hc2, hown, hb1⟩
  have HB16 := Lib.hid (HB15.out.trans (hb1.mono s15))
  have s16 := HB16.out.size
  have HK16 := Lib.hid (HK15.out.below hb1 HK15.out.lt)
  have HBA := Lib.hid (own_bytes hown (fun x hx => by have := List.mem_range.1 hx; omega))
  have HC1 := Lib.hid hc1
  have HC2 := Lib.hid hc2
  clear hown hb1 hc1 hc2 HB15 s15 HK15
  go_wp2_with (first | (go_at_call 9; fail))
  refine (sum_any gk 15 cap16 (keySt K16) _ M15 rfl HC1.out HC2.out w16 HK16.out.row HK16.out.lt HBA.out).mono ?_
  rintro e w17 ⟨rfl, hb1⟩
  rw [sum_known]
  have hd15 : wd 11613035633349379557#64 = 11613035633349379557 := rfl
  have HB17 := Lib.hid (HB16.out.trans (hb1.mono s16))
  have s17 := HB17.out.size
  have HK17 := Lib.hid (HK16.out.below hb1 HK16.out.lt)
  clear hb1 HB16 s16 HK16
  clear HBA HC1 HC2
  have q1 : Hid (∀ w, Calls Tryd.prog 13 #[.int .u64 7, .int .u64 7] w (RetSame (.bool true) w)) := Lib.hid fun w => same_any 7#64 7#64 w
  have q2 : Hid (∀ w, Calls Tryd.prog 13 #[.int .u64 7, .int .u64 9223372036854775815] w (RetSame (.bool false) w)) := Lib.hid fun w => same_any 7#64 9223372036854775815#64 w
  go_wp2_with (first | (go_at_call 13; fail))
  refine (q1.out _).mono ?_
  rintro e w' ⟨rfl, rfl⟩
  go_wp2_with (first | (go_at_call 13; fail))
  refine (q2.out _).mono ?_
  rintro e w' ⟨rfl, rfl⟩
  go_wp2
  go_ret
  exact ⟨rfl, HB17.out⟩
end Go.Proofs.YtclcmdpampimkaaDoor
