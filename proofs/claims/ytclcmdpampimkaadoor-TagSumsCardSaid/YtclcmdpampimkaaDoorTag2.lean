/-
  Package tag: low, Sum, New, Of.
-/
import Derived.Test.YtclcmdpampimkaaDoorTag
import Derived.Test.YtclcmdpampimkaaDoorErrno
import Derived.Lib.ConvBytes
import Derived.Deep.RegionWith
namespace Go.Proofs.YtclcmdpampimkaaDoor
set_option maxRecDepth 100000
open Go.RowKit

/-! ### low -/
theorem or_high (V x s : Nat) (hV : V < 2 ^ s) (hx : x < 256) (hs : s ≤ 56) : bits .or .u64 (V : Int) (IntKind.u64.wrap ((x : Int) * 2 ^ s)) = ((V + x * 2 ^ s : Nat) : Int) := by
  have h56 : 2 ^ s ≤ 2 ^ 56 := Nat.pow_le_pow_right (by decide) hs
  have hxs : x * 2 ^ s ≤ 255 * 2 ^ 56 := Nat.mul_le_mul (by omega) h56
  have e1 : ((x : Int) * 2 ^ s) = ((x * 2 ^ s : Nat) : Int) := by simp
  have e2 : IntKind.u64.wrap ((x * 2 ^ s : Nat) : Int) = ((x * 2 ^ s : Nat) : Int) := by rw [IntKind.wrap_u64]; omega
  rw [e1, e2, u64_or_nat _ _ (by omega) (by omega)]
  have := Nat.two_pow_add_eq_or_of_lt hV x
  rw [Nat.or_comm, Nat.mul_comm x, ← this, Nat.add_comm]
structure LowRel (w : World) (l : List UInt8) (v i : Value) (wr : World) : Prop where
  ex : ∃ k V s, k ≤ l.length ∧ V = lowN (l.take k) ∧ s = 8 * k ∧ i = .int .i64 (k : Nat) ∧ v = .int .u64 (V : Nat) ∧ w = wr
set_option maxHeartbeats 1000000 in
theorem low_any (A : Option Addr) (n cap : Nat) (l : List UInt8) (hl : l.length = n) (h8 : n ≤ 8) (w : World) (hb : BytesAt w A l) : Calls Tryd.prog 16 #[.slice A n cap] w (RetSame (.int .u64 (wd (lowW l))) w) := by
  have HB := Lib.hid hb
  have HL := Lib.hid hl
  have h8' : (n : Int) ≤ 8 := by omega
  clear hb hl
  go_enter Tryd.func16, Tryd.ntmps16
  go_wp2
  go_loopw [3, 8] (LowRel w l) (fun _ i _ => n - (intOf i).toNat)
  case atStart => exact ⟨⟨0, 0, 0, Nat.zero_le _, rfl, rfl, rfl, rfl, rfl⟩⟩
  case round =>
    obtain ⟨⟨k, V, s, hk, hV, hs, rfl, rfl, rfl⟩⟩ := hrel
    by_cases hlt : k < n
    · have hkl : k < l.length := by rw [HL.out]; exact hlt
      obtain ⟨x, hx⟩ : ∃ x, l[k]? = some x := ⟨_, List.getElem?_eq_getElem hkl⟩
      obtain ⟨b, off, rfl, hlt2, hc⟩ := HB.out (by omega)
      have hcell := hc k x hx
      have hVs : V < 2 ^ s := by
        have := lowN_lt (l.take k)
        rw [List.length_take, Nat.min_eq_left (by omega), show (256 : Nat) = 2 ^ 8 from rfl, ← Nat.pow_mul, ← hs, ← hV] at this
        exact this
      have hx8 := x.toNat_lt
      have hor := or_high V x.toNat s hVs hx8 (by omega)
      have hsi : 8 * (k : Int) = (s : Int) := by omega
      have hstep : V + x.toNat * 2 ^ s = lowN (l.take (k + 1)) := by
        rw [List.take_add_one, hx]
        simp only [Option.toList_some]
        rw [lowN_snoc, ← hV, List.length_take, Nat.min_eq_left (by omega), hs, show (256 : Nat) = 2 ^ 8 from rfl, ← Nat.pow_mul]
      obtain ⟨V', hV'⟩ : ∃ V', V + x.toNat * 2 ^ s = V' := ⟨_, rfl⟩
      rw [hV'] at hor hstep
      have HS := Lib.hid hstep
      have hx0 : (0 : Int) ≤ (x.toNat : Int) := by omega
      have hx256 : (x.toNat : Int) < 256 := by omega
      have hs56 : (s : Int) ≤ 56 := by omega
      clear hc hx hV hVs hs hV' hstep HB
      go_wp2
      go_roundw
      case rel => exact ⟨⟨k + 1, V', 8 * (k + 1), by omega, HS.out, rfl, by go_num, by go_num, rfl⟩⟩
      case measure => simp [intOf]; omega
    · have hkn : k = n := by have := HL.out; omega
      have hVn : (V : Int) = wd (lowW l) := by
        have hlen := HL.out
        rw [hkn, ← hlen, List.take_length] at hV
        have hlt3 := lowN_lt l
        have h256 : 256 ^ l.length ≤ 256 ^ 8 := Nat.pow_le_pow_right (by decide) (by omega)
        unfold wd lowW
        rw [BitVec.toNat_ofNat, hV, Nat.mod_eq_of_lt (by omega)]
      have HV := Lib.hid hVn
      clear hV hkn hVn hk hs
      go_wp2
      go_ret
      exact ⟨by rw [← HV.out]; rfl, rfl⟩

/-! ### Sum -/
structure SumRel (w : World) (g : Nat) (n : Nat) (z R : BitVec 64) (rest : Value) (wr : World) : Prop where
  ex : ∃ f l m A c s, rest = .slice A m c ∧ l.length = m ∧ m ≤ n ∧ m ≤ c ∧ c ≤ 9223372036854775807 ∧ BytesAt w A l ∧ m < f ∧ sumF f z s l = R ∧ Blk wr g 43 s.cells ∧ Below w.heap.size w wr
def restLen : Value → Nat
  | .slice _ n _ => n
  | _ => 0
set_option maxHeartbeats 2000000 in
theorem sum_any (gk n cap : Nat) (s : St) (A : Option Addr) (l : List UInt8) (hl : l.length = n) (hnc : n ≤ cap) (hcap : cap ≤ 9223372036854775807) (w : World) (hK : RowAt w gk 0 s.cells) (hkg : gk < w.heap.size) (hb : BytesAt w A l) :
    Calls Tryd.prog 9 #[.pointer (some ⟨gk, 0, none⟩), .slice A n cap] w (RetB (.int .u64 (wd (sipSum s l))) w) := by
  have HK := Lib.hid hK
  have HB := Lib.hid hb
  have HL := Lib.hid hl
  have HC := Lib.hid hcap
  have HN := Lib.hid hnc
  have B0 := Lib.hid (Blk.new w 43 s.cells)
  have bel0 := Lib.hid ((Below.refl w.heap.size w).alloc (Nat.le_refl _) (.cells s.cells 43))
  have stInfo : (Tryd.prog.info? 43).map (·.size) = some 4 := by kernel_rfl
  clear hK hb hl hcap hnc
  go_enter Tryd.func9, Tryd.ntmps9
  go_wp2_with (first
    | (refine wpList_load_at rfl rfl rfl HK.out rfl rfl stInfo ?_)
    | (refine wpList_store_new rfl rfl rfl rfl rfl (St.one _) stInfo ?_))
  have hR : sumF (n + 1) (lenW n) s l = sipSum s l := by unfold sipSum; rw [HL.out]
  have HR := Lib.hid hR
  have hgk : gk < w.heap.size := hkg
  clear hR
  go_loopw [6] (SumRel w w.heap.size n (lenW n) (sipSum s l)) (fun r _ => restLen r)
  case atStart => exact ⟨⟨n + 1, l, n, A, cap, s, rfl, HL.out, Nat.le_refl _, HN.out, HC.out, HB.out, by omega, HR.out, B0.out, bel0.out⟩⟩
  case round =>
    clear B0 bel0 HR HB HN HL HC HK
    obtain ⟨⟨f, l', m, A', c, st, rfl, hl', hmn, hmc, hc, hb', hf, hR, hB, hbel⟩⟩ := hrel
    have HL := Lib.hid hl'
    have HBB := Lib.hid hb'
    have HR := Lib.hid hR
    have HB := Lib.hid hB
    have BEL := Lib.hid hbel
    have HF := Lib.hid hf
    have HMC := Lib.hid hmc
    clear hl' hb' hR hB hbel hf
    by_cases h8 : 8 ≤ m
    · obtain ⟨b, off, rfl, hblt, hcell⟩ := HBB.out (by rw [HL.out]; omega)
      have h8m : (8 : Int) ≤ (m : Int) := by omega
      have h8c : (8 : Int) ≤ (c : Int) := by omega
      have hmc' : (m : Int) ≤ (c : Int) := by omega
      have hc' : (c : Int) ≤ 9223372036854775807 := by omega
      clear hcell
      go_wp2_with (first | (go_at_call 16; fail))
      refine (low_any _ 8 c (l'.take 8) (by rw [List.length_take, HL.out]; omega) (by decide) wr ((HBB.out.below BEL.out (Nat.le_refl _)).take 8)).mono ?_
      rintro e w' ⟨rfl, rfl⟩
      go_wp2_with (first | (go_at_call 20; fail))
      refine (word_any _ _ _ _ HB.out).mono ?_
      rintro e v1 ⟨rfl, hb1, hg1⟩
      have B1 := Lib.hid hb1
      have BEL1 := Lib.hid (BEL.out.grown hg1 BEL.out.size fun j e => by injection e with e; omega)
      clear hb1 hg1
      go_wp2
      go_roundw
      case rel =>
        obtain ⟨f', hf'⟩ : ∃ f', f = f' + 1 := ⟨f - 1, by have := HF.out; omega⟩
        refine ⟨⟨f', l'.drop 8, m - 8, _, c - 8, _, rfl, by rw [List.length_drop, HL.out], by omega, by have := HMC.out; omega, by omega, ?_, by have := HF.out; omega, ?_, B1.out, BEL1.out⟩⟩
        · by_cases hc8 : c = 8
          · rw [if_pos hc8, List.drop_of_length_le (by rw [HL.out]; have := HMC.out; omega)]
            exact BytesAt.nil _ _
          · rw [if_neg hc8]
            exact HBB.out.drop 8
        · have h := HR.out
          rw [hf', sumF, if_pos (by rw [HL.out]; exact h8)] at h
          exact h
      case measure => simp [restLen]; omega
    · have h8m : ¬ (8 : Int) ≤ (m : Int) := by omega
      have hm8 : (m : Int) < 8 := by omega
      go_wp2_with (first | (go_at_call 16; fail))
      refine (low_any _ m c l' HL.out (by omega) wr (HBB.out.below BEL.out (Nat.le_refl _))).mono ?_
      rintro e w' ⟨rfl, rfl⟩
      go_wp2_with (first | (go_at_call 20; fail))
      have hlen : (n : Int) % 256 * 72057594037927936 = wd (lenW n) := by
        unfold wd lenW
        rw [BitVec.toNat_ofNat]
        omega
      rw [hlen, u64_or_bv]
      clear hlen
      refine (word_any _ _ _ _ HB.out).mono ?_
      rintro e v1 ⟨rfl, hb1, hg1⟩
      have B1 := Lib.hid hb1
      have BEL1 := Lib.hid (BEL.out.grown hg1 BEL.out.size fun j e => by injection e with e; omega)
      clear hb1 hg1 HB BEL
      have hs1 := BEL1.out.size
      go_wp2_with (first
        | (refine wpList_load_at rfl rfl rfl B1.out.row rfl rfl stInfo ?_)
        | (go_at_call 21; fail))
      refine (end_any _ _).mono ?_
      rintro e v2 ⟨rfl, h2⟩
      have BEL2 := BEL1.out.trans (h2.mono hs1)
      go_wp2
      go_ret
      refine ⟨?_, BEL2⟩
      obtain ⟨f', hf'⟩ : ∃ f', f = f' + 1 := ⟨f - 1, by have := HF.out; omega⟩
      have h := HR.out
      rw [hf', sumF, if_neg (by rw [HL.out]; exact h8)] at h
      rw [← h]
      rfl

/-! ### New -/
def newV (g : Nat) : Value := .tuple #[.pointer (some ⟨g, 0, none⟩), .nilIface]
set_option maxHeartbeats 1000000 in
theorem new_wrong (key : ByteArray) (h : key.size ≠ 16) (w : World) : Calls Tryd.prog 6 #[.string key] w (RetB (.tuple #[.pointer none, .iface 41 (.int .i64 14)]) w) := by
  have h1 : ((key.size : Int) != 16) = true := by simp; omega
  have h2 : ¬ (key.size : Int) = 16 := by omega
  clear h
  go_enter Tryd.func6, Tryd.ntmps6
  go_wp2
  go_ret2
  exact ⟨rfl, Below.refl _ _⟩
theorem bytes_conv_at {w : World} {e : TypeId} {s : ByteArray} {g : Nat} (h : g = w.heap.size) : BytesAt (Lib.bytesWorld w e s) (some ⟨g, 0, none⟩) s.data.toList := fun _ => by
  subst h
  refine ⟨w.heap.size, 0, rfl, by rw [Lib.bytesWorld_size]; omega, fun k x hk => ?_⟩
  have hk' : k < s.size := by have := (List.getElem?_eq_some_iff.1 hk).1; simpa using this
  rw [Nat.zero_add, Lib.bytesWorld_cell w e s k hk', List.getD_eq_getElem?_getD, hk]
  rfl
theorem bel_conv (w : World) (e : TypeId) (s : ByteArray) : Below w.heap.size w (Lib.bytesWorld w e s) :=
  ⟨rfl, rfl, rfl, by rw [Lib.bytesWorld_size]; omega, fun k hk => Lib.bytesWorld_at_old w e s k hk⟩
theorem bytes_conv_old {w : World} {e : TypeId} {s : ByteArray} {A : Option Addr} {l : List UInt8} (h : BytesAt w A l) : BytesAt (Lib.bytesWorld w e s) A l := h.below (bel_conv w e s) (Nat.le_refl _)
theorem low_conv (A : Option Addr) (n cap : Nat) (l : List UInt8) (w : World) (h8 : n ≤ 8) (hb : BytesAt w A l) (hl : l.length = n) : Calls Tryd.prog 16 #[.slice A n cap] w (RetSame (.int .u64 (wd (lowW l))) w) := low_any A n cap l hl h8 w hb
set_option maxHeartbeats 4000000 in
theorem new_right (key : ByteArray) (h : key.size = 16) (w : World) : Calls Tryd.prog 6 #[.string key] w (fun e w' => ∃ g, e = .returned (newV g) ∧ Blk w' g 45 (keySt key.data.toList).cells ∧ w.heap.size ≤ g ∧ Below w.heap.size w w') := by
  have hcv := fun (w : World) (s : ByteArray) => Lib.run_convert_string_bytes (P := Tryd.prog) w 9 22 5 s Tryd.underlying9 Tryd.underlying22 Tryd.underlying5
  have hsz := fun (w : World) (s : ByteArray) => Lib.bytesWorld_size w 5 s
  have HLO : Hid ((key.extract 0 8).data.toList.length = 8) := Lib.hid (by simp [h])
  have HHI : Hid ((key.extract 8 16).data.toList.length = 8) := Lib.hid (by simp [h])
  have HB := Lib.hid fun (s1 s2 : ByteArray) => ((Below.refl w.heap.size w).drew.trans ((bel_conv w.drew 5 s1).mono (Nat.le_refl _))).trans ((bel_conv (Lib.bytesWorld w.drew 5 s1) 5 s2).mono (by rw [Lib.bytesWorld_size]; exact Nat.le_succ _))
  have hdr : List.take 8 (List.drop 8 key.data.toList) = List.drop 8 key.data.toList := List.take_of_length_le (by simp [h])
  go_enter Tryd.func6, Tryd.ntmps6
  go_wp2
  go_region_with ((go_at_call 16; refine (low_conv _ 8 _ _ _ (by decide) (by first | (refine bytes_conv_at ?_; simp [Lib.bytesWorld_size]; done) | (refine bytes_conv_old (bytes_conv_at ?_); simp [Lib.bytesWorld_size]; done)) (by first | exact HLO.out | exact HHI.out)).mono ?_; rintro e w' ⟨rfl, rfl⟩))
  all_goals go_wp2
  all_goals go_ret2
  all_goals refine ⟨w.heap.size + 1 + 1, rfl, Blk.new_at (by rw [Lib.bytesWorld_size, Lib.bytesWorld_size]; rfl), by omega, (HB.out _ _).alloc (by rw [Lib.bytesWorld_size, Lib.bytesWorld_size]; show w.heap.size ≤ w.heap.size + 1 + 1; omega) _⟩

end Go.Proofs.YtclcmdpampimkaaDoor
