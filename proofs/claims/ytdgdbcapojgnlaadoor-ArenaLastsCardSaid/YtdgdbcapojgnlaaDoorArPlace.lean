/-
  Package arena: Place.
-/
import Derived.Test.YtdgdbcapojgnlaaDoorArSt
namespace Go.Proofs.YtdgdbcapojgnlaaDoor
set_option maxRecDepth 100000
open Go.RowKit Go.Sort

/-- Where the number behind these stands. -/
def locOf (pre : List Nat) : Nat := match pre.getLast? with
  | none => 576
  | some j => 544 + j
theorem locOf_snoc (pre : List Nat) (j : Nat) : locOf (pre ++ [j]) = 544 + j := by simp [locOf]
def offOf : Value → Nat
  | .pointer (some a) => a.off
  | _ => 0
/-- How many are left from there on. -/
def leftFrom (L : List Nat) (v : Value) : Nat := if offOf v = 576 then L.length else L.length - (L.idxOf (offOf v - 544) + 1)
theorem leftFrom_loc {pre suf : List Nat} (g : Nat) (h : (pre ++ suf).Nodup) (hl : ∀ i ∈ pre ++ suf, i < 32) : leftFrom (pre ++ suf) (.pointer (some ⟨g, locOf pre, none⟩)) = suf.length := by
  rcases List.eq_nil_or_concat pre with rfl | ⟨pre', j, rfl⟩
  · simp [leftFrom, offOf, locOf]
  · rw [List.concat_eq_append] at *
    have hj : j < 32 := hl j (by simp)
    have e1 : offOf (.pointer (some ⟨g, locOf (pre' ++ [j]), none⟩)) = 544 + j := locOf_snoc _ _
    have hn : j ∉ pre' := by
      rw [List.append_assoc, List.nodup_append] at h
      intro hm
      exact h.2.2 j hm j (by simp) rfl
    unfold leftFrom
    rw [e1, if_neg (by omega), show 544 + j - 544 = j by omega, List.append_assoc, List.idxOf_append, if_neg hn]
    simp
    omega
theorem locOf_ne {pre suf : List Nat} {s : Nat} (h : (pre ++ s :: suf).Nodup) (hs : s < 32) : locOf pre ≠ 544 + s := by
  rcases List.eq_nil_or_concat pre with rfl | ⟨pre', j, rfl⟩
  · simp [locOf]; omega
  · rw [List.concat_eq_append] at *
    rw [locOf_snoc]
    intro e
    obtain rfl : j = s := by omega
    rw [List.nodup_append] at h
    exact h.2.2 j (by simp) j (by simp) rfl
theorem chain_at {A : Ar} {w : World} {g : Nat} (hA : ArAt w g A) {s : Nat} : ∀ {pre suf : List Nat}, Chain A.next A.first (pre ++ s :: suf) → w.cell? ⟨g, locOf pre, none⟩ = some (.int .i64 s) := by
  intro pre suf h
  rcases List.eq_nil_or_concat pre with rfl | ⟨pre', j, rfl⟩
  · obtain ⟨h0, _⟩ := h
    have := (hA.blk.cell 576).trans hA.full.first_at
    rw [h0] at this
    exact this
  · rw [List.concat_eq_append] at *
    rw [List.append_assoc] at h
    obtain ⟨_, _, n, hn, h2⟩ := Chain.mid h
    have h3 : n = s := h2.1
    subst h3
    rw [locOf_snoc]
    exact (hA.blk.cell _).trans (hA.full.next_at hn)

set_option maxHeartbeats 2000000 in
theorem place_out {i : Int} (hi : i < 0 ∨ 32 ≤ i) (p : Option Addr) (w : World) :
    Calls Tryd.prog 33 #[.pointer p, .int .i64 i] w (RetSame (errno 1) w) := by
  go_enter Tryd.func33, Tryd.ntmps33
  go_wp2_with (first
    | (go_at_call 58; refine (there_out hi _).mono ?_; rintro e w' ⟨rfl, rfl⟩))
  go_ret
  exact ⟨rfl, rfl⟩
set_option maxHeartbeats 2000000 in
theorem place_taken {i : Nat} (hi : i < 32) (g : Nat) (A : Ar) (w : World) (hA : ArAt w g A) (hn : A.next[i]? = some (-2)) :
    Calls Tryd.prog 33 #[.pointer (some ⟨g, 0, none⟩), .int .i64 i] w (RetSame (errno 10) w) := by
  have c2 := (hA.blk.cell (544 + i)).trans (hA.full.next_at hn)
  have hi1 : (i : Int) < 32 := by omega
  have hi0 : (0 : Int) ≤ (i : Int) := by omega
  clear hA hn
  go_enter Tryd.func33, Tryd.ntmps33
  go_wp2_with (first
    | (go_at_call 58; refine (there_in hi _).mono ?_; rintro e w' ⟨rfl, rfl⟩))
  go_ret
  exact ⟨rfl, rfl⟩
set_option maxHeartbeats 4000000 in
theorem place_in {i : Nat} (g : Nat) (A : Ar) (S : St) (w : World) (hA : ArAt w g A) (hS : Rep A S) (hm : i ∈ S.free) :
    Calls Tryd.prog 33 #[.pointer (some ⟨g, 0, none⟩), .int .i64 i] w (fun e w' => e = .returned .nilIface ∧ ∃ A', ArAt w' g A' ∧ Rep A' (S.drop i) ∧ w.grownBy w' (some g)) := by
  have hi := hS.chain.lt i hm
  obtain ⟨n, hn, hn2⟩ := hS.next_free hm
  have c2 := (hA.blk.cell (544 + i)).trans (hA.full.next_at hn)
  have HA := Lib.hid hA
  have HS := Lib.hid hS
  have HM := Lib.hid hm
  have HN := Lib.hid hn
  have hi1 : (i : Int) < 32 := by omega
  have hi0 : (0 : Int) ≤ (i : Int) := by omega
  have hne : (n == -2) = false := by simp [hn2]
  clear hA hn hS hm hn2
  go_enter Tryd.func33, Tryd.ntmps33
  go_wp2_with (first
    | (go_at_call 58; refine (there_in hi _).mono ?_; rintro e w' ⟨rfl, rfl⟩))
  clear c2
  go_loopw [5] (fun p wr => ∃ pre suf : List Nat, S.free = pre ++ suf ∧ i ∈ suf ∧ p = .pointer (some ⟨g, locOf pre, none⟩) ∧ Below w.heap.size w wr) (fun p _ => leftFrom S.free p)
  case atStart => exact ⟨[], S.free, rfl, HM.out, rfl, Below.refl _ _⟩
  case round =>
    obtain ⟨pre, suf, hpre, hsuf, rfl, hbel⟩ := hrel
    obtain ⟨s, suf, rfl⟩ : ∃ s t, suf = s :: t := by cases suf with
      | nil => cases hsuf
      | cons s t => exact ⟨s, t, rfl⟩
    have hAr : ArAt wr g A := ⟨HA.out.blk.below hbel HA.out.blk.lt, HA.out.full⟩
    have hch := HS.out.chain
    rw [hpre] at hch
    have co := chain_at hAr hch
    have HP := Lib.hid hpre
    have HSU := Lib.hid hsuf
    have BEL := Lib.hid hbel
    have HAR := Lib.hid hAr
    have hs : s < 32 := HS.out.chain.lt s (by rw [hpre]; simp)
    have hs1 : (s : Int) < 32 := by omega
    have hs0 : (0 : Int) ≤ (s : Int) := by omega
    clear hpre hsuf hch hbel hAr
    by_cases he : s = i
    · subst he
      have heq : ((s : Int) != (s : Int)) = false := by simp
      have ci := (HAR.out.blk.cell (544 + s)).trans (HAR.out.full.next_at HN.out)
      have fo := HAR.out.blk.frozen (locOf pre)
      have fi := HAR.out.blk.frozen (544 + s)
      have hlne := locOf_ne (HP.out ▸ HS.out.nodup) hs
      have cx : (wr.setCell ⟨g, locOf pre, none⟩ (.int .i64 n)).cell? ⟨g, 544 + s, none⟩ = some (.int .i64 n) :=
        (World.cell?_setCell_other wr _ _ _ (fun e => hlne (by injection e))).trans ci
      have HLN := Lib.hid hlne
      clear hne hlne
      go_wp2
      go_region
      clear co ci fo fi cx HLN
      go_wp2
      go_ret
      refine ⟨rfl, ?_⟩
      have hG : w.grownBy (((wr.setCell ⟨g, locOf pre, none⟩ (.int .i64 n)).setCell ⟨g, 544 + s, none⟩ (.int .i64 (-2))).drew) (some g) :=
        grownBy_trans (grownBy_below BEL.out (some g)) (grownBy_trans (grownBy_trans (grownBy_set wr g (locOf pre) (.int .i64 n)) (grownBy_set _ g (544 + s) (.int .i64 (-2)))) (grownBy_below (Below.refl _ _).drew (some g)))
      have hfu := HA.out.full
      rcases List.eq_nil_or_concat pre with rfl | ⟨pre', j, rfl⟩
      · have b1 := HAR.out.blk.set_ 576 (.int .i64 n)
        rw [hfu.setFirst] at b1
        have b2 := b1.set_ (544 + s) (.int .i64 (-2))
        rw [(hfu.putFirst n).setNext hs] at b2
        exact ⟨_, ⟨b2.drew, (hfu.putFirst n).putNext s (-2)⟩, HS.out.drop_head HP.out HN.out, hG⟩
      · rw [List.concat_eq_append] at *
        have hj : j < 32 := HS.out.chain.lt j (by rw [HP.out]; simp)
        have b1 := HAR.out.blk.set_ (544 + j) (.int .i64 n)
        rw [hfu.setNext hj] at b1
        have b2 := b1.set_ (544 + s) (.int .i64 (-2))
        rw [(hfu.putNext j n).setNext hs] at b2
        rw [locOf_snoc] at hG ⊢
        exact ⟨_, ⟨b2.drew, (hfu.putNext j n).putNext s (-2)⟩, HS.out.drop_mid (pre := pre') (rest := suf) (by rw [HP.out]; simp) HN.out, hG⟩
    · have heq : ((s : Int) != (i : Int)) = true := by simp; omega
      have HE := Lib.hid he
      have cr := cell_regrown co
      clear he
      go_wp2
      refine wp_region_quiet_below (by kernel_rfl) (by kernel_rfl) ?_
      repeat (first | go_big_quiet_skip | (go_big_quiet_want; go_big_quiet_op; first | go_big_quiet_on))
      refine wpQuiet_nil ?_
      intro v0 hC
      have hb := Lib.hid (below_class hC)
      clear hC cr co
      go_wp2
      go_roundw
      case rel =>
        refine ⟨pre ++ [s], suf, by rw [HP.out]; simp, ?_, by rw [locOf_snoc], BEL.out.trans (hb.out.mono BEL.out.size)⟩
        rcases List.mem_cons.1 HSU.out with h | h
        · exact absurd h.symm HE.out
        · exact h
      case measure =>
        have hd := HS.out.nodup
        have hl := HS.out.chain.lt
        have e1 : S.free = (pre ++ [s]) ++ suf := by rw [HP.out]; simp
        have m1 := leftFrom_loc (pre := pre ++ [s]) (suf := suf) g (e1 ▸ hd) (e1 ▸ hl)
        have m2 := leftFrom_loc (pre := pre) (suf := s :: suf) g (HP.out ▸ hd) (HP.out ▸ hl)
        rw [locOf_snoc, ← e1] at m1
        rw [← HP.out] at m2
        rw [m1, m2]
        simp
end Go.Proofs.YtdgdbcapojgnlaaDoor
