/-
  Package arena: now, Frees: the free ones handed out.
-/
import Derived.Test.YtdgdbcapojgnlaaDoorArPlace
import Derived.Test.YtdgdbcapojgnlaaDoorInts
namespace Go.Proofs.YtdgdbcapojgnlaaDoor
set_option maxRecDepth 100000
open Go.RowKit Go.Shelf
attribute [local go_sem] Oper.semAt_some

theorem YieldAt.deep {P : Program} {n m : Nat} {l : Nat} {args : Array Value} {W : World} {R : Ending → World → Prop} (h : YieldAt Fence.wide n P l args W R) : YieldAt Fence.wide m P l args W R := by
  obtain ⟨fn, tmps, assign, body, hy, h1, h2⟩ := h
  exact ⟨fn, tmps, assign, body, hy, h1, fun c cs _ => h2 c cs (room_wide _)⟩
def natV (i : Nat) : Array Value := #[Value.int .i64 i]
theorem now_any (p : Option Addr) (w : World) : Calls Tryd.prog 38 #[.pointer p] w fun e w' =>
    e = .returned (.func (.func 63) #[] #[.pointer (some ⟨w.heap.size, 0, none⟩)]) ∧ w' = w.alloc (.cells #[.pointer p] 23) := by
  go_enter Tryd.func38, Tryd.ntmps38
  go_wp2
  go_ret
  exact ⟨rfl, rfl⟩

theorem ArAt.block {w w' : World} {g : Nat} {A : Ar} (h : ArAt w g A) (hb : w'.heap[g]? = w.heap[g]?) : ArAt w' g A := ⟨⟨hb.trans h.blk.eq⟩, h.full⟩
/-- How many are left from a number on; -1: none. -/
def leftAt (L : List Nat) (v : Value) : Nat := match v with
  | .int _ i => if i < 0 then 0 else L.length - L.idxOf i.toNat
  | _ => 0
theorem leftAt_nil (L : List Nat) : leftAt L (.int .i64 (-1)) = 0 := rfl
theorem leftAt_cons {pre : List Nat} {s : Nat} {suf : List Nat} (h : (pre ++ s :: suf).Nodup) : leftAt (pre ++ s :: suf) (.int .i64 s) = suf.length + 1 := by
  have hn : s ∉ pre := by
    rw [List.nodup_append] at h
    intro hm
    exact h.2.2 s hm s (by simp) rfl
  unfold leftAt
  simp only [Int.toNat_natCast]
  rw [if_neg (by omega), List.idxOf_append, if_neg hn]
  simp
/-- The number at which these begin; -1: there are none. -/
def headOf : List Nat → Int
  | [] => -1
  | i :: _ => i
theorem Chain.head {nx : List Int} {f : Int} {L : List Nat} (h : Chain nx f L) : f = headOf L := by
  cases L with
  | nil => exact h
  | cons i L => exact h.1
theorem Chain.step {nx : List Int} {f : Int} {pre : List Nat} {i : Nat} {suf : List Nat} (h : Chain nx f (pre ++ i :: suf)) : nx[i]? = some (headOf suf) := by
  obtain ⟨_, _, n, hn, h2⟩ := Chain.mid h
  rw [hn, h2.head]

set_option maxHeartbeats 2000000 in
theorem now1_seqs (g : Nat) (A : Ar) (S : St) (w : World) (Bn n₀ : Nat) (z : Nat → Prop) (hz : z Bn) (hBn : Bn < w.heap.size) (hg : z g) (hgw : g < w.heap.size) (hc : w.cell? ⟨Bn, 0, none⟩ = some (.pointer (some ⟨g, 0, none⟩))) (hA : ArAt w g A) (hS : Rep A S) :
    Seqs Tryd.prog 63 #[.pointer (some ⟨Bn, 0, none⟩)] natV n₀ z 0 S.free w := by
  intro l J Jx W hW hJ hJx hY h0
  have hcW : W.cell? ⟨Bn, 0, none⟩ = some (.pointer (some ⟨g, 0, none⟩)) := (hW.cell (p := ⟨Bn, 0, none⟩) hBn).trans hc
  have hAW : ArAt W g A := hA.block (hW.block g hgw)
  have hBW : Bn < W.heap.size := Nat.lt_of_lt_of_le hBn hW.size
  have HS := Lib.hid hS
  have hf1 := (hAW.blk.cell 576).trans hAW.full.first_at
  rw [hS.chain.head] at hf1
  have HA := Lib.hid hAW
  clear hc hA hS hAW
  refine (callsIn_wide (n := 6)).1 ?_
  refine callsIn_of_wp Tryd.func63 rfl trivial ?_ rfl
  simp only [Tryd.ntmps63, List.size_toArray, List.length_cons, List.length_nil, Nat.reduceAdd, Nat.reduceSub, Array.replicate_succ, Array.replicate_zero, List.push_toArray, List.append_toArray, List.nil_append, List.cons_append]
  gi_wp2
  clear hf1
  gi_loopw [3] (fun p wr => ∃ pre suf : List Nat, S.free = pre ++ suf ∧ p = .int .i64 (headOf suf) ∧ J pre wr ∧ (ArAt wr g A ∧ wr.cell? ⟨Bn, 0, none⟩ = some (.pointer (some ⟨g, 0, none⟩)) ∧ W.heap.size ≤ wr.heap.size))
    (fun p _ => leftAt S.free p)
  case atStart => exact ⟨[], S.free, rfl, rfl, h0, HA.out, hcW, Nat.le_refl _⟩
  case round =>
    obtain ⟨pre, suf, hpre, rfl, hJs, hA, hcB, hsz⟩ := hrel
    have HP := Lib.hid hpre
    cases suf with
    | nil =>
      clear hpre
      have e1 : headOf [] = -1 := rfl
      gi_wp2
      go_end0
      exact ⟨⟨_, rfl⟩, .inl (by rw [HP.out, List.append_nil]; exact hJs)⟩
    | cons s suf =>
      have e1 : headOf (s :: suf) = (s : Int) := rfl
      have hs : s < 32 := HS.out.chain.lt s (by rw [hpre]; simp)
      have hs1 : (s : Int) < 32 := by omega
      have hs0 : (0 : Int) ≤ (s : Int) := by omega
      have hch := HS.out.chain
      rw [hpre] at hch
      have hst := hch.step
      have hne : ((s : Int) != -1) = true := by simp
      have HAr := Lib.hid hA
      have hA' := hA.blk.lt
      have HST := Lib.hid hst
      obtain ⟨fn, tmps, assign, body, hy, hR⟩ := hY pre s wr hJs (by simpa using hsz) (by rw [hpre]; exact ⟨suf, by simp⟩)
      simp only [natV] at hy
      clear hpre hch hA hst
      gi_wp2
      refine hR.mono ?_
      rintro e W3 (⟨rfl, hJ3, hk3⟩ | ⟨rfl, hJx3, hk3⟩)
      · have hg3 : W3.heap[g]? = wr.heap[g]? := hk3.extra g hg hA'
        have hA3 := HAr.out.block hg3
        have hB3 : W3.cell? ⟨Bn, 0, none⟩ = some (.pointer (some ⟨g, 0, none⟩)) := (World.cell?_of_block (a := ⟨Bn, 0, none⟩) (hk3.extra Bn hz (World.block_lt_of_cell? wr ⟨Bn, 0, none⟩ hcB))).trans hcB
        have hn3 := (hA3.blk.cell (544 + s)).trans (hA3.full.next_at HST.out)
        have H3 := Lib.hid hA3
        have hsz3 := hk3.below.size
        clear hA3 hg3
        gi_wp2
        go_roundw
        case rel => exact ⟨pre ++ [s], suf, by rw [HP.out]; simp, rfl, hJ3, H3.out, hB3, by omega⟩
        case measure =>
          have hd := HS.out.nodup
          rw [HP.out] at hd ⊢
          show leftAt _ _ < leftAt _ (.int .i64 (s : Int))
          rw [leftAt_cons hd]
          cases suf with
          | nil => simp [headOf, leftAt_nil]
          | cons t suf =>
            have e : pre ++ s :: t :: suf = (pre ++ [s]) ++ t :: suf := by simp
            rw [e] at hd ⊢
            show leftAt _ (.int .i64 (t : Int)) < _
            rw [leftAt_cons hd]
            simp
      · gi_wp2
        refine bodyPost_ret (results_none rfl _ _ _) rfl ?_
        exact ⟨⟨_, rfl⟩, .inr ⟨pre ++ [s], by rw [HP.out]; exact ⟨suf, by simp⟩, hJx3⟩⟩
theorem nodup_len : ∀ (n : Nat) (L : List Nat), L.Nodup → (∀ i ∈ L, i < n) → L.length ≤ n
  | 0, L, _, h => by
    cases L with
    | nil => exact Nat.le_refl _
    | cons a L => exact absurd (h a (List.mem_cons_self ..)) (by omega)
  | n + 1, L, hd, h => by
    by_cases hn : n ∈ L
    · have ih := nodup_len n (L.erase n) (hd.erase n) fun i hi => by
        have h1 := h i (List.mem_of_mem_erase hi)
        have h2 : i ≠ n := fun e => by
          subst e
          exact (hd.mem_erase_iff.1 hi).1 rfl
        omega
      rw [List.length_erase_of_mem hn] at ih
      omega
    · have ih := nodup_len n L hd fun i hi => by
        have h1 := h i hi
        have h2 : i ≠ n := fun e => hn (e ▸ hi)
        omega
      omega
theorem Rep.len {A : Ar} {S : St} (h : Rep A S) : S.free.length ≤ 32 := nodup_len 32 _ h.nodup h.chain.lt

set_option maxHeartbeats 2000000 in
theorem frees_any (g : Nat) (A : Ar) (S : St) (w : World) (hA : ArAt w g A) (hS : Rep A S) : Calls Tryd.prog 12 #[.pointer (some ⟨g, 0, none⟩)] w fun e w' =>
    ∃ B v, e = .returned (.func (.func 39) #[] #[.pointer (some ⟨B, 0, none⟩)]) ∧ w.heap.size ≤ B ∧ Boxed w' B 44 v ∧ w'.ownsRow w.heap.size 3 1 v S.free.length (intVs (natInts S.free)) ∧ Below w.heap.size w w' := by
  obtain ⟨ii, iz, hi, hz0, hz1, hz2, hz3⟩ := intInfo
  have hgw := hA.blk.lt
  have HA := Lib.hid hA
  have HS := Lib.hid hS
  have HL := Lib.hid hS.len
  clear hA hS
  refine calls_marks Tryd.func12 rfl ?_
  simp only [Tryd.ntmps12, List.size_toArray, List.length_cons, List.length_nil, Nat.reduceAdd, Nat.reduceSub, Array.replicate_succ, Array.replicate_zero, List.push_toArray, List.append_toArray, List.nil_append, List.cons_append]
  go_wp2_with (go_at_call 38; refine (now_any _ _).mono ?_; rintro e w' ⟨rfl, rfl⟩)
  obtain ⟨V, hV⟩ : ∃ V, (w.alloc (.cells #[.slice none 0 0] 44)).alloc (.cells #[.pointer (some ⟨g, 0, none⟩)] 23) = V := ⟨_, rfl⟩
  have hVs : V.heap.size ≤ w.heap.size + 2 ∧ w.heap.size + 2 ≤ V.heap.size := by rw [← hV]; simp
  have bL : Boxed V w.heap.size 44 (.slice none 0 0) := by rw [← hV]; exact (Boxed.new w _ _).alloc _
  have bP : Boxed V (w.heap.size + 1) 23 (.pointer (some ⟨g, 0, none⟩)) := by
    rw [← hV]
    have h := Boxed.new (w.alloc (.cells #[.slice none 0 0] 44)) 23 (.pointer (some ⟨g, 0, none⟩))
    rwa [World.size_alloc] at h
  have hbV : Below w.heap.size w V := by rw [← hV]; exact ((Below.refl _ _).alloc (Nat.le_refl _) _).alloc (by simp) _
  have hAV : ArAt V g A := HA.out.block (hbV.block g hgw)
  rw [hV]
  clear hV
  refine wp_seqs rfl (enters_of Tryd.func63 (by kernel_rfl) rfl) (now1_seqs g A S V (w.heap.size + 1) w.heap.size (fun k => k = w.heap.size + 1 ∨ k = g) (.inl rfl) (by omega) (.inr rfl) (by omega) bP.cell hAV HS.out) (by omega) (fun k hk => by rcases hk with rfl | rfl <;> omega) (Below.refl _ _) (fun _ => rfl)
    (fun pre W => ∃ v, Coll V w.heap.size 44 (V.heap.size + 2) 3 1 pre.length (intVs (natInts pre)) W v)
    (fun _ _ _ => False)
    (Zone.coll (by omega) (by omega) (Nat.le_refl _) (fun pre => pre.length) (fun pre => intVs (natInts pre)))
    (fun cd => Zone.none)
    ⟨_, Coll.start bL _ _ _⟩ ?round ?done ?stop
  case stop => rintro cd pre W' _ h _; exact h.elim
  case round =>
    intro l2 pre i V0 hpre
    simp only [natV]
    gi_wp2
    refine ⟨by trivial, fun V1 hsz1 ⟨v, hC⟩ => ?_⟩
    have hc1 := hC.box.cell
    have hpl := hpre.length_le
    rw [List.length_append] at hpl
    have h1 : pre.length + (0 + 1) ≤ maxLen := by unfold maxLen; have := HL.out; simp at hpl; omega
    have h2 : (pre.length + (0 + 1)) * 8 ≤ 140737488355328 := by have := HL.out; simp at hpl; omega
    have H1 := Lib.hid h1
    have H2 := Lib.hid h2
    clear h1 h2
    gi_wp2_with (gi_at_builtin; refine wpListIn_append_new (v := v) rfl _ _ 44 rfl Tryd.underlying44 hi hz0 hz1 hz2 hz3 (by decide) rfl hC.row 0 rfl rfl (int_one _) H1.out H2.out hsz1 ?_; intro g' cap' w1 hown1 hgr1; obtain ⟨hv1, hC2, hk2⟩ := hC.step (by omega) (by omega) hsz1 hown1 hgr1; have hc2 := hv1.cell; have hf2 := hv1.frozen)
    exact ⟨hk2 _ _ _ _ _ (by omega) (by rintro (h | h) <;> omega) (fun k hk => by rintro (h | h) <;> omega) (by omega) (by omega), ⟨_, by rw [natInts_snoc, List.length_append]; exact hC2⟩⟩
  case done =>
    rintro W ⟨v, hC⟩ hK
    go_wp2
    refine ⟨by simp, .inl ⟨_, _, rfl, run_takeDeferred hK, ?_⟩⟩
    have hs := hC.grown.size
    refine ⟨_, results_tmp rfl _ _ _, w.heap.size, v, rfl, Nat.le_refl _, ?_, ?_, ?_⟩
    · exact (World.putObj_heap_other (by omega)).trans hC.box
    · exact owns_lower (ownsRow_putObj hC.row (.deferred none) hK rfl) (by omega)
    · exact below_putObj (hbV.trans (hC.below (Nat.le_refl _) (by omega))) (by omega) _ (by omega)

set_option maxHeartbeats 2000000 in
theorem frees1_seqs (L : List Nat) (p : Option Addr) (cap : Nat) (w : World) (Bn n₀ : Nat) (z : Nat → Prop) (hz : z Bn) (hzp : ∀ a, p = some a → z a.block) (hc : Boxed w Bn 44 (.slice p L.length cap)) (hin : IntsAt w p (natInts L)) (hlen : L.length ≤ 1000000) :
    Seqs Tryd.prog 39 #[.pointer (some ⟨Bn, 0, none⟩)] natV n₀ z 0 L w := by
  intro l J Jx W hW hJ hJx hY h0
  have hcW : W.cell? ⟨Bn, 0, none⟩ = some (.slice p L.length cap) := (hW.cell (p := ⟨Bn, 0, none⟩) hc.lt).trans hc.cell
  have hIW := hin.below hW (Nat.le_refl _)
  have HI := Lib.hid hin
  have hsz := hW.size
  have HW := Lib.hid hIW
  have HZ := Lib.hid hzp
  clear hc hin hW hIW hzp hz
  refine (callsIn_wide (n := 6)).1 ?_
  refine callsIn_of_wp Tryd.func39 rfl trivial ?_ rfl
  simp only [Tryd.ntmps39, List.size_toArray, List.length_cons, List.length_nil, Nat.reduceAdd, Nat.reduceSub, Array.replicate_succ, Array.replicate_zero, List.push_toArray, List.append_toArray, List.nil_append, List.cons_append]
  gi_wp2
  gi_loopw [7] (fun q wr => ∃ k : Nat, k ≤ L.length ∧ q = .int .i64 k ∧ J (L.take k) wr ∧ IntsAt wr p (natInts L) ∧ W.heap.size ≤ wr.heap.size) (fun p _ => L.length - (intOf p).toNat)
  case atStart => exact ⟨0, Nat.zero_le _, rfl, h0, HW.out, Nat.le_refl _⟩
  case round =>
    obtain ⟨k, hk, rfl, hJs, hbw, hwz⟩ := hrel
    by_cases hlt : k < L.length
    · have hlt' : (k : Int) < (L.length : Int) := by omega
      obtain ⟨s, hs⟩ : ∃ s, L[k]? = some s := ⟨_, List.getElem?_eq_getElem hlt⟩
      have HB := Lib.hid hbw
      have hpos : 0 < (natInts L).length := by rw [natInts_len]; omega
      obtain ⟨b, off, rfl, hbl, hcs⟩ := hbw hpos
      clear hbl hpos
      have hcell := hcs k s (by simp [natInts, hs])
      have htk : L.take (k + 1) = L.take k ++ [s] := by rw [List.take_add_one, hs]; rfl
      obtain ⟨fn, tmps, assign, body, hy, hR⟩ := hY (L.take k) s wr hJs (by simpa using hwz) (by rw [← htk]; exact List.take_prefix _ _)
      simp only [natV] at hy
      have HT := Lib.hid htk
      clear hs hcs htk hbw
      gi_wp2
      refine hR.mono ?_
      rintro e W3 (⟨rfl, hJ3, hk3⟩ | ⟨rfl, hJx3, hk3⟩)
      · have hsz3 := hk3.below.size
        gi_wp2
        go_roundw
        case rel => exact ⟨k + 1, by omega, by go_num, by rw [HT.out]; exact hJ3, HB.out.kept hsz3 (fun a e hlt => hk3.extra _ (HZ.out a e) hlt), by omega⟩
        case measure => simp [intOf]; omega
      · gi_wp2
        refine bodyPost_ret (results_none rfl _ _ _) rfl ?_
        exact ⟨⟨_, rfl⟩, .inr ⟨L.take k ++ [s], by rw [← HT.out]; exact List.take_prefix _ _, hJx3⟩⟩
    · obtain rfl : k = L.length := by omega
      gi_wp2
      go_end0
      exact ⟨⟨_, rfl⟩, .inl (by rw [List.take_length] at hJs; exact hJs)⟩
end Go.Proofs.YtdgdbcapojgnlaaDoor
