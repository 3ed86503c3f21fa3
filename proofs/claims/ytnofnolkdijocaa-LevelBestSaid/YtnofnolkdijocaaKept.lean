import Derived.Test.YtnofnolkdijocaaLent
namespace Go.Proofs.Ytnofnolkdijocaa
open Go.RowKit Go.Sort

/-- What LentSessions hands back: the sessions, with the marks in the spare room. -/
def Lent (B : Nat) (xs : List Sess) (w : World) (e : Ending) (w' : World) : Prop :=
  ∃ g cap, e = .returned (.slice (some ⟨g, 0, none⟩) xs.length cap) ∧ w'.ownsRow B 28 12 (.slice (some ⟨g, 0, none⟩) (fullSess xs).length cap) (fullSess xs).length (flat Sess.cells (fullSess xs)) ∧ Below B w w'

theorem own_cap {w : World} {base : Nat} {e : TypeId} {size : Nat} {g n cap : Nat} {xs : List Value} (h : w.ownsRow base e size (.slice (some ⟨g, 0, none⟩) n cap) n xs) : n ≤ cap ∧ cap ≤ maxLen ∧ base ≤ g ∧ g < w.heap.size := by
  have hl := h.lt g rfl
  rcases h.2 with ⟨h, _⟩ | ⟨g', cap', cur, hv, _, _, h1, h2, _⟩
  · cases h
  · injection hv with h3 h4 h5
    subst h5
    exact ⟨h1, h2, hl.1, hl.2⟩

set_option maxHeartbeats 400000 in
theorem lent_any (A : Option Addr) (cap : Nat) (xs : List Sess) (w : World) (hr : SessIn w A xs) (hl : xs.length * 112 ≤ 140737488351232) :
    Calls Try.prog 8 #[.slice A xs.length cap] w (Lent w.heap.size xs w) := by
  have HR := Lib.hid hr
  have HL := Lib.hid hl
  clear hr hl
  go_enter Try.func8, Try.ntmps8
  go_wp2_with (first
    | (go_at_call 19; fail))
  refine (full_any A cap xs w HR.out HL.out).mono ?_
  rintro e w1 ⟨g, cp, rfl, hown, hbel⟩
  have hc := (own_cap hown)
  have hlc : xs.length ≤ cp := by have := fullSess_len xs; omega
  have HO := Lib.hid hown
  have hcm : cp ≤ 9223372036854775807 := by have := hc.2.1; unfold maxLen at this; omega
  clear hown hc HL
  go_wp2
  go_ret
  exact ⟨g, cp, rfl, HO.out, hbel⟩

theorem fullSess_lo {xs : List Sess} {k : Nat} {s : Sess} (h : xs[k]? = some s) : (fullSess xs)[k]? = some s := by
  unfold fullSess
  rw [List.getElem?_append_left (List.getElem?_eq_some_iff.1 h).1]; exact h
theorem fullSess_hi {xs : List Sess} {k : Nat} (h : xs.length ≤ k) (h2 : k < xs.length + 16) : (fullSess xs)[k]? = some (markSess 90 ((k : Int) - xs.length)) := by
  unfold fullSess
  rw [List.getElem?_append_right h, List.getElem?_map, List.getElem?_range (by omega)]
  simp only [Option.map_some, Option.some.injEq]
  congr 1
  omega

def KRel (w : World) (n : Nat) (i : Value) (wr : World) : Prop := ∃ k : Nat, k ≤ n ∧ i = .int .i64 k ∧ Below w.heap.size w wr

set_option maxHeartbeats 1000000 in
theorem keptFull_any (g cap base lcap : Nat) (A : Option Addr) (xs : List Sess) (w : World) (ho : w.ownsRow base 28 12 (.slice (some ⟨g, 0, none⟩) (fullSess xs).length cap) (fullSess xs).length (flat Sess.cells (fullSess xs)))
    (hr : SessIn w A xs) (hl : xs.length * 112 ≤ 140737488351232) :
    Calls Try.prog 21 #[.slice (some ⟨g, 0, none⟩) (xs.length + 16) cap, .slice A xs.length lcap] w (RetBelow (.bool true) w) := by
  have HR := Lib.hid hr
  have hl1 : xs.length + 16 ≤ 9223372036854775807 := by omega
  have hgw := (own_cap ho).2.2.2
  have HO := Lib.hid ho
  clear hr hl ho
  have hne : ((xs.length : Int) + 16 != (xs.length : Int) + 16) = false := by simp
  go_enter Try.func21, Try.ntmps21
  go_wp2
  go_loopw [5] (KRel w (xs.length + 16)) (fun i _ => xs.length + 16 - (intOf i).toNat)
  case atStart => exact ⟨0, Nat.zero_le _, rfl, Below.refl _ _⟩
  case round =>
    obtain ⟨k, hk, rfl, hbel⟩ := hrel
    by_cases hlt : k < xs.length + 16
    · have hsz := hbel.size
      go_wp2_with (first
        | (go_at_call 26; fail))
      refine (markSess_any _ _ _).mono ?_
      rintro e w1 ⟨rfl, hb1⟩
      have hbel1 := hbel.trans (hb1.mono hsz)
      have hsz1 := hbel1.size
      clear hb1 hbel hsz
      by_cases hkn : k < xs.length
      · obtain ⟨s, hs⟩ : ∃ s, xs[k]? = some s := ⟨_, List.getElem?_eq_getElem hkn⟩
        obtain ⟨b, off, rfl, hb, hrow⟩ := HR.out (by omega)
        have hbel2 : Below w.heap.size w (w1.alloc (.cells s.cells 28)) := hbel1.alloc hsz1 _
        have HAT := Lib.hid (((hrow k s hs).below hbel1 hb).alloc (Nat.lt_of_lt_of_le hb hsz1))
        have HG := Lib.hid ((own_row Sess.cells_size HO.out (fullSess_lo hs)).below hbel2 hgw)
        clear hs hrow HR
        go_wp2_with (first
          | (refine wpList_store_new rfl rfl rfl rfl rfl (Sess.one _) info28 ?_)
          | (refine wpList_load_at rfl rfl rfl (HAT.out _) rfl rfl info28 ?_))
        try simp only [Act.put, List.setIfInBounds_toArray, List.set_cons_zero, List.set_cons_succ]
        refine wp_region_quiet_below (by kernel_rfl) (by kernel_rfl) ?_
        have hgk : ((k : Int)) < (xs.length : Int) + 16 := by omega
        have hsm := fun x => Sess.same_refl x
        have hnq := fun s t w => neq_sess s t w
        repeat (first
          | go_big_quiet_skip
          | (refine wpQuiet_load_at rfl rfl rfl (HG.out.class_ (by simp; omega)) rfl rfl info28 ?_; simp only [Act.put, List.setIfInBounds_toArray, List.set_cons_zero, List.set_cons_succ])
          | (refine wpQuiet_load_at rfl rfl rfl ((Blk.new w1 28 s.cells).row.class_ (by simp)) rfl rfl info28 ?_; simp only [Act.put, List.setIfInBounds_toArray, List.set_cons_zero, List.set_cons_succ])
          | (go_big_quiet_want; go_big_quiet_op; go_big_quiet_on))
        refine wpQuiet_nil ?_
        intro w2 hC2
        have hb2 := below_class hC2
        clear hC2
        go_wp2
        go_roundw
        case rel => exact ⟨k + 1, by omega, by go_num, hbel2.trans (hb2.mono hbel2.size)⟩
        case measure => simp [intOf]; omega
      · have hge : xs.length ≤ k := by omega
        have hbel2 : Below w.heap.size w (w1.alloc (.cells (markSess 90 ((k : Int) - xs.length)).cells 28)) := hbel1.alloc hsz1 _
        have HG := Lib.hid ((own_row Sess.cells_size HO.out (fullSess_hi hge hlt)).below hbel2 hgw)
        clear HR
        go_wp2_with (first
          | (refine wpList_store_new rfl rfl rfl rfl rfl (Sess.one _) info28 ?_))
        try simp only [Act.put, List.setIfInBounds_toArray, List.set_cons_zero, List.set_cons_succ]
        refine wp_region_quiet_below (by kernel_rfl) (by kernel_rfl) ?_
        have hgk : ((k : Int)) < (xs.length : Int) + 16 := by omega
        have hsm := fun x => Sess.same_refl x
        have hnq := fun s t w => neq_sess s t w
        repeat (first
          | go_big_quiet_skip
          | (refine wpQuiet_load_at rfl rfl rfl (HG.out.class_ (by simp; omega)) rfl rfl info28 ?_; simp only [Act.put, List.setIfInBounds_toArray, List.set_cons_zero, List.set_cons_succ])
          | (refine wpQuiet_load_at rfl rfl rfl ((Blk.new w1 28 (markSess 90 ((k : Int) - xs.length)).cells).row.class_ (by simp)) rfl rfl info28 ?_; simp only [Act.put, List.setIfInBounds_toArray, List.set_cons_zero, List.set_cons_succ])
          | (go_big_quiet_want; go_big_quiet_op; go_big_quiet_on))
        refine wpQuiet_nil ?_
        intro w2 hC2
        have hb2 := below_class hC2
        clear hC2
        go_wp2
        go_roundw
        case rel => exact ⟨k + 1, by omega, by go_num, hbel2.trans (hb2.mono hbel2.size)⟩
        case measure => simp [intOf]; omega
    · go_wp2
      go_ret
      exact ⟨rfl, hbel⟩

set_option maxHeartbeats 400000 in
theorem kept_any (g cap base lcap : Nat) (A : Option Addr) (xs : List Sess) (w : World) (ho : w.ownsRow base 28 12 (.slice (some ⟨g, 0, none⟩) (fullSess xs).length cap) (fullSess xs).length (flat Sess.cells (fullSess xs)))
    (hr : SessIn w A xs) (hl : xs.length * 112 ≤ 140737488351232) :
    Calls Try.prog 10 #[.slice (some ⟨g, 0, none⟩) xs.length cap, .slice A xs.length lcap] w (RetBelow (.bool true) w) := by
  have hc := own_cap ho
  have hlc : xs.length + 16 ≤ cap := by have := fullSess_len xs; omega
  have hcm : cap ≤ 9223372036854775807 := by have := hc.2.1; unfold maxLen at this; omega
  have hne : ((xs.length : Int) != (xs.length : Int)) = false := by simp
  have HR := Lib.hid hr
  have HL := Lib.hid hl
  have HO := Lib.hid ho
  clear hr hl ho hc
  go_enter Try.func10, Try.ntmps10
  go_wp2_with (first
    | (go_at_call 21; fail))
  refine (keptFull_any g cap base lcap A xs w HO.out HR.out HL.out).mono ?_
  rintro e w1 ⟨rfl, hb1⟩
  go_wp2
  go_ret
  exact ⟨rfl, hb1⟩
end Go.Proofs.Ytnofnolkdijocaa
