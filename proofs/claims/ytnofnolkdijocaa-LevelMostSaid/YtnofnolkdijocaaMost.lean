import Derived.Test.YtnofnolkdijocaaMostLaws
import Derived.Test.YtnofnolkdijocaaBack
namespace Go.Proofs.Ytnofnolkdijocaa
open Go.RowKit Go.Sort

structure AmRel (w : World) (xs : List Sess) (s : Sess) (i : Value) (wr : World) : Prop where
  ex : ∃ k : Nat, k ≤ xs.length ∧ i = .int .i64 k ∧ (xs.take k).any (·.same s) = false ∧ Blk wr w.heap.size 28 s.cells ∧ Below w.heap.size w wr
set_option maxHeartbeats 1000000 in
theorem among_any (A : Option Addr) (cap : Nat) (xs : List Sess) (s : Sess) (w : World) (hr : SessIn w A xs) (hl : xs.length ≤ 1000) :
    Calls Try.prog 12 #[.slice A xs.length cap, .agg s.cells] w (RetBelow (.bool (xs.any (·.same s))) w) := by
  have HR := Lib.hid hr; clear hr
  have HL := Lib.hid hl
  clear hl
  go_enter Try.func12, Try.ntmps12
  have HS := Lib.hid (Blk.new w 28 s.cells)
  have BEL0 := Lib.hid ((Below.refl w.heap.size w).alloc (Nat.le_refl _) (.cells s.cells 28))
  go_wp2
  go_loopw [5] (AmRel w xs s) (fun i _ => xs.length - (intOf i).toNat)
  case atStart => exact ⟨⟨0, Nat.zero_le _, rfl, rfl, HS.out, BEL0.out⟩⟩
  case round =>
    clear HS BEL0
    obtain ⟨⟨k, hk, rfl, hno, hB, hbel⟩⟩ := hrel
    have HB := Lib.hid hB
    have BEL := Lib.hid hbel
    have HNO := Lib.hid hno
    have hsz := hbel.size
    have hB1 := hB.lt
    by_cases hlt : k < xs.length
    · obtain ⟨t, ht⟩ : ∃ t, xs[k]? = some t := ⟨_, List.getElem?_eq_getElem hlt⟩
      have HT := Lib.hid ht
      obtain ⟨b, off, rfl, hb, hrow⟩ := HR.out (by omega)
      have hbw : b < wr.heap.size := Nat.lt_of_lt_of_le hb hsz
      have HAT := Lib.hid (((hrow k t ht).below hbel hb).class_ hbw)
      have HSR := Lib.hid (HB.out.row.class_ hB1)
      have hkl : (k : Int) < (xs.length : Int) := by omega
      have heq := fun s t w => eql_sess s t w
      have hl1 : (xs.length : Int) ≤ 1000 := by have := HL.out; omega
      clear ht hrow hno hB hbel
      go_wp2
      refine wp_region_quiet_below (by kernel_rfl) (by kernel_rfl) ?_
      repeat (first
        | go_big_quiet_skip
        | (refine wpQuiet_load_at rfl rfl rfl HAT.out rfl rfl info28 ?_; simp only [Act.put, List.setIfInBounds_toArray, List.set_cons_zero, List.set_cons_succ])
        | (refine wpQuiet_load_at rfl rfl rfl HSR.out rfl rfl info28 ?_; simp only [Act.put, List.setIfInBounds_toArray, List.set_cons_zero, List.set_cons_succ])
        | (go_big_quiet_want; go_big_quiet_op; go_big_quiet_on))
      refine wpQuiet_nil ?_
      intro w2 hC2
      have hb2 := below_class hC2
      have BEL2 := Lib.hid (BEL.out.trans (hb2.mono hsz))
      have HB2 := Lib.hid (HB.out.below hb2 HB.out.lt)
      clear hC2 hb2
      cases hsm : t.same s
      · go_wp2
        go_roundw
        case rel =>
          refine ⟨⟨k + 1, by omega, by go_num, ?_, HB2.out, BEL2.out⟩⟩
          rw [List.take_add_one, HT.out, List.any_append, HNO.out]
          simp [hsm]
        case measure => simp [intOf]; omega
      · go_wp2
        go_ret
        refine ⟨?_, BEL2.out⟩
        have : xs.any (·.same s) = true := List.any_eq_true.2 ⟨t, List.mem_of_getElem? HT.out, hsm⟩
        rw [this]
        rfl
    · have hkn : k = xs.length := by omega
      have hno' : xs.any (·.same s) = false := by rw [hkn, List.take_length] at hno; exact hno
      have HN := Lib.hid hno'
      have hkl : ¬ (k : Int) < (xs.length : Int) := by omega
      clear hno hno' hB hbel
      go_wp2
      go_ret
      refine ⟨?_, BEL.out⟩
      rw [HN.out]
      rfl
theorem among_in {xs : List Sess} {s : Sess} (h : s ∈ xs) : xs.any (·.same s) = true := List.any_eq_true.2 ⟨s, h, Sess.same_refl s⟩

/-- Appending an empty list that is nil. -/
theorem run_append_empty {P : Program} (w : World) (t ty e : TypeId) (i : TypeInfo) (ht : P.underlying t = some (.slice e)) (hi : P.info? e = some i) (A : Option Addr) (n cap c : Nat) (h : n ≤ cap) :
    (Builtin.append_ #[t, t] ty #[.slice A n cap, .slice none 0 c]).run P w = .ok (.slice A n cap) w := by
  cases A <;> simp [Builtin.append_, run_underlying ht, sizeOf, typeInfo, hi, Builtin.lenOf, h, run_firstCells_none, storeCells]
end Go.Proofs.Ytnofnolkdijocaa
