/-
  Package grant: the first rule that is broken: the loop over the rules.
-/
import Derived.Test.YthoibafhbacfiaaDoorGFirst
namespace Go.Proofs.YthoibafhbacfiaaDoor
set_option maxRecDepth 100000
open Go.RowKit

theorem ruleInfo : (Tryd.prog.info? 50).map (·.size) = some 2 := by kernel_rfl
/-- In every later world the birth's rules answer as told. -/
structure RulesAt (b : Nat) (w : World) (l : List Rule) : Prop where
  fn : ∀ (j : Nat) (r : Rule), l[j]? = some r → ∀ args w', (callFunc r.f args).run Tryd.prog w' = .ok (.enter r.f args) w'
  calls : ∀ (j : Nat) (r : Rule), l[j]? = some r → ∀ w', Below w.heap.size w w' → Calls Tryd.prog r.f #[.pointer (some ⟨b, 0, none⟩)] w' (RetB (.bool r.c) w')
set_option maxHeartbeats 2000000 in
theorem first_any (l : List Rule) (b g : Nat) (w : World) (hn : l.length ≤ 10) (hg : Blk w g 50 (flat Rule.cells l).toArray) (hr : RulesAt b w l) (hp : ∀ (j : Nat) (r : Rule), l[j]? = some r → r.no ≠ 0) :
    Calls Tryd.prog 18 #[.pointer (some ⟨b, 0, none⟩), .slice (some ⟨g, 0, none⟩) l.length l.length] w (RetB (errK (firstNo l)) w) := by
  have HUR := Lib.hid Tryd.underlying50
  have HG := Lib.hid hg
  have HR := Lib.hid hr
  have HL := Lib.hid hg.lt
  have HP := Lib.hid hp
  clear hg hr hp
  go_enter Tryd.func18, Tryd.ntmps18
  go_wp2
  go_loopw [9] (fun i wr => ∃ k : Nat, k ≤ l.length ∧ i = .int .i64 k ∧ Below w.heap.size w wr ∧ firstNo l = firstNo (l.drop k)) (fun i _ => l.length - (intOf i).toNat)
  case atStart => exact ⟨0, Nat.zero_le _, rfl, Below.refl _ _, rfl⟩
  case round =>
    obtain ⟨k, hk, rfl, hb, hf⟩ := hrel
    have HF := Lib.hid hf
    have HB := Lib.hid hb
    clear hf
    by_cases hlt : k < l.length
    · have hlt1 : (k : Int) < (l.length : Int) := by omega
      have hk0 : (0 : Int) ≤ (k : Int) := by omega
      obtain ⟨r, hr⟩ : ∃ r, l[k]? = some r := ⟨_, List.getElem?_eq_getElem hlt⟩
      have hrow : RowAt wr g (k * 2) r.cells := ⟨fun j v hv => by
        rw [(HG.out.below hb HL.out).cell]
        have := flat_get Rule.cells_size l k r hr j v hv
        simpa using this⟩
      have HROW := Lib.hid hrow
      have HX := Lib.hid hr
      have hen := HR.out.fn k r hr
      have HC := Lib.hid (HR.out.calls k r hr)
      have hdr : l.drop k = r :: l.drop (k + 1) := by
        rw [← List.getElem_cons_drop hlt]; congr 1; exact (List.getElem?_eq_some_iff.1 hr).2
      have HD := Lib.hid (HF.out.trans (congrArg firstNo hdr))
      have HLT := Lib.hid hlt
      clear hdr hr hrow hlt hb
      go_wp2_with (first
        | (refine wpList_load_at (ty := 50) rfl rfl rfl HROW.out HUR.out rfl ruleInfo ?_)
        | (refine wpList_store_new (ty := 50) rfl rfl rfl rfl rfl (Rule.one _) ruleInfo ?_))
      trace_state
      refine (HC.out _ (bel_alloc HB.out _)).mono ?_
      rintro e w1 ⟨rfl, h1⟩
      have hb1 := (bel_alloc HB.out (.cells r.cells 50)).trans (h1.mono (bel_alloc HB.out (.cells r.cells 50)).size)
      have HB1 := Lib.hid hb1
      have h0 := (((Blk.new wr 50 r.cells).below h1 (by simp)).cell 0).trans r.c0
      rcases hc : r.c with _ | _
      · have HN := Lib.hid (show firstNo l = firstNo (l.drop (k + 1)) from HD.out.trans (by rw [firstNo, hc]; rfl))
        clear hb1 h1 hen h0
        go_wp2
        go_roundw
        case rel => exact ⟨k + 1, by have := HLT.out; omega, by go_num, HB1.out, HN.out⟩
        case measure => have := HLT.out; simp [intOf]; omega
      · have HN := Lib.hid (show firstNo l = r.no from HD.out.trans (by rw [firstNo, hc]; rfl))
        clear hb1 h1 hen
        go_wp2
        go_ret
        exact ⟨by rw [HN.out, errK_pos (HP.out k r HX.out)]; rfl, HB1.out⟩
    · obtain rfl : k = l.length := by omega
      have HN := Lib.hid (show firstNo l = 0 from HF.out.trans (by rw [List.drop_length]; rfl))
      have hlt1 : ¬ ((l.length : Int) < (l.length : Int)) := by omega
      clear hlt hb
      go_wp2
      go_ret
      exact ⟨by rw [HN.out]; rfl, HB.out⟩
end Go.Proofs.YthoibafhbacfiaaDoor
