import Derived.Test.YtnofnolkdijocaaBest
namespace Go.Proofs.Ytnofnolkdijocaa
open Go.RowKit Go.Sort

def markText (k i : Int) : ByteArray := strOfNums [35, k % 256, k / 256 % 256, i % 256, i / 256 % 256]
set_option maxHeartbeats 400000 in
theorem markText_any (k i : Int) (w : World) : Calls Try.prog 29 #[.int .i64 k, .int .i64 i] w (RetBelow (.string (markText k i)) w) := by
  have hc := run_convert_bytes_arg (P := Try.prog) (w.alloc (.cells #[.int .u8 35, .int .u8 (k % 256), .int .u8 (k / 256 % 256), .int .u8 (i % 256), .int .u8 (i / 256 % 256)] 5)) 75 5 Try.underlying75 Try.underlying5 w.heap.size 0 5 5 [35, k % 256, k / 256 % 256, i % 256, i / 256 % 256] rfl
    (fun j hj => by rcases j with _ | _ | _ | _ | _ | j <;> first | (simp; done) | omega) 9 Try.underlying9
  go_enter Try.func29, Try.ntmps29
  go_wp2
  go_ret
  exact ⟨rfl, by go_grown⟩

def markSess (k i : Int) : Sess := { Sess.zero with birth := wrap64 (-7 - k), label := markText k i }
set_option maxHeartbeats 400000 in
theorem markSess_any (k i : Int) (w : World) : Calls Try.prog 26 #[.int .i64 k, .int .i64 i] w (RetBelow (.agg (markSess k i).cells) w) := by
  go_enter Try.func26, Try.ntmps26
  go_wp2_with (first
    | (go_at_call 29; fail))
  refine (markText_any _ _ _).mono ?_
  rintro e w1 ⟨rfl, hb1⟩
  have HB := Lib.hid ((Blk.new w 28 Sess.zero.cells).below hb1 (by simp))
  have HL := Lib.hid (((Below.refl w.heap.size w).alloc (Nat.le_refl _) _).trans (hb1.mono (by simp)))
  clear hb1
  go_wp2_with (refine wpList_store_all (vs := (markSess k i).cells) rfl rfl rfl rfl HB.out rfl (Sess.one _) info28 ?_)
  refine bodyPost_ret (results_at rfl rfl (HB.out.setRow_same _).row rfl rfl info28) rfl ⟨rfl, bel_setRow HL.out (Nat.le_refl _) _⟩

/-- The list that FullSessions makes: the sessions, and 16 marks behind. -/
def fullSess (xs : List Sess) : List Sess := xs ++ (List.range 16).map fun (i : Nat) => markSess 90 (i : Int)
theorem fullSess_len (xs : List Sess) : (fullSess xs).length = xs.length + 16 := by simp [fullSess]
theorem marks_succ (k : Nat) : (List.range (k + 1)).map (fun (i : Nat) => markSess 90 (i : Int)) = (List.range k).map (fun (i : Nat) => markSess 90 (i : Int)) ++ [markSess 90 (k : Int)] := by simp [List.range_succ]

/-- A slice of sessions that a call made. -/
def Made (B : Nat) (l : List Sess) (w : World) (e : Ending) (w' : World) : Prop :=
  ∃ g cap, e = .returned (.slice (some ⟨g, 0, none⟩) l.length cap) ∧ w'.ownsRow B 28 12 (.slice (some ⟨g, 0, none⟩) l.length cap) l.length (flat Sess.cells l) ∧ Below B w w'

theorem zero28 : (Try.prog.info? 28).map (fun i => (i.zero, i.size, i.bytes)) = some (some (.agg Sess.zero.cells), 12, 112) := by kernel_rfl

/-- At the head of a round of the first loop. -/
def Full1 (w : World) (xs : List Sess) (v i : Value) (wr : World) : Prop :=
  ∃ k : Nat, k ≤ xs.length ∧ i = .int .i64 k ∧ wr.ownsRow w.heap.size 28 12 v k (flat Sess.cells (xs.take k)) ∧ Below w.heap.size w wr
def Full2 (w : World) (xs : List Sess) (v i : Value) (wr : World) : Prop :=
  ∃ k : Nat, k ≤ 16 ∧ i = .int .i64 k ∧ wr.ownsRow w.heap.size 28 12 v (xs.length + k) (flat Sess.cells (xs ++ (List.range k).map fun (i : Nat) => markSess 90 (i : Int))) ∧ Below w.heap.size w wr

/-- What an append of one more session asks. -/
def Fits (n : Nat) : Prop := n ≤ maxLen ∧ n * 112 ≤ 140737488355328
theorem fits16 {n : Nat} (h : n * 112 ≤ 140737488351232) : ∀ k, k ≤ n + 16 → Fits k := fun k hk => ⟨by unfold maxLen; omega, by omega⟩

set_option maxHeartbeats 1000000 in
theorem full_any (A : Option Addr) (cap : Nat) (xs : List Sess) (w : World) (hr : SessIn w A xs) (hl : xs.length * 112 ≤ 140737488351232) :
    Calls Try.prog 19 #[.slice A xs.length cap] w (Made w.heap.size (fullSess xs) w) := by
  have HR := Lib.hid hr; clear hr
  have hl1 : xs.length ≤ 9223372036854775807 := by omega
  have HF := Lib.hid (fits16 hl)
  clear hl
  obtain ⟨i0, hi, hz0, hz1, hz2⟩ := info_parts zero28
  go_enter Try.func19, Try.ntmps19
  go_wp2
  go_loopw [3, 4] (Full1 w xs) (fun _ i _ => xs.length - (intOf i).toNat)
  case atStart => exact ⟨0, Nat.zero_le _, rfl, World.ownsRow_nil _ _ _ _, Below.refl _ _⟩
  case round =>
    obtain ⟨k, hk, rfl, hown, hbel⟩ := hrel
    by_cases hlt : k < xs.length
    · obtain ⟨s, hs⟩ : ∃ s, xs[k]? = some s := ⟨_, List.getElem?_eq_getElem hlt⟩
      obtain ⟨b, off, rfl, hb, hrow⟩ := HR.out (by omega)
      have HAT := Lib.hid ((hrow k s hs).below hbel hb)
      have ht : flat Sess.cells (xs.take (k + 1)) = flat Sess.cells (xs.take k) ++ s.cells.toList := by
        rw [List.take_add_one, hs]; exact flat_snoc s
      have HT := Lib.hid ht
      have HS := Lib.hid hs
      have hsz := hbel.size
      have HK := Lib.hid (HF.out (k + 1) (by omega))
      clear ht hs hrow HR
      go_wp2_with (first
        | (refine wpList_load_at rfl rfl rfl HAT.out rfl rfl info28 ?_)
        | (refine wpList_buildSlice_one rfl rfl rfl Try.underlying22 hi hz0 hz1 rfl (by decide) (by decide) ?_)
        | (at_builtin; refine wpList_append_one (v := u3) rfl _ _ 22 rfl Try.underlying22 hi hz0 hz1 hz2 rfl (by decide) rfl hown rfl rfl (Sess.one s) HK.out.1 HK.out.2 hsz ?_; intro g' cap' w1 hown1 hgr1))
      go_roundw
      case rel => exact ⟨k + 1, by omega, by go_num, by rw [HT.out]; exact hown1, bel_grown hbel hgr1 hown (Nat.le_refl _) hsz⟩
      case measure => simp [intOf]; omega
    · have ht : xs.take k = xs := List.take_of_length_le (by omega)
      rw [ht] at hown
      obtain rfl : k = xs.length := by omega
      clear ht HR
      go_wp2
      go_loopw [3, 5] (Full2 w xs) (fun _ i _ => 16 - (intOf i).toNat)
      case atStart => exact ⟨0, Nat.zero_le _, rfl, by simpa using hown, hbel⟩
      case round =>
        clear hown hbel
        obtain ⟨k, hk, rfl, hown, hbel⟩ := hrel
        by_cases hlt : k < 16
        · have hsz := hbel.size
          have HK := Lib.hid (HF.out (xs.length + k + 1) (by omega))
          go_wp2_with (first
            | (go_at_call 26; fail))
          refine (markSess_any _ _ _).mono ?_
          rintro e w1 ⟨rfl, hb1⟩
          have hown1 : w1.ownsRow w.heap.size 28 12 u3 (xs.length + k) (flat Sess.cells (xs ++ (List.range k).map fun (i : Nat) => markSess 90 (i : Int))) := own_below hown hb1 
          have hbel1 := hbel.trans (hb1.mono hsz)
          have hsz1 := hbel1.size
          clear hown hb1 hbel hsz
          go_wp2_with (first
            | (refine wpList_buildSlice_one rfl rfl rfl Try.underlying22 hi hz0 hz1 rfl (by decide) (by decide) ?_)
            | (at_builtin; refine wpList_append_one (v := u3) rfl _ _ 22 rfl Try.underlying22 hi hz0 hz1 hz2 rfl (by decide) rfl hown1 rfl rfl (Sess.one _) HK.out.1 HK.out.2 hsz1 ?_; intro g' cap' w2 hown2 hgr2))
          go_roundw
          case rel => exact ⟨k + 1, by omega, by go_num, by rw [marks_succ, ← List.append_assoc, flat_snoc]; exact hown2, bel_grown hbel1 hgr2 hown1 (Nat.le_refl _) hsz1⟩
          case measure => simp [intOf]; omega
        · obtain rfl : k = 16 := by omega
          go_wp2
          obtain ⟨g, cp, rfl⟩ := own_form hown (by omega)
          go_ret
          refine ⟨g, cp, ?_, ?_, hbel⟩
          · rw [fullSess_len]; rfl
          · rw [fullSess_len]; exact hown
end Go.Proofs.Ytnofnolkdijocaa
