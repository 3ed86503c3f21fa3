/-
  Merged texts: Two15, RfTold16, RfDoes, RfPut.
-/
import Derived.Test.YtdgdbcapojgnlaaDoorGg
import Derived.Test.YtdgdbcapojgnlaaDoorGb
import Derived.Test.YtdgdbcapojgnlaaDoorGh
import Derived.Test.YtdgdbcapojgnlaaDoorGe
import Derived.Test.YtdgdbcapojgnlaaDoorGc
import Derived.Deep.CutRange
/-
  An arena and the document's, side by side: what a call of either turns; lineagelaw15.does needs each call's two answers.
-/
namespace Go.Proofs.YtdgdbcapojgnlaaDoor
set_option maxRecDepth 100000
open Go.RowKit Go.Sort

/-- A struct's load at a step of a region that draws its order. -/
theorem step_load_at {P : Program} {w : World} {ops : Array Oper} {o' : Oper} {a : Act} {K : Act → World → Prop} {Q : Exit → Act → World → Prop} {E : Prop} {ty : TypeId} {x : Operand} (hw : Region.wanted o' (yielded ops a.tmps) = true) (ho : o'.op = .load ty x)
    {g o : Nat} {cs : Array Value} {d : TypeDesc} (hx : a.eval x = .pointer (some ⟨g, o, none⟩)) (h : RowAt w g o cs) (hu : P.underlying ty = some d) (hd : isAggD d = true) (hi : (P.info? ty).map (·.size) = some cs.size)
    (hK : K (a.put o'.dst (.agg cs)) w) : if Region.wanted o' (yielded ops a.tmps) = true then Oper.wp P o' a w K Q else E := by
  rw [if_pos hw]
  unfold Oper.wp execOp
  simp only [ho, hx, Sem.run_bind, run_loadAt_at w hu hd hi h, Result.andThen_ok, Sem.run_pure]
  exact hK
/-- The arena at g is SA, the document's at h and b is SR; since w nothing else has turned. -/
structure Two (w : World) (g lo h b : Nat) (SA SR : St) (W : World) : Prop where
  ar : IsAr W g SA
  rf : IsRB lo h b SR W
  tn : Tn (fun k => k = g ∨ k = h ∨ k = b) w W
section
variable {w W W' : World} {g lo h b : Nat} {SA SR S' : St}
theorem Two.start (hA : IsAr w g SA) (hR : IsRB lo h b SR w) : Two w g lo h b SA SR w := ⟨hA, hR, Tn.refl _ _⟩
theorem Two.call (t : Two w g lo h b SA SR W) (hb : Below W.heap.size W W') : Two w g lo h b SA SR W' := ⟨t.ar.below hb t.ar.lt, t.rf.call hb, t.tn.call hb⟩
theorem Two.turnA (t : Two w g lo h b SA SR W) (hg : g < lo) (hA : IsAr W' g S') (hG : W.grownBy W' (some g)) : Two w g lo h b S' SR W' := ⟨hA, t.rf.kept hG hg, t.tn.grown hG (.inl rfl)⟩
theorem IsRB.los (r : IsRB lo h b SR W) : lo ≤ h ∧ lo ≤ b ∧ h < W.heap.size ∧ b < W.heap.size := by obtain ⟨_, _, _, r⟩ := r; exact ⟨r.loh, r.lob, r.head.lt, r.slots.lt⟩
theorem Two.turnR (t : Two w g lo h b SA SR W) (hg : g < lo) (hR : IsRB lo h b S' W') (hT : Tn (fun k => k = h ∨ k = b) W W') : Two w g lo h b SA S' W' :=
  ⟨t.ar.block (hT.block g t.ar.lt (by have := t.rf.los; omega)), hR, t.tn.trans (hT.mono fun k hk => .inr hk)⟩
theorem Two.block (t : Two w g lo h b SA SR W) {k : Nat} (hk : k < w.heap.size) (h1 : k ≠ g ∧ k ≠ h ∧ k ≠ b) : W'.heap[k]? = W.heap[k]? → W'.heap[k]? = w.heap[k]? := fun e => e.trans (t.tn.block k hk (by omega))
theorem Two.row (t : Two w g lo h b SA SR W) {k o : Nat} {cs : Array Value} (hk : k < w.heap.size) (h1 : k ≠ g ∧ k ≠ h ∧ k ≠ b) (hr : RowAt w k o cs) : RowAt W k o cs :=
  ⟨fun j v hv => (World.cell?_of_block (a := ⟨k, o + j, none⟩) (t.tn.block k hk (by omega))).trans (hr.at_ j v hv)⟩
theorem Two.cell (t : Two w g lo h b SA SR W) {k o : Nat} {v : Value} (hk : k < w.heap.size) (h1 : k ≠ g ∧ k ≠ h ∧ k ≠ b) (hr : w.cell? ⟨k, o, none⟩ = some v) : W.cell? ⟨k, o, none⟩ = some v :=
  (World.cell?_of_block (a := ⟨k, o, none⟩) (t.tn.block k hk (by omega))).trans hr
theorem Two.laid (t : Two w g lo h b SA SR W) (hl : Laid w) (h1 : 0 ≠ g ∧ 0 ≠ h ∧ 0 ≠ b) : Laid W := t.cell hl.pos h1 hl
end
/-- What a call of the arena answers: the error k, and what the arena is then. -/
def AnsA (g : Nat) (k : Int) (S' : St) (W : World) (e : Ending) (W' : World) : Prop := e = .returned (errOf k) ∧ IsAr W' g S' ∧ W.grownBy W' (some g)
def AnsR (lo h b : Nat) (k : Int) (S' : St) (W : World) (e : Ending) (W' : World) : Prop := e = .returned (.int .i64 k) ∧ IsRB lo h b S' W' ∧ Tn (fun k => k = h ∨ k = b) W W'
theorem turned_self (w : World) (g : Option Nat) : w.grownBy w g := ⟨rfl, rfl, rfl, Nat.le_refl _, fun _ _ _ => rfl⟩
section
variable {S : St} {g lo h b : Nat}
/-- Put, at any number. -/
def St.putZ (S : St) (n : Int) (s : SlotV) : St := if inR n = true then S.put n.toNat s else S
def St.dropZ (S : St) (n : Int) : St := if inR n = true ∧ n.toNat ∈ S.free then S.drop n.toNat else S
def St.giveZ (S : St) (n : Int) : St := if inR n = true ∧ n.toNat ∉ S.free then S.give n.toNat else S
def St.takeZ (S : St) : St := if S.free = [] then S else S.take
def putNo (n : Int) : Int := if inR n = true then 0 else 1
def dropNo (S : St) (n : Int) : Int := if inR n = true then (if n.toNat ∈ S.free then 0 else 10) else 1
def giveNo (S : St) (n : Int) : Int := if inR n = true then (if n.toNat ∈ S.free then 9 else 0) else 1
theorem no_ok (S : St) (n : Int) : (0 ≤ putNo n ∧ putNo n ≤ 24) ∧ (0 ≤ dropNo S n ∧ dropNo S n ≤ 24) ∧ (0 ≤ giveNo S n ∧ giveNo S n ≤ 24) := by
  unfold putNo dropNo giveNo
  repeat' constructor
  all_goals (repeat' split) <;> omega
theorem nat_of {n : Int} (hn : inR n = true) : ∃ k : Nat, n = (k : Int) ∧ k < 32 := by
  have := inR_iff.1 hn
  exact ⟨n.toNat, by omega, by omega⟩
theorem not_in {n : Int} (hn : inR n = false) : n < 0 ∨ 32 ≤ n := by
  have : ¬ (0 ≤ n ∧ n < 32) := fun hh => by rw [inR_iff.2 hh] at hn; cases hn
  omega
theorem putA (n : Int) (s : SlotV) (W : World) (hA : IsAr W g S) (hw0 : 0 ≤ S.writes) (hw1 : S.writes < 1000000000) :
    Calls Tryd.prog 29 #[.pointer (some ⟨g, 0, none⟩), .int .i64 n, .agg s.cells] W (AnsA g (putNo n) (S.putZ n s) W) := by
  unfold putNo St.putZ
  rcases hn : inR n with _ | _
  · exact (put_out (not_in hn) _ s W).mono fun e W' ⟨h1, h2⟩ => ⟨by rw [h1]; rfl, hA.below h2 hA.lt, grownBy_below h2 _⟩
  · obtain ⟨k, rfl, hk⟩ := nat_of hn
    exact (put_st hk s g W hA hw0 hw1).mono fun e W' ⟨h1, h2, h3⟩ => ⟨by rw [h1]; rfl, h2, h3⟩
theorem putR (n : Int) (s : SlotV) (W : World) (hR : IsRB lo h b S W) (hw0 : 0 ≤ S.writes) (hw1 : S.writes < 1000000000) :
    Calls Tryd.prog 30 #[.pointer (some ⟨h, 0, none⟩), .int .i64 n, .agg s.cells] W (AnsR lo h b (putNo n) (S.putZ n s) W) := by
  unfold putNo St.putZ
  rcases hn : inR n with _ | _
  · exact (rput_out n _ s W hn).mono fun e W' ⟨h1, h2⟩ => ⟨by rw [h1]; rfl, hR.call h2, Tn.ofBelow _ h2⟩
  · obtain ⟨k, rfl, hk⟩ := nat_of hn
    exact (rput_in hk s W hR hw0 hw1).mono fun e W' ⟨h1, h2, h3⟩ => ⟨by rw [h1]; rfl, h2, h3⟩
theorem placeA (n : Int) (W : World) (hA : IsAr W g S) :
    Calls Tryd.prog 33 #[.pointer (some ⟨g, 0, none⟩), .int .i64 n] W (AnsA g (dropNo S n) (S.dropZ n) W) := by
  unfold dropNo St.dropZ
  rcases hn : inR n with _ | _
  · exact (place_out (not_in hn) _ W).mono fun e W' ⟨h1, h2⟩ => by subst h2; exact ⟨by rw [h1]; rfl, by simpa using hA, turned_self _ _⟩
  · obtain ⟨k, rfl, hk⟩ := nat_of hn
    by_cases hm : k ∈ S.free
    · exact (place_st hm g W hA).mono fun e W' ⟨h1, h2, h3⟩ => ⟨by rw [h1]; simp [hm, errOf], by simpa [hm] using h2, h3⟩
    · exact (place_no hk hm g W hA).mono fun e W' ⟨h1, h2⟩ => by subst h2; exact ⟨by rw [h1]; simp [hm, errOf], by simpa [hm] using hA, turned_self _ _⟩
theorem placeR (n : Int) (W : World) (hR : IsRB lo h b S W) (hl : S.free.length ≤ 32) (hlo : lo ≤ W.heap.size) :
    Calls Tryd.prog 34 #[.pointer (some ⟨h, 0, none⟩), .int .i64 n] W (AnsR lo h b (dropNo S n) (S.dropZ n) W) := by
  unfold dropNo St.dropZ
  rcases hn : inR n with _ | _
  · exact (rplace_out n _ W hn).mono fun e W' ⟨h1, h2⟩ => by subst h2; exact ⟨by rw [h1]; rfl, by simpa using hR, Tn.refl _ _⟩
  · obtain ⟨k, rfl, hk⟩ := nat_of hn
    by_cases hm : k ∈ S.free
    · exact (rplace_in W hR hk hm hl hlo).mono fun e W' ⟨h1, h2, h3⟩ => ⟨by rw [h1]; simp [hm], by simpa [hm] using h2, h3⟩
    · exact (rplace_no W hR hk hm hl).mono fun e W' ⟨h1, h2⟩ => by subst h2; exact ⟨by rw [h1]; simp [hm], by simpa [hm] using hR, Tn.refl _ _⟩
theorem freeA (n : Int) (W : World) (hA : IsAr W g S) (hw0 : 0 ≤ S.writes) (hw1 : S.writes < 1000000000) :
    Calls Tryd.prog 35 #[.pointer (some ⟨g, 0, none⟩), .int .i64 n] W (AnsA g (giveNo S n) (S.giveZ n) W) := by
  unfold giveNo St.giveZ
  rcases hn : inR n with _ | _
  · exact (free_out (not_in hn) _ W).mono fun e W' ⟨h1, h2⟩ => by subst h2; exact ⟨by rw [h1]; rfl, by simpa using hA, turned_self _ _⟩
  · obtain ⟨k, rfl, hk⟩ := nat_of hn
    by_cases hm : k ∈ S.free
    · exact (free_no hm g W hA).mono fun e W' ⟨h1, h2⟩ => by subst h2; exact ⟨by rw [h1]; simp [hm, errOf], by simpa [hm] using hA, turned_self _ _⟩
    · exact (free_st hk hm g W hA hw0 hw1).mono fun e W' ⟨h1, h2, h3⟩ => ⟨by rw [h1]; simp [hm, errOf], by simpa [hm] using h2, h3⟩
theorem freeR (n : Int) (W : World) (hR : IsRB lo h b S W) (hl : S.free.length ≤ 32) (hlo : lo ≤ W.heap.size) (hw0 : 0 ≤ S.writes) (hw1 : S.writes < 1000000000) :
    Calls Tryd.prog 36 #[.pointer (some ⟨h, 0, none⟩), .int .i64 n] W (AnsR lo h b (giveNo S n) (S.giveZ n) W) := by
  unfold giveNo St.giveZ
  rcases hn : inR n with _ | _
  · exact (rgive_out n _ W hn).mono fun e W' ⟨h1, h2⟩ => by subst h2; exact ⟨by rw [h1]; rfl, by simpa using hR, Tn.refl _ _⟩
  · obtain ⟨k, rfl, hk⟩ := nat_of hn
    by_cases hm : k ∈ S.free
    · exact (rgive_no W hR hk hm hl).mono fun e W' ⟨h1, h2⟩ => by subst h2; exact ⟨by rw [h1]; simp [hm], by simpa [hm] using hR, Tn.refl _ _⟩
    · exact (rgive_in W hR hk hm hl hlo hw0 hw1).mono fun e W' ⟨h1, h2, h3⟩ => ⟨by rw [h1]; simp [hm], by simpa [hm] using h2, h3⟩
/-- The number that Take answers; its error. -/
def St.takeI (S : St) : Int := match S.free with | [] => 0 | i :: _ => i
def takeNo (S : St) : Int := match S.free with | [] => 19 | _ :: _ => 0
theorem takeA (W : World) (hA : IsAr W g S) :
    Calls Tryd.prog 32 #[.pointer (some ⟨g, 0, none⟩)] W (fun e W' => e = .returned (.tuple #[.int .i64 S.takeI, errOf (takeNo S)]) ∧ IsAr W' g S.takeZ ∧ W.grownBy W' (some g)) := by
  unfold St.takeI takeNo St.takeZ
  rcases hf : S.free with _ | ⟨i, L⟩
  · exact (take_full hf g W hA).mono fun e W' ⟨h1, h2⟩ => by subst h2; exact ⟨by rw [h1]; rfl, by simpa using hA, turned_self _ _⟩
  · exact (take_st hf g W hA).mono fun e W' ⟨h1, h2, h3⟩ => ⟨by rw [h1]; rfl, by simpa using h2, h3⟩
theorem takeR (W : World) (hR : IsRB lo h b S W) (hl : S.free.length ≤ 32) (hlo : lo ≤ W.heap.size) :
    Calls Tryd.prog 31 #[.pointer (some ⟨h, 0, none⟩)] W (fun e W' => e = .returned (.tuple #[.int .i64 S.takeI, .int .i64 (takeNo S)]) ∧ IsRB lo h b S.takeZ W' ∧ Tn (fun k => k = h ∨ k = b) W W') := by
  unfold St.takeI takeNo St.takeZ
  rcases hf : S.free with _ | ⟨i, L⟩
  · exact (rtake_none W hR hf).mono fun e W' ⟨h1, h2⟩ => by subst h2; exact ⟨by rw [h1], by simpa using hR, Tn.refl _ _⟩
  · exact (rtake_some W hR hf hl hlo).mono fun e W' ⟨h1, h2, h3⟩ => ⟨by rw [h1], by simpa using h2, h3⟩
end
end Go.Proofs.YtdgdbcapojgnlaaDoor
/-
  lineagelaw16: told, same.
-/
namespace Go.Proofs.YtdgdbcapojgnlaaDoor
set_option maxRecDepth 100000
open Go.RowKit Go.Sort

theorem told_any (no at_ : Int) (h : (at_ = -1 ∧ 0 ≤ no ∧ no ≤ 24) ∨ (no = 24 ∧ 0 ≤ at_ ∧ at_ < 32)) (w : World) (hL : Laid w) : Calls Tryd.prog 51 #[errP no at_, .int .i64 no, .int .i64 at_] w (RetB (.bool true) w) := by
  rcases h with ⟨rfl, h0, h1⟩ | ⟨rfl, h0, h1⟩
  · have e : errP no (-1) = errOf no := by unfold errP errOf; split <;> rfl
    rw [e]
    have HP := Lib.hid (plain_same no h0 h1 w hL)
    generalize errOf no = ev at *
    go_enter Tryd.func51, Tryd.ntmps51
    go_wp2_with (go_at_call 28; fail)
    refine HP.out.mono ?_
    rintro e w2 ⟨rfl, hb⟩
    have HB := Lib.hid hb
    clear hb
    go_wp2
    go_ret
    exact ⟨rfl, HB.out⟩
  · rw [errP_at h0]
    have HP := Lib.hid (at_fault 24 at_ (by omega) (by omega) w hL)
    have hn : ¬ at_ < 0 := by omega
    unfold faultV
    go_enter Tryd.func51, Tryd.ntmps51
    go_wp2_with (go_at_call 53; fail)
    refine HP.out.mono ?_
    rintro e w2 ⟨rfl, hb⟩
    have HB := Lib.hid hb
    clear hb
    go_wp2
    go_ret
    exact ⟨rfl, HB.out⟩
set_option maxHeartbeats 4000000 in
theorem same_any {S R : St} {lo h b g : Nat} (w : World) (hA : IsAr w g S) (hR : IsRB lo h b R w) (hag : Agree S R) : Calls Tryd.prog 20 #[.pointer (some ⟨g, 0, none⟩), .pointer (some ⟨h, 0, none⟩)] w (RetB (.bool true) w) := by
  have HU := Lib.hid Tryd.underlying36
  have HA := Lib.hid hA
  have HR := Lib.hid hR
  have HG := Lib.hid hag
  have hnil : (binOp .neq 68 .nilIface .nilIface).run Tryd.prog w = .ok (.bool false) w := by kernel_rfl
  clear hA hR hag
  go_enter Tryd.func20, Tryd.ntmps20
  go_wp2
  go_loopw [5] (fun i wr => ∃ k : Nat, k ≤ 32 ∧ i = .int .i64 k ∧ Below w.heap.size w wr) (fun i _ => 32 - (intOf i).toNat)
  case atStart => exact ⟨0, by omega, rfl, Below.refl _ _⟩
  case round =>
    obtain ⟨k, hk, rfl, hb⟩ := hrel
    have HB := Lib.hid hb
    by_cases hlt : k < 32
    · have hki : (k : Int) < 32 := by omega
      have hk0 : (0 : Int) ≤ (k : Int) := by omega
      obtain ⟨s, hs⟩ := slot_of HG.out.len hlt
      have hsR : R.slots[k]? = some s := by rw [← HG.out.slots]; exact hs
      have HGA := Lib.hid (get_st hlt hs g wr (HA.out.below hb HA.out.lt))
      have hneq := neq_slot s
      obtain ⟨cap, junk, vF, r⟩ := HR.out.call hb
      have HRR := Lib.hid (And.intro (r.row hsR) r.slots.lt)
      have hhl := r.head.lt
      have c0 := r.head.cell 0
      simp only [List.getElem?_toArray, List.getElem?_cons_zero] at c0
      clear hs hsR hb r
      go_wp2_with (first
        | (go_at_call 27; fail))
      refine HGA.out.mono ?_
      rintro e w2 ⟨rfl, hb2⟩
      have hs2 := hb2.size
      have HB3 := Lib.hid (hb2.alloc hb2.size (.cells s.cells 36))
      have e0 : (w2.alloc (.cells s.cells 36)).cell? ⟨h, 0, none⟩ = some (.slice (some ⟨b, 0, none⟩) 32 cap) := (HB3.out.cell (p := ⟨h, 0, none⟩) hhl).trans c0
      have d0 := cell_regrown e0
      have HR1 := Lib.hid ((Blk.new w2 36 s.cells).row.class_ (by simp))
      have HR2 := Lib.hid ((HRR.out.1.below HB3.out HRR.out.2).class_ (Nat.lt_of_lt_of_le HRR.out.2 HB3.out.size))
      clear hb2 HGA c0
      go_wp2_with (first
        | (refine wpList_store_new (ty := 36) rfl rfl rfl rfl rfl (SlotV.one _) slotInfo ?_))
      refine wp_region_quiet_below (by kernel_rfl) (by kernel_rfl) ?_
      repeat (first
        | go_big_quiet_skip
        | (refine wpQuiet_load_at rfl rfl rfl HR1.out HU.out rfl slotInfo ?_; simp only [Act.put, List.setIfInBounds_toArray, List.set_cons_zero, List.set_cons_succ])
        | (refine wpQuiet_load_at rfl rfl rfl HR2.out HU.out rfl slotInfo ?_; simp only [Act.put, List.setIfInBounds_toArray, List.set_cons_zero, List.set_cons_succ])
        | (go_big_quiet_want; go_big_quiet_op; first | go_big_quiet_on))
      refine wpQuiet_nil ?_
      intro v0 hC
      have HB4 := Lib.hid (HB.out.trans ((HB3.out.trans ((below_class hC).mono HB3.out.size)).mono HB.out.size))
      clear hC HB3 HR1 HR2 e0 d0
      go_wp2
      go_roundw
      case rel => exact ⟨k + 1, by omega, by go_num, HB4.out⟩
      case measure => simp [intOf] <;> omega
    · obtain rfl : k = 32 := by omega
      clear hb
      go_wp2
      go_ret
      exact ⟨rfl, HB.out⟩
end Go.Proofs.YtdgdbcapojgnlaaDoor
/-
  lineagelaw16.does: one call, here and there; what it answers, and how many writes.
-/
namespace Go.Proofs.YtdgdbcapojgnlaaDoor
set_option maxRecDepth 100000
open Go.RowKit Go.Sort

structure Act16 where
  kind : Int
  i : Int
  k : Int
  j : Int
def Act16.cells (x : Act16) : Array Value := #[.int .i64 x.kind, .int .i64 x.i, .int .i64 x.k, .int .i64 x.j]
@[go_sem] theorem Act16.size (x : Act16) : (Act16.cells x).size = 4 := rfl
theorem Act16.one (x : Act16) : ∀ v ∈ (Act16.cells x).toList, v.oneCell' = true := by
  intro v hv
  simp [Act16.cells] at hv
  rcases hv with rfl | rfl | rfl | rfl <;> rfl
theorem act16Info : (Tryd.prog.info? 53).map (·.size) = some 4 := by kernel_rfl
/-- The two arenas, side by side, alike. -/
structure Alike (w : World) (g lo h b : Nat) (S R : St) (W : World) : Prop where
  two : Two w g lo h b S R W
  ag : Agree S R
theorem Two.trans {w W W' : World} {g lo h b : Nat} {SA SR S1 S2 : St} (t : Two w g lo h b SA SR W) (u : Two W g lo h b S1 S2 W') : Two w g lo h b S1 S2 W' := ⟨u.ar, u.rf, t.tn.trans u.tn⟩
theorem Two.below {w W : World} {g lo h b n : Nat} {SA SR : St} (t : Two w g lo h b SA SR W) (hg : n ≤ g) (hlo : n ≤ lo) (hn : n ≤ w.heap.size) : Below n w W :=
  t.tn.below (fun k hk => by have := t.rf.los; omega) hn
/-- The call of the arena, and of the document's, of one act. -/
def St.code16 (S : St) (c : Nat) (x : Act16) : Value × St := match c with
  | 2 => S.dropR x.k x.i
  | 3 => S.splice x.i x.k
  | _ => S.push x.k x.i
def St.doc16 (R : St) (c : Nat) (x : Act16) : (Int × Int × Int) × St := match c with
  | 2 => R.rdrop x.k x.i
  | 3 => R.rsplice x.i x.k
  | _ => R.rpush x.k x.i
set_option maxHeartbeats 8000000 in
theorem does16_0 {S R : St} {g lo h b : Nat} (x : Act16) (w : World) (hA : IsAr w g S) (hR : IsRB lo h b R w) (hag : Agree S R) (hg : g < lo) (hlo : lo ≤ w.heap.size) (hL : Laid w) (hge : 0 < g) (hw0 : 0 ≤ S.writes) (hw1 : S.writes < 900000) (hcK : pickZ x.kind 6 = (0 : Nat)) :
    Calls Tryd.prog 19 #[.pointer (some ⟨g, 0, none⟩), .pointer (some ⟨h, 0, none⟩), .agg x.cells] w (fun e w' => e = .returned (.bool true) ∧ Alike w g lo h b (S.push x.k x.i).2 (R.rpush x.k x.i).2 w' ∧ S.writes ≤ (S.push x.k x.i).2.writes ∧ (S.push x.k x.i).2.writes ≤ S.writes + 4) := by
  have hls := hR.los
  have hgl := hA.lt
  have HC := Lib.hid (fun w => show Calls Tryd.prog 9 #[.int .i64 x.kind, .int .i64 6] w (RetSame (.int .i64 ((0 : Nat) : Int)) w) from by
    have h := pick_any x.kind 6 (by decide) (by decide) w
    rwa [show pickZ x.kind ((6 : Nat) : Int) = ((0 : Nat) : Int) from hcK] at h)
  have hsame := push_same hag x.k x.i
  obtain ⟨hval, hag2, hlo2, hhi2, hno⟩ := hsame
  obtain ⟨w1, hw⟩ : ∃ w1, w.alloc (.cells x.cells 53) = w1 := ⟨_, rfl⟩
  have BX : Blk w1 w.heap.size 53 x.cells := by rw [← hw]; exact Blk.new _ _ _
  have hb1 : Below w.heap.size w w1 := by rw [← hw]; exact (Below.refl _ _).alloc (Nat.le_refl _) _
  have hs1 : w1.heap.size ≤ w.heap.size + 1 ∧ w.heap.size + 1 ≤ w1.heap.size := by rw [← hw]; simp
  have cx0 : w1.cell? ⟨w.heap.size, 0, none⟩ = some (.int .i64 x.kind) := (BX.cell 0).trans rfl
  have cx1 : w1.cell? ⟨w.heap.size, 1, none⟩ = some (.int .i64 x.i) := (BX.cell 1).trans rfl
  have cx2 : w1.cell? ⟨w.heap.size, 2, none⟩ = some (.int .i64 x.k) := (BX.cell 2).trans rfl
  have T1 := Lib.hid (Two.start (hA.below hb1 hgl) (hR.call hb1))
  have L1 := Lib.hid (hL.below hb1 hL.pos)
  have HB1 := Lib.hid hb1
  have HW := Lib.hid hw
  have hnew : w.heap.size ≠ g ∧ w.heap.size ≠ h ∧ w.heap.size ≠ b := by omega
  have hgne : 0 ≠ g ∧ 0 ≠ h ∧ 0 ≠ b := by omega
  have WR := Lib.hid (writes_st g w1 T1.out.ar)
  have CA := Lib.hid ((push_any x.k x.i g w1 T1.out.ar hw0 (by omega)).mono fun e W' ⟨h1, h2⟩ => show e = Ending.returned (S.push x.k x.i).1 ∧ Two w1 g lo h b (S.push x.k x.i).2 R W' from ⟨h1, T1.out.turnA hg h2.ar h2.grown⟩)
  have CR := Lib.hid (fun W (t : Two w1 g lo h b (S.push x.k x.i).2 R W) => (rpush16_any x.k x.i W t.rf).mono fun e W' ⟨h1, h2, h3⟩ => show e = Ending.returned (tri (R.rpush x.k x.i).1) ∧ Two w1 g lo h b (S.push x.k x.i).2 (R.rpush x.k x.i).2 W' from ⟨h1, t.turnR hg h2 (Tn.ofGrown h3 (.inr rfl))⟩)
  rw [hval] at CA
  generalize hS2 : (S.push x.k x.i).2 = S2 at *
  generalize hR2 : (R.rpush x.k x.i).2 = R2 at *
  generalize hrr : (R.rpush x.k x.i).1 = rr at *
  obtain ⟨r1, no, at_⟩ := rr
  dsimp only [tri] at CA CR hhi2 hno
  have HT := Lib.hid (fun W (t : Two w1 g lo h b S2 R2 W) => told_any no at_ hno W (t.laid L1.out hgne))
  have WR2 := Lib.hid (fun W (t : Two w1 g lo h b S2 R2 W) => writes_st g W t.ar)
  have FIN := Lib.hid (fun W W' (t : Two w1 g lo h b S2 R2 W) (hb : Below W.heap.size W W') => show Alike w g lo h b S2 R2 W' from
    have t' := t.call hb
    ⟨⟨t'.ar, t'.rf, (Tn.ofBelow _ HB1.out).trans t'.tn⟩, hag2⟩)
  generalize hE : errP no at_ = ev at *
  have hle : S2.writes - S.writes ≤ 3 := by split at hhi2 <;> omega
  have hle0 : no ≠ 0 → S2.writes - S.writes ≤ 0 := fun e => by rw [if_neg e] at hhi2; omega
  have hwr : IntKind.i64.wrap (S2.writes - S.writes) = S2.writes - S.writes := IntWalk.i64_in _ (by omega)
  have hhi4 : S2.writes ≤ S.writes + 4 := by omega
  have HHI := Lib.hid (And.intro hlo2 hhi4)
  have HCX := Lib.hid (fun W (t : Two w1 g lo h b S2 R W) => And.intro (t.cell (by omega) hnew cx1) (t.cell (by omega) hnew cx2))
  have HW0 := Lib.hid (And.intro hw0 hw1)
  generalize S2.writes = y2 at *
  generalize hyy : S.writes = y1 at *
  clear hyy hval hhi2 hS2 hR2 hrr hno BX hag2 hw hb1 hA hR hL hcK hE hag hw0 hw1 hlo2 hhi4
  by_cases hz : no = 0
  · subst hz
    clear hle0
    have cy0 : (w.alloc (.cells x.cells 53)).cell? ⟨w.heap.size, 0, none⟩ = some (.int .i64 x.kind) := ((Blk.new _ _ _).cell 0).trans rfl
    go_enter Tryd.func19, Tryd.ntmps19
    go_wp2_with (go_at_call 37; fail)
    rw [HW.out]
    refine WR.out.mono ?_
    rintro e w' ⟨rfl, rfl⟩
    go_wp2_with (go_at_call 9; fail)
    refine (HC.out _).mono ?_
    rintro e w' ⟨rfl, rfl⟩
    go_wp2_with (go_at_call 49; fail)
    refine CA.out.mono ?_
    rintro e w2 ⟨rfl, t2⟩
    obtain ⟨e1, e2⟩ := HCX.out _ t2
    have T2 := Lib.hid t2
    clear t2 CA cx0 cx1 cx2 cy0
    go_wp2_with (go_at_call 50; fail)
    refine (CR.out _ T2.out).mono ?_
    rintro e w3 ⟨rfl, t3⟩
    have T3 := Lib.hid t3
    clear t3 CR e1 e2
    go_wp2_with (go_at_call 51; fail)
    refine (HT.out _ T3.out).mono ?_
    rintro e w4 ⟨rfl, hb4⟩
    have T4 := Lib.hid (T3.out.call hb4)
    clear hb4
    go_wp2_with (go_at_call 37; fail)
    refine (WR2.out _ T4.out).mono ?_
    rintro e w5 ⟨rfl, rfl⟩
    go_wp2
    go_ret
    exact ⟨rfl, FIN.out _ _ T4.out (Below.refl _ _), HHI.out⟩
  · have hz2 : (no != 0) = true := by simpa using hz
    have hle1 := hle0 hz
    clear hle0 hz hle
    have cy0 : (w.alloc (.cells x.cells 53)).cell? ⟨w.heap.size, 0, none⟩ = some (.int .i64 x.kind) := ((Blk.new _ _ _).cell 0).trans rfl
    go_enter Tryd.func19, Tryd.ntmps19
    go_wp2_with (go_at_call 37; fail)
    rw [HW.out]
    refine WR.out.mono ?_
    rintro e w' ⟨rfl, rfl⟩
    go_wp2_with (go_at_call 9; fail)
    refine (HC.out _).mono ?_
    rintro e w' ⟨rfl, rfl⟩
    go_wp2_with (go_at_call 49; fail)
    refine CA.out.mono ?_
    rintro e w2 ⟨rfl, t2⟩
    obtain ⟨e1, e2⟩ := HCX.out _ t2
    have T2 := Lib.hid t2
    clear t2 CA cx0 cx1 cx2 cy0
    go_wp2_with (go_at_call 50; fail)
    refine (CR.out _ T2.out).mono ?_
    rintro e w3 ⟨rfl, t3⟩
    have T3 := Lib.hid t3
    clear t3 CR e1 e2
    go_wp2_with (go_at_call 51; fail)
    refine (HT.out _ T3.out).mono ?_
    rintro e w4 ⟨rfl, hb4⟩
    have T4 := Lib.hid (T3.out.call hb4)
    clear hb4
    go_wp2_with (go_at_call 37; fail)
    refine (WR2.out _ T4.out).mono ?_
    rintro e w5 ⟨rfl, rfl⟩
    go_wp2
    go_ret
    exact ⟨rfl, FIN.out _ _ T4.out (Below.refl _ _), HHI.out⟩
set_option maxHeartbeats 8000000 in
theorem does16_1 {S R : St} {g lo h b : Nat} (x : Act16) (w : World) (hA : IsAr w g S) (hR : IsRB lo h b R w) (hag : Agree S R) (hg : g < lo) (hlo : lo ≤ w.heap.size) (hL : Laid w) (hge : 0 < g) (hw0 : 0 ≤ S.writes) (hw1 : S.writes < 900000) (hcK : pickZ x.kind 6 = (1 : Nat)) :
    Calls Tryd.prog 19 #[.pointer (some ⟨g, 0, none⟩), .pointer (some ⟨h, 0, none⟩), .agg x.cells] w (fun e w' => e = .returned (.bool true) ∧ Alike w g lo h b (S.push x.k x.i).2 (R.rpush x.k x.i).2 w' ∧ S.writes ≤ (S.push x.k x.i).2.writes ∧ (S.push x.k x.i).2.writes ≤ S.writes + 4) := by
  have hls := hR.los
  have hgl := hA.lt
  have HC := Lib.hid (fun w => show Calls Tryd.prog 9 #[.int .i64 x.kind, .int .i64 6] w (RetSame (.int .i64 ((1 : Nat) : Int)) w) from by
    have h := pick_any x.kind 6 (by decide) (by decide) w
    rwa [show pickZ x.kind ((6 : Nat) : Int) = ((1 : Nat) : Int) from hcK] at h)
  have hsame := push_same hag x.k x.i
  obtain ⟨hval, hag2, hlo2, hhi2, hno⟩ := hsame
  obtain ⟨w1, hw⟩ : ∃ w1, w.alloc (.cells x.cells 53) = w1 := ⟨_, rfl⟩
  have BX : Blk w1 w.heap.size 53 x.cells := by rw [← hw]; exact Blk.new _ _ _
  have hb1 : Below w.heap.size w w1 := by rw [← hw]; exact (Below.refl _ _).alloc (Nat.le_refl _) _
  have hs1 : w1.heap.size ≤ w.heap.size + 1 ∧ w.heap.size + 1 ≤ w1.heap.size := by rw [← hw]; simp
  have cx0 : w1.cell? ⟨w.heap.size, 0, none⟩ = some (.int .i64 x.kind) := (BX.cell 0).trans rfl
  have cx1 : w1.cell? ⟨w.heap.size, 1, none⟩ = some (.int .i64 x.i) := (BX.cell 1).trans rfl
  have cx2 : w1.cell? ⟨w.heap.size, 2, none⟩ = some (.int .i64 x.k) := (BX.cell 2).trans rfl
  have T1 := Lib.hid (Two.start (hA.below hb1 hgl) (hR.call hb1))
  have L1 := Lib.hid (hL.below hb1 hL.pos)
  have HB1 := Lib.hid hb1
  have HW := Lib.hid hw
  have hnew : w.heap.size ≠ g ∧ w.heap.size ≠ h ∧ w.heap.size ≠ b := by omega
  have hgne : 0 ≠ g ∧ 0 ≠ h ∧ 0 ≠ b := by omega
  have WR := Lib.hid (writes_st g w1 T1.out.ar)
  have CA := Lib.hid ((push_any x.k x.i g w1 T1.out.ar hw0 (by omega)).mono fun e W' ⟨h1, h2⟩ => show e = Ending.returned (S.push x.k x.i).1 ∧ Two w1 g lo h b (S.push x.k x.i).2 R W' from ⟨h1, T1.out.turnA hg h2.ar h2.grown⟩)
  have CR := Lib.hid (fun W (t : Two w1 g lo h b (S.push x.k x.i).2 R W) => (rpush16_any x.k x.i W t.rf).mono fun e W' ⟨h1, h2, h3⟩ => show e = Ending.returned (tri (R.rpush x.k x.i).1) ∧ Two w1 g lo h b (S.push x.k x.i).2 (R.rpush x.k x.i).2 W' from ⟨h1, t.turnR hg h2 (Tn.ofGrown h3 (.inr rfl))⟩)
  rw [hval] at CA
  generalize hS2 : (S.push x.k x.i).2 = S2 at *
  generalize hR2 : (R.rpush x.k x.i).2 = R2 at *
  generalize hrr : (R.rpush x.k x.i).1 = rr at *
  obtain ⟨r1, no, at_⟩ := rr
  dsimp only [tri] at CA CR hhi2 hno
  have HT := Lib.hid (fun W (t : Two w1 g lo h b S2 R2 W) => told_any no at_ hno W (t.laid L1.out hgne))
  have WR2 := Lib.hid (fun W (t : Two w1 g lo h b S2 R2 W) => writes_st g W t.ar)
  have FIN := Lib.hid (fun W W' (t : Two w1 g lo h b S2 R2 W) (hb : Below W.heap.size W W') => show Alike w g lo h b S2 R2 W' from
    have t' := t.call hb
    ⟨⟨t'.ar, t'.rf, (Tn.ofBelow _ HB1.out).trans t'.tn⟩, hag2⟩)
  generalize hE : errP no at_ = ev at *
  have hle : S2.writes - S.writes ≤ 3 := by split at hhi2 <;> omega
  have hle0 : no ≠ 0 → S2.writes - S.writes ≤ 0 := fun e => by rw [if_neg e] at hhi2; omega
  have hwr : IntKind.i64.wrap (S2.writes - S.writes) = S2.writes - S.writes := IntWalk.i64_in _ (by omega)
  have hhi4 : S2.writes ≤ S.writes + 4 := by omega
  have HHI := Lib.hid (And.intro hlo2 hhi4)
  have HCX := Lib.hid (fun W (t : Two w1 g lo h b S2 R W) => And.intro (t.cell (by omega) hnew cx1) (t.cell (by omega) hnew cx2))
  have HW0 := Lib.hid (And.intro hw0 hw1)
  generalize S2.writes = y2 at *
  generalize hyy : S.writes = y1 at *
  clear hyy hval hhi2 hS2 hR2 hrr hno BX hag2 hw hb1 hA hR hL hcK hE hag hw0 hw1 hlo2 hhi4
  by_cases hz : no = 0
  · subst hz
    clear hle0
    have cy0 : (w.alloc (.cells x.cells 53)).cell? ⟨w.heap.size, 0, none⟩ = some (.int .i64 x.kind) := ((Blk.new _ _ _).cell 0).trans rfl
    go_enter Tryd.func19, Tryd.ntmps19
    go_wp2_with (go_at_call 37; fail)
    rw [HW.out]
    refine WR.out.mono ?_
    rintro e w' ⟨rfl, rfl⟩
    go_wp2_with (go_at_call 9; fail)
    refine (HC.out _).mono ?_
    rintro e w' ⟨rfl, rfl⟩
    go_wp2_with (go_at_call 49; fail)
    refine CA.out.mono ?_
    rintro e w2 ⟨rfl, t2⟩
    obtain ⟨e1, e2⟩ := HCX.out _ t2
    have T2 := Lib.hid t2
    clear t2 CA cx0 cx1 cx2 cy0
    go_wp2_with (go_at_call 50; fail)
    refine (CR.out _ T2.out).mono ?_
    rintro e w3 ⟨rfl, t3⟩
    have T3 := Lib.hid t3
    clear t3 CR e1 e2
    go_wp2_with (go_at_call 51; fail)
    refine (HT.out _ T3.out).mono ?_
    rintro e w4 ⟨rfl, hb4⟩
    have T4 := Lib.hid (T3.out.call hb4)
    clear hb4
    go_wp2_with (go_at_call 37; fail)
    refine (WR2.out _ T4.out).mono ?_
    rintro e w5 ⟨rfl, rfl⟩
    go_wp2
    go_ret
    exact ⟨rfl, FIN.out _ _ T4.out (Below.refl _ _), HHI.out⟩
  · have hz2 : (no != 0) = true := by simpa using hz
    have hle1 := hle0 hz
    clear hle0 hz hle
    have cy0 : (w.alloc (.cells x.cells 53)).cell? ⟨w.heap.size, 0, none⟩ = some (.int .i64 x.kind) := ((Blk.new _ _ _).cell 0).trans rfl
    go_enter Tryd.func19, Tryd.ntmps19
    go_wp2_with (go_at_call 37; fail)
    rw [HW.out]
    refine WR.out.mono ?_
    rintro e w' ⟨rfl, rfl⟩
    go_wp2_with (go_at_call 9; fail)
    refine (HC.out _).mono ?_
    rintro e w' ⟨rfl, rfl⟩
    go_wp2_with (go_at_call 49; fail)
    refine CA.out.mono ?_
    rintro e w2 ⟨rfl, t2⟩
    obtain ⟨e1, e2⟩ := HCX.out _ t2
    have T2 := Lib.hid t2
    clear t2 CA cx0 cx1 cx2 cy0
    go_wp2_with (go_at_call 50; fail)
    refine (CR.out _ T2.out).mono ?_
    rintro e w3 ⟨rfl, t3⟩
    have T3 := Lib.hid t3
    clear t3 CR e1 e2
    go_wp2_with (go_at_call 51; fail)
    refine (HT.out _ T3.out).mono ?_
    rintro e w4 ⟨rfl, hb4⟩
    have T4 := Lib.hid (T3.out.call hb4)
    clear hb4
    go_wp2_with (go_at_call 37; fail)
    refine (WR2.out _ T4.out).mono ?_
    rintro e w5 ⟨rfl, rfl⟩
    go_wp2
    go_ret
    exact ⟨rfl, FIN.out _ _ T4.out (Below.refl _ _), HHI.out⟩
set_option maxHeartbeats 8000000 in
theorem does16_2 {S R : St} {g lo h b : Nat} (x : Act16) (w : World) (hA : IsAr w g S) (hR : IsRB lo h b R w) (hag : Agree S R) (hg : g < lo) (hlo : lo ≤ w.heap.size) (hL : Laid w) (hge : 0 < g) (hw0 : 0 ≤ S.writes) (hw1 : S.writes < 900000) (hcK : pickZ x.kind 6 = (2 : Nat)) :
    Calls Tryd.prog 19 #[.pointer (some ⟨g, 0, none⟩), .pointer (some ⟨h, 0, none⟩), .agg x.cells] w (fun e w' => e = .returned (.bool true) ∧ Alike w g lo h b (S.dropR x.k x.i).2 (R.rdrop x.k x.i).2 w' ∧ S.writes ≤ (S.dropR x.k x.i).2.writes ∧ (S.dropR x.k x.i).2.writes ≤ S.writes + 4) := by
  have hls := hR.los
  have hgl := hA.lt
  have HC := Lib.hid (fun w => show Calls Tryd.prog 9 #[.int .i64 x.kind, .int .i64 6] w (RetSame (.int .i64 ((2 : Nat) : Int)) w) from by
    have h := pick_any x.kind 6 (by decide) (by decide) w
    rwa [show pickZ x.kind ((6 : Nat) : Int) = ((2 : Nat) : Int) from hcK] at h)
  have hsame := drop_same hag x.k x.i
  obtain ⟨hval, hag2, hlo2, hhi2, hno⟩ := hsame
  obtain ⟨w1, hw⟩ : ∃ w1, w.alloc (.cells x.cells 53) = w1 := ⟨_, rfl⟩
  have BX : Blk w1 w.heap.size 53 x.cells := by rw [← hw]; exact Blk.new _ _ _
  have hb1 : Below w.heap.size w w1 := by rw [← hw]; exact (Below.refl _ _).alloc (Nat.le_refl _) _
  have hs1 : w1.heap.size ≤ w.heap.size + 1 ∧ w.heap.size + 1 ≤ w1.heap.size := by rw [← hw]; simp
  have cx0 : w1.cell? ⟨w.heap.size, 0, none⟩ = some (.int .i64 x.kind) := (BX.cell 0).trans rfl
  have cx1 : w1.cell? ⟨w.heap.size, 1, none⟩ = some (.int .i64 x.i) := (BX.cell 1).trans rfl
  have cx2 : w1.cell? ⟨w.heap.size, 2, none⟩ = some (.int .i64 x.k) := (BX.cell 2).trans rfl
  have T1 := Lib.hid (Two.start (hA.below hb1 hgl) (hR.call hb1))
  have L1 := Lib.hid (hL.below hb1 hL.pos)
  have HB1 := Lib.hid hb1
  have HW := Lib.hid hw
  have hnew : w.heap.size ≠ g ∧ w.heap.size ≠ h ∧ w.heap.size ≠ b := by omega
  have hgne : 0 ≠ g ∧ 0 ≠ h ∧ 0 ≠ b := by omega
  have WR := Lib.hid (writes_st g w1 T1.out.ar)
  have CA := Lib.hid ((drop_any x.k x.i g w1 T1.out.ar hw0 (by omega)).mono fun e W' ⟨h1, h2⟩ => show e = Ending.returned (S.dropR x.k x.i).1 ∧ Two w1 g lo h b (S.dropR x.k x.i).2 R W' from ⟨h1, T1.out.turnA hg h2.ar h2.grown⟩)
  have CR := Lib.hid (fun W (t : Two w1 g lo h b (S.dropR x.k x.i).2 R W) => (rdrop16_any x.k x.i W t.rf).mono fun e W' ⟨h1, h2, h3⟩ => show e = Ending.returned (tri (R.rdrop x.k x.i).1) ∧ Two w1 g lo h b (S.dropR x.k x.i).2 (R.rdrop x.k x.i).2 W' from ⟨h1, t.turnR hg h2 (Tn.ofGrown h3 (.inr rfl))⟩)
  rw [hval] at CA
  generalize hS2 : (S.dropR x.k x.i).2 = S2 at *
  generalize hR2 : (R.rdrop x.k x.i).2 = R2 at *
  generalize hrr : (R.rdrop x.k x.i).1 = rr at *
  obtain ⟨r1, no, at_⟩ := rr
  dsimp only [tri] at CA CR hhi2 hno
  have HT := Lib.hid (fun W (t : Two w1 g lo h b S2 R2 W) => told_any no at_ hno W (t.laid L1.out hgne))
  have WR2 := Lib.hid (fun W (t : Two w1 g lo h b S2 R2 W) => writes_st g W t.ar)
  have FIN := Lib.hid (fun W W' (t : Two w1 g lo h b S2 R2 W) (hb : Below W.heap.size W W') => show Alike w g lo h b S2 R2 W' from
    have t' := t.call hb
    ⟨⟨t'.ar, t'.rf, (Tn.ofBelow _ HB1.out).trans t'.tn⟩, hag2⟩)
  generalize hE : errP no at_ = ev at *
  have hle : S2.writes - S.writes ≤ 3 := by split at hhi2 <;> omega
  have hle0 : no ≠ 0 → S2.writes - S.writes ≤ 0 := fun e => by rw [if_neg e] at hhi2; omega
  have hwr : IntKind.i64.wrap (S2.writes - S.writes) = S2.writes - S.writes := IntWalk.i64_in _ (by omega)
  have hhi4 : S2.writes ≤ S.writes + 4 := by omega
  have HHI := Lib.hid (And.intro hlo2 hhi4)
  have HCX := Lib.hid (fun W (t : Two w1 g lo h b S2 R W) => And.intro (t.cell (by omega) hnew cx1) (t.cell (by omega) hnew cx2))
  have HW0 := Lib.hid (And.intro hw0 hw1)
  generalize S2.writes = y2 at *
  generalize hyy : S.writes = y1 at *
  clear hyy hval hhi2 hS2 hR2 hrr hno BX hag2 hw hb1 hA hR hL hcK hE hag hw0 hw1 hlo2 hhi4
  by_cases hz : no = 0
  · subst hz
    clear hle0
    have cy0 : (w.alloc (.cells x.cells 53)).cell? ⟨w.heap.size, 0, none⟩ = some (.int .i64 x.kind) := ((Blk.new _ _ _).cell 0).trans rfl
    go_enter Tryd.func19, Tryd.ntmps19
    go_wp2_with (go_at_call 37; fail)
    rw [HW.out]
    refine WR.out.mono ?_
    rintro e w' ⟨rfl, rfl⟩
    go_wp2_with (go_at_call 9; fail)
    refine (HC.out _).mono ?_
    rintro e w' ⟨rfl, rfl⟩
    go_wp2_with (go_at_call 45; fail)
    refine CA.out.mono ?_
    rintro e w2 ⟨rfl, t2⟩
    obtain ⟨e1, e2⟩ := HCX.out _ t2
    have T2 := Lib.hid t2
    clear t2 CA cx0 cx1 cx2 cy0
    go_wp2_with (go_at_call 46; fail)
    refine (CR.out _ T2.out).mono ?_
    rintro e w3 ⟨rfl, t3⟩
    have T3 := Lib.hid t3
    clear t3 CR e1 e2
    go_wp2_with (go_at_call 51; fail)
    refine (HT.out _ T3.out).mono ?_
    rintro e w4 ⟨rfl, hb4⟩
    have T4 := Lib.hid (T3.out.call hb4)
    clear hb4
    go_wp2_with (go_at_call 37; fail)
    refine (WR2.out _ T4.out).mono ?_
    rintro e w5 ⟨rfl, rfl⟩
    go_wp2
    go_ret
    exact ⟨rfl, FIN.out _ _ T4.out (Below.refl _ _), HHI.out⟩
  · have hz2 : (no != 0) = true := by simpa using hz
    have hle1 := hle0 hz
    clear hle0 hz hle
    have cy0 : (w.alloc (.cells x.cells 53)).cell? ⟨w.heap.size, 0, none⟩ = some (.int .i64 x.kind) := ((Blk.new _ _ _).cell 0).trans rfl
    go_enter Tryd.func19, Tryd.ntmps19
    go_wp2_with (go_at_call 37; fail)
    rw [HW.out]
    refine WR.out.mono ?_
    rintro e w' ⟨rfl, rfl⟩
    go_wp2_with (go_at_call 9; fail)
    refine (HC.out _).mono ?_
    rintro e w' ⟨rfl, rfl⟩
    go_wp2_with (go_at_call 45; fail)
    refine CA.out.mono ?_
    rintro e w2 ⟨rfl, t2⟩
    obtain ⟨e1, e2⟩ := HCX.out _ t2
    have T2 := Lib.hid t2
    clear t2 CA cx0 cx1 cx2 cy0
    go_wp2_with (go_at_call 46; fail)
    refine (CR.out _ T2.out).mono ?_
    rintro e w3 ⟨rfl, t3⟩
    have T3 := Lib.hid t3
    clear t3 CR e1 e2
    go_wp2_with (go_at_call 51; fail)
    refine (HT.out _ T3.out).mono ?_
    rintro e w4 ⟨rfl, hb4⟩
    have T4 := Lib.hid (T3.out.call hb4)
    clear hb4
    go_wp2_with (go_at_call 37; fail)
    refine (WR2.out _ T4.out).mono ?_
    rintro e w5 ⟨rfl, rfl⟩
    go_wp2
    go_ret
    exact ⟨rfl, FIN.out _ _ T4.out (Below.refl _ _), HHI.out⟩
set_option maxHeartbeats 8000000 in
theorem does16_3 {S R : St} {g lo h b : Nat} (x : Act16) (w : World) (hA : IsAr w g S) (hR : IsRB lo h b R w) (hag : Agree S R) (hg : g < lo) (hlo : lo ≤ w.heap.size) (hL : Laid w) (hge : 0 < g) (hw0 : 0 ≤ S.writes) (hw1 : S.writes < 900000) (hcK : pickZ x.kind 6 = (3 : Nat)) :
    Calls Tryd.prog 19 #[.pointer (some ⟨g, 0, none⟩), .pointer (some ⟨h, 0, none⟩), .agg x.cells] w (fun e w' => e = .returned (.bool true) ∧ Alike w g lo h b (S.splice x.i x.k).2 (R.rsplice x.i x.k).2 w' ∧ S.writes ≤ (S.splice x.i x.k).2.writes ∧ (S.splice x.i x.k).2.writes ≤ S.writes + 4) := by
  have hls := hR.los
  have hgl := hA.lt
  have HC := Lib.hid (fun w => show Calls Tryd.prog 9 #[.int .i64 x.kind, .int .i64 6] w (RetSame (.int .i64 ((3 : Nat) : Int)) w) from by
    have h := pick_any x.kind 6 (by decide) (by decide) w
    rwa [show pickZ x.kind ((6 : Nat) : Int) = ((3 : Nat) : Int) from hcK] at h)
  have hsame := splice_same hag x.i x.k
  obtain ⟨hval, hag2, hlo2, hhi2, hno⟩ := hsame
  obtain ⟨w1, hw⟩ : ∃ w1, w.alloc (.cells x.cells 53) = w1 := ⟨_, rfl⟩
  have BX : Blk w1 w.heap.size 53 x.cells := by rw [← hw]; exact Blk.new _ _ _
  have hb1 : Below w.heap.size w w1 := by rw [← hw]; exact (Below.refl _ _).alloc (Nat.le_refl _) _
  have hs1 : w1.heap.size ≤ w.heap.size + 1 ∧ w.heap.size + 1 ≤ w1.heap.size := by rw [← hw]; simp
  have cx0 : w1.cell? ⟨w.heap.size, 0, none⟩ = some (.int .i64 x.kind) := (BX.cell 0).trans rfl
  have cx1 : w1.cell? ⟨w.heap.size, 1, none⟩ = some (.int .i64 x.i) := (BX.cell 1).trans rfl
  have cx2 : w1.cell? ⟨w.heap.size, 2, none⟩ = some (.int .i64 x.k) := (BX.cell 2).trans rfl
  have T1 := Lib.hid (Two.start (hA.below hb1 hgl) (hR.call hb1))
  have L1 := Lib.hid (hL.below hb1 hL.pos)
  have HB1 := Lib.hid hb1
  have HW := Lib.hid hw
  have hnew : w.heap.size ≠ g ∧ w.heap.size ≠ h ∧ w.heap.size ≠ b := by omega
  have hgne : 0 ≠ g ∧ 0 ≠ h ∧ 0 ≠ b := by omega
  have WR := Lib.hid (writes_st g w1 T1.out.ar)
  have CA := Lib.hid ((splice_any x.i x.k g w1 T1.out.ar hw0 (by omega)).mono fun e W' ⟨h1, h2⟩ => show e = Ending.returned (S.splice x.i x.k).1 ∧ Two w1 g lo h b (S.splice x.i x.k).2 R W' from ⟨h1, T1.out.turnA hg h2.ar h2.grown⟩)
  have CR := Lib.hid (fun W (t : Two w1 g lo h b (S.splice x.i x.k).2 R W) => (rsplice16_any x.i x.k W t.rf).mono fun e W' ⟨h1, h2, h3⟩ => show e = Ending.returned (tri (R.rsplice x.i x.k).1) ∧ Two w1 g lo h b (S.splice x.i x.k).2 (R.rsplice x.i x.k).2 W' from ⟨h1, t.turnR hg h2 (Tn.ofGrown h3 (.inr rfl))⟩)
  rw [hval] at CA
  generalize hS2 : (S.splice x.i x.k).2 = S2 at *
  generalize hR2 : (R.rsplice x.i x.k).2 = R2 at *
  generalize hrr : (R.rsplice x.i x.k).1 = rr at *
  obtain ⟨r1, no, at_⟩ := rr
  dsimp only [tri] at CA CR hhi2 hno
  have HT := Lib.hid (fun W (t : Two w1 g lo h b S2 R2 W) => told_any no at_ hno W (t.laid L1.out hgne))
  have WR2 := Lib.hid (fun W (t : Two w1 g lo h b S2 R2 W) => writes_st g W t.ar)
  have FIN := Lib.hid (fun W W' (t : Two w1 g lo h b S2 R2 W) (hb : Below W.heap.size W W') => show Alike w g lo h b S2 R2 W' from
    have t' := t.call hb
    ⟨⟨t'.ar, t'.rf, (Tn.ofBelow _ HB1.out).trans t'.tn⟩, hag2⟩)
  generalize hE : errP no at_ = ev at *
  have hle : S2.writes - S.writes ≤ 4 := by split at hhi2 <;> omega
  have hle0 : no ≠ 0 → S2.writes - S.writes ≤ 0 := fun e => by rw [if_neg e] at hhi2; omega
  have hwr : IntKind.i64.wrap (S2.writes - S.writes) = S2.writes - S.writes := IntWalk.i64_in _ (by omega)
  have hhi4 : S2.writes ≤ S.writes + 4 := by omega
  have HHI := Lib.hid (And.intro hlo2 hhi4)
  have HCX := Lib.hid (fun W (t : Two w1 g lo h b S2 R W) => And.intro (t.cell (by omega) hnew cx1) (t.cell (by omega) hnew cx2))
  have HW0 := Lib.hid (And.intro hw0 hw1)
  generalize S2.writes = y2 at *
  generalize hyy : S.writes = y1 at *
  clear hyy hval hhi2 hS2 hR2 hrr hno BX hag2 hw hb1 hA hR hL hcK hE hag hw0 hw1 hlo2 hhi4
  by_cases hz : no = 0
  · subst hz
    clear hle0
    have cy0 : (w.alloc (.cells x.cells 53)).cell? ⟨w.heap.size, 0, none⟩ = some (.int .i64 x.kind) := ((Blk.new _ _ _).cell 0).trans rfl
    go_enter Tryd.func19, Tryd.ntmps19
    go_wp2_with (go_at_call 37; fail)
    rw [HW.out]
    refine WR.out.mono ?_
    rintro e w' ⟨rfl, rfl⟩
    go_wp2_with (go_at_call 9; fail)
    refine (HC.out _).mono ?_
    rintro e w' ⟨rfl, rfl⟩
    go_wp2_with (go_at_call 47; fail)
    refine CA.out.mono ?_
    rintro e w2 ⟨rfl, t2⟩
    obtain ⟨e1, e2⟩ := HCX.out _ t2
    have T2 := Lib.hid t2
    clear t2 CA cx0 cx1 cx2 cy0
    go_wp2_with (go_at_call 48; fail)
    refine (CR.out _ T2.out).mono ?_
    rintro e w3 ⟨rfl, t3⟩
    have T3 := Lib.hid t3
    clear t3 CR e1 e2
    go_wp2_with (go_at_call 51; fail)
    refine (HT.out _ T3.out).mono ?_
    rintro e w4 ⟨rfl, hb4⟩
    have T4 := Lib.hid (T3.out.call hb4)
    clear hb4
    go_wp2_with (go_at_call 37; fail)
    refine (WR2.out _ T4.out).mono ?_
    rintro e w5 ⟨rfl, rfl⟩
    go_wp2
    go_ret
    exact ⟨rfl, FIN.out _ _ T4.out (Below.refl _ _), HHI.out⟩
  · have hz2 : (no != 0) = true := by simpa using hz
    have hle1 := hle0 hz
    clear hle0 hz hle
    have cy0 : (w.alloc (.cells x.cells 53)).cell? ⟨w.heap.size, 0, none⟩ = some (.int .i64 x.kind) := ((Blk.new _ _ _).cell 0).trans rfl
    go_enter Tryd.func19, Tryd.ntmps19
    go_wp2_with (go_at_call 37; fail)
    rw [HW.out]
    refine WR.out.mono ?_
    rintro e w' ⟨rfl, rfl⟩
    go_wp2_with (go_at_call 9; fail)
    refine (HC.out _).mono ?_
    rintro e w' ⟨rfl, rfl⟩
    go_wp2_with (go_at_call 47; fail)
    refine CA.out.mono ?_
    rintro e w2 ⟨rfl, t2⟩
    obtain ⟨e1, e2⟩ := HCX.out _ t2
    have T2 := Lib.hid t2
    clear t2 CA cx0 cx1 cx2 cy0
    go_wp2_with (go_at_call 48; fail)
    refine (CR.out _ T2.out).mono ?_
    rintro e w3 ⟨rfl, t3⟩
    have T3 := Lib.hid t3
    clear t3 CR e1 e2
    go_wp2_with (go_at_call 51; fail)
    refine (HT.out _ T3.out).mono ?_
    rintro e w4 ⟨rfl, hb4⟩
    have T4 := Lib.hid (T3.out.call hb4)
    clear hb4
    go_wp2_with (go_at_call 37; fail)
    refine (WR2.out _ T4.out).mono ?_
    rintro e w5 ⟨rfl, rfl⟩
    go_wp2
    go_ret
    exact ⟨rfl, FIN.out _ _ T4.out (Below.refl _ _), HHI.out⟩
end Go.Proofs.YtdgdbcapojgnlaaDoor
/-
  lineagelaw16.put: a slot gets links, and something that it holds besides, in both arenas.
-/
namespace Go.Proofs.YtdgdbcapojgnlaaDoor
set_option maxRecDepth 100000
open Go.RowKit Go.Sort

/-- What the slot holds then. -/
def SlotV.put16 (s : SlotV) (x : Act16) : SlotV := ⟨s.used, s.dead, wrap64 (x.j + x.k), x.k, x.j, 0, (x.i + 7), 0, 0, 0, ⟨#[117]⟩, ByteArray.empty, 0, 0, 0, 0, 0⟩
/-- Its session's cells. -/
def sess16 (x : Act16) : Array Value := #[.int .i64 0, .int .i64 ((x.i + 7)), .int .i64 0, .int .i64 0, .int .i64 0, .string ⟨#[117]⟩, .string ByteArray.empty, .int .u64 0, .int .i64 0, .int .i64 0, .int .i64 0, .int .i64 0]
theorem sess16_one (x : Act16) : ∀ v ∈ (sess16 x).toList, v.oneCell' = true := by
  intro v hv
  simp [sess16] at hv
  rcases hv with rfl | rfl | rfl | rfl | rfl | rfl | rfl <;> rfl
theorem sess16Info : (Tryd.prog.info? 34).map (·.size) = some 12 := by kernel_rfl
theorem built_sess16 (n : Int) : Tryd.prog.built 34 (#[(1, Value.int .i64 n), (4, .string ⟨#[117]⟩)] : Array (Nat × Value)).toList = some #[.int .i64 0, .int .i64 n, .int .i64 0, .int .i64 0, .int .i64 0, .string ⟨#[117]⟩, .string ByteArray.empty, .int .u64 0, .int .i64 0, .int .i64 0, .int .i64 0, .int .i64 0] := by kernel_rfl
def St.put16 (S : St) (x : Act16) : St := if inR x.i = true then (match S.slots[x.i.toNat]? with | some s => S.put x.i.toNat (s.put16 x) | none => S) else S
def St.rput16 (R : St) (x : Act16) : St := if inR x.i = true then (match R.slots[x.i.toNat]? with | some s => { R with slots := R.slots.set x.i.toNat (s.put16 x) } | none => R) else R
theorem put16_agree {S R : St} (h : Agree S R) (x : Act16) : Agree (S.put16 x) (R.rput16 x) ∧ S.writes ≤ (S.put16 x).writes ∧ (S.put16 x).writes ≤ S.writes + 1 := by
  unfold St.put16 St.rput16
  rw [← h.slots]
  split
  · split
    · exact ⟨⟨by simp [St.put], by simp [St.put, h.free], by simp [St.put, h.len]⟩, by simp [St.put]; omega, by simp [St.put]⟩
    · exact ⟨h, Int.le_refl _, by omega⟩
  · exact ⟨h, Int.le_refl _, by omega⟩
set_option maxHeartbeats 8000000 in
theorem put16_any {S R : St} {g lo h b : Nat} (x : Act16) (w : World) (hA : IsAr w g S) (hR : IsRB lo h b R w) (hag : Agree S R) (hg : g < lo) (hlo : lo ≤ w.heap.size) (hw0 : 0 ≤ S.writes) (hw1 : S.writes < 900000) :
    Calls Tryd.prog 18 #[.pointer (some ⟨g, 0, none⟩), .pointer (some ⟨h, 0, none⟩), .agg x.cells] w (fun e w' => e = .returned (.bool true) ∧ Alike w g lo h b (S.put16 x) (R.rput16 x) w') := by
  have hls := hR.los
  have hgl := hA.lt
  have hag2 := (put16_agree hag x).1
  obtain ⟨w1, hw⟩ : ∃ w1, w.alloc (.cells x.cells 53) = w1 := ⟨_, rfl⟩
  have BX : Blk w1 w.heap.size 53 x.cells := by rw [← hw]; exact Blk.new _ _ _
  have hb1 : Below w.heap.size w w1 := by rw [← hw]; exact (Below.refl _ _).alloc (Nat.le_refl _) _
  have hs1 : w1.heap.size ≤ w.heap.size + 1 ∧ w.heap.size + 1 ≤ w1.heap.size := by rw [← hw]; simp
  have cy1 : (w.alloc (.cells x.cells 53)).cell? ⟨w.heap.size, 1, none⟩ = some (.int .i64 x.i) := ((Blk.new _ _ _).cell 1).trans rfl
  have HBX := Lib.hid BX
  have T1 := Lib.hid (Two.start (hA.below hb1 hgl) (hR.call hb1))
  have HB1 := Lib.hid hb1
  have HW := Lib.hid hw
  have HU := Lib.hid Tryd.underlying36
  have HT := Lib.hid (fun w => rthereA_any x.i w)
  have FIN := Lib.hid (fun S2 R2 W (t : Two w1 g lo h b S2 R2 W) (ha : Agree S2 R2) => show Alike w g lo h b S2 R2 W from ⟨⟨t.ar, t.rf, (Tn.ofBelow _ HB1.out).trans t.tn⟩, ha⟩)
  have HGA := Lib.hid (get_gen x.i g w1 T1.out.ar)
  rcases inR_cases x.i with hi | hi
  rotate_left
  · have e1 : S.put16 x = S := if_neg (by simp [hi])
    have e2 : R.rput16 x = R := if_neg (by simp [hi])
    rw [e1, e2] at hag2 ⊢
    have HAG := Lib.hid hag2
    rw [show errAt x.i = errno 1 from if_neg (by simp [hi])] at HGA
    rw [hi] at HT
    generalize (S.slotAt x.i) = s at *
    clear BX hb1 hw hA hR hag hag2 e1 e2 hi
    go_enter Tryd.func18, Tryd.ntmps18
    go_wp2_with (go_at_call 27; fail)
    rw [HW.out]
    refine HGA.out.mono ?_
    rintro e w2 ⟨rfl, hb2⟩
    have hb2V := hb2.alloc hb2.size (.cells s.cells 36)
    have d1 : (w2.alloc (.cells s.cells 36)).cell? ⟨w.heap.size, 1, none⟩ = some (.int .i64 x.i) := (hb2V.cell (p := ⟨w.heap.size, 1, none⟩) (by show w.heap.size < w1.heap.size; omega)).trans ((HBX.out.cell 1).trans rfl)
    have T2 := Lib.hid (T1.out.call hb2V)
    clear hb2 hb2V HGA cy1
    simp only [errno]
    go_wp2_with (first
      | (refine wpList_store_new (ty := 36) rfl rfl rfl rfl rfl (SlotV.one _) slotInfo ?_)
      | (go_at_call 40; refine (HT.out _).mono ?_; rintro e w' ⟨rfl, rfl⟩))
    go_ret
    exact ⟨rfl, FIN.out _ _ _ T2.out HAG.out⟩
  have hir := inR_iff.1 hi
  obtain ⟨xd, xi, xk, xj⟩ := x
  dsimp only at hi hir cy1 HT HGA
  obtain ⟨i, hix⟩ : ∃ k : Nat, xi = (k : Int) := ⟨xi.toNat, by omega⟩
  subst hix
  have hi32 : i < 32 := by omega
  obtain ⟨s, hs⟩ := slot_of hag.len hi32
  have hsR : R.slots[i]? = some s := by rw [← hag.slots]; exact hs
  have e1 : S.put16 ⟨xd, i, xk, xj⟩ = S.put i (s.put16 ⟨xd, i, xk, xj⟩) := by unfold St.put16; rw [if_pos hi, Int.toNat_natCast, hs]
  have e2 : R.rput16 ⟨xd, i, xk, xj⟩ = { R with slots := R.slots.set i (s.put16 ⟨xd, i, xk, xj⟩) } := by unfold St.rput16; rw [if_pos hi, Int.toNat_natCast, hsR]
  rw [e1, e2] at hag2 ⊢
  have HAG := Lib.hid hag2
  rw [show errAt (i : Int) = .nilIface from if_pos hi, show S.slotAt (i : Int) = s from by unfold St.slotAt; rw [if_pos hi, Int.toNat_natCast, hs]] at HGA
  have HP := Lib.hid (fun W R2 (t : Two w1 g lo h b S R2 W) => (put_st hi32 (s.put16 ⟨xd, i, xk, xj⟩) g W t.ar hw0 (by omega)).mono fun e W' ⟨h1, h2, h3⟩ => show e = Ending.returned .nilIface ∧ Two w1 g lo h b (S.put i (s.put16 ⟨xd, i, xk, xj⟩)) R2 W' from ⟨h1, t.turnA hg h2 h3⟩)
  have hnil : ∀ w, (binOp .neq 68 .nilIface .nilIface).run Tryd.prog w = .ok (.bool false) w := fun w => by kernel_rfl
  have hnil2 : ∀ w, (binOp .eql 68 .nilIface .nilIface).run Tryd.prog w = .ok (.bool true) w := fun w => by kernel_rfl
  have hbuilt := built_sess16
  clear BX hb1 hw hA hR hag hag2 e1 e2 hs hsR HT
  go_enter Tryd.func18, Tryd.ntmps18
  go_wp2_with (go_at_call 27; fail)
  rw [HW.out]
  refine HGA.out.mono ?_
  rintro e w2 ⟨rfl, hb2⟩
  have hs2 := hb2.size
  obtain ⟨V, hV⟩ : ∃ V, w2.alloc (.cells s.cells 36) = V := ⟨_, rfl⟩
  have hb2V : Below w1.heap.size w1 V := by rw [← hV]; exact hb2.alloc hb2.size _
  have hVs : V.heap.size ≤ w2.heap.size + 1 ∧ w2.heap.size + 1 ≤ V.heap.size := by rw [← hV]; simp
  have BS : Blk V w2.heap.size 36 s.cells := by rw [← hV]; exact Blk.new _ _ _
  have XV := HBX.out.below hb2V HBX.out.lt
  have hne : w.heap.size ≠ w2.heap.size := by omega
  have T2 := Lib.hid (T1.out.call hb2V)
  have a2 : V.cell? ⟨w.heap.size, 2, none⟩ = some (.int .i64 xk) := (XV.cell 2).trans rfl
  have f3 := BS.frozen 3
  have p3 : V.cell? ⟨w2.heap.size, 3, none⟩ = some (.int .i64 s.prev) := (BS.cell 3).trans rfl
  have HBS := Lib.hid BS
  have HXV := Lib.hid XV
  have HV := Lib.hid hV
  have HBV := Lib.hid hb2V
  clear hb2 hb2V HGA cy1 hV BS XV
  go_upto_region 4 with (first
    | ((with_reducible show wpList _ _ _ _ _ (World.alloc _ _)); refine wpList_store_new (ty := 36) rfl rfl rfl rfl rfl (SlotV.one _) slotInfo ?_; rw [HV.out]))
  go_upto_region 5 with fail
  -- next
  have B1 := HBS.out.set_ 3 (.int .i64 xk)
  have X1 := HXV.out.far (p := ⟨w2.heap.size, 3, none⟩) hne (.int .i64 xk)
  have G1 := grownBy_set V w2.heap.size 3 (.int .i64 xk)
  generalize V.setCell ⟨w2.heap.size, 3, none⟩ (.int .i64 xk) = V1 at *
  have a3 : V1.cell? ⟨w.heap.size, 3, none⟩ = some (.int .i64 xj) := (X1.cell 3).trans rfl
  have f4 := B1.frozen 4
  have p4 : V1.cell? ⟨w2.heap.size, 4, none⟩ = some (.int .i64 s.next) := (B1.cell 4).trans rfl
  have HB1' := Lib.hid B1
  have HX1 := Lib.hid X1
  have HG1 := Lib.hid G1
  clear B1 X1 G1 a2 f3 p3
  go_upto_region 6 with fail
  have B2 := HB1'.out.set_ 4 (.int .i64 xj)
  have X2 := HX1.out.far (p := ⟨w2.heap.size, 4, none⟩) hne (.int .i64 xj)
  have G2 := grownBy_trans HG1.out (grownBy_set V1 w2.heap.size 4 (.int .i64 xj))
  generalize V1.setCell ⟨w2.heap.size, 4, none⟩ (.int .i64 xj) = V2 at *
  have b3 : V2.cell? ⟨w.heap.size, 3, none⟩ = some (.int .i64 xj) := (X2.cell 3).trans rfl
  have b2 : V2.cell? ⟨w.heap.size, 2, none⟩ = some (.int .i64 xk) := (X2.cell 2).trans rfl
  have f2 := B2.frozen 2
  have p2 : V2.cell? ⟨w2.heap.size, 2, none⟩ = some (.int .i64 s.kids) := (B2.cell 2).trans rfl
  have HB2' := Lib.hid B2
  have HX2 := Lib.hid X2
  have HG2 := Lib.hid G2
  clear B2 X2 G2 a3 f4 p4
  go_upto_region 7 with fail
  generalize hKK : wrap64 (xj + xk) = kk at *
  have B3 := HB2'.out.set_ 2 (.int .i64 kk)
  have X3 := HX2.out.far (p := ⟨w2.heap.size, 2, none⟩) hne (.int .i64 kk)
  have G3 := grownBy_trans HG2.out (grownBy_set V2 w2.heap.size 2 (.int .i64 kk))
  generalize V2.setCell ⟨w2.heap.size, 2, none⟩ (.int .i64 kk) = V3 at *
  have c1 : V3.cell? ⟨w.heap.size, 1, none⟩ = some (.int .i64 i) := (X3.cell 1).trans rfl
  have HB3' := Lib.hid B3
  have HX3 := Lib.hid X3
  have HG3 := Lib.hid G3
  have HKK := Lib.hid hKK
  clear B3 X3 G3 b3 b2 f2 p2 hKK
  go_upto_region 8 with (first
    | ((with_reducible show wpList _ _ _ (Oper.mk (some 37) (Op.build 34 _) _ _ _ _ :: _) _ _); refine wpList_build_as rfl rfl rfl (built_sess16 _) ?_; simp only [Act.put, List.setIfInBounds_toArray, List.set_cons_zero, List.set_cons_succ])
    | ((with_reducible show wpList _ _ _ (Oper.mk none (Op.store 34 _ _) _ _ _ _ :: _) _ _); refine wpList_store_at rfl rfl rfl rfl HB3'.out (by simp [SlotV.size]) (sess16_one ⟨xd, i, xk, xj⟩) sess16Info ?_))
  have hcells : splice (((s.cells.setIfInBounds 3 (.int .i64 xk)).setIfInBounds 4 (.int .i64 xj)).setIfInBounds 2 (.int .i64 kk)) 5 #[.int .i64 0, .int .i64 ((i : Int) + 7), .int .i64 0, .int .i64 0, .int .i64 0, .string ⟨#[117]⟩, .string ⟨#[]⟩, .int .u64 0, .int .i64 0, .int .i64 0, .int .i64 0, .int .i64 0] = (s.put16 ⟨xd, i, xk, xj⟩).cells := by rw [← HKK.out]; rfl
  simp only [Act.put]
  rw [hcells]
  have B4 := HB3'.out.setRow_same (s.put16 ⟨xd, i, xk, xj⟩).cells
  have X4 := HX3.out.setRow_ne hne (s.put16 ⟨xd, i, xk, xj⟩).cells
  have G4 := grownBy_trans HG3.out (grownBy_setRow V3 w2.heap.size (s.put16 ⟨xd, i, xk, xj⟩).cells)
  generalize hss : s.put16 ⟨xd, i, xk, xj⟩ = s' at *
  generalize V3.setRow w2.heap.size s'.cells = V4 at *
  have hb4 : Below w1.heap.size w1 V4 := HBV.out.grown G4 HBV.out.size (fun k e => by cases e; omega)
  have hs4 := hb4.size
  have T4 := Lib.hid (T1.out.call hb4)
  have hi0 : (0 : Int) ≤ (i : Int) := by omega
  have hi1 : (i : Int) < 32 := by omega
  obtain ⟨cap, c0⟩ : ∃ cap, V4.cell? ⟨h, 0, none⟩ = some (.slice (some ⟨b, 0, none⟩) 32 cap) := by
    obtain ⟨cap, junk, vF, r⟩ := T4.out.rf
    obtain ⟨A, c, _, _, c0, _, _⟩ := r.view
    exact ⟨cap, c0⟩
  have d0 := cell_regrown c0
  have x1 : V4.cell? ⟨w.heap.size, 1, none⟩ = some (.int .i64 i) := (X4.cell 1).trans rfl
  have d1 := cell_regrown x1
  have HS := Lib.hid (B4.row.class_ B4.lt)
  have HB4 := Lib.hid B4
  have HX4 := Lib.hid X4
  clear B4 X4 G4 hcells hb4 HB3' HX3 HG3 c1 HKK
  refine wp_region_quiet_tail_below 8 (by kernel_rfl) (by kernel_rfl) ?_
  simp only [List.take_succ_cons, List.take_zero, List.drop_succ_cons, List.drop_zero]
  repeat (first
    | go_big_quiet_skip
    | (refine wpQuiet_load_at rfl rfl rfl HS.out HU.out rfl slotInfo ?_; simp only [Act.put, List.setIfInBounds_toArray, List.set_cons_zero, List.set_cons_succ])
    | (go_big_quiet_want; go_big_quiet_op; first | go_big_quiet_on))
  refine wpQuiet_nil ?_
  intro v0 hC
  have hb := below_class hC
  have t5 := T4.out.call hb
  have B5 := HB4.out.below hb HB4.out.lt
  have X5 := HX4.out.below hb HX4.out.lt
  obtain ⟨cap5, junk5, vF5, r5⟩ := t5.rf
  refine wpList_store_at rfl rfl rfl rfl r5.slots (r5.room hi32 s') (SlotV.one _) slotInfo ?_
  rw [RAt.splice r5.len hi32 s']
  have g6 := grownBy_setRow v0 b (flatS (R.slots.set i s') ++ junk5).toArray
  have r6 := r5.store i s'
  have hlos := t5.rf.los
  have B6 := B5.setRow_ne (show w2.heap.size ≠ b by omega) (flatS (R.slots.set i s') ++ junk5).toArray
  have X6 := X5.setRow_ne (show w.heap.size ≠ b by omega) (flatS (R.slots.set i s') ++ junk5).toArray
  generalize v0.setRow b (flatS (R.slots.set i s') ++ junk5).toArray = V6 at *
  have T6 := Lib.hid (t5.turnR hg (show IsRB lo h b { R with slots := R.slots.set i s' } V6 from ⟨_, _, _, r6⟩) (Tn.ofGrown g6 (.inr rfl)))
  have y1 : V6.cell? ⟨w.heap.size, 1, none⟩ = some (.int .i64 i) := (X6.cell 1).trans rfl
  have HS6 := Lib.hid B6.row
  clear hb t5 B5 X5 r5 g6 r6 B6 X6 hC c0 d0 x1 d1 HS
  go_wp2_with (first
    | (refine wpList_load_at (ty := 36) rfl rfl rfl HS6.out HU.out rfl slotInfo ?_)
    | (go_at_call 29; fail))
  refine (HP.out _ _ T6.out).mono ?_
  rintro e w7 ⟨rfl, t7⟩
  have T7 := Lib.hid t7
  clear t7
  go_wp2
  go_ret
  subst hss
  exact ⟨rfl, FIN.out _ _ _ T7.out HAG.out⟩
end Go.Proofs.YtdgdbcapojgnlaaDoor
