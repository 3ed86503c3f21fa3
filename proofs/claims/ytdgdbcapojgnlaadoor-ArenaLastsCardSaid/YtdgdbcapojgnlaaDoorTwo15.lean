/-
  An arena and the document's, side by side: what a call of either turns; lineagelaw15.does needs each call's two answers.
-/
import Derived.Test.YtdgdbcapojgnlaaDoorRefAr3
import Derived.Test.YtdgdbcapojgnlaaDoorRefAr5
import Derived.Test.YtdgdbcapojgnlaaDoorPlain
namespace Go.Proofs.YtdgdbcapojgnlaaDoor
set_option maxRecDepth 100000
open Go.RowKit Go.Sort

/-- A struct's load at a step of a region that draws its order. -/
theorem step_load_at {P : Program} {w : World} {ops : Array Oper} {o' : Oper} {a : Act} {K : Act → World → Prop} {Q : Exit → Act → World → Prop} {E : Prop} {ty : TypeId} {x : Operand} (hw : Region.wanted o' (yielded ops a.tmps) = true) (ho : o'.op = .load ty x)
    {g o : Nat} {cs : Array Value} {d : TypeDesc} (hx : a.eval x = .pointer (some ⟨g, o, none⟩)) (h : RowAt w g o cs) (hu : P.underlying ty = some d) (hd : isAggD d = true) (hi : (P.info? ty).map (·.size) = some cs.size)
    (hK : K (a.put o'.dst (.agg cs)) w) : if Region.wanted o' (yielded ops a.tmps) = true then Oper.wp P o' a w K Q else E := by
  rw [if_pos hw]
  unfold Oper.wp execOp
  simp only [ho, hx, Sem.run_bind, run_loadAt_at w hu hd hi h, Result.andThen_ok, Sem.run_pure]
  exact hK
/-- The arena at g is SA, the document's at h and b is SR; since w nothing else has turned. -/
structure Two (w : World) (g lo h b : Nat) (SA SR : St) (W : World) : Prop where
  ar : IsAr W g SA
  rf : IsRB lo h b SR W
  tn : Tn (fun k => k = g ∨ k = h ∨ k = b) w W
section
variable {w W W' : World} {g lo h b : Nat} {SA SR S' : St}
theorem Two.start (hA : IsAr w g SA) (hR : IsRB lo h b SR w) : Two w g lo h b SA SR w := ⟨hA, hR, Tn.refl _ _⟩
theorem Two.call (t : Two w g lo h b SA SR W) (hb : Below W.heap.size W W') : Two w g lo h b SA SR W' := ⟨t.ar.below hb t.ar.lt, t.rf.call hb, t.tn.call hb⟩
theorem Two.turnA (t : Two w g lo h b SA SR W) (hg : g < lo) (hA : IsAr W' g S') (hG : W.grownBy W' (some g)) : Two w g lo h b S' SR W' := ⟨hA, t.rf.kept hG hg, t.tn.grown hG (.inl rfl)⟩
theorem IsRB.los (r : IsRB lo h b SR W) : lo ≤ h ∧ lo ≤ b ∧ h < W.heap.size ∧ b < W.heap.size := by obtain ⟨_, _, _, r⟩ := r; exact ⟨r.loh, r.lob, r.head.lt, r.slots.lt⟩
theorem Two.turnR (t : Two w g lo h b SA SR W) (hg : g < lo) (hR : IsRB lo h b S' W') (hT : Tn (fun k => k = h ∨ k = b) W W') : Two w g lo h b SA S' W' :=
  ⟨t.ar.block (hT.block g t.ar.lt (by have := t.rf.los; omega)), hR, t.tn.trans (hT.mono fun k hk => .inr hk)⟩
theorem Two.block (t : Two w g lo h b SA SR W) {k : Nat} (hk : k < w.heap.size) (h1 : k ≠ g ∧ k ≠ h ∧ k ≠ b) : W'.heap[k]? = W.heap[k]? → W'.heap[k]? = w.heap[k]? := fun e => e.trans (t.tn.block k hk (by omega))
theorem Two.row (t : Two w g lo h b SA SR W) {k o : Nat} {cs : Array Value} (hk : k < w.heap.size) (h1 : k ≠ g ∧ k ≠ h ∧ k ≠ b) (hr : RowAt w k o cs) : RowAt W k o cs :=
  ⟨fun j v hv => (World.cell?_of_block (a := ⟨k, o + j, none⟩) (t.tn.block k hk (by omega))).trans (hr.at_ j v hv)⟩
theorem Two.cell (t : Two w g lo h b SA SR W) {k o : Nat} {v : Value} (hk : k < w.heap.size) (h1 : k ≠ g ∧ k ≠ h ∧ k ≠ b) (hr : w.cell? ⟨k, o, none⟩ = some v) : W.cell? ⟨k, o, none⟩ = some v :=
  (World.cell?_of_block (a := ⟨k, o, none⟩) (t.tn.block k hk (by omega))).trans hr
theorem Two.laid (t : Two w g lo h b SA SR W) (hl : Laid w) (h1 : 0 ≠ g ∧ 0 ≠ h ∧ 0 ≠ b) : Laid W := t.cell hl.pos h1 hl
end
/-- What a call of the arena answers: the error k, and what the arena is then. -/
def AnsA (g : Nat) (k : Int) (S' : St) (W : World) (e : Ending) (W' : World) : Prop := e = .returned (errOf k) ∧ IsAr W' g S' ∧ W.grownBy W' (some g)
def AnsR (lo h b : Nat) (k : Int) (S' : St) (W : World) (e : Ending) (W' : World) : Prop := e = .returned (.int .i64 k) ∧ IsRB lo h b S' W' ∧ Tn (fun k => k = h ∨ k = b) W W'
theorem turned_self (w : World) (g : Option Nat) : w.grownBy w g := ⟨rfl, rfl, rfl, Nat.le_refl _, fun _ _ _ => rfl⟩
section
variable {S : St} {g lo h b : Nat}
/-- Put, at any number. -/
def St.putZ (S : St) (n : Int) (s : SlotV) : St := if inR n = true then S.put n.toNat s else S
def St.dropZ (S : St) (n : Int) : St := if inR n = true ∧ n.toNat ∈ S.free then S.drop n.toNat else S
def St.giveZ (S : St) (n : Int) : St := if inR n = true ∧ n.toNat ∉ S.free then S.give n.toNat else S
def St.takeZ (S : St) : St := if S.free = [] then S else S.take
def putNo (n : Int) : Int := if inR n = true then 0 else 1
def dropNo (S : St) (n : Int) : Int := if inR n = true then (if n.toNat ∈ S.free then 0 else 10) else 1
def giveNo (S : St) (n : Int) : Int := if inR n = true then (if n.toNat ∈ S.free then 9 else 0) else 1
theorem no_ok (S : St) (n : Int) : (0 ≤ putNo n ∧ putNo n ≤ 24) ∧ (0 ≤ dropNo S n ∧ dropNo S n ≤ 24) ∧ (0 ≤ giveNo S n ∧ giveNo S n ≤ 24) := by
  unfold putNo dropNo giveNo
  repeat' constructor
  all_goals (repeat' split) <;> omega
theorem nat_of {n : Int} (hn : inR n = true) : ∃ k : Nat, n = (k : Int) ∧ k < 32 := by
  have := inR_iff.1 hn
  exact ⟨n.toNat, by omega, by omega⟩
theorem not_in {n : Int} (hn : inR n = false) : n < 0 ∨ 32 ≤ n := by
  have : ¬ (0 ≤ n ∧ n < 32) := fun hh => by rw [inR_iff.2 hh] at hn; cases hn
  omega
theorem putA (n : Int) (s : SlotV) (W : World) (hA : IsAr W g S) (hw0 : 0 ≤ S.writes) (hw1 : S.writes < 1000000000) :
    Calls Tryd.prog 29 #[.pointer (some ⟨g, 0, none⟩), .int .i64 n, .agg s.cells] W (AnsA g (putNo n) (S.putZ n s) W) := by
  unfold putNo St.putZ
  rcases hn : inR n with _ | _
  · exact (put_out (not_in hn) _ s W).mono fun e W' ⟨h1, h2⟩ => ⟨by rw [h1]; rfl, hA.below h2 hA.lt, grownBy_below h2 _⟩
  · obtain ⟨k, rfl, hk⟩ := nat_of hn
    exact (put_st hk s g W hA hw0 hw1).mono fun e W' ⟨h1, h2, h3⟩ => ⟨by rw [h1]; rfl, h2, h3⟩
theorem putR (n : Int) (s : SlotV) (W : World) (hR : IsRB lo h b S W) (hw0 : 0 ≤ S.writes) (hw1 : S.writes < 1000000000) :
    Calls Tryd.prog 30 #[.pointer (some ⟨h, 0, none⟩), .int .i64 n, .agg s.cells] W (AnsR lo h b (putNo n) (S.putZ n s) W) := by
  unfold putNo St.putZ
  rcases hn : inR n with _ | _
  · exact (rput_out n _ s W hn).mono fun e W' ⟨h1, h2⟩ => ⟨by rw [h1]; rfl, hR.call h2, Tn.ofBelow _ h2⟩
  · obtain ⟨k, rfl, hk⟩ := nat_of hn
    exact (rput_in hk s W hR hw0 hw1).mono fun e W' ⟨h1, h2, h3⟩ => ⟨by rw [h1]; rfl, h2, h3⟩
theorem placeA (n : Int) (W : World) (hA : IsAr W g S) :
    Calls Tryd.prog 33 #[.pointer (some ⟨g, 0, none⟩), .int .i64 n] W (AnsA g (dropNo S n) (S.dropZ n) W) := by
  unfold dropNo St.dropZ
  rcases hn : inR n with _ | _
  · exact (place_out (not_in hn) _ W).mono fun e W' ⟨h1, h2⟩ => by subst h2; exact ⟨by rw [h1]; rfl, by simpa using hA, turned_self _ _⟩
  · obtain ⟨k, rfl, hk⟩ := nat_of hn
    by_cases hm : k ∈ S.free
    · exact (place_st hm g W hA).mono fun e W' ⟨h1, h2, h3⟩ => ⟨by rw [h1]; simp [hm, errOf], by simpa [hm] using h2, h3⟩
    · exact (place_no hk hm g W hA).mono fun e W' ⟨h1, h2⟩ => by subst h2; exact ⟨by rw [h1]; simp [hm, errOf], by simpa [hm] using hA, turned_self _ _⟩
theorem placeR (n : Int) (W : World) (hR : IsRB lo h b S W) (hl : S.free.length ≤ 32) (hlo : lo ≤ W.heap.size) :
    Calls Tryd.prog 34 #[.pointer (some ⟨h, 0, none⟩), .int .i64 n] W (AnsR lo h b (dropNo S n) (S.dropZ n) W) := by
  unfold dropNo St.dropZ
  rcases hn : inR n with _ | _
  · exact (rplace_out n _ W hn).mono fun e W' ⟨h1, h2⟩ => by subst h2; exact ⟨by rw [h1]; rfl, by simpa using hR, Tn.refl _ _⟩
  · obtain ⟨k, rfl, hk⟩ := nat_of hn
    by_cases hm : k ∈ S.free
    · exact (rplace_in W hR hk hm hl hlo).mono fun e W' ⟨h1, h2, h3⟩ => ⟨by rw [h1]; simp [hm], by simpa [hm] using h2, h3⟩
    · exact (rplace_no W hR hk hm hl).mono fun e W' ⟨h1, h2⟩ => by subst h2; exact ⟨by rw [h1]; simp [hm], by simpa [hm] using hR, Tn.refl _ _⟩
theorem freeA (n : Int) (W : World) (hA : IsAr W g S) (hw0 : 0 ≤ S.writes) (hw1 : S.writes < 1000000000) :
    Calls Tryd.prog 35 #[.pointer (some ⟨g, 0, none⟩), .int .i64 n] W (AnsA g (giveNo S n) (S.giveZ n) W) := by
  unfold giveNo St.giveZ
  rcases hn : inR n with _ | _
  · exact (free_out (not_in hn) _ W).mono fun e W' ⟨h1, h2⟩ => by subst h2; exact ⟨by rw [h1]; rfl, by simpa using hA, turned_self _ _⟩
  · obtain ⟨k, rfl, hk⟩ := nat_of hn
    by_cases hm : k ∈ S.free
    · exact (free_no hm g W hA).mono fun e W' ⟨h1, h2⟩ => by subst h2; exact ⟨by rw [h1]; simp [hm, errOf], by simpa [hm] using hA, turned_self _ _⟩
    · exact (free_st hk hm g W hA hw0 hw1).mono fun e W' ⟨h1, h2, h3⟩ => ⟨by rw [h1]; simp [hm, errOf], by simpa [hm] using h2, h3⟩
theorem freeR (n : Int) (W : World) (hR : IsRB lo h b S W) (hl : S.free.length ≤ 32) (hlo : lo ≤ W.heap.size) (hw0 : 0 ≤ S.writes) (hw1 : S.writes < 1000000000) :
    Calls Tryd.prog 36 #[.pointer (some ⟨h, 0, none⟩), .int .i64 n] W (AnsR lo h b (giveNo S n) (S.giveZ n) W) := by
  unfold giveNo St.giveZ
  rcases hn : inR n with _ | _
  · exact (rgive_out n _ W hn).mono fun e W' ⟨h1, h2⟩ => by subst h2; exact ⟨by rw [h1]; rfl, by simpa using hR, Tn.refl _ _⟩
  · obtain ⟨k, rfl, hk⟩ := nat_of hn
    by_cases hm : k ∈ S.free
    · exact (rgive_no W hR hk hm hl).mono fun e W' ⟨h1, h2⟩ => by subst h2; exact ⟨by rw [h1]; simp [hm], by simpa [hm] using hR, Tn.refl _ _⟩
    · exact (rgive_in W hR hk hm hl hlo hw0 hw1).mono fun e W' ⟨h1, h2, h3⟩ => ⟨by rw [h1]; simp [hm], by simpa [hm] using h2, h3⟩
/-- The number that Take answers; its error. -/
def St.takeI (S : St) : Int := match S.free with | [] => 0 | i :: _ => i
def takeNo (S : St) : Int := match S.free with | [] => 19 | _ :: _ => 0
theorem takeA (W : World) (hA : IsAr W g S) :
    Calls Tryd.prog 32 #[.pointer (some ⟨g, 0, none⟩)] W (fun e W' => e = .returned (.tuple #[.int .i64 S.takeI, errOf (takeNo S)]) ∧ IsAr W' g S.takeZ ∧ W.grownBy W' (some g)) := by
  unfold St.takeI takeNo St.takeZ
  rcases hf : S.free with _ | ⟨i, L⟩
  · exact (take_full hf g W hA).mono fun e W' ⟨h1, h2⟩ => by subst h2; exact ⟨by rw [h1]; rfl, by simpa using hA, turned_self _ _⟩
  · exact (take_st hf g W hA).mono fun e W' ⟨h1, h2, h3⟩ => ⟨by rw [h1]; rfl, by simpa using h2, h3⟩
theorem takeR (W : World) (hR : IsRB lo h b S W) (hl : S.free.length ≤ 32) (hlo : lo ≤ W.heap.size) :
    Calls Tryd.prog 31 #[.pointer (some ⟨h, 0, none⟩)] W (fun e W' => e = .returned (.tuple #[.int .i64 S.takeI, .int .i64 (takeNo S)]) ∧ IsRB lo h b S.takeZ W' ∧ Tn (fun k => k = h ∨ k = b) W W') := by
  unfold St.takeI takeNo St.takeZ
  rcases hf : S.free with _ | ⟨i, L⟩
  · exact (rtake_none W hR hf).mono fun e W' ⟨h1, h2⟩ => by subst h2; exact ⟨by rw [h1], by simpa using hR, Tn.refl _ _⟩
  · exact (rtake_some W hR hf hl hlo).mono fun e W' ⟨h1, h2, h3⟩ => ⟨by rw [h1], by simpa using h2, h3⟩
end
end Go.Proofs.YtdgdbcapojgnlaaDoor
