/-
  Merged texts: Two15, SwLaw, Both.
-/
import Derived.Test.YtbidgpeeogoglaaDoorGg
import Derived.Test.YtbidgpeeogoglaaDoorGb
import Derived.Test.YtbidgpeeogoglaaDoorGh
/-
  An arena and the document's, side by side: what a call of either turns; lineagelaw15.does needs each call's two answers.
-/
namespace Go.Proofs.YtbidgpeeogoglaaDoor
set_option maxRecDepth 100000
open Go.RowKit Go.Sort

/-- A struct's load at a step of a region that draws its order. -/
theorem step_load_at {P : Program} {w : World} {ops : Array Oper} {o' : Oper} {a : Act} {K : Act → World → Prop} {Q : Exit → Act → World → Prop} {E : Prop} {ty : TypeId} {x : Operand} (hw : Region.wanted o' (yielded ops a.tmps) = true) (ho : o'.op = .load ty x)
    {g o : Nat} {cs : Array Value} {d : TypeDesc} (hx : a.eval x = .pointer (some ⟨g, o, none⟩)) (h : RowAt w g o cs) (hu : P.underlying ty = some d) (hd : isAggD d = true) (hi : (P.info? ty).map (·.size) = some cs.size)
    (hK : K (a.put o'.dst (.agg cs)) w) : if Region.wanted o' (yielded ops a.tmps) = true then Oper.wp P o' a w K Q else E := by
  rw [if_pos hw]
  unfold Oper.wp execOp
  simp only [ho, hx, Sem.run_bind, run_loadAt_at w hu hd hi h, Result.andThen_ok, Sem.run_pure]
  exact hK
/-- The arena at g is SA, the document's at h and b is SR; since w nothing else has turned. -/
structure Two (w : World) (g lo h b : Nat) (SA SR : St) (W : World) : Prop where
  ar : IsAr W g SA
  rf : IsRB lo h b SR W
  tn : Tn (fun k => k = g ∨ k = h ∨ k = b) w W
section
variable {w W W' : World} {g lo h b : Nat} {SA SR S' : St}
theorem Two.start (hA : IsAr w g SA) (hR : IsRB lo h b SR w) : Two w g lo h b SA SR w := ⟨hA, hR, Tn.refl _ _⟩
theorem Two.call (t : Two w g lo h b SA SR W) (hb : Below W.heap.size W W') : Two w g lo h b SA SR W' := ⟨t.ar.below hb t.ar.lt, t.rf.call hb, t.tn.call hb⟩
theorem Two.turnA (t : Two w g lo h b SA SR W) (hg : g < lo) (hA : IsAr W' g S') (hG : W.grownBy W' (some g)) : Two w g lo h b S' SR W' := ⟨hA, t.rf.kept hG hg, t.tn.grown hG (.inl rfl)⟩
theorem IsRB.los (r : IsRB lo h b SR W) : lo ≤ h ∧ lo ≤ b ∧ h < W.heap.size ∧ b < W.heap.size := by obtain ⟨_, _, _, r⟩ := r; exact ⟨r.loh, r.lob, r.head.lt, r.slots.lt⟩
theorem Two.turnR (t : Two w g lo h b SA SR W) (hg : g < lo) (hR : IsRB lo h b S' W') (hT : Tn (fun k => k = h ∨ k = b) W W') : Two w g lo h b SA S' W' :=
  ⟨t.ar.block (hT.block g t.ar.lt (by have := t.rf.los; omega)), hR, t.tn.trans (hT.mono fun k hk => .inr hk)⟩
theorem Two.block (t : Two w g lo h b SA SR W) {k : Nat} (hk : k < w.heap.size) (h1 : k ≠ g ∧ k ≠ h ∧ k ≠ b) : W'.heap[k]? = W.heap[k]? → W'.heap[k]? = w.heap[k]? := fun e => e.trans (t.tn.block k hk (by omega))
theorem Two.row (t : Two w g lo h b SA SR W) {k o : Nat} {cs : Array Value} (hk : k < w.heap.size) (h1 : k ≠ g ∧ k ≠ h ∧ k ≠ b) (hr : RowAt w k o cs) : RowAt W k o cs :=
  ⟨fun j v hv => (World.cell?_of_block (a := ⟨k, o + j, none⟩) (t.tn.block k hk (by omega))).trans (hr.at_ j v hv)⟩
theorem Two.cell (t : Two w g lo h b SA SR W) {k o : Nat} {v : Value} (hk : k < w.heap.size) (h1 : k ≠ g ∧ k ≠ h ∧ k ≠ b) (hr : w.cell? ⟨k, o, none⟩ = some v) : W.cell? ⟨k, o, none⟩ = some v :=
  (World.cell?_of_block (a := ⟨k, o, none⟩) (t.tn.block k hk (by omega))).trans hr
theorem Two.laid (t : Two w g lo h b SA SR W) (hl : Laid w) (h1 : 0 ≠ g ∧ 0 ≠ h ∧ 0 ≠ b) : Laid W := t.cell hl.pos h1 hl
end
/-- What a call of the arena answers: the error k, and what the arena is then. -/
def AnsA (g : Nat) (k : Int) (S' : St) (W : World) (e : Ending) (W' : World) : Prop := e = .returned (errOf k) ∧ IsAr W' g S' ∧ W.grownBy W' (some g)
def AnsR (lo h b : Nat) (k : Int) (S' : St) (W : World) (e : Ending) (W' : World) : Prop := e = .returned (.int .i64 k) ∧ IsRB lo h b S' W' ∧ Tn (fun k => k = h ∨ k = b) W W'
theorem turned_self (w : World) (g : Option Nat) : w.grownBy w g := ⟨rfl, rfl, rfl, Nat.le_refl _, fun _ _ _ => rfl⟩
section
variable {S : St} {g lo h b : Nat}
/-- Put, at any number. -/
def St.putZ (S : St) (n : Int) (s : SlotV) : St := if inR n = true then S.put n.toNat s else S
def St.dropZ (S : St) (n : Int) : St := if inR n = true ∧ n.toNat ∈ S.free then S.drop n.toNat else S
def St.giveZ (S : St) (n : Int) : St := if inR n = true ∧ n.toNat ∉ S.free then S.give n.toNat else S
def St.takeZ (S : St) : St := if S.free = [] then S else S.take
def putNo (n : Int) : Int := if inR n = true then 0 else 1
def dropNo (S : St) (n : Int) : Int := if inR n = true then (if n.toNat ∈ S.free then 0 else 10) else 1
def giveNo (S : St) (n : Int) : Int := if inR n = true then (if n.toNat ∈ S.free then 9 else 0) else 1
theorem no_ok (S : St) (n : Int) : (0 ≤ putNo n ∧ putNo n ≤ 24) ∧ (0 ≤ dropNo S n ∧ dropNo S n ≤ 24) ∧ (0 ≤ giveNo S n ∧ giveNo S n ≤ 24) := by
  unfold putNo dropNo giveNo
  repeat' constructor
  all_goals (repeat' split) <;> omega
theorem nat_of {n : Int} (hn : inR n = true) : ∃ k : Nat, n = (k : Int) ∧ k < 32 := by
  have := inR_iff.1 hn
  exact ⟨n.toNat, by omega, by omega⟩
theorem not_in {n : Int} (hn : inR n = false) : n < 0 ∨ 32 ≤ n := by
  have : ¬ (0 ≤ n ∧ n < 32) := fun hh => by rw [inR_iff.2 hh] at hn; cases hn
  omega
theorem putA (n : Int) (s : SlotV) (W : World) (hA : IsAr W g S) (hw0 : 0 ≤ S.writes) (hw1 : S.writes < 1000000000) :
    Calls Tryd.prog 51 #[.pointer (some ⟨g, 0, none⟩), .int .i64 n, .agg s.cells] W (AnsA g (putNo n) (S.putZ n s) W) := by
  unfold putNo St.putZ
  rcases hn : inR n with _ | _
  · exact (put_out (not_in hn) _ s W).mono fun e W' ⟨h1, h2⟩ => ⟨by rw [h1]; rfl, hA.below h2 hA.lt, grownBy_below h2 _⟩
  · obtain ⟨k, rfl, hk⟩ := nat_of hn
    exact (put_st hk s g W hA hw0 hw1).mono fun e W' ⟨h1, h2, h3⟩ => ⟨by rw [h1]; rfl, h2, h3⟩
theorem putR (n : Int) (s : SlotV) (W : World) (hR : IsRB lo h b S W) (hw0 : 0 ≤ S.writes) (hw1 : S.writes < 1000000000) :
    Calls Tryd.prog 52 #[.pointer (some ⟨h, 0, none⟩), .int .i64 n, .agg s.cells] W (AnsR lo h b (putNo n) (S.putZ n s) W) := by
  unfold putNo St.putZ
  rcases hn : inR n with _ | _
  · exact (rput_out n _ s W hn).mono fun e W' ⟨h1, h2⟩ => ⟨by rw [h1]; rfl, hR.call h2, Tn.ofBelow _ h2⟩
  · obtain ⟨k, rfl, hk⟩ := nat_of hn
    exact (rput_in hk s W hR hw0 hw1).mono fun e W' ⟨h1, h2, h3⟩ => ⟨by rw [h1]; rfl, h2, h3⟩
theorem freeA (n : Int) (W : World) (hA : IsAr W g S) (hw0 : 0 ≤ S.writes) (hw1 : S.writes < 1000000000) :
    Calls Tryd.prog 105 #[.pointer (some ⟨g, 0, none⟩), .int .i64 n] W (AnsA g (giveNo S n) (S.giveZ n) W) := by
  unfold giveNo St.giveZ
  rcases hn : inR n with _ | _
  · exact (free_out (not_in hn) _ W).mono fun e W' ⟨h1, h2⟩ => by subst h2; exact ⟨by rw [h1]; rfl, by simpa using hA, turned_self _ _⟩
  · obtain ⟨k, rfl, hk⟩ := nat_of hn
    by_cases hm : k ∈ S.free
    · exact (free_no hm g W hA).mono fun e W' ⟨h1, h2⟩ => by subst h2; exact ⟨by rw [h1]; simp [hm, errOf], by simpa [hm] using hA, turned_self _ _⟩
    · exact (free_st hk hm g W hA hw0 hw1).mono fun e W' ⟨h1, h2, h3⟩ => ⟨by rw [h1]; simp [hm, errOf], by simpa [hm] using h2, h3⟩
theorem freeR (n : Int) (W : World) (hR : IsRB lo h b S W) (hl : S.free.length ≤ 32) (hlo : lo ≤ W.heap.size) (hw0 : 0 ≤ S.writes) (hw1 : S.writes < 1000000000) :
    Calls Tryd.prog 99 #[.pointer (some ⟨h, 0, none⟩), .int .i64 n] W (AnsR lo h b (giveNo S n) (S.giveZ n) W) := by
  unfold giveNo St.giveZ
  rcases hn : inR n with _ | _
  · exact (rgive_out n _ W hn).mono fun e W' ⟨h1, h2⟩ => by subst h2; exact ⟨by rw [h1]; rfl, by simpa using hR, Tn.refl _ _⟩
  · obtain ⟨k, rfl, hk⟩ := nat_of hn
    by_cases hm : k ∈ S.free
    · exact (rgive_no W hR hk hm hl).mono fun e W' ⟨h1, h2⟩ => by subst h2; exact ⟨by rw [h1]; simp [hm], by simpa [hm] using hR, Tn.refl _ _⟩
    · exact (rgive_in W hR hk hm hl hlo hw0 hw1).mono fun e W' ⟨h1, h2, h3⟩ => ⟨by rw [h1]; simp [hm], by simpa [hm] using h2, h3⟩
/-- The number that Take answers; its error. -/
def St.takeI (S : St) : Int := match S.free with | [] => 0 | i :: _ => i
def takeNo (S : St) : Int := match S.free with | [] => 19 | _ :: _ => 0
theorem takeA (W : World) (hA : IsAr W g S) :
    Calls Tryd.prog 33 #[.pointer (some ⟨g, 0, none⟩)] W (fun e W' => e = .returned (.tuple #[.int .i64 S.takeI, errOf (takeNo S)]) ∧ IsAr W' g S.takeZ ∧ W.grownBy W' (some g)) := by
  unfold St.takeI takeNo St.takeZ
  rcases hf : S.free with _ | ⟨i, L⟩
  · exact (take_full hf g W hA).mono fun e W' ⟨h1, h2⟩ => by subst h2; exact ⟨by rw [h1]; rfl, by simpa using hA, turned_self _ _⟩
  · exact (take_st hf g W hA).mono fun e W' ⟨h1, h2, h3⟩ => ⟨by rw [h1]; rfl, by simpa using h2, h3⟩
theorem takeR (W : World) (hR : IsRB lo h b S W) (hl : S.free.length ≤ 32) (hlo : lo ≤ W.heap.size) :
    Calls Tryd.prog 34 #[.pointer (some ⟨h, 0, none⟩)] W (fun e W' => e = .returned (.tuple #[.int .i64 S.takeI, .int .i64 (takeNo S)]) ∧ IsRB lo h b S.takeZ W' ∧ Tn (fun k => k = h ∨ k = b) W W') := by
  unfold St.takeI takeNo St.takeZ
  rcases hf : S.free with _ | ⟨i, L⟩
  · exact (rtake_none W hR hf).mono fun e W' ⟨h1, h2⟩ => by subst h2; exact ⟨by rw [h1], by simpa using hR, Tn.refl _ _⟩
  · exact (rtake_some W hR hf hl hlo).mono fun e W' ⟨h1, h2, h3⟩ => ⟨by rw [h1], by simpa using h2, h3⟩
end
end Go.Proofs.YtbidgpeeogoglaaDoor
/-
  Garbage, as the document has it (pure); the document's garbage in memory.
-/
namespace Go.Proofs.YtbidgpeeogoglaaDoor
set_option maxRecDepth 100000
open Go.RowKit Go.Sort

/-- Add: the error and where; the arena and the last one then. -/
def St.gadd (R : St) (l i : Int) : (Int × Int) × St × Int :=
  if inR i = false then ((1, -1), R, l)
  else if (R.slotAt i).used = false then ((10, -1), R, l)
  else if (R.rpush l i).1.2.1 = 0 then ((0, -1), (R.rpush l i).2, (R.rpush l i).1.1)
  else (((R.rpush l i).1.2.1, (R.rpush l i).1.2.2), (R.rpush l i).2, l)
/-- Unit: the slot, and whether; the arena and the last one then. -/
def St.gunit (R : St) (l : Int) : (Int × Bool) × St × Int :=
  if inR l = false then ((0, false), R, l)
  else if inR (R.slotAt l).next = false then ((0, false), R, l)
  else if (R.rsplice l (R.slotAt (R.slotAt l).next).kids).1.2.1 ≠ 0 then ((0, false), (R.rsplice l (R.slotAt (R.slotAt l).next).kids).2, l)
  else if ((R.rsplice l (R.slotAt (R.slotAt l).next).kids).2.rdrop (R.rsplice l (R.slotAt (R.slotAt l).next).kids).1.1 (R.slotAt l).next).1.2.1 ≠ 0 then
    ((0, false), ((R.rsplice l (R.slotAt (R.slotAt l).next).kids).2.rdrop (R.rsplice l (R.slotAt (R.slotAt l).next).kids).1.1 (R.slotAt l).next).2, (R.rsplice l (R.slotAt (R.slotAt l).next).kids).1.1)
  else if giveNo ((R.rsplice l (R.slotAt (R.slotAt l).next).kids).2.rdrop (R.rsplice l (R.slotAt (R.slotAt l).next).kids).1.1 (R.slotAt l).next).2 (R.slotAt l).next = 0 then
    (((R.slotAt l).next, true), ((R.rsplice l (R.slotAt (R.slotAt l).next).kids).2.rdrop (R.rsplice l (R.slotAt (R.slotAt l).next).kids).1.1 (R.slotAt l).next).2.giveZ (R.slotAt l).next, ((R.rsplice l (R.slotAt (R.slotAt l).next).kids).2.rdrop (R.rsplice l (R.slotAt (R.slotAt l).next).kids).1.1 (R.slotAt l).next).1.1)
  else ((0, false), ((R.rsplice l (R.slotAt (R.slotAt l).next).kids).2.rdrop (R.rsplice l (R.slotAt (R.slotAt l).next).kids).1.1 (R.slotAt l).next).2.giveZ (R.slotAt l).next, ((R.rsplice l (R.slotAt (R.slotAt l).next).kids).2.rdrop (R.rsplice l (R.slotAt (R.slotAt l).next).kids).1.1 (R.slotAt l).next).1.1)
/-- A last one: none, or a slot. -/
def lastOk (l : Int) : Prop := l = -1 ∨ inR l = true
theorem rpush_last {R : St} {l i : Int} (h : (R.rpush l i).1.2.1 = 0) : lastOk (R.rpush l i).1.1 := by
  unfold St.rpush at h ⊢
  split at h
  · exact absurd h (by dsimp only; omega)
  · rename_i h0
    have hi : inR i = true := by simpa using fun e => h0 (.inl e)
    rw [if_neg h0]
    split at h
    · rename_i h1; rw [if_pos h1]; exact .inr hi
    · rename_i h1; rw [if_neg h1]
      split at h
      · exact absurd h (by dsimp only; omega)
      · rename_i h2; rw [if_neg h2]
        split at h
        · exact absurd h (by dsimp only; omega)
        · rename_i h3; rw [if_neg h3]; exact .inr hi
theorem rsplice_last {R : St} {a b : Int} (ha : lastOk a) (h : (R.rsplice a b).1.2.1 = 0) : lastOk (R.rsplice a b).1.1 := by
  unfold St.rsplice at h ⊢
  split at h
  · exact absurd h (by dsimp only; omega)
  · rename_i h0
    have hb : lastOk b := by
      rcases Classical.em (b = -1) with e | e
      · exact .inl e
      · rcases inR_cases b with e2 | e2
        · exact .inr e2
        · exact absurd (.inr ⟨e, e2⟩) h0
    rw [if_neg h0]
    split
    · exact hb
    · split
      · exact ha
      · split
        · rename_i h1 h2 h3; rw [if_neg h1, if_neg h2, if_pos h3] at h; exact absurd h (by dsimp only; omega)
        · split
          · rename_i h1 h2 h3 h4; rw [if_neg h1, if_neg h2, if_neg h3, if_pos h4] at h; exact absurd h (by dsimp only; omega)
          · split
            · rename_i h1 h2 h3 h4 h5; rw [if_neg h1, if_neg h2, if_neg h3, if_neg h4, if_pos h5] at h; exact absurd h (by dsimp only; omega)
            · exact hb
theorem rdrop_last {R : St} {a i : Int} (h : (R.rdrop a i).1.2.1 = 0) : lastOk (R.rdrop a i).1.1 := by
  unfold St.rdrop at h ⊢
  split at h
  · exact absurd h (by dsimp only; omega)
  · rename_i h0
    have ha : inR a = true := by simpa using fun e => h0 (.inr e)
    rw [if_neg h0]
    split at h
    · exact absurd h (by dsimp only; omega)
    · rename_i hw
      rw [if_neg hw]
      dsimp only
      obtain ⟨hp, _, _, _⟩ := (well_iff R i).1 (by simpa using hw)
      split
      · exact .inr ha
      · split
        · exact .inl rfl
        · exact .inr hp
theorem gadd_last {R : St} {l i : Int} (hl : lastOk l) : lastOk (R.gadd l i).2.2 := by
  unfold St.gadd
  split
  · exact hl
  · split
    · exact hl
    · split
      · rename_i h; exact rpush_last h
      · exact hl
theorem gunit_last {R : St} {l : Int} (hl : lastOk l) : lastOk (R.gunit l).2.2 := by
  unfold St.gunit
  split
  · exact hl
  · split
    · exact hl
    · split
      · exact hl
      · rename_i h1
        have h1' := Classical.not_not.1 h1
        split
        · exact rsplice_last hl h1'
        · rename_i h2
          have h2' := Classical.not_not.1 h2
          split
          · exact rdrop_last h2'
          · exact rdrop_last h2'
theorem slotAt_congr {S R : St} (h : S.slots = R.slots) (j : Int) : S.slotAt j = R.slotAt j := by unfold St.slotAt; rw [h]
theorem Agree.giveZ {S R : St} (h : Agree S R) (f : Int) : Agree (S.giveZ f) (R.giveZ f) := by
  unfold St.giveZ
  rw [h.free]
  split
  · exact ⟨by simp [St.give, h.slots], by simp [St.give, h.free], by simp [St.give, h.len]⟩
  · exact h
theorem giveNo_congr {S R : St} (h : Agree S R) (f : Int) : giveNo S f = giveNo R f := by unfold giveNo; rw [h.free]
end Go.Proofs.YtbidgpeeogoglaaDoor
/-
  An arena with what lies over it (a block of an arena and a number), and the document's, beside one another.
-/
namespace Go.Proofs.YtbidgpeeogoglaaDoor
set_option maxRecDepth 100000
open Go.RowKit Go.Sort

/-- The blocks lie apart. -/
structure Apart5 (q g q2 lo h b : Nat) : Prop where
  gl : g < lo
  loh : lo ≤ h ∧ lo ≤ b
  qs : q ≠ g ∧ q ≠ q2 ∧ q ≠ h ∧ q ≠ b
  q2s : q2 ≠ g ∧ q2 ≠ h ∧ q2 ≠ b
/-- At g the arena S, at q what lies over it (l: its number); at h and b the document's arena R, at q2 what lies over it (l2). Since w nothing else has turned. -/
structure Both (tq tr : TypeId) (w : World) (q g q2 lo h b : Nat) (S R : St) (l l2 : Int) (W : World) : Prop where
  cb : Blk W q tq #[.pointer (some ⟨g, 0, none⟩), .int .i64 l]
  ar : IsAr W g S
  rb : Blk W q2 tr #[.pointer (some ⟨h, 0, none⟩), .int .i64 l2]
  rf : IsRB lo h b R W
  ap : Apart5 q g q2 lo h b
  tn : Tn (fun k => k = q ∨ k = g ∨ k = q2 ∨ k = h ∨ k = b) w W
section
variable {tq tr : TypeId} {w W W' : World} {q g q2 lo h b : Nat} {S R S' R' : St} {l l2 l' : Int}
/-- The document's arena stays where blocks turn that are none of its own. -/
theorem IsRB.tnq {x : Nat → Prop} (r : IsRB lo h b R W) (hT : Tn x W W') (hh : ¬ x h) (hb : ¬ x b) (hx : ∀ k, x k → lo ≤ k → ∃ t cs, Blk W k t cs ∧ t ≠ 3) : IsRB lo h b R W' := by
  obtain ⟨cap, junk, vF, r⟩ := r
  refine ⟨cap, junk, vF, ⟨(hT.block h r.head.lt hh).trans r.head.eq⟩, ⟨(hT.block b r.slots.lt hb).trans r.slots.eq⟩, ⟨r.free.1, ?_⟩, r.len, r.loh, r.lob, r.cap⟩
  rcases r.free.2 with e | ⟨g, c, cur, e, e1, hg, e2⟩
  · exact .inl e
  · refine .inr ⟨g, c, cur, e, e1, (hT.block g (Array.getElem?_eq_some_iff.1 hg).1 fun hxg => ?_).trans hg, e2⟩
    obtain ⟨t, cs, hB, ht⟩ := hx g hxg e1
    have h1 := hB.eq
    rw [hg] at h1
    injection h1 with h1
    injection h1 with _ h1
    exact ht h1.symm
theorem Both.call (t : Both tq tr w q g q2 lo h b S R l l2 W) (hb : Below W.heap.size W W') : Both tq tr w q g q2 lo h b S R l l2 W' :=
  ⟨t.cb.below hb t.cb.lt, t.ar.below hb t.ar.lt, t.rb.below hb t.rb.lt, t.rf.call hb, t.ap, t.tn.call hb⟩
/-- The code has turned its own. -/
theorem Both.code (t : Both tq tr w q g q2 lo h b S R l l2 W) (hq : tq ≠ 3) (hT : Tn (fun k => k = q ∨ k = g) W W') (hB : Blk W' q tq #[.pointer (some ⟨g, 0, none⟩), .int .i64 l']) (hA : IsAr W' g S') : Both tq tr w q g q2 lo h b S' R l' l2 W' := by
  have ap := t.ap
  obtain ⟨a1, a2, a3, a4⟩ := ap
  refine ⟨hB, hA, ⟨(hT.block q2 t.rb.lt (by omega)).trans t.rb.eq⟩, t.rf.tnq hT (by omega) (by omega) (fun k hk hlo => ?_), t.ap, t.tn.trans (hT.mono fun k hk => by omega)⟩
  rcases hk with rfl | rfl
  · exact ⟨_, _, t.cb, hq⟩
  · omega
/-- The document has turned its own. -/
theorem Both.doc (t : Both tq tr w q g q2 lo h b S R l l2 W) (hT : Tn (fun k => k = q2 ∨ k = h ∨ k = b) W W') (hB : Blk W' q2 tr #[.pointer (some ⟨h, 0, none⟩), .int .i64 l']) (hR : IsRB lo h b R' W') : Both tq tr w q g q2 lo h b S R' l l' W' := by
  have ap := t.ap
  obtain ⟨a1, a2, a3, a4⟩ := ap
  refine ⟨⟨(hT.block q t.cb.lt (by omega)).trans t.cb.eq⟩, t.ar.block (hT.block g t.ar.lt (by omega)), hB, hR, t.ap, t.tn.trans (hT.mono fun k hk => by omega)⟩
theorem Both.trans {W2 : World} (t : Both tq tr w q g q2 lo h b S R l l2 W) {l3 l4 : Int} (u : Both tq tr W q g q2 lo h b S' R' l3 l4 W2) : Both tq tr w q g q2 lo h b S' R' l3 l4 W2 := ⟨u.cb, u.ar, u.rb, u.rf, u.ap, t.tn.trans u.tn⟩
/-- Seen from here on. -/
theorem Both.here (t : Both tq tr w q g q2 lo h b S R l l2 W) : Both tq tr W q g q2 lo h b S R l l2 W := ⟨t.cb, t.ar, t.rb, t.rf, t.ap, Tn.refl _ _⟩
theorem Both.from {w0 : World} (t : Both tq tr w q g q2 lo h b S R l l2 W) (hb : Below w0.heap.size w0 w) : Both tq tr w0 q g q2 lo h b S R l l2 W := ⟨t.cb, t.ar, t.rb, t.rf, t.ap, (Tn.ofBelow _ hb).trans t.tn⟩
theorem Both.below {n : Nat} (t : Both tq tr w q g q2 lo h b S R l l2 W) (hg : n ≤ g) (hq : n ≤ q) (hq2 : n ≤ q2) (hlo : n ≤ lo) (hn : n ≤ w.heap.size) : Below n w W :=
  t.tn.below (fun k hk => by obtain ⟨a1, a2, a3, a4⟩ := t.ap; omega) hn
theorem Both.cell (t : Both tq tr w q g q2 lo h b S R l l2 W) {k o : Nat} {v : Value} (hk : k < w.heap.size) (h1 : k ≠ q ∧ k ≠ g ∧ k ≠ q2 ∧ k ≠ h ∧ k ≠ b) (hr : w.cell? ⟨k, o, none⟩ = some v) : W.cell? ⟨k, o, none⟩ = some v :=
  (World.cell?_of_block (a := ⟨k, o, none⟩) (t.tn.block k hk (by omega))).trans hr
theorem Both.row (t : Both tq tr w q g q2 lo h b S R l l2 W) {k o : Nat} {cs : Array Value} (hk : k < w.heap.size) (h1 : k ≠ q ∧ k ≠ g ∧ k ≠ q2 ∧ k ≠ h ∧ k ≠ b) (hr : RowAt w k o cs) : RowAt W k o cs :=
  ⟨fun i v hi => t.cell hk h1 (hr.at_ i v hi)⟩
theorem Both.laid (t : Both tq tr w q g q2 lo h b S R l l2 W) (hl : Laid w) (h1 : 0 ≠ q ∧ 0 ≠ g ∧ 0 ≠ q2 ∧ 0 ≠ h ∧ 0 ≠ b) : Laid W := t.cell hl.pos h1 hl
theorem Both.lts (t : Both tq tr w q g q2 lo h b S R l l2 W) : q < W.heap.size ∧ g < W.heap.size ∧ q2 < W.heap.size ∧ h < W.heap.size ∧ b < W.heap.size := by
  have h1 := t.rf.los
  exact ⟨t.cb.lt, t.ar.lt, t.rb.lt, h1.2.2⟩
theorem Both.free_len (t : Both tq tr w q g q2 lo h b S R l l2 W) (hag : Agree S R) : R.free.length ≤ 32 := by
  rw [← hag.free]
  exact nodup_len 32 _ t.ar.nodup t.ar.free_lt
theorem Both.lo_le (t : Both tq tr w q g q2 lo h b S R l l2 W) : lo ≤ W.heap.size := by
  have h1 := t.rf.los
  omega
end
/-- What is written: nothing where a link is set. -/
theorem rpush_writes (R : St) (a i : Int) : (R.rpush a i).2.writes = R.writes := by
  unfold St.rpush
  repeat' split
  all_goals first
    | rfl
    | exact rlink_writes _ _ _
    | exact (rlink_writes _ _ _).trans (rlink_writes _ _ _)
theorem Agree.putZ {S R : St} (h : Agree S R) (n : Int) (s : SlotV) : Agree (S.putZ n s) (R.putZ n s) := by
  unfold St.putZ
  split
  · exact ⟨by show S.slots.set _ _ = R.slots.set _ _; rw [h.slots], h.free, by show (S.slots.set _ _).length = 32; rw [List.length_set]; exact h.len⟩
  · exact h
theorem putZ_writes (S : St) (n : Int) (s : SlotV) : S.writes ≤ (S.putZ n s).writes ∧ (S.putZ n s).writes ≤ S.writes + 1 := by
  unfold St.putZ
  split
  · exact ⟨by show S.writes ≤ S.writes + 1; omega, by show S.writes + 1 ≤ S.writes + 1; omega⟩
  · exact ⟨Int.le_refl _, by omega⟩
end Go.Proofs.YtbidgpeeogoglaaDoor
