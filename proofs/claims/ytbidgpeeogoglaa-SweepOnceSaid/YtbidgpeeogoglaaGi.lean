/-
  Merged texts: Two15, SwLaw, Both.
-/
import Derived.Test.YtbidgpeeogoglaaGg
import Derived.Test.YtbidgpeeogoglaaGb
import Derived.Test.YtbidgpeeogoglaaGh
/-
  An arena and the document's, side by side: what a call of either turns; lineagelaw15.does needs each call's two answers.
-/
namespace Go.Proofs.Ytbidgpeeogoglaa
set_option maxRecDepth 100000
open Go.RowKit Go.Sort

/-- A struct's load at a step of a region that draws its order. -/
theorem step_load_at {P : Program} {w : World} {ops : Array Oper} {o' : Oper} {a : Act} {K : Act → World → Prop} {Q : Exit → Act → World → Prop} {E : Prop} {ty : TypeId} {x : Operand} (hw : Region.wanted o' (yielded ops a.tmps) = true) (ho : o'.op = .load ty x)
    {g o : Nat} {cs : Array Value} {d : TypeDesc} (hx : a.eval x = .pointer (some ⟨g, o, none⟩)) (h : RowAt w g o cs) (hu : P.underlying ty = some d) (hd : isAggD d = true) (hi : (P.info? ty).map (·.size) = some cs.size)
    (hK : K (a.put o'.dst (.agg cs)) w) : if Region.wanted o' (yielded ops a.tmps) = true then Oper.wp P o' a w K Q else E := by
  rw [if_pos hw]
  unfold Oper.wp execOp
  simp only [ho, hx, Sem.run_bind, run_loadAt_at w hu hd hi h, Result.andThen_ok, Sem.run_pure]
  exact hK
section
variable {w W W' : World} {g lo h b : Nat} {SA SR S' : St}
end
/-- What a call of the arena answers: the error k, and what the arena is then. -/
def AnsA (g : Nat) (k : Int) (S' : St) (W : World) (e : Ending) (W' : World) : Prop := e = .returned (errOf k) ∧ IsAr W' g S' ∧ W.grownBy W' (some g)
theorem turned_self (w : World) (g : Option Nat) : w.grownBy w g := ⟨rfl, rfl, rfl, Nat.le_refl _, fun _ _ _ => rfl⟩
section
variable {S : St} {g lo h b : Nat}
/-- Put, at any number. -/
def St.putZ (S : St) (n : Int) (s : SlotV) : St := if inR n = true then S.put n.toNat s else S
def St.dropZ (S : St) (n : Int) : St := if inR n = true ∧ n.toNat ∈ S.free then S.drop n.toNat else S
def St.giveZ (S : St) (n : Int) : St := if inR n = true ∧ n.toNat ∉ S.free then S.give n.toNat else S
def St.takeZ (S : St) : St := if S.free = [] then S else S.take
def putNo (n : Int) : Int := if inR n = true then 0 else 1
def dropNo (S : St) (n : Int) : Int := if inR n = true then (if n.toNat ∈ S.free then 0 else 10) else 1
def giveNo (S : St) (n : Int) : Int := if inR n = true then (if n.toNat ∈ S.free then 9 else 0) else 1
theorem no_ok (S : St) (n : Int) : (0 ≤ putNo n ∧ putNo n ≤ 24) ∧ (0 ≤ dropNo S n ∧ dropNo S n ≤ 24) ∧ (0 ≤ giveNo S n ∧ giveNo S n ≤ 24) := by
  unfold putNo dropNo giveNo
  repeat' constructor
  all_goals (repeat' split) <;> omega
theorem nat_of {n : Int} (hn : inR n = true) : ∃ k : Nat, n = (k : Int) ∧ k < 32 := by
  have := inR_iff.1 hn
  exact ⟨n.toNat, by omega, by omega⟩
theorem not_in {n : Int} (hn : inR n = false) : n < 0 ∨ 32 ≤ n := by
  have : ¬ (0 ≤ n ∧ n < 32) := fun hh => by rw [inR_iff.2 hh] at hn; cases hn
  omega
theorem putA (n : Int) (s : SlotV) (W : World) (hA : IsAr W g S) (hw0 : 0 ≤ S.writes) (hw1 : S.writes < 1000000000) :
    Calls Try.prog 26 #[.pointer (some ⟨g, 0, none⟩), .int .i64 n, .agg s.cells] W (AnsA g (putNo n) (S.putZ n s) W) := by
  unfold putNo St.putZ
  rcases hn : inR n with _ | _
  · exact (put_out (not_in hn) _ s W).mono fun e W' ⟨h1, h2⟩ => ⟨by rw [h1]; rfl, hA.below h2 hA.lt, grownBy_below h2 _⟩
  · obtain ⟨k, rfl, hk⟩ := nat_of hn
    exact (put_st hk s g W hA hw0 hw1).mono fun e W' ⟨h1, h2, h3⟩ => ⟨by rw [h1]; rfl, h2, h3⟩
theorem freeA (n : Int) (W : World) (hA : IsAr W g S) (hw0 : 0 ≤ S.writes) (hw1 : S.writes < 1000000000) :
    Calls Try.prog 55 #[.pointer (some ⟨g, 0, none⟩), .int .i64 n] W (AnsA g (giveNo S n) (S.giveZ n) W) := by
  unfold giveNo St.giveZ
  rcases hn : inR n with _ | _
  · exact (free_out (not_in hn) _ W).mono fun e W' ⟨h1, h2⟩ => by subst h2; exact ⟨by rw [h1]; rfl, by simpa using hA, turned_self _ _⟩
  · obtain ⟨k, rfl, hk⟩ := nat_of hn
    by_cases hm : k ∈ S.free
    · exact (free_no hm g W hA).mono fun e W' ⟨h1, h2⟩ => by subst h2; exact ⟨by rw [h1]; simp [hm, errOf], by simpa [hm] using hA, turned_self _ _⟩
    · exact (free_st hk hm g W hA hw0 hw1).mono fun e W' ⟨h1, h2, h3⟩ => ⟨by rw [h1]; simp [hm, errOf], by simpa [hm] using h2, h3⟩
/-- The number that Take answers; its error. -/
def St.takeI (S : St) : Int := match S.free with | [] => 0 | i :: _ => i
def takeNo (S : St) : Int := match S.free with | [] => 19 | _ :: _ => 0
theorem takeA (W : World) (hA : IsAr W g S) :
    Calls Try.prog 38 #[.pointer (some ⟨g, 0, none⟩)] W (fun e W' => e = .returned (.tuple #[.int .i64 S.takeI, errOf (takeNo S)]) ∧ IsAr W' g S.takeZ ∧ W.grownBy W' (some g)) := by
  unfold St.takeI takeNo St.takeZ
  rcases hf : S.free with _ | ⟨i, L⟩
  · exact (take_full hf g W hA).mono fun e W' ⟨h1, h2⟩ => by subst h2; exact ⟨by rw [h1]; rfl, by simpa using hA, turned_self _ _⟩
  · exact (take_st hf g W hA).mono fun e W' ⟨h1, h2, h3⟩ => ⟨by rw [h1]; rfl, by simpa using h2, h3⟩
end
end Go.Proofs.Ytbidgpeeogoglaa
/-
  Garbage, as the document has it (pure); the document's garbage in memory.
-/
namespace Go.Proofs.Ytbidgpeeogoglaa
set_option maxRecDepth 100000
open Go.RowKit Go.Sort

/-- Add: the error and where; the arena and the last one then. -/
def St.gadd (R : St) (l i : Int) : (Int × Int) × St × Int :=
  if inR i = false then ((1, -1), R, l)
  else if (R.slotAt i).used = false then ((10, -1), R, l)
  else if (R.rpush l i).1.2.1 = 0 then ((0, -1), (R.rpush l i).2, (R.rpush l i).1.1)
  else (((R.rpush l i).1.2.1, (R.rpush l i).1.2.2), (R.rpush l i).2, l)
/-- Unit: the slot, and whether; the arena and the last one then. -/
def St.gunit (R : St) (l : Int) : (Int × Bool) × St × Int :=
  if inR l = false then ((0, false), R, l)
  else if inR (R.slotAt l).next = false then ((0, false), R, l)
  else if (R.rsplice l (R.slotAt (R.slotAt l).next).kids).1.2.1 ≠ 0 then ((0, false), (R.rsplice l (R.slotAt (R.slotAt l).next).kids).2, l)
  else if ((R.rsplice l (R.slotAt (R.slotAt l).next).kids).2.rdrop (R.rsplice l (R.slotAt (R.slotAt l).next).kids).1.1 (R.slotAt l).next).1.2.1 ≠ 0 then
    ((0, false), ((R.rsplice l (R.slotAt (R.slotAt l).next).kids).2.rdrop (R.rsplice l (R.slotAt (R.slotAt l).next).kids).1.1 (R.slotAt l).next).2, (R.rsplice l (R.slotAt (R.slotAt l).next).kids).1.1)
  else if giveNo ((R.rsplice l (R.slotAt (R.slotAt l).next).kids).2.rdrop (R.rsplice l (R.slotAt (R.slotAt l).next).kids).1.1 (R.slotAt l).next).2 (R.slotAt l).next = 0 then
    (((R.slotAt l).next, true), ((R.rsplice l (R.slotAt (R.slotAt l).next).kids).2.rdrop (R.rsplice l (R.slotAt (R.slotAt l).next).kids).1.1 (R.slotAt l).next).2.giveZ (R.slotAt l).next, ((R.rsplice l (R.slotAt (R.slotAt l).next).kids).2.rdrop (R.rsplice l (R.slotAt (R.slotAt l).next).kids).1.1 (R.slotAt l).next).1.1)
  else ((0, false), ((R.rsplice l (R.slotAt (R.slotAt l).next).kids).2.rdrop (R.rsplice l (R.slotAt (R.slotAt l).next).kids).1.1 (R.slotAt l).next).2.giveZ (R.slotAt l).next, ((R.rsplice l (R.slotAt (R.slotAt l).next).kids).2.rdrop (R.rsplice l (R.slotAt (R.slotAt l).next).kids).1.1 (R.slotAt l).next).1.1)
/-- A last one: none, or a slot. -/
def lastOk (l : Int) : Prop := l = -1 ∨ inR l = true
theorem rpush_last {R : St} {l i : Int} (h : (R.rpush l i).1.2.1 = 0) : lastOk (R.rpush l i).1.1 := by
  unfold St.rpush at h ⊢
  split at h
  · exact absurd h (by dsimp only; omega)
  · rename_i h0
    have hi : inR i = true := by simpa using fun e => h0 (.inl e)
    rw [if_neg h0]
    split at h
    · rename_i h1; rw [if_pos h1]; exact .inr hi
    · rename_i h1; rw [if_neg h1]
      split at h
      · exact absurd h (by dsimp only; omega)
      · rename_i h2; rw [if_neg h2]
        split at h
        · exact absurd h (by dsimp only; omega)
        · rename_i h3; rw [if_neg h3]; exact .inr hi
theorem rsplice_last {R : St} {a b : Int} (ha : lastOk a) (h : (R.rsplice a b).1.2.1 = 0) : lastOk (R.rsplice a b).1.1 := by
  unfold St.rsplice at h ⊢
  split at h
  · exact absurd h (by dsimp only; omega)
  · rename_i h0
    have hb : lastOk b := by
      rcases Classical.em (b = -1) with e | e
      · exact .inl e
      · rcases inR_cases b with e2 | e2
        · exact .inr e2
        · exact absurd (.inr ⟨e, e2⟩) h0
    rw [if_neg h0]
    split
    · exact hb
    · split
      · exact ha
      · split
        · rename_i h1 h2 h3; rw [if_neg h1, if_neg h2, if_pos h3] at h; exact absurd h (by dsimp only; omega)
        · split
          · rename_i h1 h2 h3 h4; rw [if_neg h1, if_neg h2, if_neg h3, if_pos h4] at h; exact absurd h (by dsimp only; omega)
          · split
            · rename_i h1 h2 h3 h4 h5; rw [if_neg h1, if_neg h2, if_neg h3, if_neg h4, if_pos h5] at h; exact absurd h (by dsimp only; omega)
            · exact hb
theorem rdrop_last {R : St} {a i : Int} (h : (R.rdrop a i).1.2.1 = 0) : lastOk (R.rdrop a i).1.1 := by
  unfold St.rdrop at h ⊢
  split at h
  · exact absurd h (by dsimp only; omega)
  · rename_i h0
    have ha : inR a = true := by simpa using fun e => h0 (.inr e)
    rw [if_neg h0]
    split at h
    · exact absurd h (by dsimp only; omega)
    · rename_i hw
      rw [if_neg hw]
      dsimp only
      obtain ⟨hp, _, _, _⟩ := (well_iff R i).1 (by simpa using hw)
      split
      · exact .inr ha
      · split
        · exact .inl rfl
        · exact .inr hp
theorem gadd_last {R : St} {l i : Int} (hl : lastOk l) : lastOk (R.gadd l i).2.2 := by
  unfold St.gadd
  split
  · exact hl
  · split
    · exact hl
    · split
      · rename_i h; exact rpush_last h
      · exact hl
theorem gunit_last {R : St} {l : Int} (hl : lastOk l) : lastOk (R.gunit l).2.2 := by
  unfold St.gunit
  split
  · exact hl
  · split
    · exact hl
    · split
      · exact hl
      · rename_i h1
        have h1' := Classical.not_not.1 h1
        split
        · exact rsplice_last hl h1'
        · rename_i h2
          have h2' := Classical.not_not.1 h2
          split
          · exact rdrop_last h2'
          · exact rdrop_last h2'
theorem slotAt_congr {S R : St} (h : S.slots = R.slots) (j : Int) : S.slotAt j = R.slotAt j := by unfold St.slotAt; rw [h]
theorem Agree.giveZ {S R : St} (h : Agree S R) (f : Int) : Agree (S.giveZ f) (R.giveZ f) := by
  unfold St.giveZ
  rw [h.free]
  split
  · exact ⟨by simp [St.give, h.slots], by simp [St.give, h.free], by simp [St.give, h.len]⟩
  · exact h
theorem giveNo_congr {S R : St} (h : Agree S R) (f : Int) : giveNo S f = giveNo R f := by unfold giveNo; rw [h.free]
end Go.Proofs.Ytbidgpeeogoglaa
/-
  An arena with what lies over it (a block of an arena and a number), and the document's, beside one another.
-/
namespace Go.Proofs.Ytbidgpeeogoglaa
set_option maxRecDepth 100000
open Go.RowKit Go.Sort

/-- The blocks lie apart. -/
structure Apart5 (q g q2 lo h b : Nat) : Prop where
  gl : g < lo
  loh : lo ≤ h ∧ lo ≤ b
  qs : q ≠ g ∧ q ≠ q2 ∧ q ≠ h ∧ q ≠ b
  q2s : q2 ≠ g ∧ q2 ≠ h ∧ q2 ≠ b
section
variable {tq tr : TypeId} {w W W' : World} {q g q2 lo h b : Nat} {S R S' R' : St} {l l2 l' : Int}
end
/-- What is written: nothing where a link is set. -/
theorem rpush_writes (R : St) (a i : Int) : (R.rpush a i).2.writes = R.writes := by
  unfold St.rpush
  repeat' split
  all_goals first
    | rfl
    | exact rlink_writes _ _ _
    | exact (rlink_writes _ _ _).trans (rlink_writes _ _ _)
theorem Agree.putZ {S R : St} (h : Agree S R) (n : Int) (s : SlotV) : Agree (S.putZ n s) (R.putZ n s) := by
  unfold St.putZ
  split
  · exact ⟨by show S.slots.set _ _ = R.slots.set _ _; rw [h.slots], h.free, by show (S.slots.set _ _).length = 32; rw [List.length_set]; exact h.len⟩
  · exact h
theorem putZ_writes (S : St) (n : Int) (s : SlotV) : S.writes ≤ (S.putZ n s).writes ∧ (S.putZ n s).writes ≤ S.writes + 1 := by
  unfold St.putZ
  split
  · exact ⟨by show S.writes ≤ S.writes + 1; omega, by show S.writes + 1 ≤ S.writes + 1; omega⟩
  · exact ⟨Int.le_refl _, by omega⟩
end Go.Proofs.Ytbidgpeeogoglaa
