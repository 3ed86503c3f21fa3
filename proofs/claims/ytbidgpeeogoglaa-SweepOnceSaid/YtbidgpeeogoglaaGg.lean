/-
  Merged texts: RefAr, RefArG, RefAr2, RefAr3, RefAr4, RefAr5.
-/
import Derived.Test.YtbidgpeeogoglaaGd
import Derived.Test.YtbidgpeeogoglaaGa
import Derived.Deep.RegionHeld3
import Derived.Deep.RegionLaw
import Derived.Deep.AppendLies
/-
  The document's arena (lineageref15): what it is; There, Bare, Get.
-/
namespace Go.Proofs.Ytbidgpeeogoglaa
set_option maxRecDepth 100000
open Go.RowKit

def flatS (l : List SlotV) : List Value := l.flatMap fun (s : SlotV) => (SlotV.cells s).toList
section
variable {lo h b cap i : Nat} {S : St} {junk : List Value} {vF : Value} {W W' : World}
theorem flatS_len (l : List SlotV) : (flatS l).length = 17 * l.length := flat_len17 l
end

/-- Nothing is turned but the blocks x. -/
structure Tn (x : Nat → Prop) (w w' : World) : Prop where
  os : w'.os = w.os
  tape : w'.tape = w.tape
  output : w'.output = w.output
  size : w.heap.size ≤ w'.heap.size
  block : ∀ k, k < w.heap.size → ¬ x k → w'.heap[k]? = w.heap[k]?
section
variable {x y : Nat → Prop} {w w1 w2 : World}
theorem Tn.refl (x : Nat → Prop) (w : World) : Tn x w w := ⟨rfl, rfl, rfl, Nat.le_refl _, fun _ _ _ => rfl⟩
theorem Tn.trans (h1 : Tn x w w1) (h2 : Tn x w1 w2) : Tn x w w2 :=
  ⟨h2.os.trans h1.os, h2.tape.trans h1.tape, h2.output.trans h1.output, Nat.le_trans h1.size h2.size, fun k hk e => (h2.block k (Nat.lt_of_lt_of_le hk h1.size) e).trans (h1.block k hk e)⟩
theorem Tn.ofBelow (x : Nat → Prop) (hb : Below w.heap.size w w1) : Tn x w w1 := ⟨hb.os, hb.tape, hb.output, hb.size, fun k hk _ => hb.block k hk⟩
theorem Tn.call (h1 : Tn x w w1) (hb : Below w1.heap.size w1 w2) : Tn x w w2 := h1.trans (Tn.ofBelow x hb)
theorem Tn.ofGrown {g : Nat} (hg : w.grownBy w1 (some g)) (hx : x g) : Tn x w w1 := ⟨hg.os, hg.tape, hg.output, hg.size, fun k hk e => hg.block k hk (fun e2 => by cases e2; exact e hx)⟩
theorem Tn.grown {g : Nat} (h1 : Tn x w w1) (hg : w1.grownBy w2 (some g)) (hx : x g) : Tn x w w2 := h1.trans (Tn.ofGrown hg hx)
theorem Tn.mono (h : Tn x w w1) (hxy : ∀ k, x k → y k) : Tn y w w1 := ⟨h.os, h.tape, h.output, h.size, fun k hk e => h.block k hk fun hx => e (hxy k hx)⟩
theorem Tn.below {n : Nat} (h : Tn x w w1) (hx : ∀ k, x k → n ≤ k) (hn : n ≤ w.heap.size) : Below n w w1 :=
  ⟨h.os, h.tape, h.output, h.size, fun k hk => h.block k (Nat.lt_of_lt_of_le hk hn) fun e => by have := hx k e; omega⟩
end
section
variable {lo h b cap i : Nat} {S : St} {junk : List Value} {vF : Value} {W W' : World}
theorem fkept {k : Nat} (hk : W.grownBy W' (some k)) {n : Nat} {xs : List Value} (hf : W.ownsRow lo 3 1 vF n xs) (hne : ∀ j, vF.ownBlock = some j → j ≠ k) : W'.ownsRow lo 3 1 vF n xs := hf.kept hk (by
  rcases Classical.em (vF.ownBlock = none) with e | e
  · exact .inl e
  · exact .inr fun e2 => hne k e2 rfl)
end
end Go.Proofs.Ytbidgpeeogoglaa
/-
  The document's arena: There, Bare, Get.
-/
namespace Go.Proofs.Ytbidgpeeogoglaa
set_option maxRecDepth 100000
open Go.RowKit

/-- A slot's zero cells, written out. -/
@[reducible] def zeroL : Array Value := #[.bool false, .bool false, .int .i64 0, .int .i64 0, .int .i64 0, .int .i64 0, .int .i64 0, .int .i64 0, .int .i64 0, .int .i64 0, .string ⟨#[]⟩, .string ⟨#[]⟩, .int .u64 0, .int .i64 0, .int .i64 0, .int .i64 0, .int .i64 0]
/-- The error's number of a place. -/
def noAt (j : Int) : Value := .int .i64 (if inR j = true then 0 else 1)
end Go.Proofs.Ytbidgpeeogoglaa
/-
  The document's arena: At, without, Take, Place. 
-/
namespace Go.Proofs.Ytbidgpeeogoglaa
set_option maxRecDepth 100000
open Go.RowKit
/-- Where a slot stands among the free ones. -/
def posIn (l : List Nat) (i : Nat) : Int := if i ∈ l then (l.idxOf i : Int) else -1
theorem idx_min : ∀ (l : List Nat) (i k : Nat), l[k]? = some i → l.idxOf i ≤ k
  | [], i, k, h => by simp at h
  | a :: r, i, 0, h => by
    simp at h; subst h; simp
  | a :: r, i, k + 1, h => by
    have := idx_min r i k (by simpa using h)
    rw [List.idxOf_cons]
    cases a == i <;> simp <;> omega
theorem posIn_at {l : List Nat} {i k : Nat} (h : l[k]? = some i) (hn : ∀ j, j < k → l[j]? ≠ some i) : posIn l i = (k : Int) := by
  unfold posIn
  rw [if_pos (List.mem_of_getElem? h)]
  have h1 : l.idxOf i < l.length := List.idxOf_lt_length_of_mem (List.mem_of_getElem? h)
  have h2 : l[l.idxOf i]? = some i := by rw [List.getElem?_eq_getElem h1]; simp
  have h4 := idx_min l i k h
  rcases Nat.lt_or_ge (l.idxOf i) k with h3 | h3
  · exact absurd h2 (hn _ h3)
  · have : l.idxOf i = k := by omega
    rw [this]
theorem posIn_no {l : List Nat} {i : Nat} (h : i ∉ l) : posIn l i = -1 := if_neg h
theorem erase_idx {l : List Nat} {i : Nat} : l.eraseIdx (l.idxOf i) = l.erase i := by
  rw [List.erase_eq_eraseIdx_of_idxOf (by rfl)]

theorem erase_take {l : List Nat} {i k x : Nat} (hx : l[i]? = some x) : (l.take (i + 1)).eraseIdx k = if i = k then (l.take i).eraseIdx k else (l.take i).eraseIdx k ++ [x] := by
  have hlt := (List.getElem?_eq_some_iff.1 hx).1
  have ht : l.take (i + 1) = l.take i ++ [x] := by rw [List.take_add_one, hx]; rfl
  have hli : (l.take i).length = i := by rw [List.length_take]; omega
  rw [ht]
  rcases Nat.lt_trichotomy i k with h | h | h
  · rw [if_neg (by omega), List.eraseIdx_of_length_le (by simp [hli]; omega), List.eraseIdx_of_length_le (by omega)]
  · subst h
    rw [if_pos rfl, List.eraseIdx_append_of_length_le (by omega), hli, Nat.sub_self, List.eraseIdx_of_length_le (l := l.take i) (by omega)]
    simp
  · rw [if_neg (by omega), List.eraseIdx_append_of_lt_length (by omega)]
section
variable {lo h b cap : Nat} {S : St} {junk : List Value} {vF : Value} {W : World}
end
end Go.Proofs.Ytbidgpeeogoglaa
/-
  The document's arena: without, Take, Place.
-/
namespace Go.Proofs.Ytbidgpeeogoglaa
set_option maxRecDepth 100000
open Go.RowKit

theorem drop_idx {S : St} (i : Nat) : ({ S with free := S.free.eraseIdx (S.free.idxOf i) } : St) = S.drop i := by unfold St.drop; rw [erase_idx]
end Go.Proofs.Ytbidgpeeogoglaa
/-
  The document's arena: Put, Give.
-/
namespace Go.Proofs.Ytbidgpeeogoglaa
set_option maxRecDepth 100000
open Go.RowKit Go.Sort

/-! ### Give -/
theorem run_append_empty {P : Program} (w : World) (t ty e : TypeId) (i : TypeInfo) (ht : P.underlying t = some (.slice e)) (hi : P.info? e = some i) (A : Option Addr) (n cap c : Nat) (h : n ≤ cap) :
    (Builtin.append_ #[t, t] ty #[.slice A n cap, .slice none 0 c]).run P w = .ok (.slice A n cap) w := by
  cases A <;> simp [Builtin.append_, run_underlying ht, sizeOf, typeInfo, hi, Builtin.lenOf, h, run_firstCells_none, storeCells]
/-- 'append(l, x...)' of two lists of ints, the first one's own. -/
theorem run_append_intsAt (ty : TypeId) (w : World) {base n1 : Nat} {v : Value} {L1 : List Int} (hown : w.ownsRow base 3 1 v n1 (intVs L1)) (A : Option Addr) (c : Nat) (L2 : List Int) (hin : IntsAt w A L2) (hsum : n1 + L2.length ≤ 1000000) (hbase : base ≤ w.heap.size) :
    ∃ v' w', (Builtin.append_ #[22, 22] ty #[v, .slice A L2.length c]).run Try.prog w = .ok v' w' ∧ w'.ownsRow base 3 1 v' (n1 + L2.length) (intVs (L1 ++ L2)) ∧ w.grownBy w' v.ownBlock := by
  obtain ⟨ii, iz, hi, hz0, hz1, hz2, hz3⟩ := intInfo
  have main : ∀ a : Addr, (∀ j u, (intVs L2)[j]? = some u → w.cell? (a.add j) = some u) → ∃ v' w', (Builtin.append_ #[22, 22] ty #[v, .slice (some a) L2.length c]).run Try.prog w = .ok v' w' ∧ w'.ownsRow base 3 1 v' (n1 + L2.length) (intVs (L1 ++ L2)) ∧ w.grownBy w' v.ownBlock := fun a ha => by
    obtain ⟨v', w', h1, h2, h3, _⟩ := run_append_own (P := Try.prog) w base 22 ty 3 ii iz 1 8 Try.underlying22 hi hz0 hz1 hz2 hz3 (by decide) v n1 (intVs L1) hown a L2.length c (intVs L2) (by simp [intVs]) ha
      (fun u hu => by simp only [intVs, List.mem_map] at hu; obtain ⟨x, _, rfl⟩ := hu; rfl) (by unfold maxLen; omega) (by omega) hbase
    exact ⟨v', w', h1, by rw [intVs_app]; exact h2, h3⟩
  rcases L2 with _ | ⟨x, L2⟩
  · cases A with
    | none =>
      obtain ⟨p, cap, rfl⟩ := owns_slice hown
      have hc : n1 ≤ cap := by
        rcases hown.2 with ⟨e, e2⟩ | ⟨g, cap', cur, e, _, _, h, _⟩
        · injection e with _ e3 e4; omega
        · injection e with _ _ e4; omega
      exact ⟨_, w, run_append_empty w 22 ty 3 ii Try.underlying22 hi p n1 cap c hc, by simpa using hown, ⟨rfl, rfl, rfl, Nat.le_refl _, fun _ _ _ => rfl⟩⟩
    | some a => exact main a (fun j u hu => by simp [intVs] at hu)
  · obtain ⟨b, off, rfl, hb, hc⟩ := hin (by simp)
    refine main ⟨b, off, none⟩ fun j u hu => ?_
    rw [Addr.add_lit]
    simp only [intVs, List.getElem?_map, Option.map_eq_some_iff] at hu
    obtain ⟨y, hy, rfl⟩ := hu
    exact hc j y hy
section
variable {P : Program} {ops : Array Oper} {rest : List Oper} {o : Oper} {a : Act} {w : World} {Q : Exit → Act → World → Prop}
/-- 'append', by a run that is known. -/
theorem wpList_append_run (hgd : o.guard = none) {sl x : Operand} {t u : TypeId} (ho : o.op = .call { callee := .builtin .append, args := #[sl, x], argTypes := #[t, u] }) {v y v' : Value} {w' : World} (hs : a.eval sl = v) (hx : a.eval x = y)
    (hr : (Builtin.append_ #[t, u] o.type #[v, y]).run P w = .ok v' w') (h : wpList P ops Q rest (a.put o.dst v') w') : wpList P ops Q (o :: rest) a w := by
  refine wpList_plain hgd fun K hK => ?_
  unfold Oper.wp execOp
  simp only [ho, resolve, invoke, builtin, Sem.run_bind, Sem.run_pure, Result.andThen_ok, List.map_toArray, List.map_cons, List.map_nil, hs, hx, hr]
  exact hK _ _ h
end
theorem ownsOne (w : World) (i : Int) : (w.alloc (.cells #[.int .i64 i] 3)).ownsRow w.heap.size 3 1 (.slice (some ⟨w.heap.size, 0, none⟩) 1 1) 1 (intVs [i]) :=
  ⟨rfl, .inr ⟨w.heap.size, 1, #[.int .i64 i], rfl, Nat.le_refl _, heap_alloc_new w _, Nat.le_refl _, by unfold maxLen; omega, rfl, rfl⟩⟩
end Go.Proofs.Ytbidgpeeogoglaa
/-
  The document's arena: New.
-/
namespace Go.Proofs.Ytbidgpeeogoglaa
set_option maxRecDepth 100000
open Go.RowKit Go.Sort

/-- An append at a step of a region that draws its order, under a guard. -/
theorem step_append_wanted {P : Program} {w : World} {ops : Array Oper} {o : Oper} {a : Act} {K : Act → World → Prop} {Q : Exit → Act → World → Prop} {E : Prop} (hw : Region.wanted o (yielded ops a.tmps) = true) (s x : Operand) (t : TypeId)
    (ho : o.op = .call { callee := .builtin .append, args := #[s, x], argTypes := #[t, t] })
    (base : Nat) (e : TypeId) (i : TypeInfo) (z : Value) (size bytes : Nat) (ht : P.underlying t = some (.slice e)) (hi : P.info? e = some i) (hz : i.zero = some z)
    (hsize : i.size = size) (hby : i.bytes = bytes) (hzs : z.cells.size = size) (hsz : 0 < size)
    (v : Value) (n : Nat) (xs : List Value) (hs : a.eval s = v) (hown : w.ownsRow base e size v n xs)
    (ad : Addr) (m c : Nat) (news : List Value) (hx : a.eval x = .slice (some ad) m c) (hl : news.length = m * size) (hnews : ∀ j u, news[j]? = some u → w.cell? (ad.add j) = some u) (h1 : ∀ u ∈ news, u.oneCell' = true)
    (hm : 0 < m) (h63 : n + m ≤ maxLen) (hbytes : (n + m) * bytes ≤ 140737488355328) (hbase : base ≤ w.heap.size)
    (h : ∀ g cap w', w'.ownsRow base e size (.slice (some ⟨g, 0, none⟩) (n + m) cap) (n + m) (xs ++ news) → w.grownBy w' v.ownBlock → K (a.put o.dst (.slice (some ⟨g, 0, none⟩) (n + m) cap)) w') :
    if Region.wanted o (yielded ops a.tmps) = true then Oper.wp P o a w K Q else E := by
  rw [if_pos hw]
  exact wp_append_lies w s x t ho base e i z size bytes ht hi hz hsize hby hzs hsz v n xs hs hown ad m c news hx hl hnews h1 hm h63 hbytes hbase _ rfl (fun g cap w' h2 h3 _ _ => h g cap w' h2 h3)
theorem own_types {W : World} {b1 b2 n1 n2 z1 z2 : Nat} {e1 e2 : TypeId} {v1 v2 : Value} {x1 x2 : List Value} (h1 : W.ownsRow b1 e1 z1 v1 n1 x1) (h2 : W.ownsRow b2 e2 z2 v2 n2 x2) (hne : e1 ≠ e2) : v2.ownBlock = none ∨ v2.ownBlock ≠ v1.ownBlock := by
  rcases h2.2 with ⟨e, _⟩ | ⟨g, c, cur, e, _, hg, _⟩
  · exact .inl (by rw [e]; rfl)
  · refine .inr fun ee => ?_
    rcases h1.2 with ⟨f, _⟩ | ⟨g', c', cur', f, _, hg', _⟩
    · rw [e, f] at ee; cases ee
    · rw [e, f] at ee
      obtain rfl : g = g' := by simpa [Value.ownBlock] using ee
      rw [hg] at hg'
      injection hg' with hg'
      injection hg' with _ hh
      exact hne hh.symm
theorem bare_snoc (k : Nat) : flatS (List.replicate (k + 1) SlotV.bare) = flatS (List.replicate k SlotV.bare) ++ SlotV.bare.cells.toList := by
  rw [List.replicate_succ']; simp [flatS]
section
variable {w W w' ww : World} {vS vF v2 : Value} {k gg cap : Nat}
theorem own_setHead {W : World} {base b0 : Nat} {e : TypeId} {z n : Nat} {v : Value} {xs : List Value} (h : W.ownsRow base e z v n xs) (hb : b0 < base) (o : Nat) (u : Value) : (W.setCell ⟨b0, o, none⟩ u).ownsRow base e z v n xs :=
  h.kept (grownBy_set W b0 o u) (by
    rcases Classical.em (v.ownBlock = none) with e | e
    · exact .inl e
    · refine .inr fun e2 => ?_
      have := (h.lt b0 e2).1
      omega)
end
theorem slotRow : ∃ i z, Try.prog.info? 57 = some i ∧ i.zero = some z ∧ i.size = 17 ∧ i.bytes = 144 ∧ z.cells.size = 17 := by
  have h : (match Try.prog.info? 57 with | some i => (match i.zero with | some z => i.size == 17 && i.bytes == 144 && z.cells.size == 17 | none => false) | none => false) = true := by decide +kernel
  cases hi : Try.prog.info? 57 with
  | none => rw [hi] at h; cases h
  | some i =>
    rw [hi] at h
    cases hz : i.zero with
    | none => simp only [hz] at h; cases h
    | some z =>
      simp only [hz, Bool.and_eq_true, beq_iff_eq] at h
      exact ⟨i, z, rfl, hz, h.1.1, h.1.2, h.2⟩
end Go.Proofs.Ytbidgpeeogoglaa
