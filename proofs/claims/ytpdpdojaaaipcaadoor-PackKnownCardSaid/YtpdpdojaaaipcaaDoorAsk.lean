/-
  lineagelaw10.Ask: its cells; lists of items of one's own.
-/
import Derived.Test.YtpdpdojaaaipcaaDoorThere
import Derived.Test.YtpdpdojaaaipcaaDoorAskV
namespace Go.Proofs.YtpdpdojaaaipcaaDoor
set_option maxRecDepth 100000
open Go.RowKit
theorem itemInfo : ∃ i z, Tryd.prog.info? 57 = some i ∧ i.zero = some z ∧ i.size = 3 ∧ i.bytes = 32 ∧ z.cells.size = 3 := by
  have h : (match Tryd.prog.info? 57 with | some i => (match i.zero with | some z => i.size == 3 && i.bytes == 32 && z.cells.size == 3 | none => false) | none => false) = true := by decide +kernel
  cases hi : Tryd.prog.info? 57 with
  | none => rw [hi] at h; cases h
  | some i =>
    rw [hi] at h
    cases hz : i.zero with
    | none => simp only [hz] at h; cases h
    | some z =>
      simp only [hz, Bool.and_eq_true, beq_iff_eq] at h
      exact ⟨i, z, rfl, hz, h.1.1, h.1.2, h.2⟩
theorem ItemV.one (x : ItemV) : ∀ v ∈ (ItemV.cells x).toList, v.oneCell' = true := by
  intro v hv
  simp [ItemV.cells] at hv
  rcases hv with rfl | rfl | rfl <;> rfl
/-- A list of items of one's own may be read. -/
theorem own_items {w : World} {base : Nat} {v : Value} {xs : List ItemV} (h : w.ownsRow base 57 3 v xs.length (flat ItemV.cells xs)) : ∃ A cap, v = .slice A xs.length cap ∧ ItemsAt w A xs := by
  rcases h.2 with ⟨rfl, h2⟩ | ⟨g, cap, cur, rfl, h2⟩
  · obtain rfl := List.length_eq_zero_iff.1 h2
    exact ⟨none, 0, rfl, fun hn => absurd hn (by simp)⟩
  · exact ⟨_, cap, rfl, fun _ => ⟨g, 0, rfl, (h.lt g rfl).2, fun k y hk => by rw [Nat.zero_add]; exact own_row ItemV.size h hk⟩⟩
theorem IsR.grown {w w' : World} {g : Nat} {v : Value} {b : List UInt8} {k : Nat} {row : Option Nat} (h : IsR w g v b k) (hG : w.grownBy w' row) (hg : some g ≠ row) (hv : v.ownBlock = none ∨ v.ownBlock ≠ row) : IsR w' g v b k :=
  ⟨h.blk.grown hG hg, h.own.imp fun _ ho => ho.kept hG (hv.imp_left fun e => by simpa using e), h.ne, h.le⟩
section
variable {P : Program} {ops : Array Oper} {rest : List Oper} {o' : Oper} {a : Act} {w : World} {Q : Exit → Act → World → Prop}
/-- A struct, built: its cells by name. -/
theorem wpList_build_as {ty : TypeId} {parts : Array (Nat × Operand)} {ps : Array (Nat × Value)} {vs : Array Value} (ho : o'.op = .build ty parts) (hw : Region.wanted o' (yielded ops a.tmps) = true) (hp : (parts.map fun (i, x) => (i, a.eval x)) = ps) (hb : P.built ty ps.toList = some vs)
    (hK : wpList P ops Q rest (a.put o'.dst (.agg vs)) w) : wpList P ops Q (o' :: rest) a w :=
  wpList_want hw fun K hK' => by
    refine wp_build ty parts ho (by rw [hp, hb]; rfl) ?_
    rw [hp, hb]
    exact hK' _ _ hK
end
/-! ### what was taken, as items -/
theorem enc_text_back {b : List UInt8} {pos m : Nat} {s : List UInt8} {most : Int} (h : readT (b.drop pos) most = .ok (s, m)) (hp : pos ≤ b.length) : b.take (pos + m) = b.take pos ++ encI ⟨true, 0#64, strB s⟩ ∧ pos + m ≤ b.length := by
  obtain ⟨rest, h1, h2⟩ := readT_back h
  have hs : (strB s).size = s.length := by show s.toArray.size = _; simp
  have e : encI ⟨true, 0#64, strB s⟩ = sevens s.length ++ s := by rw [encI_text, hs]; rfl
  have hm : (sevens s.length ++ s).length = m := by rw [List.length_append, h2]
  have hl := congrArg List.length h1
  rw [List.length_drop, List.length_append, hm] at hl
  refine ⟨?_, by omega⟩
  rw [List.take_add, h1, List.take_left' hm, e]
theorem enc_num_back {b : List UInt8} {pos V n : Nat} (h : readN 0 0 (b.drop pos) = .ok (V, n)) (hp : pos ≤ b.length) : ∃ y : BitVec 64, (V : Int) = wd y ∧ b.take (pos + n) = b.take pos ++ encI ⟨false, y, ⟨#[]⟩⟩ ∧ pos + n ≤ b.length := by
  obtain ⟨v, rest, h1, h2, h3, h4, _⟩ := readN_back (b.drop pos) 0 0 V n (by omega) h
  rw [Nat.zero_add, Nat.pow_zero, Nat.mul_one] at h2
  rw [Nat.zero_add] at h3
  subst h2
  have hy : (BitVec.ofNat 64 V).toNat = V := by rw [BitVec.toNat_ofNat]; exact Nat.mod_eq_of_lt h4
  have hl := congrArg List.length h1
  rw [List.length_drop, List.length_append] at hl
  refine ⟨BitVec.ofNat 64 V, by unfold wd; rw [hy], ?_, by omega⟩
  rw [List.take_add, h1, h3, List.take_left' rfl, encI_num, hy]
theorem built_text (s : ByteArray) : Tryd.prog.built 57 (#[(0, .bool true), (2, .string s)] : Array (Nat × Value)).toList = some (ItemV.cells ⟨true, 0#64, s⟩) := by kernel_rfl
theorem built_num (y : BitVec 64) : Tryd.prog.built 57 (#[(1, .int .u64 (wd y))] : Array (Nat × Value)).toList = some (ItemV.cells ⟨false, y, ⟨#[]⟩⟩) := by kernel_rfl
end Go.Proofs.YtpdpdojaaaipcaaDoor
