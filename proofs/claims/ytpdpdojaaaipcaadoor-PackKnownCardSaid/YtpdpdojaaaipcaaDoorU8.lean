/-
  Rows of bytes of one's own: appended to, read, as a text.
-/
import Derived.Test.YtpdpdojaaaipcaaDoorProg
import Derived.Test.YtpdpdojaaaipcaaDoorRow
import Derived.Laws.BytesArg
namespace Go.Proofs.YtpdpdojaaaipcaaDoor
set_option maxRecDepth 100000
open Go.RowKit

def u8v (l : List Nat) : List Value := l.map fun (n : Nat) => Value.int .u8 (n : Int)
theorem byte_one (i : Int) : ∀ u ∈ (#[Value.int .u8 i] : Array Value).toList, u.oneCell' = true := by intro u hu; simp at hu; subst hu; rfl
theorem u8Info : ∃ i z, Tryd.prog.info? 5 = some i ∧ i.zero = some z ∧ i.size = 1 ∧ i.bytes = 1 ∧ z.cells.size = 1 := by
  have h : (match Tryd.prog.info? 5 with | some i => (match i.zero with | some z => i.size == 1 && i.bytes == 1 && z.cells.size == 1 | none => false) | none => false) = true := by decide +kernel
  cases hi : Tryd.prog.info? 5 with
  | none => rw [hi] at h; cases h
  | some i =>
    rw [hi] at h
    cases hz : i.zero with
    | none => simp only [hz] at h; cases h
    | some z =>
      simp only [hz, Bool.and_eq_true, beq_iff_eq] at h
      exact ⟨i, z, rfl, hz, h.1.1, h.1.2, h.2⟩
theorem own_ne {w : World} {base : Nat} {e : TypeId} {size n g : Nat} {v : Value} {xs : List Value} (h : w.ownsRow base e size v n xs) (hg : g < base) : some g ≠ v.ownBlock := fun e' => by
  have := (h.lt _ e'.symm).1; omega
theorem own_one {w : World} {g base : Nat} {t : TypeId} {v : Value} (h : Blk w g t #[v]) (hb : base ≤ g) : w.ownsRow base t 1 (.slice (some ⟨g, 0, none⟩) 1 1) 1 [v] :=
  ⟨rfl, .inr ⟨g, 1, #[v], rfl, hb, h.eq, Nat.le_refl _, by decide, rfl, rfl⟩⟩
/-- A row of bytes of one's own as a text. -/
theorem str_own (w : World) (base g n cap : Nat) (l : List Nat) (h : w.ownsRow base 5 1 (.slice (some ⟨g, 0, none⟩) n cap) n (u8v l)) : (convert 22 9 (.slice (some ⟨g, 0, none⟩) n cap)).run Tryd.prog w = .ok (.string ⟨(l.map UInt8.ofNat).toArray⟩) w := by
  have hl : l.length = n := by have := h.1; simpa [u8v] using this
  have hc := run_convert_bytes_arg (P := Tryd.prog) w 22 5 Tryd.underlying22 Tryd.underlying5 g 0 n cap (l.map fun (n : Nat) => (n : Int)) (by simpa using hl) (fun i hi => by
    have := h.cells rfl i (.int .u8 (((l.map fun (n : Nat) => (n : Int)).getD i 0))) (by
      unfold u8v
      rw [List.getElem?_map, List.getElem?_eq_getElem (by omega)]
      simp [List.getD_eq_getElem?_getD, List.getElem?_eq_getElem (show i < l.length by omega)])
    rwa [Addr.add_lit] at this) 9 Tryd.underlying9
  have e : strOfNums (l.map fun (n : Nat) => (n : Int)) = ⟨(l.map UInt8.ofNat).toArray⟩ := by
    unfold strOfNums
    simp [Function.comp_def]
  rw [hc, e]
theorem own_bytes {w : World} {base g n cap : Nat} {l : List Nat} (h : w.ownsRow base 5 1 (.slice (some ⟨g, 0, none⟩) n cap) n (u8v l)) (hl : ∀ x ∈ l, x < 256) : BytesAt w (some ⟨g, 0, none⟩) (l.map UInt8.ofNat) := fun _ =>
  ⟨g, 0, rfl, (h.lt g rfl).2, fun k x hk => by
    rw [List.getElem?_map] at hk
    cases hx : l[k]? with
    | none => rw [hx] at hk; cases hk
    | some y =>
      rw [hx] at hk
      simp only [Option.map_some, Option.some.injEq] at hk
      have hc := h.cells rfl k (.int .u8 (y : Int)) (by unfold u8v; rw [List.getElem?_map, hx]; rfl)
      rw [Addr.add_lit] at hc
      rw [hc, ← hk, UInt8.toNat_ofNat', Nat.mod_eq_of_lt (hl y (List.mem_of_getElem? hx))]⟩
end Go.Proofs.YtpdpdojaaaipcaaDoor
