/-
  Slots, each once, out of any numbers: of no program.
-/
import Derived.Test.YtdgdbcapojgnlaaPick
import Derived.Test.YtdgdbcapojgnlaaRgSp
namespace Go.Proofs.Ytdgdbcapojgnlaa
set_option maxRecDepth 100000

/-- One number more. -/
def rowStep (out : List Nat) (x : Int) : List Nat := if pickN x 32 ∈ out then out else out ++ [pickN x 32]
def rowL (l : List Int) : List Nat := l.foldl rowStep []
structure IsRow (L : List Nat) : Prop where
  nodup : L.Nodup
  lt : ∀ x ∈ L, x < 32
theorem IsRow.nil : IsRow [] := ⟨List.nodup_nil, fun _ h => by cases h⟩
theorem IsRow.len {L : List Nat} (h : IsRow L) : L.length ≤ 32 := nodup_len 32 _ h.nodup h.lt
theorem IsRow.step {L : List Nat} (h : IsRow L) (x : Int) : IsRow (rowStep L x) := by
  unfold rowStep
  split
  · exact h
  · rename_i hn
    refine ⟨List.nodup_append.2 ⟨h.nodup, by simp, fun a ha b hb e => hn (by simp at hb; rw [← hb, ← e]; exact ha)⟩, fun y hy => ?_⟩
    rcases List.mem_append.1 hy with hy | hy
    · exact h.lt y hy
    · simp at hy; rw [hy]; exact pickN_lt x 32 (by omega)
theorem rowL_snoc (l : List Int) (x : Int) : rowL (l ++ [x]) = rowStep (rowL l) x := by simp [rowL, List.foldl_append]
theorem rowL_take (l : List Int) (k : Nat) (x : Int) (h : l[k]? = some x) : rowL (l.take (k + 1)) = rowStep (rowL (l.take k)) x := by
  rw [List.take_add_one, h]
  exact rowL_snoc _ _
theorem foldl_row (l : List Int) : ∀ L, IsRow L → IsRow (l.foldl rowStep L) := by
  induction l with
  | nil => exact fun L h => h
  | cons x l ih => exact fun L h => ih _ (h.step x)
theorem rowL_row (l : List Int) : IsRow (rowL l) := foldl_row l [] IsRow.nil
theorem IsRow.take {L : List Nat} (h : IsRow L) (k : Nat) : IsRow (L.take k) := ⟨h.nodup.sublist (List.take_sublist _ _), fun x hx => h.lt x (List.mem_of_mem_take hx)⟩
theorem IsRow.drop {L : List Nat} (h : IsRow L) (k : Nat) : IsRow (L.drop k) := ⟨h.nodup.sublist (List.drop_sublist _ _), fun x hx => h.lt x (List.mem_of_mem_drop hx)⟩
/-- One more is laid. -/
theorem lay_step {S : St} (hl : S.slots.length = 32) {L : List Nat} {i : Nat} (hR : Ring S.lk L) (hi : i < 32) (hn : i ∉ L) :
    ∃ S', S.push (lsI (-1) L) i = (.tuple #[.int .i64 i, .nilIface], S') ∧ Ring S'.lk (L ++ [i]) ∧ Moved 3 (L ++ [i]) S S' := by
  by_cases h0 : L = []
  · subst h0
    obtain ⟨S', h1, h2, h3⟩ := push_first hl hi
    exact ⟨S', h1, h2, h3.mono (by omega) (fun x h => h)⟩
  · exact push_ring hl hR h0 hi hn
theorem lsI_snoc (p : Int) (L : List Nat) (i : Nat) : lsI p (L ++ [i]) = i := by rw [lsI_app]; rfl
end Go.Proofs.Ytdgdbcapojgnlaa
