/-
  The document's arena: At, without, Take, Place. 
-/
import Derived.Test.YtdgdbcapojgnlaaDoorRefArG
namespace Go.Proofs.YtdgdbcapojgnlaaDoor
set_option maxRecDepth 100000
open Go.RowKit
/-- Where a slot stands among the free ones. -/
def posIn (l : List Nat) (i : Nat) : Int := if i ∈ l then (l.idxOf i : Int) else -1
theorem idx_min : ∀ (l : List Nat) (i k : Nat), l[k]? = some i → l.idxOf i ≤ k
  | [], i, k, h => by simp at h
  | a :: r, i, 0, h => by
    simp at h; subst h; simp
  | a :: r, i, k + 1, h => by
    have := idx_min r i k (by simpa using h)
    rw [List.idxOf_cons]
    cases a == i <;> simp <;> omega
theorem posIn_at {l : List Nat} {i k : Nat} (h : l[k]? = some i) (hn : ∀ j, j < k → l[j]? ≠ some i) : posIn l i = (k : Int) := by
  unfold posIn
  rw [if_pos (List.mem_of_getElem? h)]
  have h1 : l.idxOf i < l.length := List.idxOf_lt_length_of_mem (List.mem_of_getElem? h)
  have h2 : l[l.idxOf i]? = some i := by rw [List.getElem?_eq_getElem h1]; simp
  have h4 := idx_min l i k h
  rcases Nat.lt_or_ge (l.idxOf i) k with h3 | h3
  · exact absurd h2 (hn _ h3)
  · have : l.idxOf i = k := by omega
    rw [this]
theorem posIn_no {l : List Nat} {i : Nat} (h : i ∉ l) : posIn l i = -1 := if_neg h
theorem erase_idx {l : List Nat} {i : Nat} : l.eraseIdx (l.idxOf i) = l.erase i := by
  rw [List.erase_eq_eraseIdx_of_idxOf (by rfl)]

theorem erase_take {l : List Nat} {i k x : Nat} (hx : l[i]? = some x) : (l.take (i + 1)).eraseIdx k = if i = k then (l.take i).eraseIdx k else (l.take i).eraseIdx k ++ [x] := by
  have hlt := (List.getElem?_eq_some_iff.1 hx).1
  have ht : l.take (i + 1) = l.take i ++ [x] := by rw [List.take_add_one, hx]; rfl
  have hli : (l.take i).length = i := by rw [List.length_take]; omega
  rw [ht]
  rcases Nat.lt_trichotomy i k with h | h | h
  · rw [if_neg (by omega), List.eraseIdx_of_length_le (by simp [hli]; omega), List.eraseIdx_of_length_le (by omega)]
  · subst h
    rw [if_pos rfl, List.eraseIdx_append_of_length_le (by omega), hli, Nat.sub_self, List.eraseIdx_of_length_le (l := l.take i) (by omega)]
    simp
  · rw [if_neg (by omega), List.eraseIdx_append_of_lt_length (by omega)]
section
variable {lo h b cap : Nat} {S : St} {junk : List Value} {vF : Value} {W : World}
/-- What the head and the row of the free ones hold. -/
theorem RAt.view (r : RAt lo h S b cap junk vF W) : ∃ A c, vF = .slice A S.free.length c ∧ IntsAt W A (natInts S.free) ∧ W.cell? ⟨h, 0, none⟩ = some (.slice (some ⟨b, 0, none⟩) 32 cap) ∧ W.cell? ⟨h, 1, none⟩ = some (.slice A S.free.length c) ∧ W.cell? ⟨h, 2, none⟩ = some (.int .i64 S.writes) := by
  obtain ⟨A, c, e, hi⟩ := owns_intsAt r.free
  have c0 := r.head.cell 0
  have c1 := r.head.cell 1
  have c2 := r.head.cell 2
  rw [e] at c1
  exact ⟨A, c, e, hi, c0, c1, c2⟩
end
set_option maxHeartbeats 2000000 in
theorem rat_any {lo h b : Nat} {S : St} (i : Nat) (w : World) (r : IsRB lo h b S w) (hl : S.free.length ≤ 32) : Calls Tryd.prog 62 #[.pointer (some ⟨h, 0, none⟩), .int .i64 i] w (RetSame (.int .i64 (posIn S.free i)) w) := by
  obtain ⟨cap, junk, vF, r⟩ := r
  obtain ⟨A, c, _, hi, _, c1, _⟩ := r.view
  obtain ⟨L, hL⟩ : ∃ L, S.free = L := ⟨_, rfl⟩
  rw [hL] at hi c1 hl ⊢
  obtain ⟨n, hn⟩ : ∃ n, L.length = n := ⟨_, rfl⟩
  have HN := Lib.hid hn
  rw [hn] at c1 hl
  have HI := Lib.hid hi
  clear r hi hL hn
  go_enter Tryd.func62, Tryd.ntmps62
  go_wp2
  go_loopw [5] (fun v wr => ∃ k : Nat, k ≤ n ∧ v = .int .i64 k ∧ wr = w ∧ ∀ j, j < k → L[j]? ≠ some i) (fun v _ => n - (intOf v).toNat)
  case atStart => exact ⟨0, Nat.zero_le _, rfl, rfl, fun j hj => absurd hj (Nat.not_lt_zero _)⟩
  case round =>
    obtain ⟨k, hk, rfl, rfl, hno⟩ := hrel
    have HNO := Lib.hid hno
    by_cases hlt : k < n
    · have hki : (k : Int) < (n : Int) := by omega
      obtain ⟨x, hx⟩ : ∃ x, L[k]? = some x := ⟨_, List.getElem?_eq_getElem (by rw [HN.out]; exact hlt)⟩
      obtain ⟨b1, o1, rfl, g1, r1⟩ := HI.out (by rw [natInts_len, HN.out]; omega)
      have d1 := r1 k (x : Int) (by simp [natInts, hx])
      have HX := Lib.hid hx
      clear r1 hx hno
      by_cases he : x = i
      · subst he
        have hpos := posIn_at HX.out HNO.out
        rw [hpos]
        clear hpos
        go_wp2
        go_ret
        exact ⟨rfl, rfl⟩
      · have hei : ((x : Int) == (i : Int)) = false := by simp; omega
        go_wp2
        go_roundw
        case rel => exact ⟨k + 1, by omega, by go_num, by trivial, fun j hj => by
          rcases Nat.lt_or_ge j k with h1 | h1
          · exact HNO.out j h1
          · obtain rfl : j = k := by omega
            rw [HX.out]; intro e; injection e with e; exact he e⟩
        case measure => simp [intOf]; omega
    · obtain rfl : k = n := by omega
      have hni : i ∉ L := fun hm => by
        obtain ⟨j, hj⟩ := List.getElem?_of_mem hm
        have := (List.getElem?_eq_some_iff.1 hj).1
        exact HNO.out j (by rw [← HN.out]; exact this) hj
      have hpn := posIn_no hni
      clear hni hno
      go_wp2
      go_ret
      exact ⟨by rw [hpn]; rfl, rfl⟩
end Go.Proofs.YtdgdbcapojgnlaaDoor
