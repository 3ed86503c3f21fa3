/-
  lineagelaw10.Ask, and a byte, opened (with their bulk).
-/
import Derived.Test.YtpdpdojaaaipcaaDoorOpen
import Derived.Test.YtpdpdojaaaipcaaDoorReads
namespace Go.Proofs.YtpdpdojaaaipcaaDoor
set_option maxRecDepth 100000
open Go.RowKit Go.Deep Go.ChangeShapes Go.WideShapes
section
variable {H : Type} {enc : TypeId × Value → H} {w : World} {base : Nat} {spare : Nat → Bool} {held : Bool}
theorem open_ask {m : Nat} {cs : List Value} {y : DataW H × List MemPlace} (h : DataW.trod enc Tryd.prog w base spare held m 34 cs = some y) : ∃ x : AskV, cs = x.cells.toList := by
  have cb : Tryd.prog.cellsOf 4 = 1 := by kernel_rfl
  have cw : Tryd.prog.cellsOf 3 = 1 := by kernel_rfl
  have c2 : Tryd.prog.cellsOf 34 = 2 := by kernel_rfl
  obtain ⟨hl, hf⟩ := open_fields Tryd.underlying34 h
  obtain ⟨c0, c1, rfl⟩ := list2 (hl.trans c2)
  obtain ⟨_, _, h0⟩ := hf 0 _ rfl
  obtain ⟨_, _, h1⟩ := hf 1 _ rfl
  obtain ⟨n0, e0, _⟩ := DataW.trod_bool Tryd.underlying4 h0
  obtain ⟨n1, e1, _, w1⟩ := DataW.trod_int Tryd.underlying3 h1
  simp [cb, cw] at e0 e1
  have hx : -9223372036854775808 ≤ n1 ∧ n1 ≤ 9223372036854775807 := by simpa [Lit.wf, IntKind.min, IntKind.max, IntKind.signed, IntKind.bits] using w1
  exact ⟨⟨n0, n1, by omega⟩, by rw [e0, e1]; rfl⟩
def u8c (x : UInt8) : Array Value := #[.int .u8 (x.toNat : Int)]
@[go_sem] theorem u8c_size (x : UInt8) : (u8c x).size = 1 := rfl
theorem open_byte {m : Nat} {cs : List Value} {y : DataW H × List MemPlace} (h : DataW.trod enc Tryd.prog w base spare held m 5 cs = some y) : ∃ x : UInt8, cs = (u8c x).toList := by
  obtain ⟨n, e, _, w1⟩ := DataW.trod_int Tryd.underlying5 h
  have hx : 0 ≤ n ∧ n ≤ 255 := by simpa [Lit.wf, IntKind.min, IntKind.max, IntKind.signed, IntKind.bits] using w1
  refine ⟨UInt8.ofNat n.toNat, ?_⟩
  rw [e]
  unfold u8c
  rw [UInt8.toNat_ofNat', Nat.mod_eq_of_lt (by omega)]
  show _ = [Value.int .u8 ((n.toNat : Nat) : Int)]
  rw [Int.toNat_of_nonneg (by omega)]
theorem bytes_rows {w : World} {A : Option Addr} {l : List UInt8} (h : 0 < l.length → ∃ b off, A = some ⟨b, off, none⟩ ∧ b < w.heap.size ∧ ∀ k y, l[k]? = some y → RowAt w b (off + k * 1) (u8c y)) : BytesAt w A l := fun hn => by
  obtain ⟨b, off, e, hb, hr⟩ := h hn
  refine ⟨b, off, e, hb, fun k x hk => ?_⟩
  have := (hr k x hk).at_ 0 (.int .u8 (x.toNat : Int)) rfl
  rwa [Nat.mul_one, Nat.add_zero] at this
end
theorem reads_rows (A0 : Option Addr) (cap : Nat) (b : List UInt8) (P0 : Option Addr) (cap2 : Nat) (asks : List AskV) (w : World) (hin0 : 0 < b.length → ∃ B off, A0 = some ⟨B, off, none⟩ ∧ B < w.heap.size ∧ ∀ k y, b[k]? = some y → RowAt w B (off + k * 1) (u8c y)) (hl0 : b.length * 1 ≤ 140737488351232) (hin : AsksAt w P0 asks) (hl1 : asks.length * 16 ≤ 140737488351232) (hg : Laid w) :
    Calls Tryd.prog 3 #[.slice A0 b.length cap, .slice P0 asks.length cap2] w (RetB (.bool true) w) :=
  reads_w A0 cap b P0 cap2 asks w (bytes_rows hin0) hin (by omega) (by omega) hg
end Go.Proofs.YtpdpdojaaaipcaaDoor
