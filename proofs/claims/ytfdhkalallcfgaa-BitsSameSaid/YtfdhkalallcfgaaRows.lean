/-
  No cell of these rows narrows 'for every input' (looked for: loops, veiled, ifaces, maps, wideKeys, modest, calm, conditions, laid).
  DERIVED. THE GIVEN ROWS OF THIS SEAT. 3 by the template 'for every input the law returns true; each argument reads behind the call as it read before'; 0 by the template 'total and deterministic' (their statements: YtfdhkalallcfgaaTotals.lean).
  GIVEN WITH THE SEED: the statements are not yours to turn. If you find one false, say at which input.
  Laid BY PROGRAM, IN A SANDBOX (cutbox-rows.mjs): the forced cells as the released guide's own fill.sh prints them over the translation e61a396474d2f4b7… (all of the seat's roots in one cut). By AI agents, Wed Nov 11 2026. No macro, syntax, notation, axiom, sorry.
-/
import Derived.Test.YtfdhkalallcfgaaChecked
import GoSem.Claim
import GoSem.ClaimJoined
import GoSem.ClaimMapViews
import Derived.JoinedTies
import Derived.KernelRfl
namespace Go.Proofs.Ytfdhkalallcfgaa
/- THE CELL 'sum', in the pinned program and in every row, IS THE sha256 OF THE DUMP (.gsa) THAT YtfdhkalallcfgaaProg.lean LOADS. Nothing in Lean hashes anything: it is a label: what it is worth is what the hold of that sum in a sandbox is worth. -/
noncomputable def Try.pinned : Pinned := { name := "ytfdhkalallcfgaa", sum := "e61a396474d2f4b7e13e87d8f7fcef79c4b9323ecde4138550420b854254fa1f", checked := Try.checked }
namespace Rows
def none {H : Type} : Left H := { results := [], args := [] }

/-- 'lineagelaw02.BitsTwo': WHATEVER THE INPUT: true; the input reads as it did. -/
def bitsTwoSpec : ChangeSpec := { name := "bitsTwo", fn := fun _ => fun
  | [d1, d2] => { results := [.lit (.bool true)], args := [d1, d2] }
  | _ => none }
def bitsTwoRow : OpenClaim := { program := "ytfdhkalallcfgaa", sum := "e61a396474d2f4b7e13e87d8f7fcef79c4b9323ecde4138550420b854254fa1f", func := "lineage/lineagelaw02.BitsTwo", spec := "bitsTwo", apart := false }
def BitsTwoSaid : Prop := bitsTwoRow.holds Try.pinned (OpenSpec.ofChange bitsTwoSpec)

/-- ITS FALSE NEIGHBOUR: 'it returns false'. Refute it at one input. -/
def bitsTwoWrong : ChangeSpec := { name := "bitsTwo", fn := fun _ => fun
  | [d1, d2] => { results := [.lit (.bool false)], args := [d1, d2] }
  | _ => none }
def BitsTwoWrongFalsely : Prop := bitsTwoRow.holds Try.pinned (OpenSpec.ofChange bitsTwoWrong)

/-- 'lineagelaw02.BitsSame': WHATEVER THE INPUT: true; the input reads as it did. -/
def bitsSameSpec : ChangeSpec := { name := "bitsSame", fn := fun _ => fun
  | [d1, d2] => { results := [.lit (.bool true)], args := [d1, d2] }
  | _ => none }
def bitsSameRow : OpenClaim := { program := "ytfdhkalallcfgaa", sum := "e61a396474d2f4b7e13e87d8f7fcef79c4b9323ecde4138550420b854254fa1f", func := "lineage/lineagelaw02.BitsSame", spec := "bitsSame", apart := false }
def BitsSameSaid : Prop := bitsSameRow.holds Try.pinned (OpenSpec.ofChange bitsSameSpec)

/-- ITS FALSE NEIGHBOUR: 'it returns false'. Refute it at one input. -/
def bitsSameWrong : ChangeSpec := { name := "bitsSame", fn := fun _ => fun
  | [d1, d2] => { results := [.lit (.bool false)], args := [d1, d2] }
  | _ => none }
def BitsSameWrongFalsely : Prop := bitsSameRow.holds Try.pinned (OpenSpec.ofChange bitsSameWrong)

/-- 'lineagelaw02.BitsPut': WHATEVER THE INPUT: true; the input reads as it did. -/
def bitsPutSpec : ChangeSpec := { name := "bitsPut", fn := fun _ => fun
  | [d1, d2, d3] => { results := [.lit (.bool true)], args := [d1, d2, d3] }
  | _ => none }
def bitsPutRow : OpenClaim := { program := "ytfdhkalallcfgaa", sum := "e61a396474d2f4b7e13e87d8f7fcef79c4b9323ecde4138550420b854254fa1f", func := "lineage/lineagelaw02.BitsPut", spec := "bitsPut", apart := false }
def BitsPutSaid : Prop := bitsPutRow.holds Try.pinned (OpenSpec.ofChange bitsPutSpec)

/-- ITS FALSE NEIGHBOUR: 'it returns false'. Refute it at one input. -/
def bitsPutWrong : ChangeSpec := { name := "bitsPut", fn := fun _ => fun
  | [d1, d2, d3] => { results := [.lit (.bool false)], args := [d1, d2, d3] }
  | _ => none }
def BitsPutWrongFalsely : Prop := bitsPutRow.holds Try.pinned (OpenSpec.ofChange bitsPutWrong)

/- THE SECOND FORM. 'bulk': how many values and letters a reading holds, each counted each time it is reached (what is shared counts as often as it is met; a slice's spare places count too). A statement '..UptoSaid' is the law's where the arguments, and the package variables that the reading takes, are together of bulk at most 1048576: NARROWER than '..Said'. Prove '..Said' where nothing that the law and all that it calls make is longer than what came in: it says more and counts as full. Else prove '..UptoSaid'. A law counts once. -/
mutual
def uptoBulk {H : Type} : DataW H → Nat
  | .lit (.string bytes) => bytes.length + 1
  | .lit _ => 1
  | .nil => 1
  | .ptr d => uptoBulk d + 1
  | .slice elems spare => uptoBulkAll elems + uptoBulkAll spare + 1
  | .agg parts => uptoBulkAll parts + 1
  | .iface _ d => uptoBulk d + 1
  | .map entries => uptoBulkEntries entries + 1
  | .held _ => 1
def uptoBulkAll {H : Type} : List (DataW H) → Nat
  | [] => 0
  | d :: r => uptoBulk d + uptoBulkAll r
def uptoBulkEntries {H : Type} : List (Lit × DataW H) → Nat
  | [] => 0
  | x :: r => uptoBulkEntry x + uptoBulkEntries r
def uptoBulkEntry {H : Type} : Lit × DataW H → Nat
  | (.string bytes, d) => bytes.length + uptoBulk d + 1
  | (_, d) => uptoBulk d + 1
 end
def uptoSmall : (H : Type) → List (DataW H) → Bool := fun _ ds => decide (uptoBulkAll ds ≤ 1048576)
def OpenSpec.upto (s : _root_.Go.ChangeSpec) : _root_.Go.OpenSpec := { _root_.Go.OpenSpec.ofChange s with cond := some uptoSmall }

/-- 'lineagelaw02.BitsTwo', WHERE WHAT IT READS IS OF BULK AT MOST 1048576: true; the input reads as it did. -/
def bitsTwoUptoRow : OpenClaim := { program := "ytfdhkalallcfgaa", sum := "e61a396474d2f4b7e13e87d8f7fcef79c4b9323ecde4138550420b854254fa1f", func := "lineage/lineagelaw02.BitsTwo", spec := "bitsTwo", apart := false, narrowed := true }
def BitsTwoUptoSaid : Prop := bitsTwoUptoRow.holds Try.pinned (OpenSpec.upto bitsTwoSpec)

/-- 'lineagelaw02.BitsSame', WHERE WHAT IT READS IS OF BULK AT MOST 1048576: true; the input reads as it did. -/
def bitsSameUptoRow : OpenClaim := { program := "ytfdhkalallcfgaa", sum := "e61a396474d2f4b7e13e87d8f7fcef79c4b9323ecde4138550420b854254fa1f", func := "lineage/lineagelaw02.BitsSame", spec := "bitsSame", apart := false, narrowed := true }
def BitsSameUptoSaid : Prop := bitsSameUptoRow.holds Try.pinned (OpenSpec.upto bitsSameSpec)

/-- 'lineagelaw02.BitsPut', WHERE WHAT IT READS IS OF BULK AT MOST 1048576: true; the input reads as it did. -/
def bitsPutUptoRow : OpenClaim := { program := "ytfdhkalallcfgaa", sum := "e61a396474d2f4b7e13e87d8f7fcef79c4b9323ecde4138550420b854254fa1f", func := "lineage/lineagelaw02.BitsPut", spec := "bitsPut", apart := false, narrowed := true }
def BitsPutUptoSaid : Prop := bitsPutUptoRow.holds Try.pinned (OpenSpec.upto bitsPutSpec)

end Rows
end Go.Proofs.Ytfdhkalallcfgaa
