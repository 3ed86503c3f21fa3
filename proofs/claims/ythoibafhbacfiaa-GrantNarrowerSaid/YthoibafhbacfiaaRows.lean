/-
  No cell of these rows narrows 'for every input' (looked for: loops, veiled, ifaces, maps, wideKeys, modest, calm, conditions, laid).
  DERIVED. THE GIVEN ROWS OF THIS SEAT. 3 by the template 'for every input the law returns true; each argument reads behind the call as it read before'; 0 by the template 'total and deterministic' (their statements: YthoibafhbacfiaaTotals.lean).
  GIVEN WITH THE SEED: the statements are not yours to turn. If you find one false, say at which input.
  Laid BY PROGRAM, IN A SANDBOX (cutbox-rows.mjs): the forced cells as the released guide's own fill.sh prints them over the translation e04ad49c97cc9737… (all of the seat's roots in one cut). By AI agents, Wed Nov 11 2026. No macro, syntax, notation, axiom, sorry.
-/
import Derived.Test.YthoibafhbacfiaaChecked
import GoSem.Claim
import GoSem.ClaimJoined
import GoSem.ClaimMapViews
import Derived.JoinedTies
import Derived.KernelRfl
namespace Go.Proofs.Ythoibafhbacfiaa
/- THE CELL 'sum', in the pinned program and in every row, IS THE sha256 OF THE DUMP (.gsa) THAT YthoibafhbacfiaaProg.lean LOADS. Nothing in Lean hashes anything: it is a label: what it is worth is what the hold of that sum in a sandbox is worth. -/
noncomputable def Try.pinned : Pinned := { name := "ythoibafhbacfiaa", sum := "e04ad49c97cc9737e915426e20690744dca8e20ac288b5c4c4c2f1bb8a21f3db", checked := Try.checked }
namespace Rows
def none {H : Type} : Left H := { results := [], args := [] }

/-- 'lineagelaw22.GrantNarrower': WHATEVER THE INPUT: true; the input reads as it did. -/
def grantNarrowerSpec : ChangeSpec := { name := "grantNarrower", fn := fun _ => fun
  | [d1, d2, d3] => { results := [.lit (.bool true)], args := [d1, d2, d3] }
  | _ => none }
def grantNarrowerRow : OpenClaim := { program := "ythoibafhbacfiaa", sum := "e04ad49c97cc9737e915426e20690744dca8e20ac288b5c4c4c2f1bb8a21f3db", func := "lineage/lineagelaw22.GrantNarrower", spec := "grantNarrower", inPlace := ["internal/bytealg.IndexByteString", "internal/bytealg.IndexString"], unfollowed := true, recurses := true, named := ["internal/bytealg.MaxLen"], apart := false }
def GrantNarrowerSaid : Prop := grantNarrowerRow.holds Try.pinned (OpenSpec.ofChange grantNarrowerSpec)

/-- ITS FALSE NEIGHBOUR: 'it returns false'. Refute it at one input. -/
def grantNarrowerWrong : ChangeSpec := { name := "grantNarrower", fn := fun _ => fun
  | [d1, d2, d3] => { results := [.lit (.bool false)], args := [d1, d2, d3] }
  | _ => none }
def GrantNarrowerWrongFalsely : Prop := grantNarrowerRow.holds Try.pinned (OpenSpec.ofChange grantNarrowerWrong)

/-- 'lineagelaw22.GrantLess': WHATEVER THE INPUT: true; the input reads as it did. -/
def grantLessSpec : ChangeSpec := { name := "grantLess", fn := fun _ => fun
  | [d1, d2, d3] => { results := [.lit (.bool true)], args := [d1, d2, d3] }
  | _ => none }
def grantLessRow : OpenClaim := { program := "ythoibafhbacfiaa", sum := "e04ad49c97cc9737e915426e20690744dca8e20ac288b5c4c4c2f1bb8a21f3db", func := "lineage/lineagelaw22.GrantLess", spec := "grantLess", inPlace := ["internal/bytealg.IndexByteString", "internal/bytealg.IndexString"], unfollowed := true, recurses := true, named := ["internal/bytealg.MaxLen"], apart := false }
def GrantLessSaid : Prop := grantLessRow.holds Try.pinned (OpenSpec.ofChange grantLessSpec)

/-- ITS FALSE NEIGHBOUR: 'it returns false'. Refute it at one input. -/
def grantLessWrong : ChangeSpec := { name := "grantLess", fn := fun _ => fun
  | [d1, d2, d3] => { results := [.lit (.bool false)], args := [d1, d2, d3] }
  | _ => none }
def GrantLessWrongFalsely : Prop := grantLessRow.holds Try.pinned (OpenSpec.ofChange grantLessWrong)

/-- 'lineagelaw22.GrantOrder': WHATEVER THE INPUT: true; the input reads as it did. -/
def grantOrderSpec : ChangeSpec := { name := "grantOrder", fn := fun _ => fun
  | [d1, d2, d3] => { results := [.lit (.bool true)], args := [d1, d2, d3] }
  | _ => none }
def grantOrderRow : OpenClaim := { program := "ythoibafhbacfiaa", sum := "e04ad49c97cc9737e915426e20690744dca8e20ac288b5c4c4c2f1bb8a21f3db", func := "lineage/lineagelaw22.GrantOrder", spec := "grantOrder", inPlace := ["internal/bytealg.IndexByteString", "internal/bytealg.IndexString", "internal/reflectlite.TypeOf"], unfollowed := true, recurses := true, named := ["internal/bytealg.MaxLen"], apart := false }
def GrantOrderSaid : Prop := grantOrderRow.holds Try.pinned (OpenSpec.ofChange grantOrderSpec)

/-- ITS FALSE NEIGHBOUR: 'it returns false'. Refute it at one input. -/
def grantOrderWrong : ChangeSpec := { name := "grantOrder", fn := fun _ => fun
  | [d1, d2, d3] => { results := [.lit (.bool false)], args := [d1, d2, d3] }
  | _ => none }
def GrantOrderWrongFalsely : Prop := grantOrderRow.holds Try.pinned (OpenSpec.ofChange grantOrderWrong)

/- THE SECOND FORM. 'bulk': how many values and letters a reading holds, each counted each time it is reached (what is shared counts as often as it is met; a slice's spare places count too). A statement '..UptoSaid' is the law's where the arguments, and the package variables that the reading takes, are together of bulk at most 1048576: NARROWER than '..Said'. Prove '..Said' where nothing that the law and all that it calls make is longer than what came in: it says more and counts as full. Else prove '..UptoSaid'. A law counts once. -/
mutual
def uptoBulk {H : Type} : DataW H → Nat
  | .lit (.string bytes) => bytes.length + 1
  | .lit _ => 1
  | .nil => 1
  | .ptr d => uptoBulk d + 1
  | .slice elems spare => uptoBulkAll elems + uptoBulkAll spare + 1
  | .agg parts => uptoBulkAll parts + 1
  | .iface _ d => uptoBulk d + 1
  | .map entries => uptoBulkEntries entries + 1
  | .held _ => 1
def uptoBulkAll {H : Type} : List (DataW H) → Nat
  | [] => 0
  | d :: r => uptoBulk d + uptoBulkAll r
def uptoBulkEntries {H : Type} : List (Lit × DataW H) → Nat
  | [] => 0
  | x :: r => uptoBulkEntry x + uptoBulkEntries r
def uptoBulkEntry {H : Type} : Lit × DataW H → Nat
  | (.string bytes, d) => bytes.length + uptoBulk d + 1
  | (_, d) => uptoBulk d + 1
 end
def uptoSmall : (H : Type) → List (DataW H) → Bool := fun _ ds => decide (uptoBulkAll ds ≤ 1048576)
def OpenSpec.upto (s : _root_.Go.ChangeSpec) : _root_.Go.OpenSpec := { _root_.Go.OpenSpec.ofChange s with cond := some uptoSmall }

/-- 'lineagelaw22.GrantNarrower', WHERE WHAT IT READS IS OF BULK AT MOST 1048576: true; the input reads as it did. -/
def grantNarrowerUptoRow : OpenClaim := { program := "ythoibafhbacfiaa", sum := "e04ad49c97cc9737e915426e20690744dca8e20ac288b5c4c4c2f1bb8a21f3db", func := "lineage/lineagelaw22.GrantNarrower", spec := "grantNarrower", inPlace := ["internal/bytealg.IndexByteString", "internal/bytealg.IndexString"], unfollowed := true, recurses := true, named := ["internal/bytealg.MaxLen"], apart := false, narrowed := true }
def GrantNarrowerUptoSaid : Prop := grantNarrowerUptoRow.holds Try.pinned (OpenSpec.upto grantNarrowerSpec)

/-- 'lineagelaw22.GrantLess', WHERE WHAT IT READS IS OF BULK AT MOST 1048576: true; the input reads as it did. -/
def grantLessUptoRow : OpenClaim := { program := "ythoibafhbacfiaa", sum := "e04ad49c97cc9737e915426e20690744dca8e20ac288b5c4c4c2f1bb8a21f3db", func := "lineage/lineagelaw22.GrantLess", spec := "grantLess", inPlace := ["internal/bytealg.IndexByteString", "internal/bytealg.IndexString"], unfollowed := true, recurses := true, named := ["internal/bytealg.MaxLen"], apart := false, narrowed := true }
def GrantLessUptoSaid : Prop := grantLessUptoRow.holds Try.pinned (OpenSpec.upto grantLessSpec)

/-- 'lineagelaw22.GrantOrder', WHERE WHAT IT READS IS OF BULK AT MOST 1048576: true; the input reads as it did. -/
def grantOrderUptoRow : OpenClaim := { program := "ythoibafhbacfiaa", sum := "e04ad49c97cc9737e915426e20690744dca8e20ac288b5c4c4c2f1bb8a21f3db", func := "lineage/lineagelaw22.GrantOrder", spec := "grantOrder", inPlace := ["internal/bytealg.IndexByteString", "internal/bytealg.IndexString", "internal/reflectlite.TypeOf"], unfollowed := true, recurses := true, named := ["internal/bytealg.MaxLen"], apart := false, narrowed := true }
def GrantOrderUptoSaid : Prop := grantOrderUptoRow.holds Try.pinned (OpenSpec.upto grantOrderSpec)

end Rows
end Go.Proofs.Ythoibafhbacfiaa
