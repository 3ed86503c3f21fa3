/-
  NARROWER THAN 'FOR EVERY INPUT', by the rows' own cells (each row's printed sentence says how): GrantLogins: laid · GrantChildren: laid · GrantRaises: laid · GrantKnown: laid.
  DERIVED. THE GIVEN ROWS OF THIS SEAT. 4 by the template 'for every input the law returns true; each argument reads behind the call as it read before'; 0 by the template 'total and deterministic' (their statements: YthoibafhbacfiaaDoorTotals.lean).
  GIVEN WITH THE SEED: the statements are not yours to turn. If you find one false, say at which input.
  Laid BY PROGRAM, IN A SANDBOX (cutbox-rows.mjs): the forced cells as the released guide's own fill.sh prints them over the translation f5681405a576b607… (all of the seat's roots in one cut). By AI agents, Wed Nov 11 2026. No macro, syntax, notation, axiom, sorry.
-/
import Derived.Test.YthoibafhbacfiaaDoorChecked
import GoSem.Claim
import GoSem.ClaimJoined
import GoSem.ClaimMapViews
import Derived.JoinedTies
import Derived.KernelRfl
namespace Go.Proofs.YthoibafhbacfiaaDoor
/- THE CELL 'sum', in the pinned program and in every row, IS THE sha256 OF THE DUMP (.gsa) THAT YthoibafhbacfiaaDoorProg.lean LOADS. Nothing in Lean hashes anything: it is a label: what it is worth is what the hold of that sum in a sandbox is worth. -/
noncomputable def Tryd.pinned : Pinned := { name := "ythoibafhbacfiaadoor", sum := "f5681405a576b6073ce06a78d3aab4adf711bbfe1a2840c189a87f152c7f12b5", checked := Tryd.checked }
namespace Rows
def none {H : Type} : Left H := { results := [], args := [] }

/- WHAT THE LISTED PACKAGE-LEVEL VARIABLES READ AS WHEN THE CALL BEGINS. Each datum BY PROGRAM (the guide's laid-datum.mjs) off the statement by which the dump's own 'gosem.cut.vars' lays the variable. In a bare row this is a premise. The card (YthoibafhbacfiaaDoorCards.lean) ties it to the program's text. -/
def laid_errors_errorType {H : Type} : DataW H := .iface "internal/reflectlite.rtype" (.agg [.ptr (.lit (.string [101, 114, 114, 111, 114]))])

/-- 'lineagelaw22.GrantLogins': WHATEVER THE INPUT: true; the input reads as it did. -/
def grantLoginsSpec : ChangeSpec := { name := "grantLogins", fn := fun _ => fun
  | [d1, d2] => { results := [.lit (.bool true)], args := [d1, d2] }
  | _ => none }
def grantLoginsRow : OpenClaim := { program := "ythoibafhbacfiaadoor", sum := "f5681405a576b6073ce06a78d3aab4adf711bbfe1a2840c189a87f152c7f12b5", func := "lineage/lineagelaw22.GrantLogins", spec := "grantLogins", inPlace := ["internal/bytealg.IndexByteString", "internal/bytealg.IndexString", "internal/reflectlite.TypeOf", "internal/reflectlite.ValueOf", "(internal/reflectlite.Value).Type", "(internal/reflectlite.Value).IsNil", "(internal/reflectlite.Value).Elem", "(internal/reflectlite.Value).Set"], unfollowed := true, recurses := true, named := ["errors.errorType", "internal/bytealg.MaxLen"], apart := false, laid := [("errors.errorType", laid_errors_errorType)] }
def GrantLoginsSaid : Prop := grantLoginsRow.holds Tryd.pinned (OpenSpec.ofChange grantLoginsSpec)

/-- ITS FALSE NEIGHBOUR: 'it returns false'. Refute it at one input. -/
def grantLoginsWrong : ChangeSpec := { name := "grantLogins", fn := fun _ => fun
  | [d1, d2] => { results := [.lit (.bool false)], args := [d1, d2] }
  | _ => none }
def GrantLoginsWrongFalsely : Prop := grantLoginsRow.holds Tryd.pinned (OpenSpec.ofChange grantLoginsWrong)

/-- 'lineagelaw22.GrantChildren': WHATEVER THE INPUT: true; the input reads as it did. -/
def grantChildrenSpec : ChangeSpec := { name := "grantChildren", fn := fun _ => fun
  | [d1, d2, d3] => { results := [.lit (.bool true)], args := [d1, d2, d3] }
  | _ => none }
def grantChildrenRow : OpenClaim := { program := "ythoibafhbacfiaadoor", sum := "f5681405a576b6073ce06a78d3aab4adf711bbfe1a2840c189a87f152c7f12b5", func := "lineage/lineagelaw22.GrantChildren", spec := "grantChildren", inPlace := ["internal/bytealg.IndexByteString", "internal/bytealg.IndexString", "internal/reflectlite.TypeOf", "internal/reflectlite.ValueOf", "(internal/reflectlite.Value).Type", "(internal/reflectlite.Value).IsNil", "(internal/reflectlite.Value).Elem", "(internal/reflectlite.Value).Set"], unfollowed := true, recurses := true, named := ["errors.errorType", "internal/bytealg.MaxLen"], apart := false, laid := [("errors.errorType", laid_errors_errorType)] }
def GrantChildrenSaid : Prop := grantChildrenRow.holds Tryd.pinned (OpenSpec.ofChange grantChildrenSpec)

/-- ITS FALSE NEIGHBOUR: 'it returns false'. Refute it at one input. -/
def grantChildrenWrong : ChangeSpec := { name := "grantChildren", fn := fun _ => fun
  | [d1, d2, d3] => { results := [.lit (.bool false)], args := [d1, d2, d3] }
  | _ => none }
def GrantChildrenWrongFalsely : Prop := grantChildrenRow.holds Tryd.pinned (OpenSpec.ofChange grantChildrenWrong)

/-- 'lineagelaw22.GrantRaises': WHATEVER THE INPUT: true; the input reads as it did. -/
def grantRaisesSpec : ChangeSpec := { name := "grantRaises", fn := fun _ => fun
  | [d1, d2, d3] => { results := [.lit (.bool true)], args := [d1, d2, d3] }
  | _ => none }
def grantRaisesRow : OpenClaim := { program := "ythoibafhbacfiaadoor", sum := "f5681405a576b6073ce06a78d3aab4adf711bbfe1a2840c189a87f152c7f12b5", func := "lineage/lineagelaw22.GrantRaises", spec := "grantRaises", inPlace := ["internal/bytealg.IndexByteString", "internal/bytealg.IndexString", "internal/reflectlite.TypeOf", "internal/reflectlite.ValueOf", "(internal/reflectlite.Value).Type", "(internal/reflectlite.Value).IsNil", "(internal/reflectlite.Value).Elem", "(internal/reflectlite.Value).Set"], unfollowed := true, recurses := true, named := ["errors.errorType", "internal/bytealg.MaxLen"], apart := false, laid := [("errors.errorType", laid_errors_errorType)] }
def GrantRaisesSaid : Prop := grantRaisesRow.holds Tryd.pinned (OpenSpec.ofChange grantRaisesSpec)

/-- ITS FALSE NEIGHBOUR: 'it returns false'. Refute it at one input. -/
def grantRaisesWrong : ChangeSpec := { name := "grantRaises", fn := fun _ => fun
  | [d1, d2, d3] => { results := [.lit (.bool false)], args := [d1, d2, d3] }
  | _ => none }
def GrantRaisesWrongFalsely : Prop := grantRaisesRow.holds Tryd.pinned (OpenSpec.ofChange grantRaisesWrong)

/-- 'lineagelaw22.GrantKnown': WHATEVER THE INPUT: true; the input reads as it did. -/
def grantKnownSpec : ChangeSpec := { name := "grantKnown", fn := fun _ => fun
  | [] => { results := [.lit (.bool true)], args := [] }
  | _ => none }
def grantKnownRow : OpenClaim := { program := "ythoibafhbacfiaadoor", sum := "f5681405a576b6073ce06a78d3aab4adf711bbfe1a2840c189a87f152c7f12b5", func := "lineage/lineagelaw22.GrantKnown", spec := "grantKnown", inPlace := ["internal/bytealg.IndexByteString", "internal/bytealg.IndexString", "internal/reflectlite.TypeOf", "internal/reflectlite.ValueOf", "(internal/reflectlite.Value).Type", "(internal/reflectlite.Value).IsNil", "(internal/reflectlite.Value).Elem", "(internal/reflectlite.Value).Set"], unfollowed := true, recurses := true, named := ["errors.errorType", "internal/bytealg.MaxLen"], apart := false, laid := [("errors.errorType", laid_errors_errorType)] }
def GrantKnownSaid : Prop := grantKnownRow.holds Tryd.pinned (OpenSpec.ofChange grantKnownSpec)

/-- ITS FALSE NEIGHBOUR: 'it returns false'. Refute it at one input. -/
def grantKnownWrong : ChangeSpec := { name := "grantKnown", fn := fun _ => fun
  | [] => { results := [.lit (.bool false)], args := [] }
  | _ => none }
def GrantKnownWrongFalsely : Prop := grantKnownRow.holds Tryd.pinned (OpenSpec.ofChange grantKnownWrong)

/- THE SECOND FORM. 'bulk': how many values and letters a reading holds, each counted each time it is reached (what is shared counts as often as it is met; a slice's spare places count too). A statement '..UptoSaid' is the law's where the arguments, and the package variables that the reading takes, are together of bulk at most 1048576: NARROWER than '..Said'. Prove '..Said' where nothing that the law and all that it calls make is longer than what came in: it says more and counts as full. Else prove '..UptoSaid'. A law counts once. -/
mutual
def uptoBulk {H : Type} : DataW H → Nat
  | .lit (.string bytes) => bytes.length + 1
  | .lit _ => 1
  | .nil => 1
  | .ptr d => uptoBulk d + 1
  | .slice elems spare => uptoBulkAll elems + uptoBulkAll spare + 1
  | .agg parts => uptoBulkAll parts + 1
  | .iface _ d => uptoBulk d + 1
  | .map entries => uptoBulkEntries entries + 1
  | .held _ => 1
def uptoBulkAll {H : Type} : List (DataW H) → Nat
  | [] => 0
  | d :: r => uptoBulk d + uptoBulkAll r
def uptoBulkEntries {H : Type} : List (Lit × DataW H) → Nat
  | [] => 0
  | x :: r => uptoBulkEntry x + uptoBulkEntries r
def uptoBulkEntry {H : Type} : Lit × DataW H → Nat
  | (.string bytes, d) => bytes.length + uptoBulk d + 1
  | (_, d) => uptoBulk d + 1
 end
def uptoSmall : (H : Type) → List (DataW H) → Bool := fun _ ds => decide (uptoBulkAll ds ≤ 1048576)
def OpenSpec.upto (s : _root_.Go.ChangeSpec) : _root_.Go.OpenSpec := { _root_.Go.OpenSpec.ofChange s with cond := some uptoSmall }

/-- 'lineagelaw22.GrantLogins', WHERE WHAT IT READS IS OF BULK AT MOST 1048576: true; the input reads as it did. -/
def grantLoginsUptoRow : OpenClaim := { program := "ythoibafhbacfiaadoor", sum := "f5681405a576b6073ce06a78d3aab4adf711bbfe1a2840c189a87f152c7f12b5", func := "lineage/lineagelaw22.GrantLogins", spec := "grantLogins", inPlace := ["internal/bytealg.IndexByteString", "internal/bytealg.IndexString", "internal/reflectlite.TypeOf", "internal/reflectlite.ValueOf", "(internal/reflectlite.Value).Type", "(internal/reflectlite.Value).IsNil", "(internal/reflectlite.Value).Elem", "(internal/reflectlite.Value).Set"], unfollowed := true, recurses := true, named := ["errors.errorType", "internal/bytealg.MaxLen"], apart := false, laid := [("errors.errorType", laid_errors_errorType)], narrowed := true }
def GrantLoginsUptoSaid : Prop := grantLoginsUptoRow.holds Tryd.pinned (OpenSpec.upto grantLoginsSpec)

/-- 'lineagelaw22.GrantChildren', WHERE WHAT IT READS IS OF BULK AT MOST 1048576: true; the input reads as it did. -/
def grantChildrenUptoRow : OpenClaim := { program := "ythoibafhbacfiaadoor", sum := "f5681405a576b6073ce06a78d3aab4adf711bbfe1a2840c189a87f152c7f12b5", func := "lineage/lineagelaw22.GrantChildren", spec := "grantChildren", inPlace := ["internal/bytealg.IndexByteString", "internal/bytealg.IndexString", "internal/reflectlite.TypeOf", "internal/reflectlite.ValueOf", "(internal/reflectlite.Value).Type", "(internal/reflectlite.Value).IsNil", "(internal/reflectlite.Value).Elem", "(internal/reflectlite.Value).Set"], unfollowed := true, recurses := true, named := ["errors.errorType", "internal/bytealg.MaxLen"], apart := false, laid := [("errors.errorType", laid_errors_errorType)], narrowed := true }
def GrantChildrenUptoSaid : Prop := grantChildrenUptoRow.holds Tryd.pinned (OpenSpec.upto grantChildrenSpec)

/-- 'lineagelaw22.GrantRaises', WHERE WHAT IT READS IS OF BULK AT MOST 1048576: true; the input reads as it did. -/
def grantRaisesUptoRow : OpenClaim := { program := "ythoibafhbacfiaadoor", sum := "f5681405a576b6073ce06a78d3aab4adf711bbfe1a2840c189a87f152c7f12b5", func := "lineage/lineagelaw22.GrantRaises", spec := "grantRaises", inPlace := ["internal/bytealg.IndexByteString", "internal/bytealg.IndexString", "internal/reflectlite.TypeOf", "internal/reflectlite.ValueOf", "(internal/reflectlite.Value).Type", "(internal/reflectlite.Value).IsNil", "(internal/reflectlite.Value).Elem", "(internal/reflectlite.Value).Set"], unfollowed := true, recurses := true, named := ["errors.errorType", "internal/bytealg.MaxLen"], apart := false, laid := [("errors.errorType", laid_errors_errorType)], narrowed := true }
def GrantRaisesUptoSaid : Prop := grantRaisesUptoRow.holds Tryd.pinned (OpenSpec.upto grantRaisesSpec)

/-- 'lineagelaw22.GrantKnown', WHERE WHAT IT READS IS OF BULK AT MOST 1048576: true; the input reads as it did. -/
def grantKnownUptoRow : OpenClaim := { program := "ythoibafhbacfiaadoor", sum := "f5681405a576b6073ce06a78d3aab4adf711bbfe1a2840c189a87f152c7f12b5", func := "lineage/lineagelaw22.GrantKnown", spec := "grantKnown", inPlace := ["internal/bytealg.IndexByteString", "internal/bytealg.IndexString", "internal/reflectlite.TypeOf", "internal/reflectlite.ValueOf", "(internal/reflectlite.Value).Type", "(internal/reflectlite.Value).IsNil", "(internal/reflectlite.Value).Elem", "(internal/reflectlite.Value).Set"], unfollowed := true, recurses := true, named := ["errors.errorType", "internal/bytealg.MaxLen"], apart := false, laid := [("errors.errorType", laid_errors_errorType)], narrowed := true }
def GrantKnownUptoSaid : Prop := grantKnownUptoRow.holds Tryd.pinned (OpenSpec.upto grantKnownSpec)

end Rows
end Go.Proofs.YthoibafhbacfiaaDoor
