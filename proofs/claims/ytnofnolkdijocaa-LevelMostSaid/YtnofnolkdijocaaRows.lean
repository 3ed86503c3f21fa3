/-
  No cell of these rows narrows 'for every input' (looked for: loops, veiled, ifaces, maps, wideKeys, modest, calm, conditions, laid).
  DERIVED. THE GIVEN ROWS OF THIS SEAT. 4 by the template 'for every input the law returns true; each argument reads behind the call as it read before'; 0 by the template 'total and deterministic' (their statements: YtnofnolkdijocaaTotals.lean).
  GIVEN WITH THE SEED: the statements are not yours to turn. If you find one false, say at which input.
  Laid BY PROGRAM, IN A SANDBOX (cutbox-rows.mjs): the forced cells as the released guide's own fill.sh prints them over the translation 8de73c8eec0575be… (all of the seat's roots in one cut). By AI agents, Wed Nov 11 2026. No macro, syntax, notation, axiom, sorry.
-/
import Derived.Test.YtnofnolkdijocaaChecked
import GoSem.Claim
import GoSem.ClaimJoined
import GoSem.ClaimMapViews
import Derived.JoinedTies
import Derived.KernelRfl
namespace Go.Proofs.Ytnofnolkdijocaa
/- THE CELL 'sum', in the pinned program and in every row, IS THE sha256 OF THE DUMP (.gsa) THAT YtnofnolkdijocaaProg.lean LOADS. Nothing in Lean hashes anything: it is a label: what it is worth is what the hold of that sum in a sandbox is worth. -/
noncomputable def Try.pinned : Pinned := { name := "ytnofnolkdijocaa", sum := "8de73c8eec0575bef09901e527abe38c2163e4ddfbf5382e0a887f94d77ecc58", checked := Try.checked }
namespace Rows
def none {H : Type} : Left H := { results := [], args := [] }

/-- 'lineagelaw05.LevelBest': WHATEVER THE INPUT: true; the input reads as it did. -/
def levelBestSpec : ChangeSpec := { name := "levelBest", fn := fun _ => fun
  | [d1, d2] => { results := [.lit (.bool true)], args := [d1, d2] }
  | _ => none }
def levelBestRow : OpenClaim := { program := "ytnofnolkdijocaa", sum := "8de73c8eec0575bef09901e527abe38c2163e4ddfbf5382e0a887f94d77ecc58", func := "lineage/lineagelaw05.LevelBest", spec := "levelBest", apart := false }
def LevelBestSaid : Prop := levelBestRow.holds Try.pinned (OpenSpec.ofChange levelBestSpec)

/-- ITS FALSE NEIGHBOUR: 'it returns false'. Refute it at one input. -/
def levelBestWrong : ChangeSpec := { name := "levelBest", fn := fun _ => fun
  | [d1, d2] => { results := [.lit (.bool false)], args := [d1, d2] }
  | _ => none }
def LevelBestWrongFalsely : Prop := levelBestRow.holds Try.pinned (OpenSpec.ofChange levelBestWrong)

/-- 'lineagelaw05.LevelMost': WHATEVER THE INPUT: true; the input reads as it did. -/
def levelMostSpec : ChangeSpec := { name := "levelMost", fn := fun _ => fun
  | [d1, d2, d3] => { results := [.lit (.bool true)], args := [d1, d2, d3] }
  | _ => none }
def levelMostRow : OpenClaim := { program := "ytnofnolkdijocaa", sum := "8de73c8eec0575bef09901e527abe38c2163e4ddfbf5382e0a887f94d77ecc58", func := "lineage/lineagelaw05.LevelMost", spec := "levelMost", apart := false }
def LevelMostSaid : Prop := levelMostRow.holds Try.pinned (OpenSpec.ofChange levelMostSpec)

/-- ITS FALSE NEIGHBOUR: 'it returns false'. Refute it at one input. -/
def levelMostWrong : ChangeSpec := { name := "levelMost", fn := fun _ => fun
  | [d1, d2, d3] => { results := [.lit (.bool false)], args := [d1, d2, d3] }
  | _ => none }
def LevelMostWrongFalsely : Prop := levelMostRow.holds Try.pinned (OpenSpec.ofChange levelMostWrong)

/-- 'lineagelaw05.LevelBack': WHATEVER THE INPUT: true; the input reads as it did. -/
def levelBackSpec : ChangeSpec := { name := "levelBack", fn := fun _ => fun
  | [d1, d2, d3, d4] => { results := [.lit (.bool true)], args := [d1, d2, d3, d4] }
  | _ => none }
def levelBackRow : OpenClaim := { program := "ytnofnolkdijocaa", sum := "8de73c8eec0575bef09901e527abe38c2163e4ddfbf5382e0a887f94d77ecc58", func := "lineage/lineagelaw05.LevelBack", spec := "levelBack", apart := false }
def LevelBackSaid : Prop := levelBackRow.holds Try.pinned (OpenSpec.ofChange levelBackSpec)

/-- ITS FALSE NEIGHBOUR: 'it returns false'. Refute it at one input. -/
def levelBackWrong : ChangeSpec := { name := "levelBack", fn := fun _ => fun
  | [d1, d2, d3, d4] => { results := [.lit (.bool false)], args := [d1, d2, d3, d4] }
  | _ => none }
def LevelBackWrongFalsely : Prop := levelBackRow.holds Try.pinned (OpenSpec.ofChange levelBackWrong)

/-- 'lineagelaw05.LevelKnown': WHATEVER THE INPUT: true; the input reads as it did. -/
def levelKnownSpec : ChangeSpec := { name := "levelKnown", fn := fun _ => fun
  | [] => { results := [.lit (.bool true)], args := [] }
  | _ => none }
def levelKnownRow : OpenClaim := { program := "ytnofnolkdijocaa", sum := "8de73c8eec0575bef09901e527abe38c2163e4ddfbf5382e0a887f94d77ecc58", func := "lineage/lineagelaw05.LevelKnown", spec := "levelKnown", inPlace := ["internal/reflectlite.TypeOf"], unfollowed := true, recurses := true, apart := false }
def LevelKnownSaid : Prop := levelKnownRow.holds Try.pinned (OpenSpec.ofChange levelKnownSpec)

/-- ITS FALSE NEIGHBOUR: 'it returns false'. Refute it at one input. -/
def levelKnownWrong : ChangeSpec := { name := "levelKnown", fn := fun _ => fun
  | [] => { results := [.lit (.bool false)], args := [] }
  | _ => none }
def LevelKnownWrongFalsely : Prop := levelKnownRow.holds Try.pinned (OpenSpec.ofChange levelKnownWrong)

/- THE SECOND FORM. 'bulk': how many values and letters a reading holds, each counted each time it is reached (what is shared counts as often as it is met; a slice's spare places count too). A statement '..UptoSaid' is the law's where the arguments, and the package variables that the reading takes, are together of bulk at most 1048576: NARROWER than '..Said'. Prove '..Said' where nothing that the law and all that it calls make is longer than what came in: it says more and counts as full. Else prove '..UptoSaid'. A law counts once. -/
mutual
def uptoBulk {H : Type} : DataW H → Nat
  | .lit (.string bytes) => bytes.length + 1
  | .lit _ => 1
  | .nil => 1
  | .ptr d => uptoBulk d + 1
  | .slice elems spare => uptoBulkAll elems + uptoBulkAll spare + 1
  | .agg parts => uptoBulkAll parts + 1
  | .iface _ d => uptoBulk d + 1
  | .map entries => uptoBulkEntries entries + 1
  | .held _ => 1
def uptoBulkAll {H : Type} : List (DataW H) → Nat
  | [] => 0
  | d :: r => uptoBulk d + uptoBulkAll r
def uptoBulkEntries {H : Type} : List (Lit × DataW H) → Nat
  | [] => 0
  | x :: r => uptoBulkEntry x + uptoBulkEntries r
def uptoBulkEntry {H : Type} : Lit × DataW H → Nat
  | (.string bytes, d) => bytes.length + uptoBulk d + 1
  | (_, d) => uptoBulk d + 1
 end
def uptoSmall : (H : Type) → List (DataW H) → Bool := fun _ ds => decide (uptoBulkAll ds ≤ 1048576)
def OpenSpec.upto (s : _root_.Go.ChangeSpec) : _root_.Go.OpenSpec := { _root_.Go.OpenSpec.ofChange s with cond := some uptoSmall }

/-- 'lineagelaw05.LevelBest', WHERE WHAT IT READS IS OF BULK AT MOST 1048576: true; the input reads as it did. -/
def levelBestUptoRow : OpenClaim := { program := "ytnofnolkdijocaa", sum := "8de73c8eec0575bef09901e527abe38c2163e4ddfbf5382e0a887f94d77ecc58", func := "lineage/lineagelaw05.LevelBest", spec := "levelBest", apart := false, narrowed := true }
def LevelBestUptoSaid : Prop := levelBestUptoRow.holds Try.pinned (OpenSpec.upto levelBestSpec)

/-- 'lineagelaw05.LevelMost', WHERE WHAT IT READS IS OF BULK AT MOST 1048576: true; the input reads as it did. -/
def levelMostUptoRow : OpenClaim := { program := "ytnofnolkdijocaa", sum := "8de73c8eec0575bef09901e527abe38c2163e4ddfbf5382e0a887f94d77ecc58", func := "lineage/lineagelaw05.LevelMost", spec := "levelMost", apart := false, narrowed := true }
def LevelMostUptoSaid : Prop := levelMostUptoRow.holds Try.pinned (OpenSpec.upto levelMostSpec)

/-- 'lineagelaw05.LevelBack', WHERE WHAT IT READS IS OF BULK AT MOST 1048576: true; the input reads as it did. -/
def levelBackUptoRow : OpenClaim := { program := "ytnofnolkdijocaa", sum := "8de73c8eec0575bef09901e527abe38c2163e4ddfbf5382e0a887f94d77ecc58", func := "lineage/lineagelaw05.LevelBack", spec := "levelBack", apart := false, narrowed := true }
def LevelBackUptoSaid : Prop := levelBackUptoRow.holds Try.pinned (OpenSpec.upto levelBackSpec)

/-- 'lineagelaw05.LevelKnown', WHERE WHAT IT READS IS OF BULK AT MOST 1048576: true; the input reads as it did. -/
def levelKnownUptoRow : OpenClaim := { program := "ytnofnolkdijocaa", sum := "8de73c8eec0575bef09901e527abe38c2163e4ddfbf5382e0a887f94d77ecc58", func := "lineage/lineagelaw05.LevelKnown", spec := "levelKnown", inPlace := ["internal/reflectlite.TypeOf"], unfollowed := true, recurses := true, apart := false, narrowed := true }
def LevelKnownUptoSaid : Prop := levelKnownUptoRow.holds Try.pinned (OpenSpec.upto levelKnownSpec)

end Rows
end Go.Proofs.Ytnofnolkdijocaa
