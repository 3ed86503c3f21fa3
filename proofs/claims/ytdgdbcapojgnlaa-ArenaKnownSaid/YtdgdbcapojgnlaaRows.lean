/-
  No cell of these rows narrows 'for every input' (looked for: loops, veiled, ifaces, maps, wideKeys, modest, calm, conditions, laid).
  DERIVED. THE GIVEN ROWS OF THIS SEAT. 6 by the template 'for every input the law returns true; each argument reads behind the call as it read before'; 0 by the template 'total and deterministic' (their statements: YtdgdbcapojgnlaaTotals.lean).
  GIVEN WITH THE SEED: the statements are not yours to turn. If you find one false, say at which input.
  Laid BY PROGRAM, IN A SANDBOX (cutbox-rows.mjs): the forced cells as the released guide's own fill.sh prints them over the translation 861a329a137911a2… (all of the seat's roots in one cut). By AI agents, Wed Nov 11 2026. No macro, syntax, notation, axiom, sorry.
-/
import Derived.Test.YtdgdbcapojgnlaaChecked
import GoSem.Claim
import GoSem.ClaimJoined
import GoSem.ClaimMapViews
import Derived.JoinedTies
import Derived.KernelRfl
namespace Go.Proofs.Ytdgdbcapojgnlaa
/- THE CELL 'sum', in the pinned program and in every row, IS THE sha256 OF THE DUMP (.gsa) THAT YtdgdbcapojgnlaaProg.lean LOADS. Nothing in Lean hashes anything: it is a label: what it is worth is what the hold of that sum in a sandbox is worth. -/
noncomputable def Try.pinned : Pinned := { name := "ytdgdbcapojgnlaa", sum := "861a329a137911a2dd56d210e975365db0b7e08db5fb27992c8835ea1f37c6a4", checked := Try.checked }
namespace Rows
def none {H : Type} : Left H := { results := [], args := [] }

/-- 'lineagelaw15.ArenaApart': WHATEVER THE INPUT: true; the input reads as it did. -/
def arenaApartSpec : ChangeSpec := { name := "arenaApart", fn := fun _ => fun
  | [d] => { results := [.lit (.bool true)], args := [d] }
  | _ => none }
def arenaApartRow : OpenClaim := { program := "ytdgdbcapojgnlaa", sum := "861a329a137911a2dd56d210e975365db0b7e08db5fb27992c8835ea1f37c6a4", func := "lineage/lineagelaw15.ArenaApart", spec := "arenaApart", unfollowed := true, recurses := true, apart := false }
def ArenaApartSaid : Prop := arenaApartRow.holds Try.pinned (OpenSpec.ofChange arenaApartSpec)

/-- ITS FALSE NEIGHBOUR: 'it returns false'. Refute it at one input. -/
def arenaApartWrong : ChangeSpec := { name := "arenaApart", fn := fun _ => fun
  | [d] => { results := [.lit (.bool false)], args := [d] }
  | _ => none }
def ArenaApartWrongFalsely : Prop := arenaApartRow.holds Try.pinned (OpenSpec.ofChange arenaApartWrong)

/-- 'lineagelaw15.ArenaLast': WHATEVER THE INPUT: true; the input reads as it did. -/
def arenaLastSpec : ChangeSpec := { name := "arenaLast", fn := fun _ => fun
  | [d1, d2] => { results := [.lit (.bool true)], args := [d1, d2] }
  | _ => none }
def arenaLastRow : OpenClaim := { program := "ytdgdbcapojgnlaa", sum := "861a329a137911a2dd56d210e975365db0b7e08db5fb27992c8835ea1f37c6a4", func := "lineage/lineagelaw15.ArenaLast", spec := "arenaLast", inPlace := ["internal/reflectlite.TypeOf"], unfollowed := true, recurses := true, apart := false }
def ArenaLastSaid : Prop := arenaLastRow.holds Try.pinned (OpenSpec.ofChange arenaLastSpec)

/-- ITS FALSE NEIGHBOUR: 'it returns false'. Refute it at one input. -/
def arenaLastWrong : ChangeSpec := { name := "arenaLast", fn := fun _ => fun
  | [d1, d2] => { results := [.lit (.bool false)], args := [d1, d2] }
  | _ => none }
def ArenaLastWrongFalsely : Prop := arenaLastRow.holds Try.pinned (OpenSpec.ofChange arenaLastWrong)

/-- 'lineagelaw15.ArenaKnown': WHATEVER THE INPUT: true; the input reads as it did. -/
def arenaKnownSpec : ChangeSpec := { name := "arenaKnown", fn := fun _ => fun
  | [] => { results := [.lit (.bool true)], args := [] }
  | _ => none }
def arenaKnownRow : OpenClaim := { program := "ytdgdbcapojgnlaa", sum := "861a329a137911a2dd56d210e975365db0b7e08db5fb27992c8835ea1f37c6a4", func := "lineage/lineagelaw15.ArenaKnown", spec := "arenaKnown", inPlace := ["internal/reflectlite.TypeOf"], unfollowed := true, recurses := true, apart := false }
def ArenaKnownSaid : Prop := arenaKnownRow.holds Try.pinned (OpenSpec.ofChange arenaKnownSpec)

/-- ITS FALSE NEIGHBOUR: 'it returns false'. Refute it at one input. -/
def arenaKnownWrong : ChangeSpec := { name := "arenaKnown", fn := fun _ => fun
  | [] => { results := [.lit (.bool false)], args := [] }
  | _ => none }
def ArenaKnownWrongFalsely : Prop := arenaKnownRow.holds Try.pinned (OpenSpec.ofChange arenaKnownWrong)

/-- 'lineagelaw16.RingRow': WHATEVER THE INPUT: true; the input reads as it did. -/
def ringRowSpec : ChangeSpec := { name := "ringRow", fn := fun _ => fun
  | [d] => { results := [.lit (.bool true)], args := [d] }
  | _ => none }
def ringRowRow : OpenClaim := { program := "ytdgdbcapojgnlaa", sum := "861a329a137911a2dd56d210e975365db0b7e08db5fb27992c8835ea1f37c6a4", func := "lineage/lineagelaw16.RingRow", spec := "ringRow", unfollowed := true, recurses := true, apart := false }
def RingRowSaid : Prop := ringRowRow.holds Try.pinned (OpenSpec.ofChange ringRowSpec)

/-- ITS FALSE NEIGHBOUR: 'it returns false'. Refute it at one input. -/
def ringRowWrong : ChangeSpec := { name := "ringRow", fn := fun _ => fun
  | [d] => { results := [.lit (.bool false)], args := [d] }
  | _ => none }
def RingRowWrongFalsely : Prop := ringRowRow.holds Try.pinned (OpenSpec.ofChange ringRowWrong)

/-- 'lineagelaw16.RingDropped': WHATEVER THE INPUT: true; the input reads as it did. -/
def ringDroppedSpec : ChangeSpec := { name := "ringDropped", fn := fun _ => fun
  | [d1, d2] => { results := [.lit (.bool true)], args := [d1, d2] }
  | _ => none }
def ringDroppedRow : OpenClaim := { program := "ytdgdbcapojgnlaa", sum := "861a329a137911a2dd56d210e975365db0b7e08db5fb27992c8835ea1f37c6a4", func := "lineage/lineagelaw16.RingDropped", spec := "ringDropped", unfollowed := true, recurses := true, apart := false }
def RingDroppedSaid : Prop := ringDroppedRow.holds Try.pinned (OpenSpec.ofChange ringDroppedSpec)

/-- ITS FALSE NEIGHBOUR: 'it returns false'. Refute it at one input. -/
def ringDroppedWrong : ChangeSpec := { name := "ringDropped", fn := fun _ => fun
  | [d1, d2] => { results := [.lit (.bool false)], args := [d1, d2] }
  | _ => none }
def RingDroppedWrongFalsely : Prop := ringDroppedRow.holds Try.pinned (OpenSpec.ofChange ringDroppedWrong)

/-- 'lineagelaw16.RingSpliced': WHATEVER THE INPUT: true; the input reads as it did. -/
def ringSplicedSpec : ChangeSpec := { name := "ringSpliced", fn := fun _ => fun
  | [d1, d2, d3] => { results := [.lit (.bool true)], args := [d1, d2, d3] }
  | _ => none }
def ringSplicedRow : OpenClaim := { program := "ytdgdbcapojgnlaa", sum := "861a329a137911a2dd56d210e975365db0b7e08db5fb27992c8835ea1f37c6a4", func := "lineage/lineagelaw16.RingSpliced", spec := "ringSpliced", unfollowed := true, recurses := true, apart := false }
def RingSplicedSaid : Prop := ringSplicedRow.holds Try.pinned (OpenSpec.ofChange ringSplicedSpec)

/-- ITS FALSE NEIGHBOUR: 'it returns false'. Refute it at one input. -/
def ringSplicedWrong : ChangeSpec := { name := "ringSpliced", fn := fun _ => fun
  | [d1, d2, d3] => { results := [.lit (.bool false)], args := [d1, d2, d3] }
  | _ => none }
def RingSplicedWrongFalsely : Prop := ringSplicedRow.holds Try.pinned (OpenSpec.ofChange ringSplicedWrong)

/- THE SECOND FORM. 'bulk': how many values and letters a reading holds, each counted each time it is reached (what is shared counts as often as it is met; a slice's spare places count too). A statement '..UptoSaid' is the law's where the arguments, and the package variables that the reading takes, are together of bulk at most 1048576: NARROWER than '..Said'. Prove '..Said' where nothing that the law and all that it calls make is longer than what came in: it says more and counts as full. Else prove '..UptoSaid'. A law counts once. -/
mutual
def uptoBulk {H : Type} : DataW H → Nat
  | .lit (.string bytes) => bytes.length + 1
  | .lit _ => 1
  | .nil => 1
  | .ptr d => uptoBulk d + 1
  | .slice elems spare => uptoBulkAll elems + uptoBulkAll spare + 1
  | .agg parts => uptoBulkAll parts + 1
  | .iface _ d => uptoBulk d + 1
  | .map entries => uptoBulkEntries entries + 1
  | .held _ => 1
def uptoBulkAll {H : Type} : List (DataW H) → Nat
  | [] => 0
  | d :: r => uptoBulk d + uptoBulkAll r
def uptoBulkEntries {H : Type} : List (Lit × DataW H) → Nat
  | [] => 0
  | x :: r => uptoBulkEntry x + uptoBulkEntries r
def uptoBulkEntry {H : Type} : Lit × DataW H → Nat
  | (.string bytes, d) => bytes.length + uptoBulk d + 1
  | (_, d) => uptoBulk d + 1
 end
def uptoSmall : (H : Type) → List (DataW H) → Bool := fun _ ds => decide (uptoBulkAll ds ≤ 1048576)
def OpenSpec.upto (s : _root_.Go.ChangeSpec) : _root_.Go.OpenSpec := { _root_.Go.OpenSpec.ofChange s with cond := some uptoSmall }

/-- 'lineagelaw15.ArenaApart', WHERE WHAT IT READS IS OF BULK AT MOST 1048576: true; the input reads as it did. -/
def arenaApartUptoRow : OpenClaim := { program := "ytdgdbcapojgnlaa", sum := "861a329a137911a2dd56d210e975365db0b7e08db5fb27992c8835ea1f37c6a4", func := "lineage/lineagelaw15.ArenaApart", spec := "arenaApart", unfollowed := true, recurses := true, apart := false, narrowed := true }
def ArenaApartUptoSaid : Prop := arenaApartUptoRow.holds Try.pinned (OpenSpec.upto arenaApartSpec)

/-- 'lineagelaw15.ArenaLast', WHERE WHAT IT READS IS OF BULK AT MOST 1048576: true; the input reads as it did. -/
def arenaLastUptoRow : OpenClaim := { program := "ytdgdbcapojgnlaa", sum := "861a329a137911a2dd56d210e975365db0b7e08db5fb27992c8835ea1f37c6a4", func := "lineage/lineagelaw15.ArenaLast", spec := "arenaLast", inPlace := ["internal/reflectlite.TypeOf"], unfollowed := true, recurses := true, apart := false, narrowed := true }
def ArenaLastUptoSaid : Prop := arenaLastUptoRow.holds Try.pinned (OpenSpec.upto arenaLastSpec)

/-- 'lineagelaw15.ArenaKnown', WHERE WHAT IT READS IS OF BULK AT MOST 1048576: true; the input reads as it did. -/
def arenaKnownUptoRow : OpenClaim := { program := "ytdgdbcapojgnlaa", sum := "861a329a137911a2dd56d210e975365db0b7e08db5fb27992c8835ea1f37c6a4", func := "lineage/lineagelaw15.ArenaKnown", spec := "arenaKnown", inPlace := ["internal/reflectlite.TypeOf"], unfollowed := true, recurses := true, apart := false, narrowed := true }
def ArenaKnownUptoSaid : Prop := arenaKnownUptoRow.holds Try.pinned (OpenSpec.upto arenaKnownSpec)

/-- 'lineagelaw16.RingRow', WHERE WHAT IT READS IS OF BULK AT MOST 1048576: true; the input reads as it did. -/
def ringRowUptoRow : OpenClaim := { program := "ytdgdbcapojgnlaa", sum := "861a329a137911a2dd56d210e975365db0b7e08db5fb27992c8835ea1f37c6a4", func := "lineage/lineagelaw16.RingRow", spec := "ringRow", unfollowed := true, recurses := true, apart := false, narrowed := true }
def RingRowUptoSaid : Prop := ringRowUptoRow.holds Try.pinned (OpenSpec.upto ringRowSpec)

/-- 'lineagelaw16.RingDropped', WHERE WHAT IT READS IS OF BULK AT MOST 1048576: true; the input reads as it did. -/
def ringDroppedUptoRow : OpenClaim := { program := "ytdgdbcapojgnlaa", sum := "861a329a137911a2dd56d210e975365db0b7e08db5fb27992c8835ea1f37c6a4", func := "lineage/lineagelaw16.RingDropped", spec := "ringDropped", unfollowed := true, recurses := true, apart := false, narrowed := true }
def RingDroppedUptoSaid : Prop := ringDroppedUptoRow.holds Try.pinned (OpenSpec.upto ringDroppedSpec)

/-- 'lineagelaw16.RingSpliced', WHERE WHAT IT READS IS OF BULK AT MOST 1048576: true; the input reads as it did. -/
def ringSplicedUptoRow : OpenClaim := { program := "ytdgdbcapojgnlaa", sum := "861a329a137911a2dd56d210e975365db0b7e08db5fb27992c8835ea1f37c6a4", func := "lineage/lineagelaw16.RingSpliced", spec := "ringSpliced", unfollowed := true, recurses := true, apart := false, narrowed := true }
def RingSplicedUptoSaid : Prop := ringSplicedUptoRow.holds Try.pinned (OpenSpec.upto ringSplicedSpec)

end Rows
end Go.Proofs.Ytdgdbcapojgnlaa
