/-
  DERIVED. GIVEN WITH THE SEED: THE CARDS: each row of YtnofnolkdijocaaDoorRows.lean that lists a variable, with what it lists TIED to the program's text (the seventh form; the later family's looks); each row that meets fmt, with fmt's text TOLD by the authors' own Lean function (tested against real Go, not proved from fmt's source: count such statements apart). THE CARD IS WHAT COUNTS. Prove the row's statement (the work); the ties are given (YtnofnolkdijocaaDoorTie.lean); close each card by the builder's one call (the guide's Derived/Test/ToyasCard.lean, 'card_holds'). Laid BY PROGRAM, IN A SANDBOX (cutbox-door.mjs). By AI agents, Wed Nov 11 2026. No macro, syntax, notation, axiom, sorry.
-/
import Derived.Test.YtnofnolkdijocaaDoorRows
import GoSem.ClaimSeven
namespace Go.Proofs.YtnofnolkdijocaaDoor
namespace Rows

/-- THE TIED CARD OF 'lineagelaw05.LevelNames'. -/
def levelNamesCard : Claim7 := { stood := { row := levelNamesRow, standIns := [], harness := (true, "019080d94dad5968b265ae1e5080d1ae28ef5bf8905ed9ffc9384817a89104cc"), looks := true }, kinds := [], alts := [], laidByText := true, laidKinds := [.handle], laidTests := true, laidLooks := .later }
def LevelNamesCardSaid : Prop := Claim7.holds Tryd.pinned (.plain (OpenSpec.ofChange levelNamesSpec)) levelNamesCard

/-- THE TIED CARD OF 'lineagelaw05.LevelRaises'. -/
def levelRaisesCard : Claim7 := { stood := { row := levelRaisesRow, standIns := [], harness := (true, "019080d94dad5968b265ae1e5080d1ae28ef5bf8905ed9ffc9384817a89104cc"), looks := true }, kinds := [], alts := [], laidByText := true, laidKinds := [.handle], laidTests := true, laidLooks := .later }
def LevelRaisesCardSaid : Prop := Claim7.holds Tryd.pinned (.plain (OpenSpec.ofChange levelRaisesSpec)) levelRaisesCard

/-- THE SECOND FORM's CARD OF 'lineagelaw05.LevelNames'. -/
def levelNamesUptoCard : Claim7 := { stood := { row := levelNamesUptoRow, standIns := [], harness := (true, "019080d94dad5968b265ae1e5080d1ae28ef5bf8905ed9ffc9384817a89104cc"), looks := true }, kinds := [], alts := [], laidByText := true, laidKinds := [.handle], laidTests := true, laidLooks := .later }
def LevelNamesUptoCardSaid : Prop := Claim7.holds Tryd.pinned (.plain (OpenSpec.upto levelNamesSpec)) levelNamesUptoCard

/-- THE SECOND FORM's CARD OF 'lineagelaw05.LevelRaises'. -/
def levelRaisesUptoCard : Claim7 := { stood := { row := levelRaisesUptoRow, standIns := [], harness := (true, "019080d94dad5968b265ae1e5080d1ae28ef5bf8905ed9ffc9384817a89104cc"), looks := true }, kinds := [], alts := [], laidByText := true, laidKinds := [.handle], laidTests := true, laidLooks := .later }
def LevelRaisesUptoCardSaid : Prop := Claim7.holds Tryd.pinned (.plain (OpenSpec.upto levelRaisesSpec)) levelRaisesUptoCard
end Rows
end Go.Proofs.YtnofnolkdijocaaDoor
