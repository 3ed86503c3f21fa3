/-
  DERIVED. GIVEN WITH THE SEED: THE CARDS: each row of YtclcmdpampimkaaDoorRows.lean that lists a variable, with what it lists TIED to the program's text (the seventh form; the later family's looks); each row that meets fmt, with fmt's text TOLD by the authors' own Lean function (tested against real Go, not proved from fmt's source: count such statements apart). THE CARD IS WHAT COUNTS. Prove the row's statement (the work); the ties are given (YtclcmdpampimkaaDoorTie.lean); close each card by the builder's one call (the guide's Derived/Test/ToyasCard.lean, 'card_holds'). Laid BY PROGRAM, IN A SANDBOX (cutbox-door.mjs). By AI agents, Wed Nov 11 2026. No macro, syntax, notation, axiom, sorry.
-/
import Derived.Test.YtclcmdpampimkaaDoorRows
import GoSem.ClaimSeven
namespace Go.Proofs.YtclcmdpampimkaaDoor
namespace Rows

/-- THE TIED CARD OF 'lineagelaw07.TagSums'. -/
def tagSumsCard : Claim7 := { stood := { row := tagSumsRow, standIns := [], harness := (true, "b8740dbb85932318e4bd4e572cfc97a97227cb68077819265dfa0d6a7ad9b56f"), looks := true }, kinds := [], alts := [], laidByText := true, laidKinds := [.handle], laidTests := true, laidLooks := .later }
def TagSumsCardSaid : Prop := Claim7.holds Tryd.pinned (.plain (OpenSpec.ofChange tagSumsSpec)) tagSumsCard

/-- THE TIED CARD OF 'lineagelaw07.TagKnown'. -/
def tagKnownCard : Claim7 := { stood := { row := tagKnownRow, standIns := [], harness := (true, "b8740dbb85932318e4bd4e572cfc97a97227cb68077819265dfa0d6a7ad9b56f"), looks := true }, kinds := [], alts := [], laidByText := true, laidKinds := [.handle], laidTests := true, laidLooks := .later }
def TagKnownCardSaid : Prop := Claim7.holds Tryd.pinned (.plain (OpenSpec.ofChange tagKnownSpec)) tagKnownCard

/-- THE TIED CARD OF 'lineagelaw07.TagOf'. -/
def tagOfCard : Claim7 := { stood := { row := tagOfRow, standIns := [], harness := (true, "b8740dbb85932318e4bd4e572cfc97a97227cb68077819265dfa0d6a7ad9b56f"), looks := true }, kinds := [], alts := [], laidByText := true, laidKinds := [.handle], laidTests := true, laidLooks := .later }
def TagOfCardSaid : Prop := Claim7.holds Tryd.pinned (.plain (OpenSpec.ofChange tagOfSpec)) tagOfCard

/-- THE SECOND FORM's CARD OF 'lineagelaw07.TagSums'. -/
def tagSumsUptoCard : Claim7 := { stood := { row := tagSumsUptoRow, standIns := [], harness := (true, "b8740dbb85932318e4bd4e572cfc97a97227cb68077819265dfa0d6a7ad9b56f"), looks := true }, kinds := [], alts := [], laidByText := true, laidKinds := [.handle], laidTests := true, laidLooks := .later }
def TagSumsUptoCardSaid : Prop := Claim7.holds Tryd.pinned (.plain (OpenSpec.upto tagSumsSpec)) tagSumsUptoCard

/-- THE SECOND FORM's CARD OF 'lineagelaw07.TagKnown'. -/
def tagKnownUptoCard : Claim7 := { stood := { row := tagKnownUptoRow, standIns := [], harness := (true, "b8740dbb85932318e4bd4e572cfc97a97227cb68077819265dfa0d6a7ad9b56f"), looks := true }, kinds := [], alts := [], laidByText := true, laidKinds := [.handle], laidTests := true, laidLooks := .later }
def TagKnownUptoCardSaid : Prop := Claim7.holds Tryd.pinned (.plain (OpenSpec.upto tagKnownSpec)) tagKnownUptoCard

/-- THE SECOND FORM's CARD OF 'lineagelaw07.TagOf'. -/
def tagOfUptoCard : Claim7 := { stood := { row := tagOfUptoRow, standIns := [], harness := (true, "b8740dbb85932318e4bd4e572cfc97a97227cb68077819265dfa0d6a7ad9b56f"), looks := true }, kinds := [], alts := [], laidByText := true, laidKinds := [.handle], laidTests := true, laidLooks := .later }
def TagOfUptoCardSaid : Prop := Claim7.holds Tryd.pinned (.plain (OpenSpec.upto tagOfSpec)) tagOfUptoCard
end Rows
end Go.Proofs.YtclcmdpampimkaaDoor
