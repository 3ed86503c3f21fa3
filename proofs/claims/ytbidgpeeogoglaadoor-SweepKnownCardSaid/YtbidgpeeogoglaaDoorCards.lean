/-
  DERIVED. GIVEN WITH THE SEED: THE CARDS: each row of YtbidgpeeogoglaaDoorRows.lean that lists a variable, with what it lists TIED to the program's text (the seventh form; the later family's looks); each row that meets fmt, with fmt's text TOLD by the authors' own Lean function (tested against real Go, not proved from fmt's source: count such statements apart). THE CARD IS WHAT COUNTS. Prove the row's statement (the work); the ties are given (YtbidgpeeogoglaaDoorTie.lean); close each card by the builder's one call (the guide's Derived/Test/ToyasCard.lean, 'card_holds'). Laid BY PROGRAM, IN A SANDBOX (cutbox-door.mjs). By AI agents, Wed Nov 11 2026. No macro, syntax, notation, axiom, sorry.
-/
import Derived.Test.YtbidgpeeogoglaaDoorRows
import GoSem.ClaimSeven
namespace Go.Proofs.YtbidgpeeogoglaaDoor
namespace Rows

/-- THE TIED CARD OF 'lineagelaw17.TreeLasts'. -/
def treeLastsCard : Claim7 := { stood := { row := treeLastsRow, standIns := [], harness := (true, "efd459841b2a841a5d39b7b88caa3ec84fa91bdb6a1a3afa361f699e5bf54502"), looks := true }, kinds := [], alts := [], laidByText := true, laidKinds := [.handle], laidTests := true, laidLooks := .later }
def TreeLastsCardSaid : Prop := Claim7.holds Tryd.pinned (.plain (OpenSpec.ofChange treeLastsSpec)) treeLastsCard

/-- THE TIED CARD OF 'lineagelaw17.TreeKnown'. -/
def treeKnownCard : Claim7 := { stood := { row := treeKnownRow, standIns := [], harness := (true, "efd459841b2a841a5d39b7b88caa3ec84fa91bdb6a1a3afa361f699e5bf54502"), looks := true }, kinds := [], alts := [], laidByText := true, laidKinds := [.handle], laidTests := true, laidLooks := .later }
def TreeKnownCardSaid : Prop := Claim7.holds Tryd.pinned (.plain (OpenSpec.ofChange treeKnownSpec)) treeKnownCard

/-- THE TIED CARD OF 'lineagelaw17.TreePlays'. -/
def treePlaysCard : Claim7 := { stood := { row := treePlaysRow, standIns := [], harness := (true, "efd459841b2a841a5d39b7b88caa3ec84fa91bdb6a1a3afa361f699e5bf54502"), looks := true }, kinds := [], alts := [], laidByText := true, laidKinds := [.handle], laidTests := true, laidLooks := .later }
def TreePlaysCardSaid : Prop := Claim7.holds Tryd.pinned (.plain (OpenSpec.ofChange treePlaysSpec)) treePlaysCard

/-- THE TIED CARD OF 'lineagelaw19.SweepPlays'. -/
def sweepPlaysCard : Claim7 := { stood := { row := sweepPlaysRow, standIns := [], harness := (true, "efd459841b2a841a5d39b7b88caa3ec84fa91bdb6a1a3afa361f699e5bf54502"), looks := true }, kinds := [], alts := [], laidByText := true, laidKinds := [.handle], laidTests := true, laidLooks := .later }
def SweepPlaysCardSaid : Prop := Claim7.holds Tryd.pinned (.plain (OpenSpec.ofChange sweepPlaysSpec)) sweepPlaysCard

/-- THE TIED CARD OF 'lineagelaw19.SweepKnown'. -/
def sweepKnownCard : Claim7 := { stood := { row := sweepKnownRow, standIns := [], harness := (true, "efd459841b2a841a5d39b7b88caa3ec84fa91bdb6a1a3afa361f699e5bf54502"), looks := true }, kinds := [], alts := [], laidByText := true, laidKinds := [.handle], laidTests := true, laidLooks := .later }
def SweepKnownCardSaid : Prop := Claim7.holds Tryd.pinned (.plain (OpenSpec.ofChange sweepKnownSpec)) sweepKnownCard

/-- THE SECOND FORM's CARD OF 'lineagelaw17.TreeLasts'. -/
def treeLastsUptoCard : Claim7 := { stood := { row := treeLastsUptoRow, standIns := [], harness := (true, "efd459841b2a841a5d39b7b88caa3ec84fa91bdb6a1a3afa361f699e5bf54502"), looks := true }, kinds := [], alts := [], laidByText := true, laidKinds := [.handle], laidTests := true, laidLooks := .later }
def TreeLastsUptoCardSaid : Prop := Claim7.holds Tryd.pinned (.plain (OpenSpec.upto treeLastsSpec)) treeLastsUptoCard

/-- THE SECOND FORM's CARD OF 'lineagelaw17.TreeKnown'. -/
def treeKnownUptoCard : Claim7 := { stood := { row := treeKnownUptoRow, standIns := [], harness := (true, "efd459841b2a841a5d39b7b88caa3ec84fa91bdb6a1a3afa361f699e5bf54502"), looks := true }, kinds := [], alts := [], laidByText := true, laidKinds := [.handle], laidTests := true, laidLooks := .later }
def TreeKnownUptoCardSaid : Prop := Claim7.holds Tryd.pinned (.plain (OpenSpec.upto treeKnownSpec)) treeKnownUptoCard

/-- THE SECOND FORM's CARD OF 'lineagelaw17.TreePlays'. -/
def treePlaysUptoCard : Claim7 := { stood := { row := treePlaysUptoRow, standIns := [], harness := (true, "efd459841b2a841a5d39b7b88caa3ec84fa91bdb6a1a3afa361f699e5bf54502"), looks := true }, kinds := [], alts := [], laidByText := true, laidKinds := [.handle], laidTests := true, laidLooks := .later }
def TreePlaysUptoCardSaid : Prop := Claim7.holds Tryd.pinned (.plain (OpenSpec.upto treePlaysSpec)) treePlaysUptoCard

/-- THE SECOND FORM's CARD OF 'lineagelaw19.SweepPlays'. -/
def sweepPlaysUptoCard : Claim7 := { stood := { row := sweepPlaysUptoRow, standIns := [], harness := (true, "efd459841b2a841a5d39b7b88caa3ec84fa91bdb6a1a3afa361f699e5bf54502"), looks := true }, kinds := [], alts := [], laidByText := true, laidKinds := [.handle], laidTests := true, laidLooks := .later }
def SweepPlaysUptoCardSaid : Prop := Claim7.holds Tryd.pinned (.plain (OpenSpec.upto sweepPlaysSpec)) sweepPlaysUptoCard

/-- THE SECOND FORM's CARD OF 'lineagelaw19.SweepKnown'. -/
def sweepKnownUptoCard : Claim7 := { stood := { row := sweepKnownUptoRow, standIns := [], harness := (true, "efd459841b2a841a5d39b7b88caa3ec84fa91bdb6a1a3afa361f699e5bf54502"), looks := true }, kinds := [], alts := [], laidByText := true, laidKinds := [.handle], laidTests := true, laidLooks := .later }
def SweepKnownUptoCardSaid : Prop := Claim7.holds Tryd.pinned (.plain (OpenSpec.upto sweepKnownSpec)) sweepKnownUptoCard
end Rows
end Go.Proofs.YtbidgpeeogoglaaDoor
