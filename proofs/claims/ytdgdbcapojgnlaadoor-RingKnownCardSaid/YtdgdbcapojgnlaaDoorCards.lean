/-
  DERIVED. GIVEN WITH THE SEED: THE CARDS: each row of YtdgdbcapojgnlaaDoorRows.lean that lists a variable, with what it lists TIED to the program's text (the seventh form; the later family's looks); each row that meets fmt, with fmt's text TOLD by the authors' own Lean function (tested against real Go, not proved from fmt's source: count such statements apart). THE CARD IS WHAT COUNTS. Prove the row's statement (the work); the ties are given (YtdgdbcapojgnlaaDoorTie.lean); close each card by the builder's one call (the guide's Derived/Test/ToyasCard.lean, 'card_holds'). Laid BY PROGRAM, IN A SANDBOX (cutbox-door.mjs). By AI agents, Wed Nov 11 2026. No macro, syntax, notation, axiom, sorry.
-/
import Derived.Test.YtdgdbcapojgnlaaDoorRows
import GoSem.ClaimSeven
namespace Go.Proofs.YtdgdbcapojgnlaaDoor
namespace Rows

/-- THE TIED CARD OF 'lineagelaw15.ArenaPlays'. -/
def arenaPlaysCard : Claim7 := { stood := { row := arenaPlaysRow, standIns := [], harness := (true, "35ccee7fbdea576b54174d82444d64694186428e7ca16fe5054e615df6acd91b"), looks := true }, kinds := [], alts := [], laidByText := true, laidKinds := [.handle], laidTests := true, laidLooks := .later }
def ArenaPlaysCardSaid : Prop := Claim7.holds Tryd.pinned (.plain (OpenSpec.ofChange arenaPlaysSpec)) arenaPlaysCard

/-- THE TIED CARD OF 'lineagelaw15.ArenaLasts'. -/
def arenaLastsCard : Claim7 := { stood := { row := arenaLastsRow, standIns := [], harness := (true, "35ccee7fbdea576b54174d82444d64694186428e7ca16fe5054e615df6acd91b"), looks := true }, kinds := [], alts := [], laidByText := true, laidKinds := [.handle], laidTests := true, laidLooks := .later }
def ArenaLastsCardSaid : Prop := Claim7.holds Tryd.pinned (.plain (OpenSpec.ofChange arenaLastsSpec)) arenaLastsCard

/-- THE TIED CARD OF 'lineagelaw16.RingPlays'. -/
def ringPlaysCard : Claim7 := { stood := { row := ringPlaysRow, standIns := [], harness := (true, "35ccee7fbdea576b54174d82444d64694186428e7ca16fe5054e615df6acd91b"), looks := true }, kinds := [], alts := [], laidByText := true, laidKinds := [.handle], laidTests := true, laidLooks := .later }
def RingPlaysCardSaid : Prop := Claim7.holds Tryd.pinned (.plain (OpenSpec.ofChange ringPlaysSpec)) ringPlaysCard

/-- THE TIED CARD OF 'lineagelaw16.RingKnown'. -/
def ringKnownCard : Claim7 := { stood := { row := ringKnownRow, standIns := [], harness := (true, "35ccee7fbdea576b54174d82444d64694186428e7ca16fe5054e615df6acd91b"), looks := true }, kinds := [], alts := [], laidByText := true, laidKinds := [.handle], laidTests := true, laidLooks := .later }
def RingKnownCardSaid : Prop := Claim7.holds Tryd.pinned (.plain (OpenSpec.ofChange ringKnownSpec)) ringKnownCard

/-- THE SECOND FORM's CARD OF 'lineagelaw15.ArenaPlays'. -/
def arenaPlaysUptoCard : Claim7 := { stood := { row := arenaPlaysUptoRow, standIns := [], harness := (true, "35ccee7fbdea576b54174d82444d64694186428e7ca16fe5054e615df6acd91b"), looks := true }, kinds := [], alts := [], laidByText := true, laidKinds := [.handle], laidTests := true, laidLooks := .later }
def ArenaPlaysUptoCardSaid : Prop := Claim7.holds Tryd.pinned (.plain (OpenSpec.upto arenaPlaysSpec)) arenaPlaysUptoCard

/-- THE SECOND FORM's CARD OF 'lineagelaw15.ArenaLasts'. -/
def arenaLastsUptoCard : Claim7 := { stood := { row := arenaLastsUptoRow, standIns := [], harness := (true, "35ccee7fbdea576b54174d82444d64694186428e7ca16fe5054e615df6acd91b"), looks := true }, kinds := [], alts := [], laidByText := true, laidKinds := [.handle], laidTests := true, laidLooks := .later }
def ArenaLastsUptoCardSaid : Prop := Claim7.holds Tryd.pinned (.plain (OpenSpec.upto arenaLastsSpec)) arenaLastsUptoCard

/-- THE SECOND FORM's CARD OF 'lineagelaw16.RingPlays'. -/
def ringPlaysUptoCard : Claim7 := { stood := { row := ringPlaysUptoRow, standIns := [], harness := (true, "35ccee7fbdea576b54174d82444d64694186428e7ca16fe5054e615df6acd91b"), looks := true }, kinds := [], alts := [], laidByText := true, laidKinds := [.handle], laidTests := true, laidLooks := .later }
def RingPlaysUptoCardSaid : Prop := Claim7.holds Tryd.pinned (.plain (OpenSpec.upto ringPlaysSpec)) ringPlaysUptoCard

/-- THE SECOND FORM's CARD OF 'lineagelaw16.RingKnown'. -/
def ringKnownUptoCard : Claim7 := { stood := { row := ringKnownUptoRow, standIns := [], harness := (true, "35ccee7fbdea576b54174d82444d64694186428e7ca16fe5054e615df6acd91b"), looks := true }, kinds := [], alts := [], laidByText := true, laidKinds := [.handle], laidTests := true, laidLooks := .later }
def RingKnownUptoCardSaid : Prop := Claim7.holds Tryd.pinned (.plain (OpenSpec.upto ringKnownSpec)) ringKnownUptoCard
end Rows
end Go.Proofs.YtdgdbcapojgnlaaDoor
