/-
  DERIVED. GIVEN WITH THE SEED: THE CARDS: each row of YthoibafhbacfiaaDoorRows.lean that lists a variable, with what it lists TIED to the program's text (the seventh form; the later family's looks); each row that meets fmt, with fmt's text TOLD by the authors' own Lean function (tested against real Go, not proved from fmt's source: count such statements apart). THE CARD IS WHAT COUNTS. Prove the row's statement (the work); the ties are given (YthoibafhbacfiaaDoorTie.lean); close each card by the builder's one call (the guide's Derived/Test/ToyasCard.lean, 'card_holds'). Laid BY PROGRAM, IN A SANDBOX (cutbox-door.mjs). By AI agents, Wed Nov 11 2026. No macro, syntax, notation, axiom, sorry.
-/
import Derived.Test.YthoibafhbacfiaaDoorRows
import GoSem.ClaimSeven
namespace Go.Proofs.YthoibafhbacfiaaDoor
namespace Rows

/-- THE TIED CARD OF 'lineagelaw22.GrantLogins'. -/
def grantLoginsCard : Claim7 := { stood := { row := grantLoginsRow, standIns := [], harness := (true, "4d4de7bcd910399ec97c228049721f2e93155c617a69ef6473399f44149967af"), looks := true }, kinds := [], alts := [], laidByText := true, laidKinds := [.handle], laidTests := true, laidLooks := .later }
def GrantLoginsCardSaid : Prop := Claim7.holds Tryd.pinned (.plain (OpenSpec.ofChange grantLoginsSpec)) grantLoginsCard

/-- THE TIED CARD OF 'lineagelaw22.GrantChildren'. -/
def grantChildrenCard : Claim7 := { stood := { row := grantChildrenRow, standIns := [], harness := (true, "4d4de7bcd910399ec97c228049721f2e93155c617a69ef6473399f44149967af"), looks := true }, kinds := [], alts := [], laidByText := true, laidKinds := [.handle], laidTests := true, laidLooks := .later }
def GrantChildrenCardSaid : Prop := Claim7.holds Tryd.pinned (.plain (OpenSpec.ofChange grantChildrenSpec)) grantChildrenCard

/-- THE TIED CARD OF 'lineagelaw22.GrantRaises'. -/
def grantRaisesCard : Claim7 := { stood := { row := grantRaisesRow, standIns := [], harness := (true, "4d4de7bcd910399ec97c228049721f2e93155c617a69ef6473399f44149967af"), looks := true }, kinds := [], alts := [], laidByText := true, laidKinds := [.handle], laidTests := true, laidLooks := .later }
def GrantRaisesCardSaid : Prop := Claim7.holds Tryd.pinned (.plain (OpenSpec.ofChange grantRaisesSpec)) grantRaisesCard

/-- THE TIED CARD OF 'lineagelaw22.GrantKnown'. -/
def grantKnownCard : Claim7 := { stood := { row := grantKnownRow, standIns := [], harness := (true, "4d4de7bcd910399ec97c228049721f2e93155c617a69ef6473399f44149967af"), looks := true }, kinds := [], alts := [], laidByText := true, laidKinds := [.handle], laidTests := true, laidLooks := .later }
def GrantKnownCardSaid : Prop := Claim7.holds Tryd.pinned (.plain (OpenSpec.ofChange grantKnownSpec)) grantKnownCard

/-- THE SECOND FORM's CARD OF 'lineagelaw22.GrantLogins'. -/
def grantLoginsUptoCard : Claim7 := { stood := { row := grantLoginsUptoRow, standIns := [], harness := (true, "4d4de7bcd910399ec97c228049721f2e93155c617a69ef6473399f44149967af"), looks := true }, kinds := [], alts := [], laidByText := true, laidKinds := [.handle], laidTests := true, laidLooks := .later }
def GrantLoginsUptoCardSaid : Prop := Claim7.holds Tryd.pinned (.plain (OpenSpec.upto grantLoginsSpec)) grantLoginsUptoCard

/-- THE SECOND FORM's CARD OF 'lineagelaw22.GrantChildren'. -/
def grantChildrenUptoCard : Claim7 := { stood := { row := grantChildrenUptoRow, standIns := [], harness := (true, "4d4de7bcd910399ec97c228049721f2e93155c617a69ef6473399f44149967af"), looks := true }, kinds := [], alts := [], laidByText := true, laidKinds := [.handle], laidTests := true, laidLooks := .later }
def GrantChildrenUptoCardSaid : Prop := Claim7.holds Tryd.pinned (.plain (OpenSpec.upto grantChildrenSpec)) grantChildrenUptoCard

/-- THE SECOND FORM's CARD OF 'lineagelaw22.GrantRaises'. -/
def grantRaisesUptoCard : Claim7 := { stood := { row := grantRaisesUptoRow, standIns := [], harness := (true, "4d4de7bcd910399ec97c228049721f2e93155c617a69ef6473399f44149967af"), looks := true }, kinds := [], alts := [], laidByText := true, laidKinds := [.handle], laidTests := true, laidLooks := .later }
def GrantRaisesUptoCardSaid : Prop := Claim7.holds Tryd.pinned (.plain (OpenSpec.upto grantRaisesSpec)) grantRaisesUptoCard

/-- THE SECOND FORM's CARD OF 'lineagelaw22.GrantKnown'. -/
def grantKnownUptoCard : Claim7 := { stood := { row := grantKnownUptoRow, standIns := [], harness := (true, "4d4de7bcd910399ec97c228049721f2e93155c617a69ef6473399f44149967af"), looks := true }, kinds := [], alts := [], laidByText := true, laidKinds := [.handle], laidTests := true, laidLooks := .later }
def GrantKnownUptoCardSaid : Prop := Claim7.holds Tryd.pinned (.plain (OpenSpec.upto grantKnownSpec)) grantKnownUptoCard
end Rows
end Go.Proofs.YthoibafhbacfiaaDoor
