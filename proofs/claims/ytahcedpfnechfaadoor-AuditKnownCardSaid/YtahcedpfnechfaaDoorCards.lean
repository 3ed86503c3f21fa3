/-
  DERIVED. GIVEN WITH THE SEED: THE CARDS: each row of YtahcedpfnechfaaDoorRows.lean that lists a variable, with what it lists TIED to the program's text (the seventh form; the later family's looks); each row that meets fmt, with fmt's text TOLD by the authors' own Lean function (tested against real Go, not proved from fmt's source: count such statements apart). THE CARD IS WHAT COUNTS. Prove the row's statement (the work); the ties are given (YtahcedpfnechfaaDoorTie.lean); close each card by the builder's one call (the guide's Derived/Test/ToyasCard.lean, 'card_holds'). Laid BY PROGRAM, IN A SANDBOX (cutbox-door.mjs). By AI agents, Wed Nov 11 2026. No macro, syntax, notation, axiom, sorry.
-/
import Derived.Test.YtahcedpfnechfaaDoorRows
import GoSem.ClaimSeven
namespace Go.Proofs.YtahcedpfnechfaaDoor
namespace Rows

/-- THE TIED CARD OF 'lineagelaw29.AuditChecks'. -/
def auditChecksCard : Claim7 := { stood := { row := auditChecksRow, standIns := [], harness := (true, "c08701c44daeacd2e1aa5adb064590aed799ded3cf53a8a568637adee5bceac4"), looks := true }, kinds := [], alts := [], laidByText := true, laidKinds := [.handle], laidTests := true, laidLooks := .later }
def AuditChecksCardSaid : Prop := Claim7.holds Tryd.pinned (.plain (OpenSpec.ofChange auditChecksSpec)) auditChecksCard

/-- THE TIED CARD OF 'lineagelaw29.AuditAll'. -/
def auditAllCard : Claim7 := { stood := { row := auditAllRow, standIns := [], harness := (true, "c08701c44daeacd2e1aa5adb064590aed799ded3cf53a8a568637adee5bceac4"), looks := true }, kinds := [], alts := [], laidByText := true, laidKinds := [.handle], laidTests := true, laidLooks := .later }
def AuditAllCardSaid : Prop := Claim7.holds Tryd.pinned (.plain (OpenSpec.ofChange auditAllSpec)) auditAllCard

/-- THE TIED CARD OF 'lineagelaw29.AuditKnown'. -/
def auditKnownCard : Claim7 := { stood := { row := auditKnownRow, standIns := [], harness := (true, "c08701c44daeacd2e1aa5adb064590aed799ded3cf53a8a568637adee5bceac4"), looks := true }, kinds := [], alts := [], laidByText := true, laidKinds := [.handle], laidTests := true, laidLooks := .later }
def AuditKnownCardSaid : Prop := Claim7.holds Tryd.pinned (.plain (OpenSpec.ofChange auditKnownSpec)) auditKnownCard

/-- THE SECOND FORM's CARD OF 'lineagelaw29.AuditChecks'. -/
def auditChecksUptoCard : Claim7 := { stood := { row := auditChecksUptoRow, standIns := [], harness := (true, "c08701c44daeacd2e1aa5adb064590aed799ded3cf53a8a568637adee5bceac4"), looks := true }, kinds := [], alts := [], laidByText := true, laidKinds := [.handle], laidTests := true, laidLooks := .later }
def AuditChecksUptoCardSaid : Prop := Claim7.holds Tryd.pinned (.plain (OpenSpec.upto auditChecksSpec)) auditChecksUptoCard

/-- THE SECOND FORM's CARD OF 'lineagelaw29.AuditAll'. -/
def auditAllUptoCard : Claim7 := { stood := { row := auditAllUptoRow, standIns := [], harness := (true, "c08701c44daeacd2e1aa5adb064590aed799ded3cf53a8a568637adee5bceac4"), looks := true }, kinds := [], alts := [], laidByText := true, laidKinds := [.handle], laidTests := true, laidLooks := .later }
def AuditAllUptoCardSaid : Prop := Claim7.holds Tryd.pinned (.plain (OpenSpec.upto auditAllSpec)) auditAllUptoCard

/-- THE SECOND FORM's CARD OF 'lineagelaw29.AuditKnown'. -/
def auditKnownUptoCard : Claim7 := { stood := { row := auditKnownUptoRow, standIns := [], harness := (true, "c08701c44daeacd2e1aa5adb064590aed799ded3cf53a8a568637adee5bceac4"), looks := true }, kinds := [], alts := [], laidByText := true, laidKinds := [.handle], laidTests := true, laidLooks := .later }
def AuditKnownUptoCardSaid : Prop := Claim7.holds Tryd.pinned (.plain (OpenSpec.upto auditKnownSpec)) auditKnownUptoCard
end Rows
end Go.Proofs.YtahcedpfnechfaaDoor
