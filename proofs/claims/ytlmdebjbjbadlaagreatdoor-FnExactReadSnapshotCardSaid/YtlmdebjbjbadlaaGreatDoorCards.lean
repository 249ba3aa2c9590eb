/-
  DERIVED. GIVEN WITH THE SEED: THE CARDS: each row of YtlmdebjbjbadlaaGreatDoorRows.lean that lists a variable, with what it lists TIED to the program's text (the seventh form; the later family's looks); each row that meets fmt, with fmt's text TOLD by the authors' own Lean function (tested against real Go, not proved from fmt's source: count such statements apart). THE CARD IS WHAT COUNTS. Prove the row's statement (the work); the ties are given (YtlmdebjbjbadlaaGreatDoorTie.lean); close each card by the builder's one call (the guide's Derived/Test/ToyasCard.lean, 'card_holds'). Laid BY PROGRAM, IN A SANDBOX (cutbox-door.mjs). By AI agents, Wed Nov 11 2026. No macro, syntax, notation, axiom, sorry.
-/
import Derived.Test.YtlmdebjbjbadlaaGreatDoorRows
import GoSem.ClaimSeven
namespace Go.Proofs.YtlmdebjbjbadlaaGreatDoor
namespace Rows

/-- THE TIED CARD OF 'laws.FnExactParseCertificate'. -/
def fnExactParseCertificateCard : Claim7 := { stood := { row := fnExactParseCertificateRow, standIns := [], harness := (true, "f2397aeb586a2e8133cd3f6c80a718ce4c576ea03826203fbacd81cb389b3d76"), looks := true }, kinds := [], alts := [], laidByText := true, laidKinds := [.data, .data, .data, .data, .sentinel, .sentinel, .pinned], laidTests := true, laidLooks := .later }
def FnExactParseCertificateCardSaid : Prop := Claim7.holds Tryz.pinned (.plain (OpenSpec.ofChange fnExactParseCertificateSpec)) fnExactParseCertificateCard

/-- THE TIED CARD OF 'laws.FnExactParseLabEntry'. -/
def fnExactParseLabEntryCard : Claim7 := { stood := { row := fnExactParseLabEntryRow, standIns := [], harness := (true, "f2397aeb586a2e8133cd3f6c80a718ce4c576ea03826203fbacd81cb389b3d76"), looks := true }, kinds := [], alts := [], laidByText := true, laidKinds := [.data, .data, .data, .data, .sentinel, .sentinel, .pinned], laidTests := true, laidLooks := .later }
def FnExactParseLabEntryCardSaid : Prop := Claim7.holds Tryz.pinned (.plain (OpenSpec.ofChange fnExactParseLabEntrySpec)) fnExactParseLabEntryCard

/-- THE TIED CARD OF 'laws.FnExactReadSnapshot'. -/
def fnExactReadSnapshotCard : Claim7 := { stood := { row := fnExactReadSnapshotRow, standIns := [], harness := (true, "f2397aeb586a2e8133cd3f6c80a718ce4c576ea03826203fbacd81cb389b3d76"), looks := true }, kinds := [], alts := [], laidByText := true, laidKinds := [.data, .data, .data, .data, .sentinel, .sentinel, .pinned], laidTests := true, laidLooks := .later }
def FnExactReadSnapshotCardSaid : Prop := Claim7.holds Tryz.pinned (.plain (OpenSpec.ofChange fnExactReadSnapshotSpec)) fnExactReadSnapshotCard

/-- THE SECOND FORM's CARD OF 'laws.FnExactParseCertificate'. -/
def fnExactParseCertificateUptoCard : Claim7 := { stood := { row := fnExactParseCertificateUptoRow, standIns := [], harness := (true, "f2397aeb586a2e8133cd3f6c80a718ce4c576ea03826203fbacd81cb389b3d76"), looks := true }, kinds := [], alts := [], laidByText := true, laidKinds := [.data, .data, .data, .data, .sentinel, .sentinel, .pinned], laidTests := true, laidLooks := .later }
def FnExactParseCertificateUptoCardSaid : Prop := Claim7.holds Tryz.pinned (.plain (OpenSpec.upto fnExactParseCertificateSpec)) fnExactParseCertificateUptoCard

/-- THE SECOND FORM's CARD OF 'laws.FnExactParseLabEntry'. -/
def fnExactParseLabEntryUptoCard : Claim7 := { stood := { row := fnExactParseLabEntryUptoRow, standIns := [], harness := (true, "f2397aeb586a2e8133cd3f6c80a718ce4c576ea03826203fbacd81cb389b3d76"), looks := true }, kinds := [], alts := [], laidByText := true, laidKinds := [.data, .data, .data, .data, .sentinel, .sentinel, .pinned], laidTests := true, laidLooks := .later }
def FnExactParseLabEntryUptoCardSaid : Prop := Claim7.holds Tryz.pinned (.plain (OpenSpec.upto fnExactParseLabEntrySpec)) fnExactParseLabEntryUptoCard

/-- THE SECOND FORM's CARD OF 'laws.FnExactReadSnapshot'. -/
def fnExactReadSnapshotUptoCard : Claim7 := { stood := { row := fnExactReadSnapshotUptoRow, standIns := [], harness := (true, "f2397aeb586a2e8133cd3f6c80a718ce4c576ea03826203fbacd81cb389b3d76"), looks := true }, kinds := [], alts := [], laidByText := true, laidKinds := [.data, .data, .data, .data, .sentinel, .sentinel, .pinned], laidTests := true, laidLooks := .later }
def FnExactReadSnapshotUptoCardSaid : Prop := Claim7.holds Tryz.pinned (.plain (OpenSpec.upto fnExactReadSnapshotSpec)) fnExactReadSnapshotUptoCard
end Rows
end Go.Proofs.YtlmdebjbjbadlaaGreatDoor
