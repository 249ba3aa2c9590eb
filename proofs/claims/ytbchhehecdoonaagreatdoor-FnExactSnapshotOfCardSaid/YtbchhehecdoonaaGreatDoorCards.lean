/-
  DERIVED. GIVEN WITH THE SEED: THE CARDS: each row of YtbchhehecdoonaaGreatDoorRows.lean that lists a variable, with what it lists TIED to the program's text (the seventh form; the later family's looks); each row that meets fmt, with fmt's text TOLD by the authors' own Lean function (tested against real Go, not proved from fmt's source: count such statements apart). THE CARD IS WHAT COUNTS. Prove the row's statement (the work); the ties are given (YtbchhehecdoonaaGreatDoorTie.lean); close each card by the builder's one call (the guide's Derived/Test/ToyasCard.lean, 'card_holds'). Laid BY PROGRAM, IN A SANDBOX (cutbox-door.mjs). By AI agents, Wed Nov 11 2026. No macro, syntax, notation, axiom, sorry.
-/
import Derived.Test.YtbchhehecdoonaaGreatDoorRows
import GoSem.ClaimSeven
namespace Go.Proofs.YtbchhehecdoonaaGreatDoor
namespace Rows

/-- THE TIED CARD OF 'laws.FnExactLabEntryText'. -/
def fnExactLabEntryTextCard : Claim7 := { stood := { row := fnExactLabEntryTextRow, standIns := [], harness := (true, "9176935f7814a0e28da48b4aea52c89d8db77afb8bdb5afb598bf7152ea72a6d"), looks := true }, kinds := [], alts := [], laidByText := true, laidKinds := [.data, .data, .data, .data, .pinned], laidTests := true, laidLooks := .later }
def FnExactLabEntryTextCardSaid : Prop := Claim7.holds Tryz.pinned (.plain (OpenSpec.ofChange fnExactLabEntryTextSpec)) fnExactLabEntryTextCard

/-- THE TIED CARD OF 'laws.FnExactSnapshotOf'. -/
def fnExactSnapshotOfCard : Claim7 := { stood := { row := fnExactSnapshotOfRow, standIns := [], harness := (true, "9176935f7814a0e28da48b4aea52c89d8db77afb8bdb5afb598bf7152ea72a6d"), looks := true }, kinds := [], alts := [], laidByText := true, laidKinds := [.data, .data, .data, .data, .pinned], laidTests := true, laidLooks := .later }
def FnExactSnapshotOfCardSaid : Prop := Claim7.holds Tryz.pinned (.plain (OpenSpec.ofChange fnExactSnapshotOfSpec)) fnExactSnapshotOfCard

/-- THE TIED CARD OF 'laws.FnExactApplyLab'. -/
def fnExactApplyLabCard : Claim7 := { stood := { row := fnExactApplyLabRow, standIns := [], harness := (true, "9176935f7814a0e28da48b4aea52c89d8db77afb8bdb5afb598bf7152ea72a6d"), looks := true }, kinds := [], alts := [], laidByText := true, laidKinds := [.data, .pinned], laidTests := true, laidLooks := .later }
def FnExactApplyLabCardSaid : Prop := Claim7.holds Tryz.pinned (.plain (OpenSpec.ofChange fnExactApplyLabSpec)) fnExactApplyLabCard

/-- THE TIED CARD OF 'laws.FnExactParseCertificate'. -/
def fnExactParseCertificateCard : Claim7 := { stood := { row := fnExactParseCertificateRow, standIns := [], harness := (true, "9176935f7814a0e28da48b4aea52c89d8db77afb8bdb5afb598bf7152ea72a6d"), looks := true }, kinds := [], alts := [], laidByText := true, laidKinds := [.data, .data, .data, .data, .sentinel, .sentinel, .pinned], laidTests := true, laidLooks := .later }
def FnExactParseCertificateCardSaid : Prop := Claim7.holds Tryz.pinned (.plain (OpenSpec.ofChange fnExactParseCertificateSpec)) fnExactParseCertificateCard

/-- THE SECOND FORM's CARD OF 'laws.FnExactLabEntryText'. -/
def fnExactLabEntryTextUptoCard : Claim7 := { stood := { row := fnExactLabEntryTextUptoRow, standIns := [], harness := (true, "9176935f7814a0e28da48b4aea52c89d8db77afb8bdb5afb598bf7152ea72a6d"), looks := true }, kinds := [], alts := [], laidByText := true, laidKinds := [.data, .data, .data, .data, .pinned], laidTests := true, laidLooks := .later }
def FnExactLabEntryTextUptoCardSaid : Prop := Claim7.holds Tryz.pinned (.plain (OpenSpec.upto fnExactLabEntryTextSpec)) fnExactLabEntryTextUptoCard

/-- THE SECOND FORM's CARD OF 'laws.FnExactSnapshotOf'. -/
def fnExactSnapshotOfUptoCard : Claim7 := { stood := { row := fnExactSnapshotOfUptoRow, standIns := [], harness := (true, "9176935f7814a0e28da48b4aea52c89d8db77afb8bdb5afb598bf7152ea72a6d"), looks := true }, kinds := [], alts := [], laidByText := true, laidKinds := [.data, .data, .data, .data, .pinned], laidTests := true, laidLooks := .later }
def FnExactSnapshotOfUptoCardSaid : Prop := Claim7.holds Tryz.pinned (.plain (OpenSpec.upto fnExactSnapshotOfSpec)) fnExactSnapshotOfUptoCard

/-- THE SECOND FORM's CARD OF 'laws.FnExactApplyLab'. -/
def fnExactApplyLabUptoCard : Claim7 := { stood := { row := fnExactApplyLabUptoRow, standIns := [], harness := (true, "9176935f7814a0e28da48b4aea52c89d8db77afb8bdb5afb598bf7152ea72a6d"), looks := true }, kinds := [], alts := [], laidByText := true, laidKinds := [.data, .pinned], laidTests := true, laidLooks := .later }
def FnExactApplyLabUptoCardSaid : Prop := Claim7.holds Tryz.pinned (.plain (OpenSpec.upto fnExactApplyLabSpec)) fnExactApplyLabUptoCard

/-- THE SECOND FORM's CARD OF 'laws.FnExactParseCertificate'. -/
def fnExactParseCertificateUptoCard : Claim7 := { stood := { row := fnExactParseCertificateUptoRow, standIns := [], harness := (true, "9176935f7814a0e28da48b4aea52c89d8db77afb8bdb5afb598bf7152ea72a6d"), looks := true }, kinds := [], alts := [], laidByText := true, laidKinds := [.data, .data, .data, .data, .sentinel, .sentinel, .pinned], laidTests := true, laidLooks := .later }
def FnExactParseCertificateUptoCardSaid : Prop := Claim7.holds Tryz.pinned (.plain (OpenSpec.upto fnExactParseCertificateSpec)) fnExactParseCertificateUptoCard
end Rows
end Go.Proofs.YtbchhehecdoonaaGreatDoor
