/-
  DERIVED. GIVEN WITH THE SEED: THE CARDS: each row of YtgibnlfgjnpckaaGreatDoorRows.lean that lists a variable, with what it lists TIED to the program's text (the seventh form; the later family's looks); each row that meets fmt, with fmt's text TOLD by the authors' own Lean function (tested against real Go, not proved from fmt's source: count such statements apart). THE CARD IS WHAT COUNTS. Prove the row's statement (the work); the ties are given (YtgibnlfgjnpckaaGreatDoorTie.lean); close each card by the builder's one call (the guide's Derived/Test/ToyasCard.lean, 'card_holds'). Laid BY PROGRAM, IN A SANDBOX (cutbox-door.mjs). By AI agents, Wed Nov 11 2026. No macro, syntax, notation, axiom, sorry.
-/
import Derived.Test.YtgibnlfgjnpckaaGreatDoorRows
import GoSem.ClaimSeven
namespace Go.Proofs.YtgibnlfgjnpckaaGreatDoor
namespace Rows

/-- THE TIED CARD OF 'laws.FnExactApplyLab'. -/
def fnExactApplyLabCard : Claim7 := { stood := { row := fnExactApplyLabRow, standIns := [], harness := (true, "208664ecab8490edf29055cdf96c8251f7d9ec8f4062d156c7aa83455863b6ec"), looks := true }, kinds := [], alts := [], laidByText := true, laidKinds := [.data, .pinned], laidTests := true, laidLooks := .later }
def FnExactApplyLabCardSaid : Prop := Claim7.holds Tryz.pinned (.plain (OpenSpec.ofChange fnExactApplyLabSpec)) fnExactApplyLabCard

/-- THE TIED CARD OF 'laws.FnExactParseCertificate'. -/
def fnExactParseCertificateCard : Claim7 := { stood := { row := fnExactParseCertificateRow, standIns := [], harness := (true, "208664ecab8490edf29055cdf96c8251f7d9ec8f4062d156c7aa83455863b6ec"), looks := true }, kinds := [], alts := [], laidByText := true, laidKinds := [.data, .data, .data, .data, .sentinel, .sentinel, .pinned], laidTests := true, laidLooks := .later }
def FnExactParseCertificateCardSaid : Prop := Claim7.holds Tryz.pinned (.plain (OpenSpec.ofChange fnExactParseCertificateSpec)) fnExactParseCertificateCard

/-- THE TIED CARD OF 'laws.FnExactParseLabEntry'. -/
def fnExactParseLabEntryCard : Claim7 := { stood := { row := fnExactParseLabEntryRow, standIns := [], harness := (true, "208664ecab8490edf29055cdf96c8251f7d9ec8f4062d156c7aa83455863b6ec"), looks := true }, kinds := [], alts := [], laidByText := true, laidKinds := [.data, .data, .data, .data, .sentinel, .sentinel, .pinned], laidTests := true, laidLooks := .later }
def FnExactParseLabEntryCardSaid : Prop := Claim7.holds Tryz.pinned (.plain (OpenSpec.ofChange fnExactParseLabEntrySpec)) fnExactParseLabEntryCard

/-- THE TIED CARD OF 'laws.FnExactReadSnapshot'. -/
def fnExactReadSnapshotCard : Claim7 := { stood := { row := fnExactReadSnapshotRow, standIns := [], harness := (true, "208664ecab8490edf29055cdf96c8251f7d9ec8f4062d156c7aa83455863b6ec"), looks := true }, kinds := [], alts := [], laidByText := true, laidKinds := [.data, .data, .data, .data, .sentinel, .sentinel, .pinned], laidTests := true, laidLooks := .later }
def FnExactReadSnapshotCardSaid : Prop := Claim7.holds Tryz.pinned (.plain (OpenSpec.ofChange fnExactReadSnapshotSpec)) fnExactReadSnapshotCard

/-- THE TIED CARD OF 'laws.FnExactTornCompact'. -/
def fnExactTornCompactCard : Claim7 := { stood := { row := fnExactTornCompactRow, standIns := [], harness := (true, "208664ecab8490edf29055cdf96c8251f7d9ec8f4062d156c7aa83455863b6ec"), looks := true }, kinds := [], alts := [], laidByText := true, laidKinds := [.data, .data, .data, .data, .sentinel, .sentinel, .pinned], laidTests := true, laidLooks := .later }
def FnExactTornCompactCardSaid : Prop := Claim7.holds Tryz.pinned (.plain (OpenSpec.ofChange fnExactTornCompactSpec)) fnExactTornCompactCard

/-- THE TIED CARD OF 'laws.FnExactCompactLab'. -/
def fnExactCompactLabCard : Claim7 := { stood := { row := fnExactCompactLabRow, standIns := [], harness := (true, "208664ecab8490edf29055cdf96c8251f7d9ec8f4062d156c7aa83455863b6ec"), looks := true }, kinds := [], alts := [], laidByText := true, laidKinds := [.data, .data, .data, .data, .sentinel, .sentinel, .pinned], laidTests := true, laidLooks := .later }
def FnExactCompactLabCardSaid : Prop := Claim7.holds Tryz.pinned (.plain (OpenSpec.ofChange fnExactCompactLabSpec)) fnExactCompactLabCard

/-- THE TIED CARD OF 'laws.FnExactRecoverLab'. -/
def fnExactRecoverLabCard : Claim7 := { stood := { row := fnExactRecoverLabRow, standIns := [], harness := (true, "208664ecab8490edf29055cdf96c8251f7d9ec8f4062d156c7aa83455863b6ec"), looks := true }, kinds := [], alts := [], laidByText := true, laidKinds := [.data, .data, .data, .data, .sentinel, .sentinel, .pinned], laidTests := true, laidLooks := .later }
def FnExactRecoverLabCardSaid : Prop := Claim7.holds Tryz.pinned (.plain (OpenSpec.ofChange fnExactRecoverLabSpec)) fnExactRecoverLabCard

/-- THE TIED CARD OF 'laws.FnExactWriteLab'. -/
def fnExactWriteLabCard : Claim7 := { stood := { row := fnExactWriteLabRow, standIns := [], harness := (true, "208664ecab8490edf29055cdf96c8251f7d9ec8f4062d156c7aa83455863b6ec"), looks := true }, kinds := [], alts := [], laidByText := true, laidKinds := [.data, .data, .data, .data, .sentinel, .sentinel, .pinned], laidTests := true, laidLooks := .later }
def FnExactWriteLabCardSaid : Prop := Claim7.holds Tryz.pinned (.plain (OpenSpec.ofChange fnExactWriteLabSpec)) fnExactWriteLabCard

/-- THE SECOND FORM's CARD OF 'laws.FnExactApplyLab'. -/
def fnExactApplyLabUptoCard : Claim7 := { stood := { row := fnExactApplyLabUptoRow, standIns := [], harness := (true, "208664ecab8490edf29055cdf96c8251f7d9ec8f4062d156c7aa83455863b6ec"), looks := true }, kinds := [], alts := [], laidByText := true, laidKinds := [.data, .pinned], laidTests := true, laidLooks := .later }
def FnExactApplyLabUptoCardSaid : Prop := Claim7.holds Tryz.pinned (.plain (OpenSpec.upto fnExactApplyLabSpec)) fnExactApplyLabUptoCard

/-- THE SECOND FORM's CARD OF 'laws.FnExactParseCertificate'. -/
def fnExactParseCertificateUptoCard : Claim7 := { stood := { row := fnExactParseCertificateUptoRow, standIns := [], harness := (true, "208664ecab8490edf29055cdf96c8251f7d9ec8f4062d156c7aa83455863b6ec"), looks := true }, kinds := [], alts := [], laidByText := true, laidKinds := [.data, .data, .data, .data, .sentinel, .sentinel, .pinned], laidTests := true, laidLooks := .later }
def FnExactParseCertificateUptoCardSaid : Prop := Claim7.holds Tryz.pinned (.plain (OpenSpec.upto fnExactParseCertificateSpec)) fnExactParseCertificateUptoCard

/-- THE SECOND FORM's CARD OF 'laws.FnExactParseLabEntry'. -/
def fnExactParseLabEntryUptoCard : Claim7 := { stood := { row := fnExactParseLabEntryUptoRow, standIns := [], harness := (true, "208664ecab8490edf29055cdf96c8251f7d9ec8f4062d156c7aa83455863b6ec"), looks := true }, kinds := [], alts := [], laidByText := true, laidKinds := [.data, .data, .data, .data, .sentinel, .sentinel, .pinned], laidTests := true, laidLooks := .later }
def FnExactParseLabEntryUptoCardSaid : Prop := Claim7.holds Tryz.pinned (.plain (OpenSpec.upto fnExactParseLabEntrySpec)) fnExactParseLabEntryUptoCard

/-- THE SECOND FORM's CARD OF 'laws.FnExactReadSnapshot'. -/
def fnExactReadSnapshotUptoCard : Claim7 := { stood := { row := fnExactReadSnapshotUptoRow, standIns := [], harness := (true, "208664ecab8490edf29055cdf96c8251f7d9ec8f4062d156c7aa83455863b6ec"), looks := true }, kinds := [], alts := [], laidByText := true, laidKinds := [.data, .data, .data, .data, .sentinel, .sentinel, .pinned], laidTests := true, laidLooks := .later }
def FnExactReadSnapshotUptoCardSaid : Prop := Claim7.holds Tryz.pinned (.plain (OpenSpec.upto fnExactReadSnapshotSpec)) fnExactReadSnapshotUptoCard

/-- THE SECOND FORM's CARD OF 'laws.FnExactTornCompact'. -/
def fnExactTornCompactUptoCard : Claim7 := { stood := { row := fnExactTornCompactUptoRow, standIns := [], harness := (true, "208664ecab8490edf29055cdf96c8251f7d9ec8f4062d156c7aa83455863b6ec"), looks := true }, kinds := [], alts := [], laidByText := true, laidKinds := [.data, .data, .data, .data, .sentinel, .sentinel, .pinned], laidTests := true, laidLooks := .later }
def FnExactTornCompactUptoCardSaid : Prop := Claim7.holds Tryz.pinned (.plain (OpenSpec.upto fnExactTornCompactSpec)) fnExactTornCompactUptoCard

/-- THE SECOND FORM's CARD OF 'laws.FnExactCompactLab'. -/
def fnExactCompactLabUptoCard : Claim7 := { stood := { row := fnExactCompactLabUptoRow, standIns := [], harness := (true, "208664ecab8490edf29055cdf96c8251f7d9ec8f4062d156c7aa83455863b6ec"), looks := true }, kinds := [], alts := [], laidByText := true, laidKinds := [.data, .data, .data, .data, .sentinel, .sentinel, .pinned], laidTests := true, laidLooks := .later }
def FnExactCompactLabUptoCardSaid : Prop := Claim7.holds Tryz.pinned (.plain (OpenSpec.upto fnExactCompactLabSpec)) fnExactCompactLabUptoCard

/-- THE SECOND FORM's CARD OF 'laws.FnExactRecoverLab'. -/
def fnExactRecoverLabUptoCard : Claim7 := { stood := { row := fnExactRecoverLabUptoRow, standIns := [], harness := (true, "208664ecab8490edf29055cdf96c8251f7d9ec8f4062d156c7aa83455863b6ec"), looks := true }, kinds := [], alts := [], laidByText := true, laidKinds := [.data, .data, .data, .data, .sentinel, .sentinel, .pinned], laidTests := true, laidLooks := .later }
def FnExactRecoverLabUptoCardSaid : Prop := Claim7.holds Tryz.pinned (.plain (OpenSpec.upto fnExactRecoverLabSpec)) fnExactRecoverLabUptoCard

/-- THE SECOND FORM's CARD OF 'laws.FnExactWriteLab'. -/
def fnExactWriteLabUptoCard : Claim7 := { stood := { row := fnExactWriteLabUptoRow, standIns := [], harness := (true, "208664ecab8490edf29055cdf96c8251f7d9ec8f4062d156c7aa83455863b6ec"), looks := true }, kinds := [], alts := [], laidByText := true, laidKinds := [.data, .data, .data, .data, .sentinel, .sentinel, .pinned], laidTests := true, laidLooks := .later }
def FnExactWriteLabUptoCardSaid : Prop := Claim7.holds Tryz.pinned (.plain (OpenSpec.upto fnExactWriteLabSpec)) fnExactWriteLabUptoCard
end Rows
end Go.Proofs.YtgibnlfgjnpckaaGreatDoor
