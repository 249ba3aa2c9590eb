/-
  DERIVED. GIVEN WITH THE SEED: THE CARDS: each row of YtoihklgooligkaaDoorRows.lean that lists a variable, with what it lists TIED to the program's text (the seventh form; the later family's looks); each row that meets fmt, with fmt's text TOLD by the authors' own Lean function (tested against real Go, not proved from fmt's source: count such statements apart). THE CARD IS WHAT COUNTS. Prove the row's statement (the work); the ties are given (YtoihklgooligkaaDoorTie.lean); close each card by the builder's one call (the guide's Derived/Test/ToyasCard.lean, 'card_holds'). Laid BY PROGRAM, IN A SANDBOX (cutbox-door.mjs). By AI agents, Wed Nov 11 2026. No macro, syntax, notation, axiom, sorry.
-/
import Derived.Test.YtoihklgooligkaaDoorRows
import GoSem.ClaimSeven
namespace Go.Proofs.YtoihklgooligkaaDoor
namespace Rows

/-- THE TIED CARD OF 'laws.FnExactIsScript'. -/
def fnExactIsScriptCard : Claim7 := { stood := { row := fnExactIsScriptRow, standIns := [], harness := (true, "2adb4b8ff67a38f316c202382c1850a20bd4c50a9a95b50b9f86144e71a22180"), looks := false }, kinds := [], alts := [], laidByText := true, laidKinds := [.data, .pinned], laidTests := true, laidLooks := .later }
def FnExactIsScriptCardSaid : Prop := Claim7.holds Tryd.pinned (.plain (OpenSpec.ofChange fnExactIsScriptSpec)) fnExactIsScriptCard

/-- THE TIED CARD OF 'laws.FnExactWalkText'. -/
def fnExactWalkTextCard : Claim7 := { stood := { row := fnExactWalkTextRow, standIns := [], harness := (true, "2adb4b8ff67a38f316c202382c1850a20bd4c50a9a95b50b9f86144e71a22180"), looks := false }, kinds := [], alts := [], laidByText := true, laidKinds := [.data, .data, .data], laidTests := true, laidLooks := .later }
def FnExactWalkTextCardSaid : Prop := Claim7.holds Tryd.pinned (.plain (OpenSpec.ofChange fnExactWalkTextSpec)) fnExactWalkTextCard

/-- THE TIED CARD OF 'laws.FnExactCertificateText'. -/
def fnExactCertificateTextCard : Claim7 := { stood := { row := fnExactCertificateTextRow, standIns := [], harness := (true, "2adb4b8ff67a38f316c202382c1850a20bd4c50a9a95b50b9f86144e71a22180"), looks := false }, kinds := [], alts := [], laidByText := true, laidKinds := [.data, .data, .data], laidTests := true, laidLooks := .later }
def FnExactCertificateTextCardSaid : Prop := Claim7.holds Tryd.pinned (.plain (OpenSpec.ofChange fnExactCertificateTextSpec)) fnExactCertificateTextCard

/-- THE TIED CARD OF 'laws.FnExactIsStore'. -/
def fnExactIsStoreCard : Claim7 := { stood := { row := fnExactIsStoreRow, standIns := [], harness := (true, "2adb4b8ff67a38f316c202382c1850a20bd4c50a9a95b50b9f86144e71a22180"), looks := false }, kinds := [], alts := [], laidByText := true, laidKinds := [.data, .pinned], laidTests := true, laidLooks := .later }
def FnExactIsStoreCardSaid : Prop := Claim7.holds Tryd.pinned (.plain (OpenSpec.ofChange fnExactIsStoreSpec)) fnExactIsStoreCard

/-- THE SECOND FORM's CARD OF 'laws.FnExactIsScript'. -/
def fnExactIsScriptUptoCard : Claim7 := { stood := { row := fnExactIsScriptUptoRow, standIns := [], harness := (true, "2adb4b8ff67a38f316c202382c1850a20bd4c50a9a95b50b9f86144e71a22180"), looks := false }, kinds := [], alts := [], laidByText := true, laidKinds := [.data, .pinned], laidTests := true, laidLooks := .later }
def FnExactIsScriptUptoCardSaid : Prop := Claim7.holds Tryd.pinned (.plain (OpenSpec.upto fnExactIsScriptSpec)) fnExactIsScriptUptoCard

/-- THE SECOND FORM's CARD OF 'laws.FnExactWalkText'. -/
def fnExactWalkTextUptoCard : Claim7 := { stood := { row := fnExactWalkTextUptoRow, standIns := [], harness := (true, "2adb4b8ff67a38f316c202382c1850a20bd4c50a9a95b50b9f86144e71a22180"), looks := false }, kinds := [], alts := [], laidByText := true, laidKinds := [.data, .data, .data], laidTests := true, laidLooks := .later }
def FnExactWalkTextUptoCardSaid : Prop := Claim7.holds Tryd.pinned (.plain (OpenSpec.upto fnExactWalkTextSpec)) fnExactWalkTextUptoCard

/-- THE SECOND FORM's CARD OF 'laws.FnExactCertificateText'. -/
def fnExactCertificateTextUptoCard : Claim7 := { stood := { row := fnExactCertificateTextUptoRow, standIns := [], harness := (true, "2adb4b8ff67a38f316c202382c1850a20bd4c50a9a95b50b9f86144e71a22180"), looks := false }, kinds := [], alts := [], laidByText := true, laidKinds := [.data, .data, .data], laidTests := true, laidLooks := .later }
def FnExactCertificateTextUptoCardSaid : Prop := Claim7.holds Tryd.pinned (.plain (OpenSpec.upto fnExactCertificateTextSpec)) fnExactCertificateTextUptoCard

/-- THE SECOND FORM's CARD OF 'laws.FnExactIsStore'. -/
def fnExactIsStoreUptoCard : Claim7 := { stood := { row := fnExactIsStoreUptoRow, standIns := [], harness := (true, "2adb4b8ff67a38f316c202382c1850a20bd4c50a9a95b50b9f86144e71a22180"), looks := false }, kinds := [], alts := [], laidByText := true, laidKinds := [.data, .pinned], laidTests := true, laidLooks := .later }
def FnExactIsStoreUptoCardSaid : Prop := Claim7.holds Tryd.pinned (.plain (OpenSpec.upto fnExactIsStoreSpec)) fnExactIsStoreUptoCard
end Rows
end Go.Proofs.YtoihklgooligkaaDoor
