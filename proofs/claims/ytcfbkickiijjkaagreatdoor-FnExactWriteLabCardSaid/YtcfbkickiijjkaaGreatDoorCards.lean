/-
  DERIVED. GIVEN WITH THE SEED: THE CARDS: each row of YtcfbkickiijjkaaGreatDoorRows.lean that lists a variable, with what it lists TIED to the program's text (the seventh form; the later family's looks); each row that meets fmt, with fmt's text TOLD by the authors' own Lean function (tested against real Go, not proved from fmt's source: count such statements apart). THE CARD IS WHAT COUNTS. Prove the row's statement (the work); the ties are given (YtcfbkickiijjkaaGreatDoorTie.lean); close each card by the builder's one call (the guide's Derived/Test/ToyasCard.lean, 'card_holds'). Laid BY PROGRAM, IN A SANDBOX (cutbox-door.mjs). By AI agents, Wed Nov 11 2026. No macro, syntax, notation, axiom, sorry.
-/
import Derived.Test.YtcfbkickiijjkaaGreatDoorRows
import GoSem.ClaimSeven
namespace Go.Proofs.YtcfbkickiijjkaaGreatDoor
namespace Rows

/-- THE TIED CARD OF 'laws.FnExactTornCompact'. -/
def fnExactTornCompactCard : Claim7 := { stood := { row := fnExactTornCompactRow, standIns := [], harness := (true, "19563323d3411bc19455f17756ecb97706109c19c8173d447867e82ab5ab4d1f"), looks := true }, kinds := [], alts := [], laidByText := true, laidKinds := [.data, .data, .data, .data, .sentinel, .sentinel, .pinned], laidTests := true, laidLooks := .later }
def FnExactTornCompactCardSaid : Prop := Claim7.holds Tryz.pinned (.plain (OpenSpec.ofChange fnExactTornCompactSpec)) fnExactTornCompactCard

/-- THE TIED CARD OF 'laws.FnExactCompactLab'. -/
def fnExactCompactLabCard : Claim7 := { stood := { row := fnExactCompactLabRow, standIns := [], harness := (true, "19563323d3411bc19455f17756ecb97706109c19c8173d447867e82ab5ab4d1f"), looks := true }, kinds := [], alts := [], laidByText := true, laidKinds := [.data, .data, .data, .data, .sentinel, .sentinel, .pinned], laidTests := true, laidLooks := .later }
def FnExactCompactLabCardSaid : Prop := Claim7.holds Tryz.pinned (.plain (OpenSpec.ofChange fnExactCompactLabSpec)) fnExactCompactLabCard

/-- THE TIED CARD OF 'laws.FnExactRecoverLab'. -/
def fnExactRecoverLabCard : Claim7 := { stood := { row := fnExactRecoverLabRow, standIns := [], harness := (true, "19563323d3411bc19455f17756ecb97706109c19c8173d447867e82ab5ab4d1f"), looks := true }, kinds := [], alts := [], laidByText := true, laidKinds := [.data, .data, .data, .data, .sentinel, .sentinel, .pinned], laidTests := true, laidLooks := .later }
def FnExactRecoverLabCardSaid : Prop := Claim7.holds Tryz.pinned (.plain (OpenSpec.ofChange fnExactRecoverLabSpec)) fnExactRecoverLabCard

/-- THE TIED CARD OF 'laws.FnExactWriteLab'. -/
def fnExactWriteLabCard : Claim7 := { stood := { row := fnExactWriteLabRow, standIns := [], harness := (true, "19563323d3411bc19455f17756ecb97706109c19c8173d447867e82ab5ab4d1f"), looks := true }, kinds := [], alts := [], laidByText := true, laidKinds := [.data, .data, .data, .data, .sentinel, .sentinel, .pinned], laidTests := true, laidLooks := .later }
def FnExactWriteLabCardSaid : Prop := Claim7.holds Tryz.pinned (.plain (OpenSpec.ofChange fnExactWriteLabSpec)) fnExactWriteLabCard

/-- THE SECOND FORM's CARD OF 'laws.FnExactTornCompact'. -/
def fnExactTornCompactUptoCard : Claim7 := { stood := { row := fnExactTornCompactUptoRow, standIns := [], harness := (true, "19563323d3411bc19455f17756ecb97706109c19c8173d447867e82ab5ab4d1f"), looks := true }, kinds := [], alts := [], laidByText := true, laidKinds := [.data, .data, .data, .data, .sentinel, .sentinel, .pinned], laidTests := true, laidLooks := .later }
def FnExactTornCompactUptoCardSaid : Prop := Claim7.holds Tryz.pinned (.plain (OpenSpec.upto fnExactTornCompactSpec)) fnExactTornCompactUptoCard

/-- THE SECOND FORM's CARD OF 'laws.FnExactCompactLab'. -/
def fnExactCompactLabUptoCard : Claim7 := { stood := { row := fnExactCompactLabUptoRow, standIns := [], harness := (true, "19563323d3411bc19455f17756ecb97706109c19c8173d447867e82ab5ab4d1f"), looks := true }, kinds := [], alts := [], laidByText := true, laidKinds := [.data, .data, .data, .data, .sentinel, .sentinel, .pinned], laidTests := true, laidLooks := .later }
def FnExactCompactLabUptoCardSaid : Prop := Claim7.holds Tryz.pinned (.plain (OpenSpec.upto fnExactCompactLabSpec)) fnExactCompactLabUptoCard

/-- THE SECOND FORM's CARD OF 'laws.FnExactRecoverLab'. -/
def fnExactRecoverLabUptoCard : Claim7 := { stood := { row := fnExactRecoverLabUptoRow, standIns := [], harness := (true, "19563323d3411bc19455f17756ecb97706109c19c8173d447867e82ab5ab4d1f"), looks := true }, kinds := [], alts := [], laidByText := true, laidKinds := [.data, .data, .data, .data, .sentinel, .sentinel, .pinned], laidTests := true, laidLooks := .later }
def FnExactRecoverLabUptoCardSaid : Prop := Claim7.holds Tryz.pinned (.plain (OpenSpec.upto fnExactRecoverLabSpec)) fnExactRecoverLabUptoCard

/-- THE SECOND FORM's CARD OF 'laws.FnExactWriteLab'. -/
def fnExactWriteLabUptoCard : Claim7 := { stood := { row := fnExactWriteLabUptoRow, standIns := [], harness := (true, "19563323d3411bc19455f17756ecb97706109c19c8173d447867e82ab5ab4d1f"), looks := true }, kinds := [], alts := [], laidByText := true, laidKinds := [.data, .data, .data, .data, .sentinel, .sentinel, .pinned], laidTests := true, laidLooks := .later }
def FnExactWriteLabUptoCardSaid : Prop := Claim7.holds Tryz.pinned (.plain (OpenSpec.upto fnExactWriteLabSpec)) fnExactWriteLabUptoCard
end Rows
end Go.Proofs.YtcfbkickiijjkaaGreatDoor
