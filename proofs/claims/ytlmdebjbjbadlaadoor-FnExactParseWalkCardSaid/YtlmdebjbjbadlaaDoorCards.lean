/-
  DERIVED. GIVEN WITH THE SEED: THE CARDS: each row of YtlmdebjbjbadlaaDoorRows.lean that lists a variable, with what it lists TIED to the program's text (the seventh form; the later family's looks); each row that meets fmt, with fmt's text TOLD by the authors' own Lean function (tested against real Go, not proved from fmt's source: count such statements apart). THE CARD IS WHAT COUNTS. Prove the row's statement (the work); the ties are given (YtlmdebjbjbadlaaDoorTie.lean); close each card by the builder's one call (the guide's Derived/Test/ToyasCard.lean, 'card_holds'). Laid BY PROGRAM, IN A SANDBOX (cutbox-door.mjs). By AI agents, Wed Nov 11 2026. No macro, syntax, notation, axiom, sorry.
-/
import Derived.Test.YtlmdebjbjbadlaaDoorRows
import GoSem.ClaimSeven
namespace Go.Proofs.YtlmdebjbjbadlaaDoor
namespace Rows

/-- THE TIED CARD OF 'laws.FnExactParseWalk'. -/
def fnExactParseWalkCard : Claim7 := { stood := { row := fnExactParseWalkRow, standIns := [], harness := (true, "b6df546c40387110553c5d9cca2e1056b6d4f27ffb989ab32521d9d28e147708"), looks := true }, kinds := [], alts := [], laidByText := true, laidKinds := [.data, .data, .data, .data, .sentinel, .sentinel, .pinned], laidTests := true, laidLooks := .later }
def FnExactParseWalkCardSaid : Prop := Claim7.holds Tryd.pinned (.plain (OpenSpec.ofChange fnExactParseWalkSpec)) fnExactParseWalkCard

/-- THE SECOND FORM's CARD OF 'laws.FnExactParseWalk'. -/
def fnExactParseWalkUptoCard : Claim7 := { stood := { row := fnExactParseWalkUptoRow, standIns := [], harness := (true, "b6df546c40387110553c5d9cca2e1056b6d4f27ffb989ab32521d9d28e147708"), looks := true }, kinds := [], alts := [], laidByText := true, laidKinds := [.data, .data, .data, .data, .sentinel, .sentinel, .pinned], laidTests := true, laidLooks := .later }
def FnExactParseWalkUptoCardSaid : Prop := Claim7.holds Tryd.pinned (.plain (OpenSpec.upto fnExactParseWalkSpec)) fnExactParseWalkUptoCard
end Rows
end Go.Proofs.YtlmdebjbjbadlaaDoor
