/-
  DERIVED. GIVEN WITH THE SEED: THE CARDS: each row of YtbchhehecdoonaaDoorRows.lean that lists a variable, with what it lists TIED to the program's text (the seventh form; the later family's looks); each row that meets fmt, with fmt's text TOLD by the authors' own Lean function (tested against real Go, not proved from fmt's source: count such statements apart). THE CARD IS WHAT COUNTS. Prove the row's statement (the work); the ties are given (YtbchhehecdoonaaDoorTie.lean); close each card by the builder's one call (the guide's Derived/Test/ToyasCard.lean, 'card_holds'). Laid BY PROGRAM, IN A SANDBOX (cutbox-door.mjs). By AI agents, Wed Nov 11 2026. No macro, syntax, notation, axiom, sorry.
-/
import Derived.Test.YtbchhehecdoonaaDoorRows
import GoSem.ClaimSeven
namespace Go.Proofs.YtbchhehecdoonaaDoor
namespace Rows

/-- THE TIED CARD OF 'laws.FnExactIsStore'. -/
def fnExactIsStoreCard : Claim7 := { stood := { row := fnExactIsStoreRow, standIns := [], harness := (true, "13fe9e7dbb2a62f1eb0dd85cb3be2d8cbcece6b91e2c206b59382ec0734eb0a5"), looks := true }, kinds := [], alts := [], laidByText := true, laidKinds := [.data, .pinned], laidTests := true, laidLooks := .later }
def FnExactIsStoreCardSaid : Prop := Claim7.holds Tryd.pinned (.plain (OpenSpec.ofChange fnExactIsStoreSpec)) fnExactIsStoreCard

/-- THE TIED CARD OF 'laws.FnExactParseWalk'. -/
def fnExactParseWalkCard : Claim7 := { stood := { row := fnExactParseWalkRow, standIns := [], harness := (true, "13fe9e7dbb2a62f1eb0dd85cb3be2d8cbcece6b91e2c206b59382ec0734eb0a5"), looks := true }, kinds := [], alts := [], laidByText := true, laidKinds := [.data, .data, .data, .data, .sentinel, .sentinel, .pinned], laidTests := true, laidLooks := .later }
def FnExactParseWalkCardSaid : Prop := Claim7.holds Tryd.pinned (.plain (OpenSpec.ofChange fnExactParseWalkSpec)) fnExactParseWalkCard

/-- THE SECOND FORM's CARD OF 'laws.FnExactIsStore'. -/
def fnExactIsStoreUptoCard : Claim7 := { stood := { row := fnExactIsStoreUptoRow, standIns := [], harness := (true, "13fe9e7dbb2a62f1eb0dd85cb3be2d8cbcece6b91e2c206b59382ec0734eb0a5"), looks := true }, kinds := [], alts := [], laidByText := true, laidKinds := [.data, .pinned], laidTests := true, laidLooks := .later }
def FnExactIsStoreUptoCardSaid : Prop := Claim7.holds Tryd.pinned (.plain (OpenSpec.upto fnExactIsStoreSpec)) fnExactIsStoreUptoCard

/-- THE SECOND FORM's CARD OF 'laws.FnExactParseWalk'. -/
def fnExactParseWalkUptoCard : Claim7 := { stood := { row := fnExactParseWalkUptoRow, standIns := [], harness := (true, "13fe9e7dbb2a62f1eb0dd85cb3be2d8cbcece6b91e2c206b59382ec0734eb0a5"), looks := true }, kinds := [], alts := [], laidByText := true, laidKinds := [.data, .data, .data, .data, .sentinel, .sentinel, .pinned], laidTests := true, laidLooks := .later }
def FnExactParseWalkUptoCardSaid : Prop := Claim7.holds Tryd.pinned (.plain (OpenSpec.upto fnExactParseWalkSpec)) fnExactParseWalkUptoCard
end Rows
end Go.Proofs.YtbchhehecdoonaaDoor
