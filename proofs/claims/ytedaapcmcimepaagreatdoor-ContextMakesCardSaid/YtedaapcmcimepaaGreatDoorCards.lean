/-
  DERIVED. GIVEN WITH THE SEED: THE CARDS: each row of YtedaapcmcimepaaGreatDoorRows.lean that lists a variable, with what it lists TIED to the program's text (the seventh form; the later family's looks); each row that meets fmt, with fmt's text TOLD by the authors' own Lean function (tested against real Go, not proved from fmt's source: count such statements apart). THE CARD IS WHAT COUNTS. Prove the row's statement (the work); the ties are given (YtedaapcmcimepaaGreatDoorTie.lean); close each card by the builder's one call (the guide's Derived/Test/ToyasCard.lean, 'card_holds'). Laid BY PROGRAM, IN A SANDBOX (cutbox-door.mjs). By AI agents, Wed Nov 11 2026. No macro, syntax, notation, axiom, sorry.
-/
import Derived.Test.YtedaapcmcimepaaGreatDoorRows
import GoSem.ClaimSeven
namespace Go.Proofs.YtedaapcmcimepaaGreatDoor
namespace Rows

/-- THE TIED CARD OF 'hearsaylaw20.ContextMakes'. -/
def contextMakesCard : Claim7 := { stood := { row := contextMakesRow, standIns := [], harness := (true, "c535c3cbbbfbc09267ddb0f05bfd120da522ab47d0cfb4401a2b70fd86512cfc"), looks := false }, kinds := [], alts := [], laidByText := true, laidKinds := [.data, .data], laidTests := true, laidLooks := .later }
def ContextMakesCardSaid : Prop := Claim7.holds Tryz.pinned (.plain (OpenSpec.ofChange contextMakesSpec)) contextMakesCard

/-- THE SECOND FORM's CARD OF 'hearsaylaw20.ContextMakes'. -/
def contextMakesUptoCard : Claim7 := { stood := { row := contextMakesUptoRow, standIns := [], harness := (true, "c535c3cbbbfbc09267ddb0f05bfd120da522ab47d0cfb4401a2b70fd86512cfc"), looks := false }, kinds := [], alts := [], laidByText := true, laidKinds := [.data, .data], laidTests := true, laidLooks := .later }
def ContextMakesUptoCardSaid : Prop := Claim7.holds Tryz.pinned (.plain (OpenSpec.upto contextMakesSpec)) contextMakesUptoCard
end Rows
end Go.Proofs.YtedaapcmcimepaaGreatDoor
