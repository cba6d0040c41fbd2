/-
  DERIVED. GIVEN WITH THE SEED: THE CARDS: each row of YtekmgbeaoojdcaaDoorRows.lean that lists a variable, with what it lists TIED to the program's text (the seventh form; the later family's looks); each row that meets fmt, with fmt's text TOLD by the authors' own Lean function (tested against real Go, not proved from fmt's source: count such statements apart). THE CARD IS WHAT COUNTS. Prove the row's statement (the work); the ties are given (YtekmgbeaoojdcaaDoorTie.lean); close each card by the builder's one call (the guide's Derived/Test/ToyasCard.lean, 'card_holds'). Laid BY PROGRAM, IN A SANDBOX (cutbox-door.mjs). By AI agents, Wed Nov 11 2026. No macro, syntax, notation, axiom, sorry.
-/
import Derived.Test.YtekmgbeaoojdcaaDoorRows
import GoSem.ClaimSeven
namespace Go.Proofs.YtekmgbeaoojdcaaDoor
namespace Rows

/-- THE TIED CARD OF 'postilionlaw15.PartTells'. -/
def partTellsCard : Claim7 := { stood := { row := partTellsRow, standIns := [], harness := (true, "da4da2ebe9937f7e95a7cc8d2bee9306683a9b9bddd1ef2ac49cdc1169d6ad3b"), looks := false }, kinds := [], alts := [], laidByText := true, laidKinds := [.data, .data, .data], laidTests := true, laidLooks := .later }
def PartTellsCardSaid : Prop := Claim7.holds Tryd.pinned (.plain (OpenSpec.ofChange partTellsSpec)) partTellsCard

/-- THE SECOND FORM's CARD OF 'postilionlaw15.PartTells'. -/
def partTellsUptoCard : Claim7 := { stood := { row := partTellsUptoRow, standIns := [], harness := (true, "da4da2ebe9937f7e95a7cc8d2bee9306683a9b9bddd1ef2ac49cdc1169d6ad3b"), looks := false }, kinds := [], alts := [], laidByText := true, laidKinds := [.data, .data, .data], laidTests := true, laidLooks := .later }
def PartTellsUptoCardSaid : Prop := Claim7.holds Tryd.pinned (.plain (OpenSpec.upto partTellsSpec)) partTellsUptoCard
end Rows
end Go.Proofs.YtekmgbeaoojdcaaDoor
