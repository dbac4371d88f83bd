/-
  DERIVED. GIVEN WITH THE SEED: THE CARDS: each row of YtakeijgoonagcaaDoorRows.lean that lists a variable, with what it lists TIED to the program's text (the seventh form; the later family's looks); each row that meets fmt, with fmt's text TOLD by the authors' own Lean function (tested against real Go, not proved from fmt's source: count such statements apart). THE CARD IS WHAT COUNTS. Prove the row's statement (the work); the ties are given (YtakeijgoonagcaaDoorTie.lean); close each card by the builder's one call (the guide's Derived/Test/ToyasCard.lean, 'card_holds'). Laid BY PROGRAM, IN A SANDBOX (cutbox-door.mjs). By AI agents, Wed Nov 11 2026. No macro, syntax, notation, axiom, sorry.
-/
import Derived.Test.YtakeijgoonagcaaDoorRows
import GoSem.ClaimSeven
namespace Go.Proofs.YtakeijgoonagcaaDoor
namespace Rows

/-- THE TIED CARD OF 'laws.FnStepText'. -/
def fnStepTextCard : Claim7 := { stood := { row := fnStepTextRow, standIns := [], harness := (true, "d41f6e2eeca5048754fb2b70cc2f8ea81a566315561e7dfd5c971d084c9f0c8f"), looks := false }, kinds := [], alts := [], laidByText := true, laidKinds := [.data, .pinned], laidTests := true, laidLooks := .later }
def FnStepTextCardSaid : Prop := Claim7.holds Tryd.pinned (.plain (OpenSpec.ofChange fnStepTextSpec)) fnStepTextCard

/-- THE SECOND FORM's CARD OF 'laws.FnStepText'. -/
def fnStepTextUptoCard : Claim7 := { stood := { row := fnStepTextUptoRow, standIns := [], harness := (true, "d41f6e2eeca5048754fb2b70cc2f8ea81a566315561e7dfd5c971d084c9f0c8f"), looks := false }, kinds := [], alts := [], laidByText := true, laidKinds := [.data, .pinned], laidTests := true, laidLooks := .later }
def FnStepTextUptoCardSaid : Prop := Claim7.holds Tryd.pinned (.plain (OpenSpec.upto fnStepTextSpec)) fnStepTextUptoCard
end Rows
end Go.Proofs.YtakeijgoonagcaaDoor
