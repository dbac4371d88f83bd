/-
  DERIVED. GIVEN WITH THE SEED: THE CARDS: each row of YthdfefgianokgaaGreatDoorRows.lean that lists a variable, with what it lists TIED to the program's text (the seventh form; the later family's looks); each row that meets fmt, with fmt's text TOLD by the authors' own Lean function (tested against real Go, not proved from fmt's source: count such statements apart). THE CARD IS WHAT COUNTS. Prove the row's statement (the work); the ties are given (YthdfefgianokgaaGreatDoorTie.lean); close each card by the builder's one call (the guide's Derived/Test/ToyasCard.lean, 'card_holds'). Laid BY PROGRAM, IN A SANDBOX (cutbox-door.mjs). By AI agents, Wed Nov 11 2026. No macro, syntax, notation, axiom, sorry.
-/
import Derived.Test.YthdfefgianokgaaGreatDoorRows
import GoSem.ClaimSeven
namespace Go.Proofs.YthdfefgianokgaaGreatDoor
namespace Rows

/-- THE TIED CARD OF 'laws.FnScript'. -/
def fnScriptCard : Claim7 := { stood := { row := fnScriptRow, standIns := [], harness := (true, "4ae1b8d79565bc8a5218aa1799116cff10eb7bd3daab60616d2e3a163fb46c94"), looks := false }, kinds := [], alts := [], laidByText := true, laidKinds := [.data, .data, .data, .data, .mapped, .mapped, .pinned], laidTests := true, laidLooks := .later }
def FnScriptCardSaid : Prop := Claim7.holds Tryz.pinned (.plain (OpenSpec.ofChange fnScriptSpec)) fnScriptCard

/-- THE TIED CARD OF 'laws.FnScriptCut'. -/
def fnScriptCutCard : Claim7 := { stood := { row := fnScriptCutRow, standIns := [], harness := (true, "4ae1b8d79565bc8a5218aa1799116cff10eb7bd3daab60616d2e3a163fb46c94"), looks := false }, kinds := [], alts := [], laidByText := true, laidKinds := [.data, .data, .data, .data, .mapped, .mapped, .pinned], laidTests := true, laidLooks := .later }
def FnScriptCutCardSaid : Prop := Claim7.holds Tryz.pinned (.plain (OpenSpec.ofChange fnScriptCutSpec)) fnScriptCutCard

/-- THE TIED CARD OF 'laws.FnScriptWhat'. -/
def fnScriptWhatCard : Claim7 := { stood := { row := fnScriptWhatRow, standIns := [], harness := (true, "4ae1b8d79565bc8a5218aa1799116cff10eb7bd3daab60616d2e3a163fb46c94"), looks := false }, kinds := [], alts := [], laidByText := true, laidKinds := [.data, .data, .data, .data, .mapped, .mapped, .pinned], laidTests := true, laidLooks := .later }
def FnScriptWhatCardSaid : Prop := Claim7.holds Tryz.pinned (.plain (OpenSpec.ofChange fnScriptWhatSpec)) fnScriptWhatCard

/-- THE TIED CARD OF 'laws.FnScriptNew'. -/
def fnScriptNewCard : Claim7 := { stood := { row := fnScriptNewRow, standIns := [], harness := (true, "4ae1b8d79565bc8a5218aa1799116cff10eb7bd3daab60616d2e3a163fb46c94"), looks := false }, kinds := [], alts := [], laidByText := true, laidKinds := [.data, .data, .data, .data, .mapped, .mapped, .pinned], laidTests := true, laidLooks := .later }
def FnScriptNewCardSaid : Prop := Claim7.holds Tryz.pinned (.plain (OpenSpec.ofChange fnScriptNewSpec)) fnScriptNewCard

/-- THE TIED CARD OF 'laws.FnScriptBad'. -/
def fnScriptBadCard : Claim7 := { stood := { row := fnScriptBadRow, standIns := [], harness := (true, "4ae1b8d79565bc8a5218aa1799116cff10eb7bd3daab60616d2e3a163fb46c94"), looks := false }, kinds := [], alts := [], laidByText := true, laidKinds := [.data, .data, .data, .data, .mapped, .mapped, .pinned], laidTests := true, laidLooks := .later }
def FnScriptBadCardSaid : Prop := Claim7.holds Tryz.pinned (.plain (OpenSpec.ofChange fnScriptBadSpec)) fnScriptBadCard

/-- THE TIED CARD OF 'laws.FnScriptDo'. -/
def fnScriptDoCard : Claim7 := { stood := { row := fnScriptDoRow, standIns := [], harness := (true, "4ae1b8d79565bc8a5218aa1799116cff10eb7bd3daab60616d2e3a163fb46c94"), looks := false }, kinds := [], alts := [], laidByText := true, laidKinds := [.data, .data, .data, .data, .mapped, .mapped, .pinned], laidTests := true, laidLooks := .later }
def FnScriptDoCardSaid : Prop := Claim7.holds Tryz.pinned (.plain (OpenSpec.ofChange fnScriptDoSpec)) fnScriptDoCard

/-- THE TIED CARD OF 'laws.FnScriptFail'. -/
def fnScriptFailCard : Claim7 := { stood := { row := fnScriptFailRow, standIns := [], harness := (true, "4ae1b8d79565bc8a5218aa1799116cff10eb7bd3daab60616d2e3a163fb46c94"), looks := false }, kinds := [], alts := [], laidByText := true, laidKinds := [.data, .data, .data, .data, .mapped, .mapped, .pinned], laidTests := true, laidLooks := .later }
def FnScriptFailCardSaid : Prop := Claim7.holds Tryz.pinned (.plain (OpenSpec.ofChange fnScriptFailSpec)) fnScriptFailCard

/-- THE TIED CARD OF 'laws.FnScriptMark'. -/
def fnScriptMarkCard : Claim7 := { stood := { row := fnScriptMarkRow, standIns := [], harness := (true, "4ae1b8d79565bc8a5218aa1799116cff10eb7bd3daab60616d2e3a163fb46c94"), looks := false }, kinds := [], alts := [], laidByText := true, laidKinds := [.data, .data, .data, .data, .mapped, .mapped, .pinned], laidTests := true, laidLooks := .later }
def FnScriptMarkCardSaid : Prop := Claim7.holds Tryz.pinned (.plain (OpenSpec.ofChange fnScriptMarkSpec)) fnScriptMarkCard

/-- THE TIED CARD OF 'laws.FnScriptMove'. -/
def fnScriptMoveCard : Claim7 := { stood := { row := fnScriptMoveRow, standIns := [], harness := (true, "4ae1b8d79565bc8a5218aa1799116cff10eb7bd3daab60616d2e3a163fb46c94"), looks := false }, kinds := [], alts := [], laidByText := true, laidKinds := [.data, .data, .data, .data, .mapped, .mapped, .pinned], laidTests := true, laidLooks := .later }
def FnScriptMoveCardSaid : Prop := Claim7.holds Tryz.pinned (.plain (OpenSpec.ofChange fnScriptMoveSpec)) fnScriptMoveCard

/-- THE TIED CARD OF 'laws.FnExactExecute'. -/
def fnExactExecuteCard : Claim7 := { stood := { row := fnExactExecuteRow, standIns := [], harness := (true, "4ae1b8d79565bc8a5218aa1799116cff10eb7bd3daab60616d2e3a163fb46c94"), looks := false }, kinds := [], alts := [], laidByText := true, laidKinds := [.data, .data, .data, .data, .mapped, .mapped, .pinned], laidTests := true, laidLooks := .later }
def FnExactExecuteCardSaid : Prop := Claim7.holds Tryz.pinned (.plain (OpenSpec.ofChange fnExactExecuteSpec)) fnExactExecuteCard

/-- THE SECOND FORM's CARD OF 'laws.FnScript'. -/
def fnScriptUptoCard : Claim7 := { stood := { row := fnScriptUptoRow, standIns := [], harness := (true, "4ae1b8d79565bc8a5218aa1799116cff10eb7bd3daab60616d2e3a163fb46c94"), looks := false }, kinds := [], alts := [], laidByText := true, laidKinds := [.data, .data, .data, .data, .mapped, .mapped, .pinned], laidTests := true, laidLooks := .later }
def FnScriptUptoCardSaid : Prop := Claim7.holds Tryz.pinned (.plain (OpenSpec.upto fnScriptSpec)) fnScriptUptoCard

/-- THE SECOND FORM's CARD OF 'laws.FnScriptCut'. -/
def fnScriptCutUptoCard : Claim7 := { stood := { row := fnScriptCutUptoRow, standIns := [], harness := (true, "4ae1b8d79565bc8a5218aa1799116cff10eb7bd3daab60616d2e3a163fb46c94"), looks := false }, kinds := [], alts := [], laidByText := true, laidKinds := [.data, .data, .data, .data, .mapped, .mapped, .pinned], laidTests := true, laidLooks := .later }
def FnScriptCutUptoCardSaid : Prop := Claim7.holds Tryz.pinned (.plain (OpenSpec.upto fnScriptCutSpec)) fnScriptCutUptoCard

/-- THE SECOND FORM's CARD OF 'laws.FnScriptWhat'. -/
def fnScriptWhatUptoCard : Claim7 := { stood := { row := fnScriptWhatUptoRow, standIns := [], harness := (true, "4ae1b8d79565bc8a5218aa1799116cff10eb7bd3daab60616d2e3a163fb46c94"), looks := false }, kinds := [], alts := [], laidByText := true, laidKinds := [.data, .data, .data, .data, .mapped, .mapped, .pinned], laidTests := true, laidLooks := .later }
def FnScriptWhatUptoCardSaid : Prop := Claim7.holds Tryz.pinned (.plain (OpenSpec.upto fnScriptWhatSpec)) fnScriptWhatUptoCard

/-- THE SECOND FORM's CARD OF 'laws.FnScriptNew'. -/
def fnScriptNewUptoCard : Claim7 := { stood := { row := fnScriptNewUptoRow, standIns := [], harness := (true, "4ae1b8d79565bc8a5218aa1799116cff10eb7bd3daab60616d2e3a163fb46c94"), looks := false }, kinds := [], alts := [], laidByText := true, laidKinds := [.data, .data, .data, .data, .mapped, .mapped, .pinned], laidTests := true, laidLooks := .later }
def FnScriptNewUptoCardSaid : Prop := Claim7.holds Tryz.pinned (.plain (OpenSpec.upto fnScriptNewSpec)) fnScriptNewUptoCard

/-- THE SECOND FORM's CARD OF 'laws.FnScriptBad'. -/
def fnScriptBadUptoCard : Claim7 := { stood := { row := fnScriptBadUptoRow, standIns := [], harness := (true, "4ae1b8d79565bc8a5218aa1799116cff10eb7bd3daab60616d2e3a163fb46c94"), looks := false }, kinds := [], alts := [], laidByText := true, laidKinds := [.data, .data, .data, .data, .mapped, .mapped, .pinned], laidTests := true, laidLooks := .later }
def FnScriptBadUptoCardSaid : Prop := Claim7.holds Tryz.pinned (.plain (OpenSpec.upto fnScriptBadSpec)) fnScriptBadUptoCard

/-- THE SECOND FORM's CARD OF 'laws.FnScriptDo'. -/
def fnScriptDoUptoCard : Claim7 := { stood := { row := fnScriptDoUptoRow, standIns := [], harness := (true, "4ae1b8d79565bc8a5218aa1799116cff10eb7bd3daab60616d2e3a163fb46c94"), looks := false }, kinds := [], alts := [], laidByText := true, laidKinds := [.data, .data, .data, .data, .mapped, .mapped, .pinned], laidTests := true, laidLooks := .later }
def FnScriptDoUptoCardSaid : Prop := Claim7.holds Tryz.pinned (.plain (OpenSpec.upto fnScriptDoSpec)) fnScriptDoUptoCard

/-- THE SECOND FORM's CARD OF 'laws.FnScriptFail'. -/
def fnScriptFailUptoCard : Claim7 := { stood := { row := fnScriptFailUptoRow, standIns := [], harness := (true, "4ae1b8d79565bc8a5218aa1799116cff10eb7bd3daab60616d2e3a163fb46c94"), looks := false }, kinds := [], alts := [], laidByText := true, laidKinds := [.data, .data, .data, .data, .mapped, .mapped, .pinned], laidTests := true, laidLooks := .later }
def FnScriptFailUptoCardSaid : Prop := Claim7.holds Tryz.pinned (.plain (OpenSpec.upto fnScriptFailSpec)) fnScriptFailUptoCard

/-- THE SECOND FORM's CARD OF 'laws.FnScriptMark'. -/
def fnScriptMarkUptoCard : Claim7 := { stood := { row := fnScriptMarkUptoRow, standIns := [], harness := (true, "4ae1b8d79565bc8a5218aa1799116cff10eb7bd3daab60616d2e3a163fb46c94"), looks := false }, kinds := [], alts := [], laidByText := true, laidKinds := [.data, .data, .data, .data, .mapped, .mapped, .pinned], laidTests := true, laidLooks := .later }
def FnScriptMarkUptoCardSaid : Prop := Claim7.holds Tryz.pinned (.plain (OpenSpec.upto fnScriptMarkSpec)) fnScriptMarkUptoCard

/-- THE SECOND FORM's CARD OF 'laws.FnScriptMove'. -/
def fnScriptMoveUptoCard : Claim7 := { stood := { row := fnScriptMoveUptoRow, standIns := [], harness := (true, "4ae1b8d79565bc8a5218aa1799116cff10eb7bd3daab60616d2e3a163fb46c94"), looks := false }, kinds := [], alts := [], laidByText := true, laidKinds := [.data, .data, .data, .data, .mapped, .mapped, .pinned], laidTests := true, laidLooks := .later }
def FnScriptMoveUptoCardSaid : Prop := Claim7.holds Tryz.pinned (.plain (OpenSpec.upto fnScriptMoveSpec)) fnScriptMoveUptoCard

/-- THE SECOND FORM's CARD OF 'laws.FnExactExecute'. -/
def fnExactExecuteUptoCard : Claim7 := { stood := { row := fnExactExecuteUptoRow, standIns := [], harness := (true, "4ae1b8d79565bc8a5218aa1799116cff10eb7bd3daab60616d2e3a163fb46c94"), looks := false }, kinds := [], alts := [], laidByText := true, laidKinds := [.data, .data, .data, .data, .mapped, .mapped, .pinned], laidTests := true, laidLooks := .later }
def FnExactExecuteUptoCardSaid : Prop := Claim7.holds Tryz.pinned (.plain (OpenSpec.upto fnExactExecuteSpec)) fnExactExecuteUptoCard
end Rows
end Go.Proofs.YthdfefgianokgaaGreatDoor
