/-
  DERIVED. GIVEN WITH THE SEED: THE CARDS: each row of YthdfefgianokgaaDoorRows.lean that lists a variable, with what it lists TIED to the program's text (the seventh form; the later family's looks); each row that meets fmt, with fmt's text TOLD by the authors' own Lean function (tested against real Go, not proved from fmt's source: count such statements apart). THE CARD IS WHAT COUNTS. Prove the row's statement (the work); the ties are given (YthdfefgianokgaaDoorTie.lean); close each card by the builder's one call (the guide's Derived/Test/ToyasCard.lean, 'card_holds'). Laid BY PROGRAM, IN A SANDBOX (cutbox-door.mjs). By AI agents, Wed Nov 11 2026. No macro, syntax, notation, axiom, sorry.
-/
import Derived.Test.YthdfefgianokgaaDoorRows
import GoSem.ClaimSeven
namespace Go.Proofs.YthdfefgianokgaaDoor
namespace Rows

/-- THE TIED CARD OF 'laws.FnStepText'. -/
def fnStepTextCard : Claim7 := { stood := { row := fnStepTextRow, standIns := [], harness := (true, "05a2e773086ec8f16f3b576cffbc84fafc3dbb5bbf478d849398300ae947e02d"), looks := false }, kinds := [], alts := [], laidByText := true, laidKinds := [.data, .pinned], laidTests := true, laidLooks := .later }
def FnStepTextCardSaid : Prop := Claim7.holds Tryd.pinned (.plain (OpenSpec.ofChange fnStepTextSpec)) fnStepTextCard

/-- THE TIED CARD OF 'laws.FnExactStepFrom'. -/
def fnExactStepFromCard : Claim7 := { stood := { row := fnExactStepFromRow, standIns := [], harness := (true, "05a2e773086ec8f16f3b576cffbc84fafc3dbb5bbf478d849398300ae947e02d"), looks := false }, kinds := [], alts := [], laidByText := true, laidKinds := [.data, .pinned], laidTests := true, laidLooks := .later }
def FnExactStepFromCardSaid : Prop := Claim7.holds Tryd.pinned (.plain (OpenSpec.ofChange fnExactStepFromSpec)) fnExactStepFromCard

/-- THE TIED CARD OF 'laws.FnStepFrom'. -/
def fnStepFromCard : Claim7 := { stood := { row := fnStepFromRow, standIns := [], harness := (true, "05a2e773086ec8f16f3b576cffbc84fafc3dbb5bbf478d849398300ae947e02d"), looks := false }, kinds := [], alts := [], laidByText := true, laidKinds := [.data, .pinned], laidTests := true, laidLooks := .later }
def FnStepFromCardSaid : Prop := Claim7.holds Tryd.pinned (.plain (OpenSpec.ofChange fnStepFromSpec)) fnStepFromCard

/-- THE TIED CARD OF 'laws.FnStepFromNot'. -/
def fnStepFromNotCard : Claim7 := { stood := { row := fnStepFromNotRow, standIns := [], harness := (true, "05a2e773086ec8f16f3b576cffbc84fafc3dbb5bbf478d849398300ae947e02d"), looks := false }, kinds := [], alts := [], laidByText := true, laidKinds := [.data, .pinned], laidTests := true, laidLooks := .later }
def FnStepFromNotCardSaid : Prop := Claim7.holds Tryd.pinned (.plain (OpenSpec.ofChange fnStepFromNotSpec)) fnStepFromNotCard

/-- THE TIED CARD OF 'laws.FnFlowText'. -/
def fnFlowTextCard : Claim7 := { stood := { row := fnFlowTextRow, standIns := [], harness := (true, "05a2e773086ec8f16f3b576cffbc84fafc3dbb5bbf478d849398300ae947e02d"), looks := false }, kinds := [], alts := [], laidByText := true, laidKinds := [.data, .data, .data], laidTests := true, laidLooks := .later }
def FnFlowTextCardSaid : Prop := Claim7.holds Tryd.pinned (.plain (OpenSpec.ofChange fnFlowTextSpec)) fnFlowTextCard

/-- THE TIED CARD OF 'laws.FnFlowTextSame'. -/
def fnFlowTextSameCard : Claim7 := { stood := { row := fnFlowTextSameRow, standIns := [], harness := (true, "05a2e773086ec8f16f3b576cffbc84fafc3dbb5bbf478d849398300ae947e02d"), looks := false }, kinds := [], alts := [], laidByText := true, laidKinds := [.data, .data, .data], laidTests := true, laidLooks := .later }
def FnFlowTextSameCardSaid : Prop := Claim7.holds Tryd.pinned (.plain (OpenSpec.ofChange fnFlowTextSameSpec)) fnFlowTextSameCard

/-- THE TIED CARD OF 'laws.FnExactFlowText'. -/
def fnExactFlowTextCard : Claim7 := { stood := { row := fnExactFlowTextRow, standIns := [], harness := (true, "05a2e773086ec8f16f3b576cffbc84fafc3dbb5bbf478d849398300ae947e02d"), looks := false }, kinds := [], alts := [], laidByText := true, laidKinds := [.data, .data, .data], laidTests := true, laidLooks := .later }
def FnExactFlowTextCardSaid : Prop := Claim7.holds Tryd.pinned (.plain (OpenSpec.ofChange fnExactFlowTextSpec)) fnExactFlowTextCard

/-- THE SECOND FORM's CARD OF 'laws.FnStepText'. -/
def fnStepTextUptoCard : Claim7 := { stood := { row := fnStepTextUptoRow, standIns := [], harness := (true, "05a2e773086ec8f16f3b576cffbc84fafc3dbb5bbf478d849398300ae947e02d"), looks := false }, kinds := [], alts := [], laidByText := true, laidKinds := [.data, .pinned], laidTests := true, laidLooks := .later }
def FnStepTextUptoCardSaid : Prop := Claim7.holds Tryd.pinned (.plain (OpenSpec.upto fnStepTextSpec)) fnStepTextUptoCard

/-- THE SECOND FORM's CARD OF 'laws.FnExactStepFrom'. -/
def fnExactStepFromUptoCard : Claim7 := { stood := { row := fnExactStepFromUptoRow, standIns := [], harness := (true, "05a2e773086ec8f16f3b576cffbc84fafc3dbb5bbf478d849398300ae947e02d"), looks := false }, kinds := [], alts := [], laidByText := true, laidKinds := [.data, .pinned], laidTests := true, laidLooks := .later }
def FnExactStepFromUptoCardSaid : Prop := Claim7.holds Tryd.pinned (.plain (OpenSpec.upto fnExactStepFromSpec)) fnExactStepFromUptoCard

/-- THE SECOND FORM's CARD OF 'laws.FnStepFrom'. -/
def fnStepFromUptoCard : Claim7 := { stood := { row := fnStepFromUptoRow, standIns := [], harness := (true, "05a2e773086ec8f16f3b576cffbc84fafc3dbb5bbf478d849398300ae947e02d"), looks := false }, kinds := [], alts := [], laidByText := true, laidKinds := [.data, .pinned], laidTests := true, laidLooks := .later }
def FnStepFromUptoCardSaid : Prop := Claim7.holds Tryd.pinned (.plain (OpenSpec.upto fnStepFromSpec)) fnStepFromUptoCard

/-- THE SECOND FORM's CARD OF 'laws.FnStepFromNot'. -/
def fnStepFromNotUptoCard : Claim7 := { stood := { row := fnStepFromNotUptoRow, standIns := [], harness := (true, "05a2e773086ec8f16f3b576cffbc84fafc3dbb5bbf478d849398300ae947e02d"), looks := false }, kinds := [], alts := [], laidByText := true, laidKinds := [.data, .pinned], laidTests := true, laidLooks := .later }
def FnStepFromNotUptoCardSaid : Prop := Claim7.holds Tryd.pinned (.plain (OpenSpec.upto fnStepFromNotSpec)) fnStepFromNotUptoCard

/-- THE SECOND FORM's CARD OF 'laws.FnFlowText'. -/
def fnFlowTextUptoCard : Claim7 := { stood := { row := fnFlowTextUptoRow, standIns := [], harness := (true, "05a2e773086ec8f16f3b576cffbc84fafc3dbb5bbf478d849398300ae947e02d"), looks := false }, kinds := [], alts := [], laidByText := true, laidKinds := [.data, .data, .data], laidTests := true, laidLooks := .later }
def FnFlowTextUptoCardSaid : Prop := Claim7.holds Tryd.pinned (.plain (OpenSpec.upto fnFlowTextSpec)) fnFlowTextUptoCard

/-- THE SECOND FORM's CARD OF 'laws.FnFlowTextSame'. -/
def fnFlowTextSameUptoCard : Claim7 := { stood := { row := fnFlowTextSameUptoRow, standIns := [], harness := (true, "05a2e773086ec8f16f3b576cffbc84fafc3dbb5bbf478d849398300ae947e02d"), looks := false }, kinds := [], alts := [], laidByText := true, laidKinds := [.data, .data, .data], laidTests := true, laidLooks := .later }
def FnFlowTextSameUptoCardSaid : Prop := Claim7.holds Tryd.pinned (.plain (OpenSpec.upto fnFlowTextSameSpec)) fnFlowTextSameUptoCard

/-- THE SECOND FORM's CARD OF 'laws.FnExactFlowText'. -/
def fnExactFlowTextUptoCard : Claim7 := { stood := { row := fnExactFlowTextUptoRow, standIns := [], harness := (true, "05a2e773086ec8f16f3b576cffbc84fafc3dbb5bbf478d849398300ae947e02d"), looks := false }, kinds := [], alts := [], laidByText := true, laidKinds := [.data, .data, .data], laidTests := true, laidLooks := .later }
def FnExactFlowTextUptoCardSaid : Prop := Claim7.holds Tryd.pinned (.plain (OpenSpec.upto fnExactFlowTextSpec)) fnExactFlowTextUptoCard
end Rows
end Go.Proofs.YthdfefgianokgaaDoor
