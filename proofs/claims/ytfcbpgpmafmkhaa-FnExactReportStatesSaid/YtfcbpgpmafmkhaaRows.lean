/-
  No cell of these rows narrows 'for every input' (looked for: loops, veiled, ifaces, maps, wideKeys, modest, calm, conditions, laid).
  DERIVED. THE GIVEN ROWS OF THIS SEAT. 12 by the template 'for every input the law returns true; each argument reads behind the call as it read before'; 0 by the template 'total and deterministic' (their statements: YtfcbpgpmafmkhaaTotals.lean).
  GIVEN WITH THE SEED: the statements are not yours to turn. If you find one false, say at which input.
  Laid BY PROGRAM, IN A SANDBOX (cutbox-rows.mjs): the forced cells as the released guide's own fill.sh prints them over the translation 1a47bc4ee68d0bd8… (all of the seat's roots in one cut). By AI agents, Wed Nov 11 2026. No macro, syntax, notation, axiom, sorry.
-/
import Derived.Test.YtfcbpgpmafmkhaaChecked
import GoSem.Claim
import GoSem.ClaimJoined
import GoSem.ClaimMapViews
import Derived.JoinedTies
import Derived.KernelRfl
namespace Go.Proofs.Ytfcbpgpmafmkhaa
/- THE CELL 'sum', in the pinned program and in every row, IS THE sha256 OF THE DUMP (.gsa) THAT YtfcbpgpmafmkhaaProg.lean LOADS. Nothing in Lean hashes anything: it is a label: what it is worth is what the hold of that sum in a sandbox is worth. -/
noncomputable def Try.pinned : Pinned := { name := "ytfcbpgpmafmkhaa", sum := "1a47bc4ee68d0bd84150f1a4c846caec44f5067a00a7fe8989c63971367783d2", checked := Try.checked }
namespace Rows
def none {H : Type} : Left H := { results := [], args := [] }

/-- 'laws.FnExactCountOrders': WHATEVER THE INPUT: true; the input reads as it did. -/
def fnExactCountOrdersSpec : ChangeSpec := { name := "fnExactCountOrders", fn := fun _ => fun
  | [d] => { results := [.lit (.bool true)], args := [d] }
  | _ => none }
def fnExactCountOrdersRow : OpenClaim := { program := "ytfcbpgpmafmkhaa", sum := "1a47bc4ee68d0bd84150f1a4c846caec44f5067a00a7fe8989c63971367783d2", func := "loop.example/sagaflows/laws.FnExactCountOrders", spec := "fnExactCountOrders", recurses := true, apart := false }
def FnExactCountOrdersSaid : Prop := fnExactCountOrdersRow.holds Try.pinned (OpenSpec.ofChange fnExactCountOrdersSpec)

/-- ITS FALSE NEIGHBOUR: 'it returns false'. Refute it at one input. -/
def fnExactCountOrdersWrong : ChangeSpec := { name := "fnExactCountOrders", fn := fun _ => fun
  | [d] => { results := [.lit (.bool false)], args := [d] }
  | _ => none }
def FnExactCountOrdersWrongFalsely : Prop := fnExactCountOrdersRow.holds Try.pinned (OpenSpec.ofChange fnExactCountOrdersWrong)

/-- 'laws.FnExactCountDepth': WHATEVER THE INPUT: true; the input reads as it did. -/
def fnExactCountDepthSpec : ChangeSpec := { name := "fnExactCountDepth", fn := fun _ => fun
  | [d] => { results := [.lit (.bool true)], args := [d] }
  | _ => none }
def fnExactCountDepthRow : OpenClaim := { program := "ytfcbpgpmafmkhaa", sum := "1a47bc4ee68d0bd84150f1a4c846caec44f5067a00a7fe8989c63971367783d2", func := "loop.example/sagaflows/laws.FnExactCountDepth", spec := "fnExactCountDepth", apart := false }
def FnExactCountDepthSaid : Prop := fnExactCountDepthRow.holds Try.pinned (OpenSpec.ofChange fnExactCountDepthSpec)

/-- ITS FALSE NEIGHBOUR: 'it returns false'. Refute it at one input. -/
def fnExactCountDepthWrong : ChangeSpec := { name := "fnExactCountDepth", fn := fun _ => fun
  | [d] => { results := [.lit (.bool false)], args := [d] }
  | _ => none }
def FnExactCountDepthWrongFalsely : Prop := fnExactCountDepthRow.holds Try.pinned (OpenSpec.ofChange fnExactCountDepthWrong)

/-- 'laws.FnExactCountWide': WHATEVER THE INPUT: true; the input reads as it did. -/
def fnExactCountWideSpec : ChangeSpec := { name := "fnExactCountWide", fn := fun _ => fun
  | [d] => { results := [.lit (.bool true)], args := [d] }
  | _ => none }
def fnExactCountWideRow : OpenClaim := { program := "ytfcbpgpmafmkhaa", sum := "1a47bc4ee68d0bd84150f1a4c846caec44f5067a00a7fe8989c63971367783d2", func := "loop.example/sagaflows/laws.FnExactCountWide", spec := "fnExactCountWide", unfollowed := true, recurses := true, apart := false }
def FnExactCountWideSaid : Prop := fnExactCountWideRow.holds Try.pinned (OpenSpec.ofChange fnExactCountWideSpec)

/-- ITS FALSE NEIGHBOUR: 'it returns false'. Refute it at one input. -/
def fnExactCountWideWrong : ChangeSpec := { name := "fnExactCountWide", fn := fun _ => fun
  | [d] => { results := [.lit (.bool false)], args := [d] }
  | _ => none }
def FnExactCountWideWrongFalsely : Prop := fnExactCountWideRow.holds Try.pinned (OpenSpec.ofChange fnExactCountWideWrong)

/-- 'laws.FnPoolPart': WHATEVER THE INPUT: true; the input reads as it did. -/
def fnPoolPartSpec : ChangeSpec := { name := "fnPoolPart", fn := fun _ => fun
  | [d1, d2] => { results := [.lit (.bool true)], args := [d1, d2] }
  | _ => none }
def fnPoolPartRow : OpenClaim := { program := "ytfcbpgpmafmkhaa", sum := "1a47bc4ee68d0bd84150f1a4c846caec44f5067a00a7fe8989c63971367783d2", func := "loop.example/sagaflows/laws.FnPoolPart", spec := "fnPoolPart", unfollowed := true, recurses := true, apart := false }
def FnPoolPartSaid : Prop := fnPoolPartRow.holds Try.pinned (OpenSpec.ofChange fnPoolPartSpec)

/-- ITS FALSE NEIGHBOUR: 'it returns false'. Refute it at one input. -/
def fnPoolPartWrong : ChangeSpec := { name := "fnPoolPart", fn := fun _ => fun
  | [d1, d2] => { results := [.lit (.bool false)], args := [d1, d2] }
  | _ => none }
def FnPoolPartWrongFalsely : Prop := fnPoolPartRow.holds Try.pinned (OpenSpec.ofChange fnPoolPartWrong)

/-- 'laws.FnStates': WHATEVER THE INPUT: true; the input reads as it did. -/
def fnStatesSpec : ChangeSpec := { name := "fnStates", fn := fun _ => fun
  | [d] => { results := [.lit (.bool true)], args := [d] }
  | _ => none }
def fnStatesRow : OpenClaim := { program := "ytfcbpgpmafmkhaa", sum := "1a47bc4ee68d0bd84150f1a4c846caec44f5067a00a7fe8989c63971367783d2", func := "loop.example/sagaflows/laws.FnStates", spec := "fnStates", unfollowed := true, recurses := true, apart := false }
def FnStatesSaid : Prop := fnStatesRow.holds Try.pinned (OpenSpec.ofChange fnStatesSpec)

/-- ITS FALSE NEIGHBOUR: 'it returns false'. Refute it at one input. -/
def fnStatesWrong : ChangeSpec := { name := "fnStates", fn := fun _ => fun
  | [d] => { results := [.lit (.bool false)], args := [d] }
  | _ => none }
def FnStatesWrongFalsely : Prop := fnStatesRow.holds Try.pinned (OpenSpec.ofChange fnStatesWrong)

/-- 'laws.FnSteps': WHATEVER THE INPUT: true; the input reads as it did. -/
def fnStepsSpec : ChangeSpec := { name := "fnSteps", fn := fun _ => fun
  | [d] => { results := [.lit (.bool true)], args := [d] }
  | _ => none }
def fnStepsRow : OpenClaim := { program := "ytfcbpgpmafmkhaa", sum := "1a47bc4ee68d0bd84150f1a4c846caec44f5067a00a7fe8989c63971367783d2", func := "loop.example/sagaflows/laws.FnSteps", spec := "fnSteps", unfollowed := true, recurses := true, apart := false }
def FnStepsSaid : Prop := fnStepsRow.holds Try.pinned (OpenSpec.ofChange fnStepsSpec)

/-- ITS FALSE NEIGHBOUR: 'it returns false'. Refute it at one input. -/
def fnStepsWrong : ChangeSpec := { name := "fnSteps", fn := fun _ => fun
  | [d] => { results := [.lit (.bool false)], args := [d] }
  | _ => none }
def FnStepsWrongFalsely : Prop := fnStepsRow.holds Try.pinned (OpenSpec.ofChange fnStepsWrong)

/-- 'laws.FnStepsAfter': WHATEVER THE INPUT: true; the input reads as it did. -/
def fnStepsAfterSpec : ChangeSpec := { name := "fnStepsAfter", fn := fun _ => fun
  | [d] => { results := [.lit (.bool true)], args := [d] }
  | _ => none }
def fnStepsAfterRow : OpenClaim := { program := "ytfcbpgpmafmkhaa", sum := "1a47bc4ee68d0bd84150f1a4c846caec44f5067a00a7fe8989c63971367783d2", func := "loop.example/sagaflows/laws.FnStepsAfter", spec := "fnStepsAfter", unfollowed := true, recurses := true, apart := false }
def FnStepsAfterSaid : Prop := fnStepsAfterRow.holds Try.pinned (OpenSpec.ofChange fnStepsAfterSpec)

/-- ITS FALSE NEIGHBOUR: 'it returns false'. Refute it at one input. -/
def fnStepsAfterWrong : ChangeSpec := { name := "fnStepsAfter", fn := fun _ => fun
  | [d] => { results := [.lit (.bool false)], args := [d] }
  | _ => none }
def FnStepsAfterWrongFalsely : Prop := fnStepsAfterRow.holds Try.pinned (OpenSpec.ofChange fnStepsAfterWrong)

/-- 'laws.FnStatesClear': WHATEVER THE INPUT: true; the input reads as it did. -/
def fnStatesClearSpec : ChangeSpec := { name := "fnStatesClear", fn := fun _ => fun
  | [d] => { results := [.lit (.bool true)], args := [d] }
  | _ => none }
def fnStatesClearRow : OpenClaim := { program := "ytfcbpgpmafmkhaa", sum := "1a47bc4ee68d0bd84150f1a4c846caec44f5067a00a7fe8989c63971367783d2", func := "loop.example/sagaflows/laws.FnStatesClear", spec := "fnStatesClear", unfollowed := true, recurses := true, apart := false }
def FnStatesClearSaid : Prop := fnStatesClearRow.holds Try.pinned (OpenSpec.ofChange fnStatesClearSpec)

/-- ITS FALSE NEIGHBOUR: 'it returns false'. Refute it at one input. -/
def fnStatesClearWrong : ChangeSpec := { name := "fnStatesClear", fn := fun _ => fun
  | [d] => { results := [.lit (.bool false)], args := [d] }
  | _ => none }
def FnStatesClearWrongFalsely : Prop := fnStatesClearRow.holds Try.pinned (OpenSpec.ofChange fnStatesClearWrong)

/-- 'laws.FnExactPoolValid': WHATEVER THE INPUT: true; the input reads as it did. -/
def fnExactPoolValidSpec : ChangeSpec := { name := "fnExactPoolValid", fn := fun _ => fun
  | [d1, d2] => { results := [.lit (.bool true)], args := [d1, d2] }
  | _ => none }
def fnExactPoolValidRow : OpenClaim := { program := "ytfcbpgpmafmkhaa", sum := "1a47bc4ee68d0bd84150f1a4c846caec44f5067a00a7fe8989c63971367783d2", func := "loop.example/sagaflows/laws.FnExactPoolValid", spec := "fnExactPoolValid", unfollowed := true, recurses := true, apart := false }
def FnExactPoolValidSaid : Prop := fnExactPoolValidRow.holds Try.pinned (OpenSpec.ofChange fnExactPoolValidSpec)

/-- ITS FALSE NEIGHBOUR: 'it returns false'. Refute it at one input. -/
def fnExactPoolValidWrong : ChangeSpec := { name := "fnExactPoolValid", fn := fun _ => fun
  | [d1, d2] => { results := [.lit (.bool false)], args := [d1, d2] }
  | _ => none }
def FnExactPoolValidWrongFalsely : Prop := fnExactPoolValidRow.holds Try.pinned (OpenSpec.ofChange fnExactPoolValidWrong)

/-- 'laws.FnPoolClearTwice': WHATEVER THE INPUT: true; the input reads as it did. -/
def fnPoolClearTwiceSpec : ChangeSpec := { name := "fnPoolClearTwice", fn := fun _ => fun
  | [d] => { results := [.lit (.bool true)], args := [d] }
  | _ => none }
def fnPoolClearTwiceRow : OpenClaim := { program := "ytfcbpgpmafmkhaa", sum := "1a47bc4ee68d0bd84150f1a4c846caec44f5067a00a7fe8989c63971367783d2", func := "loop.example/sagaflows/laws.FnPoolClearTwice", spec := "fnPoolClearTwice", unfollowed := true, recurses := true, apart := false }
def FnPoolClearTwiceSaid : Prop := fnPoolClearTwiceRow.holds Try.pinned (OpenSpec.ofChange fnPoolClearTwiceSpec)

/-- ITS FALSE NEIGHBOUR: 'it returns false'. Refute it at one input. -/
def fnPoolClearTwiceWrong : ChangeSpec := { name := "fnPoolClearTwice", fn := fun _ => fun
  | [d] => { results := [.lit (.bool false)], args := [d] }
  | _ => none }
def FnPoolClearTwiceWrongFalsely : Prop := fnPoolClearTwiceRow.holds Try.pinned (OpenSpec.ofChange fnPoolClearTwiceWrong)

/-- 'laws.FnPoolClear': WHATEVER THE INPUT: true; the input reads as it did. -/
def fnPoolClearSpec : ChangeSpec := { name := "fnPoolClear", fn := fun _ => fun
  | [d] => { results := [.lit (.bool true)], args := [d] }
  | _ => none }
def fnPoolClearRow : OpenClaim := { program := "ytfcbpgpmafmkhaa", sum := "1a47bc4ee68d0bd84150f1a4c846caec44f5067a00a7fe8989c63971367783d2", func := "loop.example/sagaflows/laws.FnPoolClear", spec := "fnPoolClear", unfollowed := true, recurses := true, apart := false }
def FnPoolClearSaid : Prop := fnPoolClearRow.holds Try.pinned (OpenSpec.ofChange fnPoolClearSpec)

/-- ITS FALSE NEIGHBOUR: 'it returns false'. Refute it at one input. -/
def fnPoolClearWrong : ChangeSpec := { name := "fnPoolClear", fn := fun _ => fun
  | [d] => { results := [.lit (.bool false)], args := [d] }
  | _ => none }
def FnPoolClearWrongFalsely : Prop := fnPoolClearRow.holds Try.pinned (OpenSpec.ofChange fnPoolClearWrong)

/-- 'laws.FnExactReportStates': WHATEVER THE INPUT: true; the input reads as it did. -/
def fnExactReportStatesSpec : ChangeSpec := { name := "fnExactReportStates", fn := fun _ => fun
  | [d1, d2] => { results := [.lit (.bool true)], args := [d1, d2] }
  | _ => none }
def fnExactReportStatesRow : OpenClaim := { program := "ytfcbpgpmafmkhaa", sum := "1a47bc4ee68d0bd84150f1a4c846caec44f5067a00a7fe8989c63971367783d2", func := "loop.example/sagaflows/laws.FnExactReportStates", spec := "fnExactReportStates", unfollowed := true, recurses := true, apart := false }
def FnExactReportStatesSaid : Prop := fnExactReportStatesRow.holds Try.pinned (OpenSpec.ofChange fnExactReportStatesSpec)

/-- ITS FALSE NEIGHBOUR: 'it returns false'. Refute it at one input. -/
def fnExactReportStatesWrong : ChangeSpec := { name := "fnExactReportStates", fn := fun _ => fun
  | [d1, d2] => { results := [.lit (.bool false)], args := [d1, d2] }
  | _ => none }
def FnExactReportStatesWrongFalsely : Prop := fnExactReportStatesRow.holds Try.pinned (OpenSpec.ofChange fnExactReportStatesWrong)

/- THE SECOND FORM. 'bulk': how many values and letters a reading holds, each counted each time it is reached (what is shared counts as often as it is met; a slice's spare places count too). A statement '..UptoSaid' is the law's where the arguments, and the package variables that the reading takes, are together of bulk at most 1048576: NARROWER than '..Said'. Prove '..Said' where nothing that the law and all that it calls make is longer than what came in: it says more and counts as full. Else prove '..UptoSaid'. A law counts once. -/
mutual
def uptoBulk {H : Type} : DataW H → Nat
  | .lit (.string bytes) => bytes.length + 1
  | .lit _ => 1
  | .nil => 1
  | .ptr d => uptoBulk d + 1
  | .slice elems spare => uptoBulkAll elems + uptoBulkAll spare + 1
  | .agg parts => uptoBulkAll parts + 1
  | .iface _ d => uptoBulk d + 1
  | .map entries => uptoBulkEntries entries + 1
  | .held _ => 1
def uptoBulkAll {H : Type} : List (DataW H) → Nat
  | [] => 0
  | d :: r => uptoBulk d + uptoBulkAll r
def uptoBulkEntries {H : Type} : List (Lit × DataW H) → Nat
  | [] => 0
  | x :: r => uptoBulkEntry x + uptoBulkEntries r
def uptoBulkEntry {H : Type} : Lit × DataW H → Nat
  | (.string bytes, d) => bytes.length + uptoBulk d + 1
  | (_, d) => uptoBulk d + 1
 end
def uptoSmall : (H : Type) → List (DataW H) → Bool := fun _ ds => decide (uptoBulkAll ds ≤ 1048576)
def OpenSpec.upto (s : _root_.Go.ChangeSpec) : _root_.Go.OpenSpec := { _root_.Go.OpenSpec.ofChange s with cond := some uptoSmall }

/-- 'laws.FnExactCountOrders', WHERE WHAT IT READS IS OF BULK AT MOST 1048576: true; the input reads as it did. -/
def fnExactCountOrdersUptoRow : OpenClaim := { program := "ytfcbpgpmafmkhaa", sum := "1a47bc4ee68d0bd84150f1a4c846caec44f5067a00a7fe8989c63971367783d2", func := "loop.example/sagaflows/laws.FnExactCountOrders", spec := "fnExactCountOrders", recurses := true, apart := false, narrowed := true }
def FnExactCountOrdersUptoSaid : Prop := fnExactCountOrdersUptoRow.holds Try.pinned (OpenSpec.upto fnExactCountOrdersSpec)

/-- 'laws.FnExactCountDepth', WHERE WHAT IT READS IS OF BULK AT MOST 1048576: true; the input reads as it did. -/
def fnExactCountDepthUptoRow : OpenClaim := { program := "ytfcbpgpmafmkhaa", sum := "1a47bc4ee68d0bd84150f1a4c846caec44f5067a00a7fe8989c63971367783d2", func := "loop.example/sagaflows/laws.FnExactCountDepth", spec := "fnExactCountDepth", apart := false, narrowed := true }
def FnExactCountDepthUptoSaid : Prop := fnExactCountDepthUptoRow.holds Try.pinned (OpenSpec.upto fnExactCountDepthSpec)

/-- 'laws.FnExactCountWide', WHERE WHAT IT READS IS OF BULK AT MOST 1048576: true; the input reads as it did. -/
def fnExactCountWideUptoRow : OpenClaim := { program := "ytfcbpgpmafmkhaa", sum := "1a47bc4ee68d0bd84150f1a4c846caec44f5067a00a7fe8989c63971367783d2", func := "loop.example/sagaflows/laws.FnExactCountWide", spec := "fnExactCountWide", unfollowed := true, recurses := true, apart := false, narrowed := true }
def FnExactCountWideUptoSaid : Prop := fnExactCountWideUptoRow.holds Try.pinned (OpenSpec.upto fnExactCountWideSpec)

/-- 'laws.FnPoolPart', WHERE WHAT IT READS IS OF BULK AT MOST 1048576: true; the input reads as it did. -/
def fnPoolPartUptoRow : OpenClaim := { program := "ytfcbpgpmafmkhaa", sum := "1a47bc4ee68d0bd84150f1a4c846caec44f5067a00a7fe8989c63971367783d2", func := "loop.example/sagaflows/laws.FnPoolPart", spec := "fnPoolPart", unfollowed := true, recurses := true, apart := false, narrowed := true }
def FnPoolPartUptoSaid : Prop := fnPoolPartUptoRow.holds Try.pinned (OpenSpec.upto fnPoolPartSpec)

/-- 'laws.FnStates', WHERE WHAT IT READS IS OF BULK AT MOST 1048576: true; the input reads as it did. -/
def fnStatesUptoRow : OpenClaim := { program := "ytfcbpgpmafmkhaa", sum := "1a47bc4ee68d0bd84150f1a4c846caec44f5067a00a7fe8989c63971367783d2", func := "loop.example/sagaflows/laws.FnStates", spec := "fnStates", unfollowed := true, recurses := true, apart := false, narrowed := true }
def FnStatesUptoSaid : Prop := fnStatesUptoRow.holds Try.pinned (OpenSpec.upto fnStatesSpec)

/-- 'laws.FnSteps', WHERE WHAT IT READS IS OF BULK AT MOST 1048576: true; the input reads as it did. -/
def fnStepsUptoRow : OpenClaim := { program := "ytfcbpgpmafmkhaa", sum := "1a47bc4ee68d0bd84150f1a4c846caec44f5067a00a7fe8989c63971367783d2", func := "loop.example/sagaflows/laws.FnSteps", spec := "fnSteps", unfollowed := true, recurses := true, apart := false, narrowed := true }
def FnStepsUptoSaid : Prop := fnStepsUptoRow.holds Try.pinned (OpenSpec.upto fnStepsSpec)

/-- 'laws.FnStepsAfter', WHERE WHAT IT READS IS OF BULK AT MOST 1048576: true; the input reads as it did. -/
def fnStepsAfterUptoRow : OpenClaim := { program := "ytfcbpgpmafmkhaa", sum := "1a47bc4ee68d0bd84150f1a4c846caec44f5067a00a7fe8989c63971367783d2", func := "loop.example/sagaflows/laws.FnStepsAfter", spec := "fnStepsAfter", unfollowed := true, recurses := true, apart := false, narrowed := true }
def FnStepsAfterUptoSaid : Prop := fnStepsAfterUptoRow.holds Try.pinned (OpenSpec.upto fnStepsAfterSpec)

/-- 'laws.FnStatesClear', WHERE WHAT IT READS IS OF BULK AT MOST 1048576: true; the input reads as it did. -/
def fnStatesClearUptoRow : OpenClaim := { program := "ytfcbpgpmafmkhaa", sum := "1a47bc4ee68d0bd84150f1a4c846caec44f5067a00a7fe8989c63971367783d2", func := "loop.example/sagaflows/laws.FnStatesClear", spec := "fnStatesClear", unfollowed := true, recurses := true, apart := false, narrowed := true }
def FnStatesClearUptoSaid : Prop := fnStatesClearUptoRow.holds Try.pinned (OpenSpec.upto fnStatesClearSpec)

/-- 'laws.FnExactPoolValid', WHERE WHAT IT READS IS OF BULK AT MOST 1048576: true; the input reads as it did. -/
def fnExactPoolValidUptoRow : OpenClaim := { program := "ytfcbpgpmafmkhaa", sum := "1a47bc4ee68d0bd84150f1a4c846caec44f5067a00a7fe8989c63971367783d2", func := "loop.example/sagaflows/laws.FnExactPoolValid", spec := "fnExactPoolValid", unfollowed := true, recurses := true, apart := false, narrowed := true }
def FnExactPoolValidUptoSaid : Prop := fnExactPoolValidUptoRow.holds Try.pinned (OpenSpec.upto fnExactPoolValidSpec)

/-- 'laws.FnPoolClearTwice', WHERE WHAT IT READS IS OF BULK AT MOST 1048576: true; the input reads as it did. -/
def fnPoolClearTwiceUptoRow : OpenClaim := { program := "ytfcbpgpmafmkhaa", sum := "1a47bc4ee68d0bd84150f1a4c846caec44f5067a00a7fe8989c63971367783d2", func := "loop.example/sagaflows/laws.FnPoolClearTwice", spec := "fnPoolClearTwice", unfollowed := true, recurses := true, apart := false, narrowed := true }
def FnPoolClearTwiceUptoSaid : Prop := fnPoolClearTwiceUptoRow.holds Try.pinned (OpenSpec.upto fnPoolClearTwiceSpec)

/-- 'laws.FnPoolClear', WHERE WHAT IT READS IS OF BULK AT MOST 1048576: true; the input reads as it did. -/
def fnPoolClearUptoRow : OpenClaim := { program := "ytfcbpgpmafmkhaa", sum := "1a47bc4ee68d0bd84150f1a4c846caec44f5067a00a7fe8989c63971367783d2", func := "loop.example/sagaflows/laws.FnPoolClear", spec := "fnPoolClear", unfollowed := true, recurses := true, apart := false, narrowed := true }
def FnPoolClearUptoSaid : Prop := fnPoolClearUptoRow.holds Try.pinned (OpenSpec.upto fnPoolClearSpec)

/-- 'laws.FnExactReportStates', WHERE WHAT IT READS IS OF BULK AT MOST 1048576: true; the input reads as it did. -/
def fnExactReportStatesUptoRow : OpenClaim := { program := "ytfcbpgpmafmkhaa", sum := "1a47bc4ee68d0bd84150f1a4c846caec44f5067a00a7fe8989c63971367783d2", func := "loop.example/sagaflows/laws.FnExactReportStates", spec := "fnExactReportStates", unfollowed := true, recurses := true, apart := false, narrowed := true }
def FnExactReportStatesUptoSaid : Prop := fnExactReportStatesUptoRow.holds Try.pinned (OpenSpec.upto fnExactReportStatesSpec)

end Rows
end Go.Proofs.Ytfcbpgpmafmkhaa
