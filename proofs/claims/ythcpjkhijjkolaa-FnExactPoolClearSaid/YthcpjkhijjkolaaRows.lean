/-
  No cell of these rows narrows 'for every input' (looked for: loops, veiled, ifaces, maps, wideKeys, modest, calm, conditions, laid).
  DERIVED. THE GIVEN ROWS OF THIS SEAT. 11 by the template 'for every input the law returns true; each argument reads behind the call as it read before'; 0 by the template 'total and deterministic' (their statements: YthcpjkhijjkolaaTotals.lean).
  GIVEN WITH THE SEED: the statements are not yours to turn. If you find one false, say at which input.
  Laid BY PROGRAM, IN A SANDBOX (cutbox-rows.mjs): the forced cells as the released guide's own fill.sh prints them over the translation 98794c37cae6f73d… (all of the seat's roots in one cut). By AI agents, Wed Nov 11 2026. No macro, syntax, notation, axiom, sorry.
-/
import Derived.Test.YthcpjkhijjkolaaChecked
import GoSem.Claim
import GoSem.ClaimJoined
import GoSem.ClaimMapViews
import Derived.JoinedTies
import Derived.KernelRfl
namespace Go.Proofs.Ythcpjkhijjkolaa
/- THE CELL 'sum', in the pinned program and in every row, IS THE sha256 OF THE DUMP (.gsa) THAT YthcpjkhijjkolaaProg.lean LOADS. Nothing in Lean hashes anything: it is a label: what it is worth is what the hold of that sum in a sandbox is worth. -/
noncomputable def Try.pinned : Pinned := { name := "ythcpjkhijjkolaa", sum := "98794c37cae6f73df0973c9c8b18bf13761546fd6f7238749f8c3849a4847c9c", checked := Try.checked }
namespace Rows
def none {H : Type} : Left H := { results := [], args := [] }

/-- 'laws.FnExactRunText': WHATEVER THE INPUT: true; the input reads as it did. -/
def fnExactRunTextSpec : ChangeSpec := { name := "fnExactRunText", fn := fun _ => fun
  | [d1, d2] => { results := [.lit (.bool true)], args := [d1, d2] }
  | _ => none }
def fnExactRunTextRow : OpenClaim := { program := "ythcpjkhijjkolaa", sum := "98794c37cae6f73df0973c9c8b18bf13761546fd6f7238749f8c3849a4847c9c", func := "loop.example/sagaflows/laws.FnExactRunText", spec := "fnExactRunText", inPlace := ["internal/abi.NoEscape", "internal/bytealg.MakeNoZero"], unfollowed := true, recurses := true, apart := false }
def FnExactRunTextSaid : Prop := fnExactRunTextRow.holds Try.pinned (OpenSpec.ofChange fnExactRunTextSpec)

/-- ITS FALSE NEIGHBOUR: 'it returns false'. Refute it at one input. -/
def fnExactRunTextWrong : ChangeSpec := { name := "fnExactRunText", fn := fun _ => fun
  | [d1, d2] => { results := [.lit (.bool false)], args := [d1, d2] }
  | _ => none }
def FnExactRunTextWrongFalsely : Prop := fnExactRunTextRow.holds Try.pinned (OpenSpec.ofChange fnExactRunTextWrong)

/-- 'laws.FnRunText': WHATEVER THE INPUT: true; the input reads as it did. -/
def fnRunTextSpec : ChangeSpec := { name := "fnRunText", fn := fun _ => fun
  | [d] => { results := [.lit (.bool true)], args := [d] }
  | _ => none }
def fnRunTextRow : OpenClaim := { program := "ythcpjkhijjkolaa", sum := "98794c37cae6f73df0973c9c8b18bf13761546fd6f7238749f8c3849a4847c9c", func := "loop.example/sagaflows/laws.FnRunText", spec := "fnRunText", inPlace := ["internal/abi.NoEscape", "internal/bytealg.MakeNoZero"], unfollowed := true, recurses := true, apart := false }
def FnRunTextSaid : Prop := fnRunTextRow.holds Try.pinned (OpenSpec.ofChange fnRunTextSpec)

/-- ITS FALSE NEIGHBOUR: 'it returns false'. Refute it at one input. -/
def fnRunTextWrong : ChangeSpec := { name := "fnRunText", fn := fun _ => fun
  | [d] => { results := [.lit (.bool false)], args := [d] }
  | _ => none }
def FnRunTextWrongFalsely : Prop := fnRunTextRow.holds Try.pinned (OpenSpec.ofChange fnRunTextWrong)

/-- 'laws.FnRunTextDo': WHATEVER THE INPUT: true; the input reads as it did. -/
def fnRunTextDoSpec : ChangeSpec := { name := "fnRunTextDo", fn := fun _ => fun
  | [d] => { results := [.lit (.bool true)], args := [d] }
  | _ => none }
def fnRunTextDoRow : OpenClaim := { program := "ythcpjkhijjkolaa", sum := "98794c37cae6f73df0973c9c8b18bf13761546fd6f7238749f8c3849a4847c9c", func := "loop.example/sagaflows/laws.FnRunTextDo", spec := "fnRunTextDo", inPlace := ["internal/abi.NoEscape", "internal/bytealg.MakeNoZero"], unfollowed := true, recurses := true, apart := false }
def FnRunTextDoSaid : Prop := fnRunTextDoRow.holds Try.pinned (OpenSpec.ofChange fnRunTextDoSpec)

/-- ITS FALSE NEIGHBOUR: 'it returns false'. Refute it at one input. -/
def fnRunTextDoWrong : ChangeSpec := { name := "fnRunTextDo", fn := fun _ => fun
  | [d] => { results := [.lit (.bool false)], args := [d] }
  | _ => none }
def FnRunTextDoWrongFalsely : Prop := fnRunTextDoRow.holds Try.pinned (OpenSpec.ofChange fnRunTextDoWrong)

/-- 'laws.FnSlowNone': WHATEVER THE INPUT: true; the input reads as it did. -/
def fnSlowNoneSpec : ChangeSpec := { name := "fnSlowNone", fn := fun _ => fun
  | [d] => { results := [.lit (.bool true)], args := [d] }
  | _ => none }
def fnSlowNoneRow : OpenClaim := { program := "ythcpjkhijjkolaa", sum := "98794c37cae6f73df0973c9c8b18bf13761546fd6f7238749f8c3849a4847c9c", func := "loop.example/sagaflows/laws.FnSlowNone", spec := "fnSlowNone", unfollowed := true, recurses := true, apart := false }
def FnSlowNoneSaid : Prop := fnSlowNoneRow.holds Try.pinned (OpenSpec.ofChange fnSlowNoneSpec)

/-- ITS FALSE NEIGHBOUR: 'it returns false'. Refute it at one input. -/
def fnSlowNoneWrong : ChangeSpec := { name := "fnSlowNone", fn := fun _ => fun
  | [d] => { results := [.lit (.bool false)], args := [d] }
  | _ => none }
def FnSlowNoneWrongFalsely : Prop := fnSlowNoneRow.holds Try.pinned (OpenSpec.ofChange fnSlowNoneWrong)

/-- 'laws.FnSlow': WHATEVER THE INPUT: true; the input reads as it did. -/
def fnSlowSpec : ChangeSpec := { name := "fnSlow", fn := fun _ => fun
  | [d] => { results := [.lit (.bool true)], args := [d] }
  | _ => none }
def fnSlowRow : OpenClaim := { program := "ythcpjkhijjkolaa", sum := "98794c37cae6f73df0973c9c8b18bf13761546fd6f7238749f8c3849a4847c9c", func := "loop.example/sagaflows/laws.FnSlow", spec := "fnSlow", unfollowed := true, recurses := true, apart := false }
def FnSlowSaid : Prop := fnSlowRow.holds Try.pinned (OpenSpec.ofChange fnSlowSpec)

/-- ITS FALSE NEIGHBOUR: 'it returns false'. Refute it at one input. -/
def fnSlowWrong : ChangeSpec := { name := "fnSlow", fn := fun _ => fun
  | [d] => { results := [.lit (.bool false)], args := [d] }
  | _ => none }
def FnSlowWrongFalsely : Prop := fnSlowRow.holds Try.pinned (OpenSpec.ofChange fnSlowWrong)

/-- 'laws.FnExactReportSlow': WHATEVER THE INPUT: true; the input reads as it did. -/
def fnExactReportSlowSpec : ChangeSpec := { name := "fnExactReportSlow", fn := fun _ => fun
  | [d1, d2] => { results := [.lit (.bool true)], args := [d1, d2] }
  | _ => none }
def fnExactReportSlowRow : OpenClaim := { program := "ythcpjkhijjkolaa", sum := "98794c37cae6f73df0973c9c8b18bf13761546fd6f7238749f8c3849a4847c9c", func := "loop.example/sagaflows/laws.FnExactReportSlow", spec := "fnExactReportSlow", unfollowed := true, recurses := true, apart := false }
def FnExactReportSlowSaid : Prop := fnExactReportSlowRow.holds Try.pinned (OpenSpec.ofChange fnExactReportSlowSpec)

/-- ITS FALSE NEIGHBOUR: 'it returns false'. Refute it at one input. -/
def fnExactReportSlowWrong : ChangeSpec := { name := "fnExactReportSlow", fn := fun _ => fun
  | [d1, d2] => { results := [.lit (.bool false)], args := [d1, d2] }
  | _ => none }
def FnExactReportSlowWrongFalsely : Prop := fnExactReportSlowRow.holds Try.pinned (OpenSpec.ofChange fnExactReportSlowWrong)

/-- 'laws.FnExactReportSteps': WHATEVER THE INPUT: true; the input reads as it did. -/
def fnExactReportStepsSpec : ChangeSpec := { name := "fnExactReportSteps", fn := fun _ => fun
  | [d1, d2] => { results := [.lit (.bool true)], args := [d1, d2] }
  | _ => none }
def fnExactReportStepsRow : OpenClaim := { program := "ythcpjkhijjkolaa", sum := "98794c37cae6f73df0973c9c8b18bf13761546fd6f7238749f8c3849a4847c9c", func := "loop.example/sagaflows/laws.FnExactReportSteps", spec := "fnExactReportSteps", unfollowed := true, recurses := true, apart := false }
def FnExactReportStepsSaid : Prop := fnExactReportStepsRow.holds Try.pinned (OpenSpec.ofChange fnExactReportStepsSpec)

/-- ITS FALSE NEIGHBOUR: 'it returns false'. Refute it at one input. -/
def fnExactReportStepsWrong : ChangeSpec := { name := "fnExactReportSteps", fn := fun _ => fun
  | [d1, d2] => { results := [.lit (.bool false)], args := [d1, d2] }
  | _ => none }
def FnExactReportStepsWrongFalsely : Prop := fnExactReportStepsRow.holds Try.pinned (OpenSpec.ofChange fnExactReportStepsWrong)

/-- 'laws.FnExactPoolClear': WHATEVER THE INPUT: true; the input reads as it did. -/
def fnExactPoolClearSpec : ChangeSpec := { name := "fnExactPoolClear", fn := fun _ => fun
  | [d1, d2] => { results := [.lit (.bool true)], args := [d1, d2] }
  | _ => none }
def fnExactPoolClearRow : OpenClaim := { program := "ythcpjkhijjkolaa", sum := "98794c37cae6f73df0973c9c8b18bf13761546fd6f7238749f8c3849a4847c9c", func := "loop.example/sagaflows/laws.FnExactPoolClear", spec := "fnExactPoolClear", unfollowed := true, recurses := true, apart := false }
def FnExactPoolClearSaid : Prop := fnExactPoolClearRow.holds Try.pinned (OpenSpec.ofChange fnExactPoolClearSpec)

/-- ITS FALSE NEIGHBOUR: 'it returns false'. Refute it at one input. -/
def fnExactPoolClearWrong : ChangeSpec := { name := "fnExactPoolClear", fn := fun _ => fun
  | [d1, d2] => { results := [.lit (.bool false)], args := [d1, d2] }
  | _ => none }
def FnExactPoolClearWrongFalsely : Prop := fnExactPoolClearRow.holds Try.pinned (OpenSpec.ofChange fnExactPoolClearWrong)

/-- 'laws.FnPoolEventOthers': WHATEVER THE INPUT: true; the input reads as it did. -/
def fnPoolEventOthersSpec : ChangeSpec := { name := "fnPoolEventOthers", fn := fun _ => fun
  | [d] => { results := [.lit (.bool true)], args := [d] }
  | _ => none }
def fnPoolEventOthersRow : OpenClaim := { program := "ythcpjkhijjkolaa", sum := "98794c37cae6f73df0973c9c8b18bf13761546fd6f7238749f8c3849a4847c9c", func := "loop.example/sagaflows/laws.FnPoolEventOthers", spec := "fnPoolEventOthers", unfollowed := true, recurses := true, apart := false }
def FnPoolEventOthersSaid : Prop := fnPoolEventOthersRow.holds Try.pinned (OpenSpec.ofChange fnPoolEventOthersSpec)

/-- ITS FALSE NEIGHBOUR: 'it returns false'. Refute it at one input. -/
def fnPoolEventOthersWrong : ChangeSpec := { name := "fnPoolEventOthers", fn := fun _ => fun
  | [d] => { results := [.lit (.bool false)], args := [d] }
  | _ => none }
def FnPoolEventOthersWrongFalsely : Prop := fnPoolEventOthersRow.holds Try.pinned (OpenSpec.ofChange fnPoolEventOthersWrong)

/-- 'laws.FnPoolEvent': WHATEVER THE INPUT: true; the input reads as it did. -/
def fnPoolEventSpec : ChangeSpec := { name := "fnPoolEvent", fn := fun _ => fun
  | [d] => { results := [.lit (.bool true)], args := [d] }
  | _ => none }
def fnPoolEventRow : OpenClaim := { program := "ythcpjkhijjkolaa", sum := "98794c37cae6f73df0973c9c8b18bf13761546fd6f7238749f8c3849a4847c9c", func := "loop.example/sagaflows/laws.FnPoolEvent", spec := "fnPoolEvent", unfollowed := true, recurses := true, apart := false }
def FnPoolEventSaid : Prop := fnPoolEventRow.holds Try.pinned (OpenSpec.ofChange fnPoolEventSpec)

/-- ITS FALSE NEIGHBOUR: 'it returns false'. Refute it at one input. -/
def fnPoolEventWrong : ChangeSpec := { name := "fnPoolEvent", fn := fun _ => fun
  | [d] => { results := [.lit (.bool false)], args := [d] }
  | _ => none }
def FnPoolEventWrongFalsely : Prop := fnPoolEventRow.holds Try.pinned (OpenSpec.ofChange fnPoolEventWrong)

/-- 'laws.FnExactPoolEvent': WHATEVER THE INPUT: true; the input reads as it did. -/
def fnExactPoolEventSpec : ChangeSpec := { name := "fnExactPoolEvent", fn := fun _ => fun
  | [d1, d2, d3, d4] => { results := [.lit (.bool true)], args := [d1, d2, d3, d4] }
  | _ => none }
def fnExactPoolEventRow : OpenClaim := { program := "ythcpjkhijjkolaa", sum := "98794c37cae6f73df0973c9c8b18bf13761546fd6f7238749f8c3849a4847c9c", func := "loop.example/sagaflows/laws.FnExactPoolEvent", spec := "fnExactPoolEvent", unfollowed := true, recurses := true, apart := false }
def FnExactPoolEventSaid : Prop := fnExactPoolEventRow.holds Try.pinned (OpenSpec.ofChange fnExactPoolEventSpec)

/-- ITS FALSE NEIGHBOUR: 'it returns false'. Refute it at one input. -/
def fnExactPoolEventWrong : ChangeSpec := { name := "fnExactPoolEvent", fn := fun _ => fun
  | [d1, d2, d3, d4] => { results := [.lit (.bool false)], args := [d1, d2, d3, d4] }
  | _ => none }
def FnExactPoolEventWrongFalsely : Prop := fnExactPoolEventRow.holds Try.pinned (OpenSpec.ofChange fnExactPoolEventWrong)

/- THE SECOND FORM. 'bulk': how many values and letters a reading holds, each counted each time it is reached (what is shared counts as often as it is met; a slice's spare places count too). A statement '..UptoSaid' is the law's where the arguments, and the package variables that the reading takes, are together of bulk at most 1048576: NARROWER than '..Said'. Prove '..Said' where nothing that the law and all that it calls make is longer than what came in: it says more and counts as full. Else prove '..UptoSaid'. A law counts once. -/
mutual
def uptoBulk {H : Type} : DataW H → Nat
  | .lit (.string bytes) => bytes.length + 1
  | .lit _ => 1
  | .nil => 1
  | .ptr d => uptoBulk d + 1
  | .slice elems spare => uptoBulkAll elems + uptoBulkAll spare + 1
  | .agg parts => uptoBulkAll parts + 1
  | .iface _ d => uptoBulk d + 1
  | .map entries => uptoBulkEntries entries + 1
  | .held _ => 1
def uptoBulkAll {H : Type} : List (DataW H) → Nat
  | [] => 0
  | d :: r => uptoBulk d + uptoBulkAll r
def uptoBulkEntries {H : Type} : List (Lit × DataW H) → Nat
  | [] => 0
  | x :: r => uptoBulkEntry x + uptoBulkEntries r
def uptoBulkEntry {H : Type} : Lit × DataW H → Nat
  | (.string bytes, d) => bytes.length + uptoBulk d + 1
  | (_, d) => uptoBulk d + 1
 end
def uptoSmall : (H : Type) → List (DataW H) → Bool := fun _ ds => decide (uptoBulkAll ds ≤ 1048576)
def OpenSpec.upto (s : _root_.Go.ChangeSpec) : _root_.Go.OpenSpec := { _root_.Go.OpenSpec.ofChange s with cond := some uptoSmall }

/-- 'laws.FnExactRunText', WHERE WHAT IT READS IS OF BULK AT MOST 1048576: true; the input reads as it did. -/
def fnExactRunTextUptoRow : OpenClaim := { program := "ythcpjkhijjkolaa", sum := "98794c37cae6f73df0973c9c8b18bf13761546fd6f7238749f8c3849a4847c9c", func := "loop.example/sagaflows/laws.FnExactRunText", spec := "fnExactRunText", inPlace := ["internal/abi.NoEscape", "internal/bytealg.MakeNoZero"], unfollowed := true, recurses := true, apart := false, narrowed := true }
def FnExactRunTextUptoSaid : Prop := fnExactRunTextUptoRow.holds Try.pinned (OpenSpec.upto fnExactRunTextSpec)

/-- 'laws.FnRunText', WHERE WHAT IT READS IS OF BULK AT MOST 1048576: true; the input reads as it did. -/
def fnRunTextUptoRow : OpenClaim := { program := "ythcpjkhijjkolaa", sum := "98794c37cae6f73df0973c9c8b18bf13761546fd6f7238749f8c3849a4847c9c", func := "loop.example/sagaflows/laws.FnRunText", spec := "fnRunText", inPlace := ["internal/abi.NoEscape", "internal/bytealg.MakeNoZero"], unfollowed := true, recurses := true, apart := false, narrowed := true }
def FnRunTextUptoSaid : Prop := fnRunTextUptoRow.holds Try.pinned (OpenSpec.upto fnRunTextSpec)

/-- 'laws.FnRunTextDo', WHERE WHAT IT READS IS OF BULK AT MOST 1048576: true; the input reads as it did. -/
def fnRunTextDoUptoRow : OpenClaim := { program := "ythcpjkhijjkolaa", sum := "98794c37cae6f73df0973c9c8b18bf13761546fd6f7238749f8c3849a4847c9c", func := "loop.example/sagaflows/laws.FnRunTextDo", spec := "fnRunTextDo", inPlace := ["internal/abi.NoEscape", "internal/bytealg.MakeNoZero"], unfollowed := true, recurses := true, apart := false, narrowed := true }
def FnRunTextDoUptoSaid : Prop := fnRunTextDoUptoRow.holds Try.pinned (OpenSpec.upto fnRunTextDoSpec)

/-- 'laws.FnSlowNone', WHERE WHAT IT READS IS OF BULK AT MOST 1048576: true; the input reads as it did. -/
def fnSlowNoneUptoRow : OpenClaim := { program := "ythcpjkhijjkolaa", sum := "98794c37cae6f73df0973c9c8b18bf13761546fd6f7238749f8c3849a4847c9c", func := "loop.example/sagaflows/laws.FnSlowNone", spec := "fnSlowNone", unfollowed := true, recurses := true, apart := false, narrowed := true }
def FnSlowNoneUptoSaid : Prop := fnSlowNoneUptoRow.holds Try.pinned (OpenSpec.upto fnSlowNoneSpec)

/-- 'laws.FnSlow', WHERE WHAT IT READS IS OF BULK AT MOST 1048576: true; the input reads as it did. -/
def fnSlowUptoRow : OpenClaim := { program := "ythcpjkhijjkolaa", sum := "98794c37cae6f73df0973c9c8b18bf13761546fd6f7238749f8c3849a4847c9c", func := "loop.example/sagaflows/laws.FnSlow", spec := "fnSlow", unfollowed := true, recurses := true, apart := false, narrowed := true }
def FnSlowUptoSaid : Prop := fnSlowUptoRow.holds Try.pinned (OpenSpec.upto fnSlowSpec)

/-- 'laws.FnExactReportSlow', WHERE WHAT IT READS IS OF BULK AT MOST 1048576: true; the input reads as it did. -/
def fnExactReportSlowUptoRow : OpenClaim := { program := "ythcpjkhijjkolaa", sum := "98794c37cae6f73df0973c9c8b18bf13761546fd6f7238749f8c3849a4847c9c", func := "loop.example/sagaflows/laws.FnExactReportSlow", spec := "fnExactReportSlow", unfollowed := true, recurses := true, apart := false, narrowed := true }
def FnExactReportSlowUptoSaid : Prop := fnExactReportSlowUptoRow.holds Try.pinned (OpenSpec.upto fnExactReportSlowSpec)

/-- 'laws.FnExactReportSteps', WHERE WHAT IT READS IS OF BULK AT MOST 1048576: true; the input reads as it did. -/
def fnExactReportStepsUptoRow : OpenClaim := { program := "ythcpjkhijjkolaa", sum := "98794c37cae6f73df0973c9c8b18bf13761546fd6f7238749f8c3849a4847c9c", func := "loop.example/sagaflows/laws.FnExactReportSteps", spec := "fnExactReportSteps", unfollowed := true, recurses := true, apart := false, narrowed := true }
def FnExactReportStepsUptoSaid : Prop := fnExactReportStepsUptoRow.holds Try.pinned (OpenSpec.upto fnExactReportStepsSpec)

/-- 'laws.FnExactPoolClear', WHERE WHAT IT READS IS OF BULK AT MOST 1048576: true; the input reads as it did. -/
def fnExactPoolClearUptoRow : OpenClaim := { program := "ythcpjkhijjkolaa", sum := "98794c37cae6f73df0973c9c8b18bf13761546fd6f7238749f8c3849a4847c9c", func := "loop.example/sagaflows/laws.FnExactPoolClear", spec := "fnExactPoolClear", unfollowed := true, recurses := true, apart := false, narrowed := true }
def FnExactPoolClearUptoSaid : Prop := fnExactPoolClearUptoRow.holds Try.pinned (OpenSpec.upto fnExactPoolClearSpec)

/-- 'laws.FnPoolEventOthers', WHERE WHAT IT READS IS OF BULK AT MOST 1048576: true; the input reads as it did. -/
def fnPoolEventOthersUptoRow : OpenClaim := { program := "ythcpjkhijjkolaa", sum := "98794c37cae6f73df0973c9c8b18bf13761546fd6f7238749f8c3849a4847c9c", func := "loop.example/sagaflows/laws.FnPoolEventOthers", spec := "fnPoolEventOthers", unfollowed := true, recurses := true, apart := false, narrowed := true }
def FnPoolEventOthersUptoSaid : Prop := fnPoolEventOthersUptoRow.holds Try.pinned (OpenSpec.upto fnPoolEventOthersSpec)

/-- 'laws.FnPoolEvent', WHERE WHAT IT READS IS OF BULK AT MOST 1048576: true; the input reads as it did. -/
def fnPoolEventUptoRow : OpenClaim := { program := "ythcpjkhijjkolaa", sum := "98794c37cae6f73df0973c9c8b18bf13761546fd6f7238749f8c3849a4847c9c", func := "loop.example/sagaflows/laws.FnPoolEvent", spec := "fnPoolEvent", unfollowed := true, recurses := true, apart := false, narrowed := true }
def FnPoolEventUptoSaid : Prop := fnPoolEventUptoRow.holds Try.pinned (OpenSpec.upto fnPoolEventSpec)

/-- 'laws.FnExactPoolEvent', WHERE WHAT IT READS IS OF BULK AT MOST 1048576: true; the input reads as it did. -/
def fnExactPoolEventUptoRow : OpenClaim := { program := "ythcpjkhijjkolaa", sum := "98794c37cae6f73df0973c9c8b18bf13761546fd6f7238749f8c3849a4847c9c", func := "loop.example/sagaflows/laws.FnExactPoolEvent", spec := "fnExactPoolEvent", unfollowed := true, recurses := true, apart := false, narrowed := true }
def FnExactPoolEventUptoSaid : Prop := fnExactPoolEventUptoRow.holds Try.pinned (OpenSpec.upto fnExactPoolEventSpec)

end Rows
end Go.Proofs.Ythcpjkhijjkolaa
