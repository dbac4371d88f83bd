/-
  No cell of these rows narrows 'for every input' (looked for: loops, veiled, ifaces, maps, wideKeys, modest, calm, conditions, laid).
  DERIVED. THE GIVEN ROWS OF THIS SEAT. 12 by the template 'for every input the law returns true; each argument reads behind the call as it read before'; 0 by the template 'total and deterministic' (their statements: YtnlibaoegfdoeaaTotals.lean).
  GIVEN WITH THE SEED: the statements are not yours to turn. If you find one false, say at which input.
  Laid BY PROGRAM, IN A SANDBOX (cutbox-rows.mjs): the forced cells as the released guide's own fill.sh prints them over the translation a60b99b7c22b72ba… (all of the seat's roots in one cut). By AI agents, Wed Nov 11 2026. No macro, syntax, notation, axiom, sorry.
-/
import Derived.Test.YtnlibaoegfdoeaaChecked
import GoSem.Claim
import GoSem.ClaimJoined
import GoSem.ClaimMapViews
import Derived.JoinedTies
import Derived.KernelRfl
namespace Go.Proofs.Ytnlibaoegfdoeaa
/- THE CELL 'sum', in the pinned program and in every row, IS THE sha256 OF THE DUMP (.gsa) THAT YtnlibaoegfdoeaaProg.lean LOADS. Nothing in Lean hashes anything: it is a label: what it is worth is what the hold of that sum in a sandbox is worth. -/
noncomputable def Try.pinned : Pinned := { name := "ytnlibaoegfdoeaa", sum := "a60b99b7c22b72ba7f55309930db8609d95f68b4a205095a61fd912a722b6ce4", checked := Try.checked }
namespace Rows
def none {H : Type} : Left H := { results := [], args := [] }

/-- 'laws.FnClosed': WHATEVER THE INPUT: true; the input reads as it did. -/
def fnClosedSpec : ChangeSpec := { name := "fnClosed", fn := fun _ => fun
  | [d] => { results := [.lit (.bool true)], args := [d] }
  | _ => none }
def fnClosedRow : OpenClaim := { program := "ytnlibaoegfdoeaa", sum := "a60b99b7c22b72ba7f55309930db8609d95f68b4a205095a61fd912a722b6ce4", func := "loop.example/sagaflows/laws.FnClosed", spec := "fnClosed", apart := false }
def FnClosedSaid : Prop := fnClosedRow.holds Try.pinned (OpenSpec.ofChange fnClosedSpec)

/-- ITS FALSE NEIGHBOUR: 'it returns false'. Refute it at one input. -/
def fnClosedWrong : ChangeSpec := { name := "fnClosed", fn := fun _ => fun
  | [d] => { results := [.lit (.bool false)], args := [d] }
  | _ => none }
def FnClosedWrongFalsely : Prop := fnClosedRow.holds Try.pinned (OpenSpec.ofChange fnClosedWrong)

/-- 'laws.FnClosedMore': WHATEVER THE INPUT: true; the input reads as it did. -/
def fnClosedMoreSpec : ChangeSpec := { name := "fnClosedMore", fn := fun _ => fun
  | [d1, d2] => { results := [.lit (.bool true)], args := [d1, d2] }
  | _ => none }
def fnClosedMoreRow : OpenClaim := { program := "ytnlibaoegfdoeaa", sum := "a60b99b7c22b72ba7f55309930db8609d95f68b4a205095a61fd912a722b6ce4", func := "loop.example/sagaflows/laws.FnClosedMore", spec := "fnClosedMore", apart := false }
def FnClosedMoreSaid : Prop := fnClosedMoreRow.holds Try.pinned (OpenSpec.ofChange fnClosedMoreSpec)

/-- ITS FALSE NEIGHBOUR: 'it returns false'. Refute it at one input. -/
def fnClosedMoreWrong : ChangeSpec := { name := "fnClosedMore", fn := fun _ => fun
  | [d1, d2] => { results := [.lit (.bool false)], args := [d1, d2] }
  | _ => none }
def FnClosedMoreWrongFalsely : Prop := fnClosedMoreRow.holds Try.pinned (OpenSpec.ofChange fnClosedMoreWrong)

/-- 'laws.FnExactGuardsClosed': WHATEVER THE INPUT: true; the input reads as it did. -/
def fnExactGuardsClosedSpec : ChangeSpec := { name := "fnExactGuardsClosed", fn := fun _ => fun
  | [d1, d2] => { results := [.lit (.bool true)], args := [d1, d2] }
  | _ => none }
def fnExactGuardsClosedRow : OpenClaim := { program := "ytnlibaoegfdoeaa", sum := "a60b99b7c22b72ba7f55309930db8609d95f68b4a205095a61fd912a722b6ce4", func := "loop.example/sagaflows/laws.FnExactGuardsClosed", spec := "fnExactGuardsClosed", apart := false }
def FnExactGuardsClosedSaid : Prop := fnExactGuardsClosedRow.holds Try.pinned (OpenSpec.ofChange fnExactGuardsClosedSpec)

/-- ITS FALSE NEIGHBOUR: 'it returns false'. Refute it at one input. -/
def fnExactGuardsClosedWrong : ChangeSpec := { name := "fnExactGuardsClosed", fn := fun _ => fun
  | [d1, d2] => { results := [.lit (.bool false)], args := [d1, d2] }
  | _ => none }
def FnExactGuardsClosedWrongFalsely : Prop := fnExactGuardsClosedRow.holds Try.pinned (OpenSpec.ofChange fnExactGuardsClosedWrong)

/-- 'laws.FnStepMark': WHATEVER THE INPUT: true; the input reads as it did. -/
def fnStepMarkSpec : ChangeSpec := { name := "fnStepMark", fn := fun _ => fun
  | [d] => { results := [.lit (.bool true)], args := [d] }
  | _ => none }
def fnStepMarkRow : OpenClaim := { program := "ytnlibaoegfdoeaa", sum := "a60b99b7c22b72ba7f55309930db8609d95f68b4a205095a61fd912a722b6ce4", func := "loop.example/sagaflows/laws.FnStepMark", spec := "fnStepMark", inPlace := ["internal/abi.NoEscape", "internal/bytealg.MakeNoZero"], apart := false }
def FnStepMarkSaid : Prop := fnStepMarkRow.holds Try.pinned (OpenSpec.ofChange fnStepMarkSpec)

/-- ITS FALSE NEIGHBOUR: 'it returns false'. Refute it at one input. -/
def fnStepMarkWrong : ChangeSpec := { name := "fnStepMark", fn := fun _ => fun
  | [d] => { results := [.lit (.bool false)], args := [d] }
  | _ => none }
def FnStepMarkWrongFalsely : Prop := fnStepMarkRow.holds Try.pinned (OpenSpec.ofChange fnStepMarkWrong)

/-- 'laws.FnExactStepText': WHATEVER THE INPUT: true; the input reads as it did. -/
def fnExactStepTextSpec : ChangeSpec := { name := "fnExactStepText", fn := fun _ => fun
  | [d] => { results := [.lit (.bool true)], args := [d] }
  | _ => none }
def fnExactStepTextRow : OpenClaim := { program := "ytnlibaoegfdoeaa", sum := "a60b99b7c22b72ba7f55309930db8609d95f68b4a205095a61fd912a722b6ce4", func := "loop.example/sagaflows/laws.FnExactStepText", spec := "fnExactStepText", inPlace := ["internal/abi.NoEscape", "internal/bytealg.MakeNoZero"], apart := false }
def FnExactStepTextSaid : Prop := fnExactStepTextRow.holds Try.pinned (OpenSpec.ofChange fnExactStepTextSpec)

/-- ITS FALSE NEIGHBOUR: 'it returns false'. Refute it at one input. -/
def fnExactStepTextWrong : ChangeSpec := { name := "fnExactStepText", fn := fun _ => fun
  | [d] => { results := [.lit (.bool false)], args := [d] }
  | _ => none }
def FnExactStepTextWrongFalsely : Prop := fnExactStepTextRow.holds Try.pinned (OpenSpec.ofChange fnExactStepTextWrong)

/-- 'laws.FnOrders': WHATEVER THE INPUT: true; the input reads as it did. -/
def fnOrdersSpec : ChangeSpec := { name := "fnOrders", fn := fun _ => fun
  | [d] => { results := [.lit (.bool true)], args := [d] }
  | _ => none }
def fnOrdersRow : OpenClaim := { program := "ytnlibaoegfdoeaa", sum := "a60b99b7c22b72ba7f55309930db8609d95f68b4a205095a61fd912a722b6ce4", func := "loop.example/sagaflows/laws.FnOrders", spec := "fnOrders", recurses := true, apart := false }
def FnOrdersSaid : Prop := fnOrdersRow.holds Try.pinned (OpenSpec.ofChange fnOrdersSpec)

/-- ITS FALSE NEIGHBOUR: 'it returns false'. Refute it at one input. -/
def fnOrdersWrong : ChangeSpec := { name := "fnOrders", fn := fun _ => fun
  | [d] => { results := [.lit (.bool false)], args := [d] }
  | _ => none }
def FnOrdersWrongFalsely : Prop := fnOrdersRow.holds Try.pinned (OpenSpec.ofChange fnOrdersWrong)

/-- 'laws.FnOrdersUndo': WHATEVER THE INPUT: true; the input reads as it did. -/
def fnOrdersUndoSpec : ChangeSpec := { name := "fnOrdersUndo", fn := fun _ => fun
  | [d] => { results := [.lit (.bool true)], args := [d] }
  | _ => none }
def fnOrdersUndoRow : OpenClaim := { program := "ytnlibaoegfdoeaa", sum := "a60b99b7c22b72ba7f55309930db8609d95f68b4a205095a61fd912a722b6ce4", func := "loop.example/sagaflows/laws.FnOrdersUndo", spec := "fnOrdersUndo", recurses := true, apart := false }
def FnOrdersUndoSaid : Prop := fnOrdersUndoRow.holds Try.pinned (OpenSpec.ofChange fnOrdersUndoSpec)

/-- ITS FALSE NEIGHBOUR: 'it returns false'. Refute it at one input. -/
def fnOrdersUndoWrong : ChangeSpec := { name := "fnOrdersUndo", fn := fun _ => fun
  | [d] => { results := [.lit (.bool false)], args := [d] }
  | _ => none }
def FnOrdersUndoWrongFalsely : Prop := fnOrdersUndoRow.holds Try.pinned (OpenSpec.ofChange fnOrdersUndoWrong)

/-- 'laws.FnDepthAfter': WHATEVER THE INPUT: true; the input reads as it did. -/
def fnDepthAfterSpec : ChangeSpec := { name := "fnDepthAfter", fn := fun _ => fun
  | [d] => { results := [.lit (.bool true)], args := [d] }
  | _ => none }
def fnDepthAfterRow : OpenClaim := { program := "ytnlibaoegfdoeaa", sum := "a60b99b7c22b72ba7f55309930db8609d95f68b4a205095a61fd912a722b6ce4", func := "loop.example/sagaflows/laws.FnDepthAfter", spec := "fnDepthAfter", apart := false }
def FnDepthAfterSaid : Prop := fnDepthAfterRow.holds Try.pinned (OpenSpec.ofChange fnDepthAfterSpec)

/-- ITS FALSE NEIGHBOUR: 'it returns false'. Refute it at one input. -/
def fnDepthAfterWrong : ChangeSpec := { name := "fnDepthAfter", fn := fun _ => fun
  | [d] => { results := [.lit (.bool false)], args := [d] }
  | _ => none }
def FnDepthAfterWrongFalsely : Prop := fnDepthAfterRow.holds Try.pinned (OpenSpec.ofChange fnDepthAfterWrong)

/-- 'laws.FnDepth': WHATEVER THE INPUT: true; the input reads as it did. -/
def fnDepthSpec : ChangeSpec := { name := "fnDepth", fn := fun _ => fun
  | [d] => { results := [.lit (.bool true)], args := [d] }
  | _ => none }
def fnDepthRow : OpenClaim := { program := "ytnlibaoegfdoeaa", sum := "a60b99b7c22b72ba7f55309930db8609d95f68b4a205095a61fd912a722b6ce4", func := "loop.example/sagaflows/laws.FnDepth", spec := "fnDepth", unfollowed := true, recurses := true, apart := false }
def FnDepthSaid : Prop := fnDepthRow.holds Try.pinned (OpenSpec.ofChange fnDepthSpec)

/-- ITS FALSE NEIGHBOUR: 'it returns false'. Refute it at one input. -/
def fnDepthWrong : ChangeSpec := { name := "fnDepth", fn := fun _ => fun
  | [d] => { results := [.lit (.bool false)], args := [d] }
  | _ => none }
def FnDepthWrongFalsely : Prop := fnDepthRow.holds Try.pinned (OpenSpec.ofChange fnDepthWrong)

/-- 'laws.FnWide': WHATEVER THE INPUT: true; the input reads as it did. -/
def fnWideSpec : ChangeSpec := { name := "fnWide", fn := fun _ => fun
  | [d] => { results := [.lit (.bool true)], args := [d] }
  | _ => none }
def fnWideRow : OpenClaim := { program := "ytnlibaoegfdoeaa", sum := "a60b99b7c22b72ba7f55309930db8609d95f68b4a205095a61fd912a722b6ce4", func := "loop.example/sagaflows/laws.FnWide", spec := "fnWide", unfollowed := true, recurses := true, apart := false }
def FnWideSaid : Prop := fnWideRow.holds Try.pinned (OpenSpec.ofChange fnWideSpec)

/-- ITS FALSE NEIGHBOUR: 'it returns false'. Refute it at one input. -/
def fnWideWrong : ChangeSpec := { name := "fnWide", fn := fun _ => fun
  | [d] => { results := [.lit (.bool false)], args := [d] }
  | _ => none }
def FnWideWrongFalsely : Prop := fnWideRow.holds Try.pinned (OpenSpec.ofChange fnWideWrong)

/-- 'laws.FnWideAll': WHATEVER THE INPUT: true; the input reads as it did. -/
def fnWideAllSpec : ChangeSpec := { name := "fnWideAll", fn := fun _ => fun
  | [d] => { results := [.lit (.bool true)], args := [d] }
  | _ => none }
def fnWideAllRow : OpenClaim := { program := "ytnlibaoegfdoeaa", sum := "a60b99b7c22b72ba7f55309930db8609d95f68b4a205095a61fd912a722b6ce4", func := "loop.example/sagaflows/laws.FnWideAll", spec := "fnWideAll", unfollowed := true, recurses := true, apart := false }
def FnWideAllSaid : Prop := fnWideAllRow.holds Try.pinned (OpenSpec.ofChange fnWideAllSpec)

/-- ITS FALSE NEIGHBOUR: 'it returns false'. Refute it at one input. -/
def fnWideAllWrong : ChangeSpec := { name := "fnWideAll", fn := fun _ => fun
  | [d] => { results := [.lit (.bool false)], args := [d] }
  | _ => none }
def FnWideAllWrongFalsely : Prop := fnWideAllRow.holds Try.pinned (OpenSpec.ofChange fnWideAllWrong)

/-- 'laws.FnOrdersOne': WHATEVER THE INPUT: true; the input reads as it did. -/
def fnOrdersOneSpec : ChangeSpec := { name := "fnOrdersOne", fn := fun _ => fun
  | [d] => { results := [.lit (.bool true)], args := [d] }
  | _ => none }
def fnOrdersOneRow : OpenClaim := { program := "ytnlibaoegfdoeaa", sum := "a60b99b7c22b72ba7f55309930db8609d95f68b4a205095a61fd912a722b6ce4", func := "loop.example/sagaflows/laws.FnOrdersOne", spec := "fnOrdersOne", unfollowed := true, recurses := true, apart := false }
def FnOrdersOneSaid : Prop := fnOrdersOneRow.holds Try.pinned (OpenSpec.ofChange fnOrdersOneSpec)

/-- ITS FALSE NEIGHBOUR: 'it returns false'. Refute it at one input. -/
def fnOrdersOneWrong : ChangeSpec := { name := "fnOrdersOne", fn := fun _ => fun
  | [d] => { results := [.lit (.bool false)], args := [d] }
  | _ => none }
def FnOrdersOneWrongFalsely : Prop := fnOrdersOneRow.holds Try.pinned (OpenSpec.ofChange fnOrdersOneWrong)

/- THE SECOND FORM. 'bulk': how many values and letters a reading holds, each counted each time it is reached (what is shared counts as often as it is met; a slice's spare places count too). A statement '..UptoSaid' is the law's where the arguments, and the package variables that the reading takes, are together of bulk at most 1048576: NARROWER than '..Said'. Prove '..Said' where nothing that the law and all that it calls make is longer than what came in: it says more and counts as full. Else prove '..UptoSaid'. A law counts once. -/
mutual
def uptoBulk {H : Type} : DataW H → Nat
  | .lit (.string bytes) => bytes.length + 1
  | .lit _ => 1
  | .nil => 1
  | .ptr d => uptoBulk d + 1
  | .slice elems spare => uptoBulkAll elems + uptoBulkAll spare + 1
  | .agg parts => uptoBulkAll parts + 1
  | .iface _ d => uptoBulk d + 1
  | .map entries => uptoBulkEntries entries + 1
  | .held _ => 1
def uptoBulkAll {H : Type} : List (DataW H) → Nat
  | [] => 0
  | d :: r => uptoBulk d + uptoBulkAll r
def uptoBulkEntries {H : Type} : List (Lit × DataW H) → Nat
  | [] => 0
  | x :: r => uptoBulkEntry x + uptoBulkEntries r
def uptoBulkEntry {H : Type} : Lit × DataW H → Nat
  | (.string bytes, d) => bytes.length + uptoBulk d + 1
  | (_, d) => uptoBulk d + 1
 end
def uptoSmall : (H : Type) → List (DataW H) → Bool := fun _ ds => decide (uptoBulkAll ds ≤ 1048576)
def OpenSpec.upto (s : _root_.Go.ChangeSpec) : _root_.Go.OpenSpec := { _root_.Go.OpenSpec.ofChange s with cond := some uptoSmall }

/-- 'laws.FnClosed', WHERE WHAT IT READS IS OF BULK AT MOST 1048576: true; the input reads as it did. -/
def fnClosedUptoRow : OpenClaim := { program := "ytnlibaoegfdoeaa", sum := "a60b99b7c22b72ba7f55309930db8609d95f68b4a205095a61fd912a722b6ce4", func := "loop.example/sagaflows/laws.FnClosed", spec := "fnClosed", apart := false, narrowed := true }
def FnClosedUptoSaid : Prop := fnClosedUptoRow.holds Try.pinned (OpenSpec.upto fnClosedSpec)

/-- 'laws.FnClosedMore', WHERE WHAT IT READS IS OF BULK AT MOST 1048576: true; the input reads as it did. -/
def fnClosedMoreUptoRow : OpenClaim := { program := "ytnlibaoegfdoeaa", sum := "a60b99b7c22b72ba7f55309930db8609d95f68b4a205095a61fd912a722b6ce4", func := "loop.example/sagaflows/laws.FnClosedMore", spec := "fnClosedMore", apart := false, narrowed := true }
def FnClosedMoreUptoSaid : Prop := fnClosedMoreUptoRow.holds Try.pinned (OpenSpec.upto fnClosedMoreSpec)

/-- 'laws.FnExactGuardsClosed', WHERE WHAT IT READS IS OF BULK AT MOST 1048576: true; the input reads as it did. -/
def fnExactGuardsClosedUptoRow : OpenClaim := { program := "ytnlibaoegfdoeaa", sum := "a60b99b7c22b72ba7f55309930db8609d95f68b4a205095a61fd912a722b6ce4", func := "loop.example/sagaflows/laws.FnExactGuardsClosed", spec := "fnExactGuardsClosed", apart := false, narrowed := true }
def FnExactGuardsClosedUptoSaid : Prop := fnExactGuardsClosedUptoRow.holds Try.pinned (OpenSpec.upto fnExactGuardsClosedSpec)

/-- 'laws.FnStepMark', WHERE WHAT IT READS IS OF BULK AT MOST 1048576: true; the input reads as it did. -/
def fnStepMarkUptoRow : OpenClaim := { program := "ytnlibaoegfdoeaa", sum := "a60b99b7c22b72ba7f55309930db8609d95f68b4a205095a61fd912a722b6ce4", func := "loop.example/sagaflows/laws.FnStepMark", spec := "fnStepMark", inPlace := ["internal/abi.NoEscape", "internal/bytealg.MakeNoZero"], apart := false, narrowed := true }
def FnStepMarkUptoSaid : Prop := fnStepMarkUptoRow.holds Try.pinned (OpenSpec.upto fnStepMarkSpec)

/-- 'laws.FnExactStepText', WHERE WHAT IT READS IS OF BULK AT MOST 1048576: true; the input reads as it did. -/
def fnExactStepTextUptoRow : OpenClaim := { program := "ytnlibaoegfdoeaa", sum := "a60b99b7c22b72ba7f55309930db8609d95f68b4a205095a61fd912a722b6ce4", func := "loop.example/sagaflows/laws.FnExactStepText", spec := "fnExactStepText", inPlace := ["internal/abi.NoEscape", "internal/bytealg.MakeNoZero"], apart := false, narrowed := true }
def FnExactStepTextUptoSaid : Prop := fnExactStepTextUptoRow.holds Try.pinned (OpenSpec.upto fnExactStepTextSpec)

/-- 'laws.FnOrders', WHERE WHAT IT READS IS OF BULK AT MOST 1048576: true; the input reads as it did. -/
def fnOrdersUptoRow : OpenClaim := { program := "ytnlibaoegfdoeaa", sum := "a60b99b7c22b72ba7f55309930db8609d95f68b4a205095a61fd912a722b6ce4", func := "loop.example/sagaflows/laws.FnOrders", spec := "fnOrders", recurses := true, apart := false, narrowed := true }
def FnOrdersUptoSaid : Prop := fnOrdersUptoRow.holds Try.pinned (OpenSpec.upto fnOrdersSpec)

/-- 'laws.FnOrdersUndo', WHERE WHAT IT READS IS OF BULK AT MOST 1048576: true; the input reads as it did. -/
def fnOrdersUndoUptoRow : OpenClaim := { program := "ytnlibaoegfdoeaa", sum := "a60b99b7c22b72ba7f55309930db8609d95f68b4a205095a61fd912a722b6ce4", func := "loop.example/sagaflows/laws.FnOrdersUndo", spec := "fnOrdersUndo", recurses := true, apart := false, narrowed := true }
def FnOrdersUndoUptoSaid : Prop := fnOrdersUndoUptoRow.holds Try.pinned (OpenSpec.upto fnOrdersUndoSpec)

/-- 'laws.FnDepthAfter', WHERE WHAT IT READS IS OF BULK AT MOST 1048576: true; the input reads as it did. -/
def fnDepthAfterUptoRow : OpenClaim := { program := "ytnlibaoegfdoeaa", sum := "a60b99b7c22b72ba7f55309930db8609d95f68b4a205095a61fd912a722b6ce4", func := "loop.example/sagaflows/laws.FnDepthAfter", spec := "fnDepthAfter", apart := false, narrowed := true }
def FnDepthAfterUptoSaid : Prop := fnDepthAfterUptoRow.holds Try.pinned (OpenSpec.upto fnDepthAfterSpec)

/-- 'laws.FnDepth', WHERE WHAT IT READS IS OF BULK AT MOST 1048576: true; the input reads as it did. -/
def fnDepthUptoRow : OpenClaim := { program := "ytnlibaoegfdoeaa", sum := "a60b99b7c22b72ba7f55309930db8609d95f68b4a205095a61fd912a722b6ce4", func := "loop.example/sagaflows/laws.FnDepth", spec := "fnDepth", unfollowed := true, recurses := true, apart := false, narrowed := true }
def FnDepthUptoSaid : Prop := fnDepthUptoRow.holds Try.pinned (OpenSpec.upto fnDepthSpec)

/-- 'laws.FnWide', WHERE WHAT IT READS IS OF BULK AT MOST 1048576: true; the input reads as it did. -/
def fnWideUptoRow : OpenClaim := { program := "ytnlibaoegfdoeaa", sum := "a60b99b7c22b72ba7f55309930db8609d95f68b4a205095a61fd912a722b6ce4", func := "loop.example/sagaflows/laws.FnWide", spec := "fnWide", unfollowed := true, recurses := true, apart := false, narrowed := true }
def FnWideUptoSaid : Prop := fnWideUptoRow.holds Try.pinned (OpenSpec.upto fnWideSpec)

/-- 'laws.FnWideAll', WHERE WHAT IT READS IS OF BULK AT MOST 1048576: true; the input reads as it did. -/
def fnWideAllUptoRow : OpenClaim := { program := "ytnlibaoegfdoeaa", sum := "a60b99b7c22b72ba7f55309930db8609d95f68b4a205095a61fd912a722b6ce4", func := "loop.example/sagaflows/laws.FnWideAll", spec := "fnWideAll", unfollowed := true, recurses := true, apart := false, narrowed := true }
def FnWideAllUptoSaid : Prop := fnWideAllUptoRow.holds Try.pinned (OpenSpec.upto fnWideAllSpec)

/-- 'laws.FnOrdersOne', WHERE WHAT IT READS IS OF BULK AT MOST 1048576: true; the input reads as it did. -/
def fnOrdersOneUptoRow : OpenClaim := { program := "ytnlibaoegfdoeaa", sum := "a60b99b7c22b72ba7f55309930db8609d95f68b4a205095a61fd912a722b6ce4", func := "loop.example/sagaflows/laws.FnOrdersOne", spec := "fnOrdersOne", unfollowed := true, recurses := true, apart := false, narrowed := true }
def FnOrdersOneUptoSaid : Prop := fnOrdersOneUptoRow.holds Try.pinned (OpenSpec.upto fnOrdersOneSpec)

end Rows
end Go.Proofs.Ytnlibaoegfdoeaa
