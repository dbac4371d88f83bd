/-
  No cell of these rows narrows 'for every input' (looked for: loops, veiled, ifaces, maps, wideKeys, modest, calm, conditions, laid).
  DERIVED. THE GIVEN ROWS OF THIS SEAT. 11 by the template 'for every input the law returns true; each argument reads behind the call as it read before'; 0 by the template 'total and deterministic' (their statements: YtakeijgoonagcaaTotals.lean).
  GIVEN WITH THE SEED: the statements are not yours to turn. If you find one false, say at which input.
  Laid BY PROGRAM, IN A SANDBOX (cutbox-rows.mjs): the forced cells as the released guide's own fill.sh prints them over the translation 73856c88a3505ade… (all of the seat's roots in one cut). By AI agents, Wed Nov 11 2026. No macro, syntax, notation, axiom, sorry.
-/
import Derived.Test.YtakeijgoonagcaaChecked
import GoSem.Claim
import GoSem.ClaimJoined
import GoSem.ClaimMapViews
import Derived.JoinedTies
import Derived.KernelRfl
namespace Go.Proofs.Ytakeijgoonagcaa
/- THE CELL 'sum', in the pinned program and in every row, IS THE sha256 OF THE DUMP (.gsa) THAT YtakeijgoonagcaaProg.lean LOADS. Nothing in Lean hashes anything: it is a label: what it is worth is what the hold of that sum in a sandbox is worth. -/
noncomputable def Try.pinned : Pinned := { name := "ytakeijgoonagcaa", sum := "73856c88a3505aded2b6b1939b7510902e9651eb953bf0ebf037a256a547b3b9", checked := Try.checked }
namespace Rows
def none {H : Type} : Left H := { results := [], args := [] }

/-- 'laws.FnExactPoolMove': WHATEVER THE INPUT: true; the input reads as it did. -/
def fnExactPoolMoveSpec : ChangeSpec := { name := "fnExactPoolMove", fn := fun _ => fun
  | [d1, d2, d3] => { results := [.lit (.bool true)], args := [d1, d2, d3] }
  | _ => none }
def fnExactPoolMoveRow : OpenClaim := { program := "ytakeijgoonagcaa", sum := "73856c88a3505aded2b6b1939b7510902e9651eb953bf0ebf037a256a547b3b9", func := "loop.example/sagaflows/laws.FnExactPoolMove", spec := "fnExactPoolMove", unfollowed := true, recurses := true, apart := false }
def FnExactPoolMoveSaid : Prop := fnExactPoolMoveRow.holds Try.pinned (OpenSpec.ofChange fnExactPoolMoveSpec)

/-- ITS FALSE NEIGHBOUR: 'it returns false'. Refute it at one input. -/
def fnExactPoolMoveWrong : ChangeSpec := { name := "fnExactPoolMove", fn := fun _ => fun
  | [d1, d2, d3] => { results := [.lit (.bool false)], args := [d1, d2, d3] }
  | _ => none }
def FnExactPoolMoveWrongFalsely : Prop := fnExactPoolMoveRow.holds Try.pinned (OpenSpec.ofChange fnExactPoolMoveWrong)

/-- 'laws.FnPoolMove': WHATEVER THE INPUT: true; the input reads as it did. -/
def fnPoolMoveSpec : ChangeSpec := { name := "fnPoolMove", fn := fun _ => fun
  | [d] => { results := [.lit (.bool true)], args := [d] }
  | _ => none }
def fnPoolMoveRow : OpenClaim := { program := "ytakeijgoonagcaa", sum := "73856c88a3505aded2b6b1939b7510902e9651eb953bf0ebf037a256a547b3b9", func := "loop.example/sagaflows/laws.FnPoolMove", spec := "fnPoolMove", unfollowed := true, recurses := true, apart := false }
def FnPoolMoveSaid : Prop := fnPoolMoveRow.holds Try.pinned (OpenSpec.ofChange fnPoolMoveSpec)

/-- ITS FALSE NEIGHBOUR: 'it returns false'. Refute it at one input. -/
def fnPoolMoveWrong : ChangeSpec := { name := "fnPoolMove", fn := fun _ => fun
  | [d] => { results := [.lit (.bool false)], args := [d] }
  | _ => none }
def FnPoolMoveWrongFalsely : Prop := fnPoolMoveRow.holds Try.pinned (OpenSpec.ofChange fnPoolMoveWrong)

/-- 'laws.FnPoolMoveBack': WHATEVER THE INPUT: true; the input reads as it did. -/
def fnPoolMoveBackSpec : ChangeSpec := { name := "fnPoolMoveBack", fn := fun _ => fun
  | [d] => { results := [.lit (.bool true)], args := [d] }
  | _ => none }
def fnPoolMoveBackRow : OpenClaim := { program := "ytakeijgoonagcaa", sum := "73856c88a3505aded2b6b1939b7510902e9651eb953bf0ebf037a256a547b3b9", func := "loop.example/sagaflows/laws.FnPoolMoveBack", spec := "fnPoolMoveBack", unfollowed := true, recurses := true, apart := false }
def FnPoolMoveBackSaid : Prop := fnPoolMoveBackRow.holds Try.pinned (OpenSpec.ofChange fnPoolMoveBackSpec)

/-- ITS FALSE NEIGHBOUR: 'it returns false'. Refute it at one input. -/
def fnPoolMoveBackWrong : ChangeSpec := { name := "fnPoolMoveBack", fn := fun _ => fun
  | [d] => { results := [.lit (.bool false)], args := [d] }
  | _ => none }
def FnPoolMoveBackWrongFalsely : Prop := fnPoolMoveBackRow.holds Try.pinned (OpenSpec.ofChange fnPoolMoveBackWrong)

/-- 'laws.FnPoolMoveAll': WHATEVER THE INPUT: true; the input reads as it did. -/
def fnPoolMoveAllSpec : ChangeSpec := { name := "fnPoolMoveAll", fn := fun _ => fun
  | [d] => { results := [.lit (.bool true)], args := [d] }
  | _ => none }
def fnPoolMoveAllRow : OpenClaim := { program := "ytakeijgoonagcaa", sum := "73856c88a3505aded2b6b1939b7510902e9651eb953bf0ebf037a256a547b3b9", func := "loop.example/sagaflows/laws.FnPoolMoveAll", spec := "fnPoolMoveAll", unfollowed := true, recurses := true, apart := false }
def FnPoolMoveAllSaid : Prop := fnPoolMoveAllRow.holds Try.pinned (OpenSpec.ofChange fnPoolMoveAllSpec)

/-- ITS FALSE NEIGHBOUR: 'it returns false'. Refute it at one input. -/
def fnPoolMoveAllWrong : ChangeSpec := { name := "fnPoolMoveAll", fn := fun _ => fun
  | [d] => { results := [.lit (.bool false)], args := [d] }
  | _ => none }
def FnPoolMoveAllWrongFalsely : Prop := fnPoolMoveAllRow.holds Try.pinned (OpenSpec.ofChange fnPoolMoveAllWrong)

/-- 'laws.FnPoolStart': WHATEVER THE INPUT: true; the input reads as it did. -/
def fnPoolStartSpec : ChangeSpec := { name := "fnPoolStart", fn := fun _ => fun
  | [d] => { results := [.lit (.bool true)], args := [d] }
  | _ => none }
def fnPoolStartRow : OpenClaim := { program := "ytakeijgoonagcaa", sum := "73856c88a3505aded2b6b1939b7510902e9651eb953bf0ebf037a256a547b3b9", func := "loop.example/sagaflows/laws.FnPoolStart", spec := "fnPoolStart", inPlace := ["internal/bytealg.abigen_runtime_cmpstring"], unfollowed := true, recurses := true, apart := false }
def FnPoolStartSaid : Prop := fnPoolStartRow.holds Try.pinned (OpenSpec.ofChange fnPoolStartSpec)

/-- ITS FALSE NEIGHBOUR: 'it returns false'. Refute it at one input. -/
def fnPoolStartWrong : ChangeSpec := { name := "fnPoolStart", fn := fun _ => fun
  | [d] => { results := [.lit (.bool false)], args := [d] }
  | _ => none }
def FnPoolStartWrongFalsely : Prop := fnPoolStartRow.holds Try.pinned (OpenSpec.ofChange fnPoolStartWrong)

/-- 'laws.FnPoolStartOnce': WHATEVER THE INPUT: true; the input reads as it did. -/
def fnPoolStartOnceSpec : ChangeSpec := { name := "fnPoolStartOnce", fn := fun _ => fun
  | [d] => { results := [.lit (.bool true)], args := [d] }
  | _ => none }
def fnPoolStartOnceRow : OpenClaim := { program := "ytakeijgoonagcaa", sum := "73856c88a3505aded2b6b1939b7510902e9651eb953bf0ebf037a256a547b3b9", func := "loop.example/sagaflows/laws.FnPoolStartOnce", spec := "fnPoolStartOnce", inPlace := ["internal/bytealg.abigen_runtime_cmpstring"], unfollowed := true, recurses := true, apart := false }
def FnPoolStartOnceSaid : Prop := fnPoolStartOnceRow.holds Try.pinned (OpenSpec.ofChange fnPoolStartOnceSpec)

/-- ITS FALSE NEIGHBOUR: 'it returns false'. Refute it at one input. -/
def fnPoolStartOnceWrong : ChangeSpec := { name := "fnPoolStartOnce", fn := fun _ => fun
  | [d] => { results := [.lit (.bool false)], args := [d] }
  | _ => none }
def FnPoolStartOnceWrongFalsely : Prop := fnPoolStartOnceRow.holds Try.pinned (OpenSpec.ofChange fnPoolStartOnceWrong)

/-- 'laws.FnExactPoolStart': WHATEVER THE INPUT: true; the input reads as it did. -/
def fnExactPoolStartSpec : ChangeSpec := { name := "fnExactPoolStart", fn := fun _ => fun
  | [d1, d2, d3] => { results := [.lit (.bool true)], args := [d1, d2, d3] }
  | _ => none }
def fnExactPoolStartRow : OpenClaim := { program := "ytakeijgoonagcaa", sum := "73856c88a3505aded2b6b1939b7510902e9651eb953bf0ebf037a256a547b3b9", func := "loop.example/sagaflows/laws.FnExactPoolStart", spec := "fnExactPoolStart", inPlace := ["internal/bytealg.abigen_runtime_cmpstring"], unfollowed := true, recurses := true, apart := false }
def FnExactPoolStartSaid : Prop := fnExactPoolStartRow.holds Try.pinned (OpenSpec.ofChange fnExactPoolStartSpec)

/-- ITS FALSE NEIGHBOUR: 'it returns false'. Refute it at one input. -/
def fnExactPoolStartWrong : ChangeSpec := { name := "fnExactPoolStart", fn := fun _ => fun
  | [d1, d2, d3] => { results := [.lit (.bool false)], args := [d1, d2, d3] }
  | _ => none }
def FnExactPoolStartWrongFalsely : Prop := fnExactPoolStartRow.holds Try.pinned (OpenSpec.ofChange fnExactPoolStartWrong)

/-- 'laws.FnGuardsFlowTwice': WHATEVER THE INPUT: true; the input reads as it did. -/
def fnGuardsFlowTwiceSpec : ChangeSpec := { name := "fnGuardsFlowTwice", fn := fun _ => fun
  | [d] => { results := [.lit (.bool true)], args := [d] }
  | _ => none }
def fnGuardsFlowTwiceRow : OpenClaim := { program := "ytakeijgoonagcaa", sum := "73856c88a3505aded2b6b1939b7510902e9651eb953bf0ebf037a256a547b3b9", func := "loop.example/sagaflows/laws.FnGuardsFlowTwice", spec := "fnGuardsFlowTwice", unfollowed := true, recurses := true, apart := false }
def FnGuardsFlowTwiceSaid : Prop := fnGuardsFlowTwiceRow.holds Try.pinned (OpenSpec.ofChange fnGuardsFlowTwiceSpec)

/-- ITS FALSE NEIGHBOUR: 'it returns false'. Refute it at one input. -/
def fnGuardsFlowTwiceWrong : ChangeSpec := { name := "fnGuardsFlowTwice", fn := fun _ => fun
  | [d] => { results := [.lit (.bool false)], args := [d] }
  | _ => none }
def FnGuardsFlowTwiceWrongFalsely : Prop := fnGuardsFlowTwiceRow.holds Try.pinned (OpenSpec.ofChange fnGuardsFlowTwiceWrong)

/-- 'laws.FnGuardsFlow': WHATEVER THE INPUT: true; the input reads as it did. -/
def fnGuardsFlowSpec : ChangeSpec := { name := "fnGuardsFlow", fn := fun _ => fun
  | [d] => { results := [.lit (.bool true)], args := [d] }
  | _ => none }
def fnGuardsFlowRow : OpenClaim := { program := "ytakeijgoonagcaa", sum := "73856c88a3505aded2b6b1939b7510902e9651eb953bf0ebf037a256a547b3b9", func := "loop.example/sagaflows/laws.FnGuardsFlow", spec := "fnGuardsFlow", unfollowed := true, recurses := true, apart := false }
def FnGuardsFlowSaid : Prop := fnGuardsFlowRow.holds Try.pinned (OpenSpec.ofChange fnGuardsFlowSpec)

/-- ITS FALSE NEIGHBOUR: 'it returns false'. Refute it at one input. -/
def fnGuardsFlowWrong : ChangeSpec := { name := "fnGuardsFlow", fn := fun _ => fun
  | [d] => { results := [.lit (.bool false)], args := [d] }
  | _ => none }
def FnGuardsFlowWrongFalsely : Prop := fnGuardsFlowRow.holds Try.pinned (OpenSpec.ofChange fnGuardsFlowWrong)

/-- 'laws.FnGuardsBehind': WHATEVER THE INPUT: true; the input reads as it did. -/
def fnGuardsBehindSpec : ChangeSpec := { name := "fnGuardsBehind", fn := fun _ => fun
  | [d] => { results := [.lit (.bool true)], args := [d] }
  | _ => none }
def fnGuardsBehindRow : OpenClaim := { program := "ytakeijgoonagcaa", sum := "73856c88a3505aded2b6b1939b7510902e9651eb953bf0ebf037a256a547b3b9", func := "loop.example/sagaflows/laws.FnGuardsBehind", spec := "fnGuardsBehind", unfollowed := true, recurses := true, apart := false }
def FnGuardsBehindSaid : Prop := fnGuardsBehindRow.holds Try.pinned (OpenSpec.ofChange fnGuardsBehindSpec)

/-- ITS FALSE NEIGHBOUR: 'it returns false'. Refute it at one input. -/
def fnGuardsBehindWrong : ChangeSpec := { name := "fnGuardsBehind", fn := fun _ => fun
  | [d] => { results := [.lit (.bool false)], args := [d] }
  | _ => none }
def FnGuardsBehindWrongFalsely : Prop := fnGuardsBehindRow.holds Try.pinned (OpenSpec.ofChange fnGuardsBehindWrong)

/-- 'laws.FnExactGuardsFlow': WHATEVER THE INPUT: true; the input reads as it did. -/
def fnExactGuardsFlowSpec : ChangeSpec := { name := "fnExactGuardsFlow", fn := fun _ => fun
  | [d1, d2, d3] => { results := [.lit (.bool true)], args := [d1, d2, d3] }
  | _ => none }
def fnExactGuardsFlowRow : OpenClaim := { program := "ytakeijgoonagcaa", sum := "73856c88a3505aded2b6b1939b7510902e9651eb953bf0ebf037a256a547b3b9", func := "loop.example/sagaflows/laws.FnExactGuardsFlow", spec := "fnExactGuardsFlow", unfollowed := true, recurses := true, apart := false }
def FnExactGuardsFlowSaid : Prop := fnExactGuardsFlowRow.holds Try.pinned (OpenSpec.ofChange fnExactGuardsFlowSpec)

/-- ITS FALSE NEIGHBOUR: 'it returns false'. Refute it at one input. -/
def fnExactGuardsFlowWrong : ChangeSpec := { name := "fnExactGuardsFlow", fn := fun _ => fun
  | [d1, d2, d3] => { results := [.lit (.bool false)], args := [d1, d2, d3] }
  | _ => none }
def FnExactGuardsFlowWrongFalsely : Prop := fnExactGuardsFlowRow.holds Try.pinned (OpenSpec.ofChange fnExactGuardsFlowWrong)

/- THE SECOND FORM. 'bulk': how many values and letters a reading holds, each counted each time it is reached (what is shared counts as often as it is met; a slice's spare places count too). A statement '..UptoSaid' is the law's where the arguments, and the package variables that the reading takes, are together of bulk at most 1048576: NARROWER than '..Said'. Prove '..Said' where nothing that the law and all that it calls make is longer than what came in: it says more and counts as full. Else prove '..UptoSaid'. A law counts once. -/
mutual
def uptoBulk {H : Type} : DataW H → Nat
  | .lit (.string bytes) => bytes.length + 1
  | .lit _ => 1
  | .nil => 1
  | .ptr d => uptoBulk d + 1
  | .slice elems spare => uptoBulkAll elems + uptoBulkAll spare + 1
  | .agg parts => uptoBulkAll parts + 1
  | .iface _ d => uptoBulk d + 1
  | .map entries => uptoBulkEntries entries + 1
  | .held _ => 1
def uptoBulkAll {H : Type} : List (DataW H) → Nat
  | [] => 0
  | d :: r => uptoBulk d + uptoBulkAll r
def uptoBulkEntries {H : Type} : List (Lit × DataW H) → Nat
  | [] => 0
  | x :: r => uptoBulkEntry x + uptoBulkEntries r
def uptoBulkEntry {H : Type} : Lit × DataW H → Nat
  | (.string bytes, d) => bytes.length + uptoBulk d + 1
  | (_, d) => uptoBulk d + 1
 end
def uptoSmall : (H : Type) → List (DataW H) → Bool := fun _ ds => decide (uptoBulkAll ds ≤ 1048576)
def OpenSpec.upto (s : _root_.Go.ChangeSpec) : _root_.Go.OpenSpec := { _root_.Go.OpenSpec.ofChange s with cond := some uptoSmall }

/-- 'laws.FnExactPoolMove', WHERE WHAT IT READS IS OF BULK AT MOST 1048576: true; the input reads as it did. -/
def fnExactPoolMoveUptoRow : OpenClaim := { program := "ytakeijgoonagcaa", sum := "73856c88a3505aded2b6b1939b7510902e9651eb953bf0ebf037a256a547b3b9", func := "loop.example/sagaflows/laws.FnExactPoolMove", spec := "fnExactPoolMove", unfollowed := true, recurses := true, apart := false, narrowed := true }
def FnExactPoolMoveUptoSaid : Prop := fnExactPoolMoveUptoRow.holds Try.pinned (OpenSpec.upto fnExactPoolMoveSpec)

/-- 'laws.FnPoolMove', WHERE WHAT IT READS IS OF BULK AT MOST 1048576: true; the input reads as it did. -/
def fnPoolMoveUptoRow : OpenClaim := { program := "ytakeijgoonagcaa", sum := "73856c88a3505aded2b6b1939b7510902e9651eb953bf0ebf037a256a547b3b9", func := "loop.example/sagaflows/laws.FnPoolMove", spec := "fnPoolMove", unfollowed := true, recurses := true, apart := false, narrowed := true }
def FnPoolMoveUptoSaid : Prop := fnPoolMoveUptoRow.holds Try.pinned (OpenSpec.upto fnPoolMoveSpec)

/-- 'laws.FnPoolMoveBack', WHERE WHAT IT READS IS OF BULK AT MOST 1048576: true; the input reads as it did. -/
def fnPoolMoveBackUptoRow : OpenClaim := { program := "ytakeijgoonagcaa", sum := "73856c88a3505aded2b6b1939b7510902e9651eb953bf0ebf037a256a547b3b9", func := "loop.example/sagaflows/laws.FnPoolMoveBack", spec := "fnPoolMoveBack", unfollowed := true, recurses := true, apart := false, narrowed := true }
def FnPoolMoveBackUptoSaid : Prop := fnPoolMoveBackUptoRow.holds Try.pinned (OpenSpec.upto fnPoolMoveBackSpec)

/-- 'laws.FnPoolMoveAll', WHERE WHAT IT READS IS OF BULK AT MOST 1048576: true; the input reads as it did. -/
def fnPoolMoveAllUptoRow : OpenClaim := { program := "ytakeijgoonagcaa", sum := "73856c88a3505aded2b6b1939b7510902e9651eb953bf0ebf037a256a547b3b9", func := "loop.example/sagaflows/laws.FnPoolMoveAll", spec := "fnPoolMoveAll", unfollowed := true, recurses := true, apart := false, narrowed := true }
def FnPoolMoveAllUptoSaid : Prop := fnPoolMoveAllUptoRow.holds Try.pinned (OpenSpec.upto fnPoolMoveAllSpec)

/-- 'laws.FnPoolStart', WHERE WHAT IT READS IS OF BULK AT MOST 1048576: true; the input reads as it did. -/
def fnPoolStartUptoRow : OpenClaim := { program := "ytakeijgoonagcaa", sum := "73856c88a3505aded2b6b1939b7510902e9651eb953bf0ebf037a256a547b3b9", func := "loop.example/sagaflows/laws.FnPoolStart", spec := "fnPoolStart", inPlace := ["internal/bytealg.abigen_runtime_cmpstring"], unfollowed := true, recurses := true, apart := false, narrowed := true }
def FnPoolStartUptoSaid : Prop := fnPoolStartUptoRow.holds Try.pinned (OpenSpec.upto fnPoolStartSpec)

/-- 'laws.FnPoolStartOnce', WHERE WHAT IT READS IS OF BULK AT MOST 1048576: true; the input reads as it did. -/
def fnPoolStartOnceUptoRow : OpenClaim := { program := "ytakeijgoonagcaa", sum := "73856c88a3505aded2b6b1939b7510902e9651eb953bf0ebf037a256a547b3b9", func := "loop.example/sagaflows/laws.FnPoolStartOnce", spec := "fnPoolStartOnce", inPlace := ["internal/bytealg.abigen_runtime_cmpstring"], unfollowed := true, recurses := true, apart := false, narrowed := true }
def FnPoolStartOnceUptoSaid : Prop := fnPoolStartOnceUptoRow.holds Try.pinned (OpenSpec.upto fnPoolStartOnceSpec)

/-- 'laws.FnExactPoolStart', WHERE WHAT IT READS IS OF BULK AT MOST 1048576: true; the input reads as it did. -/
def fnExactPoolStartUptoRow : OpenClaim := { program := "ytakeijgoonagcaa", sum := "73856c88a3505aded2b6b1939b7510902e9651eb953bf0ebf037a256a547b3b9", func := "loop.example/sagaflows/laws.FnExactPoolStart", spec := "fnExactPoolStart", inPlace := ["internal/bytealg.abigen_runtime_cmpstring"], unfollowed := true, recurses := true, apart := false, narrowed := true }
def FnExactPoolStartUptoSaid : Prop := fnExactPoolStartUptoRow.holds Try.pinned (OpenSpec.upto fnExactPoolStartSpec)

/-- 'laws.FnGuardsFlowTwice', WHERE WHAT IT READS IS OF BULK AT MOST 1048576: true; the input reads as it did. -/
def fnGuardsFlowTwiceUptoRow : OpenClaim := { program := "ytakeijgoonagcaa", sum := "73856c88a3505aded2b6b1939b7510902e9651eb953bf0ebf037a256a547b3b9", func := "loop.example/sagaflows/laws.FnGuardsFlowTwice", spec := "fnGuardsFlowTwice", unfollowed := true, recurses := true, apart := false, narrowed := true }
def FnGuardsFlowTwiceUptoSaid : Prop := fnGuardsFlowTwiceUptoRow.holds Try.pinned (OpenSpec.upto fnGuardsFlowTwiceSpec)

/-- 'laws.FnGuardsFlow', WHERE WHAT IT READS IS OF BULK AT MOST 1048576: true; the input reads as it did. -/
def fnGuardsFlowUptoRow : OpenClaim := { program := "ytakeijgoonagcaa", sum := "73856c88a3505aded2b6b1939b7510902e9651eb953bf0ebf037a256a547b3b9", func := "loop.example/sagaflows/laws.FnGuardsFlow", spec := "fnGuardsFlow", unfollowed := true, recurses := true, apart := false, narrowed := true }
def FnGuardsFlowUptoSaid : Prop := fnGuardsFlowUptoRow.holds Try.pinned (OpenSpec.upto fnGuardsFlowSpec)

/-- 'laws.FnGuardsBehind', WHERE WHAT IT READS IS OF BULK AT MOST 1048576: true; the input reads as it did. -/
def fnGuardsBehindUptoRow : OpenClaim := { program := "ytakeijgoonagcaa", sum := "73856c88a3505aded2b6b1939b7510902e9651eb953bf0ebf037a256a547b3b9", func := "loop.example/sagaflows/laws.FnGuardsBehind", spec := "fnGuardsBehind", unfollowed := true, recurses := true, apart := false, narrowed := true }
def FnGuardsBehindUptoSaid : Prop := fnGuardsBehindUptoRow.holds Try.pinned (OpenSpec.upto fnGuardsBehindSpec)

/-- 'laws.FnExactGuardsFlow', WHERE WHAT IT READS IS OF BULK AT MOST 1048576: true; the input reads as it did. -/
def fnExactGuardsFlowUptoRow : OpenClaim := { program := "ytakeijgoonagcaa", sum := "73856c88a3505aded2b6b1939b7510902e9651eb953bf0ebf037a256a547b3b9", func := "loop.example/sagaflows/laws.FnExactGuardsFlow", spec := "fnExactGuardsFlow", unfollowed := true, recurses := true, apart := false, narrowed := true }
def FnExactGuardsFlowUptoSaid : Prop := fnExactGuardsFlowUptoRow.holds Try.pinned (OpenSpec.upto fnExactGuardsFlowSpec)

end Rows
end Go.Proofs.Ytakeijgoonagcaa
