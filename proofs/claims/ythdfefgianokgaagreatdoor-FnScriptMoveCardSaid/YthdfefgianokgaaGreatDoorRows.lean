/-
  NARROWER THAN 'FOR EVERY INPUT', by the rows' own cells (each row's printed sentence says how): FnScript: maps, laid · FnScriptCut: maps, laid · FnScriptWhat: maps, laid · FnScriptNew: maps, laid · FnScriptBad: maps, laid · FnScriptDo: maps, laid · FnScriptFail: maps, laid · FnScriptMark: maps, laid · FnScriptMove: maps, laid · FnExactExecute: maps, laid.
  DERIVED. THE GIVEN ROWS OF THIS SEAT. 10 by the template 'for every input the law returns true; each argument reads behind the call as it read before'; 0 by the template 'total and deterministic' (their statements: YthdfefgianokgaaGreatDoorTotals.lean).
  GIVEN WITH THE SEED: the statements are not yours to turn. If you find one false, say at which input.
  Laid BY PROGRAM, IN A SANDBOX (cutbox-rows.mjs): the forced cells as the released guide's own fill.sh prints them over the translation baf91651e8b413cc… (all of the seat's roots in one cut). By AI agents, Wed Nov 11 2026. No macro, syntax, notation, axiom, sorry.
-/
import Derived.Test.YthdfefgianokgaaGreatDoorChecked
import GoSem.PinnedTables
import GoSem.Claim
import GoSem.ClaimJoined
import GoSem.ClaimMapViews
import Derived.JoinedTies
import Derived.KernelRfl
namespace Go.Proofs.YthdfefgianokgaaGreatDoor
/- THE CELL 'sum', in the pinned program and in every row, IS THE sha256 OF THE DUMP (.gsa) THAT YthdfefgianokgaaGreatDoorProg.lean LOADS. Nothing in Lean hashes anything: it is a label: what it is worth is what the hold of that sum in a sandbox is worth. -/
noncomputable def Tryz.pinned : Pinned := { name := "ythdfefgianokgaagreatdoor", sum := "baf91651e8b413cc96663a061a89226c2d2e55270c146184f101e11a84e37996", checked := Tryz.checked }
namespace Rows
def none {H : Type} : Left H := { results := [], args := [] }

/- WHAT THE LISTED PACKAGE-LEVEL VARIABLES READ AS WHEN THE CALL BEGINS. Each datum BY PROGRAM (the guide's laid-datum.mjs) off the statement by which the dump's own 'gosem.cut.vars' lays the variable. In a bare row this is a premise. The card (YthdfefgianokgaaGreatDoorCards.lean) ties it to the program's text. -/
def laid_math_bits_deBruijn32tab {H : Type} : DataW H := .agg [.lit (.int .u8 0), .lit (.int .u8 1), .lit (.int .u8 28), .lit (.int .u8 2), .lit (.int .u8 29), .lit (.int .u8 14), .lit (.int .u8 24), .lit (.int .u8 3), .lit (.int .u8 30), .lit (.int .u8 22), .lit (.int .u8 20), .lit (.int .u8 15), .lit (.int .u8 25), .lit (.int .u8 17), .lit (.int .u8 4), .lit (.int .u8 8), .lit (.int .u8 31), .lit (.int .u8 27), .lit (.int .u8 13), .lit (.int .u8 23), .lit (.int .u8 21), .lit (.int .u8 19), .lit (.int .u8 16), .lit (.int .u8 7), .lit (.int .u8 26), .lit (.int .u8 12), .lit (.int .u8 18), .lit (.int .u8 6), .lit (.int .u8 11), .lit (.int .u8 5), .lit (.int .u8 10), .lit (.int .u8 9)]
def laid_math_bits_deBruijn64tab {H : Type} : DataW H := .agg [.lit (.int .u8 0), .lit (.int .u8 1), .lit (.int .u8 56), .lit (.int .u8 2), .lit (.int .u8 57), .lit (.int .u8 49), .lit (.int .u8 28), .lit (.int .u8 3), .lit (.int .u8 61), .lit (.int .u8 58), .lit (.int .u8 42), .lit (.int .u8 50), .lit (.int .u8 38), .lit (.int .u8 29), .lit (.int .u8 17), .lit (.int .u8 4), .lit (.int .u8 62), .lit (.int .u8 47), .lit (.int .u8 59), .lit (.int .u8 36), .lit (.int .u8 45), .lit (.int .u8 43), .lit (.int .u8 51), .lit (.int .u8 22), .lit (.int .u8 53), .lit (.int .u8 39), .lit (.int .u8 33), .lit (.int .u8 30), .lit (.int .u8 24), .lit (.int .u8 18), .lit (.int .u8 12), .lit (.int .u8 5), .lit (.int .u8 63), .lit (.int .u8 55), .lit (.int .u8 48), .lit (.int .u8 27), .lit (.int .u8 60), .lit (.int .u8 41), .lit (.int .u8 37), .lit (.int .u8 16), .lit (.int .u8 46), .lit (.int .u8 35), .lit (.int .u8 44), .lit (.int .u8 21), .lit (.int .u8 52), .lit (.int .u8 32), .lit (.int .u8 23), .lit (.int .u8 11), .lit (.int .u8 54), .lit (.int .u8 26), .lit (.int .u8 40), .lit (.int .u8 15), .lit (.int .u8 34), .lit (.int .u8 20), .lit (.int .u8 31), .lit (.int .u8 10), .lit (.int .u8 25), .lit (.int .u8 14), .lit (.int .u8 19), .lit (.int .u8 9), .lit (.int .u8 13), .lit (.int .u8 8), .lit (.int .u8 7), .lit (.int .u8 6)]
def laid_internal_strconv_uint64pow10 {H : Type} : DataW H := .agg [.lit (.int .u64 1), .lit (.int .u64 10), .lit (.int .u64 100), .lit (.int .u64 1000), .lit (.int .u64 10000), .lit (.int .u64 100000), .lit (.int .u64 1000000), .lit (.int .u64 10000000), .lit (.int .u64 100000000), .lit (.int .u64 1000000000), .lit (.int .u64 10000000000), .lit (.int .u64 100000000000), .lit (.int .u64 1000000000000), .lit (.int .u64 10000000000000), .lit (.int .u64 100000000000000), .lit (.int .u64 1000000000000000), .lit (.int .u64 10000000000000000), .lit (.int .u64 100000000000000000), .lit (.int .u64 1000000000000000000), .lit (.int .u64 10000000000000000000)]
def laid_unicode_utf8_acceptRanges {H : Type} : DataW H := .agg [.agg [.lit (.int .u8 128), .lit (.int .u8 191)], .agg [.lit (.int .u8 160), .lit (.int .u8 191)], .agg [.lit (.int .u8 128), .lit (.int .u8 159)], .agg [.lit (.int .u8 144), .lit (.int .u8 191)], .agg [.lit (.int .u8 128), .lit (.int .u8 143)], .agg [.lit (.int .u8 0), .lit (.int .u8 0)], .agg [.lit (.int .u8 0), .lit (.int .u8 0)], .agg [.lit (.int .u8 0), .lit (.int .u8 0)], .agg [.lit (.int .u8 0), .lit (.int .u8 0)], .agg [.lit (.int .u8 0), .lit (.int .u8 0)], .agg [.lit (.int .u8 0), .lit (.int .u8 0)], .agg [.lit (.int .u8 0), .lit (.int .u8 0)], .agg [.lit (.int .u8 0), .lit (.int .u8 0)], .agg [.lit (.int .u8 0), .lit (.int .u8 0)], .agg [.lit (.int .u8 0), .lit (.int .u8 0)], .agg [.lit (.int .u8 0), .lit (.int .u8 0)]]
def laid_loop_example_sagaflows_impl_eventCommands {H : Type} : DataW H := .map [(.string [100, 111], .lit (.int .i64 1)), (.string [102, 97, 105, 108], .lit (.int .i64 2)), (.string [117, 110, 100, 111], .lit (.int .i64 3))]
def laid_loop_example_sagaflows_impl_changeCommands {H : Type} : DataW H := .map [(.string [97, 100, 100], .lit (.int .i64 1)), (.string [97, 102, 116, 101, 114], .lit (.int .i64 3)), (.string [100, 114, 111, 112], .lit (.int .i64 2)), (.string [109, 97, 114, 107], .lit (.int .i64 4))]
/-- One of Go's own tables, pinned by name: the form's constant. -/
def laid_unicode_utf8_first : DataW Unit := Go.Pinned.utf8First

/-- 'laws.FnScript': WHATEVER THE INPUT: true; the input reads as it did. -/
def fnScriptSpec : ChangeSpec := { name := "fnScript", vars := ["loop.example/sagaflows/impl.eventCommands", "loop.example/sagaflows/impl.changeCommands"], fn := fun _ => fun
  | [d, g1, g2] => { results := [.lit (.bool true)], args := [d], vars := [g1, g2] }
  | _ => none }
def fnScriptRow : OpenClaim := { program := "ythdfefgianokgaagreatdoor", sum := "baf91651e8b413cc96663a061a89226c2d2e55270c146184f101e11a84e37996", func := "loop.example/sagaflows/laws.FnScript", spec := "fnScript", inPlace := ["internal/bytealg.CountString", "internal/bytealg.IndexByteString", "internal/bytealg.IndexString", "internal/abi.NoEscape", "internal/bytealg.MakeNoZero", "internal/bytealg.abigen_runtime_cmpstring"], unfollowed := true, recurses := true, named := ["unicode/utf8.first", "unicode/utf8.acceptRanges", "internal/bytealg.MaxLen", "loop.example/sagaflows/impl.eventCommands", "loop.example/sagaflows/impl.changeCommands", "internal/strconv.uint64pow10", "math/bits.deBruijn32tab", "math/bits.deBruijn64tab"], maps := true, apart := false, laid := [("math/bits.deBruijn32tab", laid_math_bits_deBruijn32tab), ("math/bits.deBruijn64tab", laid_math_bits_deBruijn64tab), ("internal/strconv.uint64pow10", laid_internal_strconv_uint64pow10), ("unicode/utf8.acceptRanges", laid_unicode_utf8_acceptRanges), ("loop.example/sagaflows/impl.eventCommands", laid_loop_example_sagaflows_impl_eventCommands), ("loop.example/sagaflows/impl.changeCommands", laid_loop_example_sagaflows_impl_changeCommands), ("unicode/utf8.first", laid_unicode_utf8_first)] }
def FnScriptSaid : Prop := fnScriptRow.holds Tryz.pinned (OpenSpec.ofChange fnScriptSpec)

/-- ITS FALSE NEIGHBOUR: 'it returns false'. Refute it at one input. -/
def fnScriptWrong : ChangeSpec := { name := "fnScript", vars := ["loop.example/sagaflows/impl.eventCommands", "loop.example/sagaflows/impl.changeCommands"], fn := fun _ => fun
  | [d, g1, g2] => { results := [.lit (.bool false)], args := [d], vars := [g1, g2] }
  | _ => none }
def FnScriptWrongFalsely : Prop := fnScriptRow.holds Tryz.pinned (OpenSpec.ofChange fnScriptWrong)

/-- 'laws.FnScriptCut': WHATEVER THE INPUT: true; the input reads as it did. -/
def fnScriptCutSpec : ChangeSpec := { name := "fnScriptCut", vars := ["loop.example/sagaflows/impl.eventCommands", "loop.example/sagaflows/impl.changeCommands"], fn := fun _ => fun
  | [d, g1, g2] => { results := [.lit (.bool true)], args := [d], vars := [g1, g2] }
  | _ => none }
def fnScriptCutRow : OpenClaim := { program := "ythdfefgianokgaagreatdoor", sum := "baf91651e8b413cc96663a061a89226c2d2e55270c146184f101e11a84e37996", func := "loop.example/sagaflows/laws.FnScriptCut", spec := "fnScriptCut", inPlace := ["internal/bytealg.CountString", "internal/bytealg.IndexByteString", "internal/bytealg.IndexString", "internal/abi.NoEscape", "internal/bytealg.MakeNoZero", "internal/bytealg.abigen_runtime_cmpstring"], unfollowed := true, recurses := true, named := ["unicode/utf8.first", "unicode/utf8.acceptRanges", "internal/bytealg.MaxLen", "loop.example/sagaflows/impl.eventCommands", "loop.example/sagaflows/impl.changeCommands", "internal/strconv.uint64pow10", "math/bits.deBruijn32tab", "math/bits.deBruijn64tab"], maps := true, apart := false, laid := [("math/bits.deBruijn32tab", laid_math_bits_deBruijn32tab), ("math/bits.deBruijn64tab", laid_math_bits_deBruijn64tab), ("internal/strconv.uint64pow10", laid_internal_strconv_uint64pow10), ("unicode/utf8.acceptRanges", laid_unicode_utf8_acceptRanges), ("loop.example/sagaflows/impl.eventCommands", laid_loop_example_sagaflows_impl_eventCommands), ("loop.example/sagaflows/impl.changeCommands", laid_loop_example_sagaflows_impl_changeCommands), ("unicode/utf8.first", laid_unicode_utf8_first)] }
def FnScriptCutSaid : Prop := fnScriptCutRow.holds Tryz.pinned (OpenSpec.ofChange fnScriptCutSpec)

/-- ITS FALSE NEIGHBOUR: 'it returns false'. Refute it at one input. -/
def fnScriptCutWrong : ChangeSpec := { name := "fnScriptCut", vars := ["loop.example/sagaflows/impl.eventCommands", "loop.example/sagaflows/impl.changeCommands"], fn := fun _ => fun
  | [d, g1, g2] => { results := [.lit (.bool false)], args := [d], vars := [g1, g2] }
  | _ => none }
def FnScriptCutWrongFalsely : Prop := fnScriptCutRow.holds Tryz.pinned (OpenSpec.ofChange fnScriptCutWrong)

/-- 'laws.FnScriptWhat': WHATEVER THE INPUT: true; the input reads as it did. -/
def fnScriptWhatSpec : ChangeSpec := { name := "fnScriptWhat", vars := ["loop.example/sagaflows/impl.eventCommands", "loop.example/sagaflows/impl.changeCommands"], fn := fun _ => fun
  | [d, g1, g2] => { results := [.lit (.bool true)], args := [d], vars := [g1, g2] }
  | _ => none }
def fnScriptWhatRow : OpenClaim := { program := "ythdfefgianokgaagreatdoor", sum := "baf91651e8b413cc96663a061a89226c2d2e55270c146184f101e11a84e37996", func := "loop.example/sagaflows/laws.FnScriptWhat", spec := "fnScriptWhat", inPlace := ["internal/bytealg.CountString", "internal/bytealg.IndexByteString", "internal/bytealg.IndexString", "internal/abi.NoEscape", "internal/bytealg.MakeNoZero", "internal/bytealg.abigen_runtime_cmpstring"], unfollowed := true, recurses := true, named := ["unicode/utf8.first", "unicode/utf8.acceptRanges", "internal/bytealg.MaxLen", "loop.example/sagaflows/impl.eventCommands", "loop.example/sagaflows/impl.changeCommands", "internal/strconv.uint64pow10", "math/bits.deBruijn32tab", "math/bits.deBruijn64tab"], maps := true, apart := false, laid := [("math/bits.deBruijn32tab", laid_math_bits_deBruijn32tab), ("math/bits.deBruijn64tab", laid_math_bits_deBruijn64tab), ("internal/strconv.uint64pow10", laid_internal_strconv_uint64pow10), ("unicode/utf8.acceptRanges", laid_unicode_utf8_acceptRanges), ("loop.example/sagaflows/impl.eventCommands", laid_loop_example_sagaflows_impl_eventCommands), ("loop.example/sagaflows/impl.changeCommands", laid_loop_example_sagaflows_impl_changeCommands), ("unicode/utf8.first", laid_unicode_utf8_first)] }
def FnScriptWhatSaid : Prop := fnScriptWhatRow.holds Tryz.pinned (OpenSpec.ofChange fnScriptWhatSpec)

/-- ITS FALSE NEIGHBOUR: 'it returns false'. Refute it at one input. -/
def fnScriptWhatWrong : ChangeSpec := { name := "fnScriptWhat", vars := ["loop.example/sagaflows/impl.eventCommands", "loop.example/sagaflows/impl.changeCommands"], fn := fun _ => fun
  | [d, g1, g2] => { results := [.lit (.bool false)], args := [d], vars := [g1, g2] }
  | _ => none }
def FnScriptWhatWrongFalsely : Prop := fnScriptWhatRow.holds Tryz.pinned (OpenSpec.ofChange fnScriptWhatWrong)

/-- 'laws.FnScriptNew': WHATEVER THE INPUT: true; the input reads as it did. -/
def fnScriptNewSpec : ChangeSpec := { name := "fnScriptNew", vars := ["loop.example/sagaflows/impl.eventCommands", "loop.example/sagaflows/impl.changeCommands"], fn := fun _ => fun
  | [d, g1, g2] => { results := [.lit (.bool true)], args := [d], vars := [g1, g2] }
  | _ => none }
def fnScriptNewRow : OpenClaim := { program := "ythdfefgianokgaagreatdoor", sum := "baf91651e8b413cc96663a061a89226c2d2e55270c146184f101e11a84e37996", func := "loop.example/sagaflows/laws.FnScriptNew", spec := "fnScriptNew", inPlace := ["internal/bytealg.CountString", "internal/bytealg.IndexByteString", "internal/bytealg.IndexString", "internal/abi.NoEscape", "internal/bytealg.MakeNoZero", "internal/bytealg.abigen_runtime_cmpstring"], unfollowed := true, recurses := true, named := ["unicode/utf8.first", "unicode/utf8.acceptRanges", "internal/bytealg.MaxLen", "loop.example/sagaflows/impl.eventCommands", "loop.example/sagaflows/impl.changeCommands", "internal/strconv.uint64pow10", "math/bits.deBruijn32tab", "math/bits.deBruijn64tab"], maps := true, apart := false, laid := [("math/bits.deBruijn32tab", laid_math_bits_deBruijn32tab), ("math/bits.deBruijn64tab", laid_math_bits_deBruijn64tab), ("internal/strconv.uint64pow10", laid_internal_strconv_uint64pow10), ("unicode/utf8.acceptRanges", laid_unicode_utf8_acceptRanges), ("loop.example/sagaflows/impl.eventCommands", laid_loop_example_sagaflows_impl_eventCommands), ("loop.example/sagaflows/impl.changeCommands", laid_loop_example_sagaflows_impl_changeCommands), ("unicode/utf8.first", laid_unicode_utf8_first)] }
def FnScriptNewSaid : Prop := fnScriptNewRow.holds Tryz.pinned (OpenSpec.ofChange fnScriptNewSpec)

/-- ITS FALSE NEIGHBOUR: 'it returns false'. Refute it at one input. -/
def fnScriptNewWrong : ChangeSpec := { name := "fnScriptNew", vars := ["loop.example/sagaflows/impl.eventCommands", "loop.example/sagaflows/impl.changeCommands"], fn := fun _ => fun
  | [d, g1, g2] => { results := [.lit (.bool false)], args := [d], vars := [g1, g2] }
  | _ => none }
def FnScriptNewWrongFalsely : Prop := fnScriptNewRow.holds Tryz.pinned (OpenSpec.ofChange fnScriptNewWrong)

/-- 'laws.FnScriptBad': WHATEVER THE INPUT: true; the input reads as it did. -/
def fnScriptBadSpec : ChangeSpec := { name := "fnScriptBad", vars := ["loop.example/sagaflows/impl.eventCommands", "loop.example/sagaflows/impl.changeCommands"], fn := fun _ => fun
  | [d, g1, g2] => { results := [.lit (.bool true)], args := [d], vars := [g1, g2] }
  | _ => none }
def fnScriptBadRow : OpenClaim := { program := "ythdfefgianokgaagreatdoor", sum := "baf91651e8b413cc96663a061a89226c2d2e55270c146184f101e11a84e37996", func := "loop.example/sagaflows/laws.FnScriptBad", spec := "fnScriptBad", inPlace := ["internal/bytealg.CountString", "internal/bytealg.IndexByteString", "internal/bytealg.IndexString", "internal/abi.NoEscape", "internal/bytealg.MakeNoZero", "internal/bytealg.abigen_runtime_cmpstring"], unfollowed := true, recurses := true, named := ["unicode/utf8.first", "unicode/utf8.acceptRanges", "internal/bytealg.MaxLen", "loop.example/sagaflows/impl.eventCommands", "loop.example/sagaflows/impl.changeCommands", "internal/strconv.uint64pow10", "math/bits.deBruijn32tab", "math/bits.deBruijn64tab"], maps := true, apart := false, laid := [("math/bits.deBruijn32tab", laid_math_bits_deBruijn32tab), ("math/bits.deBruijn64tab", laid_math_bits_deBruijn64tab), ("internal/strconv.uint64pow10", laid_internal_strconv_uint64pow10), ("unicode/utf8.acceptRanges", laid_unicode_utf8_acceptRanges), ("loop.example/sagaflows/impl.eventCommands", laid_loop_example_sagaflows_impl_eventCommands), ("loop.example/sagaflows/impl.changeCommands", laid_loop_example_sagaflows_impl_changeCommands), ("unicode/utf8.first", laid_unicode_utf8_first)] }
def FnScriptBadSaid : Prop := fnScriptBadRow.holds Tryz.pinned (OpenSpec.ofChange fnScriptBadSpec)

/-- ITS FALSE NEIGHBOUR: 'it returns false'. Refute it at one input. -/
def fnScriptBadWrong : ChangeSpec := { name := "fnScriptBad", vars := ["loop.example/sagaflows/impl.eventCommands", "loop.example/sagaflows/impl.changeCommands"], fn := fun _ => fun
  | [d, g1, g2] => { results := [.lit (.bool false)], args := [d], vars := [g1, g2] }
  | _ => none }
def FnScriptBadWrongFalsely : Prop := fnScriptBadRow.holds Tryz.pinned (OpenSpec.ofChange fnScriptBadWrong)

/-- 'laws.FnScriptDo': WHATEVER THE INPUT: true; the input reads as it did. -/
def fnScriptDoSpec : ChangeSpec := { name := "fnScriptDo", vars := ["loop.example/sagaflows/impl.eventCommands", "loop.example/sagaflows/impl.changeCommands"], fn := fun _ => fun
  | [d, g1, g2] => { results := [.lit (.bool true)], args := [d], vars := [g1, g2] }
  | _ => none }
def fnScriptDoRow : OpenClaim := { program := "ythdfefgianokgaagreatdoor", sum := "baf91651e8b413cc96663a061a89226c2d2e55270c146184f101e11a84e37996", func := "loop.example/sagaflows/laws.FnScriptDo", spec := "fnScriptDo", inPlace := ["internal/bytealg.CountString", "internal/bytealg.IndexByteString", "internal/bytealg.IndexString", "internal/abi.NoEscape", "internal/bytealg.MakeNoZero", "internal/bytealg.abigen_runtime_cmpstring"], unfollowed := true, recurses := true, named := ["unicode/utf8.first", "unicode/utf8.acceptRanges", "internal/bytealg.MaxLen", "loop.example/sagaflows/impl.eventCommands", "loop.example/sagaflows/impl.changeCommands", "internal/strconv.uint64pow10", "math/bits.deBruijn32tab", "math/bits.deBruijn64tab"], maps := true, apart := false, laid := [("math/bits.deBruijn32tab", laid_math_bits_deBruijn32tab), ("math/bits.deBruijn64tab", laid_math_bits_deBruijn64tab), ("internal/strconv.uint64pow10", laid_internal_strconv_uint64pow10), ("unicode/utf8.acceptRanges", laid_unicode_utf8_acceptRanges), ("loop.example/sagaflows/impl.eventCommands", laid_loop_example_sagaflows_impl_eventCommands), ("loop.example/sagaflows/impl.changeCommands", laid_loop_example_sagaflows_impl_changeCommands), ("unicode/utf8.first", laid_unicode_utf8_first)] }
def FnScriptDoSaid : Prop := fnScriptDoRow.holds Tryz.pinned (OpenSpec.ofChange fnScriptDoSpec)

/-- ITS FALSE NEIGHBOUR: 'it returns false'. Refute it at one input. -/
def fnScriptDoWrong : ChangeSpec := { name := "fnScriptDo", vars := ["loop.example/sagaflows/impl.eventCommands", "loop.example/sagaflows/impl.changeCommands"], fn := fun _ => fun
  | [d, g1, g2] => { results := [.lit (.bool false)], args := [d], vars := [g1, g2] }
  | _ => none }
def FnScriptDoWrongFalsely : Prop := fnScriptDoRow.holds Tryz.pinned (OpenSpec.ofChange fnScriptDoWrong)

/-- 'laws.FnScriptFail': WHATEVER THE INPUT: true; the input reads as it did. -/
def fnScriptFailSpec : ChangeSpec := { name := "fnScriptFail", vars := ["loop.example/sagaflows/impl.eventCommands", "loop.example/sagaflows/impl.changeCommands"], fn := fun _ => fun
  | [d, g1, g2] => { results := [.lit (.bool true)], args := [d], vars := [g1, g2] }
  | _ => none }
def fnScriptFailRow : OpenClaim := { program := "ythdfefgianokgaagreatdoor", sum := "baf91651e8b413cc96663a061a89226c2d2e55270c146184f101e11a84e37996", func := "loop.example/sagaflows/laws.FnScriptFail", spec := "fnScriptFail", inPlace := ["internal/bytealg.CountString", "internal/bytealg.IndexByteString", "internal/bytealg.IndexString", "internal/abi.NoEscape", "internal/bytealg.MakeNoZero", "internal/bytealg.abigen_runtime_cmpstring"], unfollowed := true, recurses := true, named := ["unicode/utf8.first", "unicode/utf8.acceptRanges", "internal/bytealg.MaxLen", "loop.example/sagaflows/impl.eventCommands", "loop.example/sagaflows/impl.changeCommands", "internal/strconv.uint64pow10", "math/bits.deBruijn32tab", "math/bits.deBruijn64tab"], maps := true, apart := false, laid := [("math/bits.deBruijn32tab", laid_math_bits_deBruijn32tab), ("math/bits.deBruijn64tab", laid_math_bits_deBruijn64tab), ("internal/strconv.uint64pow10", laid_internal_strconv_uint64pow10), ("unicode/utf8.acceptRanges", laid_unicode_utf8_acceptRanges), ("loop.example/sagaflows/impl.eventCommands", laid_loop_example_sagaflows_impl_eventCommands), ("loop.example/sagaflows/impl.changeCommands", laid_loop_example_sagaflows_impl_changeCommands), ("unicode/utf8.first", laid_unicode_utf8_first)] }
def FnScriptFailSaid : Prop := fnScriptFailRow.holds Tryz.pinned (OpenSpec.ofChange fnScriptFailSpec)

/-- ITS FALSE NEIGHBOUR: 'it returns false'. Refute it at one input. -/
def fnScriptFailWrong : ChangeSpec := { name := "fnScriptFail", vars := ["loop.example/sagaflows/impl.eventCommands", "loop.example/sagaflows/impl.changeCommands"], fn := fun _ => fun
  | [d, g1, g2] => { results := [.lit (.bool false)], args := [d], vars := [g1, g2] }
  | _ => none }
def FnScriptFailWrongFalsely : Prop := fnScriptFailRow.holds Tryz.pinned (OpenSpec.ofChange fnScriptFailWrong)

/-- 'laws.FnScriptMark': WHATEVER THE INPUT: true; the input reads as it did. -/
def fnScriptMarkSpec : ChangeSpec := { name := "fnScriptMark", vars := ["loop.example/sagaflows/impl.eventCommands", "loop.example/sagaflows/impl.changeCommands"], fn := fun _ => fun
  | [d, g1, g2] => { results := [.lit (.bool true)], args := [d], vars := [g1, g2] }
  | _ => none }
def fnScriptMarkRow : OpenClaim := { program := "ythdfefgianokgaagreatdoor", sum := "baf91651e8b413cc96663a061a89226c2d2e55270c146184f101e11a84e37996", func := "loop.example/sagaflows/laws.FnScriptMark", spec := "fnScriptMark", inPlace := ["internal/bytealg.CountString", "internal/bytealg.IndexByteString", "internal/bytealg.IndexString", "internal/abi.NoEscape", "internal/bytealg.MakeNoZero", "internal/bytealg.abigen_runtime_cmpstring"], unfollowed := true, recurses := true, named := ["unicode/utf8.first", "unicode/utf8.acceptRanges", "internal/bytealg.MaxLen", "loop.example/sagaflows/impl.eventCommands", "loop.example/sagaflows/impl.changeCommands", "internal/strconv.uint64pow10", "math/bits.deBruijn32tab", "math/bits.deBruijn64tab"], maps := true, apart := false, laid := [("math/bits.deBruijn32tab", laid_math_bits_deBruijn32tab), ("math/bits.deBruijn64tab", laid_math_bits_deBruijn64tab), ("internal/strconv.uint64pow10", laid_internal_strconv_uint64pow10), ("unicode/utf8.acceptRanges", laid_unicode_utf8_acceptRanges), ("loop.example/sagaflows/impl.eventCommands", laid_loop_example_sagaflows_impl_eventCommands), ("loop.example/sagaflows/impl.changeCommands", laid_loop_example_sagaflows_impl_changeCommands), ("unicode/utf8.first", laid_unicode_utf8_first)] }
def FnScriptMarkSaid : Prop := fnScriptMarkRow.holds Tryz.pinned (OpenSpec.ofChange fnScriptMarkSpec)

/-- ITS FALSE NEIGHBOUR: 'it returns false'. Refute it at one input. -/
def fnScriptMarkWrong : ChangeSpec := { name := "fnScriptMark", vars := ["loop.example/sagaflows/impl.eventCommands", "loop.example/sagaflows/impl.changeCommands"], fn := fun _ => fun
  | [d, g1, g2] => { results := [.lit (.bool false)], args := [d], vars := [g1, g2] }
  | _ => none }
def FnScriptMarkWrongFalsely : Prop := fnScriptMarkRow.holds Tryz.pinned (OpenSpec.ofChange fnScriptMarkWrong)

/-- 'laws.FnScriptMove': WHATEVER THE INPUT: true; the input reads as it did. -/
def fnScriptMoveSpec : ChangeSpec := { name := "fnScriptMove", vars := ["loop.example/sagaflows/impl.eventCommands", "loop.example/sagaflows/impl.changeCommands"], fn := fun _ => fun
  | [d, g1, g2] => { results := [.lit (.bool true)], args := [d], vars := [g1, g2] }
  | _ => none }
def fnScriptMoveRow : OpenClaim := { program := "ythdfefgianokgaagreatdoor", sum := "baf91651e8b413cc96663a061a89226c2d2e55270c146184f101e11a84e37996", func := "loop.example/sagaflows/laws.FnScriptMove", spec := "fnScriptMove", inPlace := ["internal/bytealg.CountString", "internal/bytealg.IndexByteString", "internal/bytealg.IndexString", "internal/abi.NoEscape", "internal/bytealg.MakeNoZero", "internal/bytealg.abigen_runtime_cmpstring"], unfollowed := true, recurses := true, named := ["unicode/utf8.first", "unicode/utf8.acceptRanges", "internal/bytealg.MaxLen", "loop.example/sagaflows/impl.eventCommands", "loop.example/sagaflows/impl.changeCommands", "internal/strconv.uint64pow10", "math/bits.deBruijn32tab", "math/bits.deBruijn64tab"], maps := true, apart := false, laid := [("math/bits.deBruijn32tab", laid_math_bits_deBruijn32tab), ("math/bits.deBruijn64tab", laid_math_bits_deBruijn64tab), ("internal/strconv.uint64pow10", laid_internal_strconv_uint64pow10), ("unicode/utf8.acceptRanges", laid_unicode_utf8_acceptRanges), ("loop.example/sagaflows/impl.eventCommands", laid_loop_example_sagaflows_impl_eventCommands), ("loop.example/sagaflows/impl.changeCommands", laid_loop_example_sagaflows_impl_changeCommands), ("unicode/utf8.first", laid_unicode_utf8_first)] }
def FnScriptMoveSaid : Prop := fnScriptMoveRow.holds Tryz.pinned (OpenSpec.ofChange fnScriptMoveSpec)

/-- ITS FALSE NEIGHBOUR: 'it returns false'. Refute it at one input. -/
def fnScriptMoveWrong : ChangeSpec := { name := "fnScriptMove", vars := ["loop.example/sagaflows/impl.eventCommands", "loop.example/sagaflows/impl.changeCommands"], fn := fun _ => fun
  | [d, g1, g2] => { results := [.lit (.bool false)], args := [d], vars := [g1, g2] }
  | _ => none }
def FnScriptMoveWrongFalsely : Prop := fnScriptMoveRow.holds Tryz.pinned (OpenSpec.ofChange fnScriptMoveWrong)

/-- 'laws.FnExactExecute': WHATEVER THE INPUT: true; the input reads as it did. -/
def fnExactExecuteSpec : ChangeSpec := { name := "fnExactExecute", vars := ["loop.example/sagaflows/impl.eventCommands", "loop.example/sagaflows/impl.changeCommands"], fn := fun _ => fun
  | [d, g1, g2] => { results := [.lit (.bool true)], args := [d], vars := [g1, g2] }
  | _ => none }
def fnExactExecuteRow : OpenClaim := { program := "ythdfefgianokgaagreatdoor", sum := "baf91651e8b413cc96663a061a89226c2d2e55270c146184f101e11a84e37996", func := "loop.example/sagaflows/laws.FnExactExecute", spec := "fnExactExecute", inPlace := ["internal/bytealg.CountString", "internal/bytealg.IndexByteString", "internal/bytealg.IndexString", "internal/abi.NoEscape", "internal/bytealg.MakeNoZero", "internal/bytealg.abigen_runtime_cmpstring"], unfollowed := true, recurses := true, named := ["unicode/utf8.first", "unicode/utf8.acceptRanges", "internal/bytealg.MaxLen", "loop.example/sagaflows/impl.eventCommands", "loop.example/sagaflows/impl.changeCommands", "internal/strconv.uint64pow10", "math/bits.deBruijn32tab", "math/bits.deBruijn64tab"], maps := true, apart := false, laid := [("math/bits.deBruijn32tab", laid_math_bits_deBruijn32tab), ("math/bits.deBruijn64tab", laid_math_bits_deBruijn64tab), ("internal/strconv.uint64pow10", laid_internal_strconv_uint64pow10), ("unicode/utf8.acceptRanges", laid_unicode_utf8_acceptRanges), ("loop.example/sagaflows/impl.eventCommands", laid_loop_example_sagaflows_impl_eventCommands), ("loop.example/sagaflows/impl.changeCommands", laid_loop_example_sagaflows_impl_changeCommands), ("unicode/utf8.first", laid_unicode_utf8_first)] }
def FnExactExecuteSaid : Prop := fnExactExecuteRow.holds Tryz.pinned (OpenSpec.ofChange fnExactExecuteSpec)

/-- ITS FALSE NEIGHBOUR: 'it returns false'. Refute it at one input. -/
def fnExactExecuteWrong : ChangeSpec := { name := "fnExactExecute", vars := ["loop.example/sagaflows/impl.eventCommands", "loop.example/sagaflows/impl.changeCommands"], fn := fun _ => fun
  | [d, g1, g2] => { results := [.lit (.bool false)], args := [d], vars := [g1, g2] }
  | _ => none }
def FnExactExecuteWrongFalsely : Prop := fnExactExecuteRow.holds Tryz.pinned (OpenSpec.ofChange fnExactExecuteWrong)

/- THE SECOND FORM. 'bulk': how many values and letters a reading holds, each counted each time it is reached (what is shared counts as often as it is met; a slice's spare places count too). A statement '..UptoSaid' is the law's where the arguments, and the package variables that the reading takes, are together of bulk at most 1048576: NARROWER than '..Said'. Prove '..Said' where nothing that the law and all that it calls make is longer than what came in: it says more and counts as full. Else prove '..UptoSaid'. A law counts once. -/
mutual
def uptoBulk {H : Type} : DataW H → Nat
  | .lit (.string bytes) => bytes.length + 1
  | .lit _ => 1
  | .nil => 1
  | .ptr d => uptoBulk d + 1
  | .slice elems spare => uptoBulkAll elems + uptoBulkAll spare + 1
  | .agg parts => uptoBulkAll parts + 1
  | .iface _ d => uptoBulk d + 1
  | .map entries => uptoBulkEntries entries + 1
  | .held _ => 1
def uptoBulkAll {H : Type} : List (DataW H) → Nat
  | [] => 0
  | d :: r => uptoBulk d + uptoBulkAll r
def uptoBulkEntries {H : Type} : List (Lit × DataW H) → Nat
  | [] => 0
  | x :: r => uptoBulkEntry x + uptoBulkEntries r
def uptoBulkEntry {H : Type} : Lit × DataW H → Nat
  | (.string bytes, d) => bytes.length + uptoBulk d + 1
  | (_, d) => uptoBulk d + 1
 end
def uptoSmall : (H : Type) → List (DataW H) → Bool := fun _ ds => decide (uptoBulkAll ds ≤ 1048576)
def OpenSpec.upto (s : _root_.Go.ChangeSpec) : _root_.Go.OpenSpec := { _root_.Go.OpenSpec.ofChange s with cond := some uptoSmall }

/-- 'laws.FnScript', WHERE WHAT IT READS IS OF BULK AT MOST 1048576: true; the input reads as it did. -/
def fnScriptUptoRow : OpenClaim := { program := "ythdfefgianokgaagreatdoor", sum := "baf91651e8b413cc96663a061a89226c2d2e55270c146184f101e11a84e37996", func := "loop.example/sagaflows/laws.FnScript", spec := "fnScript", inPlace := ["internal/bytealg.CountString", "internal/bytealg.IndexByteString", "internal/bytealg.IndexString", "internal/abi.NoEscape", "internal/bytealg.MakeNoZero", "internal/bytealg.abigen_runtime_cmpstring"], unfollowed := true, recurses := true, named := ["unicode/utf8.first", "unicode/utf8.acceptRanges", "internal/bytealg.MaxLen", "loop.example/sagaflows/impl.eventCommands", "loop.example/sagaflows/impl.changeCommands", "internal/strconv.uint64pow10", "math/bits.deBruijn32tab", "math/bits.deBruijn64tab"], maps := true, apart := false, laid := [("math/bits.deBruijn32tab", laid_math_bits_deBruijn32tab), ("math/bits.deBruijn64tab", laid_math_bits_deBruijn64tab), ("internal/strconv.uint64pow10", laid_internal_strconv_uint64pow10), ("unicode/utf8.acceptRanges", laid_unicode_utf8_acceptRanges), ("loop.example/sagaflows/impl.eventCommands", laid_loop_example_sagaflows_impl_eventCommands), ("loop.example/sagaflows/impl.changeCommands", laid_loop_example_sagaflows_impl_changeCommands), ("unicode/utf8.first", laid_unicode_utf8_first)], narrowed := true }
def FnScriptUptoSaid : Prop := fnScriptUptoRow.holds Tryz.pinned (OpenSpec.upto fnScriptSpec)

/-- 'laws.FnScriptCut', WHERE WHAT IT READS IS OF BULK AT MOST 1048576: true; the input reads as it did. -/
def fnScriptCutUptoRow : OpenClaim := { program := "ythdfefgianokgaagreatdoor", sum := "baf91651e8b413cc96663a061a89226c2d2e55270c146184f101e11a84e37996", func := "loop.example/sagaflows/laws.FnScriptCut", spec := "fnScriptCut", inPlace := ["internal/bytealg.CountString", "internal/bytealg.IndexByteString", "internal/bytealg.IndexString", "internal/abi.NoEscape", "internal/bytealg.MakeNoZero", "internal/bytealg.abigen_runtime_cmpstring"], unfollowed := true, recurses := true, named := ["unicode/utf8.first", "unicode/utf8.acceptRanges", "internal/bytealg.MaxLen", "loop.example/sagaflows/impl.eventCommands", "loop.example/sagaflows/impl.changeCommands", "internal/strconv.uint64pow10", "math/bits.deBruijn32tab", "math/bits.deBruijn64tab"], maps := true, apart := false, laid := [("math/bits.deBruijn32tab", laid_math_bits_deBruijn32tab), ("math/bits.deBruijn64tab", laid_math_bits_deBruijn64tab), ("internal/strconv.uint64pow10", laid_internal_strconv_uint64pow10), ("unicode/utf8.acceptRanges", laid_unicode_utf8_acceptRanges), ("loop.example/sagaflows/impl.eventCommands", laid_loop_example_sagaflows_impl_eventCommands), ("loop.example/sagaflows/impl.changeCommands", laid_loop_example_sagaflows_impl_changeCommands), ("unicode/utf8.first", laid_unicode_utf8_first)], narrowed := true }
def FnScriptCutUptoSaid : Prop := fnScriptCutUptoRow.holds Tryz.pinned (OpenSpec.upto fnScriptCutSpec)

/-- 'laws.FnScriptWhat', WHERE WHAT IT READS IS OF BULK AT MOST 1048576: true; the input reads as it did. -/
def fnScriptWhatUptoRow : OpenClaim := { program := "ythdfefgianokgaagreatdoor", sum := "baf91651e8b413cc96663a061a89226c2d2e55270c146184f101e11a84e37996", func := "loop.example/sagaflows/laws.FnScriptWhat", spec := "fnScriptWhat", inPlace := ["internal/bytealg.CountString", "internal/bytealg.IndexByteString", "internal/bytealg.IndexString", "internal/abi.NoEscape", "internal/bytealg.MakeNoZero", "internal/bytealg.abigen_runtime_cmpstring"], unfollowed := true, recurses := true, named := ["unicode/utf8.first", "unicode/utf8.acceptRanges", "internal/bytealg.MaxLen", "loop.example/sagaflows/impl.eventCommands", "loop.example/sagaflows/impl.changeCommands", "internal/strconv.uint64pow10", "math/bits.deBruijn32tab", "math/bits.deBruijn64tab"], maps := true, apart := false, laid := [("math/bits.deBruijn32tab", laid_math_bits_deBruijn32tab), ("math/bits.deBruijn64tab", laid_math_bits_deBruijn64tab), ("internal/strconv.uint64pow10", laid_internal_strconv_uint64pow10), ("unicode/utf8.acceptRanges", laid_unicode_utf8_acceptRanges), ("loop.example/sagaflows/impl.eventCommands", laid_loop_example_sagaflows_impl_eventCommands), ("loop.example/sagaflows/impl.changeCommands", laid_loop_example_sagaflows_impl_changeCommands), ("unicode/utf8.first", laid_unicode_utf8_first)], narrowed := true }
def FnScriptWhatUptoSaid : Prop := fnScriptWhatUptoRow.holds Tryz.pinned (OpenSpec.upto fnScriptWhatSpec)

/-- 'laws.FnScriptNew', WHERE WHAT IT READS IS OF BULK AT MOST 1048576: true; the input reads as it did. -/
def fnScriptNewUptoRow : OpenClaim := { program := "ythdfefgianokgaagreatdoor", sum := "baf91651e8b413cc96663a061a89226c2d2e55270c146184f101e11a84e37996", func := "loop.example/sagaflows/laws.FnScriptNew", spec := "fnScriptNew", inPlace := ["internal/bytealg.CountString", "internal/bytealg.IndexByteString", "internal/bytealg.IndexString", "internal/abi.NoEscape", "internal/bytealg.MakeNoZero", "internal/bytealg.abigen_runtime_cmpstring"], unfollowed := true, recurses := true, named := ["unicode/utf8.first", "unicode/utf8.acceptRanges", "internal/bytealg.MaxLen", "loop.example/sagaflows/impl.eventCommands", "loop.example/sagaflows/impl.changeCommands", "internal/strconv.uint64pow10", "math/bits.deBruijn32tab", "math/bits.deBruijn64tab"], maps := true, apart := false, laid := [("math/bits.deBruijn32tab", laid_math_bits_deBruijn32tab), ("math/bits.deBruijn64tab", laid_math_bits_deBruijn64tab), ("internal/strconv.uint64pow10", laid_internal_strconv_uint64pow10), ("unicode/utf8.acceptRanges", laid_unicode_utf8_acceptRanges), ("loop.example/sagaflows/impl.eventCommands", laid_loop_example_sagaflows_impl_eventCommands), ("loop.example/sagaflows/impl.changeCommands", laid_loop_example_sagaflows_impl_changeCommands), ("unicode/utf8.first", laid_unicode_utf8_first)], narrowed := true }
def FnScriptNewUptoSaid : Prop := fnScriptNewUptoRow.holds Tryz.pinned (OpenSpec.upto fnScriptNewSpec)

/-- 'laws.FnScriptBad', WHERE WHAT IT READS IS OF BULK AT MOST 1048576: true; the input reads as it did. -/
def fnScriptBadUptoRow : OpenClaim := { program := "ythdfefgianokgaagreatdoor", sum := "baf91651e8b413cc96663a061a89226c2d2e55270c146184f101e11a84e37996", func := "loop.example/sagaflows/laws.FnScriptBad", spec := "fnScriptBad", inPlace := ["internal/bytealg.CountString", "internal/bytealg.IndexByteString", "internal/bytealg.IndexString", "internal/abi.NoEscape", "internal/bytealg.MakeNoZero", "internal/bytealg.abigen_runtime_cmpstring"], unfollowed := true, recurses := true, named := ["unicode/utf8.first", "unicode/utf8.acceptRanges", "internal/bytealg.MaxLen", "loop.example/sagaflows/impl.eventCommands", "loop.example/sagaflows/impl.changeCommands", "internal/strconv.uint64pow10", "math/bits.deBruijn32tab", "math/bits.deBruijn64tab"], maps := true, apart := false, laid := [("math/bits.deBruijn32tab", laid_math_bits_deBruijn32tab), ("math/bits.deBruijn64tab", laid_math_bits_deBruijn64tab), ("internal/strconv.uint64pow10", laid_internal_strconv_uint64pow10), ("unicode/utf8.acceptRanges", laid_unicode_utf8_acceptRanges), ("loop.example/sagaflows/impl.eventCommands", laid_loop_example_sagaflows_impl_eventCommands), ("loop.example/sagaflows/impl.changeCommands", laid_loop_example_sagaflows_impl_changeCommands), ("unicode/utf8.first", laid_unicode_utf8_first)], narrowed := true }
def FnScriptBadUptoSaid : Prop := fnScriptBadUptoRow.holds Tryz.pinned (OpenSpec.upto fnScriptBadSpec)

/-- 'laws.FnScriptDo', WHERE WHAT IT READS IS OF BULK AT MOST 1048576: true; the input reads as it did. -/
def fnScriptDoUptoRow : OpenClaim := { program := "ythdfefgianokgaagreatdoor", sum := "baf91651e8b413cc96663a061a89226c2d2e55270c146184f101e11a84e37996", func := "loop.example/sagaflows/laws.FnScriptDo", spec := "fnScriptDo", inPlace := ["internal/bytealg.CountString", "internal/bytealg.IndexByteString", "internal/bytealg.IndexString", "internal/abi.NoEscape", "internal/bytealg.MakeNoZero", "internal/bytealg.abigen_runtime_cmpstring"], unfollowed := true, recurses := true, named := ["unicode/utf8.first", "unicode/utf8.acceptRanges", "internal/bytealg.MaxLen", "loop.example/sagaflows/impl.eventCommands", "loop.example/sagaflows/impl.changeCommands", "internal/strconv.uint64pow10", "math/bits.deBruijn32tab", "math/bits.deBruijn64tab"], maps := true, apart := false, laid := [("math/bits.deBruijn32tab", laid_math_bits_deBruijn32tab), ("math/bits.deBruijn64tab", laid_math_bits_deBruijn64tab), ("internal/strconv.uint64pow10", laid_internal_strconv_uint64pow10), ("unicode/utf8.acceptRanges", laid_unicode_utf8_acceptRanges), ("loop.example/sagaflows/impl.eventCommands", laid_loop_example_sagaflows_impl_eventCommands), ("loop.example/sagaflows/impl.changeCommands", laid_loop_example_sagaflows_impl_changeCommands), ("unicode/utf8.first", laid_unicode_utf8_first)], narrowed := true }
def FnScriptDoUptoSaid : Prop := fnScriptDoUptoRow.holds Tryz.pinned (OpenSpec.upto fnScriptDoSpec)

/-- 'laws.FnScriptFail', WHERE WHAT IT READS IS OF BULK AT MOST 1048576: true; the input reads as it did. -/
def fnScriptFailUptoRow : OpenClaim := { program := "ythdfefgianokgaagreatdoor", sum := "baf91651e8b413cc96663a061a89226c2d2e55270c146184f101e11a84e37996", func := "loop.example/sagaflows/laws.FnScriptFail", spec := "fnScriptFail", inPlace := ["internal/bytealg.CountString", "internal/bytealg.IndexByteString", "internal/bytealg.IndexString", "internal/abi.NoEscape", "internal/bytealg.MakeNoZero", "internal/bytealg.abigen_runtime_cmpstring"], unfollowed := true, recurses := true, named := ["unicode/utf8.first", "unicode/utf8.acceptRanges", "internal/bytealg.MaxLen", "loop.example/sagaflows/impl.eventCommands", "loop.example/sagaflows/impl.changeCommands", "internal/strconv.uint64pow10", "math/bits.deBruijn32tab", "math/bits.deBruijn64tab"], maps := true, apart := false, laid := [("math/bits.deBruijn32tab", laid_math_bits_deBruijn32tab), ("math/bits.deBruijn64tab", laid_math_bits_deBruijn64tab), ("internal/strconv.uint64pow10", laid_internal_strconv_uint64pow10), ("unicode/utf8.acceptRanges", laid_unicode_utf8_acceptRanges), ("loop.example/sagaflows/impl.eventCommands", laid_loop_example_sagaflows_impl_eventCommands), ("loop.example/sagaflows/impl.changeCommands", laid_loop_example_sagaflows_impl_changeCommands), ("unicode/utf8.first", laid_unicode_utf8_first)], narrowed := true }
def FnScriptFailUptoSaid : Prop := fnScriptFailUptoRow.holds Tryz.pinned (OpenSpec.upto fnScriptFailSpec)

/-- 'laws.FnScriptMark', WHERE WHAT IT READS IS OF BULK AT MOST 1048576: true; the input reads as it did. -/
def fnScriptMarkUptoRow : OpenClaim := { program := "ythdfefgianokgaagreatdoor", sum := "baf91651e8b413cc96663a061a89226c2d2e55270c146184f101e11a84e37996", func := "loop.example/sagaflows/laws.FnScriptMark", spec := "fnScriptMark", inPlace := ["internal/bytealg.CountString", "internal/bytealg.IndexByteString", "internal/bytealg.IndexString", "internal/abi.NoEscape", "internal/bytealg.MakeNoZero", "internal/bytealg.abigen_runtime_cmpstring"], unfollowed := true, recurses := true, named := ["unicode/utf8.first", "unicode/utf8.acceptRanges", "internal/bytealg.MaxLen", "loop.example/sagaflows/impl.eventCommands", "loop.example/sagaflows/impl.changeCommands", "internal/strconv.uint64pow10", "math/bits.deBruijn32tab", "math/bits.deBruijn64tab"], maps := true, apart := false, laid := [("math/bits.deBruijn32tab", laid_math_bits_deBruijn32tab), ("math/bits.deBruijn64tab", laid_math_bits_deBruijn64tab), ("internal/strconv.uint64pow10", laid_internal_strconv_uint64pow10), ("unicode/utf8.acceptRanges", laid_unicode_utf8_acceptRanges), ("loop.example/sagaflows/impl.eventCommands", laid_loop_example_sagaflows_impl_eventCommands), ("loop.example/sagaflows/impl.changeCommands", laid_loop_example_sagaflows_impl_changeCommands), ("unicode/utf8.first", laid_unicode_utf8_first)], narrowed := true }
def FnScriptMarkUptoSaid : Prop := fnScriptMarkUptoRow.holds Tryz.pinned (OpenSpec.upto fnScriptMarkSpec)

/-- 'laws.FnScriptMove', WHERE WHAT IT READS IS OF BULK AT MOST 1048576: true; the input reads as it did. -/
def fnScriptMoveUptoRow : OpenClaim := { program := "ythdfefgianokgaagreatdoor", sum := "baf91651e8b413cc96663a061a89226c2d2e55270c146184f101e11a84e37996", func := "loop.example/sagaflows/laws.FnScriptMove", spec := "fnScriptMove", inPlace := ["internal/bytealg.CountString", "internal/bytealg.IndexByteString", "internal/bytealg.IndexString", "internal/abi.NoEscape", "internal/bytealg.MakeNoZero", "internal/bytealg.abigen_runtime_cmpstring"], unfollowed := true, recurses := true, named := ["unicode/utf8.first", "unicode/utf8.acceptRanges", "internal/bytealg.MaxLen", "loop.example/sagaflows/impl.eventCommands", "loop.example/sagaflows/impl.changeCommands", "internal/strconv.uint64pow10", "math/bits.deBruijn32tab", "math/bits.deBruijn64tab"], maps := true, apart := false, laid := [("math/bits.deBruijn32tab", laid_math_bits_deBruijn32tab), ("math/bits.deBruijn64tab", laid_math_bits_deBruijn64tab), ("internal/strconv.uint64pow10", laid_internal_strconv_uint64pow10), ("unicode/utf8.acceptRanges", laid_unicode_utf8_acceptRanges), ("loop.example/sagaflows/impl.eventCommands", laid_loop_example_sagaflows_impl_eventCommands), ("loop.example/sagaflows/impl.changeCommands", laid_loop_example_sagaflows_impl_changeCommands), ("unicode/utf8.first", laid_unicode_utf8_first)], narrowed := true }
def FnScriptMoveUptoSaid : Prop := fnScriptMoveUptoRow.holds Tryz.pinned (OpenSpec.upto fnScriptMoveSpec)

/-- 'laws.FnExactExecute', WHERE WHAT IT READS IS OF BULK AT MOST 1048576: true; the input reads as it did. -/
def fnExactExecuteUptoRow : OpenClaim := { program := "ythdfefgianokgaagreatdoor", sum := "baf91651e8b413cc96663a061a89226c2d2e55270c146184f101e11a84e37996", func := "loop.example/sagaflows/laws.FnExactExecute", spec := "fnExactExecute", inPlace := ["internal/bytealg.CountString", "internal/bytealg.IndexByteString", "internal/bytealg.IndexString", "internal/abi.NoEscape", "internal/bytealg.MakeNoZero", "internal/bytealg.abigen_runtime_cmpstring"], unfollowed := true, recurses := true, named := ["unicode/utf8.first", "unicode/utf8.acceptRanges", "internal/bytealg.MaxLen", "loop.example/sagaflows/impl.eventCommands", "loop.example/sagaflows/impl.changeCommands", "internal/strconv.uint64pow10", "math/bits.deBruijn32tab", "math/bits.deBruijn64tab"], maps := true, apart := false, laid := [("math/bits.deBruijn32tab", laid_math_bits_deBruijn32tab), ("math/bits.deBruijn64tab", laid_math_bits_deBruijn64tab), ("internal/strconv.uint64pow10", laid_internal_strconv_uint64pow10), ("unicode/utf8.acceptRanges", laid_unicode_utf8_acceptRanges), ("loop.example/sagaflows/impl.eventCommands", laid_loop_example_sagaflows_impl_eventCommands), ("loop.example/sagaflows/impl.changeCommands", laid_loop_example_sagaflows_impl_changeCommands), ("unicode/utf8.first", laid_unicode_utf8_first)], narrowed := true }
def FnExactExecuteUptoSaid : Prop := fnExactExecuteUptoRow.holds Tryz.pinned (OpenSpec.upto fnExactExecuteSpec)

end Rows
end Go.Proofs.YthdfefgianokgaaGreatDoor
