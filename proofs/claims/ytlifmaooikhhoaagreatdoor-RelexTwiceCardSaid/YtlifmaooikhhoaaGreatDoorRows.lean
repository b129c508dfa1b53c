/-
  NARROWER THAN 'FOR EVERY INPUT', by the rows' own cells (each row's printed sentence says how): DfaRight: laid · LexCovers: laid · LexAll: laid · LexOne: laid · RelexCuts: laid · RelexEdits: laid · RelexOther: laid · RelexTwice: laid · RelexFew: laid · RelexIdle: laid.
  DERIVED. THE GIVEN ROWS OF THIS SEAT. 10 by the template 'for every input the law returns true; each argument reads behind the call as it read before'; 0 by the template 'total and deterministic' (their statements: YtlifmaooikhhoaaGreatDoorTotals.lean).
  GIVEN WITH THE SEED: the statements are not yours to turn. If you find one false, say at which input.
  Laid BY PROGRAM, IN A SANDBOX (cutbox-rows.mjs): the forced cells as the released guide's own fill.sh prints them over the translation 517f8388c818b157… (all of the seat's roots in one cut). By AI agents, Wed Nov 11 2026. No macro, syntax, notation, axiom, sorry.
-/
import Derived.Test.YtlifmaooikhhoaaGreatDoorChecked
import GoSem.Claim
import GoSem.ClaimJoined
import GoSem.ClaimMapViews
import Derived.JoinedTies
import Derived.KernelRfl
namespace Go.Proofs.YtlifmaooikhhoaaGreatDoor
/- THE CELL 'sum', in the pinned program and in every row, IS THE sha256 OF THE DUMP (.gsa) THAT YtlifmaooikhhoaaGreatDoorProg.lean LOADS. Nothing in Lean hashes anything: it is a label: what it is worth is what the hold of that sum in a sandbox is worth. -/
noncomputable def Tryz.pinned : Pinned := { name := "ytlifmaooikhhoaagreatdoor", sum := "517f8388c818b15737a5409c69c2738396208227ffbc7b5c8ed996b09d95f4d9", checked := Tryz.checked }
namespace Rows
def none {H : Type} : Left H := { results := [], args := [] }

/- WHAT THE LISTED PACKAGE-LEVEL VARIABLES READ AS WHEN THE CALL BEGINS. Each datum BY PROGRAM (the guide's laid-datum.mjs) off the statement by which the dump's own 'gosem.cut.vars' lays the variable. In a bare row this is a premise. The card (YtlifmaooikhhoaaGreatDoorCards.lean) ties it to the program's text. -/
def laid_math_bits_deBruijn32tab {H : Type} : DataW H := .agg [.lit (.int .u8 0), .lit (.int .u8 1), .lit (.int .u8 28), .lit (.int .u8 2), .lit (.int .u8 29), .lit (.int .u8 14), .lit (.int .u8 24), .lit (.int .u8 3), .lit (.int .u8 30), .lit (.int .u8 22), .lit (.int .u8 20), .lit (.int .u8 15), .lit (.int .u8 25), .lit (.int .u8 17), .lit (.int .u8 4), .lit (.int .u8 8), .lit (.int .u8 31), .lit (.int .u8 27), .lit (.int .u8 13), .lit (.int .u8 23), .lit (.int .u8 21), .lit (.int .u8 19), .lit (.int .u8 16), .lit (.int .u8 7), .lit (.int .u8 26), .lit (.int .u8 12), .lit (.int .u8 18), .lit (.int .u8 6), .lit (.int .u8 11), .lit (.int .u8 5), .lit (.int .u8 10), .lit (.int .u8 9)]
def laid_math_bits_deBruijn64tab {H : Type} : DataW H := .agg [.lit (.int .u8 0), .lit (.int .u8 1), .lit (.int .u8 56), .lit (.int .u8 2), .lit (.int .u8 57), .lit (.int .u8 49), .lit (.int .u8 28), .lit (.int .u8 3), .lit (.int .u8 61), .lit (.int .u8 58), .lit (.int .u8 42), .lit (.int .u8 50), .lit (.int .u8 38), .lit (.int .u8 29), .lit (.int .u8 17), .lit (.int .u8 4), .lit (.int .u8 62), .lit (.int .u8 47), .lit (.int .u8 59), .lit (.int .u8 36), .lit (.int .u8 45), .lit (.int .u8 43), .lit (.int .u8 51), .lit (.int .u8 22), .lit (.int .u8 53), .lit (.int .u8 39), .lit (.int .u8 33), .lit (.int .u8 30), .lit (.int .u8 24), .lit (.int .u8 18), .lit (.int .u8 12), .lit (.int .u8 5), .lit (.int .u8 63), .lit (.int .u8 55), .lit (.int .u8 48), .lit (.int .u8 27), .lit (.int .u8 60), .lit (.int .u8 41), .lit (.int .u8 37), .lit (.int .u8 16), .lit (.int .u8 46), .lit (.int .u8 35), .lit (.int .u8 44), .lit (.int .u8 21), .lit (.int .u8 52), .lit (.int .u8 32), .lit (.int .u8 23), .lit (.int .u8 11), .lit (.int .u8 54), .lit (.int .u8 26), .lit (.int .u8 40), .lit (.int .u8 15), .lit (.int .u8 34), .lit (.int .u8 20), .lit (.int .u8 31), .lit (.int .u8 10), .lit (.int .u8 25), .lit (.int .u8 14), .lit (.int .u8 19), .lit (.int .u8 9), .lit (.int .u8 13), .lit (.int .u8 8), .lit (.int .u8 7), .lit (.int .u8 6)]
def laid_internal_strconv_uint64pow10 {H : Type} : DataW H := .agg [.lit (.int .u64 1), .lit (.int .u64 10), .lit (.int .u64 100), .lit (.int .u64 1000), .lit (.int .u64 10000), .lit (.int .u64 100000), .lit (.int .u64 1000000), .lit (.int .u64 10000000), .lit (.int .u64 100000000), .lit (.int .u64 1000000000), .lit (.int .u64 10000000000), .lit (.int .u64 100000000000), .lit (.int .u64 1000000000000), .lit (.int .u64 10000000000000), .lit (.int .u64 100000000000000), .lit (.int .u64 1000000000000000), .lit (.int .u64 10000000000000000), .lit (.int .u64 100000000000000000), .lit (.int .u64 1000000000000000000), .lit (.int .u64 10000000000000000000)]

/-- 'topiarylaw08.DfaRight': WHATEVER THE INPUT: true; the input reads as it did. -/
def dfaRightSpec : ChangeSpec := { name := "dfaRight", fn := fun _ => fun
  | [d1, d2] => { results := [.lit (.bool true)], args := [d1, d2] }
  | _ => none }
def dfaRightRow : OpenClaim := { program := "ytlifmaooikhhoaagreatdoor", sum := "517f8388c818b15737a5409c69c2738396208227ffbc7b5c8ed996b09d95f4d9", func := "topiary/topiarylaw08.DfaRight", spec := "dfaRight", inPlace := ["internal/bytealg.IndexByteString", "internal/abi.NoEscape"], unfollowed := true, recurses := true, named := ["math/bits.deBruijn64tab", "internal/strconv.uint64pow10", "math/bits.deBruijn32tab"], apart := false, laid := [("math/bits.deBruijn32tab", laid_math_bits_deBruijn32tab), ("math/bits.deBruijn64tab", laid_math_bits_deBruijn64tab), ("internal/strconv.uint64pow10", laid_internal_strconv_uint64pow10)] }
def DfaRightSaid : Prop := dfaRightRow.holds Tryz.pinned (OpenSpec.ofChange dfaRightSpec)

/-- ITS FALSE NEIGHBOUR: 'it returns false'. Refute it at one input. -/
def dfaRightWrong : ChangeSpec := { name := "dfaRight", fn := fun _ => fun
  | [d1, d2] => { results := [.lit (.bool false)], args := [d1, d2] }
  | _ => none }
def DfaRightWrongFalsely : Prop := dfaRightRow.holds Tryz.pinned (OpenSpec.ofChange dfaRightWrong)

/-- 'topiarylaw10.LexCovers': WHATEVER THE INPUT: true; the input reads as it did. -/
def lexCoversSpec : ChangeSpec := { name := "lexCovers", fn := fun _ => fun
  | [d1, d2, d3] => { results := [.lit (.bool true)], args := [d1, d2, d3] }
  | _ => none }
def lexCoversRow : OpenClaim := { program := "ytlifmaooikhhoaagreatdoor", sum := "517f8388c818b15737a5409c69c2738396208227ffbc7b5c8ed996b09d95f4d9", func := "topiary/topiarylaw10.LexCovers", spec := "lexCovers", inPlace := ["internal/bytealg.IndexByteString", "internal/abi.NoEscape"], unfollowed := true, recurses := true, named := ["math/bits.deBruijn64tab", "internal/strconv.uint64pow10", "math/bits.deBruijn32tab"], apart := false, laid := [("math/bits.deBruijn32tab", laid_math_bits_deBruijn32tab), ("math/bits.deBruijn64tab", laid_math_bits_deBruijn64tab), ("internal/strconv.uint64pow10", laid_internal_strconv_uint64pow10)] }
def LexCoversSaid : Prop := lexCoversRow.holds Tryz.pinned (OpenSpec.ofChange lexCoversSpec)

/-- ITS FALSE NEIGHBOUR: 'it returns false'. Refute it at one input. -/
def lexCoversWrong : ChangeSpec := { name := "lexCovers", fn := fun _ => fun
  | [d1, d2, d3] => { results := [.lit (.bool false)], args := [d1, d2, d3] }
  | _ => none }
def LexCoversWrongFalsely : Prop := lexCoversRow.holds Tryz.pinned (OpenSpec.ofChange lexCoversWrong)

/-- 'topiarylaw10.LexAll': WHATEVER THE INPUT: true; the input reads as it did. -/
def lexAllSpec : ChangeSpec := { name := "lexAll", fn := fun _ => fun
  | [d1, d2] => { results := [.lit (.bool true)], args := [d1, d2] }
  | _ => none }
def lexAllRow : OpenClaim := { program := "ytlifmaooikhhoaagreatdoor", sum := "517f8388c818b15737a5409c69c2738396208227ffbc7b5c8ed996b09d95f4d9", func := "topiary/topiarylaw10.LexAll", spec := "lexAll", inPlace := ["internal/bytealg.IndexByteString", "internal/abi.NoEscape"], unfollowed := true, recurses := true, named := ["math/bits.deBruijn64tab", "internal/strconv.uint64pow10", "math/bits.deBruijn32tab"], apart := false, laid := [("math/bits.deBruijn32tab", laid_math_bits_deBruijn32tab), ("math/bits.deBruijn64tab", laid_math_bits_deBruijn64tab), ("internal/strconv.uint64pow10", laid_internal_strconv_uint64pow10)] }
def LexAllSaid : Prop := lexAllRow.holds Tryz.pinned (OpenSpec.ofChange lexAllSpec)

/-- ITS FALSE NEIGHBOUR: 'it returns false'. Refute it at one input. -/
def lexAllWrong : ChangeSpec := { name := "lexAll", fn := fun _ => fun
  | [d1, d2] => { results := [.lit (.bool false)], args := [d1, d2] }
  | _ => none }
def LexAllWrongFalsely : Prop := lexAllRow.holds Tryz.pinned (OpenSpec.ofChange lexAllWrong)

/-- 'topiarylaw10.LexOne': WHATEVER THE INPUT: true; the input reads as it did. -/
def lexOneSpec : ChangeSpec := { name := "lexOne", fn := fun _ => fun
  | [d1, d2, d3] => { results := [.lit (.bool true)], args := [d1, d2, d3] }
  | _ => none }
def lexOneRow : OpenClaim := { program := "ytlifmaooikhhoaagreatdoor", sum := "517f8388c818b15737a5409c69c2738396208227ffbc7b5c8ed996b09d95f4d9", func := "topiary/topiarylaw10.LexOne", spec := "lexOne", inPlace := ["internal/bytealg.IndexByteString", "internal/abi.NoEscape"], unfollowed := true, recurses := true, named := ["math/bits.deBruijn64tab", "internal/strconv.uint64pow10", "math/bits.deBruijn32tab"], apart := false, laid := [("math/bits.deBruijn32tab", laid_math_bits_deBruijn32tab), ("math/bits.deBruijn64tab", laid_math_bits_deBruijn64tab), ("internal/strconv.uint64pow10", laid_internal_strconv_uint64pow10)] }
def LexOneSaid : Prop := lexOneRow.holds Tryz.pinned (OpenSpec.ofChange lexOneSpec)

/-- ITS FALSE NEIGHBOUR: 'it returns false'. Refute it at one input. -/
def lexOneWrong : ChangeSpec := { name := "lexOne", fn := fun _ => fun
  | [d1, d2, d3] => { results := [.lit (.bool false)], args := [d1, d2, d3] }
  | _ => none }
def LexOneWrongFalsely : Prop := lexOneRow.holds Tryz.pinned (OpenSpec.ofChange lexOneWrong)

/-- 'topiarylaw23.RelexCuts': WHATEVER THE INPUT: true; the input reads as it did. -/
def relexCutsSpec : ChangeSpec := { name := "relexCuts", fn := fun _ => fun
  | [d1, d2] => { results := [.lit (.bool true)], args := [d1, d2] }
  | _ => none }
def relexCutsRow : OpenClaim := { program := "ytlifmaooikhhoaagreatdoor", sum := "517f8388c818b15737a5409c69c2738396208227ffbc7b5c8ed996b09d95f4d9", func := "topiary/topiarylaw23.RelexCuts", spec := "relexCuts", inPlace := ["internal/bytealg.IndexByteString", "internal/abi.NoEscape"], unfollowed := true, recurses := true, named := ["math/bits.deBruijn64tab", "internal/strconv.uint64pow10", "math/bits.deBruijn32tab"], apart := false, laid := [("math/bits.deBruijn32tab", laid_math_bits_deBruijn32tab), ("math/bits.deBruijn64tab", laid_math_bits_deBruijn64tab), ("internal/strconv.uint64pow10", laid_internal_strconv_uint64pow10)] }
def RelexCutsSaid : Prop := relexCutsRow.holds Tryz.pinned (OpenSpec.ofChange relexCutsSpec)

/-- ITS FALSE NEIGHBOUR: 'it returns false'. Refute it at one input. -/
def relexCutsWrong : ChangeSpec := { name := "relexCuts", fn := fun _ => fun
  | [d1, d2] => { results := [.lit (.bool false)], args := [d1, d2] }
  | _ => none }
def RelexCutsWrongFalsely : Prop := relexCutsRow.holds Tryz.pinned (OpenSpec.ofChange relexCutsWrong)

/-- 'topiarylaw23.RelexEdits': WHATEVER THE INPUT: true; the input reads as it did. -/
def relexEditsSpec : ChangeSpec := { name := "relexEdits", fn := fun _ => fun
  | [d1, d2, d3] => { results := [.lit (.bool true)], args := [d1, d2, d3] }
  | _ => none }
def relexEditsRow : OpenClaim := { program := "ytlifmaooikhhoaagreatdoor", sum := "517f8388c818b15737a5409c69c2738396208227ffbc7b5c8ed996b09d95f4d9", func := "topiary/topiarylaw23.RelexEdits", spec := "relexEdits", inPlace := ["internal/bytealg.IndexByteString", "internal/abi.NoEscape"], unfollowed := true, recurses := true, named := ["math/bits.deBruijn64tab", "internal/strconv.uint64pow10", "math/bits.deBruijn32tab"], apart := false, laid := [("math/bits.deBruijn32tab", laid_math_bits_deBruijn32tab), ("math/bits.deBruijn64tab", laid_math_bits_deBruijn64tab), ("internal/strconv.uint64pow10", laid_internal_strconv_uint64pow10)] }
def RelexEditsSaid : Prop := relexEditsRow.holds Tryz.pinned (OpenSpec.ofChange relexEditsSpec)

/-- ITS FALSE NEIGHBOUR: 'it returns false'. Refute it at one input. -/
def relexEditsWrong : ChangeSpec := { name := "relexEdits", fn := fun _ => fun
  | [d1, d2, d3] => { results := [.lit (.bool false)], args := [d1, d2, d3] }
  | _ => none }
def RelexEditsWrongFalsely : Prop := relexEditsRow.holds Tryz.pinned (OpenSpec.ofChange relexEditsWrong)

/-- 'topiarylaw23.RelexOther': WHATEVER THE INPUT: true; the input reads as it did. -/
def relexOtherSpec : ChangeSpec := { name := "relexOther", fn := fun _ => fun
  | [d1, d2, d3] => { results := [.lit (.bool true)], args := [d1, d2, d3] }
  | _ => none }
def relexOtherRow : OpenClaim := { program := "ytlifmaooikhhoaagreatdoor", sum := "517f8388c818b15737a5409c69c2738396208227ffbc7b5c8ed996b09d95f4d9", func := "topiary/topiarylaw23.RelexOther", spec := "relexOther", inPlace := ["internal/bytealg.IndexByteString", "internal/abi.NoEscape"], unfollowed := true, recurses := true, named := ["math/bits.deBruijn64tab", "internal/strconv.uint64pow10", "math/bits.deBruijn32tab"], apart := false, laid := [("math/bits.deBruijn32tab", laid_math_bits_deBruijn32tab), ("math/bits.deBruijn64tab", laid_math_bits_deBruijn64tab), ("internal/strconv.uint64pow10", laid_internal_strconv_uint64pow10)] }
def RelexOtherSaid : Prop := relexOtherRow.holds Tryz.pinned (OpenSpec.ofChange relexOtherSpec)

/-- ITS FALSE NEIGHBOUR: 'it returns false'. Refute it at one input. -/
def relexOtherWrong : ChangeSpec := { name := "relexOther", fn := fun _ => fun
  | [d1, d2, d3] => { results := [.lit (.bool false)], args := [d1, d2, d3] }
  | _ => none }
def RelexOtherWrongFalsely : Prop := relexOtherRow.holds Tryz.pinned (OpenSpec.ofChange relexOtherWrong)

/-- 'topiarylaw23.RelexTwice': WHATEVER THE INPUT: true; the input reads as it did. -/
def relexTwiceSpec : ChangeSpec := { name := "relexTwice", fn := fun _ => fun
  | [d1, d2, d3] => { results := [.lit (.bool true)], args := [d1, d2, d3] }
  | _ => none }
def relexTwiceRow : OpenClaim := { program := "ytlifmaooikhhoaagreatdoor", sum := "517f8388c818b15737a5409c69c2738396208227ffbc7b5c8ed996b09d95f4d9", func := "topiary/topiarylaw23.RelexTwice", spec := "relexTwice", inPlace := ["internal/bytealg.IndexByteString", "internal/abi.NoEscape"], unfollowed := true, recurses := true, named := ["math/bits.deBruijn64tab", "internal/strconv.uint64pow10", "math/bits.deBruijn32tab"], apart := false, laid := [("math/bits.deBruijn32tab", laid_math_bits_deBruijn32tab), ("math/bits.deBruijn64tab", laid_math_bits_deBruijn64tab), ("internal/strconv.uint64pow10", laid_internal_strconv_uint64pow10)] }
def RelexTwiceSaid : Prop := relexTwiceRow.holds Tryz.pinned (OpenSpec.ofChange relexTwiceSpec)

/-- ITS FALSE NEIGHBOUR: 'it returns false'. Refute it at one input. -/
def relexTwiceWrong : ChangeSpec := { name := "relexTwice", fn := fun _ => fun
  | [d1, d2, d3] => { results := [.lit (.bool false)], args := [d1, d2, d3] }
  | _ => none }
def RelexTwiceWrongFalsely : Prop := relexTwiceRow.holds Tryz.pinned (OpenSpec.ofChange relexTwiceWrong)

/-- 'topiarylaw23.RelexFew': WHATEVER THE INPUT: true; the input reads as it did. -/
def relexFewSpec : ChangeSpec := { name := "relexFew", fn := fun _ => fun
  | [d1, d2, d3] => { results := [.lit (.bool true)], args := [d1, d2, d3] }
  | _ => none }
def relexFewRow : OpenClaim := { program := "ytlifmaooikhhoaagreatdoor", sum := "517f8388c818b15737a5409c69c2738396208227ffbc7b5c8ed996b09d95f4d9", func := "topiary/topiarylaw23.RelexFew", spec := "relexFew", inPlace := ["internal/bytealg.IndexByteString", "internal/abi.NoEscape"], unfollowed := true, recurses := true, named := ["math/bits.deBruijn64tab", "internal/strconv.uint64pow10", "math/bits.deBruijn32tab"], apart := false, laid := [("math/bits.deBruijn32tab", laid_math_bits_deBruijn32tab), ("math/bits.deBruijn64tab", laid_math_bits_deBruijn64tab), ("internal/strconv.uint64pow10", laid_internal_strconv_uint64pow10)] }
def RelexFewSaid : Prop := relexFewRow.holds Tryz.pinned (OpenSpec.ofChange relexFewSpec)

/-- ITS FALSE NEIGHBOUR: 'it returns false'. Refute it at one input. -/
def relexFewWrong : ChangeSpec := { name := "relexFew", fn := fun _ => fun
  | [d1, d2, d3] => { results := [.lit (.bool false)], args := [d1, d2, d3] }
  | _ => none }
def RelexFewWrongFalsely : Prop := relexFewRow.holds Tryz.pinned (OpenSpec.ofChange relexFewWrong)

/-- 'topiarylaw23.RelexIdle': WHATEVER THE INPUT: true; the input reads as it did. -/
def relexIdleSpec : ChangeSpec := { name := "relexIdle", fn := fun _ => fun
  | [d1, d2, d3] => { results := [.lit (.bool true)], args := [d1, d2, d3] }
  | _ => none }
def relexIdleRow : OpenClaim := { program := "ytlifmaooikhhoaagreatdoor", sum := "517f8388c818b15737a5409c69c2738396208227ffbc7b5c8ed996b09d95f4d9", func := "topiary/topiarylaw23.RelexIdle", spec := "relexIdle", inPlace := ["internal/bytealg.IndexByteString", "internal/abi.NoEscape"], unfollowed := true, recurses := true, named := ["math/bits.deBruijn64tab", "internal/strconv.uint64pow10", "math/bits.deBruijn32tab"], apart := false, laid := [("math/bits.deBruijn32tab", laid_math_bits_deBruijn32tab), ("math/bits.deBruijn64tab", laid_math_bits_deBruijn64tab), ("internal/strconv.uint64pow10", laid_internal_strconv_uint64pow10)] }
def RelexIdleSaid : Prop := relexIdleRow.holds Tryz.pinned (OpenSpec.ofChange relexIdleSpec)

/-- ITS FALSE NEIGHBOUR: 'it returns false'. Refute it at one input. -/
def relexIdleWrong : ChangeSpec := { name := "relexIdle", fn := fun _ => fun
  | [d1, d2, d3] => { results := [.lit (.bool false)], args := [d1, d2, d3] }
  | _ => none }
def RelexIdleWrongFalsely : Prop := relexIdleRow.holds Tryz.pinned (OpenSpec.ofChange relexIdleWrong)

/- THE SECOND FORM. 'bulk': how many values and letters a reading holds, each counted each time it is reached (what is shared counts as often as it is met; a slice's spare places count too). A statement '..UptoSaid' is the law's where the arguments, and the package variables that the reading takes, are together of bulk at most 1048576: NARROWER than '..Said'. Prove '..Said' where nothing that the law and all that it calls make is longer than what came in: it says more and counts as full. Else prove '..UptoSaid'. A law counts once. -/
mutual
def uptoBulk {H : Type} : DataW H → Nat
  | .lit (.string bytes) => bytes.length + 1
  | .lit _ => 1
  | .nil => 1
  | .ptr d => uptoBulk d + 1
  | .slice elems spare => uptoBulkAll elems + uptoBulkAll spare + 1
  | .agg parts => uptoBulkAll parts + 1
  | .iface _ d => uptoBulk d + 1
  | .map entries => uptoBulkEntries entries + 1
  | .held _ => 1
def uptoBulkAll {H : Type} : List (DataW H) → Nat
  | [] => 0
  | d :: r => uptoBulk d + uptoBulkAll r
def uptoBulkEntries {H : Type} : List (Lit × DataW H) → Nat
  | [] => 0
  | x :: r => uptoBulkEntry x + uptoBulkEntries r
def uptoBulkEntry {H : Type} : Lit × DataW H → Nat
  | (.string bytes, d) => bytes.length + uptoBulk d + 1
  | (_, d) => uptoBulk d + 1
 end
def uptoSmall : (H : Type) → List (DataW H) → Bool := fun _ ds => decide (uptoBulkAll ds ≤ 1048576)
def OpenSpec.upto (s : _root_.Go.ChangeSpec) : _root_.Go.OpenSpec := { _root_.Go.OpenSpec.ofChange s with cond := some uptoSmall }

/-- 'topiarylaw08.DfaRight', WHERE WHAT IT READS IS OF BULK AT MOST 1048576: true; the input reads as it did. -/
def dfaRightUptoRow : OpenClaim := { program := "ytlifmaooikhhoaagreatdoor", sum := "517f8388c818b15737a5409c69c2738396208227ffbc7b5c8ed996b09d95f4d9", func := "topiary/topiarylaw08.DfaRight", spec := "dfaRight", inPlace := ["internal/bytealg.IndexByteString", "internal/abi.NoEscape"], unfollowed := true, recurses := true, named := ["math/bits.deBruijn64tab", "internal/strconv.uint64pow10", "math/bits.deBruijn32tab"], apart := false, laid := [("math/bits.deBruijn32tab", laid_math_bits_deBruijn32tab), ("math/bits.deBruijn64tab", laid_math_bits_deBruijn64tab), ("internal/strconv.uint64pow10", laid_internal_strconv_uint64pow10)], narrowed := true }
def DfaRightUptoSaid : Prop := dfaRightUptoRow.holds Tryz.pinned (OpenSpec.upto dfaRightSpec)

/-- 'topiarylaw10.LexCovers', WHERE WHAT IT READS IS OF BULK AT MOST 1048576: true; the input reads as it did. -/
def lexCoversUptoRow : OpenClaim := { program := "ytlifmaooikhhoaagreatdoor", sum := "517f8388c818b15737a5409c69c2738396208227ffbc7b5c8ed996b09d95f4d9", func := "topiary/topiarylaw10.LexCovers", spec := "lexCovers", inPlace := ["internal/bytealg.IndexByteString", "internal/abi.NoEscape"], unfollowed := true, recurses := true, named := ["math/bits.deBruijn64tab", "internal/strconv.uint64pow10", "math/bits.deBruijn32tab"], apart := false, laid := [("math/bits.deBruijn32tab", laid_math_bits_deBruijn32tab), ("math/bits.deBruijn64tab", laid_math_bits_deBruijn64tab), ("internal/strconv.uint64pow10", laid_internal_strconv_uint64pow10)], narrowed := true }
def LexCoversUptoSaid : Prop := lexCoversUptoRow.holds Tryz.pinned (OpenSpec.upto lexCoversSpec)

/-- 'topiarylaw10.LexAll', WHERE WHAT IT READS IS OF BULK AT MOST 1048576: true; the input reads as it did. -/
def lexAllUptoRow : OpenClaim := { program := "ytlifmaooikhhoaagreatdoor", sum := "517f8388c818b15737a5409c69c2738396208227ffbc7b5c8ed996b09d95f4d9", func := "topiary/topiarylaw10.LexAll", spec := "lexAll", inPlace := ["internal/bytealg.IndexByteString", "internal/abi.NoEscape"], unfollowed := true, recurses := true, named := ["math/bits.deBruijn64tab", "internal/strconv.uint64pow10", "math/bits.deBruijn32tab"], apart := false, laid := [("math/bits.deBruijn32tab", laid_math_bits_deBruijn32tab), ("math/bits.deBruijn64tab", laid_math_bits_deBruijn64tab), ("internal/strconv.uint64pow10", laid_internal_strconv_uint64pow10)], narrowed := true }
def LexAllUptoSaid : Prop := lexAllUptoRow.holds Tryz.pinned (OpenSpec.upto lexAllSpec)

/-- 'topiarylaw10.LexOne', WHERE WHAT IT READS IS OF BULK AT MOST 1048576: true; the input reads as it did. -/
def lexOneUptoRow : OpenClaim := { program := "ytlifmaooikhhoaagreatdoor", sum := "517f8388c818b15737a5409c69c2738396208227ffbc7b5c8ed996b09d95f4d9", func := "topiary/topiarylaw10.LexOne", spec := "lexOne", inPlace := ["internal/bytealg.IndexByteString", "internal/abi.NoEscape"], unfollowed := true, recurses := true, named := ["math/bits.deBruijn64tab", "internal/strconv.uint64pow10", "math/bits.deBruijn32tab"], apart := false, laid := [("math/bits.deBruijn32tab", laid_math_bits_deBruijn32tab), ("math/bits.deBruijn64tab", laid_math_bits_deBruijn64tab), ("internal/strconv.uint64pow10", laid_internal_strconv_uint64pow10)], narrowed := true }
def LexOneUptoSaid : Prop := lexOneUptoRow.holds Tryz.pinned (OpenSpec.upto lexOneSpec)

/-- 'topiarylaw23.RelexCuts', WHERE WHAT IT READS IS OF BULK AT MOST 1048576: true; the input reads as it did. -/
def relexCutsUptoRow : OpenClaim := { program := "ytlifmaooikhhoaagreatdoor", sum := "517f8388c818b15737a5409c69c2738396208227ffbc7b5c8ed996b09d95f4d9", func := "topiary/topiarylaw23.RelexCuts", spec := "relexCuts", inPlace := ["internal/bytealg.IndexByteString", "internal/abi.NoEscape"], unfollowed := true, recurses := true, named := ["math/bits.deBruijn64tab", "internal/strconv.uint64pow10", "math/bits.deBruijn32tab"], apart := false, laid := [("math/bits.deBruijn32tab", laid_math_bits_deBruijn32tab), ("math/bits.deBruijn64tab", laid_math_bits_deBruijn64tab), ("internal/strconv.uint64pow10", laid_internal_strconv_uint64pow10)], narrowed := true }
def RelexCutsUptoSaid : Prop := relexCutsUptoRow.holds Tryz.pinned (OpenSpec.upto relexCutsSpec)

/-- 'topiarylaw23.RelexEdits', WHERE WHAT IT READS IS OF BULK AT MOST 1048576: true; the input reads as it did. -/
def relexEditsUptoRow : OpenClaim := { program := "ytlifmaooikhhoaagreatdoor", sum := "517f8388c818b15737a5409c69c2738396208227ffbc7b5c8ed996b09d95f4d9", func := "topiary/topiarylaw23.RelexEdits", spec := "relexEdits", inPlace := ["internal/bytealg.IndexByteString", "internal/abi.NoEscape"], unfollowed := true, recurses := true, named := ["math/bits.deBruijn64tab", "internal/strconv.uint64pow10", "math/bits.deBruijn32tab"], apart := false, laid := [("math/bits.deBruijn32tab", laid_math_bits_deBruijn32tab), ("math/bits.deBruijn64tab", laid_math_bits_deBruijn64tab), ("internal/strconv.uint64pow10", laid_internal_strconv_uint64pow10)], narrowed := true }
def RelexEditsUptoSaid : Prop := relexEditsUptoRow.holds Tryz.pinned (OpenSpec.upto relexEditsSpec)

/-- 'topiarylaw23.RelexOther', WHERE WHAT IT READS IS OF BULK AT MOST 1048576: true; the input reads as it did. -/
def relexOtherUptoRow : OpenClaim := { program := "ytlifmaooikhhoaagreatdoor", sum := "517f8388c818b15737a5409c69c2738396208227ffbc7b5c8ed996b09d95f4d9", func := "topiary/topiarylaw23.RelexOther", spec := "relexOther", inPlace := ["internal/bytealg.IndexByteString", "internal/abi.NoEscape"], unfollowed := true, recurses := true, named := ["math/bits.deBruijn64tab", "internal/strconv.uint64pow10", "math/bits.deBruijn32tab"], apart := false, laid := [("math/bits.deBruijn32tab", laid_math_bits_deBruijn32tab), ("math/bits.deBruijn64tab", laid_math_bits_deBruijn64tab), ("internal/strconv.uint64pow10", laid_internal_strconv_uint64pow10)], narrowed := true }
def RelexOtherUptoSaid : Prop := relexOtherUptoRow.holds Tryz.pinned (OpenSpec.upto relexOtherSpec)

/-- 'topiarylaw23.RelexTwice', WHERE WHAT IT READS IS OF BULK AT MOST 1048576: true; the input reads as it did. -/
def relexTwiceUptoRow : OpenClaim := { program := "ytlifmaooikhhoaagreatdoor", sum := "517f8388c818b15737a5409c69c2738396208227ffbc7b5c8ed996b09d95f4d9", func := "topiary/topiarylaw23.RelexTwice", spec := "relexTwice", inPlace := ["internal/bytealg.IndexByteString", "internal/abi.NoEscape"], unfollowed := true, recurses := true, named := ["math/bits.deBruijn64tab", "internal/strconv.uint64pow10", "math/bits.deBruijn32tab"], apart := false, laid := [("math/bits.deBruijn32tab", laid_math_bits_deBruijn32tab), ("math/bits.deBruijn64tab", laid_math_bits_deBruijn64tab), ("internal/strconv.uint64pow10", laid_internal_strconv_uint64pow10)], narrowed := true }
def RelexTwiceUptoSaid : Prop := relexTwiceUptoRow.holds Tryz.pinned (OpenSpec.upto relexTwiceSpec)

/-- 'topiarylaw23.RelexFew', WHERE WHAT IT READS IS OF BULK AT MOST 1048576: true; the input reads as it did. -/
def relexFewUptoRow : OpenClaim := { program := "ytlifmaooikhhoaagreatdoor", sum := "517f8388c818b15737a5409c69c2738396208227ffbc7b5c8ed996b09d95f4d9", func := "topiary/topiarylaw23.RelexFew", spec := "relexFew", inPlace := ["internal/bytealg.IndexByteString", "internal/abi.NoEscape"], unfollowed := true, recurses := true, named := ["math/bits.deBruijn64tab", "internal/strconv.uint64pow10", "math/bits.deBruijn32tab"], apart := false, laid := [("math/bits.deBruijn32tab", laid_math_bits_deBruijn32tab), ("math/bits.deBruijn64tab", laid_math_bits_deBruijn64tab), ("internal/strconv.uint64pow10", laid_internal_strconv_uint64pow10)], narrowed := true }
def RelexFewUptoSaid : Prop := relexFewUptoRow.holds Tryz.pinned (OpenSpec.upto relexFewSpec)

/-- 'topiarylaw23.RelexIdle', WHERE WHAT IT READS IS OF BULK AT MOST 1048576: true; the input reads as it did. -/
def relexIdleUptoRow : OpenClaim := { program := "ytlifmaooikhhoaagreatdoor", sum := "517f8388c818b15737a5409c69c2738396208227ffbc7b5c8ed996b09d95f4d9", func := "topiary/topiarylaw23.RelexIdle", spec := "relexIdle", inPlace := ["internal/bytealg.IndexByteString", "internal/abi.NoEscape"], unfollowed := true, recurses := true, named := ["math/bits.deBruijn64tab", "internal/strconv.uint64pow10", "math/bits.deBruijn32tab"], apart := false, laid := [("math/bits.deBruijn32tab", laid_math_bits_deBruijn32tab), ("math/bits.deBruijn64tab", laid_math_bits_deBruijn64tab), ("internal/strconv.uint64pow10", laid_internal_strconv_uint64pow10)], narrowed := true }
def RelexIdleUptoSaid : Prop := relexIdleUptoRow.holds Tryz.pinned (OpenSpec.upto relexIdleSpec)

end Rows
end Go.Proofs.YtlifmaooikhhoaaGreatDoor
