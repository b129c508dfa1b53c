/-
  No cell of these rows narrows 'for every input' (looked for: loops, veiled, ifaces, maps, wideKeys, modest, calm, conditions, laid).
  DERIVED. THE GIVEN ROWS OF THIS SEAT. 5 by the template 'for every input the law returns true; each argument reads behind the call as it read before'; 0 by the template 'total and deterministic' (their statements: YtablmjophjjabaaTotals.lean).
  GIVEN WITH THE SEED: the statements are not yours to turn. If you find one false, say at which input.
  Laid BY PROGRAM, IN A SANDBOX (cutbox-rows.mjs): the forced cells as the released guide's own fill.sh prints them over the translation e03c963873952aec… (all of the seat's roots in one cut). By AI agents, Wed Nov 11 2026. No macro, syntax, notation, axiom, sorry.
-/
import Derived.Test.YtablmjophjjabaaChecked
import GoSem.Claim
import GoSem.ClaimJoined
import GoSem.ClaimMapViews
import Derived.JoinedTies
import Derived.KernelRfl
namespace Go.Proofs.Ytablmjophjjabaa
/- THE CELL 'sum', in the pinned program and in every row, IS THE sha256 OF THE DUMP (.gsa) THAT YtablmjophjjabaaProg.lean LOADS. Nothing in Lean hashes anything: it is a label: what it is worth is what the hold of that sum in a sandbox is worth. -/
noncomputable def Try.pinned : Pinned := { name := "ytablmjophjjabaa", sum := "e03c963873952aec96ac7354dca8a95b250882b1b5e0fb5b44a6ac7b7b895869", checked := Try.checked }
namespace Rows
def none {H : Type} : Left H := { results := [], args := [] }

/-- 'topiarylaw04.SetsOrders': WHATEVER THE INPUT: true; the input reads as it did. -/
def setsOrdersSpec : ChangeSpec := { name := "setsOrders", fn := fun _ => fun
  | [d1, d2, d3] => { results := [.lit (.bool true)], args := [d1, d2, d3] }
  | _ => none }
def setsOrdersRow : OpenClaim := { program := "ytablmjophjjabaa", sum := "e03c963873952aec96ac7354dca8a95b250882b1b5e0fb5b44a6ac7b7b895869", func := "topiary/topiarylaw04.SetsOrders", spec := "setsOrders", recurses := true, apart := false }
def SetsOrdersSaid : Prop := setsOrdersRow.holds Try.pinned (OpenSpec.ofChange setsOrdersSpec)

/-- ITS FALSE NEIGHBOUR: 'it returns false'. Refute it at one input. -/
def setsOrdersWrong : ChangeSpec := { name := "setsOrders", fn := fun _ => fun
  | [d1, d2, d3] => { results := [.lit (.bool false)], args := [d1, d2, d3] }
  | _ => none }
def SetsOrdersWrongFalsely : Prop := setsOrdersRow.holds Try.pinned (OpenSpec.ofChange setsOrdersWrong)

/-- 'topiarylaw04.SetsAgain': WHATEVER THE INPUT: true; the input reads as it did. -/
def setsAgainSpec : ChangeSpec := { name := "setsAgain", fn := fun _ => fun
  | [d] => { results := [.lit (.bool true)], args := [d] }
  | _ => none }
def setsAgainRow : OpenClaim := { program := "ytablmjophjjabaa", sum := "e03c963873952aec96ac7354dca8a95b250882b1b5e0fb5b44a6ac7b7b895869", func := "topiary/topiarylaw04.SetsAgain", spec := "setsAgain", recurses := true, apart := false }
def SetsAgainSaid : Prop := setsAgainRow.holds Try.pinned (OpenSpec.ofChange setsAgainSpec)

/-- ITS FALSE NEIGHBOUR: 'it returns false'. Refute it at one input. -/
def setsAgainWrong : ChangeSpec := { name := "setsAgain", fn := fun _ => fun
  | [d] => { results := [.lit (.bool false)], args := [d] }
  | _ => none }
def SetsAgainWrongFalsely : Prop := setsAgainRow.holds Try.pinned (OpenSpec.ofChange setsAgainWrong)

/-- 'topiarylaw04.SetsOf': WHATEVER THE INPUT: true; the input reads as it did. -/
def setsOfSpec : ChangeSpec := { name := "setsOf", fn := fun _ => fun
  | [d1, d2] => { results := [.lit (.bool true)], args := [d1, d2] }
  | _ => none }
def setsOfRow : OpenClaim := { program := "ytablmjophjjabaa", sum := "e03c963873952aec96ac7354dca8a95b250882b1b5e0fb5b44a6ac7b7b895869", func := "topiary/topiarylaw04.SetsOf", spec := "setsOf", recurses := true, apart := false }
def SetsOfSaid : Prop := setsOfRow.holds Try.pinned (OpenSpec.ofChange setsOfSpec)

/-- ITS FALSE NEIGHBOUR: 'it returns false'. Refute it at one input. -/
def setsOfWrong : ChangeSpec := { name := "setsOf", fn := fun _ => fun
  | [d1, d2] => { results := [.lit (.bool false)], args := [d1, d2] }
  | _ => none }
def SetsOfWrongFalsely : Prop := setsOfRow.holds Try.pinned (OpenSpec.ofChange setsOfWrong)

/-- 'topiarylaw04.SetsTwo': WHATEVER THE INPUT: true; the input reads as it did. -/
def setsTwoSpec : ChangeSpec := { name := "setsTwo", fn := fun _ => fun
  | [d1, d2] => { results := [.lit (.bool true)], args := [d1, d2] }
  | _ => none }
def setsTwoRow : OpenClaim := { program := "ytablmjophjjabaa", sum := "e03c963873952aec96ac7354dca8a95b250882b1b5e0fb5b44a6ac7b7b895869", func := "topiary/topiarylaw04.SetsTwo", spec := "setsTwo", unfollowed := true, recurses := true, apart := false }
def SetsTwoSaid : Prop := setsTwoRow.holds Try.pinned (OpenSpec.ofChange setsTwoSpec)

/-- ITS FALSE NEIGHBOUR: 'it returns false'. Refute it at one input. -/
def setsTwoWrong : ChangeSpec := { name := "setsTwo", fn := fun _ => fun
  | [d1, d2] => { results := [.lit (.bool false)], args := [d1, d2] }
  | _ => none }
def SetsTwoWrongFalsely : Prop := setsTwoRow.holds Try.pinned (OpenSpec.ofChange setsTwoWrong)

/-- 'topiarylaw04.SetsParts': WHATEVER THE INPUT: true; the input reads as it did. -/
def setsPartsSpec : ChangeSpec := { name := "setsParts", fn := fun _ => fun
  | [d1, d2] => { results := [.lit (.bool true)], args := [d1, d2] }
  | _ => none }
def setsPartsRow : OpenClaim := { program := "ytablmjophjjabaa", sum := "e03c963873952aec96ac7354dca8a95b250882b1b5e0fb5b44a6ac7b7b895869", func := "topiary/topiarylaw04.SetsParts", spec := "setsParts", unfollowed := true, recurses := true, apart := false }
def SetsPartsSaid : Prop := setsPartsRow.holds Try.pinned (OpenSpec.ofChange setsPartsSpec)

/-- ITS FALSE NEIGHBOUR: 'it returns false'. Refute it at one input. -/
def setsPartsWrong : ChangeSpec := { name := "setsParts", fn := fun _ => fun
  | [d1, d2] => { results := [.lit (.bool false)], args := [d1, d2] }
  | _ => none }
def SetsPartsWrongFalsely : Prop := setsPartsRow.holds Try.pinned (OpenSpec.ofChange setsPartsWrong)

/- THE SECOND FORM. 'bulk': how many values and letters a reading holds, each counted each time it is reached (what is shared counts as often as it is met; a slice's spare places count too). A statement '..UptoSaid' is the law's where the arguments, and the package variables that the reading takes, are together of bulk at most 1048576: NARROWER than '..Said'. Prove '..Said' where nothing that the law and all that it calls make is longer than what came in: it says more and counts as full. Else prove '..UptoSaid'. A law counts once. -/
mutual
def uptoBulk {H : Type} : DataW H → Nat
  | .lit (.string bytes) => bytes.length + 1
  | .lit _ => 1
  | .nil => 1
  | .ptr d => uptoBulk d + 1
  | .slice elems spare => uptoBulkAll elems + uptoBulkAll spare + 1
  | .agg parts => uptoBulkAll parts + 1
  | .iface _ d => uptoBulk d + 1
  | .map entries => uptoBulkEntries entries + 1
  | .held _ => 1
def uptoBulkAll {H : Type} : List (DataW H) → Nat
  | [] => 0
  | d :: r => uptoBulk d + uptoBulkAll r
def uptoBulkEntries {H : Type} : List (Lit × DataW H) → Nat
  | [] => 0
  | x :: r => uptoBulkEntry x + uptoBulkEntries r
def uptoBulkEntry {H : Type} : Lit × DataW H → Nat
  | (.string bytes, d) => bytes.length + uptoBulk d + 1
  | (_, d) => uptoBulk d + 1
 end
def uptoSmall : (H : Type) → List (DataW H) → Bool := fun _ ds => decide (uptoBulkAll ds ≤ 1048576)
def OpenSpec.upto (s : _root_.Go.ChangeSpec) : _root_.Go.OpenSpec := { _root_.Go.OpenSpec.ofChange s with cond := some uptoSmall }

/-- 'topiarylaw04.SetsOrders', WHERE WHAT IT READS IS OF BULK AT MOST 1048576: true; the input reads as it did. -/
def setsOrdersUptoRow : OpenClaim := { program := "ytablmjophjjabaa", sum := "e03c963873952aec96ac7354dca8a95b250882b1b5e0fb5b44a6ac7b7b895869", func := "topiary/topiarylaw04.SetsOrders", spec := "setsOrders", recurses := true, apart := false, narrowed := true }
def SetsOrdersUptoSaid : Prop := setsOrdersUptoRow.holds Try.pinned (OpenSpec.upto setsOrdersSpec)

/-- 'topiarylaw04.SetsAgain', WHERE WHAT IT READS IS OF BULK AT MOST 1048576: true; the input reads as it did. -/
def setsAgainUptoRow : OpenClaim := { program := "ytablmjophjjabaa", sum := "e03c963873952aec96ac7354dca8a95b250882b1b5e0fb5b44a6ac7b7b895869", func := "topiary/topiarylaw04.SetsAgain", spec := "setsAgain", recurses := true, apart := false, narrowed := true }
def SetsAgainUptoSaid : Prop := setsAgainUptoRow.holds Try.pinned (OpenSpec.upto setsAgainSpec)

/-- 'topiarylaw04.SetsOf', WHERE WHAT IT READS IS OF BULK AT MOST 1048576: true; the input reads as it did. -/
def setsOfUptoRow : OpenClaim := { program := "ytablmjophjjabaa", sum := "e03c963873952aec96ac7354dca8a95b250882b1b5e0fb5b44a6ac7b7b895869", func := "topiary/topiarylaw04.SetsOf", spec := "setsOf", recurses := true, apart := false, narrowed := true }
def SetsOfUptoSaid : Prop := setsOfUptoRow.holds Try.pinned (OpenSpec.upto setsOfSpec)

/-- 'topiarylaw04.SetsTwo', WHERE WHAT IT READS IS OF BULK AT MOST 1048576: true; the input reads as it did. -/
def setsTwoUptoRow : OpenClaim := { program := "ytablmjophjjabaa", sum := "e03c963873952aec96ac7354dca8a95b250882b1b5e0fb5b44a6ac7b7b895869", func := "topiary/topiarylaw04.SetsTwo", spec := "setsTwo", unfollowed := true, recurses := true, apart := false, narrowed := true }
def SetsTwoUptoSaid : Prop := setsTwoUptoRow.holds Try.pinned (OpenSpec.upto setsTwoSpec)

/-- 'topiarylaw04.SetsParts', WHERE WHAT IT READS IS OF BULK AT MOST 1048576: true; the input reads as it did. -/
def setsPartsUptoRow : OpenClaim := { program := "ytablmjophjjabaa", sum := "e03c963873952aec96ac7354dca8a95b250882b1b5e0fb5b44a6ac7b7b895869", func := "topiary/topiarylaw04.SetsParts", spec := "setsParts", unfollowed := true, recurses := true, apart := false, narrowed := true }
def SetsPartsUptoSaid : Prop := setsPartsUptoRow.holds Try.pinned (OpenSpec.upto setsPartsSpec)

end Rows
end Go.Proofs.Ytablmjophjjabaa
