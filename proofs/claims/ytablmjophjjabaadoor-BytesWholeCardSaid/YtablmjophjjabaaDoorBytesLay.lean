/- The library's contract of slices.SortFunc, laid at this program. -/
import Derived.Shelf.Lay
import Derived.Ground.SlsfProg
import Derived.Shelf.SlSortCmp.WholeK
import Derived.Test.YtablmjophjjabaaDoorProg
namespace Go.Proofs
open Go.Shelf Go.RowKit
def Tryd.laysF6_ren : Go.Shelf.Ren :=
{
  f := fun x =>
    match x with
    | 6 => 32
    | 15 => 43
    | 14 => 42
    | 28 => 60
    | 29 => 61
    | 20 => 52
    | 21 => 53
    | 22 => 54
    | 23 => 55
    | 24 => 56
    | 25 => 57
    | 26 => 58
    | 27 => 59
    | 46 => 72
    | 47 => 73
    | 48 => 74
    | 49 => 75
    | 50 => 76
    | 57 => 84
    | n => n,
  t := fun x =>
    match x with
    | 22 => 33
    | 24 => 25
    | 25 => 48
    | 3 => 3
    | 39 => 51
    | 0 => 0
    | 53 => 59
    | 55 => 23
    | 4 => 4
    | 46 => 82
    | 45 => 81
    | 50 => 79
    | 5 => 5
    | 9 => 9
    | 66 => 102
    | 70 => 106
    | 76 => 114
    | 77 => 115
    | n => n,
  g := fun x =>
    have n := x;
    n }

theorem Tryd.laysF6 : Go.Proofs.SlLaysF0.n6 Go.Proofs.Tryd.prog Go.Proofs.Tryd.laysF6_ren :=
{ mixed := by kernel_rfl,
  f6 :=
    Exists.intro "slices.SortFunc[[]topiary/api.Set,topiary/api.Set]"
      ⟨of_decide_eq_true (by kernel_rfl),
        Eq.trans Go.Proofs.Tryd.func32
          (congrArg some (by kernel_rfl))⟩,
  f14 :=
    Exists.intro "slices.pdqsortCmpFunc[topiary/api.Set]"
      ⟨of_decide_eq_true (by kernel_rfl),
        Eq.trans Go.Proofs.Tryd.func42
          (congrArg some (by kernel_rfl))⟩,
  f15 := Eq.trans Go.Proofs.Tryd.func43 (congrArg some (by kernel_rfl)),
  f20 :=
    Exists.intro "slices.insertionSortCmpFunc[topiary/api.Set]"
      ⟨of_decide_eq_true (by kernel_rfl),
        Eq.trans Go.Proofs.Tryd.func52
          (congrArg some (by kernel_rfl))⟩,
  f21 :=
    Exists.intro "slices.heapSortCmpFunc[topiary/api.Set]"
      ⟨of_decide_eq_true (by kernel_rfl),
        Eq.trans Go.Proofs.Tryd.func53
          (congrArg some (by kernel_rfl))⟩,
  f22 :=
    Exists.intro "slices.breakPatternsCmpFunc[topiary/api.Set]"
      ⟨of_decide_eq_true (by kernel_rfl),
        Eq.trans Go.Proofs.Tryd.func54
          (congrArg some (by kernel_rfl))⟩,
  f23 :=
    Exists.intro "slices.choosePivotCmpFunc[topiary/api.Set]"
      ⟨of_decide_eq_true (by kernel_rfl),
        Eq.trans Go.Proofs.Tryd.func55
          (congrArg some (by kernel_rfl))⟩,
  f24 :=
    Exists.intro "slices.reverseRangeCmpFunc[topiary/api.Set]"
      ⟨of_decide_eq_true (by kernel_rfl),
        Eq.trans Go.Proofs.Tryd.func56
          (congrArg some (by kernel_rfl))⟩,
  f25 :=
    Exists.intro "slices.partialInsertionSortCmpFunc[topiary/api.Set]"
      ⟨of_decide_eq_true (by kernel_rfl),
        Eq.trans Go.Proofs.Tryd.func57
          (congrArg some (by kernel_rfl))⟩,
  f26 :=
    Exists.intro "slices.partitionEqualCmpFunc[topiary/api.Set]"
      ⟨of_decide_eq_true (by kernel_rfl),
        Eq.trans Go.Proofs.Tryd.func58
          (congrArg some (by kernel_rfl))⟩,
  f27 :=
    Exists.intro "slices.partitionCmpFunc[topiary/api.Set]"
      ⟨of_decide_eq_true (by kernel_rfl),
        Eq.trans Go.Proofs.Tryd.func59
          (congrArg some (by kernel_rfl))⟩,
  f28 := Eq.trans Go.Proofs.Tryd.func60 (congrArg some (by kernel_rfl)),
  f29 := Eq.trans Go.Proofs.Tryd.func61 (congrArg some (by kernel_rfl)),
  f46 :=
    Exists.intro "slices.siftDownCmpFunc[topiary/api.Set]"
      ⟨of_decide_eq_true (by kernel_rfl),
        Eq.trans Go.Proofs.Tryd.func72
          (congrArg some (by kernel_rfl))⟩,
  f47 := Eq.trans Go.Proofs.Tryd.func73 (congrArg some (by kernel_rfl)),
  f48 := Eq.trans Go.Proofs.Tryd.func74 (congrArg some (by kernel_rfl)),
  f49 :=
    Exists.intro "slices.medianAdjacentCmpFunc[topiary/api.Set]"
      ⟨of_decide_eq_true (by kernel_rfl),
        Eq.trans Go.Proofs.Tryd.func75
          (congrArg some (by kernel_rfl))⟩,
  f50 :=
    Exists.intro "slices.medianCmpFunc[topiary/api.Set]"
      ⟨of_decide_eq_true (by kernel_rfl),
        Eq.trans Go.Proofs.Tryd.func76
          (congrArg some (by kernel_rfl))⟩,
  f57 :=
    Exists.intro "slices.order2CmpFunc[topiary/api.Set]"
      ⟨of_decide_eq_true (by kernel_rfl),
        Eq.trans Go.Proofs.Tryd.func84
          (congrArg some (by kernel_rfl))⟩,
  t0 := Go.Proofs.Tryd.underlying0, a0 := Go.Proofs.Tryd.isAgg0, z0 := Go.Proofs.Tryd.sizeOf0,
  v0 := Go.Proofs.Tryd.zeroValue0, t3 := Go.Proofs.Tryd.underlying3, a3 := Go.Proofs.Tryd.isAgg3,
  z3 := Go.Proofs.Tryd.sizeOf3, v3 := Go.Proofs.Tryd.zeroValue3, t4 := Go.Proofs.Tryd.underlying4,
  a4 := Go.Proofs.Tryd.isAgg4, z4 := Go.Proofs.Tryd.sizeOf4, v4 := Go.Proofs.Tryd.zeroValue4,
  t5 := Go.Proofs.Tryd.underlying5, a5 := Go.Proofs.Tryd.isAgg5, z5 := Go.Proofs.Tryd.sizeOf5,
  v5 := Go.Proofs.Tryd.zeroValue5, t9 := Go.Proofs.Tryd.underlying9, a9 := Go.Proofs.Tryd.isAgg9,
  z9 := Go.Proofs.Tryd.sizeOf9, v9 := Go.Proofs.Tryd.zeroValue9, t22 := Go.Proofs.Tryd.underlying33,
  a22 := Go.Proofs.Tryd.isAgg33, z22 := Go.Proofs.Tryd.sizeOf33, v22 := Go.Proofs.Tryd.zeroValue33,
  t25 := Go.Proofs.Tryd.underlying48, a25 := Go.Proofs.Tryd.isAgg48, z25 := Go.Proofs.Tryd.sizeOf48,
  v25 := Go.Proofs.Tryd.zeroValue48, t39 := Go.Proofs.Tryd.underlying51, a39 := Go.Proofs.Tryd.isAgg51,
  z39 := Go.Proofs.Tryd.sizeOf51, v39 := Go.Proofs.Tryd.zeroValue51, t45 := Go.Proofs.Tryd.underlying81,
  a45 := Go.Proofs.Tryd.isAgg81, z45 := Go.Proofs.Tryd.sizeOf81, v45 := Go.Proofs.Tryd.zeroValue81,
  t46 := Go.Proofs.Tryd.underlying82, a46 := Go.Proofs.Tryd.isAgg82, z46 := Go.Proofs.Tryd.sizeOf82,
  v46 := Go.Proofs.Tryd.zeroValue82, t50 := Go.Proofs.Tryd.underlying79, a50 := Go.Proofs.Tryd.isAgg79,
  z50 := Go.Proofs.Tryd.sizeOf79, v50 := Go.Proofs.Tryd.zeroValue79, t53 := Go.Proofs.Tryd.underlying59,
  a53 := Go.Proofs.Tryd.isAgg59, z53 := Go.Proofs.Tryd.sizeOf59, v53 := Go.Proofs.Tryd.zeroValue59,
  t55 := Go.Proofs.Tryd.underlying23, a55 := Go.Proofs.Tryd.isAgg23, z55 := Go.Proofs.Tryd.sizeOf23,
  v55 := Go.Proofs.Tryd.zeroValue23, t66 := Go.Proofs.Tryd.underlying102, a66 := Go.Proofs.Tryd.isAgg102,
  z66 := Go.Proofs.Tryd.sizeOf102, v66 := Go.Proofs.Tryd.zeroValue102, t70 := Go.Proofs.Tryd.underlying106,
  a70 := Go.Proofs.Tryd.isAgg106, z70 := Go.Proofs.Tryd.sizeOf106, v70 := Go.Proofs.Tryd.zeroValue106,
  t76 := Go.Proofs.Tryd.underlying114, a76 := Go.Proofs.Tryd.isAgg114, z76 := Go.Proofs.Tryd.sizeOf114,
  v76 := Go.Proofs.Tryd.zeroValue114, t77 := Go.Proofs.Tryd.underlying115, a77 := Go.Proofs.Tryd.isAgg115,
  z77 := Go.Proofs.Tryd.sizeOf115, v77 := Go.Proofs.Tryd.zeroValue115 }

end Go.Proofs
