/- The library's contract of slices.SortFunc, laid at this program. -/
import Derived.Shelf.Lay
import Derived.Ground.SlsfProg
import Derived.Shelf.SlSortCmp.WholeK
import Derived.Test.YtnhghoonlmoinaaGreatProg
namespace Go.Proofs
open Go.Shelf Go.RowKit
def Tryz.laysF6_ren : Go.Shelf.Ren :=
{
  f := fun x =>
    match x with
    | 6 => 77
    | 15 => 106
    | 14 => 105
    | 28 => 132
    | 29 => 133
    | 20 => 124
    | 21 => 125
    | 22 => 126
    | 23 => 127
    | 24 => 128
    | 25 => 129
    | 26 => 130
    | 27 => 131
    | 46 => 153
    | 47 => 154
    | 48 => 155
    | 49 => 156
    | 50 => 157
    | 57 => 170
    | n => n,
  t := fun x =>
    match x with
    | 22 => 43
    | 24 => 52
    | 25 => 130
    | 3 => 3
    | 39 => 160
    | 0 => 0
    | 53 => 103
    | 55 => 174
    | 4 => 4
    | 46 => 181
    | 45 => 180
    | 50 => 185
    | 5 => 5
    | 9 => 9
    | 66 => 202
    | 70 => 206
    | 76 => 216
    | 77 => 217
    | n => n,
  g := fun x =>
    have n := x;
    n }

theorem Tryz.laysF6 : Go.Proofs.SlLaysF0.n6 Go.Proofs.Tryz.prog Go.Proofs.Tryz.laysF6_ren :=
{ mixed := by kernel_rfl,
  f6 :=
    Exists.intro "slices.SortFunc[[]topiary/api.Item,topiary/api.Item]"
      ⟨of_decide_eq_true (by kernel_rfl),
        Eq.trans Go.Proofs.Tryz.func77
          (congrArg some (by kernel_rfl))⟩,
  f14 :=
    Exists.intro "slices.pdqsortCmpFunc[topiary/api.Item]"
      ⟨of_decide_eq_true (by kernel_rfl),
        Eq.trans Go.Proofs.Tryz.func105
          (congrArg some (by kernel_rfl))⟩,
  f15 := Eq.trans Go.Proofs.Tryz.func106 (congrArg some (by kernel_rfl)),
  f20 :=
    Exists.intro "slices.insertionSortCmpFunc[topiary/api.Item]"
      ⟨of_decide_eq_true (by kernel_rfl),
        Eq.trans Go.Proofs.Tryz.func124
          (congrArg some (by kernel_rfl))⟩,
  f21 :=
    Exists.intro "slices.heapSortCmpFunc[topiary/api.Item]"
      ⟨of_decide_eq_true (by kernel_rfl),
        Eq.trans Go.Proofs.Tryz.func125
          (congrArg some (by kernel_rfl))⟩,
  f22 :=
    Exists.intro "slices.breakPatternsCmpFunc[topiary/api.Item]"
      ⟨of_decide_eq_true (by kernel_rfl),
        Eq.trans Go.Proofs.Tryz.func126
          (congrArg some (by kernel_rfl))⟩,
  f23 :=
    Exists.intro "slices.choosePivotCmpFunc[topiary/api.Item]"
      ⟨of_decide_eq_true (by kernel_rfl),
        Eq.trans Go.Proofs.Tryz.func127
          (congrArg some (by kernel_rfl))⟩,
  f24 :=
    Exists.intro "slices.reverseRangeCmpFunc[topiary/api.Item]"
      ⟨of_decide_eq_true (by kernel_rfl),
        Eq.trans Go.Proofs.Tryz.func128
          (congrArg some (by kernel_rfl))⟩,
  f25 :=
    Exists.intro "slices.partialInsertionSortCmpFunc[topiary/api.Item]"
      ⟨of_decide_eq_true (by kernel_rfl),
        Eq.trans Go.Proofs.Tryz.func129
          (congrArg some (by kernel_rfl))⟩,
  f26 :=
    Exists.intro "slices.partitionEqualCmpFunc[topiary/api.Item]"
      ⟨of_decide_eq_true (by kernel_rfl),
        Eq.trans Go.Proofs.Tryz.func130
          (congrArg some (by kernel_rfl))⟩,
  f27 :=
    Exists.intro "slices.partitionCmpFunc[topiary/api.Item]"
      ⟨of_decide_eq_true (by kernel_rfl),
        Eq.trans Go.Proofs.Tryz.func131
          (congrArg some (by kernel_rfl))⟩,
  f28 := Eq.trans Go.Proofs.Tryz.func132 (congrArg some (by kernel_rfl)),
  f29 := Eq.trans Go.Proofs.Tryz.func133 (congrArg some (by kernel_rfl)),
  f46 :=
    Exists.intro "slices.siftDownCmpFunc[topiary/api.Item]"
      ⟨of_decide_eq_true (by kernel_rfl),
        Eq.trans Go.Proofs.Tryz.func153
          (congrArg some (by kernel_rfl))⟩,
  f47 := Eq.trans Go.Proofs.Tryz.func154 (congrArg some (by kernel_rfl)),
  f48 := Eq.trans Go.Proofs.Tryz.func155 (congrArg some (by kernel_rfl)),
  f49 :=
    Exists.intro "slices.medianAdjacentCmpFunc[topiary/api.Item]"
      ⟨of_decide_eq_true (by kernel_rfl),
        Eq.trans Go.Proofs.Tryz.func156
          (congrArg some (by kernel_rfl))⟩,
  f50 :=
    Exists.intro "slices.medianCmpFunc[topiary/api.Item]"
      ⟨of_decide_eq_true (by kernel_rfl),
        Eq.trans Go.Proofs.Tryz.func157
          (congrArg some (by kernel_rfl))⟩,
  f57 :=
    Exists.intro "slices.order2CmpFunc[topiary/api.Item]"
      ⟨of_decide_eq_true (by kernel_rfl),
        Eq.trans Go.Proofs.Tryz.func170
          (congrArg some (by kernel_rfl))⟩,
  t0 := Go.Proofs.Tryz.underlying0, a0 := Go.Proofs.Tryz.isAgg0, z0 := Go.Proofs.Tryz.sizeOf0,
  v0 := Go.Proofs.Tryz.zeroValue0, t3 := Go.Proofs.Tryz.underlying3, a3 := Go.Proofs.Tryz.isAgg3,
  z3 := Go.Proofs.Tryz.sizeOf3, v3 := Go.Proofs.Tryz.zeroValue3, t4 := Go.Proofs.Tryz.underlying4,
  a4 := Go.Proofs.Tryz.isAgg4, z4 := Go.Proofs.Tryz.sizeOf4, v4 := Go.Proofs.Tryz.zeroValue4,
  t5 := Go.Proofs.Tryz.underlying5, a5 := Go.Proofs.Tryz.isAgg5, z5 := Go.Proofs.Tryz.sizeOf5,
  v5 := Go.Proofs.Tryz.zeroValue5, t9 := Go.Proofs.Tryz.underlying9, a9 := Go.Proofs.Tryz.isAgg9,
  z9 := Go.Proofs.Tryz.sizeOf9, v9 := Go.Proofs.Tryz.zeroValue9, t22 := Go.Proofs.Tryz.underlying43,
  a22 := Go.Proofs.Tryz.isAgg43, z22 := Go.Proofs.Tryz.sizeOf43, v22 := Go.Proofs.Tryz.zeroValue43,
  t25 := Go.Proofs.Tryz.underlying130, a25 := Go.Proofs.Tryz.isAgg130, z25 := Go.Proofs.Tryz.sizeOf130,
  v25 := Go.Proofs.Tryz.zeroValue130, t39 := Go.Proofs.Tryz.underlying160, a39 := Go.Proofs.Tryz.isAgg160,
  z39 := Go.Proofs.Tryz.sizeOf160, v39 := Go.Proofs.Tryz.zeroValue160, t45 := Go.Proofs.Tryz.underlying180,
  a45 := Go.Proofs.Tryz.isAgg180, z45 := Go.Proofs.Tryz.sizeOf180, v45 := Go.Proofs.Tryz.zeroValue180,
  t46 := Go.Proofs.Tryz.underlying181, a46 := Go.Proofs.Tryz.isAgg181, z46 := Go.Proofs.Tryz.sizeOf181,
  v46 := Go.Proofs.Tryz.zeroValue181, t50 := Go.Proofs.Tryz.underlying185, a50 := Go.Proofs.Tryz.isAgg185,
  z50 := Go.Proofs.Tryz.sizeOf185, v50 := Go.Proofs.Tryz.zeroValue185, t53 := Go.Proofs.Tryz.underlying103,
  a53 := Go.Proofs.Tryz.isAgg103, z53 := Go.Proofs.Tryz.sizeOf103, v53 := Go.Proofs.Tryz.zeroValue103,
  t55 := Go.Proofs.Tryz.underlying174, a55 := Go.Proofs.Tryz.isAgg174, z55 := Go.Proofs.Tryz.sizeOf174,
  v55 := Go.Proofs.Tryz.zeroValue174, t66 := Go.Proofs.Tryz.underlying202, a66 := Go.Proofs.Tryz.isAgg202,
  z66 := Go.Proofs.Tryz.sizeOf202, v66 := Go.Proofs.Tryz.zeroValue202, t70 := Go.Proofs.Tryz.underlying206,
  a70 := Go.Proofs.Tryz.isAgg206, z70 := Go.Proofs.Tryz.sizeOf206, v70 := Go.Proofs.Tryz.zeroValue206,
  t76 := Go.Proofs.Tryz.underlying216, a76 := Go.Proofs.Tryz.isAgg216, z76 := Go.Proofs.Tryz.sizeOf216,
  v76 := Go.Proofs.Tryz.zeroValue216, t77 := Go.Proofs.Tryz.underlying217, a77 := Go.Proofs.Tryz.isAgg217,
  z77 := Go.Proofs.Tryz.sizeOf217, v77 := Go.Proofs.Tryz.zeroValue217 }

end Go.Proofs
