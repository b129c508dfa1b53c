/- The library's contracts of slices.Sort and bits.Len, laid at this program. -/
import Derived.Shelf.Lay
import Derived.Shelf.Sort.Plain
import Derived.Shelf.Small.Bits
import Derived.Test.YtckpaaeilbgiiaaGreatProg
namespace Go.Proofs
open Go.Shelf
def Tryz.lays125_ren : Go.Shelf.Ren :=
{
  f := fun x =>
    match x with
    | 125 => 47
    | 128 => 78
    | 129 => 79
    | n => n,
  t := fun x =>
    match x with
    | 46 => 100
    | 3 => 3
    | 51 => 73
    | 53 => 89
    | 4 => 4
    | 5 => 5
    | 9 => 9
    | n => n,
  g := fun x =>
    have n := x;
    n }

theorem Tryz.lays125 : Go.Proofs.Lays.n125 Go.Proofs.Tryz.prog Go.Proofs.Tryz.lays125_ren :=
{ mixed := by kernel_rfl,
  f125 := Eq.trans Go.Proofs.Tryz.func47 (congrArg some (by kernel_rfl)),
  f128 := Eq.trans Go.Proofs.Tryz.func78 (congrArg some (by kernel_rfl)),
  f129 := Eq.trans Go.Proofs.Tryz.func79 (congrArg some (by kernel_rfl)),
  t3 := Go.Proofs.Tryz.underlying3, a3 := Go.Proofs.Tryz.isAgg3, z3 := Go.Proofs.Tryz.sizeOf3,
  v3 := Go.Proofs.Tryz.zeroValue3, t4 := Go.Proofs.Tryz.underlying4, a4 := Go.Proofs.Tryz.isAgg4,
  z4 := Go.Proofs.Tryz.sizeOf4, v4 := Go.Proofs.Tryz.zeroValue4, t5 := Go.Proofs.Tryz.underlying5,
  a5 := Go.Proofs.Tryz.isAgg5, z5 := Go.Proofs.Tryz.sizeOf5, v5 := Go.Proofs.Tryz.zeroValue5,
  t9 := Go.Proofs.Tryz.underlying9, a9 := Go.Proofs.Tryz.isAgg9, z9 := Go.Proofs.Tryz.sizeOf9,
  v9 := Go.Proofs.Tryz.zeroValue9, t46 := Go.Proofs.Tryz.underlying100, a46 := Go.Proofs.Tryz.isAgg100,
  z46 := Go.Proofs.Tryz.sizeOf100, v46 := Go.Proofs.Tryz.zeroValue100, t51 := Go.Proofs.Tryz.underlying73,
  a51 := Go.Proofs.Tryz.isAgg73, z51 := Go.Proofs.Tryz.sizeOf73, v51 := Go.Proofs.Tryz.zeroValue73,
  t53 := Go.Proofs.Tryz.underlying89, a53 := Go.Proofs.Tryz.isAgg89, z53 := Go.Proofs.Tryz.sizeOf89,
  v53 := Go.Proofs.Tryz.zeroValue89 }

theorem Tryz.bits_Len (x : Int) (w : World) (h0 : 0 ≤ x) (h1 : x ≤ 18446744073709551615) :
    Calls Tryz.prog 47 #[.int .u64 x] w fun e w' => e = .returned (.int .i64 (Lib.bitLen x.toNat)) ∧ w' = w := Any.bits_Len Tryz.lays125 x w h0 h1
def Tryz.lays189_ren : Go.Shelf.Ren :=
{
  f := fun x =>
    match x with
    | 189 => 27
    | 125 => 47
    | 257 => 46
    | 128 => 78
    | 129 => 79
    | 294 => 69
    | 295 => 70
    | 296 => 71
    | 297 => 72
    | 298 => 73
    | 299 => 74
    | 216 => 75
    | 300 => 76
    | 301 => 77
    | 328 => 90
    | 329 => 91
    | 330 => 92
    | 331 => 93
    | 332 => 94
    | 215 => 95
    | 343 => 102
    | n => n,
  t := fun x =>
    match x with
    | 28 => 35
    | 3 => 3
    | 46 => 100
    | 0 => 0
    | 51 => 73
    | 53 => 89
    | 4 => 4
    | 183 => 126
    | 182 => 125
    | 131 => 131
    | 5 => 5
    | 9 => 9
    | 218 => 144
    | 222 => 148
    | 228 => 156
    | 229 => 33
    | n => n,
  g := fun x =>
    have n := x;
    n }

theorem Tryz.lays189 : Go.Proofs.Lays.n189 Go.Proofs.Tryz.prog Go.Proofs.Tryz.lays189_ren :=
{ mixed := by kernel_rfl,
  f125 := Eq.trans Go.Proofs.Tryz.func47 (congrArg some (by kernel_rfl)),
  f128 := Eq.trans Go.Proofs.Tryz.func78 (congrArg some (by kernel_rfl)),
  f129 := Eq.trans Go.Proofs.Tryz.func79 (congrArg some (by kernel_rfl)),
  f189 := Eq.trans Go.Proofs.Tryz.func27 (congrArg some (by kernel_rfl)),
  f215 := Eq.trans Go.Proofs.Tryz.func95 (congrArg some (by kernel_rfl)),
  f216 := Eq.trans Go.Proofs.Tryz.func75 (congrArg some (by kernel_rfl)),
  f257 := Eq.trans Go.Proofs.Tryz.func46 (congrArg some (by kernel_rfl)),
  f294 := Eq.trans Go.Proofs.Tryz.func69 (congrArg some (by kernel_rfl)),
  f295 := Eq.trans Go.Proofs.Tryz.func70 (congrArg some (by kernel_rfl)),
  f296 := Eq.trans Go.Proofs.Tryz.func71 (congrArg some (by kernel_rfl)),
  f297 := Eq.trans Go.Proofs.Tryz.func72 (congrArg some (by kernel_rfl)),
  f298 := Eq.trans Go.Proofs.Tryz.func73 (congrArg some (by kernel_rfl)),
  f299 := Eq.trans Go.Proofs.Tryz.func74 (congrArg some (by kernel_rfl)),
  f300 := Eq.trans Go.Proofs.Tryz.func76 (congrArg some (by kernel_rfl)),
  f301 := Eq.trans Go.Proofs.Tryz.func77 (congrArg some (by kernel_rfl)),
  f328 := Eq.trans Go.Proofs.Tryz.func90 (congrArg some (by kernel_rfl)),
  f329 := Eq.trans Go.Proofs.Tryz.func91 (congrArg some (by kernel_rfl)),
  f330 := Eq.trans Go.Proofs.Tryz.func92 (congrArg some (by kernel_rfl)),
  f331 := Eq.trans Go.Proofs.Tryz.func93 (congrArg some (by kernel_rfl)),
  f332 := Eq.trans Go.Proofs.Tryz.func94 (congrArg some (by kernel_rfl)),
  f343 := Eq.trans Go.Proofs.Tryz.func102 (congrArg some (by kernel_rfl)),
  t0 := Go.Proofs.Tryz.underlying0, a0 := Go.Proofs.Tryz.isAgg0, z0 := Go.Proofs.Tryz.sizeOf0,
  v0 := Go.Proofs.Tryz.zeroValue0, t3 := Go.Proofs.Tryz.underlying3, a3 := Go.Proofs.Tryz.isAgg3,
  z3 := Go.Proofs.Tryz.sizeOf3, v3 := Go.Proofs.Tryz.zeroValue3, t4 := Go.Proofs.Tryz.underlying4,
  a4 := Go.Proofs.Tryz.isAgg4, z4 := Go.Proofs.Tryz.sizeOf4, v4 := Go.Proofs.Tryz.zeroValue4,
  t5 := Go.Proofs.Tryz.underlying5, a5 := Go.Proofs.Tryz.isAgg5, z5 := Go.Proofs.Tryz.sizeOf5,
  v5 := Go.Proofs.Tryz.zeroValue5, t9 := Go.Proofs.Tryz.underlying9, a9 := Go.Proofs.Tryz.isAgg9,
  z9 := Go.Proofs.Tryz.sizeOf9, v9 := Go.Proofs.Tryz.zeroValue9, t28 := Go.Proofs.Tryz.underlying35,
  a28 := Go.Proofs.Tryz.isAgg35, z28 := Go.Proofs.Tryz.sizeOf35, v28 := Go.Proofs.Tryz.zeroValue35,
  t46 := Go.Proofs.Tryz.underlying100, a46 := Go.Proofs.Tryz.isAgg100, z46 := Go.Proofs.Tryz.sizeOf100,
  v46 := Go.Proofs.Tryz.zeroValue100, t51 := Go.Proofs.Tryz.underlying73, a51 := Go.Proofs.Tryz.isAgg73,
  z51 := Go.Proofs.Tryz.sizeOf73, v51 := Go.Proofs.Tryz.zeroValue73, t53 := Go.Proofs.Tryz.underlying89,
  a53 := Go.Proofs.Tryz.isAgg89, z53 := Go.Proofs.Tryz.sizeOf89, v53 := Go.Proofs.Tryz.zeroValue89,
  t131 := Go.Proofs.Tryz.underlying131, a131 := Go.Proofs.Tryz.isAgg131, z131 := Go.Proofs.Tryz.sizeOf131,
  v131 := Go.Proofs.Tryz.zeroValue131, t182 := Go.Proofs.Tryz.underlying125, a182 := Go.Proofs.Tryz.isAgg125,
  z182 := Go.Proofs.Tryz.sizeOf125, v182 := Go.Proofs.Tryz.zeroValue125, t183 := Go.Proofs.Tryz.underlying126,
  a183 := Go.Proofs.Tryz.isAgg126, z183 := Go.Proofs.Tryz.sizeOf126, v183 := Go.Proofs.Tryz.zeroValue126,
  t218 := Go.Proofs.Tryz.underlying144, a218 := Go.Proofs.Tryz.isAgg144, z218 := Go.Proofs.Tryz.sizeOf144,
  v218 := Go.Proofs.Tryz.zeroValue144, t222 := Go.Proofs.Tryz.underlying148, a222 := Go.Proofs.Tryz.isAgg148,
  z222 := Go.Proofs.Tryz.sizeOf148, v222 := Go.Proofs.Tryz.zeroValue148, t228 := Go.Proofs.Tryz.underlying156,
  a228 := Go.Proofs.Tryz.isAgg156, z228 := Go.Proofs.Tryz.sizeOf156, v228 := Go.Proofs.Tryz.zeroValue156,
  t229 := Go.Proofs.Tryz.underlying33, a229 := Go.Proofs.Tryz.isAgg33, z229 := Go.Proofs.Tryz.sizeOf33,
  v229 := Go.Proofs.Tryz.zeroValue33 }

open Go.Sort Go.RowKit in
theorem Tryz.slices_Sort_int (blk off cap : Nat) (zs : List Int) (w : World) (hH : Holds (Value.int .i64) w blk off zs.toArray) (hblk : blk < w.heap.size) (hsz : zs.length < 4611686018427387904) :
    Calls Tryz.prog 27 #[.slice (some ⟨blk, off, none⟩) zs.length cap] w fun e w' =>
      e = .returned (.tuple #[]) ∧ ∃ n os, w' = grow (putRow (Value.int .i64) (Sort.ahead w n) blk off (zs.mergeSort fun x y => decide (x ≤ y)).toArray) os := Any.slices_Sort_int Tryz.lays189 blk off cap zs w hH hblk hsz
end Go.Proofs
