/- The library's contracts of slices.Sort, slices.Compact and bits.Len, laid at this program. -/
import Derived.Shelf.Lay
import Derived.Shelf.Sort.Plain
import Derived.Shelf.Small.Bits
import Derived.Ground.Names2Prog
import Derived.Shelf.Slices.CompactI
import Derived.Test.YtmnbljfbdiodbaaGreatProg
namespace Go.Proofs
open Go.Shelf
def Tryz.lays125_ren : Go.Shelf.Ren :=
{
  f := fun x =>
    match x with
    | 125 => 86
    | 128 => 102
    | 129 => 103
    | n => n,
  t := fun x =>
    match x with
    | 46 => 138
    | 3 => 3
    | 51 => 73
    | 53 => 122
    | 4 => 4
    | 5 => 5
    | 9 => 9
    | n => n,
  g := fun x =>
    have n := x;
    n }

theorem Tryz.lays125 : Go.Proofs.Lays.n125 Go.Proofs.Tryz.prog Go.Proofs.Tryz.lays125_ren :=
{ mixed := by kernel_rfl,
  f125 := Eq.trans Go.Proofs.Tryz.func86 (congrArg some (by kernel_rfl)),
  f128 := Eq.trans Go.Proofs.Tryz.func102 (congrArg some (by kernel_rfl)),
  f129 := Eq.trans Go.Proofs.Tryz.func103 (congrArg some (by kernel_rfl)),
  t3 := Go.Proofs.Tryz.underlying3, a3 := Go.Proofs.Tryz.isAgg3, z3 := Go.Proofs.Tryz.sizeOf3,
  v3 := Go.Proofs.Tryz.zeroValue3, t4 := Go.Proofs.Tryz.underlying4, a4 := Go.Proofs.Tryz.isAgg4,
  z4 := Go.Proofs.Tryz.sizeOf4, v4 := Go.Proofs.Tryz.zeroValue4, t5 := Go.Proofs.Tryz.underlying5,
  a5 := Go.Proofs.Tryz.isAgg5, z5 := Go.Proofs.Tryz.sizeOf5, v5 := Go.Proofs.Tryz.zeroValue5,
  t9 := Go.Proofs.Tryz.underlying9, a9 := Go.Proofs.Tryz.isAgg9, z9 := Go.Proofs.Tryz.sizeOf9,
  v9 := Go.Proofs.Tryz.zeroValue9, t46 := Go.Proofs.Tryz.underlying138, a46 := Go.Proofs.Tryz.isAgg138,
  z46 := Go.Proofs.Tryz.sizeOf138, v46 := Go.Proofs.Tryz.zeroValue138, t51 := Go.Proofs.Tryz.underlying73,
  a51 := Go.Proofs.Tryz.isAgg73, z51 := Go.Proofs.Tryz.sizeOf73, v51 := Go.Proofs.Tryz.zeroValue73,
  t53 := Go.Proofs.Tryz.underlying122, a53 := Go.Proofs.Tryz.isAgg122, z53 := Go.Proofs.Tryz.sizeOf122,
  v53 := Go.Proofs.Tryz.zeroValue122 }

theorem Tryz.bits_Len (x : Int) (w : World) (h0 : 0 ≤ x) (h1 : x ≤ 18446744073709551615) :
    Calls Tryz.prog 86 #[.int .u64 x] w fun e w' => e = .returned (.int .i64 (Lib.bitLen x.toNat)) ∧ w' = w := Any.bits_Len Tryz.lays125 x w h0 h1
def Tryz.lays189_ren : Go.Shelf.Ren :=
{
  f := fun x =>
    match x with
    | 189 => 68
    | 125 => 86
    | 257 => 85
    | 128 => 102
    | 129 => 103
    | 294 => 93
    | 295 => 94
    | 296 => 95
    | 297 => 96
    | 298 => 97
    | 299 => 98
    | 216 => 99
    | 300 => 100
    | 301 => 101
    | 328 => 112
    | 329 => 113
    | 330 => 114
    | 331 => 115
    | 332 => 116
    | 215 => 117
    | 343 => 123
    | n => n,
  t := fun x =>
    match x with
    | 28 => 36
    | 3 => 3
    | 46 => 138
    | 0 => 0
    | 51 => 73
    | 53 => 122
    | 4 => 4
    | 183 => 148
    | 182 => 147
    | 131 => 152
    | 5 => 5
    | 9 => 9
    | 218 => 162
    | 222 => 166
    | 228 => 171
    | 229 => 172
    | n => n,
  g := fun x =>
    have n := x;
    n }

theorem Tryz.lays189 : Go.Proofs.Lays.n189 Go.Proofs.Tryz.prog Go.Proofs.Tryz.lays189_ren :=
{ mixed := by kernel_rfl,
  f125 := Eq.trans Go.Proofs.Tryz.func86 (congrArg some (by kernel_rfl)),
  f128 := Eq.trans Go.Proofs.Tryz.func102 (congrArg some (by kernel_rfl)),
  f129 := Eq.trans Go.Proofs.Tryz.func103 (congrArg some (by kernel_rfl)),
  f189 := Eq.trans Go.Proofs.Tryz.func68 (congrArg some (by kernel_rfl)),
  f215 := Eq.trans Go.Proofs.Tryz.func117 (congrArg some (by kernel_rfl)),
  f216 := Eq.trans Go.Proofs.Tryz.func99 (congrArg some (by kernel_rfl)),
  f257 := Eq.trans Go.Proofs.Tryz.func85 (congrArg some (by kernel_rfl)),
  f294 := Eq.trans Go.Proofs.Tryz.func93 (congrArg some (by kernel_rfl)),
  f295 := Eq.trans Go.Proofs.Tryz.func94 (congrArg some (by kernel_rfl)),
  f296 := Eq.trans Go.Proofs.Tryz.func95 (congrArg some (by kernel_rfl)),
  f297 := Eq.trans Go.Proofs.Tryz.func96 (congrArg some (by kernel_rfl)),
  f298 := Eq.trans Go.Proofs.Tryz.func97 (congrArg some (by kernel_rfl)),
  f299 := Eq.trans Go.Proofs.Tryz.func98 (congrArg some (by kernel_rfl)),
  f300 := Eq.trans Go.Proofs.Tryz.func100 (congrArg some (by kernel_rfl)),
  f301 := Eq.trans Go.Proofs.Tryz.func101 (congrArg some (by kernel_rfl)),
  f328 := Eq.trans Go.Proofs.Tryz.func112 (congrArg some (by kernel_rfl)),
  f329 := Eq.trans Go.Proofs.Tryz.func113 (congrArg some (by kernel_rfl)),
  f330 := Eq.trans Go.Proofs.Tryz.func114 (congrArg some (by kernel_rfl)),
  f331 := Eq.trans Go.Proofs.Tryz.func115 (congrArg some (by kernel_rfl)),
  f332 := Eq.trans Go.Proofs.Tryz.func116 (congrArg some (by kernel_rfl)),
  f343 := Eq.trans Go.Proofs.Tryz.func123 (congrArg some (by kernel_rfl)),
  t0 := Go.Proofs.Tryz.underlying0, a0 := Go.Proofs.Tryz.isAgg0, z0 := Go.Proofs.Tryz.sizeOf0,
  v0 := Go.Proofs.Tryz.zeroValue0, t3 := Go.Proofs.Tryz.underlying3, a3 := Go.Proofs.Tryz.isAgg3,
  z3 := Go.Proofs.Tryz.sizeOf3, v3 := Go.Proofs.Tryz.zeroValue3, t4 := Go.Proofs.Tryz.underlying4,
  a4 := Go.Proofs.Tryz.isAgg4, z4 := Go.Proofs.Tryz.sizeOf4, v4 := Go.Proofs.Tryz.zeroValue4,
  t5 := Go.Proofs.Tryz.underlying5, a5 := Go.Proofs.Tryz.isAgg5, z5 := Go.Proofs.Tryz.sizeOf5,
  v5 := Go.Proofs.Tryz.zeroValue5, t9 := Go.Proofs.Tryz.underlying9, a9 := Go.Proofs.Tryz.isAgg9,
  z9 := Go.Proofs.Tryz.sizeOf9, v9 := Go.Proofs.Tryz.zeroValue9, t28 := Go.Proofs.Tryz.underlying36,
  a28 := Go.Proofs.Tryz.isAgg36, z28 := Go.Proofs.Tryz.sizeOf36, v28 := Go.Proofs.Tryz.zeroValue36,
  t46 := Go.Proofs.Tryz.underlying138, a46 := Go.Proofs.Tryz.isAgg138, z46 := Go.Proofs.Tryz.sizeOf138,
  v46 := Go.Proofs.Tryz.zeroValue138, t51 := Go.Proofs.Tryz.underlying73, a51 := Go.Proofs.Tryz.isAgg73,
  z51 := Go.Proofs.Tryz.sizeOf73, v51 := Go.Proofs.Tryz.zeroValue73, t53 := Go.Proofs.Tryz.underlying122,
  a53 := Go.Proofs.Tryz.isAgg122, z53 := Go.Proofs.Tryz.sizeOf122, v53 := Go.Proofs.Tryz.zeroValue122,
  t131 := Go.Proofs.Tryz.underlying152, a131 := Go.Proofs.Tryz.isAgg152, z131 := Go.Proofs.Tryz.sizeOf152,
  v131 := Go.Proofs.Tryz.zeroValue152, t182 := Go.Proofs.Tryz.underlying147, a182 := Go.Proofs.Tryz.isAgg147,
  z182 := Go.Proofs.Tryz.sizeOf147, v182 := Go.Proofs.Tryz.zeroValue147, t183 := Go.Proofs.Tryz.underlying148,
  a183 := Go.Proofs.Tryz.isAgg148, z183 := Go.Proofs.Tryz.sizeOf148, v183 := Go.Proofs.Tryz.zeroValue148,
  t218 := Go.Proofs.Tryz.underlying162, a218 := Go.Proofs.Tryz.isAgg162, z218 := Go.Proofs.Tryz.sizeOf162,
  v218 := Go.Proofs.Tryz.zeroValue162, t222 := Go.Proofs.Tryz.underlying166, a222 := Go.Proofs.Tryz.isAgg166,
  z222 := Go.Proofs.Tryz.sizeOf166, v222 := Go.Proofs.Tryz.zeroValue166, t228 := Go.Proofs.Tryz.underlying171,
  a228 := Go.Proofs.Tryz.isAgg171, z228 := Go.Proofs.Tryz.sizeOf171, v228 := Go.Proofs.Tryz.zeroValue171,
  t229 := Go.Proofs.Tryz.underlying172, a229 := Go.Proofs.Tryz.isAgg172, z229 := Go.Proofs.Tryz.sizeOf172,
  v229 := Go.Proofs.Tryz.zeroValue172 }

open Go.Sort Go.RowKit in
theorem Tryz.slices_Sort_int (blk off cap : Nat) (zs : List Int) (w : World) (hH : Holds (Value.int .i64) w blk off zs.toArray) (hblk : blk < w.heap.size) (hsz : zs.length < 4611686018427387904) :
    Calls Tryz.prog 68 #[.slice (some ⟨blk, off, none⟩) zs.length cap] w fun e w' =>
      e = .returned (.tuple #[]) ∧ ∃ n os, w' = grow (putRow (Value.int .i64) (Sort.ahead w n) blk off (zs.mergeSort fun x y => decide (x ≤ y)).toArray) os := Any.slices_Sort_int Tryz.lays189 blk off cap zs w hH hblk hsz
def Tryz.laysNm220_ren : Go.Shelf.Ren :=
{
  f := fun x =>
    match x with
    | 20 => 71
    | n => n,
  t := fun x =>
    match x with
    | 22 => 36
    | 3 => 3
    | 4 => 4
    | 0 => 0
    | n => n,
  g := fun x =>
    have n := x;
    n }

theorem Tryz.laysNm220 : Go.Proofs.Lays2.n20 Go.Proofs.Tryz.prog Go.Proofs.Tryz.laysNm220_ren :=
{ mixed := by kernel_rfl,
  f20 := Eq.trans Go.Proofs.Tryz.func71 (congrArg some (by kernel_rfl)),
  t0 := Go.Proofs.Tryz.underlying0, a0 := Go.Proofs.Tryz.isAgg0, z0 := Go.Proofs.Tryz.sizeOf0,
  v0 := Go.Proofs.Tryz.zeroValue0, t3 := Go.Proofs.Tryz.underlying3, a3 := Go.Proofs.Tryz.isAgg3,
  z3 := Go.Proofs.Tryz.sizeOf3, v3 := Go.Proofs.Tryz.zeroValue3, t4 := Go.Proofs.Tryz.underlying4,
  a4 := Go.Proofs.Tryz.isAgg4, z4 := Go.Proofs.Tryz.sizeOf4, v4 := Go.Proofs.Tryz.zeroValue4,
  t22 := Go.Proofs.Tryz.underlying36, a22 := Go.Proofs.Tryz.isAgg36, z22 := Go.Proofs.Tryz.sizeOf36,
  v22 := Go.Proofs.Tryz.zeroValue36, i3 := by kernel_rfl }

open Go.RowKit Go.Lib Go.Sort in
theorem Tryz.slices_Compact_int (blk off cap : Nat) (zs : List Int) (w : World) (hH : Holds (Value.int .i64) w blk off zs.toArray) (hsz : zs.length ≤ 9223372036854775807) (hcap : zs.length ≤ cap) :
    Calls Tryz.prog 71 #[.slice (some ⟨blk, off, none⟩) zs.length cap] w fun e w' => e = .returned (.slice (some ⟨blk, off, none⟩) (Lib.compact zs).length cap) ∧ ∃ q, w' = putRow (Value.int .i64) (Sort.ahead w q) blk off (Lib.compact zs ++ List.replicate (zs.length - (Lib.compact zs).length) 0).toArray := Any.slices_Compact_int Tryz.laysNm220 blk off cap zs w hH hsz hcap
end Go.Proofs
